/- Facts on the value that bytes begin with, in the program and in the reference. No condition beyond those that each theorem names. -/
import Derived.Test.YtccpbacnfhbdlaaDoorPureVal2
import Derived.Test.YtccpbacnfhbdlaaDoorVax8
namespace Go.Proofs.YtccpbacnfhbdlaaDoor.PureVal
open Go.RowKit Go.Proofs.YtccpbacnfhbdlaaDoorW.PrintWords Go.Proofs.YtccpbacnfhbdlaaDoorW.PrintLast Go.Proofs.YtccpbacnfhbdlaaDoorW.PrintMore
open Go.Proofs.YtccpbacnfhbdlaaDoor.Va
set_option linter.unusedVariables false
set_option linter.unusedSimpArgs false
/-- a text of bytes -/
def TX (l : List UInt8) : ByteArray := ⟨l.toArray⟩
theorem TX_eta (s : ByteArray) : TX s.data.toList = s := rfl
theorem TX_data (l : List UInt8) : (TX l).data.toList = l := by simp [TX]
theorem TX_toList (l : List UInt8) : (TX l).toList = l := by rw [toList_data, TX_data]
theorem TX_size (l : List UInt8) : (TX l).size = l.length := by simp [TX, ByteArray.size]
theorem TX_extract (l : List UInt8) (i j : Nat) : (TX l).extract i j = TX ((l.take j).drop i) := by
  have : ((TX l).extract i j).data.toList = (l.take j).drop i := by
    rw [ByteArray.data_extract, Array.toList_extract, TX_data, List.extract_eq_take_drop, List.drop_take]
  rw [← TX_eta ((TX l).extract i j), this]
theorem TX_bt (l : List UInt8) (i : Nat) (h : i < l.length) : bt (TX l) (i : Int) = ((l[i]).toNat : Int) := by
  have h2 : i < (TX l).size := by rw [TX_size]; exact h
  have := bt_at (TX l) (i : Int) (by simpa using h2)
  rw [← this]
  simp [TX]
  rfl
/-- digits put together -/
def val (n : Nat) (l : List UInt8) : Nat := l.foldl (fun n b => n * 256 + b.toNat) n
theorem val_cons (n : Nat) (b : UInt8) (l : List UInt8) : val n (b :: l) = val (n * 256 + b.toNat) l := rfl
theorem val_snoc (n : Nat) (l : List UInt8) (b : UInt8) : val n (l ++ [b]) = val n l * 256 + b.toNat := by simp [val]
theorem val_lt : ∀ (l : List UInt8) (n m : Nat), n < 256 ^ m → val n l < 256 ^ (m + l.length)
  | [], n, m, h => by simpa [val] using h
  | b :: l, n, m, h => by
    rw [val_cons, List.length_cons, show m + (l.length + 1) = (m + 1) + l.length from by omega]
    refine val_lt l _ (m + 1) ?_
    have := b.toNat_lt
    rw [Nat.pow_succ]
    omega
theorem val0_lt (l : List UInt8) : val 0 l < 256 ^ l.length := by simpa using val_lt l 0 0 (by simp)
theorem val_shift : ∀ (l : List UInt8) (n : Nat), val n l = n * 256 ^ l.length + val 0 l
  | [], n => by simp [val]
  | b :: l, n => by
    rw [val_cons, val_cons, val_shift l (n * 256 + b.toNat), val_shift l (0 * 256 + b.toNat), List.length_cons, Nat.pow_succ, Nat.add_mul, Nat.add_mul]
    have : n * 256 * 256 ^ l.length = n * (256 ^ l.length * 256) := by rw [Nat.mul_assoc, Nat.mul_comm 256]
    omega
theorem be_val : ∀ l : List UInt8, (be l.length (val 0 l)).map BB = l
  | [] => rfl
  | b :: l => by
    have hl := val0_lt l
    have hs := val_shift l b.toNat
    have hb := b.toNat_lt
    have e : val 0 (b :: l) = b.toNat * 256 ^ l.length + val 0 l := by rw [val_cons]; simpa using hs
    have hp : 0 < 256 ^ l.length := Nat.pow_pos (by decide)
    have e1 : val 0 (b :: l) / 256 ^ l.length % 256 = b.toNat := by
      rw [e, Nat.mul_comm, Nat.mul_add_div hp, Nat.div_eq_of_lt hl, Nat.add_zero, Nat.mod_eq_of_lt hb]
    have e2 : ∀ n u v : Nat, u % 256 ^ n = v % 256 ^ n → be n u = be n v := by
      intro n
      induction n with
      | zero => intro u v _; rfl
      | succ n ih =>
        intro u v h
        have a1 : u % 256 ^ n = v % 256 ^ n := by
          have d : 256 ^ n ∣ 256 ^ (n + 1) := ⟨256, Nat.pow_succ ..⟩
          rw [← Nat.mod_mod_of_dvd u d, h, Nat.mod_mod_of_dvd v d]
        have a2 : u / 256 ^ n % 256 = v / 256 ^ n % 256 := by
          have q := Nat.mod_pow_succ (b := 256) (k := n) (x := u)
          have q' := Nat.mod_pow_succ (b := 256) (k := n) (x := v)
          have hp : 0 < 256 ^ n := Nat.pow_pos (by decide)
          rw [h] at q
          have : 256 ^ n * (u / 256 ^ n % 256) = 256 ^ n * (v / 256 ^ n % 256) := by omega
          exact Nat.eq_of_mul_eq_mul_left hp this
        simp only [be, a2, ih u v a1]
    have e3 : be l.length (val 0 (b :: l)) = be l.length (val 0 l) := e2 _ _ _ (by rw [e, Nat.mul_comm, Nat.mul_add_mod])
    simp only [List.length_cons, be, List.map_cons, e1, e3, be_val l]
    congr 1
    simp [BB]
theorem val_be : ∀ (n u : Nat), val 0 ((be n u).map BB) = u % 256 ^ n
  | 0, u => by simp [be, val, Nat.mod_one]
  | n + 1, u => by
    simp only [be, List.map_cons]
    rw [val_cons, val_shift, val_be n u, List.length_map, be_length]
    have : (BB ((u / 256 ^ n % 256 : Nat) : Int)).toNat = u / 256 ^ n % 256 := by
      unfold BB
      rw [Int.toNat_natCast]
      exact UInt8.toNat_ofNat_of_lt' (Nat.mod_lt _ (by decide))
    rw [this, Nat.mod_pow_succ, Nat.zero_mul, Nat.zero_add, Nat.mul_comm, Nat.add_comm]
/-- a value as bytes -/
def encI (v : S23) : List Int := if v.f0 = 0 then [0] else if v.f0 = 1 then 1 :: be 8 (v.f1 + 9223372036854775808).toNat else if v.f0 = 2 then [2] ++ [(v.f2.size : Int) % 256] ++ bytesOf v.f2 else [3] ++ [v.f1 % 256]
def encL (v : S23) : List UInt8 := (encI v).map BB
theorem BB_bytesOf (s : ByteArray) : (bytesOf s).map BB = s.data.toList := by
  unfold bytesOf
  rw [List.map_map]
  conv => rhs; rw [← List.map_id s.data.toList]
  apply List.map_congr_left
  intro b _
  simp [BB]
/-- a value that may be, of a number of 64 bits -/
structure Valid (v : S23) : Prop where
  may : quaysideref05_May.f v.f0 v.f1 v.f2 = some true
  lo : -9223372036854775808 ≤ v.f1
  hi : v.f1 ≤ 9223372036854775807
theorem bytes_enc {v : S23} (h : Valid v) (d : Nat) : value_bytes.f (20 + d) v.f0 v.f1 v.f2 = some (strOfNums (encI v)) ∧ quaysideref05_bytes.f (20 + d) v.f0 v.f1 v.f2 = some (strOfNums (encI v)) := by
  obtain ⟨a0, a1, a2⟩ := v
  obtain ⟨hm, h0, h1⟩ := h
  simp only at hm h0 h1 ⊢
  unfold value_bytes.f quaysideref05_bytes.f encI
  simp only [Option.bind_some, and255]
  rcases may_true hm with ⟨rfl, rfl, hs⟩ | ⟨rfl, hs⟩ | ⟨rfl, rfl, hs⟩ | ⟨rfl, hn, hs⟩
  · exact ⟨by simp, by simp⟩
  · refine ⟨?_, ?_⟩
    · rw [if_pos rfl, xor_top a1 h0 h1]
      have := vbytes_l0 (a1 + 9223372036854775808).toNat 8 (11 + d) [1] (by omega) (by simp)
      rw [show 8 + 1 + (11 + d) = 20 + d from by omega, Int.toNat_of_nonneg (by omega)] at this
      exact this
    · rw [if_pos rfl]
      have := rbytes_l0 a1 h0 h1 1 a2 8 (11 + d) [1] (by omega) (by simp)
      rw [show 8 + 1 + (11 + d) = 20 + d from by omega] at this
      exact this
  · refine ⟨?_, ?_⟩
    · rw [if_neg (by decide), if_pos rfl, if_pos (by simp), if_pos (by simp; omega)]
      rfl
    · rw [if_neg (by decide), if_pos rfl, if_pos (by simp), if_pos (by simp; omega)]
      simp
  · refine ⟨?_, ?_⟩
    · rw [if_neg (by decide), if_neg (by decide), if_pos rfl, if_pos (by simp)]
      rfl
    · rw [if_neg (by decide), if_neg (by decide), if_pos rfl, if_pos (by simp)]
      simp
theorem enc_size {v : S23} (h : Valid v) : (encI v).length ≤ 66 := by
  obtain ⟨a0, a1, a2⟩ := v
  unfold encI
  rcases may_true h.may with ⟨h0, _, _⟩ | ⟨h0, _⟩ | ⟨h0, _, hs⟩ | ⟨h0, _, _⟩ <;> simp only at h0 <;> subst h0 <;> simp [be_length, bytesOf_length]
  simp only at hs
  omega
/-! ### What bytes begin with -/
theorem or_u64 (n b : Nat) (hn : n < 72057594037927936) (hb : b < 256) : Go.bits .or .u64 (IntKind.u64.wrap ((n : Int) * 256)) (IntKind.u64.wrap (b : Int)) = ((n * 256 + b : Nat) : Int) := by
  have e : Go.bits .or .u64 (IntKind.u64.wrap ((n : Int) * 256)) (IntKind.u64.wrap (b : Int)) = IntKind.u64.wrap (((BitVec.ofInt 64 (IntKind.u64.wrap ((n : Int) * 256))) ||| (BitVec.ofInt 64 (IntKind.u64.wrap (b : Int)))).toNat : Int) := rfl
  rw [e, BitVec.toNat_or, ofInt_nat, ofInt_nat, wrapu, wrapu, wrapu]
  have e1 : (((n : Int) * 256 % 18446744073709551616) % 18446744073709551616).toNat = 2 ^ 8 * n := by omega
  have e2 : (((b : Int) % 18446744073709551616) % 18446744073709551616).toNat = b := by omega
  rw [e1, e2, ← Nat.two_pow_add_eq_or_of_lt (by omega)]
  omega
theorem num8_eq (t : List UInt8) (ht : 8 ≤ t.length) : ∀ j, j ≤ 8 → num8 (TX t) j = (val 0 (t.take j) : Nat)
  | 0, _ => by simp [num8, val]
  | j + 1, h => by
    have hj : j < t.length := by omega
    have hl : val 0 (t.take j) < 256 ^ 7 := by
      have := val0_lt (t.take j)
      refine Nat.lt_of_lt_of_le this (Nat.pow_le_pow_right (by decide) ?_)
      simp; omega
    rw [num8, num8_eq t ht j (by omega), TX_bt t j hj, or_u64 _ _ (by simpa using hl) (t[j]).toNat_lt, List.take_succ_eq_append_getElem hj, val_snoc]
theorem top_eq (V : Nat) (h : V < 18446744073709551616) : wrap64 (Go.bits .xor .u64 (V : Int) 9223372036854775808) = (V : Int) - 9223372036854775808 := by
  have e : Go.bits .xor .u64 (V : Int) 9223372036854775808 = IntKind.u64.wrap (((BitVec.ofInt 64 (V : Int)) ^^^ (BitVec.ofInt 64 9223372036854775808)).toNat : Int) := rfl
  rw [e, BitVec.toNat_xor, ofInt_nat, ofInt_nat, wrapu]
  rw [show ((9223372036854775808 : Int) % 18446744073709551616).toNat = 9223372036854775808 from by decide, show ((V : Int) % 18446744073709551616).toNat = V from by omega, xor_nat V h]
  unfold wrap64
  omega
theorem or_i64 (x : Int) (b : Nat) (h0 : -36028797018963968 ≤ x) (h1 : x < 36028797018963968) (hb : b < 256) : Go.bits .or .i64 (wrap64 (x * 256)) (wrap64 (b : Int)) = x * 256 + b := by
  rw [Aid.or64, wrap64_id (x := x * 256) (by omega) (by omega), wrap64_id (x := (b : Int)) (by omega) (by omega)]
  have e1 : ((x * 256) % 18446744073709551616).toNat = 2 ^ 8 * (x % 72057594037927936).toNat := by omega
  have e2 : ((b : Int) % 18446744073709551616).toNat = b := by omega
  rw [e1, e2, ← Nat.two_pow_add_eq_or_of_lt (by omega)]
  unfold wrap64
  omega
def dnum (l : List UInt8) : Int := (val 0 l : Int) - 9223372036854775808
/-- what bytes begin with, and what stands behind -/
def dec1 (t : List UInt8) : Option (S23 × List UInt8) := if t.length < 8 then none else some (⟨1, dnum (t.take 8), ⟨#[]⟩⟩, t.drop 8)
def dec2 : List UInt8 → Option (S23 × List UInt8)
  | [] => none
  | m :: t => if t.length < m.toNat then none else if 64 < m.toNat then none else some (⟨2, 0, TX (t.take m.toNat)⟩, t.drop m.toNat)
def dec3 : List UInt8 → Option (S23 × List UInt8)
  | [] => none
  | m :: t => if m.toNat ≤ 1 then some (⟨3, (m.toNat : Int), ⟨#[]⟩⟩, t) else none
theorem dec2_cons (m : UInt8) (t : List UInt8) : dec2 (m :: t) = if t.length < m.toNat then none else if 64 < m.toNat then none else some (⟨2, 0, TX (t.take m.toNat)⟩, t.drop m.toNat) := rfl
theorem dec3_cons (m : UInt8) (t : List UInt8) : dec3 (m :: t) = if m.toNat ≤ 1 then some (⟨3, (m.toNat : Int), ⟨#[]⟩⟩, t) else none := rfl
def decC (b : UInt8) (t : List UInt8) : Option (S23 × List UInt8) := if b = 0 then some (⟨0, 0, ⟨#[]⟩⟩, t) else if b = 1 then dec1 t else if b = 2 then dec2 t else if b = 3 then dec3 t else none
def dec : List UInt8 → Option (S23 × List UInt8)
  | [] => none
  | b :: t => decC b t
abbrev VOne (o : Option (S23 × List UInt8)) (x : Option (Int × Int × ByteArray × ByteArray × Bool)) : Prop := match o with
  | some (v, rest) => x = some (v.f0, v.f1, v.f2, TX rest, true)
  | none => ∃ a b c r, x = some (a, b, c, r, false)
theorem TX_cons_toList (b : UInt8) (t : List UInt8) : ¬ (TX (b :: t)).toList = ([] : List UInt8) := by rw [TX_toList]; simp
theorem TX_nil : (⟨#[]⟩ : ByteArray) = TX [] := rfl
theorem bt0 (b : UInt8) (t : List UInt8) : bt (TX (b :: t)) 0 = (b.toNat : Int) := TX_bt (b :: t) 0 (by simp)
theorem bt1 (b m : UInt8) (t : List UInt8) : bt (TX (b :: m :: t)) 1 = (m.toNat : Int) := TX_bt (b :: m :: t) 1 (by simp)
theorem u8_eq (b : UInt8) (n : Nat) (h : n < 256) : b = UInt8.ofNat n ↔ (b.toNat : Int) = (n : Int) := by
  rw [← UInt8.toNat_inj, UInt8.toNat_ofNat_of_lt' h]
  omega
/-- The program's 'one' tells what 'dec' tells. -/
theorem vone_dec (l : List UInt8) : VOne (dec l) (value_one.f (TX l)) := by
  cases l with
  | nil => exact ⟨0, 0, _, _, by unfold value_one.f; rw [if_pos (TX_toList [])]⟩
  | cons b t =>
    have hb := b.toNat_lt
    unfold value_one.f
    rw [if_neg (TX_cons_toList b t), bt0, TX_extract]
    have hx : ((b :: t).take (TX (b :: t)).size).drop 1 = t := by rw [TX_size]; simp
    rw [hx, TX_size]
    simp only [List.length_cons]
    have hd : dec (b :: t) = decC b t := rfl
    rw [hd]
    clear hd
    unfold decC
    by_cases k0 : b = 0
    · subst k0
      rw [if_pos (rfl : (0 : UInt8) = 0), if_pos (show ((0 : UInt8).toNat : Int) = 0 from rfl)]
    have n0 : ¬ (b.toNat : Int) = 0 := fun h => k0 ((u8_eq b 0 (by decide)).2 h)
    rw [if_neg k0, if_neg n0]
    by_cases k1 : b = 1
    · subst k1
      rw [if_pos (rfl : (1 : UInt8) = 1), if_pos (show ((1 : UInt8).toNat : Int) = 1 from rfl)]
      unfold dec1
      by_cases c : t.length < 8
      · rw [if_pos c, if_pos (by omega)]
        exact ⟨_, _, _, _, rfl⟩
      · rw [if_neg c, if_neg (by omega)]
        have hV := val0_lt (t.take 8)
        have hl : (t.take 8).length = 8 := by simp; omega
        rw [hl] at hV
        rw [num8_eq t (by omega) 8 (by omega), top_eq _ (by simpa using hV)]
        have hc : value_Check.f 1 ((val 0 (t.take 8) : Int) - 9223372036854775808) ⟨#[]⟩ = some 0 := by
          unfold value_Check.f
          rw [if_neg (by decide), if_pos rfl, if_pos empty_toList]
        rw [hc, Option.bind_some, TX_extract, TX_size]
        simp [dnum]
    have n1 : ¬ (b.toNat : Int) = 1 := fun h => k1 ((u8_eq b 1 (by decide)).2 h)
    rw [if_neg k1, if_neg n1]
    by_cases k2 : b = 2
    · subst k2
      rw [if_pos (rfl : (2 : UInt8) = 2), if_pos (show ((2 : UInt8).toNat : Int) = 2 from rfl)]
      cases t with
      | nil => rw [if_pos (by simp)]; exact ⟨_, _, _, _, rfl⟩
      | cons m t2 =>
        have hm := m.toNat_lt
        rw [if_neg (by simp; omega), bt0]
        rw [dec2_cons]
        by_cases c : t2.length < m.toNat
        · rw [if_pos c, if_pos (by simp; omega)]
          exact ⟨_, _, _, _, rfl⟩
        · rw [if_neg c, if_neg (show ¬ ((((m :: t2).length + 1 : Nat) : Int) < 2 + (m.toNat : Int)) by simp; omega)]
          have e1 : (1 + (m.toNat : Int)).toNat = 1 + m.toNat := by omega
          rw [e1, TX_extract, TX_extract, TX_size]
          have e2 : ((m :: t2).take (1 + m.toNat)).drop 1 = t2.take m.toNat := by rw [Nat.add_comm]; simp
          have e3 : ((m :: t2).take (m :: t2).length).drop (1 + m.toNat) = t2.drop m.toNat := by rw [List.take_length, Nat.add_comm]; simp
          rw [e2, e3]
          have hsz : ((TX (t2.take m.toNat)).size : Int) = (m.toNat : Int) := by rw [TX_size]; simp; omega
          by_cases c2 : 64 < m.toNat
          · rw [if_pos c2]
            have hc : value_Check.f 2 0 (TX (t2.take m.toNat)) = some 1 := by
              unfold value_Check.f
              rw [if_neg (by decide), if_neg (by decide), if_pos rfl, if_pos rfl, if_neg (by omega)]
            rw [hc, Option.bind_some]
            exact ⟨_, _, _, _, rfl⟩
          · rw [if_neg c2]
            have hc : value_Check.f 2 0 (TX (t2.take m.toNat)) = some 0 := by
              unfold value_Check.f
              rw [if_neg (by decide), if_neg (by decide), if_pos rfl, if_pos rfl, if_pos (by omega)]
            rw [hc, Option.bind_some]
            rfl
    have n2 : ¬ (b.toNat : Int) = 2 := fun h => k2 ((u8_eq b 2 (by decide)).2 h)
    rw [if_neg k2, if_neg n2]
    by_cases k3 : b = 3
    · subst k3
      rw [if_pos (rfl : (3 : UInt8) = 3), if_pos (show ((3 : UInt8).toNat : Int) = 3 from rfl)]
      cases t with
      | nil => rw [if_pos (by simp)]; exact ⟨_, _, _, _, rfl⟩
      | cons m t2 =>
        have hm := m.toNat_lt
        rw [if_neg (by simp; omega), bt0, TX_extract, TX_size]
        have e3 : ((m :: t2).take (m :: t2).length).drop 1 = t2 := by simp
        rw [e3]
        rw [dec3_cons]
        by_cases c2 : m.toNat ≤ 1
        · rw [if_pos c2]
          have hc : value_Check.f 3 (m.toNat : Int) ⟨#[]⟩ = some 0 := by
            unfold value_Check.f
            rw [if_neg (by decide), if_neg (by decide), if_neg (by decide), if_pos rfl, and1, if_pos (by omega), if_pos empty_toList]
          rw [hc, Option.bind_some]
          rfl
        · rw [if_neg c2]
          have hc : value_Check.f 3 (m.toNat : Int) ⟨#[]⟩ = some 1 := by
            unfold value_Check.f
            rw [if_neg (by decide), if_neg (by decide), if_neg (by decide), if_pos rfl, and1, if_neg (by omega)]
          rw [hc, Option.bind_some]
          exact ⟨_, _, _, _, rfl⟩
    have n3 : ¬ (b.toNat : Int) = 3 := fun h => k3 ((u8_eq b 3 (by decide)).2 h)
    rw [if_neg k3, if_neg n3]
    exact ⟨_, _, _, _, rfl⟩
theorem rone_l0 (b : UInt8) (t : List UInt8) (ht : 8 ≤ t.length) (a : Int) (s : ByteArray) : ∀ (n d j : Nat), 1 ≤ j → j ≤ 8 → 8 - j ≤ n →
    quaysideref05_one.l0 (n + 1 + d) (TX (b :: t)) ((j : Int) + 1) a ((val 0 (t.take j) : Int) - 128 * ((256 ^ (j - 1) : Nat) : Int)) s = some (a, dnum (t.take 8), s, 9)
  | 0, d, j, h1, h2, h3 => by
    obtain rfl : j = 8 := by omega
    rw [show 0 + 1 + d = d + 1 from by omega, quaysideref05_one.l0, if_neg (by omega)]
    rfl
  | n + 1, d, j, h1, h2, h3 => by
    by_cases c : j < 8
    · have hj : j < t.length := by omega
      have hbt : bt (TX (b :: t)) ((j : Int) + 1) = ((t[j]).toNat : Int) := by
        have := TX_bt (b :: t) (j + 1) (by simp; omega)
        simpa using this
      have hv : val 0 (t.take j) < 256 ^ j := by
        have := val0_lt (t.take j)
        rwa [show (t.take j).length = j from by simp; omega] at this
      have hs : val 0 (t.take (j + 1)) = val 0 (t.take j) * 256 + (t[j]).toNat := by rw [List.take_succ_eq_append_getElem hj, val_snoc]
      have hp : 256 ^ j = 256 * 256 ^ (j - 1) := by
        obtain ⟨i, rfl⟩ : ∃ i, j = i + 1 := ⟨j - 1, by omega⟩
        simp [Nat.pow_succ, Nat.mul_comm]
      have hle : 256 ^ (j - 1) ≤ 256 ^ 6 := Nat.pow_le_pow_right (by decide) (by omega)
      have hb := (t[j]).toNat_lt
      have ih := rone_l0 b t ht a s n d (j + 1) (by omega) (by omega) (by omega)
      rw [show j + 1 - 1 = j from by omega, hs, hp] at ih
      rw [show n + 1 + 1 + d = (n + 1 + d) + 1 from by omega, quaysideref05_one.l0, if_pos (by omega), if_pos (by omega), if_pos (by rw [TX_size]; simp; omega), hbt]
      generalize 256 ^ (j - 1) = P at *
      rw [hp] at hv
      rw [or_i64 _ _ (by omega) (by omega) hb, wrap64_id (x := (j : Int) + 1 + 1) (by omega) (by omega)]
      rw [← ih]
      congr 1
      omega
    · rw [show n + 1 + 1 + d = 0 + 1 + (n + 1 + d) from by omega]
      exact rone_l0 b t ht a s 0 (n + 1 + d) j h1 h2 (by omega)
abbrev ROne (o : Option (S23 × List UInt8)) (l : List UInt8) (x : Option (Int × Int × ByteArray × Int)) : Prop := match o with
  | some (v, rest) => x = some (v.f0, v.f1, v.f2, (l.length : Int) - rest.length)
  | none => ∃ a b c, x = some (a, b, c, 0)
/-- The reference's 'one' tells what 'dec' tells. -/
theorem rone_dec (l : List UInt8) (hl : l.length ≤ 2000) (d : Nat) : ROne (dec l) l (quaysideref05_one.f (20 + d) (TX l)) := by
  cases l with
  | nil => exact ⟨0, 0, _, by unfold quaysideref05_one.f; rw [if_pos (TX_toList [])]⟩
  | cons b t =>
    have hb := b.toNat_lt
    have hw : wrap64 (b.toNat : Int) = (b.toNat : Int) := wrap64_id (by omega) (by omega)
    unfold quaysideref05_one.f
    rw [if_neg (TX_cons_toList b t), if_pos (by rw [TX_size]; simp), bt0, hw, TX_size]
    simp only [List.length_cons] at hl ⊢
    have hd : dec (b :: t) = decC b t := rfl
    rw [hd]
    clear hd
    unfold decC
    by_cases k0 : b = 0
    · subst k0
      rw [if_pos (rfl : (0 : UInt8) = 0), if_pos (show ((0 : UInt8).toNat : Int) = 0 from rfl)]
      show some _ = some _
      congr 1
      simp
      omega
    have n0 : ¬ (b.toNat : Int) = 0 := fun h => k0 ((u8_eq b 0 (by decide)).2 h)
    rw [if_neg k0, if_neg n0]
    by_cases k1 : b = 1
    · subst k1
      rw [if_pos (rfl : (1 : UInt8) = 1), if_pos (show ((1 : UInt8).toNat : Int) = 1 from rfl)]
      unfold dec1
      by_cases c : t.length < 8
      · rw [if_pos c, if_pos (by omega)]
        exact ⟨_, _, _, rfl⟩
      · rw [if_neg c, if_neg (by omega), if_pos (by omega)]
        have hb1 : bt (TX (1 :: t)) 1 = ((t[0]'(by omega)).toNat : Int) := by
          have := TX_bt (1 :: t) 1 (by simp; omega)
          simpa using this
        have h0 := (t[0]'(by omega)).toNat_lt
        have hv : val 0 (t.take 1) = (t[0]'(by omega)).toNat := by
          rw [List.take_succ_eq_append_getElem (by omega), val_snoc]; simp [val]
        rw [hb1, wrap64_id (x := ((t[0]'(by omega)).toNat : Int)) (by omega) (by omega), wrap64_id (x := ((t[0]'(by omega)).toNat : Int) - 128) (by omega) (by omega)]
        have := rone_l0 1 t (by omega) 1 ⟨#[]⟩ 7 (12 + d) 1 (by omega) (by omega) (by omega)
        rw [hv, show 7 + 1 + (12 + d) = 20 + d from by omega] at this
        simp only [Nat.sub_self, Nat.pow_zero, Int.natCast_one, Int.mul_one] at this
        rw [show (1 : Int) + 1 = 2 from rfl] at this
        show quaysideref05_one.l0 (20 + d) (TX (1 :: t)) 2 1 _ _ = some _
        rw [this]
        simp
        omega
    have n1 : ¬ (b.toNat : Int) = 1 := fun h => k1 ((u8_eq b 1 (by decide)).2 h)
    rw [if_neg k1, if_neg n1]
    by_cases k2 : b = 2
    · subst k2
      rw [if_pos (rfl : (2 : UInt8) = 2), if_pos (show ((2 : UInt8).toNat : Int) = 2 from rfl)]
      cases t with
      | nil => rw [if_pos (by simp)]; exact ⟨_, _, _, rfl⟩
      | cons m t2 =>
        have hm := m.toNat_lt
        rw [if_neg (by simp; omega), if_pos (by simp; omega), bt1, dec2_cons]
        rw [wrap64_id (x := (m.toNat : Int)) (by omega) (by omega)]
        simp only [List.length_cons] at hl ⊢
        rw [wrap64_id (x := ((t2.length + 1 + 1 : Nat) : Int) - 2) (by omega) (by omega)]
        by_cases c : t2.length < m.toNat
        · rw [if_pos c, if_pos (by omega)]
          exact ⟨_, _, _, rfl⟩
        · rw [if_neg c, if_neg (show ¬ ((((t2.length + 1 + 1 : Nat) : Int) - 2) < (m.toNat : Int)) by omega)]
          by_cases c2 : 64 < m.toNat
          · rw [if_pos c2, if_pos (by omega)]
            exact ⟨_, _, _, rfl⟩
          · rw [if_neg c2, if_neg (show ¬ (m.toNat : Int) > 64 by omega)]
            rw [wrap64_id (x := 2 + (m.toNat : Int)) (by omega) (by omega), if_pos (by omega), if_pos (by omega)]
            have e1 : (2 + (m.toNat : Int)).toNat = m.toNat + 1 + 1 := by omega
            rw [e1, TX_extract]
            have e2 : ((2 :: m :: t2).take (m.toNat + 1 + 1)).drop 2 = t2.take m.toNat := by simp
            rw [e2, TX_size]
            have e3 : (t2.take m.toNat).length = m.toNat := by simp; omega
            rw [e3, wrap64_id (x := 2 + (m.toNat : Int)) (by omega) (by omega)]
            show some _ = some _
            simp
            omega
    have n2 : ¬ (b.toNat : Int) = 2 := fun h => k2 ((u8_eq b 2 (by decide)).2 h)
    rw [if_neg k2, if_neg n2]
    by_cases k3 : b = 3
    · subst k3
      rw [if_pos (rfl : (3 : UInt8) = 3), if_pos (show ((3 : UInt8).toNat : Int) = 3 from rfl)]
      cases t with
      | nil => rw [if_pos (by simp)]; exact ⟨_, _, _, rfl⟩
      | cons m t2 =>
        have hm := m.toNat_lt
        rw [if_neg (by simp; omega), if_pos (by simp; omega), bt1, dec3_cons]
        by_cases c2 : m.toNat ≤ 1
        · rw [if_pos c2, if_neg (show ¬ (m.toNat : Int) > 1 by omega), wrap64_id (x := (m.toNat : Int)) (by omega) (by omega)]
          show some _ = some _
          simp
          omega
        · rw [if_neg c2, if_pos (by omega)]
          exact ⟨_, _, _, rfl⟩
    have n3 : ¬ (b.toNat : Int) = 3 := fun h => k3 ((u8_eq b 3 (by decide)).2 h)
    rw [if_neg k3, if_neg n3]
    exact ⟨_, _, _, rfl⟩
end Go.Proofs.YtccpbacnfhbdlaaDoor.PureVal
