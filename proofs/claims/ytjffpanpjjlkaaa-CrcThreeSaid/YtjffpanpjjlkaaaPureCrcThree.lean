/- The law CrcThree holds of every three texts: the sums of three texts of one length, turned into one another, are the sum of the texts turned into one another. Condition: the texts' sizes within the form's reach. -/
import Derived.Test.YtjffpanpjjlkaaaOwnx2
import Derived.Test.YtjffpanpjjlkaaaCrcFns
namespace Go.Proofs.Ytjffpanpjjlkaaa.Pure
open Go.RowKit Go.Proofs.Ytjffpanpjjlkaaa.Own Go.Proofs.YtjffpanpjjlkaaaW.PrintWords Go.Proofs.YtjffpanpjjlkaaaW.PrintLast Go.Proofs.YtjffpanpjjlkaaaW.PrintMore
open Go.Proofs.Ytjffpanpjjlkaaa.Aid Go.Proofs.Ytjffpanpjjlkaaa.Fns Go.Proofs.Ytjffpanpjjlkaaa.Crc
set_option linter.unusedVariables false
set_option linter.unusedSimpArgs false
/-- two lists, turned into one another -/
abbrev zx (l m : List Nat) : List Nat := List.zipWith (· ^^^ ·) l m
theorem zx_length (l m : List Nat) : (zx l m).length = min l.length m.length := List.length_zipWith
theorem zx_lt (l m : List Nat) (hl : ∀ b ∈ l, b < 256) (hm : ∀ b ∈ m, b < 256) : ∀ b ∈ zx l m, b < 256 := by
  intro b hb
  obtain ⟨i, h, rfl⟩ := List.getElem_of_mem hb
  rw [zx_length] at h
  rw [List.getElem_zipWith]
  exact Nat.xor_lt_two_pow (n := 8) (hl _ (List.getElem_mem _)) (hm _ (List.getElem_mem _))
theorem zx_eq (l m c : List Nat) (h1 : l.length = m.length) (h2 : c.length = l.length) : c = zx (zx l m) c ↔ l = m := by
  constructor
  · intro h
    apply List.ext_getElem h1
    intro i hi hi'
    have e := congrArg (fun z => z[i]?) h
    simp only [zx, List.getElem?_zipWith, List.getElem?_eq_getElem hi, List.getElem?_eq_getElem hi', List.getElem?_eq_getElem (show i < c.length by omega)] at e
    have e2 := Option.some.inj e
    have e3 : (l[i] ^^^ m[i]) ^^^ c[i] = 0 ^^^ c[i] := by rw [Nat.zero_xor]; exact e2.symm
    exact xor_eq_zero (xor_cancel_right e3)
  · rintro rfl
    apply List.ext_getElem (by rw [zx_length, zx_length]; omega)
    intro i hi hi'
    simp only [zx, List.getElem_zipWith, Nat.xor_self, Nat.zero_xor]
theorem crc_zx (l m c : List Nat) (h1 : l.length = m.length) (h2 : c.length = l.length) : crc 0 (zx (zx l m) c) = crc 0 l ^^^ crc 0 m ^^^ crc 0 c := by
  unfold crc
  rw [Nat.zero_xor]
  have e1 : run (4294967295 ^^^ 4294967295) (zx l m) = run 4294967295 l ^^^ run 4294967295 m := run_xor l m 4294967295 4294967295 h1
  have e2 : run ((4294967295 ^^^ 4294967295) ^^^ 4294967295) (zx (zx l m) c) = run (4294967295 ^^^ 4294967295) (zx l m) ^^^ run 4294967295 c := run_xor (zx l m) c (4294967295 ^^^ 4294967295) 4294967295 (by rw [zx_length]; omega)
  rw [e1, Nat.xor_self, Nat.zero_xor] at e2
  rw [e2]
  generalize run 4294967295 l = a
  generalize run 4294967295 m = b
  generalize run 4294967295 c = d
  generalize (4294967295 : Nat) = x
  rw [Nat.xor_assoc a x, xor_left_comm x b x, Nat.xor_self, Nat.xor_zero, Nat.xor_assoc (a ^^^ b) d x]
theorem B_extract (s : ByteArray) (n : Nat) : B (s.extract 0 n) = (B s).take n := by
  unfold B
  rw [ByteArray.data_extract]
  simp
theorem B_nums (l : List Nat) (h : ∀ b ∈ l, b < 256) : B (strOfNums (l.map fun b : Nat => (b : Int))) = l := by
  unfold B
  rw [strOfNums_data, List.map_map, List.map_map]
  have : ∀ b ∈ l, ((UInt8.toNat ∘ fun n : Int => UInt8.ofNat n.toNat) ∘ fun b : Nat => (b : Int)) b = b := by
    intro b hb
    simp only [Function.comp_apply, Int.toNat_natCast]
    exact UInt8.toNat_ofNat_of_lt' (h b hb)
  rw [List.map_congr_left this, List.map_id']
theorem u8_xor3 (a b c : Nat) (ha : a < 256) (hb : b < 256) (hc : c < 256) : Go.bits .xor .u8 (Go.bits .xor .u8 (a : Int) (b : Int)) (c : Int) = ((a ^^^ b ^^^ c : Nat) : Int) := by
  rw [u8_xor_nat a b ha hb, u8_xor_nat _ c (Nat.xor_lt_two_pow (n := 8) ha hb) hc]
theorem mn_nat (a b : Nat) : mn (a : Int) (b : Int) = ((min a b : Nat) : Int) := by unfold mn; split <;> omega

/-- behind the loop -/
theorem last_eq (a b c : ByteArray) (n k : Nat) (hk : 30000 < k) (hn : n ≤ 256) (ha : n ≤ a.size) (hb : n ≤ b.size) (hc : n ≤ c.size) (i : Nat) (hi : i = n) :
    quaysidelaw02_CrcThree.l0 (k + 1) a b c (n : Int) ((zx (zx ((B a).take n) ((B b).take n)) ((B c).take n)).map fun b : Nat => (b : Int)) (i : Int) = some true := by
  have la : ((B a).take n).length = n := by rw [List.length_take, B_length]; omega
  have lb : ((B b).take n).length = n := by rw [List.length_take, B_length]; omega
  have lc : ((B c).take n).length = n := by rw [List.length_take, B_length]; omega
  have ta : ∀ x ∈ (B a).take n, x < 256 := fun x hx => B_lt a x (List.mem_of_mem_take hx)
  have tb : ∀ x ∈ (B b).take n, x < 256 := fun x hx => B_lt b x (List.mem_of_mem_take hx)
  have tc : ∀ x ∈ (B c).take n, x < 256 := fun x hx => B_lt c x (List.mem_of_mem_take hx)
  have hBt := B_nums _ (zx_lt _ _ (zx_lt _ _ ta tb) tc)
  have e1 := crc_zx _ _ _ (la.trans lb.symm) (lc.trans la.symm)
  have e2 := zx_eq _ _ _ (la.trans lb.symm) (lc.trans la.symm)
  have sa : (a.extract 0 n).size = n := by rw [ByteArray.size_extract]; omega
  have sb : (b.extract 0 n).size = n := by rw [ByteArray.size_extract]; omega
  have sc : (c.extract 0 n).size = n := by rw [ByteArray.size_extract]; omega
  have st : (strOfNums ((zx (zx ((B a).take n) ((B b).take n)) ((B c).take n)).map fun b : Nat => (b : Int))).size = n := by
    rw [strOfNums_size, List.length_map, zx_length, zx_length]; omega
  simp only [quaysidelaw02_CrcThree.l0]
  rw [if_neg (by omega), if_pos (by omega), if_pos (by omega), if_pos (by omega)]
  have hcn : ((n : Int) ≤ (c.size : Int)) := by omega
  simp only [Int.toNat_natCast, hcn, if_true]
  have c1 := crc_lt (s := 0) (by omega) ta
  have c2 := crc_lt (s := 0) (by omega) tb
  have c3 := crc_lt (s := 0) (by omega) tc
  rw [rsame_eq _ _ _ (by omega) (by omega) (by omega) (by omega), same_eq _ _ _ (by omega) (by omega) (by omega) (by omega)]
  rw [same_eq (c.extract 0 n) _ _ (by omega) (by omega) (by omega) (by omega)]
  rw [sum_eq _ _ (by omega) (by omega), sum_eq _ _ (by omega) (by omega), sum_eq _ _ (by omega) (by omega), sum_eq _ _ (by omega) (by omega), nine_eq _ (by omega)]
  rw [hBt, sa, sb, sc, st, B_extract, B_extract, B_extract]
  simp only [Option.bind_some]
  rw [xor64_nat _ _ (by omega) (by omega), xor64_nat _ _ (Nat.lt_trans (xor_lt c1 c2) (by omega)) (by omega), if_pos (by rw [e1])]
  rw [if_pos (by simp), if_pos]
  rw [beq_iff_eq, decide_eq_decide, e1]
  have h3 : crc 0 ((B c).take n) = crc 0 ((B a).take n) ^^^ crc 0 ((B b).take n) ^^^ crc 0 ((B c).take n) ↔ crc 0 ((B a).take n) = crc 0 ((B b).take n) := by
    constructor
    · intro h
      have : crc 0 ((B a).take n) ^^^ crc 0 ((B b).take n) ^^^ crc 0 ((B c).take n) = 0 ^^^ crc 0 ((B c).take n) := by rw [Nat.zero_xor]; exact h.symm
      exact xor_eq_zero (xor_cancel_right this)
    · intro h; rw [h, Nat.xor_self, Nat.zero_xor]
  rw [h3, ne_eq, ne_eq, e2]
/-- the loop: what was set so far, and noughts -/
theorem l0_three (a b c : ByteArray) (n k : Nat) (hk : 30000 < k) (hn : n ≤ 256) (ha : n ≤ a.size) (hb : n ≤ b.size) (hc : n ≤ c.size) (d : Nat) : ∀ (i : Nat) (l : List Int), i + d = n → l.length = n →
    (∀ j, j < i → l[j]? = ((zx (zx ((B a).take n) ((B b).take n)) ((B c).take n)).map fun b : Nat => (b : Int))[j]?) → quaysidelaw02_CrcThree.l0 (k + d + 1) a b c (n : Int) l (i : Int) = some true := by
  have hlen : ((zx (zx ((B a).take n) ((B b).take n)) ((B c).take n)).map fun b : Nat => (b : Int)).length = n := by
    rw [List.length_map, zx_length, zx_length, List.length_take, List.length_take, List.length_take, B_length, B_length, B_length]; omega
  induction d with
  | zero =>
    intro i l hi hl hj
    have e : l = ((zx (zx ((B a).take n) ((B b).take n)) ((B c).take n)).map fun b : Nat => (b : Int)) := by
      apply List.ext_getElem?
      intro j
      by_cases h : j < n
      · exact hj j (by omega)
      · rw [List.getElem?_eq_none (by omega), List.getElem?_eq_none (by omega)]
    rw [e]
    exact last_eq a b c n k hk hn ha hb hc i (by omega)
  | succ d ih =>
    intro i l hi hl hj
    show quaysidelaw02_CrcThree.l0 ((k + d + 1) + 1) a b c (n : Int) l (i : Int) = some true
    simp only [quaysidelaw02_CrcThree.l0]
    rw [if_pos (by omega), if_pos (by omega), if_pos (by omega), if_pos (by omega), if_pos (by omega), if_pos (by omega)]
    rw [bt_nat a i (by omega), bt_nat b i (by omega), bt_nat c i (by omega)]
    rw [u8_xor3 _ _ _ (B_lt a _ (List.getElem_mem _)) (B_lt b _ (List.getElem_mem _)) (B_lt c _ (List.getElem_mem _))]
    rw [show wrap64 ((i : Int) + 1) = ((i + 1 : Nat) : Int) by unfold wrap64; omega, Int.toNat_natCast]
    apply ih (i + 1) _ (by omega) (by rw [List.length_set]; exact hl)
    intro j hji
    by_cases h : j < i
    · rw [List.getElem?_set_ne (by omega)]; exact hj j h
    · obtain rfl : j = i := by omega
      rw [List.getElem?_set_self (by omega), List.getElem?_map]
      have i1 : j < ((B a).take n).length := by rw [List.length_take, B_length]; omega
      have i2 : j < ((B b).take n).length := by rw [List.length_take, B_length]; omega
      have i3 : j < ((B c).take n).length := by rw [List.length_take, B_length]; omega
      simp only [zx, List.getElem?_zipWith, List.getElem?_eq_getElem i1, List.getElem?_eq_getElem i2, List.getElem?_eq_getElem i3, List.getElem_take, Option.map_some]
theorem CrcThree : quaysidelaw02_CrcThree.Pure := by
  intro a b c _ _ _
  obtain ⟨n, hn⟩ : ∃ n : Nat, n = min (min (min a.size b.size) c.size) 256 := ⟨_, rfl⟩
  refine ⟨40000 + n + 1, ?_⟩
  unfold quaysidelaw02_CrcThree.f
  rw [show (256 : Int) = ((256 : Nat) : Int) from rfl, mn_nat, mn_nat, mn_nat, ← hn, if_pos (by omega), Int.toNat_natCast, if_pos (by omega)]
  exact l0_three a b c n 40000 (by omega) (by omega) (by omega) (by omega) (by omega) n 0 _ (by omega) (by simp) (fun j h => by omega)
end Go.Proofs.Ytjffpanpjjlkaaa.Pure
