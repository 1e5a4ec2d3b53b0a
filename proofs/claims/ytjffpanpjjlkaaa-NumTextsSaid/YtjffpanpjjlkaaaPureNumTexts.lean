/- The law NumTexts holds of every number and text: any number in digits, and the number of any digits, there and back. Conditions: a number of 64 bits; the text's size within the form's reach. -/
import Derived.Test.YtjffpanpjjlkaaaOtx4
import Derived.Test.YtjffpanpjjlkaaaAid
import Derived.Test.YtjffpanpjjlkaaaDec
import Derived.Laws.MathBits
namespace Go.Proofs.Ytjffpanpjjlkaaa.Pure
open Go.RowKit Go.Proofs.Ytjffpanpjjlkaaa.Ot Go.Proofs.YtjffpanpjjlkaaaW.PrintWords Go.Proofs.YtjffpanpjjlkaaaW.PrintLast
open Go.Proofs.Ytjffpanpjjlkaaa.Aid
set_option linter.unusedVariables false
set_option linter.unusedSimpArgs false

/-- a number, or that it is none -/
def num (n : Int) : Int × Int := if -9223372036854775808 ≤ n ∧ n ≤ 9223372036854775807 then (n, 0) else (0, 10)
/-- is it a number of 64 bits? -/
abbrev In (a : Int) : Prop := -9223372036854775808 ≤ a ∧ a ≤ 9223372036854775807

theorem wrapu (n : Int) : Go.IntKind.u64.wrap n = n % 18446744073709551616 := by
  simp [IntKind.wrap, IntKind.bits, IntKind.signed]
/-- a number without its sign -/
def mag (a : Int) : Int := if a < 0 then -a else a
theorem mag_in (a : Int) (ha : In a) : 0 ≤ mag a ∧ mag a ≤ 9223372036854775808 := by unfold mag; split <;> omega
theorem size_eq (a : Int) (ha : In a) : num_size.f a = some (mag a) := by
  unfold num_size.f mag
  simp only [wrapu]
  split
  all_goals (refine congrArg some ?_; omega)
theorem signed_eq (k : Nat) (n : Int) (b : Bool) (h0 : 0 ≤ n) (h1 : n < 18446744073709551616) : num_signed.f (k + 1) n b = some (num (if b = true then -n else n)) := by
  unfold num_signed.f
  simp only [num_signed.j0, wrapu]
  cases b
  · simp only [Bool.false_eq_true, if_false]
    by_cases h : n < 9223372036854775808
    · rw [if_pos h]; unfold num wrap64; rw [if_pos (by omega)]; refine congrArg some (Prod.ext ?_ ?_) <;> dsimp only <;> omega
    · rw [if_neg h]; unfold num; rw [if_neg (by omega)]
  · simp only [if_true, decide_eq_true_eq]
    by_cases h : n ≤ 9223372036854775808
    · rw [if_pos h]; unfold num wrap64; rw [if_pos (by omega)]; refine congrArg some (Prod.ext ?_ ?_) <;> dsimp only <;> omega
    · rw [if_neg h]; unfold num; rw [if_neg (by omega)]

/-- a number as the reference holds it -/
def W (n : Int) : Int × Int := (n / 4611686018427387904, n % 4611686018427387904)
/-- is a number within what the reference reckons with? -/
abbrev Mid (a : Int) : Prop := -36893488147419103232 ≤ a ∧ a ≤ 36893488147419103232
theorem of_eq (a : Int) : quaysideref01_of.f a = some (W a) := by
  unfold quaysideref01_of.f W
  rw [and62]
theorem plus_eq (m n : Int) (hm : Mid m) (hn : Mid n) : quaysideref01_plus.f (W m).1 (W m).2 (W n).1 (W n).2 = some (W (m + n)) := by
  unfold quaysideref01_plus.f W wrap64
  dsimp only
  split
  all_goals (refine congrArg some (Prod.ext ?_ ?_) <;> dsimp only <;> omega)
theorem less_eq (n : Int) (hn : Mid n) : quaysideref01_less.f (W n).1 (W n).2 = some (W (-n)) := by
  unfold quaysideref01_less.f W wrap64
  dsimp only
  split
  all_goals (refine congrArg some (Prod.ext ?_ ?_) <;> dsimp only <;> omega)
theorem number_eq (n : Int) : quaysideref01_number.f (W n).1 (W n).2 = some (num n) := by
  unfold quaysideref01_number.f num W
  dsimp only
  split
  · rw [if_neg (by omega)]
  split
  · rw [if_neg (by omega)]
  rw [or_join _ _ (by omega) (by omega) (by omega) (by omega), if_pos (by omega)]
  refine congrArg some (Prod.ext ?_ rfl)
  dsimp only; omega

theorem and1 (x : Int) : Go.bits .and .i64 x 1 = x % 2 := and_mask x 1 (by decide)
theorem bit_eq (n i : Nat) (hn : n ≤ 9223372036854775808) (hi : i ≤ 63) : quaysideref01_bit.f (W (n : Int)).1 (W (n : Int)).2 (i : Int) = some (n / 2 ^ i % 2 == 1) := by
  unfold quaysideref01_bit.f W
  dsimp only
  by_cases h : (i : Int) ≥ 62
  · rw [if_pos h]
    have e : wrap64 ((i : Int) - 62) = ((i - 62 : Nat) : Int) := by unfold wrap64; omega
    rw [e, if_pos (by omega), and1]
    unfold shr
    rw [Nat.min_eq_left (by rw [Int.toNat_natCast]; show i - 62 ≤ 64; omega), Int.toNat_natCast]
    have e2 : (n : Int) / 4611686018427387904 / 2 ^ (i - 62) = ((n / 2 ^ i : Nat) : Int) := by
      obtain ⟨j, rfl⟩ : ∃ j, i = 62 + j := ⟨i - 62, by omega⟩
      rw [show 62 + j - 62 = j by omega, Nat.pow_add, ← Nat.div_div_eq_div_mul, Int.natCast_ediv, Int.natCast_ediv]
      rfl
    rw [e2]
    refine congrArg some ?_
    rw [Bool.eq_iff_iff, beq_iff_eq, beq_iff_eq]; omega
  · rw [if_neg h, if_pos (by omega), and1]
    unfold shr
    rw [Nat.min_eq_left (by rw [Int.toNat_natCast]; show i ≤ 64; omega), Int.toNat_natCast]
    have e2 : (n : Int) % 4611686018427387904 / 2 ^ i = ((n % 2 ^ 62 / 2 ^ i : Nat) : Int) := by
      rw [Int.natCast_ediv, Int.natCast_emod]
      rfl
    rw [e2]
    refine congrArg some ?_
    have t := Nat.testBit_mod_two_pow n 62 i
    rw [Nat.testBit_eq_decide_div_mod_eq, Nat.testBit_eq_decide_div_mod_eq, decide_eq_true (show i < 62 by omega), Bool.true_and, decide_eq_decide] at t
    rw [Bool.eq_iff_iff, beq_iff_eq, beq_iff_eq]; omega

/-- the rounds of the reference's product: X is not above 0, n not below -/
theorem l0_eq (a b X : Int) (n : Nat) (hX : -9223372036854775808 ≤ X ∧ X ≤ 0) (hn : n ≤ 9223372036854775808)
    (hP : a * b = if ((decide (a > 0)) == (decide (b > 0))) = true then -(X * n) else X * n) (i : Nat) : ∀ k : Nat, i < k → i ≤ 64 → -9223372036854775808 ≤ X * ((n / 2 ^ i : Nat) : Int) →
    quaysideref01_Mul.l0 k a b ((i : Int) - 1) (W X).1 (W X).2 (W (-(n : Int))).1 (W (-(n : Int))).2 (W (X * ((n / 2 ^ i : Nat) : Int))).1 (W (X * ((n / 2 ^ i : Nat) : Int))).2 = some (num (a * b)) := by
  induction i with
  | zero =>
    intro k hk _ hs
    obtain ⟨k, rfl⟩ : ∃ m, k = m + 1 := ⟨k - 1, by omega⟩
    simp only [quaysideref01_Mul.l0]
    rw [if_neg (by omega)]
    rw [Nat.pow_zero, Nat.div_one] at hs ⊢
    have hle : X * (n : Int) ≤ 0 := Int.mul_nonpos_of_nonpos_of_nonneg hX.2 (by omega)
    generalize X * (n : Int) = S at *
    split
    · rename_i h
      rw [if_pos h] at hP
      rw [less_eq _ (by omega)]
      simp only [Option.bind_some]
      rw [number_eq]
      simp only [Option.bind_some]
      rw [hP]
    · rename_i h
      rw [if_neg h] at hP
      rw [number_eq]
      simp only [Option.bind_some]
      rw [hP]
  | succ i ih =>
    intro k hk hi hs
    obtain ⟨k, rfl⟩ : ∃ m, k = m + 1 := ⟨k - 1, by omega⟩
    simp only [quaysideref01_Mul.l0]
    rw [if_pos (by omega)]
    have q0 : n / 2 ^ (i + 1) = n / 2 ^ i / 2 := by rw [Nat.pow_succ, Nat.div_div_eq_div_mul]
    have hmono : ((n / 2 ^ i : Nat) : Int) ≤ (n : Int) := by have := Nat.div_le_self n (2 ^ i); omega
    rw [q0] at hs ⊢
    have hbit := bit_eq n i hn (by omega)
    have hih := ih k (by omega) (by omega)
    generalize hq : n / 2 ^ i = q at *
    have hle : X * ((q / 2 : Nat) : Int) ≤ 0 := Int.mul_nonpos_of_nonpos_of_nonneg hX.2 (by omega)
    rw [plus_eq _ _ (by omega) (by omega)]
    simp only [Option.bind_some]
    rw [less_eq _ (by omega)]
    simp only [Option.bind_some]
    rw [show (-(-(n : Int))) = (n : Int) by omega, show ((i + 1 : Nat) : Int) - 1 = (i : Int) by omega, hbit]
    simp only [Option.bind_some]
    have hw : wrap64 ((i : Int) - 1) = (i : Int) - 1 := by unfold wrap64; omega
    have hex : ∀ T : Int, T = X * (q : Int) → T < -9223372036854775808 → some ((0 : Int), (10 : Int)) = some (num (a * b)) := by
      intro T hT hlt
      have hb : X * (n : Int) ≤ X * (q : Int) := Int.mul_le_mul_of_nonpos_left hX.2 hmono
      unfold num
      rw [if_neg]
      rw [hP]
      generalize X * (n : Int) = S at *
      split <;> omega
    by_cases hb : q % 2 = 1
    · rw [if_pos (by rw [beq_iff_eq]; exact hb)]
      rw [plus_eq _ _ (by omega) (by omega)]
      simp only [Option.bind_some]
      have hv : X * ((q / 2 : Nat) : Int) + X * ((q / 2 : Nat) : Int) + X = X * (q : Int) := by
        have : (q : Int) = ((q / 2 : Nat) : Int) + ((q / 2 : Nat) : Int) + 1 := by omega
        rw [this, Int.mul_add, Int.mul_add, Int.mul_one]
      rw [hv, hw]
      by_cases hlt : X * (q : Int) < -9223372036854775808
      · rw [if_pos (by unfold W; dsimp only; omega)]
        exact hex _ rfl hlt
      · rw [if_neg (by unfold W; dsimp only; omega)]
        exact hih (by omega)
    · rw [if_neg (by rw [beq_iff_eq]; exact hb)]
      have hv : X * ((q / 2 : Nat) : Int) + X * ((q / 2 : Nat) : Int) = X * (q : Int) := by
        have : (q : Int) = ((q / 2 : Nat) : Int) + ((q / 2 : Nat) : Int) := by omega
        rw [this, Int.mul_add]
      rw [hv, hw]
      by_cases hlt : X * (q : Int) < -9223372036854775808
      · rw [if_pos (by unfold W; dsimp only; omega)]
        exact hex _ rfl hlt
      · rw [if_neg (by unfold W; dsimp only; omega)]
        exact hih (by omega)

theorem rmul_eq (k : Nat) (a b : Int) (ha : In a) (hb : In b) (hk : 68 < k) : quaysideref01_Mul.f k a b = some (num (a * b)) := by
  obtain ⟨k, rfl⟩ : ∃ m, k = m + 1 + 1 + 1 := ⟨k - 3, by omega⟩
  have key : quaysideref01_Mul.f (k + 1 + 1 + 1) a b = quaysideref01_Mul.j0 (k + 1 + 1 + 1) a b (a == 0 || b == 0) := by
    unfold quaysideref01_Mul.f
    by_cases h : a = 0
    · rw [if_pos h]; simp [h]
    · rw [if_neg h, show (a == 0) = false from beq_eq_false_iff_ne.2 h, Bool.false_or]
  rw [key]
  simp only [quaysideref01_Mul.j0]
  by_cases h0 : (a == 0 || b == 0) = true
  · rw [if_pos h0]
    have : a * b = 0 := by
      rcases Bool.or_eq_true_iff.1 h0 with h | h
      · rw [beq_iff_eq.1 h, Int.zero_mul]
      · rw [beq_iff_eq.1 h, Int.mul_zero]
    rw [this]; rfl
  rw [if_neg h0]
  have hnz : a ≠ 0 ∧ b ≠ 0 := by
    refine ⟨fun h => h0 (by simp [h]), fun h => h0 (by simp [h])⟩
  rw [of_eq, of_eq]
  simp only [Option.bind_some]
  have sa := mag_in a ha
  have sb := mag_in b hb
  obtain ⟨n, hn⟩ := Int.eq_ofNat_of_zero_le sb.1
  have fin : ∀ X Y : Int, X = -mag a → Y = -mag b → quaysideref01_Mul.j2 (k + 1) a b (W X).1 (W X).2 (W Y).1 (W Y).2 = some (num (a * b)) := by
    intro X Y hX hY
    simp only [quaysideref01_Mul.j2]
    have e := l0_eq a b X n (by omega) (by omega) (by
      rw [hX, ← hn]
      unfold mag
      by_cases g1 : a < 0 <;> by_cases g2 : b < 0
      · rw [if_pos g1, if_pos g2, if_pos (by rw [beq_iff_eq, decide_eq_decide]; omega)]; simp [Int.neg_mul, Int.mul_neg]
      · rw [if_pos g1, if_neg g2, if_neg (by rw [beq_iff_eq, decide_eq_decide]; omega)]; simp [Int.neg_mul, Int.mul_neg]
      · rw [if_neg g1, if_pos g2, if_neg (by rw [beq_iff_eq, decide_eq_decide]; omega)]; simp [Int.neg_mul, Int.mul_neg]
      · rw [if_neg g1, if_neg g2, if_pos (by rw [beq_iff_eq, decide_eq_decide]; omega)]; simp [Int.neg_mul, Int.mul_neg]) 64 k (by omega) (by omega) (by
      rw [Nat.div_eq_of_lt (show n < 2 ^ 64 by omega)]; simp)
    rw [Nat.div_eq_of_lt (show n < 2 ^ 64 by omega)] at e
    rw [show X * ((0 : Nat) : Int) = 0 by simp] at e
    rw [show Y = -(n : Int) by omega]
    exact e
  have fin1 : ∀ X Y : Int, X = -mag a → Y = b → quaysideref01_Mul.j1 (k + 1 + 1) a b (W X).1 (W X).2 (W Y).1 (W Y).2 = some (num (a * b)) := by
    intro X Y hX hY
    simp only [quaysideref01_Mul.j1]
    split
    · rw [less_eq _ (by omega)]
      simp only [Option.bind_some]
      exact fin _ _ hX (by unfold mag; rw [if_neg (by omega)]; omega)
    · exact fin _ _ hX (by unfold mag; rw [if_pos (by omega)]; omega)
  split
  · rw [less_eq _ (by omega)]
    simp only [Option.bind_some]
    exact fin1 _ _ (by unfold mag; rw [if_neg (by omega)]) rfl
  · exact fin1 _ _ (by unfold mag; rw [if_pos (by omega)]; omega) rfl


open Go.Proofs.Ytjffpanpjjlkaaa.Dec (isD val digN behind readS textS val_snoc val_lt digN_all digN_val digN_of head_app head_dig read_text text_read val_big)
theorem num_eq (n : Int) : Dec.num n = num n := rfl
/-- a text's bytes -/
def B (s : ByteArray) : List Nat := s.data.toList.map UInt8.toNat
theorem B_length (s : ByteArray) : (B s).length = s.size := by simp [B]
theorem B_lt (s : ByteArray) : ∀ b ∈ B s, b < 256 := by
  intro b hb
  obtain ⟨x, _, rfl⟩ := List.mem_map.1 hb
  exact x.toNat_lt
theorem bt_nat (s : ByteArray) (i : Nat) (h : i < s.size) : bt s (i : Int) = (((B s)[i]'(by rw [B_length]; exact h) : Nat) : Int) := by
  unfold bt
  rw [dif_pos (by simpa using h)]
  simp [B]
  rfl
theorem B_inj {a b : ByteArray} (h : B a = B b) : a = b := by
  unfold B at h
  have h2 : a.data.toList = b.data.toList := (List.map_inj_right (fun x y h => UInt8.toNat_inj.1 h)).1 h
  cases a; cases b; exact congrArg ByteArray.mk (Array.toList_inj.1 h2)
theorem toList_iff (a : ByteArray) (l : List UInt8) : a.toList = l ↔ B a = l.map UInt8.toNat := by
  rw [ByteArray.toList_eq]
  constructor
  · intro h; unfold B; rw [h]
  · intro h; exact (List.map_inj_right (fun x y h => UInt8.toNat_inj.1 h)).1 h
theorem B_nums (l : List Nat) (h : ∀ b ∈ l, b < 256) : B (strOfNums (l.map fun b : Nat => (b : Int))) = l := by
  unfold B
  rw [strOfNums_data, List.map_map, List.map_map]
  have : ∀ b ∈ l, ((UInt8.toNat ∘ fun n : Int => UInt8.ofNat n.toNat) ∘ fun b : Nat => (b : Int)) b = b := by
    intro b hb
    simp only [Function.comp_apply, Int.toNat_natCast]
    exact UInt8.toNat_ofNat_of_lt' (h b hb)
  rw [List.map_congr_left this, List.map_id']
theorem B_extract (s : ByteArray) (i n : Nat) : B (s.extract i n) = ((B s).take n).drop i := by
  unfold B
  rw [ByteArray.data_extract, Array.toList_extract, List.extract_eq_take_drop, List.drop_take, List.map_take, List.map_drop]
theorem digf_eq (f : Nat) : ∀ k : Nat, digf f k = (digN f k).map fun b : Nat => (b : Int) := by
  induction f with
  | zero => intro k; rfl
  | succ f ih =>
    intro k
    unfold digf digN
    split
    · simp
    · rw [ih, List.map_append]; simp
theorem dig_lt (l : List Nat) (h : l.all isD = true) : ∀ b ∈ l, b < 256 := by
  intro b hb
  have := List.all_eq_true.1 h b hb
  simp [isD] at this; omega
theorem textS_lt (n : Int) : ∀ b ∈ textS n, b < 256 := by
  intro b hb
  unfold textS at hb
  rcases List.mem_append.1 hb with h | h
  · split at h
    · simp at h; omega
    · simp at h
  · exact dig_lt _ (digN_all _ _) b h
theorem text_eq (n : Int) (hn : In n) : num_Text.f n = some (strOfNums ((textS n).map fun b : Nat => (b : Int))) := by
  unfold num_Text.f
  rw [if_pos hn.1, if_pos hn.2]
  have e : (Go.Proofs.Ytjffpanpjjlkaaa.Ot.mag n).toNat = n.natAbs := by unfold Go.Proofs.Ytjffpanpjjlkaaa.Ot.mag; split <;> omega
  rw [e, digf_eq]
  unfold textS
  rw [List.map_append]
  congr 3
  split <;> rfl
theorem B_text (n : Int) (t : ByteArray) (hn : In n) (h : num_Text.f n = some t) : B t = textS n := by
  rw [text_eq n hn] at h
  rw [← Option.some.inj h]
  exact B_nums _ (textS_lt n)

/-- the program reads: the digits -/
theorem read_l0 (t : ByteArray) (neg : Bool) (hs : t.size ≤ 1000) (d : Nat) : ∀ (k i : Nat), i + d = t.size →
    num_Read.l0 (k + d + 1) t neg (t.size : Int) (i : Int) = if ((B t).drop i).all isD = true then (if (t.size : Int) > 19 then some (0, 10) else num_Read.l1 k t neg 0 (t.size : Int) 0) else some (0, 1) := by
  induction d with
  | zero =>
    intro k i hi
    simp only [num_Read.l0]
    rw [if_neg (by omega), List.drop_of_length_le (by rw [B_length]; omega)]
    rfl
  | succ d ih =>
    intro k i hi
    have ihk := ih k (i + 1) (by omega)
    show num_Read.l0 ((k + d + 1) + 1) t neg (t.size : Int) (i : Int) = _
    generalize k + d + 1 = m at *
    simp only [num_Read.l0]
    have hlt : i < t.size := by omega
    rw [if_pos (by omega), if_pos (by omega), if_pos (by omega), bt_nat t i hlt, List.drop_eq_getElem_cons (l := B t) (i := i) (by rw [B_length]; exact hlt), List.all_cons, show wrap64 ((i : Int) + 1) = ((i + 1 : Nat) : Int) by unfold wrap64; omega, ihk]
    generalize (B t)[i]'(by rw [B_length]; exact hlt) = b
    by_cases h1 : b < 48
    · rw [if_pos (by omega), if_neg]
      simp [isD]; omega
    · rw [if_neg (by omega)]
      by_cases h2 : b > 57
      · rw [if_pos (by omega), if_neg]
        simp [isD]; omega
      · rw [if_neg (by omega)]
        have : isD b = true := by simp [isD]; omega
        rw [this, Bool.true_and]
/-- the program reads: the number -/
theorem read_l1 (t : ByteArray) (neg : Bool) (hd : (B t).all isD = true) (hs : t.size ≤ 19) (d : Nat) : ∀ (k i n : Nat), i + d = t.size → n < 10 ^ i →
    num_Read.l1 (k + d + 1 + 1) t neg (n : Int) (t.size : Int) (i : Int) = some (num (if neg = true then -((val n ((B t).drop i) : Nat) : Int) else ((val n ((B t).drop i) : Nat) : Int))) := by
  induction d with
  | zero =>
    intro k i n hi hn
    simp only [num_Read.l1]
    have h19 := Nat.pow_le_pow_right (n := 10) (by decide) (show i ≤ 19 by omega)
    rw [if_neg (by omega), List.drop_of_length_le (by rw [B_length]; omega), signed_eq _ _ _ (by omega) (by omega)]
    rfl
  | succ d ih =>
    intro k i n hi hn
    have hlt : i < t.size := by omega
    have hb := List.all_eq_true.1 hd _ (List.getElem_mem (l := B t) (n := i) (by rw [B_length]; exact hlt))
    show num_Read.l1 ((k + d + 1 + 1) + 1) t neg (n : Int) (t.size : Int) (i : Int) = _
    have ihk := fun n' => ih k (i + 1) n' (by omega)
    generalize k + d + 1 + 1 = m at *
    simp only [num_Read.l1]
    rw [if_pos (by omega), if_pos (by omega), if_pos (by omega), bt_nat t i hlt, List.drop_eq_getElem_cons (by rw [B_length]; exact hlt)]
    generalize (B t)[i]'(by rw [B_length]; exact hlt) = b at *
    have hb2 : 48 ≤ b ∧ b ≤ 57 := by simpa [isD] using hb
    have h19 := Nat.pow_le_pow_right (n := 10) (by decide) (show i ≤ 18 by omega)
    have e : Go.IntKind.u64.wrap (Go.IntKind.u64.wrap (10 * (n : Int)) + (((b : Int) - 48) % 256)) = ((10 * n + (b - 48) : Nat) : Int) := by
      rw [wrapu, wrapu]; omega
    rw [e, show wrap64 ((i : Int) + 1) = ((i + 1 : Nat) : Int) by unfold wrap64; omega, ihk _ (by rw [Nat.pow_succ]; omega)]
    rfl
theorem read_fin (t : ByteArray) (neg : Bool) (k : Nat) (hs : t.size ≤ 1000) (hk : 2 * t.size + 4 < k) (h0 : (B t).head? = some 48 → t.size ≤ 1) :
    num_Read.j0 k t neg false = some (if (B t).all isD = true then (if t.size = 0 then num 0 else num (if neg = true then -((val 0 (B t) : Nat) : Int) else ((val 0 (B t) : Nat) : Int))) else (0, 1)) := by
  obtain ⟨k, rfl⟩ : ∃ m, k = m + t.size + 1 + 1 + t.size + 1 + 1 := ⟨k - (t.size + 1 + 1 + t.size + 1 + 1), by omega⟩
  generalize hm : k + t.size + 1 + 1 = m
  have h1 := read_l0 t neg hs t.size m 0 (by omega)
  rw [show m + t.size + 1 + 1 = (m + t.size + 1) + 1 from rfl]
  generalize m + t.size + 1 = q at h1 ⊢
  simp only [num_Read.j0, Bool.false_eq_true, if_false]
  rw [show ((0 : Nat) : Int) = 0 from rfl, List.drop_zero] at h1
  rw [h1]
  by_cases hd : (B t).all isD = true
  · rw [if_pos hd, if_pos hd]
    by_cases hz : t.size = 0
    · have hbe : B t = [] := List.eq_nil_of_length_eq_zero (by rw [B_length]; exact hz)
      have h2 := read_l1 t neg hd (by omega) t.size k 0 0 (by omega) (by decide)
      rw [show ((0 : Nat) : Int) = 0 from rfl, hm] at h2
      rw [if_neg (by omega), if_pos hz, h2, List.drop_zero, hbe]
      cases neg <;> rfl
    rw [if_neg hz]
    by_cases hb : (t.size : Int) > 19
    · rw [if_pos hb]
      have hne : B t ≠ [] := fun h => by
        have := B_length t; rw [h] at this; simp at this; omega
      have hv := val_big (B t) hd hne (fun h => by have := h0 h; omega)
      have hp := Nat.pow_le_pow_right (n := 10) (by decide) (show 19 ≤ (B t).length - 1 by rw [B_length]; omega)
      refine congrArg some ?_
      unfold num
      rw [if_neg]
      have : 10 ^ 19 = 10000000000000000000 := by decide
      cases neg <;> simp only [Bool.false_eq_true, if_false, if_true] <;> omega
    · rw [if_neg hb]
      have h2 := read_l1 t neg hd (by omega) t.size k 0 0 (by omega) (by decide)
      rw [show ((0 : Nat) : Int) = 0 from rfl, hm] at h2
      rw [h2, List.drop_zero]
  · rw [if_neg hd, if_neg hd]
theorem cut_eq (s : ByteArray) : strings_CutPrefix.f s ⟨#[45]⟩ = some (if (B s).head? = some 45 then (s.extract 1 s.size, true) else (s, false)) := by
  have hz : (⟨#[45]⟩ : ByteArray).size = 1 := rfl
  unfold strings_CutPrefix.f stringslite_CutPrefix.f stringslite_HasPrefix.f
  rw [hz]
  by_cases h : (s.size : Int) ≥ ((1 : Nat) : Int)
  · rw [if_pos h, if_pos (by omega), if_pos (by omega)]
    simp only [Option.bind_some]
    have e : ((s.extract 0 (((1 : Nat) : Int)).toNat).toList == (⟨#[45]⟩ : ByteArray).toList) = decide ((B s).head? = some 45) := by
      rw [Bool.eq_iff_iff, beq_iff_eq, decide_eq_true_eq, toList_iff, B_extract, Int.toNat_natCast, List.drop_zero]
      have : (⟨#[45]⟩ : ByteArray).toList.map UInt8.toNat = [45] := by rw [ByteArray.toList_eq]; rfl
      rw [this]
      cases B s with
      | nil => simp
      | cons b l => simp
    rw [e]
    by_cases h45 : (B s).head? = some 45
    · simp only [h45, decide_true, if_true]
      rw [if_pos (by omega), if_pos (by omega)]
      simp only [Option.bind_some]
      rw [Int.toNat_natCast]
    · simp only [h45, decide_false, Bool.false_eq_true, if_false]
      rfl
  · rw [if_neg h]
    have hn : (B s).head? ≠ some 45 := by
      have : B s = [] := List.eq_nil_of_length_eq_zero (by rw [B_length]; omega)
      rw [this]; simp
    rw [if_neg hn]
    simp
theorem B_tail (s : ByteArray) : B (s.extract 1 s.size) = (B s).tail := by
  rw [B_extract, List.take_of_length_le (by rw [B_length]; omega), List.drop_one]
theorem head_bt (t : ByteArray) (h : 0 < t.size) (x : Nat) : bt t 0 = (x : Int) ↔ (B t).head? = some x := by
  have e := bt_nat t 0 h
  rw [show ((0 : Nat) : Int) = 0 from rfl] at e
  rw [e]
  have hl : 0 < (B t).length := by rw [B_length]; exact h
  rw [List.head?_eq_getElem?, List.getElem?_eq_getElem hl]
  constructor
  · intro h2; rw [Int.ofNat_inj.1 h2]
  · intro h2; rw [Option.some.inj h2]
theorem zero_text (s : ByteArray) (T : List Nat) (neg : Bool) (hT : T = behind (B s)) (hneg : neg = decide ((B s).head? = some 45)) (h48 : T.head? = some 48) :
    B s = [48] ↔ ¬ (T.length > 1 ∨ neg = true) := by
  subst hT; subst hneg
  unfold behind at *
  constructor
  · intro h
    rw [h]; simp
  · intro h
    have h1 : ¬ ((B s).head? = some 45) := fun h2 => h (.inr (decide_eq_true h2))
    rw [if_neg h1] at h48 h
    match hb : B s, h48 with
    | b :: l, h48 =>
      rw [hb] at h
      injection h48 with h48
      have : l = [] := by
        rcases l with _ | ⟨c, l⟩
        · rfl
        · exact absurd (.inl (by simp)) h
      rw [h48, this]
theorem read_eq (s : ByteArray) (k : Nat) (hs : s.size ≤ 100) (hk : 300 < k) : num_Read.f k s = some (readS (B s)) := by
  obtain ⟨k, rfl⟩ : ∃ m, k = m + 1 := ⟨k - 1, by omega⟩
  unfold num_Read.f
  rw [cut_eq]
  simp only [Option.bind_some]
  obtain ⟨t, neg, ht, hT, hneg, hts⟩ : ∃ (t : ByteArray) (neg : Bool), (if (B s).head? = some 45 then (s.extract 1 s.size, true) else (s, false)) = (t, neg) ∧ B t = behind (B s) ∧ neg = decide ((B s).head? = some 45) ∧ t.size ≤ 100 := by
    by_cases h : (B s).head? = some 45
    · refine ⟨s.extract 1 s.size, true, if_pos h, ?_, by simp [h], by rw [ByteArray.size_extract]; omega⟩
      rw [B_tail]; unfold behind; rw [if_pos h]
    · refine ⟨s, false, if_neg h, ?_, by simp [h], hs⟩
      unfold behind; rw [if_neg h]
  rw [ht]
  dsimp only
  have jt : ∀ b, num_Read.j0 (k + 1) t b true = some (0, 1) := by
    intro b; simp only [num_Read.j0, if_true]
  have hsz : t.size = (B t).length := (B_length t).symm
  have zt := zero_text s (B t) neg hT hneg
  have fin := read_fin t neg (k + 1) (by omega) (by omega)
  rw [Dec.readS_eq (B s) (B t) neg hT hneg]
  have hE : t.toList = ([] : List UInt8) ↔ B t = [] := toList_iff t []
  by_cases h0 : B t = []
  · rw [if_pos (hE.2 h0), jt, if_pos (.inl h0)]
  have hpos : 0 < t.size := by
    rcases Nat.eq_zero_or_pos t.size with h | h
    · exact absurd (List.eq_nil_of_length_eq_zero (by omega)) h0
    · exact h
  rw [if_neg (fun h => h0 (hE.1 h)), if_pos (by omega)]
  have hb := head_bt t hpos 48
  rw [show ((48 : Nat) : Int) = 48 from rfl] at hb
  have good : (¬ ((B t).head? = some 48 ∧ ((B t).length > 1 ∨ neg = true))) → num_Read.j0 (k + 1) t neg false = some (if B t = [] ∨ (B t).head? = some 48 ∧ ((B t).length > 1 ∨ neg = true) ∨ (B t).all isD = false then (0, 1) else Dec.num (if neg = true then -((val 0 (B t) : Nat) : Int) else ((val 0 (B t) : Nat) : Int))) := by
    intro hc
    rw [fin (fun h => by
      rcases Nat.lt_or_ge 1 t.size with g | g
      · exact absurd ⟨h, .inl (by omega)⟩ hc
      · exact g), num_eq]
    by_cases hd : (B t).all isD = true
    · have hno : ¬ (B t = [] ∨ (B t).head? = some 48 ∧ ((B t).length > 1 ∨ neg = true) ∨ (B t).all isD = false) := by
        rintro (h | h | h)
        · exact h0 h
        · exact hc h
        · rw [hd] at h; cases h
      rw [if_pos hd, if_neg (by omega), if_neg hno]
    · rw [if_neg hd, if_pos (.inr (.inr (by simpa using hd)))]
  by_cases h48 : (B t).head? = some 48
  · rw [if_pos (hb.2 h48)]
    have e : (s.toList != ([48] : List UInt8)) = decide ((B t).length > 1 ∨ neg = true) := by
      rw [Bool.eq_iff_iff, bne_iff_ne, decide_eq_true_eq, ne_eq, toList_iff, show (([48] : List UInt8).map UInt8.toNat) = [48] from rfl, zt h48, Classical.not_not]
    rw [e]
    by_cases hc : (B t).length > 1 ∨ neg = true
    · rw [decide_eq_true hc, jt, if_pos (.inr (.inl ⟨h48, hc⟩))]
    · rw [decide_eq_false hc]
      exact good (fun h => hc h.2)
  · rw [if_neg (fun h => h48 (hb.1 h))]
    exact good (fun h => h48 h.1)

/-- the reference reads: the number -/
theorem rsub_eq (a b : Int) (ha : In a) (hb : In b) : quaysideref01_Sub.f a b = some (num (a - b)) := by
  unfold quaysideref01_Sub.f
  rw [of_eq, of_eq, Option.bind_some, Option.bind_some, less_eq _ (by omega), Option.bind_some, plus_eq _ _ (by omega) (by omega), Option.bind_some, number_eq, Option.bind_some]
  rfl
theorem rneg_eq (a : Int) (ha : In a) : quaysideref01_Neg.f a = some (num (-a)) := by
  unfold quaysideref01_Neg.f
  rw [of_eq, Option.bind_some, less_eq _ (by omega), Option.bind_some, number_eq, Option.bind_some]
theorem val_ge (n : Nat) (l : List Nat) : n ≤ val n l := by
  have h := Dec.val_mono l n
  exact Nat.le_trans (Nat.le_mul_of_pos_right n (Nat.pow_pos (by decide))) h
theorem rread_l1 (t : ByteArray) (neg : Bool) (hd : (B t).all isD = true) (hs : t.size ≤ 1000) (d : Nat) : ∀ (k i n : Nat), 100 < k → i + d = t.size → n ≤ 9223372036854775808 →
    quaysideref01_Read.l1 (k + d + 1) neg t (-(n : Int)) (i : Int) = some (num (if neg = true then -((val n ((B t).drop i) : Nat) : Int) else ((val n ((B t).drop i) : Nat) : Int))) := by
  induction d with
  | zero =>
    intro k i n hk hi hn
    simp only [quaysideref01_Read.l1]
    rw [if_neg (by omega), List.drop_of_length_le (by rw [B_length]; omega)]
    cases neg
    · rw [if_neg (by decide), rneg_eq _ (by omega), Option.bind_some, Int.neg_neg]; rfl
    · rw [if_pos rfl, if_pos rfl]
      refine congrArg some ?_
      show (-(n : Int), (0 : Int)) = num (-(n : Int))
      unfold num; rw [if_pos (by omega)]
  | succ d ih =>
    intro k i n hk hi hn
    have hlt : i < t.size := by omega
    have hb := List.all_eq_true.1 hd _ (List.getElem_mem (l := B t) (n := i) (by rw [B_length]; exact hlt))
    show quaysideref01_Read.l1 ((k + d + 1) + 1) neg t (-(n : Int)) (i : Int) = _
    have ihk := fun n' => ih k (i + 1) n' hk (by omega)
    have hm : 68 < k + d + 1 := by omega
    generalize k + d + 1 = m at *
    simp only [quaysideref01_Read.l1]
    rw [if_pos (by omega), rmul_eq m _ _ (by omega) (by omega) hm, Option.bind_some, if_pos (by omega), bt_nat t i hlt, List.drop_eq_getElem_cons (l := B t) (i := i) (by rw [B_length]; exact hlt)]
    generalize (B t)[i]'(by rw [B_length]; exact hlt) = b at *
    have hb2 : 48 ≤ b ∧ b ≤ 57 := by simpa [isD] using hb
    have e : ((b : Int) - 48) % 256 = ((b - 48 : Nat) : Int) := by omega
    have ev : val n (b :: (B t).drop (i + 1)) = val (10 * n + (b - 48)) ((B t).drop (i + 1)) := rfl
    rw [e, ev]
    have hge := val_ge (10 * n + (b - 48)) ((B t).drop (i + 1))
    have over : 10 * n + (b - 48) > 9223372036854775808 → num (if neg = true then -((val (10 * n + (b - 48)) ((B t).drop (i + 1)) : Nat) : Int) else ((val (10 * n + (b - 48)) ((B t).drop (i + 1)) : Nat) : Int)) = (0, 10) := by
      intro h
      unfold num
      rw [if_neg]
      cases neg <;> simp only [Bool.false_eq_true, if_false, if_true] <;> omega
    by_cases h1 : In (-(n : Int) * 10)
    · rw [show num (-(n : Int) * 10) = (-(n : Int) * 10, 0) from if_pos h1]
      dsimp only
      rw [rsub_eq _ _ h1 (by omega), Option.bind_some, if_pos rfl]
      by_cases h2 : In (-(n : Int) * 10 - ((b - 48 : Nat) : Int))
      · rw [show num (-(n : Int) * 10 - ((b - 48 : Nat) : Int)) = (-(n : Int) * 10 - ((b - 48 : Nat) : Int), 0) from if_pos h2]
        dsimp only
        rw [if_pos rfl, show -(n : Int) * 10 - ((b - 48 : Nat) : Int) = -((10 * n + (b - 48) : Nat) : Int) by omega, show wrap64 ((i : Int) + 1) = ((i + 1 : Nat) : Int) by unfold wrap64; omega]
        exact ihk _ (by omega)
      · rw [show num (-(n : Int) * 10 - ((b - 48 : Nat) : Int)) = (0, 10) from if_neg h2]
        dsimp only
        rw [if_neg (by omega), over (by omega)]
    · rw [show num (-(n : Int) * 10) = (0, 10) from if_neg h1]
      dsimp only
      rw [rsub_eq _ _ (by omega) (by omega), Option.bind_some, if_neg (by omega), over (by omega)]
theorem rread_l0 (t : ByteArray) (neg : Bool) (hs : t.size ≤ 1000) (d : Nat) : ∀ (k i : Nat), i + d = t.size →
    quaysideref01_Read.l0 (k + d + 1) neg t (i : Int) = if ((B t).drop i).all isD = true then quaysideref01_Read.l1 k neg t 0 0 else some (0, 1) := by
  induction d with
  | zero =>
    intro k i hi
    simp only [quaysideref01_Read.l0]
    rw [if_neg (by omega), List.drop_of_length_le (by rw [B_length]; omega)]
    rfl
  | succ d ih =>
    intro k i hi
    have ihk := ih k (i + 1) (by omega)
    show quaysideref01_Read.l0 ((k + d + 1) + 1) neg t (i : Int) = _
    generalize k + d + 1 = m at *
    simp only [quaysideref01_Read.l0]
    have hlt : i < t.size := by omega
    rw [if_pos (by omega), if_pos (by omega), bt_nat t i hlt, List.drop_eq_getElem_cons (l := B t) (i := i) (by rw [B_length]; exact hlt), List.all_cons, show wrap64 ((i : Int) + 1) = ((i + 1 : Nat) : Int) by unfold wrap64; omega, ihk]
    generalize (B t)[i]'(by rw [B_length]; exact hlt) = b
    by_cases h1 : b < 48
    · rw [if_pos (by omega), if_neg]
      simp [isD]; omega
    · rw [if_neg (by omega)]
      by_cases h2 : b > 57
      · rw [if_pos (by omega), if_neg]
        simp [isD]; omega
      · rw [if_neg (by omega)]
        have : isD b = true := by simp [isD]; omega
        rw [this, Bool.true_and]
theorem rread_eq (s : ByteArray) (k : Nat) (hs : s.size ≤ 100) (hk : 500 < k) : quaysideref01_Read.f k s = some (readS (B s)) := by
  obtain ⟨k, rfl⟩ : ∃ m, k = m + 1 + 1 + 1 := ⟨k - 3, by omega⟩
  have key : ∀ (t : ByteArray) (neg : Bool), B t = behind (B s) → neg = decide ((B s).head? = some 45) → t.size ≤ 100 → quaysideref01_Read.j1 (k + 1 + 1) neg t = some (readS (B s)) := by
    intro t neg hT hneg hts
    have hsz : t.size = (B t).length := (B_length t).symm
    simp only [quaysideref01_Read.j1]
    have jt : quaysideref01_Read.j2 (k + 1) neg t true = some (0, 1) := by simp only [quaysideref01_Read.j2, if_true]
    have jf : quaysideref01_Read.j2 (k + 1) neg t false = some (if (B t).all isD = true then num (if neg = true then -((val 0 (B t) : Nat) : Int) else ((val 0 (B t) : Nat) : Int)) else (0, 1)) := by
      simp only [quaysideref01_Read.j2, Bool.false_eq_true, if_false]
      obtain ⟨q, rfl⟩ : ∃ q, k = (q + t.size + 1) + t.size + 1 := ⟨k - (t.size + 1 + t.size + 1), by omega⟩
      have h1 := rread_l0 t neg (by omega) t.size (q + t.size + 1) 0 (by omega)
      rw [show ((0 : Nat) : Int) = 0 from rfl, List.drop_zero] at h1
      rw [h1]
      by_cases hd : (B t).all isD = true
      · rw [if_pos hd, if_pos hd]
        have h2 := rread_l1 t neg hd (by omega) t.size q 0 0 (by omega) (by omega) (by omega)
        rw [show -((0 : Nat) : Int) = 0 from rfl, show ((0 : Nat) : Int) = 0 from rfl, List.drop_zero] at h2
        exact h2
      · rw [if_neg hd, if_neg hd]
    rw [Dec.readS_eq (B s) (B t) neg hT hneg]
    have hE : t.toList = ([] : List UInt8) ↔ B t = [] := toList_iff t []
    by_cases h0 : B t = []
    · rw [if_pos (hE.2 h0), jt, if_pos (.inl h0)]
    have hpos : 0 < t.size := by
      rcases Nat.eq_zero_or_pos t.size with h | h
      · exact absurd (List.eq_nil_of_length_eq_zero (by omega)) h0
      · exact h
    rw [if_neg (fun h => h0 (hE.1 h)), if_pos (by omega)]
    have hb := head_bt t hpos 48
    rw [show ((48 : Nat) : Int) = 48 from rfl] at hb
    have good : (¬ ((B t).head? = some 48 ∧ ((B t).length > 1 ∨ neg = true))) → quaysideref01_Read.j2 (k + 1) neg t false = some (if B t = [] ∨ (B t).head? = some 48 ∧ ((B t).length > 1 ∨ neg = true) ∨ (B t).all isD = false then (0, 1) else Dec.num (if neg = true then -((val 0 (B t) : Nat) : Int) else ((val 0 (B t) : Nat) : Int))) := by
      intro hc
      rw [jf, num_eq]
      by_cases hd : (B t).all isD = true
      · have hno : ¬ (B t = [] ∨ (B t).head? = some 48 ∧ ((B t).length > 1 ∨ neg = true) ∨ (B t).all isD = false) := by
          rintro (h | h | h)
          · exact h0 h
          · exact hc h
          · rw [hd] at h; cases h
        rw [if_pos hd, if_neg hno]
      · rw [if_neg hd, if_pos (.inr (.inr (by simpa using hd)))]
    by_cases h48 : (B t).head? = some 48
    · rw [if_pos (hb.2 h48)]
      by_cases h1 : (t.size : Int) > 1
      · rw [if_pos h1, jt, if_pos (.inr (.inl ⟨h48, .inl (by omega)⟩))]
      · rw [if_neg h1]
        by_cases hg : neg = true
        · have hc : (B t).head? = some 48 ∧ ((B t).length > 1 ∨ neg = true) := ⟨h48, .inr hg⟩
          rw [if_pos (.inr (.inl hc)), hg]
          rw [hg] at jt
          exact jt
        · have hf : neg = false := by simpa using hg
          have := good (fun h => by
            rcases h.2 with h | h
            · omega
            · exact hg h)
          rw [← this, hf]
    · rw [if_neg (fun h => h48 (hb.1 h))]
      exact good (fun h => h48 h.1)
  unfold quaysideref01_Read.f
  by_cases hp : (s.size : Int) > 0
  · rw [if_pos hp, if_pos (by omega)]
    have hb := head_bt s (by omega) 45
    rw [show ((45 : Nat) : Int) = 45 from rfl] at hb
    simp only [quaysideref01_Read.j0]
    by_cases h45 : (B s).head? = some 45
    · have e : (bt s 0 == 45) = true := beq_iff_eq.2 (hb.2 h45)
      rw [e, if_pos rfl, if_pos (by omega)]
      refine key _ _ ?_ (by simp [h45]) (by rw [ByteArray.size_extract]; omega)
      rw [B_tail]; unfold behind; rw [if_pos h45]
    · have e : (bt s 0 == 45) = false := beq_eq_false_iff_ne.2 (fun h => h45 (hb.1 h))
      rw [e, if_neg (by decide)]
      refine key _ _ ?_ (by simp [h45]) hs
      unfold behind; rw [if_neg h45]
  · rw [if_neg hp]
    have h45 : ¬ (B s).head? = some 45 := by
      have : B s = [] := List.eq_nil_of_length_eq_zero (by rw [B_length]; omega)
      rw [this]; simp
    simp only [quaysideref01_Read.j0]
    rw [if_neg (by decide)]
    refine key _ _ ?_ (by simp [h45]) hs
    unfold behind; rw [if_neg h45]

/-- the reference's text: turned round -/
theorem rtext_l1 (l : List Int) (hl : l.length ≤ 1000) (d : Nat) : ∀ k : Nat, d ≤ l.length →
    quaysideref01_Text.l1 (k + d + 1) l (l.drop d).reverse ((d : Int) - 1) = some (strOfNums l.reverse) := by
  induction d with
  | zero =>
    intro k hd
    simp only [quaysideref01_Text.l1]
    rw [if_neg (by omega), List.drop_zero]
  | succ d ih =>
    intro k hd
    have ihk := ih k (by omega)
    show quaysideref01_Text.l1 ((k + d + 1) + 1) l (l.drop (d + 1)).reverse (((d + 1 : Nat) : Int) - 1) = _
    generalize k + d + 1 = m at *
    simp only [quaysideref01_Text.l1]
    have hlt : d < l.length := by omega
    have er : rd l (((d + 1 : Nat) : Int) - 1) = l[d] := by unfold rd; rw [show (((d + 1 : Nat) : Int) - 1).toNat = d by omega, List.getD_eq_getElem?_getD, List.getElem?_eq_getElem hlt]; rfl
    rw [if_pos (by omega), if_pos (by omega), if_pos (by omega), if_pos (by rw [List.length_reverse, List.length_drop]; omega), er]
    have e : (l.drop (d + 1)).reverse ++ [l[d]] = (l.drop d).reverse := by rw [List.drop_eq_getElem_cons hlt, List.reverse_cons]
    rw [e, show wrap64 ((((d + 1 : Nat) : Int) - 1) - 1) = (d : Int) - 1 by unfold wrap64; omega]
    exact ihk
theorem rtext_j2 (l : List Int) (hl : l.length ≤ 1000) (k : Nat) (hk : l.length + 2 < k) : quaysideref01_Text.j2 k l = some (strOfNums l.reverse) := by
  obtain ⟨k, rfl⟩ : ∃ m, k = (m + l.length + 1) + 1 := ⟨k - (l.length + 1 + 1), by omega⟩
  have h := rtext_l1 l hl l.length k (by omega)
  rw [List.drop_length, List.reverse_nil] at h
  generalize k + l.length + 1 = m at *
  simp only [quaysideref01_Text.j2]
  rw [show wrap64 ((l.length : Int) - 1) = (l.length : Int) - 1 by unfold wrap64; omega]
  exact h
/-- what is left of a number, and its last digit -/
theorem parts (r : Int) (hr : In r) : wrap64 (Int.tdiv r 10) = Int.tdiv r 10 ∧ (Int.tdiv r 10).natAbs = r.natAbs / 10 ∧ In (Int.tdiv r 10) ∧
    (if Int.tmod r 10 < 0 then (wrap64 (48 + wrap64 (-(Int.tmod r 10)))) % 256 else (wrap64 (48 + Int.tmod r 10)) % 256) = ((48 + r.natAbs % 10 : Nat) : Int) := by
  rcases Int.le_total 0 r with h | h
  · rw [Int.tdiv_eq_ediv_of_nonneg h, Int.tmod_eq_emod_of_nonneg h]
    refine ⟨by unfold wrap64; omega, by omega, by omega, ?_⟩
    rw [if_neg (by omega)]; unfold wrap64; omega
  · obtain ⟨v, hv⟩ := Int.eq_ofNat_of_zero_le (show 0 ≤ -r by omega)
    obtain rfl : r = -(v : Int) := by omega
    rw [Int.neg_tdiv, Int.neg_tmod, Int.tdiv_eq_ediv_of_nonneg (by omega), Int.tmod_eq_emod_of_nonneg (by omega)]
    refine ⟨by unfold wrap64; omega, by omega, by omega, ?_⟩
    split
    · have e : wrap64 (-(-((v : Int) % 10))) = (v : Int) % 10 := by unfold wrap64; omega
      rw [e]; unfold wrap64; omega
    · unfold wrap64; omega
theorem rtext_l0 (n : Int) (f : Nat) : ∀ (k : Nat) (l : List Int) (r : Int), In r → l.length + f ≤ 900 → 1000 < k → r.natAbs < 10 ^ f → (l = [] → 1 ≤ f) →
    quaysideref01_Text.l0 (k + 2 * f + 1 + 1) n l r = some (strOfNums ((if n < 0 then [45] else []) ++ (if l = [] ∨ r.natAbs ≠ 0 then digf f r.natAbs else []) ++ l.reverse)) := by
  have fin : ∀ (m : Nat) (l : List Int) (r : Int), l.length ≤ 900 → 950 < m → l ≠ [] → r = 0 → quaysideref01_Text.l0 (m + 1 + 1) n l r = some (strOfNums ((if n < 0 then [45] else []) ++ l.reverse)) := by
    intro m l r hl hm hne hr
    have hlen : l.length ≠ 0 := fun h => hne (List.eq_nil_of_length_eq_zero h)
    have e : ((l.length : Int) == 0) = false := beq_eq_false_iff_ne.2 (by omega)
    generalize hq : m + 1 = q
    simp only [quaysideref01_Text.l0]
    rw [if_pos hr, e, ← hq]
    simp only [quaysideref01_Text.j1]
    rw [if_neg (by decide)]
    by_cases hn : n < 0
    · rw [if_pos hn, if_pos (by omega), if_pos hn, rtext_j2 _ (by simp; omega) _ (by simp; omega), List.reverse_append]; rfl
    · rw [if_neg hn, if_neg hn, rtext_j2 l (by omega) _ (by omega)]; rfl
  induction f with
  | zero =>
    intro k l r hr hl hk hv h1
    have hne : l ≠ [] := fun h => by have := h1 h; omega
    have hz : r.natAbs = 0 := by simpa using hv
    have hno : ¬ (l = [] ∨ r.natAbs ≠ 0) := by
      rintro (h | h)
      · exact hne h
      · exact h hz
    rw [fin (k + 2 * 0) l r (by omega) (by omega) hne (by omega), if_neg hno, List.append_nil]
  | succ f ih =>
    intro k l r hr hl hk hv h1
    by_cases hc : l = [] ∨ r.natAbs ≠ 0
    · rw [if_pos hc]
      obtain ⟨p1, p2, p3, p4⟩ := parts r hr
      have ihk := ih k (l ++ [((48 + r.natAbs % 10 : Nat) : Int)]) (Int.tdiv r 10) p3 (by simp; omega) hk (by rw [p2]; rw [Nat.pow_succ] at hv; omega) (fun h => by simp at h)
      rw [show k + 2 * (f + 1) + 1 + 1 = (k + 2 * f + 1 + 1) + 1 + 1 by omega]
      generalize k + 2 * f + 1 + 1 = m at *
      have step : quaysideref01_Text.l0 (m + 1 + 1) n l r = quaysideref01_Text.j1 (m + 1) n l r true := by
        generalize hq : m + 1 = q
        simp only [quaysideref01_Text.l0]
        by_cases h0 : r = 0
        · rw [if_pos h0]
          have : l = [] := by
            rcases hc with h | h
            · exact h
            · exact absurd (by omega) h
          subst this; rfl
        · rw [if_neg h0]
      rw [step]
      have jstep : quaysideref01_Text.j1 (m + 1) n l r true = quaysideref01_Text.l0 m n (l ++ [((48 + r.natAbs % 10 : Nat) : Int)]) (Int.tdiv r 10) := by
        simp only [quaysideref01_Text.j1, if_true]
        by_cases ht : Int.tmod r 10 < 0
        · rw [if_pos ht] at p4 ⊢
          rw [if_pos (by omega), p4, p1]
        · rw [if_neg ht] at p4 ⊢
          rw [if_pos (by omega), p4, p1]
      rw [jstep, ihk, p2]
      congr 2
      rw [List.append_assoc, List.append_assoc, List.reverse_append]
      congr 1
      rw [show ([((48 + r.natAbs % 10 : Nat) : Int)] : List Int).reverse = [((48 + r.natAbs % 10 : Nat) : Int)] from rfl]
      rw [digf]
      by_cases h10 : r.natAbs < 10
      · rw [if_pos h10, if_neg]
        · rw [List.nil_append, show r.natAbs % 10 = r.natAbs by omega]
          simp
        · rintro (h | h)
          · simp at h
          · omega
      · rw [if_neg h10, if_pos (.inr (by omega)), List.append_assoc]
        simp
    · rw [if_neg hc]
      have hne : l ≠ [] := fun h => hc (.inl h)
      have hz : r = 0 := by
        rcases Int.lt_trichotomy r 0 with h | h | h
        · exact absurd (.inr (by omega)) hc
        · exact h
        · exact absurd (.inr (by omega)) hc
      have h := fin (k + 2 * (f + 1)) l r (by omega) (by omega) hne hz
      rw [h, List.append_nil]
theorem rtext_eq (n : Int) (hn : In n) (k : Nat) (hk : 2000 < k) : quaysideref01_Text.f k n = num_Text.f n := by
  obtain ⟨k, rfl⟩ : ∃ m, k = m + 2 * 20 + 1 + 1 := ⟨k - 42, by omega⟩
  unfold quaysideref01_Text.f
  rw [rtext_l0 n 20 k [] n hn (by simp) (by omega) (by omega) (by simp), text_eq n hn, if_pos (show (([] : List Int) = [] ∨ n.natAbs ≠ 0) from .inl rfl), List.reverse_nil, List.append_nil]
  unfold textS
  rw [digf_eq, List.map_append]
  congr 3
  by_cases h0 : n < 0 <;> simp [h0]

theorem NumTexts : quaysidelaw01_NumTexts.Pure := by
  intro n s wn _
  have hn := wf64 wn
  refine ⟨3000, ?_⟩
  unfold quaysidelaw01_NumTexts.f
  by_cases h : (s.size : Int) > 100
  · rw [if_pos h, text_eq (-10) (by omega), Option.bind_some]
    refine congrArg some ?_
    rw [beq_iff_eq, toList_iff, B_nums _ (textS_lt _)]
    decide +kernel
  · rw [if_neg h]
    obtain ⟨t, ht⟩ : ∃ t, num_Text.f n = some t := ⟨_, text_eq n hn⟩
    have hB := B_text n t hn ht
    have hts : t.size ≤ 100 := by
      rw [← B_length, hB]
      unfold textS
      have hl : ∀ f k : Nat, (digN f k).length ≤ f := by
        intro f
        induction f with
        | zero => intro k; simp [digN]
        | succ f ih =>
          intro k
          unfold digN
          split
          · simp
          · have := ih (k / 10); simp; omega
      have := hl 20 n.natAbs
      rw [List.length_append]
      split <;> simp <;> omega
    rw [rtext_eq n hn _ (by omega), ht, Option.bind_some, read_eq s _ (by omega) (by omega), rread_eq s _ (by omega) (by omega), read_eq t _ hts (by omega), hB, read_text n hn]
    simp only [Option.bind_some, if_true]
    by_cases h0 : (readS (B s)).2 = 0
    · rw [if_pos h0]
      have hr : readS (B s) = ((readS (B s)).1, 0) := Prod.ext rfl h0
      have hin : In (readS (B s)).1 := by
        have : ∀ p : Int, p = p := fun _ => rfl
        unfold readS
        split
        · dsimp only; omega
        · unfold Dec.num
          generalize (if (B s).head? = some 45 then -((val 0 (behind (B s)) : Nat) : Int) else ((val 0 (behind (B s)) : Nat) : Int)) = w
          split
          · dsimp only; omega
          · dsimp only; omega
      have hts := text_read (B s) _ hr
      rw [text_eq _ hin, Option.bind_some]
      refine congrArg some ?_
      rw [beq_iff_eq, toList_iff, B_nums _ (textS_lt _), hts, ByteArray.toList_eq]; rfl
    · rw [if_neg h0]

end Go.Proofs.Ytjffpanpjjlkaaa.Pure
