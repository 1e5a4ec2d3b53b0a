/- The law NumMuls holds of every pair of numbers: the program's product is the reference's, the other way round too. Condition: both are numbers of 64 bits. -/
import Derived.Test.YtjffpanpjjlkaaaPNumMulsx2
import Derived.Test.YtjffpanpjjlkaaaAid
import Derived.Laws.MathBits
namespace Go.Proofs.Ytjffpanpjjlkaaa.Pure
open Go.RowKit Go.Proofs.Ytjffpanpjjlkaaa.PNumMuls Go.Proofs.YtjffpanpjjlkaaaW.PrintWords Go.Proofs.YtjffpanpjjlkaaaW.PrintLast
open Go.Proofs.Ytjffpanpjjlkaaa.Aid
set_option linter.unusedVariables false
set_option linter.unusedSimpArgs false

/-- a number, or that it is none -/
def num (n : Int) : Int × Int := if -9223372036854775808 ≤ n ∧ n ≤ 9223372036854775807 then (n, 0) else (0, 10)
/-- is it a number of 64 bits? -/
abbrev In (a : Int) : Prop := -9223372036854775808 ≤ a ∧ a ≤ 9223372036854775807

theorem wrapu (n : Int) : Go.IntKind.u64.wrap n = n % 18446744073709551616 := by
  simp [IntKind.wrap, IntKind.bits, IntKind.signed]
/-- a number without its sign -/
def mag (a : Int) : Int := if a < 0 then -a else a
theorem mag_in (a : Int) (ha : In a) : 0 ≤ mag a ∧ mag a ≤ 9223372036854775808 := by unfold mag; split <;> omega
theorem size_eq (a : Int) (ha : In a) : num_size.f a = some (mag a) := by
  unfold num_size.f mag
  simp only [wrapu]
  split
  all_goals (refine congrArg some ?_; omega)
theorem signed_eq (k : Nat) (n : Int) (b : Bool) (h0 : 0 ≤ n) (h1 : n < 18446744073709551616) : num_signed.f (k + 1) n b = some (num (if b = true then -n else n)) := by
  unfold num_signed.f
  simp only [num_signed.j0, wrapu]
  cases b
  · simp only [Bool.false_eq_true, if_false]
    by_cases h : n < 9223372036854775808
    · rw [if_pos h]; unfold num wrap64; rw [if_pos (by omega)]; refine congrArg some (Prod.ext ?_ ?_) <;> dsimp only <;> omega
    · rw [if_neg h]; unfold num; rw [if_neg (by omega)]
  · simp only [if_true, decide_eq_true_eq]
    by_cases h : n ≤ 9223372036854775808
    · rw [if_pos h]; unfold num wrap64; rw [if_pos (by omega)]; refine congrArg some (Prod.ext ?_ ?_) <;> dsimp only <;> omega
    · rw [if_neg h]; unfold num; rw [if_neg (by omega)]

theorem mul64_eq (x y : Int) (hx : 0 ≤ x ∧ x < 18446744073709551616) (hy : 0 ≤ y ∧ y < 18446744073709551616) :
    bits_Mul64.f x y = some (x * y / 18446744073709551616, x * y % 18446744073709551616) := by
  unfold bits_Mul64.f
  simp only [wrapu]
  rw [and_low32 x hx.1 hx.2, and_low32 y hy.1 hy.2]
  rw [and_low32 _ (Int.emod_nonneg _ (by omega)) (Int.emod_lt_of_pos _ (by omega))]
  have h := mul64_arith x y hx.1 hx.2 hy.1 hy.2
  exact congrArg some (Prod.ext h rfl)
/-- the product of two numbers is that of their sizes, or it with the other sign -/
theorem mag_mul (a b : Int) : (if ((decide (a < 0)) != (decide (b < 0))) = true then -(mag a * mag b) else mag a * mag b) = a * b := by
  unfold mag
  by_cases h1 : a < 0 <;> by_cases h2 : b < 0 <;> simp [h1, h2, Int.neg_mul, Int.mul_neg]
theorem mul_eq (k : Nat) (a b : Int) (ha : In a) (hb : In b) : num_Mul.f (k + 1) a b = some (num (a * b)) := by
  have sa := mag_in a ha
  have sb := mag_in b hb
  unfold num_Mul.f
  rw [size_eq a ha, size_eq b hb]
  simp only [Option.bind_some]
  rw [mul64_eq _ _ (by omega) (by omega)]
  simp only [Option.bind_some]
  have hm := mag_mul a b
  have hp : 0 ≤ mag a * mag b := Int.mul_nonneg sa.1 sb.1
  generalize mag a * mag b = m at *
  by_cases h : m / 18446744073709551616 = 0
  · rw [if_pos h, show m % 18446744073709551616 = m by omega, signed_eq k m _ hp (by omega)]
    simp only [Option.bind_some]
    rw [hm]
  · rw [if_neg h]
    refine congrArg some ?_
    unfold num
    rw [if_neg]
    rw [← hm]
    split <;> omega

/-- a number as the reference holds it -/
def W (n : Int) : Int × Int := (n / 4611686018427387904, n % 4611686018427387904)
/-- is a number within what the reference reckons with? -/
abbrev Mid (a : Int) : Prop := -36893488147419103232 ≤ a ∧ a ≤ 36893488147419103232
theorem of_eq (a : Int) : quaysideref01_of.f a = some (W a) := by
  unfold quaysideref01_of.f W
  rw [and62]
theorem plus_eq (m n : Int) (hm : Mid m) (hn : Mid n) : quaysideref01_plus.f (W m).1 (W m).2 (W n).1 (W n).2 = some (W (m + n)) := by
  unfold quaysideref01_plus.f W wrap64
  dsimp only
  split
  all_goals (refine congrArg some (Prod.ext ?_ ?_) <;> dsimp only <;> omega)
theorem less_eq (n : Int) (hn : Mid n) : quaysideref01_less.f (W n).1 (W n).2 = some (W (-n)) := by
  unfold quaysideref01_less.f W wrap64
  dsimp only
  split
  all_goals (refine congrArg some (Prod.ext ?_ ?_) <;> dsimp only <;> omega)
theorem number_eq (n : Int) : quaysideref01_number.f (W n).1 (W n).2 = some (num n) := by
  unfold quaysideref01_number.f num W
  dsimp only
  split
  · rw [if_neg (by omega)]
  split
  · rw [if_neg (by omega)]
  rw [or_join _ _ (by omega) (by omega) (by omega) (by omega), if_pos (by omega)]
  refine congrArg some (Prod.ext ?_ rfl)
  dsimp only; omega

theorem and1 (x : Int) : Go.bits .and .i64 x 1 = x % 2 := and_mask x 1 (by decide)
theorem bit_eq (n i : Nat) (hn : n ≤ 9223372036854775808) (hi : i ≤ 63) : quaysideref01_bit.f (W (n : Int)).1 (W (n : Int)).2 (i : Int) = some (n / 2 ^ i % 2 == 1) := by
  unfold quaysideref01_bit.f W
  dsimp only
  by_cases h : (i : Int) ≥ 62
  · rw [if_pos h]
    have e : wrap64 ((i : Int) - 62) = ((i - 62 : Nat) : Int) := by unfold wrap64; omega
    rw [e, if_pos (by omega), and1]
    unfold shr
    rw [Nat.min_eq_left (by rw [Int.toNat_natCast]; show i - 62 ≤ 64; omega), Int.toNat_natCast]
    have e2 : (n : Int) / 4611686018427387904 / 2 ^ (i - 62) = ((n / 2 ^ i : Nat) : Int) := by
      obtain ⟨j, rfl⟩ : ∃ j, i = 62 + j := ⟨i - 62, by omega⟩
      rw [show 62 + j - 62 = j by omega, Nat.pow_add, ← Nat.div_div_eq_div_mul, Int.natCast_ediv, Int.natCast_ediv]
      rfl
    rw [e2]
    refine congrArg some ?_
    rw [Bool.eq_iff_iff, beq_iff_eq, beq_iff_eq]; omega
  · rw [if_neg h, if_pos (by omega), and1]
    unfold shr
    rw [Nat.min_eq_left (by rw [Int.toNat_natCast]; show i ≤ 64; omega), Int.toNat_natCast]
    have e2 : (n : Int) % 4611686018427387904 / 2 ^ i = ((n % 2 ^ 62 / 2 ^ i : Nat) : Int) := by
      rw [Int.natCast_ediv, Int.natCast_emod]
      rfl
    rw [e2]
    refine congrArg some ?_
    have t := Nat.testBit_mod_two_pow n 62 i
    rw [Nat.testBit_eq_decide_div_mod_eq, Nat.testBit_eq_decide_div_mod_eq, decide_eq_true (show i < 62 by omega), Bool.true_and, decide_eq_decide] at t
    rw [Bool.eq_iff_iff, beq_iff_eq, beq_iff_eq]; omega

/-- the rounds of the reference's product: X is not above 0, n not below -/
theorem l0_eq (a b X : Int) (n : Nat) (hX : -9223372036854775808 ≤ X ∧ X ≤ 0) (hn : n ≤ 9223372036854775808)
    (hP : a * b = if ((decide (a > 0)) == (decide (b > 0))) = true then -(X * n) else X * n) (i : Nat) : ∀ k : Nat, i < k → i ≤ 64 → -9223372036854775808 ≤ X * ((n / 2 ^ i : Nat) : Int) →
    quaysideref01_Mul.l0 k a b ((i : Int) - 1) (W X).1 (W X).2 (W (-(n : Int))).1 (W (-(n : Int))).2 (W (X * ((n / 2 ^ i : Nat) : Int))).1 (W (X * ((n / 2 ^ i : Nat) : Int))).2 = some (num (a * b)) := by
  induction i with
  | zero =>
    intro k hk _ hs
    obtain ⟨k, rfl⟩ : ∃ m, k = m + 1 := ⟨k - 1, by omega⟩
    simp only [quaysideref01_Mul.l0]
    rw [if_neg (by omega)]
    rw [Nat.pow_zero, Nat.div_one] at hs ⊢
    have hle : X * (n : Int) ≤ 0 := Int.mul_nonpos_of_nonpos_of_nonneg hX.2 (by omega)
    generalize X * (n : Int) = S at *
    split
    · rename_i h
      rw [if_pos h] at hP
      rw [less_eq _ (by omega)]
      simp only [Option.bind_some]
      rw [number_eq]
      simp only [Option.bind_some]
      rw [hP]
    · rename_i h
      rw [if_neg h] at hP
      rw [number_eq]
      simp only [Option.bind_some]
      rw [hP]
  | succ i ih =>
    intro k hk hi hs
    obtain ⟨k, rfl⟩ : ∃ m, k = m + 1 := ⟨k - 1, by omega⟩
    simp only [quaysideref01_Mul.l0]
    rw [if_pos (by omega)]
    have q0 : n / 2 ^ (i + 1) = n / 2 ^ i / 2 := by rw [Nat.pow_succ, Nat.div_div_eq_div_mul]
    have hmono : ((n / 2 ^ i : Nat) : Int) ≤ (n : Int) := by have := Nat.div_le_self n (2 ^ i); omega
    rw [q0] at hs ⊢
    have hbit := bit_eq n i hn (by omega)
    have hih := ih k (by omega) (by omega)
    generalize hq : n / 2 ^ i = q at *
    have hle : X * ((q / 2 : Nat) : Int) ≤ 0 := Int.mul_nonpos_of_nonpos_of_nonneg hX.2 (by omega)
    rw [plus_eq _ _ (by omega) (by omega)]
    simp only [Option.bind_some]
    rw [less_eq _ (by omega)]
    simp only [Option.bind_some]
    rw [show (-(-(n : Int))) = (n : Int) by omega, show ((i + 1 : Nat) : Int) - 1 = (i : Int) by omega, hbit]
    simp only [Option.bind_some]
    have hw : wrap64 ((i : Int) - 1) = (i : Int) - 1 := by unfold wrap64; omega
    have hex : ∀ T : Int, T = X * (q : Int) → T < -9223372036854775808 → some ((0 : Int), (10 : Int)) = some (num (a * b)) := by
      intro T hT hlt
      have hb : X * (n : Int) ≤ X * (q : Int) := Int.mul_le_mul_of_nonpos_left hX.2 hmono
      unfold num
      rw [if_neg]
      rw [hP]
      generalize X * (n : Int) = S at *
      split <;> omega
    by_cases hb : q % 2 = 1
    · rw [if_pos (by rw [beq_iff_eq]; exact hb)]
      rw [plus_eq _ _ (by omega) (by omega)]
      simp only [Option.bind_some]
      have hv : X * ((q / 2 : Nat) : Int) + X * ((q / 2 : Nat) : Int) + X = X * (q : Int) := by
        have : (q : Int) = ((q / 2 : Nat) : Int) + ((q / 2 : Nat) : Int) + 1 := by omega
        rw [this, Int.mul_add, Int.mul_add, Int.mul_one]
      rw [hv, hw]
      by_cases hlt : X * (q : Int) < -9223372036854775808
      · rw [if_pos (by unfold W; dsimp only; omega)]
        exact hex _ rfl hlt
      · rw [if_neg (by unfold W; dsimp only; omega)]
        exact hih (by omega)
    · rw [if_neg (by rw [beq_iff_eq]; exact hb)]
      have hv : X * ((q / 2 : Nat) : Int) + X * ((q / 2 : Nat) : Int) = X * (q : Int) := by
        have : (q : Int) = ((q / 2 : Nat) : Int) + ((q / 2 : Nat) : Int) := by omega
        rw [this, Int.mul_add]
      rw [hv, hw]
      by_cases hlt : X * (q : Int) < -9223372036854775808
      · rw [if_pos (by unfold W; dsimp only; omega)]
        exact hex _ rfl hlt
      · rw [if_neg (by unfold W; dsimp only; omega)]
        exact hih (by omega)

theorem rmul_eq (k : Nat) (a b : Int) (ha : In a) (hb : In b) (hk : 68 < k) : quaysideref01_Mul.f k a b = some (num (a * b)) := by
  obtain ⟨k, rfl⟩ : ∃ m, k = m + 1 + 1 + 1 := ⟨k - 3, by omega⟩
  have key : quaysideref01_Mul.f (k + 1 + 1 + 1) a b = quaysideref01_Mul.j0 (k + 1 + 1 + 1) a b (a == 0 || b == 0) := by
    unfold quaysideref01_Mul.f
    by_cases h : a = 0
    · rw [if_pos h]; simp [h]
    · rw [if_neg h, show (a == 0) = false from beq_eq_false_iff_ne.2 h, Bool.false_or]
  rw [key]
  simp only [quaysideref01_Mul.j0]
  by_cases h0 : (a == 0 || b == 0) = true
  · rw [if_pos h0]
    have : a * b = 0 := by
      rcases Bool.or_eq_true_iff.1 h0 with h | h
      · rw [beq_iff_eq.1 h, Int.zero_mul]
      · rw [beq_iff_eq.1 h, Int.mul_zero]
    rw [this]; rfl
  rw [if_neg h0]
  have hnz : a ≠ 0 ∧ b ≠ 0 := by
    refine ⟨fun h => h0 (by simp [h]), fun h => h0 (by simp [h])⟩
  rw [of_eq, of_eq]
  simp only [Option.bind_some]
  have sa := mag_in a ha
  have sb := mag_in b hb
  obtain ⟨n, hn⟩ := Int.eq_ofNat_of_zero_le sb.1
  have fin : ∀ X Y : Int, X = -mag a → Y = -mag b → quaysideref01_Mul.j2 (k + 1) a b (W X).1 (W X).2 (W Y).1 (W Y).2 = some (num (a * b)) := by
    intro X Y hX hY
    simp only [quaysideref01_Mul.j2]
    have e := l0_eq a b X n (by omega) (by omega) (by
      rw [hX, ← hn]
      unfold mag
      by_cases g1 : a < 0 <;> by_cases g2 : b < 0
      · rw [if_pos g1, if_pos g2, if_pos (by rw [beq_iff_eq, decide_eq_decide]; omega)]; simp [Int.neg_mul, Int.mul_neg]
      · rw [if_pos g1, if_neg g2, if_neg (by rw [beq_iff_eq, decide_eq_decide]; omega)]; simp [Int.neg_mul, Int.mul_neg]
      · rw [if_neg g1, if_pos g2, if_neg (by rw [beq_iff_eq, decide_eq_decide]; omega)]; simp [Int.neg_mul, Int.mul_neg]
      · rw [if_neg g1, if_neg g2, if_pos (by rw [beq_iff_eq, decide_eq_decide]; omega)]; simp [Int.neg_mul, Int.mul_neg]) 64 k (by omega) (by omega) (by
      rw [Nat.div_eq_of_lt (show n < 2 ^ 64 by omega)]; simp)
    rw [Nat.div_eq_of_lt (show n < 2 ^ 64 by omega)] at e
    rw [show X * ((0 : Nat) : Int) = 0 by simp] at e
    rw [show Y = -(n : Int) by omega]
    exact e
  have fin1 : ∀ X Y : Int, X = -mag a → Y = b → quaysideref01_Mul.j1 (k + 1 + 1) a b (W X).1 (W X).2 (W Y).1 (W Y).2 = some (num (a * b)) := by
    intro X Y hX hY
    simp only [quaysideref01_Mul.j1]
    split
    · rw [less_eq _ (by omega)]
      simp only [Option.bind_some]
      exact fin _ _ hX (by unfold mag; rw [if_neg (by omega)]; omega)
    · exact fin _ _ hX (by unfold mag; rw [if_pos (by omega)]; omega)
  split
  · rw [less_eq _ (by omega)]
    simp only [Option.bind_some]
    exact fin1 _ _ (by unfold mag; rw [if_neg (by omega)]) rfl
  · exact fin1 _ _ (by unfold mag; rw [if_pos (by omega)]; omega) rfl

theorem NumMuls : quaysidelaw01_NumMuls.Pure := by
  intro a b wa wb
  have ha := wf64 wa
  have hb := wf64 wb
  refine ⟨69 + 1, ?_⟩
  unfold quaysidelaw01_NumMuls.f
  rw [mul_eq 69 a b ha hb, rmul_eq _ a b ha hb (by omega), mul_eq 69 b a hb ha, mul_eq 69 6 7 (by omega) (by omega), Int.mul_comm b a]
  simp [num]

end Go.Proofs.Ytjffpanpjjlkaaa.Pure
