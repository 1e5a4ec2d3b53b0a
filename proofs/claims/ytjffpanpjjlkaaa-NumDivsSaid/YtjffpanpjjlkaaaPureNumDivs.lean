/- The law NumDivs holds of every pair of numbers: quotient and rest are the reference's, and the quotient times b and the rest are a. Condition: both are numbers of 64 bits. -/
import Derived.Test.YtjffpanpjjlkaaaPNumDivsx1
import Derived.Test.YtjffpanpjjlkaaaAid
import Derived.Laws.MathBits
namespace Go.Proofs.Ytjffpanpjjlkaaa.Pure
open Go.RowKit Go.Proofs.Ytjffpanpjjlkaaa.PNumDivs Go.Proofs.YtjffpanpjjlkaaaW.PrintWords Go.Proofs.YtjffpanpjjlkaaaW.PrintLast
open Go.Proofs.Ytjffpanpjjlkaaa.Aid
set_option linter.unusedVariables false
set_option linter.unusedSimpArgs false

/-- a number, or that it is none -/
def num (n : Int) : Int × Int := if -9223372036854775808 ≤ n ∧ n ≤ 9223372036854775807 then (n, 0) else (0, 10)
/-- is it a number of 64 bits? -/
abbrev In (a : Int) : Prop := -9223372036854775808 ≤ a ∧ a ≤ 9223372036854775807

theorem add_eq (a b : Int) (ha : In a) (hb : In b) : num_Add.f a b = some (num (a + b)) := by
  unfold num_Add.f num wrap64
  simp only [beq_iff_eq, bne_iff_ne, decide_eq_decide, ne_eq]
  repeat' split
  all_goals first | omega | (refine congrArg some (Prod.ext ?_ ?_) <;> dsimp only <;> omega)

theorem wrapu (n : Int) : Go.IntKind.u64.wrap n = n % 18446744073709551616 := by
  simp [IntKind.wrap, IntKind.bits, IntKind.signed]
/-- a number without its sign -/
def mag (a : Int) : Int := if a < 0 then -a else a
theorem mag_in (a : Int) (ha : In a) : 0 ≤ mag a ∧ mag a ≤ 9223372036854775808 := by unfold mag; split <;> omega
theorem size_eq (a : Int) (ha : In a) : num_size.f a = some (mag a) := by
  unfold num_size.f mag
  simp only [wrapu]
  split
  all_goals (refine congrArg some ?_; omega)
theorem signed_eq (k : Nat) (n : Int) (b : Bool) (h0 : 0 ≤ n) (h1 : n < 18446744073709551616) : num_signed.f (k + 1) n b = some (num (if b = true then -n else n)) := by
  unfold num_signed.f
  simp only [num_signed.j0, wrapu]
  cases b
  · simp only [Bool.false_eq_true, if_false]
    by_cases h : n < 9223372036854775808
    · rw [if_pos h]; unfold num wrap64; rw [if_pos (by omega)]; refine congrArg some (Prod.ext ?_ ?_) <;> dsimp only <;> omega
    · rw [if_neg h]; unfold num; rw [if_neg (by omega)]
  · simp only [if_true, decide_eq_true_eq]
    by_cases h : n ≤ 9223372036854775808
    · rw [if_pos h]; unfold num wrap64; rw [if_pos (by omega)]; refine congrArg some (Prod.ext ?_ ?_) <;> dsimp only <;> omega
    · rw [if_neg h]; unfold num; rw [if_neg (by omega)]

theorem mul64_eq (x y : Int) (hx : 0 ≤ x ∧ x < 18446744073709551616) (hy : 0 ≤ y ∧ y < 18446744073709551616) :
    bits_Mul64.f x y = some (x * y / 18446744073709551616, x * y % 18446744073709551616) := by
  unfold bits_Mul64.f
  simp only [wrapu]
  rw [and_low32 x hx.1 hx.2, and_low32 y hy.1 hy.2]
  rw [and_low32 _ (Int.emod_nonneg _ (by omega)) (Int.emod_lt_of_pos _ (by omega))]
  have h := mul64_arith x y hx.1 hx.2 hy.1 hy.2
  exact congrArg some (Prod.ext h rfl)
/-- the product of two numbers is that of their sizes, or it with the other sign -/
theorem mag_mul (a b : Int) : (if ((decide (a < 0)) != (decide (b < 0))) = true then -(mag a * mag b) else mag a * mag b) = a * b := by
  unfold mag
  by_cases h1 : a < 0 <;> by_cases h2 : b < 0 <;> simp [h1, h2, Int.neg_mul, Int.mul_neg]
theorem mul_eq (k : Nat) (a b : Int) (ha : In a) (hb : In b) : num_Mul.f (k + 1) a b = some (num (a * b)) := by
  have sa := mag_in a ha
  have sb := mag_in b hb
  unfold num_Mul.f
  rw [size_eq a ha, size_eq b hb]
  simp only [Option.bind_some]
  rw [mul64_eq _ _ (by omega) (by omega)]
  simp only [Option.bind_some]
  have hm := mag_mul a b
  have hp : 0 ≤ mag a * mag b := Int.mul_nonneg sa.1 sb.1
  generalize mag a * mag b = m at *
  by_cases h : m / 18446744073709551616 = 0
  · rw [if_pos h, show m % 18446744073709551616 = m by omega, signed_eq k m _ hp (by omega)]
    simp only [Option.bind_some]
    rw [hm]
  · rw [if_neg h]
    refine congrArg some ?_
    unfold num
    rw [if_neg]
    rw [← hm]
    split <;> omega

theorem tdiv_mag (a b : Int) : (if ((decide (a < 0)) != (decide (b < 0))) = true then -(Int.tdiv (mag a) (mag b)) else Int.tdiv (mag a) (mag b)) = Int.tdiv a b := by
  unfold mag
  by_cases h1 : a < 0 <;> by_cases h2 : b < 0 <;> simp [h1, h2, Int.neg_tdiv, Int.tdiv_neg]
theorem tmod_mag (a b : Int) : (if (decide (a < 0)) = true then -(Int.tmod (mag a) (mag b)) else Int.tmod (mag a) (mag b)) = Int.tmod a b := by
  unfold mag
  by_cases h1 : a < 0 <;> by_cases h2 : b < 0 <;> simp [h1, h2, Int.neg_tmod, Int.tmod_neg]
theorem div_eq (k : Nat) (a b : Int) (ha : In a) (hb : In b) : num_Div.f (k + 1) a b = some (if b = 0 then (0, 11) else num (Int.tdiv a b)) := by
  have sa := mag_in a ha
  have sb := mag_in b hb
  unfold num_Div.f
  split
  · rfl
  rename_i hz
  have hmz : mag b ≠ 0 := by unfold mag; split <;> omega
  rw [size_eq a ha, size_eq b hb]
  simp only [Option.bind_some]
  rw [if_neg hmz, wrapu]
  have hd := tdiv_mag a b
  have h0 : 0 ≤ Int.tdiv (mag a) (mag b) := Int.tdiv_nonneg sa.1 sb.1
  have h1 : Int.tdiv (mag a) (mag b) ≤ mag a := Int.tdiv_le_self _ sa.1
  rw [Int.emod_eq_of_lt h0 (by omega), signed_eq k _ _ h0 (by omega)]
  simp only [Option.bind_some]
  rw [hd]
theorem mod_eq (k : Nat) (a b : Int) (ha : In a) (hb : In b) : num_Mod.f (k + 1) a b = some (if b = 0 then (0, 11) else num (Int.tmod a b)) := by
  have sa := mag_in a ha
  have sb := mag_in b hb
  unfold num_Mod.f
  split
  · rfl
  rename_i hz
  have hmz : 0 < mag b := by unfold mag; split <;> omega
  rw [size_eq a ha, size_eq b hb]
  simp only [Option.bind_some]
  rw [if_neg (by omega)]
  have hd := tmod_mag a b
  have h0 : 0 ≤ Int.tmod (mag a) (mag b) := Int.tmod_nonneg _ sa.1
  have h1 : Int.tmod (mag a) (mag b) < mag b := Int.tmod_lt_of_pos _ hmz
  rw [signed_eq k _ _ h0 (by omega)]
  simp only [Option.bind_some]
  rw [hd]
/-- a quotient is no greater than what is divided, and what is left is no greater either -/
theorem tdiv_in (a b : Int) (ha : In a) (hb : In b) (hz : b ≠ 0) : In (Int.tdiv a b) ∨ (a = -9223372036854775808 ∧ b = -1) := by
  have sa := mag_in a ha
  have hd := tdiv_mag a b
  have h0 : 0 ≤ Int.tdiv (mag a) (mag b) := Int.tdiv_nonneg sa.1 (mag_in b hb).1
  have h1 : Int.tdiv (mag a) (mag b) ≤ mag a := Int.tdiv_le_self _ sa.1
  by_cases hm : Int.tdiv (mag a) (mag b) ≤ 9223372036854775807
  · left; rw [← hd]; split <;> omega
  · have hma : mag a = 9223372036854775808 := by omega
    have hmb : mag b = 1 := by
      have hpos : 0 < mag b := by unfold mag; split <;> omega
      by_cases g : mag b = 1
      · exact g
      · exfalso
        have h2 : Int.tdiv (mag a) (mag b) * 2 ≤ Int.tdiv (mag a) (mag b) * mag b := Int.mul_le_mul_of_nonneg_left (by omega) h0
        have h3 : Int.tdiv (mag a) (mag b) * mag b ≤ mag a := by
          rw [Int.tdiv_eq_ediv_of_nonneg sa.1]; exact Int.ediv_mul_le _ (by omega)
        omega
    have ea : a = -9223372036854775808 := by unfold mag at hma; split at hma <;> omega
    by_cases hb1 : b = 1
    · left; rw [hb1, Int.tdiv_one]; omega
    · right; exact ⟨ea, by unfold mag at hmb; split at hmb <;> omega⟩
theorem tmod_in (a b : Int) (ha : In a) (hb : In b) (hz : b ≠ 0) : In (Int.tmod a b) := by
  have sa := mag_in a ha
  have sb := mag_in b hb
  have hd := tmod_mag a b
  have hpos : 0 < mag b := by unfold mag; split <;> omega
  have h0 : 0 ≤ Int.tmod (mag a) (mag b) := Int.tmod_nonneg _ sa.1
  have h1 : Int.tmod (mag a) (mag b) < mag b := Int.tmod_lt_of_pos _ hpos
  rw [← hd]; split <;> omega
theorem rdiv_eq (a b : Int) (ha : In a) (hb : In b) : quaysideref01_Div.f a b = some (if b = 0 then (0, 11) else num (Int.tdiv a b)) := by
  unfold quaysideref01_Div.f
  by_cases hz : b = 0
  · rw [if_pos hz, if_pos hz]
  rw [if_neg hz, if_neg hz]
  have hin := tdiv_in a b ha hb hz
  by_cases h : a = -9223372036854775808 ∧ b = -1
  · rw [if_pos h.1, if_pos h.2, h.1, h.2]; rfl
  · have hin' : In (Int.tdiv a b) := hin.resolve_right h
    have e : some (wrap64 (Int.tdiv a b), (0 : Int)) = some (num (Int.tdiv a b)) := by
      unfold num; rw [if_pos hin']
      refine congrArg some (Prod.ext ?_ rfl)
      dsimp only; unfold wrap64; omega
    by_cases h1 : a = -9223372036854775808
    · rw [if_pos h1, if_neg (fun h2 => h ⟨h1, h2⟩)]; exact e
    · rw [if_neg h1]; exact e
theorem rmod_eq (a b : Int) (ha : In a) (hb : In b) : quaysideref01_Mod.f a b = some (if b = 0 then (0, 11) else num (Int.tmod a b)) := by
  unfold quaysideref01_Mod.f
  by_cases hz : b = 0
  · rw [if_pos hz, if_pos hz]
  rw [if_neg hz, if_neg hz]
  have hin := tmod_in a b ha hb hz
  unfold num
  rw [if_pos hin]
  by_cases h : b = -1
  · rw [if_pos h, h, Int.tmod_neg, Int.tmod_one]
  · rw [if_neg h]

theorem NumDivs : quaysidelaw01_NumDivs.Pure := by
  intro a b wa wb
  have ha := wf64 wa
  have hb := wf64 wb
  refine ⟨1 + 1, ?_⟩
  unfold quaysidelaw01_NumDivs.f
  rw [div_eq 1 a b ha hb, rdiv_eq a b ha hb, mod_eq 1 a b ha hb, rmod_eq a b ha hb, div_eq 1 (-7) 2 (by omega) (by omega)]
  rw [show (if (2 : Int) = 0 then ((0 : Int), (11 : Int)) else num (Int.tdiv (-7) 2)) = (-3, 0) from by decide]
  simp only [Option.bind_some, if_true, bne_self_eq_false]
  simp only [quaysidelaw01_NumDivs.j0, Bool.false_eq_true, if_false]
  by_cases hz : b = 0
  · simp [hz]
  rw [if_neg hz, if_neg hz]
  have hm := tmod_in a b ha hb hz
  rw [show num (Int.tmod a b) = (Int.tmod a b, 0) from if_pos hm]
  by_cases h : In (Int.tdiv a b)
  · rw [show num (Int.tdiv a b) = (Int.tdiv a b, 0) from if_pos h]
    simp only [if_true]
    rw [mul_eq 0 _ b h hb]
    have hadd : Int.tdiv a b * b + Int.tmod a b = a := Int.tdiv_mul_add_tmod a b
    have hs : In (Int.tdiv a b * b) := by
      have sgn : Int.tdiv a b * b = a - Int.tmod a b := by omega
      have hd := tmod_mag a b
      have sa := mag_in a ha
      have h0 : 0 ≤ Int.tmod (mag a) (mag b) := Int.tmod_nonneg _ sa.1
      have h1 : Int.tmod (mag a) (mag b) ≤ mag a := by
        have h2 : 0 ≤ Int.tdiv (mag a) (mag b) := Int.tdiv_nonneg sa.1 (mag_in b hb).1
        have h3 := Int.tdiv_mul_add_tmod (mag a) (mag b)
        have h4 := Int.mul_nonneg h2 (mag_in b hb).1
        omega
      rw [sgn, ← hd]
      unfold mag at *
      by_cases g : a < 0
      · simp only [g, if_true, decide_true] at *; omega
      · simp only [g, if_false, decide_false, Bool.false_eq_true] at *; omega
    rw [show num (Int.tdiv a b * b) = (Int.tdiv a b * b, 0) from if_pos hs]
    simp only [Option.bind_some]
    rw [add_eq _ _ hs hm, hadd, show num a = (a, 0) from if_pos ha]
    simp
  · rw [show num (Int.tdiv a b) = (0, 10) from if_neg h]
    simp

end Go.Proofs.Ytjffpanpjjlkaaa.Pure
