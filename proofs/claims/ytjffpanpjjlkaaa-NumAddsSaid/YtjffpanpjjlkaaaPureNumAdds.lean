/- The law NumAdds holds of every pair of numbers: what the program and the reference add, take and turn is the same. Condition: both are numbers of 64 bits. -/
import Derived.Test.YtjffpanpjjlkaaaPNumAddsx1
import Derived.Test.YtjffpanpjjlkaaaAid
namespace Go.Proofs.Ytjffpanpjjlkaaa.Pure
open Go.RowKit Go.Proofs.Ytjffpanpjjlkaaa.PNumAdds Go.Proofs.YtjffpanpjjlkaaaW.PrintWords Go.Proofs.YtjffpanpjjlkaaaW.PrintLast
open Go.Proofs.Ytjffpanpjjlkaaa.Aid

/-- a number, or that it is none -/
def num (n : Int) : Int × Int := if -9223372036854775808 ≤ n ∧ n ≤ 9223372036854775807 then (n, 0) else (0, 10)
/-- is it a number of 64 bits? -/
abbrev In (a : Int) : Prop := -9223372036854775808 ≤ a ∧ a ≤ 9223372036854775807

theorem add_eq (a b : Int) (ha : In a) (hb : In b) : num_Add.f a b = some (num (a + b)) := by
  unfold num_Add.f num wrap64
  simp only [beq_iff_eq, bne_iff_ne, decide_eq_decide, ne_eq]
  repeat' split
  all_goals first | omega | (refine congrArg some (Prod.ext ?_ ?_) <;> dsimp only <;> omega)
theorem sub_eq (a b : Int) (ha : In a) (hb : In b) : num_Sub.f a b = some (num (a - b)) := by
  unfold num_Sub.f num wrap64
  simp only [bne_iff_ne, decide_eq_decide, ne_eq]
  repeat' split
  all_goals first | omega | (refine congrArg some (Prod.ext ?_ ?_) <;> dsimp only <;> omega)
theorem neg_eq (a : Int) (ha : In a) : num_Neg.f a = some (num (-a)) := by
  unfold num_Neg.f
  rw [sub_eq 0 a (by omega) ha]
  simp only [Option.bind_some]
  rw [show (0 : Int) - a = -a by omega]
theorem of_eq (a : Int) : quaysideref01_of.f a = some (a / 4611686018427387904, a % 4611686018427387904) := by
  unfold quaysideref01_of.f
  rw [and62]
theorem plus_eq (a b c d : Int) (h1 : -4 ≤ a ∧ a ≤ 4) (h2 : 0 ≤ b ∧ b < 4611686018427387904) (h3 : -4 ≤ c ∧ c ≤ 4) (h4 : 0 ≤ d ∧ d < 4611686018427387904) :
    quaysideref01_plus.f a b c d = some (a + c + (b + d) / 4611686018427387904, (b + d) % 4611686018427387904) := by
  unfold quaysideref01_plus.f wrap64
  split
  all_goals (refine congrArg some (Prod.ext ?_ ?_) <;> dsimp only <;> omega)
theorem less_eq (a b : Int) (h1 : -4 ≤ a ∧ a ≤ 4) (h2 : 0 ≤ b ∧ b < 4611686018427387904) :
    quaysideref01_less.f a b = some ((-(a * 4611686018427387904 + b)) / 4611686018427387904, (-(a * 4611686018427387904 + b)) % 4611686018427387904) := by
  unfold quaysideref01_less.f wrap64
  split
  all_goals (refine congrArg some (Prod.ext ?_ ?_) <;> dsimp only <;> omega)
theorem number_eq (a b : Int) (h2 : 0 ≤ b ∧ b < 4611686018427387904) :
    quaysideref01_number.f a b = some (num (a * 4611686018427387904 + b)) := by
  unfold quaysideref01_number.f num
  split
  · rw [if_neg (by omega)]
  split
  · rw [if_neg (by omega)]
  rw [or_join a b (by omega) (by omega) h2.1 h2.2, if_pos (by omega)]
theorem radd_eq (a b : Int) (ha : In a) (hb : In b) : quaysideref01_Add.f a b = some (num (a + b)) := by
  unfold quaysideref01_Add.f
  rw [of_eq, of_eq]
  simp only [Option.bind_some]
  rw [plus_eq _ _ _ _ (by omega) (by omega) (by omega) (by omega)]
  simp only [Option.bind_some]
  rw [number_eq _ _ (by omega)]
  simp only [Option.bind_some]
  refine congrArg some (congrArg num ?_)
  omega
theorem rsub_eq (a b : Int) (ha : In a) (hb : In b) : quaysideref01_Sub.f a b = some (num (a - b)) := by
  unfold quaysideref01_Sub.f
  rw [of_eq, of_eq]
  simp only [Option.bind_some]
  rw [less_eq _ _ (by omega) (by omega)]
  simp only [Option.bind_some]
  rw [plus_eq _ _ _ _ (by omega) (by omega) (by omega) (by omega)]
  simp only [Option.bind_some]
  rw [number_eq _ _ (by omega)]
  simp only [Option.bind_some]
  refine congrArg some (congrArg num ?_)
  omega
theorem rneg_eq (a : Int) (ha : In a) : quaysideref01_Neg.f a = some (num (-a)) := by
  unfold quaysideref01_Neg.f
  rw [of_eq]
  simp only [Option.bind_some]
  rw [less_eq _ _ (by omega) (by omega)]
  simp only [Option.bind_some]
  rw [number_eq _ _ (by omega)]
  simp only [Option.bind_some]
  refine congrArg some (congrArg num ?_)
  omega
theorem adds_eq : quaysidelaw01_adds.f = some true := by
  unfold quaysidelaw01_adds.f
  rw [add_eq _ _ (by omega) (by omega), add_eq _ _ (by omega) (by omega)]
  simp [num]

theorem NumAdds : quaysidelaw01_NumAdds.Pure := by
  intro a b wa wb
  have ha := wf64 wa
  have hb := wf64 wb
  refine ⟨2, ?_⟩
  unfold quaysidelaw01_NumAdds.f
  rw [add_eq a b ha hb, radd_eq a b ha hb, sub_eq a b ha hb, rsub_eq a b ha hb]
  simp only [Option.bind_some, if_true, bne_self_eq_false]
  simp only [quaysidelaw01_NumAdds.j0]
  rw [neg_eq a ha, rneg_eq a ha]
  simp only [Option.bind_some, if_true, adds_eq]
  by_cases hd : In (a - b)
  · rw [show num (a - b) = (a - b, 0) from if_pos hd]
    simp only [if_true, Bool.false_eq_true, if_false]
    rw [add_eq _ b hd hb, show a - b + b = a by omega, show num a = (a, 0) from if_pos ha]
    simp only [Option.bind_some, if_true, bne_self_eq_false]
    simp only [quaysidelaw01_NumAdds.j1]
    rw [neg_eq a ha, rneg_eq a ha]
    simp only [Option.bind_some, if_true, adds_eq, Bool.false_eq_true, if_false]
  · rw [show num (a - b) = (0, 10) from if_neg hd]
    simp
end Go.Proofs.Ytjffpanpjjlkaaa.Pure
