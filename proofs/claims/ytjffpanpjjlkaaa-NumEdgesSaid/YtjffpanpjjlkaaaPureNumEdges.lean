/- The law NumEdges holds of every number: about the greatest numbers sums, differences and other signs are as they must be. Condition: numbers of 64 bits. -/
import Derived.Test.YtjffpanpjjlkaaaOex1
import Derived.Test.YtjffpanpjjlkaaaAid
import Derived.Laws.MathBits
namespace Go.Proofs.Ytjffpanpjjlkaaa.Pure
open Go.RowKit Go.Proofs.Ytjffpanpjjlkaaa.Oe Go.Proofs.YtjffpanpjjlkaaaW.PrintWords Go.Proofs.YtjffpanpjjlkaaaW.PrintLast
open Go.Proofs.Ytjffpanpjjlkaaa.Aid
set_option linter.unusedVariables false
set_option linter.unusedSimpArgs false

/-- a number, or that it is none -/
def num (n : Int) : Int × Int := if -9223372036854775808 ≤ n ∧ n ≤ 9223372036854775807 then (n, 0) else (0, 10)
/-- is it a number of 64 bits? -/
abbrev In (a : Int) : Prop := -9223372036854775808 ≤ a ∧ a ≤ 9223372036854775807

theorem add_eq (a b : Int) (ha : In a) (hb : In b) : num_Add.f a b = some (num (a + b)) := by
  unfold num_Add.f num wrap64
  repeat' split
  all_goals first | omega | (refine congrArg some (Prod.ext ?_ ?_) <;> dsimp only <;> omega)

theorem sub_eq (a b : Int) (ha : In a) (hb : In b) : num_Sub.f a b = some (num (a - b)) := by
  unfold num_Sub.f num wrap64
  repeat' split
  all_goals first | omega | (refine congrArg some (Prod.ext ?_ ?_) <;> dsimp only <;> omega)
theorem neg_eq (a : Int) (ha : In a) : num_Neg.f a = some (num (-a)) := by
  unfold num_Neg.f
  rw [sub_eq 0 a (by omega) ha]
  simp only [Option.bind_some]
  rw [show (0 : Int) - a = -a by omega]
theorem adds_eq : quaysidelaw01_adds.f = some true := by
  unfold quaysidelaw01_adds.f
  rw [add_eq _ _ (by omega) (by omega), add_eq _ _ (by omega) (by omega)]
  simp [num]

theorem j1_eq (k : Nat) (n : Int) (hn : In n) : quaysidelaw01_NumEdges.j1 (k + 1) n false = some true := by
  simp only [quaysidelaw01_NumEdges.j1, Bool.false_eq_true, if_false]
  rw [neg_eq n hn, adds_eq]
  simp only [Option.bind_some]
  by_cases h : n = -9223372036854775808
  · subst h; rfl
  · have e : num (-n) = (-n, 0) := if_pos (by omega)
    rw [e]
    dsimp only
    rw [if_pos rfl, if_neg h, if_pos (by unfold wrap64; omega)]
theorem j0_eq (k : Nat) (x7 x8 n s : Int) (h7 : 0 ≤ x7 ∧ x7 < 65536) (h8 : 0 ≤ x8 ∧ x8 < 65536) (hn : (n = 9223372036854775807 - x7 ∧ s = x8) ∨ (n = -9223372036854775808 + x7 ∧ s = -x8)) :
    quaysidelaw01_NumEdges.j0 (k + 1 + 1) x7 x8 n s = some true := by
  have n1 : In n := by omega
  have s1 : In s := by omega
  simp only [quaysidelaw01_NumEdges.j0]
  rw [add_eq n s n1 s1, sub_eq n s n1 s1]
  simp only [Option.bind_some]
  have e2 : num (n - s) = (n - s, 0) := if_pos (by omega)
  have e3 : wrap64 (n - s) = n - s := by unfold wrap64; omega
  rw [e2]
  dsimp only
  by_cases h : x8 ≤ x7
  · have e1 : num (n + s) = (n + s, 0) := if_pos (by omega)
    have e4 : wrap64 (n + s) = n + s := by unfold wrap64; omega
    rw [e1]
    dsimp only
    rw [if_pos rfl, if_pos h, if_pos rfl, e3, if_pos rfl, e4, bne_self_eq_false]
    exact j1_eq k n n1
  · have e1 : num (n + s) = (0, 10) := if_neg (by omega)
    rw [e1]
    dsimp only
    rw [if_neg (by omega), if_neg h, if_pos rfl, if_pos rfl, e3, if_pos rfl]
    exact j1_eq k n n1
theorem NumEdges : quaysidelaw01_NumEdges.Pure := by
  intro far much low w0 w1
  refine ⟨0 + 1 + 1, ?_⟩
  have e1 : Go.bits .and .i64 far 65535 = far % 65536 := and_mask far 16 (by decide)
  have e2 : Go.bits .and .i64 much 65535 = much % 65536 := and_mask much 16 (by decide)
  unfold quaysidelaw01_NumEdges.f
  rw [e1, e2]
  cases low
  · rw [if_neg (by decide)]
    refine j0_eq 0 _ _ _ _ (by omega) (by omega) (Or.inl ⟨?_, rfl⟩)
    unfold wrap64; omega
  · rw [if_pos rfl]
    refine j0_eq 0 _ _ _ _ (by omega) (by omega) (Or.inr ⟨?_, ?_⟩)
    · unfold wrap64; omega
    · unfold wrap64; omega

end Go.Proofs.Ytjffpanpjjlkaaa.Pure
