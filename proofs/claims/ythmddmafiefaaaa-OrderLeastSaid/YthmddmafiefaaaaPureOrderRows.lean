import Derived.Test.YthmddmafiefaaaaOrx7
import Derived.Test.YthmddmafiefaaaaPureOrd
namespace Go.Proofs.Ythmddmafiefaaaa.Pure
open Go.RowKit Go.Proofs.Ythmddmafiefaaaa.Or Go.Proofs.Ythmddmafiefaaaa.PureOrd
set_option linter.unusedVariables false
set_option maxRecDepth 100000 in
theorem awake_true : quaysidelaw24_awake.f 200 = some true := by kernel_rfl
theorem OrderRows (l0 : List Int) (l1 : List S39) (l2 : List Int) (a1 : Int) (f0 : ∀ y ∈ l0, (Lit.int .i64 y).wf = true) (f1 : ∀ y ∈ l1, (Lit.int .i64 y.f0).wf = true ∧ (Lit.int .i64 y.f1).wf = true ∧ (Lit.int .i64 y.f2).wf = true ∧ (Lit.int .i64 y.f3).wf = true) (f2 : ∀ y ∈ l2, (Lit.int .i64 y).wf = true) (w1 : (Lit.int .i64 a1).wf = true) :
    ∃ k, quaysidelaw24_OrderRows.f k l0 l1 l2 a1 = some true := by
  have hj : quaysidelaw24_OrderRows.j0 201 a1 true l0 l1 l2 = some true := by
    simp only [quaysidelaw24_OrderRows.j0, if_true, awake_true, Option.bind_some]
  refine ⟨201, ?_⟩
  unfold quaysidelaw24_OrderRows.f quaysidelaw24_light.f
  by_cases c : (l0.length : Int) ≤ 7
  · rw [if_pos c, Option.bind_some]
    by_cases c2 : (l1.length : Int) ≤ 20
    · rw [if_pos (by simpa using c2)]
      obtain ⟨b, hb, hok⟩ := may_ok l0 l1 l2 (by omega) 171
      rw [show 201 = 30 + 171 from rfl, hb, Option.bind_some]
      cases b with
      | false => exact hj
      | true =>
        have ok := hok rfl
        obtain ⟨r, hr⟩ := rows_tot ok (by omega) (Go.bits .and .i64 a1 255) 170
        have hq := rows_eq ok (by omega) (Go.bits .and .i64 a1 255) 200
        rw [show 200 = 30 + 170 from rfl, hr] at hq
        show quaysidelaw24_OrderRows.j0 (200 + 1) a1 (!true) l0 l1 l2 = some true
        simp only [quaysidelaw24_OrderRows.j0, Bool.not_true, Bool.false_eq_true, if_false]
        rw [show 200 = 30 + 170 from rfl, hr, ← hq]
        simp only [Option.bind_some, if_true]
        rw [show 30 + 170 = 200 from rfl, awake_true, Option.bind_some]
    · rw [if_neg (by simpa using c2)]
      exact hj
  · rw [if_neg c, Option.bind_some, if_neg (by simp)]
    exact hj
end Go.Proofs.Ythmddmafiefaaaa.Pure
