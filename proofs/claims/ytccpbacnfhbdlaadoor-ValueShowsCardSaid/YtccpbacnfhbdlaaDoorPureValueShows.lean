/- The law ValueShows holds of every two values: both write them alike and give them the same numbers. Conditions: numbers of 64 bits. -/
import Derived.Test.YtccpbacnfhbdlaaDoorVax11
import Derived.Test.YtccpbacnfhbdlaaDoorPureVal2
import Derived.Test.YtccpbacnfhbdlaaDoorPureAwake
namespace Go.Proofs.YtccpbacnfhbdlaaDoor.Pure
open Go.RowKit Go.Proofs.YtccpbacnfhbdlaaDoor.Va Go.Proofs.YtccpbacnfhbdlaaDoor.PureVal
set_option linter.unusedVariables false
set_option linter.unusedSimpArgs false
theorem ValueShows (a0_0 a0_1 : Int) (a0_2 : ByteArray) (a1_0 a1_1 : Int) (a1_2 : ByteArray) (w0_0 : (Lit.int .i64 a0_0).wf = true) (w0_1 : (Lit.int .i64 a0_1).wf = true) (w1_0 : (Lit.int .i64 a1_0).wf = true) (w1_1 : (Lit.int .i64 a1_1).wf = true) :
    ∃ k, quaysidelaw05_ValueShows.f k a0_0 a0_1 a0_2 a1_0 a1_1 a1_2 = some true := by
  obtain ⟨K, hK⟩ := awake_ex
  refine ⟨(3000 + K) + 1, ?_⟩
  have hA := hK 3000
  rw [show K + 3000 = 3000 + K from by omega] at hA
  obtain ⟨p0, p1⟩ := PureVal.wf64 w0_1
  obtain ⟨r, r', hr, hs⟩ := show_eq (a0 := a0_0) (a2 := a0_2) p0 p1
  obtain ⟨t, ht⟩ := hash_eq (a0 := a0_0) (a2 := a0_2) p0 p1
  obtain ⟨s1, s2⟩ := hs K
  obtain ⟨t1, t2⟩ := ht (2000 + K)
  rw [show 1000 + (2000 + K) = 3000 + K from by omega] at t1 t2
  have hj : ∀ b, quaysidelaw05_ValueShows.j0 ((3000 + K) + 1) b a0_0 a0_1 a0_2 a1_0 a1_1 a1_2 = some true := by
    intro b
    rw [quaysidelaw05_ValueShows.j0]
    cases b with
    | true => rw [if_pos rfl, hA, Option.bind_some]
    | false =>
      rw [if_neg (by simp), s1, Option.bind_some, s2, Option.bind_some, if_pos hr, t1, Option.bind_some, t2, Option.bind_some, if_pos rfl]
      by_cases c : (!(a0_0 == a1_0) || (!(a0_1 == a1_1) || (!(a0_2.toList == a1_2.toList)))) = true
      · rw [if_pos c, hA, Option.bind_some]
      · rw [if_neg c]
        simp only [Bool.or_eq_true, Bool.not_eq_true', beq_eq_false_iff_ne, ne_eq, not_or, Decidable.not_not] at c
        obtain ⟨rfl, rfl, h2⟩ := c
        have e : a0_2 = a1_2 := by
          rw [toList_data, toList_data] at h2
          cases a0_2; cases a1_2
          exact congrArg ByteArray.mk (Array.toList_inj.1 h2)
        subst e
        rw [Option.bind_some, t1, Option.bind_some, if_pos rfl, hA, Option.bind_some]
  unfold quaysidelaw05_ValueShows.f
  by_cases c : (a0_2.size : Int) > 200
  · rw [if_pos c]; exact hj true
  · rw [if_neg c]; exact hj _
end Go.Proofs.YtccpbacnfhbdlaaDoor.Pure
