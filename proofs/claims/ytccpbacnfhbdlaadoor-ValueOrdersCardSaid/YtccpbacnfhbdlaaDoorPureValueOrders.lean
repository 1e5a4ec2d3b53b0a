import Derived.Test.YtccpbacnfhbdlaaDoorWalkOrders
import Derived.Test.YtccpbacnfhbdlaaDoorPureVal1
import Derived.Test.YtccpbacnfhbdlaaDoorPureAwake
namespace Go.Proofs.YtccpbacnfhbdlaaDoor.Pure
open Go.RowKit Go.Proofs.YtccpbacnfhbdlaaDoor.Va Go.Proofs.YtccpbacnfhbdlaaDoor.PureVal
set_option linter.unusedVariables false
theorem ValueOrders (a0_0 a0_1 : Int) (a0_2 : ByteArray) (a1_0 a1_1 : Int) (a1_2 : ByteArray) (a2_0 a2_1 : Int) (a2_2 : ByteArray) (w0_0 : (Lit.int .i64 a0_0).wf = true) (w0_1 : (Lit.int .i64 a0_1).wf = true) (w1_0 : (Lit.int .i64 a1_0).wf = true) (w1_1 : (Lit.int .i64 a1_1).wf = true) (w2_0 : (Lit.int .i64 a2_0).wf = true) (w2_1 : (Lit.int .i64 a2_1).wf = true) :
    ∃ k, quaysidelaw05_ValueOrders.f k a0_0 a0_1 a0_2 a1_0 a1_1 a1_2 a2_0 a2_1 a2_2 = some true := by
  obtain ⟨K, hK⟩ := awake_ex
  refine ⟨4 + K, ?_⟩
  have h2 := hK 4
  rw [show K + 4 = 4 + K from by omega] at h2
  obtain ⟨t, ht1, ht2⟩ := check_f a0_0 a0_1 a0_2
  unfold quaysidelaw05_ValueOrders.f
  rw [compare_f, Option.bind_some, compare_f, Option.bind_some, compare_f, Option.bind_some, rcompare_f, Option.bind_some, if_pos rfl, compare_f, Option.bind_some, cV_anti a0_0 a0_1 a0_2 a1_0 a1_1 a1_2]
  have hx := cV_three a0_0 a0_1 a0_2 a1_0 a1_1 a1_2
  have hz := cV_zero a0_0 a0_1 a0_2 a1_0 a1_1 a1_2
  have ht := cV_trans a0_0 a0_1 a0_2 a1_0 a1_1 a1_2 a2_0 a2_1 a2_2
  generalize cV a0_0 a0_1 a0_2 a1_0 a1_1 a1_2 = X at *
  generalize cV a1_0 a1_1 a1_2 a2_0 a2_1 a2_2 = Y at *
  generalize cV a0_0 a0_1 a0_2 a2_0 a2_1 a2_2 = Z at *
  rw [if_pos (by rw [wrap64_id (by omega) (by omega)]; omega)]
  have hne : ¬ ((X == 0) != (a0_0 == a1_0 && (a0_1 == a1_1 && (a0_2.toList == a1_2.toList)))) = true := by
    have : (X == 0) = (a0_0 == a1_0 && (a0_1 == a1_1 && (a0_2.toList == a1_2.toList))) := by
      rw [Bool.eq_iff_iff]
      simp only [beq_iff_eq, Bool.and_eq_true]
      exact hz
    rw [this]
    simp
  rw [if_neg hne, ht1, Option.bind_some, ht2, Option.bind_some, if_pos rfl, h2]
  simp only [Option.bind_some]
  by_cases c1 : X = -1
  · rw [if_pos c1]
    by_cases c2 : Y = -1
    · rw [if_pos c2, if_pos (ht c1 c2)]
    · rw [if_neg c2]
  · rw [if_neg c1]
end Go.Proofs.YtccpbacnfhbdlaaDoor.Pure
