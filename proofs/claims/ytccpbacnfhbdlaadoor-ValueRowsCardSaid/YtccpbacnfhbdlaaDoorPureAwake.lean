import Derived.Test.YtccpbacnfhbdlaaDoorVax6
import Derived.Test.YtccpbacnfhbdlaaDoorPureVal0
import Derived.KernelRfl
namespace Go.Proofs.YtccpbacnfhbdlaaDoor.PureVal
open Go.RowKit
open Go.Proofs.YtccpbacnfhbdlaaDoor.Va
set_option maxRecDepth 100000
theorem awake_ex : ∃ K, ∀ d, quaysidelaw05_awake.f (K + d) = some true := by
  have h : quaysidelaw05_awake.f 60 = some true := by kernel_rfl
  refine ⟨60, fun d => ?_⟩
  induction d with
  | zero => exact h
  | succ d ih => exact quaysidelaw05_awake.mono (60 + d) _ ih
end Go.Proofs.YtccpbacnfhbdlaaDoor.PureVal
