/- What the reference's Free comes to, in plain words. No condition beyond those that each theorem names. -/
import Derived.Test.YtinbppcfdmbclaaPureRef
import Derived.Test.YtinbppcfdmbclaaPgx4
namespace Go.Proofs.Ytinbppcfdmbclaa.Pg
open Go.RowKit Go.Proofs.YtinbppcfdmbclaaW.PrintWords Go.Proofs.YtinbppcfdmbclaaW.PrintLast Go.Proofs.YtinbppcfdmbclaaW.PrintMore
set_option linter.unusedVariables false
set_option linter.unusedSimpArgs false
theorem rfree_f (kind : Int) (L : List S66) (hL : Fits L) (k : Nat) (hk : 300 < k) : quaysideref12_Free.f k kind L = some (max 0 (248 - 2 * (L.length : Int) - (total L : Int) - 2)) := by
  unfold Fits at hL
  unfold quaysideref12_Free.f
  rw [rsize_f L k (by omega) (by omega) (by omega), Option.bind_some]
  have hw : wrap64 ((wrap64 (256 - ((8 + 2 * L.length + total L : Nat) : Int))) - 2) = 248 - 2 * (L.length : Int) - (total L : Int) - 2 := by unfold wrap64; omega
  rw [hw]
  congr 1
  unfold mx
  split <;> omega
end Go.Proofs.Ytinbppcfdmbclaa.Pg
