/- Functions of the seat as plain Lean functions, each with a proof that the call answers what the function tells; written by a program of this work. No condition beyond those that each theorem names. -/
import Derived.Test.YtjffpanpjjlkaaaProg
import Derived.Below
import Derived.Deep.Draws
import Derived.Deep.AppendLies
import Derived.Maps.AppendAt
import Derived.OwnWalk
import Derived.Laws.BytesArg
import Derived.Laws.MakeOwn
import Derived.Laws.OwnMore
import Derived.Deep.OwnRows
import Derived.Tactics
import Derived.Lib.ConvBytes
import Derived.Laws.Slices
import Derived.WalkKit
import Derived.KernelRfl
import Derived.RowKit3
import Derived.Deep.LoopGhost
import Derived.Deep.QuietTactic
import Derived.BigQuiet
import Derived.WideLaws
import Derived.Deep.DeepCutAuto
import Derived.Deep.CutBlock
import Derived.Deep.RegionHeld3
import Derived.Laws.Rows
import Derived.Lib.AppendStr
import Derived.ArgAppend
import Derived.Laws.IdiomCopy
import Derived.OrdersHeld
import Derived.Laws.BitsLemmas
import Derived.RowKit
import Derived.Test.YtjffpanpjjlkaaaWWords
import Derived.Test.YtjffpanpjjlkaaaWLast
import Derived.Test.YtjffpanpjjlkaaaWTab
import Derived.Test.YtjffpanpjjlkaaaWFour
import Derived.Test.YtjffpanpjjlkaaaWQPut
import Derived.Test.YtjffpanpjjlkaaaWApart
import Derived.Test.YtjffpanpjjlkaaaWArr
import Derived.Test.YtjffpanpjjlkaaaWZeros
import Derived.Test.YtjffpanpjjlkaaaWFoot
import Derived.Test.YtjffpanpjjlkaaaWKept
import Derived.Test.YtjffpanpjjlkaaaWShare
import Derived.Test.YtjffpanpjjlkaaaWN
import Derived.Test.YtjffpanpjjlkaaaWFootNe
import Derived.Test.YtjffpanpjjlkaaaWAt
import Derived.Test.YtjffpanpjjlkaaaWEqStruct
import Derived.Test.YtjffpanpjjlkaaaWRepsOne
import Derived.Test.YtjffpanpjjlkaaaWInv
import Derived.Test.YtjffpanpjjlkaaaWInvWords
import Derived.Test.YtjffpanpjjlkaaaWGuard
import Derived.Test.YtjffpanpjjlkaaaWNEv
import Derived.Test.YtjffpanpjjlkaaaWMore
namespace Go.Proofs.Ytjffpanpjjlkaaa.Own
open Go.RowKit Go.Proofs.YtjffpanpjjlkaaaW.PrintWords Go.Proofs.YtjffpanpjjlkaaaW.PrintLast Go.Proofs.YtjffpanpjjlkaaaW.PrintMore
attribute [local go_sem] max2_int min2_int max_two min_two max_three min_three max_four min_four   -- for this text's walks alone
set_option linter.unusedVariables false
set_option linter.unusedSimpArgs false



def errW : Option Int → Value
  | none => .nilIface
  | some c => .iface 0 (.int .i64 c)
theorem errW_none : errW none = .nilIface := rfl
theorem errW_some (c : Int) : errW (some c) = .iface 0 (.int .i64 c) := rfl

theorem info5 : (Try.prog.info? 5).map (fun i => (i.zero, i.size, i.bytes)) = some (some (.int .u8 0), 1, 1) := by kernel_rfl
-- the values' own types

end Go.Proofs.Ytjffpanpjjlkaaa.Own
