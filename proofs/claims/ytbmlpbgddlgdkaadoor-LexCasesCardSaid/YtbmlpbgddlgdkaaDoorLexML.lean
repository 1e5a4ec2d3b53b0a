/- The library's own number of a search's reach. No condition beyond those that each theorem names. -/
import Derived.Test.YtbmlpbgddlgdkaaDoorProg
import Derived.Below
import Derived.Deep.Draws
import Derived.Deep.AppendLies
import Derived.Maps.AppendAt
import Derived.OwnWalk
import Derived.Laws.BytesArg
import Derived.Laws.MakeOwn
import Derived.Laws.OwnMore
import Derived.Deep.OwnRows
import Derived.Tactics
import Derived.Lib.ConvBytes
import Derived.Laws.Slices
import Derived.WalkKit
import Derived.KernelRfl
import Derived.RowKit3
import Derived.Deep.LoopGhost
import Derived.Deep.QuietTactic
import Derived.BigQuiet
import Derived.WideLaws
import Derived.Deep.DeepCutAuto
import Derived.Deep.CutBlock
import Derived.Deep.RegionHeld3
import Derived.Laws.Rows
import Derived.Lib.AppendStr
import Derived.ArgAppend
import Derived.Laws.IdiomCopy
import Derived.OrdersHeld
import Derived.Laws.BitsLemmas
import Derived.RowKit
import Derived.Test.YtbmlpbgddlgdkaaDoorShelf
import Derived.Deep.RegionHeld3
import Derived.Outline
import Derived.Lib.Hide
import Derived.Lib.Walk
import Derived.Lib.SliceRun
import Derived.Lib.OwnBridge
import Derived.WalkSpells
import Derived.Deep.DrawnRows
import Derived.Test.YtbmlpbgddlgdkaaDoorWWords
import Derived.Test.YtbmlpbgddlgdkaaDoorWLast
import Derived.Test.YtbmlpbgddlgdkaaDoorWTab
import Derived.Test.YtbmlpbgddlgdkaaDoorWFour
import Derived.Test.YtbmlpbgddlgdkaaDoorWQPut
import Derived.Test.YtbmlpbgddlgdkaaDoorWApart
import Derived.Test.YtbmlpbgddlgdkaaDoorWArr
import Derived.Test.YtbmlpbgddlgdkaaDoorWZeros
import Derived.Test.YtbmlpbgddlgdkaaDoorWFoot
import Derived.Test.YtbmlpbgddlgdkaaDoorWKept
import Derived.Test.YtbmlpbgddlgdkaaDoorWShare
import Derived.Test.YtbmlpbgddlgdkaaDoorWN
import Derived.Test.YtbmlpbgddlgdkaaDoorWFootNe
import Derived.Test.YtbmlpbgddlgdkaaDoorWAt
import Derived.Test.YtbmlpbgddlgdkaaDoorWEqStruct
import Derived.Test.YtbmlpbgddlgdkaaDoorWRepsOne
import Derived.Test.YtbmlpbgddlgdkaaDoorWInv
import Derived.Test.YtbmlpbgddlgdkaaDoorWInvWords
import Derived.Test.YtbmlpbgddlgdkaaDoorWGuard
import Derived.Test.YtbmlpbgddlgdkaaDoorWNEv
import Derived.Test.YtbmlpbgddlgdkaaDoorWMore
import Derived.Lib.DecodeN
import Derived.Lib.RuneCount
import Derived.Lib.OthersKept
import Derived.Test.YtbmlpbgddlgdkaaDoorLexQuo
namespace Go.Proofs.YtbmlpbgddlgdkaaDoor.Lx
open Go.RowKit Go.Proofs.YtbmlpbgddlgdkaaDoorW.PrintWords Go.Proofs.YtbmlpbgddlgdkaaDoorW.PrintLast Go.Proofs.YtbmlpbgddlgdkaaDoorW.PrintMore
set_option linter.unusedVariables false
set_option linter.unusedSimpArgs false

theorem below_cell_some {w w1 : World} (hb : Below w.heap.size w w1) {a : Addr} {v : Value} (h : w.cell? a = some v) : w1.cell? a = some v :=
  (hb.cell (World.block_lt_of_cell? w _ h)).trans h

/-- the library's own number of a byte search's reach: some number stands there -/
structure ML (w : World) : Prop where
  out : ∃ m, w.cell? ⟨0, 0, none⟩ = some (.int .i64 m)
theorem ML.below {w w' : World} (hb : Below w.heap.size w w') (h : ML w) : ML w' := by
  obtain ⟨m, hm⟩ := h.out
  exact ⟨m, below_cell_some hb hm⟩
theorem belG_below {g : Nat} {w0 w w' : World} (hB : Below w0.heap.size w0 w) (hg : w0.heap.size ≤ g) (h : BelG g w w') : Below w0.heap.size w0 w' :=
  ⟨h.os.trans hB.os, h.tape.trans hB.tape, h.output.trans hB.output, Nat.le_trans hB.size h.size, fun i hi => (h.block i (Nat.lt_of_lt_of_le hi hB.size) (by omega)).trans (hB.block i hi)⟩
theorem belG_keep {g : Nat} {w w' : World} (h : BelG g w w') : KeepBut w w' g none := ⟨h.size, fun i hi hg _ => h.block i hi hg⟩
end Go.Proofs.YtbmlpbgddlgdkaaDoor.Lx
