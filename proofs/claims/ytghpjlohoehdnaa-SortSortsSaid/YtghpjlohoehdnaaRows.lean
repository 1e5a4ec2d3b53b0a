/-
  No cell of these rows narrows 'for every input' (looked for: loops, veiled, ifaces, maps, wideKeys, modest, calm, conditions, laid).
  DERIVED. THE GIVEN ROWS OF THIS SEAT. 8 by the template 'for every input the law returns true; each argument reads behind the call as it read before'; 0 by the template 'total and deterministic' (their statements: YtghpjlohoehdnaaTotals.lean).
  GIVEN WITH THE SEED: the statements are not yours to turn. If you find one false, say at which input.
  Laid BY PROGRAM, IN A SANDBOX (cutbox-rows.mjs): the forced cells as the released guide's own fill.sh prints them over the translation c960ddb80398ce33… (all of the seat's roots in one cut). By AI agents, Wed Nov 11 2026. No macro, syntax, notation, axiom, sorry.
-/
import Derived.Test.YtghpjlohoehdnaaChecked
import GoSem.Claim
import GoSem.ClaimJoined
import GoSem.ClaimMapViews
import Derived.JoinedTies
import Derived.KernelRfl
namespace Go.Proofs.Ytghpjlohoehdnaa
/- THE CELL 'sum', in the pinned program and in every row, IS THE sha256 OF THE DUMP (.gsa) THAT YtghpjlohoehdnaaProg.lean LOADS. Nothing in Lean hashes anything: it is a label: what it is worth is what the hold of that sum in a sandbox is worth. -/
noncomputable def Try.pinned : Pinned := { name := "ytghpjlohoehdnaa", sum := "c960ddb80398ce33489c923492ab86ae4b416e70982771634833f42397e8d29a", checked := Try.checked }
namespace Rows
def none {H : Type} : Left H := { results := [], args := [] }

/-- 'quaysidelaw30.SetopJoins': WHATEVER THE INPUT: true; the input reads as it did. -/
def setopJoinsSpec : ChangeSpec := { name := "setopJoins", fn := fun _ => fun
  | [d1, d2, d3] => { results := [.lit (.bool true)], args := [d1, d2, d3] }
  | _ => none }
def setopJoinsRow : OpenClaim := { program := "ytghpjlohoehdnaa", sum := "c960ddb80398ce33489c923492ab86ae4b416e70982771634833f42397e8d29a", func := "quayside/quaysidelaw30.SetopJoins", spec := "setopJoins", unfollowed := true, recurses := true, apart := false }
def SetopJoinsSaid : Prop := setopJoinsRow.holds Try.pinned (OpenSpec.ofChange setopJoinsSpec)

/-- ITS FALSE NEIGHBOUR: 'it returns false'. Refute it at one input. -/
def setopJoinsWrong : ChangeSpec := { name := "setopJoins", fn := fun _ => fun
  | [d1, d2, d3] => { results := [.lit (.bool false)], args := [d1, d2, d3] }
  | _ => none }
def SetopJoinsWrongFalsely : Prop := setopJoinsRow.holds Try.pinned (OpenSpec.ofChange setopJoinsWrong)

/-- 'quaysidelaw30.SetopTogether': WHATEVER THE INPUT: true; the input reads as it did. -/
def setopTogetherSpec : ChangeSpec := { name := "setopTogether", fn := fun _ => fun
  | [d1, d2] => { results := [.lit (.bool true)], args := [d1, d2] }
  | _ => none }
def setopTogetherRow : OpenClaim := { program := "ytghpjlohoehdnaa", sum := "c960ddb80398ce33489c923492ab86ae4b416e70982771634833f42397e8d29a", func := "quayside/quaysidelaw30.SetopTogether", spec := "setopTogether", unfollowed := true, recurses := true, apart := false }
def SetopTogetherSaid : Prop := setopTogetherRow.holds Try.pinned (OpenSpec.ofChange setopTogetherSpec)

/-- ITS FALSE NEIGHBOUR: 'it returns false'. Refute it at one input. -/
def setopTogetherWrong : ChangeSpec := { name := "setopTogether", fn := fun _ => fun
  | [d1, d2] => { results := [.lit (.bool false)], args := [d1, d2] }
  | _ => none }
def SetopTogetherWrongFalsely : Prop := setopTogetherRow.holds Try.pinned (OpenSpec.ofChange setopTogetherWrong)

/-- 'quaysidelaw30.SetopEnds': WHATEVER THE INPUT: true; the input reads as it did. -/
def setopEndsSpec : ChangeSpec := { name := "setopEnds", fn := fun _ => fun
  | [d1, d2] => { results := [.lit (.bool true)], args := [d1, d2] }
  | _ => none }
def setopEndsRow : OpenClaim := { program := "ytghpjlohoehdnaa", sum := "c960ddb80398ce33489c923492ab86ae4b416e70982771634833f42397e8d29a", func := "quayside/quaysidelaw30.SetopEnds", spec := "setopEnds", unfollowed := true, recurses := true, apart := false }
def SetopEndsSaid : Prop := setopEndsRow.holds Try.pinned (OpenSpec.ofChange setopEndsSpec)

/-- ITS FALSE NEIGHBOUR: 'it returns false'. Refute it at one input. -/
def setopEndsWrong : ChangeSpec := { name := "setopEnds", fn := fun _ => fun
  | [d1, d2] => { results := [.lit (.bool false)], args := [d1, d2] }
  | _ => none }
def SetopEndsWrongFalsely : Prop := setopEndsRow.holds Try.pinned (OpenSpec.ofChange setopEndsWrong)

/-- 'quaysidelaw28.SortMany': WHATEVER THE INPUT: true; the input reads as it did. -/
def sortManySpec : ChangeSpec := { name := "sortMany", fn := fun _ => fun
  | [d1, d2, d3] => { results := [.lit (.bool true)], args := [d1, d2, d3] }
  | _ => none }
def sortManyRow : OpenClaim := { program := "ytghpjlohoehdnaa", sum := "c960ddb80398ce33489c923492ab86ae4b416e70982771634833f42397e8d29a", func := "quayside/quaysidelaw28.SortMany", spec := "sortMany", inPlace := ["internal/bytealg.abigen_runtime_cmpstring"], unfollowed := true, recurses := true, apart := false }
def SortManySaid : Prop := sortManyRow.holds Try.pinned (OpenSpec.ofChange sortManySpec)

/-- ITS FALSE NEIGHBOUR: 'it returns false'. Refute it at one input. -/
def sortManyWrong : ChangeSpec := { name := "sortMany", fn := fun _ => fun
  | [d1, d2, d3] => { results := [.lit (.bool false)], args := [d1, d2, d3] }
  | _ => none }
def SortManyWrongFalsely : Prop := sortManyRow.holds Try.pinned (OpenSpec.ofChange sortManyWrong)

/-- 'quaysidelaw28.SortDistinct': WHATEVER THE INPUT: true; the input reads as it did. -/
def sortDistinctSpec : ChangeSpec := { name := "sortDistinct", fn := fun _ => fun
  | [d] => { results := [.lit (.bool true)], args := [d] }
  | _ => none }
def sortDistinctRow : OpenClaim := { program := "ytghpjlohoehdnaa", sum := "c960ddb80398ce33489c923492ab86ae4b416e70982771634833f42397e8d29a", func := "quayside/quaysidelaw28.SortDistinct", spec := "sortDistinct", inPlace := ["internal/bytealg.abigen_runtime_cmpstring"], unfollowed := true, recurses := true, apart := false }
def SortDistinctSaid : Prop := sortDistinctRow.holds Try.pinned (OpenSpec.ofChange sortDistinctSpec)

/-- ITS FALSE NEIGHBOUR: 'it returns false'. Refute it at one input. -/
def sortDistinctWrong : ChangeSpec := { name := "sortDistinct", fn := fun _ => fun
  | [d] => { results := [.lit (.bool false)], args := [d] }
  | _ => none }
def SortDistinctWrongFalsely : Prop := sortDistinctRow.holds Try.pinned (OpenSpec.ofChange sortDistinctWrong)

/-- 'quaysidelaw28.SortSorts': WHATEVER THE INPUT: true; the input reads as it did. -/
def sortSortsSpec : ChangeSpec := { name := "sortSorts", fn := fun _ => fun
  | [d1, d2, d3] => { results := [.lit (.bool true)], args := [d1, d2, d3] }
  | _ => none }
def sortSortsRow : OpenClaim := { program := "ytghpjlohoehdnaa", sum := "c960ddb80398ce33489c923492ab86ae4b416e70982771634833f42397e8d29a", func := "quayside/quaysidelaw28.SortSorts", spec := "sortSorts", inPlace := ["internal/bytealg.abigen_runtime_cmpstring"], unfollowed := true, recurses := true, apart := false }
def SortSortsSaid : Prop := sortSortsRow.holds Try.pinned (OpenSpec.ofChange sortSortsSpec)

/-- ITS FALSE NEIGHBOUR: 'it returns false'. Refute it at one input. -/
def sortSortsWrong : ChangeSpec := { name := "sortSorts", fn := fun _ => fun
  | [d1, d2, d3] => { results := [.lit (.bool false)], args := [d1, d2, d3] }
  | _ => none }
def SortSortsWrongFalsely : Prop := sortSortsRow.holds Try.pinned (OpenSpec.ofChange sortSortsWrong)

/-- 'quaysidelaw28.SortTops': WHATEVER THE INPUT: true; the input reads as it did. -/
def sortTopsSpec : ChangeSpec := { name := "sortTops", fn := fun _ => fun
  | [d1, d2, d3] => { results := [.lit (.bool true)], args := [d1, d2, d3] }
  | _ => none }
def sortTopsRow : OpenClaim := { program := "ytghpjlohoehdnaa", sum := "c960ddb80398ce33489c923492ab86ae4b416e70982771634833f42397e8d29a", func := "quayside/quaysidelaw28.SortTops", spec := "sortTops", inPlace := ["internal/bytealg.abigen_runtime_cmpstring", "slices.overlaps[quayside/api.Row]"], unfollowed := true, recurses := true, apart := false }
def SortTopsSaid : Prop := sortTopsRow.holds Try.pinned (OpenSpec.ofChange sortTopsSpec)

/-- ITS FALSE NEIGHBOUR: 'it returns false'. Refute it at one input. -/
def sortTopsWrong : ChangeSpec := { name := "sortTops", fn := fun _ => fun
  | [d1, d2, d3] => { results := [.lit (.bool false)], args := [d1, d2, d3] }
  | _ => none }
def SortTopsWrongFalsely : Prop := sortTopsRow.holds Try.pinned (OpenSpec.ofChange sortTopsWrong)

/-- 'quaysidelaw28.SortEnds': WHATEVER THE INPUT: true; the input reads as it did. -/
def sortEndsSpec : ChangeSpec := { name := "sortEnds", fn := fun _ => fun
  | [d1, d2] => { results := [.lit (.bool true)], args := [d1, d2] }
  | _ => none }
def sortEndsRow : OpenClaim := { program := "ytghpjlohoehdnaa", sum := "c960ddb80398ce33489c923492ab86ae4b416e70982771634833f42397e8d29a", func := "quayside/quaysidelaw28.SortEnds", spec := "sortEnds", inPlace := ["internal/bytealg.abigen_runtime_cmpstring", "slices.overlaps[quayside/api.Row]"], unfollowed := true, recurses := true, apart := false }
def SortEndsSaid : Prop := sortEndsRow.holds Try.pinned (OpenSpec.ofChange sortEndsSpec)

/-- ITS FALSE NEIGHBOUR: 'it returns false'. Refute it at one input. -/
def sortEndsWrong : ChangeSpec := { name := "sortEnds", fn := fun _ => fun
  | [d1, d2] => { results := [.lit (.bool false)], args := [d1, d2] }
  | _ => none }
def SortEndsWrongFalsely : Prop := sortEndsRow.holds Try.pinned (OpenSpec.ofChange sortEndsWrong)

/- THE SECOND FORM. 'bulk': how many values and letters a reading holds, each counted each time it is reached (what is shared counts as often as it is met; a slice's spare places count too). A statement '..UptoSaid' is the law's where the arguments, and the package variables that the reading takes, are together of bulk at most 1048576: NARROWER than '..Said'. Prove '..Said' where nothing that the law and all that it calls make is longer than what came in: it says more and counts as full. Else prove '..UptoSaid'. A law counts once. -/
mutual
def uptoBulk {H : Type} : DataW H → Nat
  | .lit (.string bytes) => bytes.length + 1
  | .lit _ => 1
  | .nil => 1
  | .ptr d => uptoBulk d + 1
  | .slice elems spare => uptoBulkAll elems + uptoBulkAll spare + 1
  | .agg parts => uptoBulkAll parts + 1
  | .iface _ d => uptoBulk d + 1
  | .map entries => uptoBulkEntries entries + 1
  | .held _ => 1
def uptoBulkAll {H : Type} : List (DataW H) → Nat
  | [] => 0
  | d :: r => uptoBulk d + uptoBulkAll r
def uptoBulkEntries {H : Type} : List (Lit × DataW H) → Nat
  | [] => 0
  | x :: r => uptoBulkEntry x + uptoBulkEntries r
def uptoBulkEntry {H : Type} : Lit × DataW H → Nat
  | (.string bytes, d) => bytes.length + uptoBulk d + 1
  | (_, d) => uptoBulk d + 1
 end
def uptoSmall : (H : Type) → List (DataW H) → Bool := fun _ ds => decide (uptoBulkAll ds ≤ 1048576)
def OpenSpec.upto (s : _root_.Go.ChangeSpec) : _root_.Go.OpenSpec := { _root_.Go.OpenSpec.ofChange s with cond := some uptoSmall }

/-- 'quaysidelaw30.SetopJoins', WHERE WHAT IT READS IS OF BULK AT MOST 1048576: true; the input reads as it did. -/
def setopJoinsUptoRow : OpenClaim := { program := "ytghpjlohoehdnaa", sum := "c960ddb80398ce33489c923492ab86ae4b416e70982771634833f42397e8d29a", func := "quayside/quaysidelaw30.SetopJoins", spec := "setopJoins", unfollowed := true, recurses := true, apart := false, narrowed := true }
def SetopJoinsUptoSaid : Prop := setopJoinsUptoRow.holds Try.pinned (OpenSpec.upto setopJoinsSpec)

/-- 'quaysidelaw30.SetopTogether', WHERE WHAT IT READS IS OF BULK AT MOST 1048576: true; the input reads as it did. -/
def setopTogetherUptoRow : OpenClaim := { program := "ytghpjlohoehdnaa", sum := "c960ddb80398ce33489c923492ab86ae4b416e70982771634833f42397e8d29a", func := "quayside/quaysidelaw30.SetopTogether", spec := "setopTogether", unfollowed := true, recurses := true, apart := false, narrowed := true }
def SetopTogetherUptoSaid : Prop := setopTogetherUptoRow.holds Try.pinned (OpenSpec.upto setopTogetherSpec)

/-- 'quaysidelaw30.SetopEnds', WHERE WHAT IT READS IS OF BULK AT MOST 1048576: true; the input reads as it did. -/
def setopEndsUptoRow : OpenClaim := { program := "ytghpjlohoehdnaa", sum := "c960ddb80398ce33489c923492ab86ae4b416e70982771634833f42397e8d29a", func := "quayside/quaysidelaw30.SetopEnds", spec := "setopEnds", unfollowed := true, recurses := true, apart := false, narrowed := true }
def SetopEndsUptoSaid : Prop := setopEndsUptoRow.holds Try.pinned (OpenSpec.upto setopEndsSpec)

/-- 'quaysidelaw28.SortMany', WHERE WHAT IT READS IS OF BULK AT MOST 1048576: true; the input reads as it did. -/
def sortManyUptoRow : OpenClaim := { program := "ytghpjlohoehdnaa", sum := "c960ddb80398ce33489c923492ab86ae4b416e70982771634833f42397e8d29a", func := "quayside/quaysidelaw28.SortMany", spec := "sortMany", inPlace := ["internal/bytealg.abigen_runtime_cmpstring"], unfollowed := true, recurses := true, apart := false, narrowed := true }
def SortManyUptoSaid : Prop := sortManyUptoRow.holds Try.pinned (OpenSpec.upto sortManySpec)

/-- 'quaysidelaw28.SortDistinct', WHERE WHAT IT READS IS OF BULK AT MOST 1048576: true; the input reads as it did. -/
def sortDistinctUptoRow : OpenClaim := { program := "ytghpjlohoehdnaa", sum := "c960ddb80398ce33489c923492ab86ae4b416e70982771634833f42397e8d29a", func := "quayside/quaysidelaw28.SortDistinct", spec := "sortDistinct", inPlace := ["internal/bytealg.abigen_runtime_cmpstring"], unfollowed := true, recurses := true, apart := false, narrowed := true }
def SortDistinctUptoSaid : Prop := sortDistinctUptoRow.holds Try.pinned (OpenSpec.upto sortDistinctSpec)

/-- 'quaysidelaw28.SortSorts', WHERE WHAT IT READS IS OF BULK AT MOST 1048576: true; the input reads as it did. -/
def sortSortsUptoRow : OpenClaim := { program := "ytghpjlohoehdnaa", sum := "c960ddb80398ce33489c923492ab86ae4b416e70982771634833f42397e8d29a", func := "quayside/quaysidelaw28.SortSorts", spec := "sortSorts", inPlace := ["internal/bytealg.abigen_runtime_cmpstring"], unfollowed := true, recurses := true, apart := false, narrowed := true }
def SortSortsUptoSaid : Prop := sortSortsUptoRow.holds Try.pinned (OpenSpec.upto sortSortsSpec)

/-- 'quaysidelaw28.SortTops', WHERE WHAT IT READS IS OF BULK AT MOST 1048576: true; the input reads as it did. -/
def sortTopsUptoRow : OpenClaim := { program := "ytghpjlohoehdnaa", sum := "c960ddb80398ce33489c923492ab86ae4b416e70982771634833f42397e8d29a", func := "quayside/quaysidelaw28.SortTops", spec := "sortTops", inPlace := ["internal/bytealg.abigen_runtime_cmpstring", "slices.overlaps[quayside/api.Row]"], unfollowed := true, recurses := true, apart := false, narrowed := true }
def SortTopsUptoSaid : Prop := sortTopsUptoRow.holds Try.pinned (OpenSpec.upto sortTopsSpec)

/-- 'quaysidelaw28.SortEnds', WHERE WHAT IT READS IS OF BULK AT MOST 1048576: true; the input reads as it did. -/
def sortEndsUptoRow : OpenClaim := { program := "ytghpjlohoehdnaa", sum := "c960ddb80398ce33489c923492ab86ae4b416e70982771634833f42397e8d29a", func := "quayside/quaysidelaw28.SortEnds", spec := "sortEnds", inPlace := ["internal/bytealg.abigen_runtime_cmpstring", "slices.overlaps[quayside/api.Row]"], unfollowed := true, recurses := true, apart := false, narrowed := true }
def SortEndsUptoSaid : Prop := sortEndsUptoRow.holds Try.pinned (OpenSpec.upto sortEndsSpec)

end Rows
end Go.Proofs.Ytghpjlohoehdnaa
