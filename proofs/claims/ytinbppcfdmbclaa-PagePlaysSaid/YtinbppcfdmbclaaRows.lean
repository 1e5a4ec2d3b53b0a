/-
  No cell of these rows narrows 'for every input' (looked for: loops, veiled, ifaces, maps, wideKeys, modest, calm, conditions, laid).
  DERIVED. THE GIVEN ROWS OF THIS SEAT. 6 by the template 'for every input the law returns true; each argument reads behind the call as it read before'; 0 by the template 'total and deterministic' (their statements: YtinbppcfdmbclaaTotals.lean).
  GIVEN WITH THE SEED: the statements are not yours to turn. If you find one false, say at which input.
  Laid BY PROGRAM, IN A SANDBOX (cutbox-rows.mjs): the forced cells as the released guide's own fill.sh prints them over the translation 496c2fccede1b912… (all of the seat's roots in one cut). By AI agents, Wed Nov 11 2026. No macro, syntax, notation, axiom, sorry.
-/
import Derived.Test.YtinbppcfdmbclaaChecked
import GoSem.Claim
import GoSem.ClaimJoined
import GoSem.ClaimMapViews
import Derived.JoinedTies
import Derived.KernelRfl
namespace Go.Proofs.Ytinbppcfdmbclaa
/- THE CELL 'sum', in the pinned program and in every row, IS THE sha256 OF THE DUMP (.gsa) THAT YtinbppcfdmbclaaProg.lean LOADS. Nothing in Lean hashes anything: it is a label: what it is worth is what the hold of that sum in a sandbox is worth. -/
noncomputable def Try.pinned : Pinned := { name := "ytinbppcfdmbclaa", sum := "496c2fccede1b912c1b7551f4e68b5a4b8dcf5412bac1b3bff487f239b504613", checked := Try.checked }
namespace Rows
def none {H : Type} : Left H := { results := [], args := [] }

/-- 'quaysidelaw12.PageTells': WHATEVER THE INPUT: true; the input reads as it did. -/
def pageTellsSpec : ChangeSpec := { name := "pageTells", fn := fun _ => fun
  | [d1, d2, d3] => { results := [.lit (.bool true)], args := [d1, d2, d3] }
  | _ => none }
def pageTellsRow : OpenClaim := { program := "ytinbppcfdmbclaa", sum := "496c2fccede1b912c1b7551f4e68b5a4b8dcf5412bac1b3bff487f239b504613", func := "quayside/quaysidelaw12.PageTells", spec := "pageTells", apart := false }
def PageTellsSaid : Prop := pageTellsRow.holds Try.pinned (OpenSpec.ofChange pageTellsSpec)

/-- ITS FALSE NEIGHBOUR: 'it returns false'. Refute it at one input. -/
def pageTellsWrong : ChangeSpec := { name := "pageTells", fn := fun _ => fun
  | [d1, d2, d3] => { results := [.lit (.bool false)], args := [d1, d2, d3] }
  | _ => none }
def PageTellsWrongFalsely : Prop := pageTellsRow.holds Try.pinned (OpenSpec.ofChange pageTellsWrong)

/-- 'quaysidelaw12.PageReads': WHATEVER THE INPUT: true; the input reads as it did. -/
def pageReadsSpec : ChangeSpec := { name := "pageReads", fn := fun _ => fun
  | [d] => { results := [.lit (.bool true)], args := [d] }
  | _ => none }
def pageReadsRow : OpenClaim := { program := "ytinbppcfdmbclaa", sum := "496c2fccede1b912c1b7551f4e68b5a4b8dcf5412bac1b3bff487f239b504613", func := "quayside/quaysidelaw12.PageReads", spec := "pageReads", apart := false }
def PageReadsSaid : Prop := pageReadsRow.holds Try.pinned (OpenSpec.ofChange pageReadsSpec)

/-- ITS FALSE NEIGHBOUR: 'it returns false'. Refute it at one input. -/
def pageReadsWrong : ChangeSpec := { name := "pageReads", fn := fun _ => fun
  | [d] => { results := [.lit (.bool false)], args := [d] }
  | _ => none }
def PageReadsWrongFalsely : Prop := pageReadsRow.holds Try.pinned (OpenSpec.ofChange pageReadsWrong)

/-- 'quaysidelaw12.PageFull': WHATEVER THE INPUT: true; the input reads as it did. -/
def pageFullSpec : ChangeSpec := { name := "pageFull", fn := fun _ => fun
  | [d1, d2] => { results := [.lit (.bool true)], args := [d1, d2] }
  | _ => none }
def pageFullRow : OpenClaim := { program := "ytinbppcfdmbclaa", sum := "496c2fccede1b912c1b7551f4e68b5a4b8dcf5412bac1b3bff487f239b504613", func := "quayside/quaysidelaw12.PageFull", spec := "pageFull", apart := false }
def PageFullSaid : Prop := pageFullRow.holds Try.pinned (OpenSpec.ofChange pageFullSpec)

/-- ITS FALSE NEIGHBOUR: 'it returns false'. Refute it at one input. -/
def pageFullWrong : ChangeSpec := { name := "pageFull", fn := fun _ => fun
  | [d1, d2] => { results := [.lit (.bool false)], args := [d1, d2] }
  | _ => none }
def PageFullWrongFalsely : Prop := pageFullRow.holds Try.pinned (OpenSpec.ofChange pageFullWrong)

/-- 'quaysidelaw12.PageSplits': WHATEVER THE INPUT: true; the input reads as it did. -/
def pageSplitsSpec : ChangeSpec := { name := "pageSplits", fn := fun _ => fun
  | [d1, d2] => { results := [.lit (.bool true)], args := [d1, d2] }
  | _ => none }
def pageSplitsRow : OpenClaim := { program := "ytinbppcfdmbclaa", sum := "496c2fccede1b912c1b7551f4e68b5a4b8dcf5412bac1b3bff487f239b504613", func := "quayside/quaysidelaw12.PageSplits", spec := "pageSplits", apart := false }
def PageSplitsSaid : Prop := pageSplitsRow.holds Try.pinned (OpenSpec.ofChange pageSplitsSpec)

/-- ITS FALSE NEIGHBOUR: 'it returns false'. Refute it at one input. -/
def pageSplitsWrong : ChangeSpec := { name := "pageSplits", fn := fun _ => fun
  | [d1, d2] => { results := [.lit (.bool false)], args := [d1, d2] }
  | _ => none }
def PageSplitsWrongFalsely : Prop := pageSplitsRow.holds Try.pinned (OpenSpec.ofChange pageSplitsWrong)

/-- 'quaysidelaw12.PagePlays': WHATEVER THE INPUT: true; the input reads as it did. -/
def pagePlaysSpec : ChangeSpec := { name := "pagePlays", fn := fun _ => fun
  | [d1, d2] => { results := [.lit (.bool true)], args := [d1, d2] }
  | _ => none }
def pagePlaysRow : OpenClaim := { program := "ytinbppcfdmbclaa", sum := "496c2fccede1b912c1b7551f4e68b5a4b8dcf5412bac1b3bff487f239b504613", func := "quayside/quaysidelaw12.PagePlays", spec := "pagePlays", apart := false }
def PagePlaysSaid : Prop := pagePlaysRow.holds Try.pinned (OpenSpec.ofChange pagePlaysSpec)

/-- ITS FALSE NEIGHBOUR: 'it returns false'. Refute it at one input. -/
def pagePlaysWrong : ChangeSpec := { name := "pagePlays", fn := fun _ => fun
  | [d1, d2] => { results := [.lit (.bool false)], args := [d1, d2] }
  | _ => none }
def PagePlaysWrongFalsely : Prop := pagePlaysRow.holds Try.pinned (OpenSpec.ofChange pagePlaysWrong)

/-- 'quaysidelaw12.PageNobody': WHATEVER THE INPUT: true; the input reads as it did. -/
def pageNobodySpec : ChangeSpec := { name := "pageNobody", fn := fun _ => fun
  | [d1, d2, d3] => { results := [.lit (.bool true)], args := [d1, d2, d3] }
  | _ => none }
def pageNobodyRow : OpenClaim := { program := "ytinbppcfdmbclaa", sum := "496c2fccede1b912c1b7551f4e68b5a4b8dcf5412bac1b3bff487f239b504613", func := "quayside/quaysidelaw12.PageNobody", spec := "pageNobody", apart := false }
def PageNobodySaid : Prop := pageNobodyRow.holds Try.pinned (OpenSpec.ofChange pageNobodySpec)

/-- ITS FALSE NEIGHBOUR: 'it returns false'. Refute it at one input. -/
def pageNobodyWrong : ChangeSpec := { name := "pageNobody", fn := fun _ => fun
  | [d1, d2, d3] => { results := [.lit (.bool false)], args := [d1, d2, d3] }
  | _ => none }
def PageNobodyWrongFalsely : Prop := pageNobodyRow.holds Try.pinned (OpenSpec.ofChange pageNobodyWrong)

/- THE SECOND FORM. 'bulk': how many values and letters a reading holds, each counted each time it is reached (what is shared counts as often as it is met; a slice's spare places count too). A statement '..UptoSaid' is the law's where the arguments, and the package variables that the reading takes, are together of bulk at most 1048576: NARROWER than '..Said'. Prove '..Said' where nothing that the law and all that it calls make is longer than what came in: it says more and counts as full. Else prove '..UptoSaid'. A law counts once. -/
mutual
def uptoBulk {H : Type} : DataW H → Nat
  | .lit (.string bytes) => bytes.length + 1
  | .lit _ => 1
  | .nil => 1
  | .ptr d => uptoBulk d + 1
  | .slice elems spare => uptoBulkAll elems + uptoBulkAll spare + 1
  | .agg parts => uptoBulkAll parts + 1
  | .iface _ d => uptoBulk d + 1
  | .map entries => uptoBulkEntries entries + 1
  | .held _ => 1
def uptoBulkAll {H : Type} : List (DataW H) → Nat
  | [] => 0
  | d :: r => uptoBulk d + uptoBulkAll r
def uptoBulkEntries {H : Type} : List (Lit × DataW H) → Nat
  | [] => 0
  | x :: r => uptoBulkEntry x + uptoBulkEntries r
def uptoBulkEntry {H : Type} : Lit × DataW H → Nat
  | (.string bytes, d) => bytes.length + uptoBulk d + 1
  | (_, d) => uptoBulk d + 1
 end
def uptoSmall : (H : Type) → List (DataW H) → Bool := fun _ ds => decide (uptoBulkAll ds ≤ 1048576)
def OpenSpec.upto (s : _root_.Go.ChangeSpec) : _root_.Go.OpenSpec := { _root_.Go.OpenSpec.ofChange s with cond := some uptoSmall }

/-- 'quaysidelaw12.PageTells', WHERE WHAT IT READS IS OF BULK AT MOST 1048576: true; the input reads as it did. -/
def pageTellsUptoRow : OpenClaim := { program := "ytinbppcfdmbclaa", sum := "496c2fccede1b912c1b7551f4e68b5a4b8dcf5412bac1b3bff487f239b504613", func := "quayside/quaysidelaw12.PageTells", spec := "pageTells", apart := false, narrowed := true }
def PageTellsUptoSaid : Prop := pageTellsUptoRow.holds Try.pinned (OpenSpec.upto pageTellsSpec)

/-- 'quaysidelaw12.PageReads', WHERE WHAT IT READS IS OF BULK AT MOST 1048576: true; the input reads as it did. -/
def pageReadsUptoRow : OpenClaim := { program := "ytinbppcfdmbclaa", sum := "496c2fccede1b912c1b7551f4e68b5a4b8dcf5412bac1b3bff487f239b504613", func := "quayside/quaysidelaw12.PageReads", spec := "pageReads", apart := false, narrowed := true }
def PageReadsUptoSaid : Prop := pageReadsUptoRow.holds Try.pinned (OpenSpec.upto pageReadsSpec)

/-- 'quaysidelaw12.PageFull', WHERE WHAT IT READS IS OF BULK AT MOST 1048576: true; the input reads as it did. -/
def pageFullUptoRow : OpenClaim := { program := "ytinbppcfdmbclaa", sum := "496c2fccede1b912c1b7551f4e68b5a4b8dcf5412bac1b3bff487f239b504613", func := "quayside/quaysidelaw12.PageFull", spec := "pageFull", apart := false, narrowed := true }
def PageFullUptoSaid : Prop := pageFullUptoRow.holds Try.pinned (OpenSpec.upto pageFullSpec)

/-- 'quaysidelaw12.PageSplits', WHERE WHAT IT READS IS OF BULK AT MOST 1048576: true; the input reads as it did. -/
def pageSplitsUptoRow : OpenClaim := { program := "ytinbppcfdmbclaa", sum := "496c2fccede1b912c1b7551f4e68b5a4b8dcf5412bac1b3bff487f239b504613", func := "quayside/quaysidelaw12.PageSplits", spec := "pageSplits", apart := false, narrowed := true }
def PageSplitsUptoSaid : Prop := pageSplitsUptoRow.holds Try.pinned (OpenSpec.upto pageSplitsSpec)

/-- 'quaysidelaw12.PagePlays', WHERE WHAT IT READS IS OF BULK AT MOST 1048576: true; the input reads as it did. -/
def pagePlaysUptoRow : OpenClaim := { program := "ytinbppcfdmbclaa", sum := "496c2fccede1b912c1b7551f4e68b5a4b8dcf5412bac1b3bff487f239b504613", func := "quayside/quaysidelaw12.PagePlays", spec := "pagePlays", apart := false, narrowed := true }
def PagePlaysUptoSaid : Prop := pagePlaysUptoRow.holds Try.pinned (OpenSpec.upto pagePlaysSpec)

/-- 'quaysidelaw12.PageNobody', WHERE WHAT IT READS IS OF BULK AT MOST 1048576: true; the input reads as it did. -/
def pageNobodyUptoRow : OpenClaim := { program := "ytinbppcfdmbclaa", sum := "496c2fccede1b912c1b7551f4e68b5a4b8dcf5412bac1b3bff487f239b504613", func := "quayside/quaysidelaw12.PageNobody", spec := "pageNobody", apart := false, narrowed := true }
def PageNobodyUptoSaid : Prop := pageNobodyUptoRow.holds Try.pinned (OpenSpec.upto pageNobodySpec)

end Rows
end Go.Proofs.Ytinbppcfdmbclaa
