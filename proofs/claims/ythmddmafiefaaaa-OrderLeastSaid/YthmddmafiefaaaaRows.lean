/-
  No cell of these rows narrows 'for every input' (looked for: loops, veiled, ifaces, maps, wideKeys, modest, calm, conditions, laid).
  DERIVED. THE GIVEN ROWS OF THIS SEAT. 4 by the template 'for every input the law returns true; each argument reads behind the call as it read before'; 0 by the template 'total and deterministic' (their statements: YthmddmafiefaaaaTotals.lean).
  GIVEN WITH THE SEED: the statements are not yours to turn. If you find one false, say at which input.
  Laid BY PROGRAM, IN A SANDBOX (cutbox-rows.mjs): the forced cells as the released guide's own fill.sh prints them over the translation 7bf58dbd86deef42… (all of the seat's roots in one cut). By AI agents, Wed Nov 11 2026. No macro, syntax, notation, axiom, sorry.
-/
import Derived.Test.YthmddmafiefaaaaChecked
import GoSem.Claim
import GoSem.ClaimJoined
import GoSem.ClaimMapViews
import Derived.JoinedTies
import Derived.KernelRfl
namespace Go.Proofs.Ythmddmafiefaaaa
/- THE CELL 'sum', in the pinned program and in every row, IS THE sha256 OF THE DUMP (.gsa) THAT YthmddmafiefaaaaProg.lean LOADS. Nothing in Lean hashes anything: it is a label: what it is worth is what the hold of that sum in a sandbox is worth. -/
noncomputable def Try.pinned : Pinned := { name := "ythmddmafiefaaaa", sum := "7bf58dbd86deef4210a9dfdb7b0de5b412670689fe798a11560f58b08c5ea563", checked := Try.checked }
namespace Rows
def none {H : Type} : Left H := { results := [], args := [] }

/-- 'quaysidelaw24.OrderBest': WHATEVER THE INPUT: true; the input reads as it did. -/
def orderBestSpec : ChangeSpec := { name := "orderBest", fn := fun _ => fun
  | [d] => { results := [.lit (.bool true)], args := [d] }
  | _ => none }
def orderBestRow : OpenClaim := { program := "ythmddmafiefaaaa", sum := "7bf58dbd86deef4210a9dfdb7b0de5b412670689fe798a11560f58b08c5ea563", func := "quayside/quaysidelaw24.OrderBest", spec := "orderBest", recurses := true, apart := false }
def OrderBestSaid : Prop := orderBestRow.holds Try.pinned (OpenSpec.ofChange orderBestSpec)

/-- ITS FALSE NEIGHBOUR: 'it returns false'. Refute it at one input. -/
def orderBestWrong : ChangeSpec := { name := "orderBest", fn := fun _ => fun
  | [d] => { results := [.lit (.bool false)], args := [d] }
  | _ => none }
def OrderBestWrongFalsely : Prop := orderBestRow.holds Try.pinned (OpenSpec.ofChange orderBestWrong)

/-- 'quaysidelaw24.OrderRows': WHATEVER THE INPUT: true; the input reads as it did. -/
def orderRowsSpec : ChangeSpec := { name := "orderRows", fn := fun _ => fun
  | [d1, d2] => { results := [.lit (.bool true)], args := [d1, d2] }
  | _ => none }
def orderRowsRow : OpenClaim := { program := "ythmddmafiefaaaa", sum := "7bf58dbd86deef4210a9dfdb7b0de5b412670689fe798a11560f58b08c5ea563", func := "quayside/quaysidelaw24.OrderRows", spec := "orderRows", apart := false }
def OrderRowsSaid : Prop := orderRowsRow.holds Try.pinned (OpenSpec.ofChange orderRowsSpec)

/-- ITS FALSE NEIGHBOUR: 'it returns false'. Refute it at one input. -/
def orderRowsWrong : ChangeSpec := { name := "orderRows", fn := fun _ => fun
  | [d1, d2] => { results := [.lit (.bool false)], args := [d1, d2] }
  | _ => none }
def OrderRowsWrongFalsely : Prop := orderRowsRow.holds Try.pinned (OpenSpec.ofChange orderRowsWrong)

/-- 'quaysidelaw24.OrderCosts': WHATEVER THE INPUT: true; the input reads as it did. -/
def orderCostsSpec : ChangeSpec := { name := "orderCosts", fn := fun _ => fun
  | [d1, d2] => { results := [.lit (.bool true)], args := [d1, d2] }
  | _ => none }
def orderCostsRow : OpenClaim := { program := "ythmddmafiefaaaa", sum := "7bf58dbd86deef4210a9dfdb7b0de5b412670689fe798a11560f58b08c5ea563", func := "quayside/quaysidelaw24.OrderCosts", spec := "orderCosts", apart := false }
def OrderCostsSaid : Prop := orderCostsRow.holds Try.pinned (OpenSpec.ofChange orderCostsSpec)

/-- ITS FALSE NEIGHBOUR: 'it returns false'. Refute it at one input. -/
def orderCostsWrong : ChangeSpec := { name := "orderCosts", fn := fun _ => fun
  | [d1, d2] => { results := [.lit (.bool false)], args := [d1, d2] }
  | _ => none }
def OrderCostsWrongFalsely : Prop := orderCostsRow.holds Try.pinned (OpenSpec.ofChange orderCostsWrong)

/-- 'quaysidelaw24.OrderLeast': WHATEVER THE INPUT: true; the input reads as it did. -/
def orderLeastSpec : ChangeSpec := { name := "orderLeast", fn := fun _ => fun
  | [d1, d2] => { results := [.lit (.bool true)], args := [d1, d2] }
  | _ => none }
def orderLeastRow : OpenClaim := { program := "ythmddmafiefaaaa", sum := "7bf58dbd86deef4210a9dfdb7b0de5b412670689fe798a11560f58b08c5ea563", func := "quayside/quaysidelaw24.OrderLeast", spec := "orderLeast", apart := false }
def OrderLeastSaid : Prop := orderLeastRow.holds Try.pinned (OpenSpec.ofChange orderLeastSpec)

/-- ITS FALSE NEIGHBOUR: 'it returns false'. Refute it at one input. -/
def orderLeastWrong : ChangeSpec := { name := "orderLeast", fn := fun _ => fun
  | [d1, d2] => { results := [.lit (.bool false)], args := [d1, d2] }
  | _ => none }
def OrderLeastWrongFalsely : Prop := orderLeastRow.holds Try.pinned (OpenSpec.ofChange orderLeastWrong)

/- THE SECOND FORM. 'bulk': how many values and letters a reading holds, each counted each time it is reached (what is shared counts as often as it is met; a slice's spare places count too). A statement '..UptoSaid' is the law's where the arguments, and the package variables that the reading takes, are together of bulk at most 1048576: NARROWER than '..Said'. Prove '..Said' where nothing that the law and all that it calls make is longer than what came in: it says more and counts as full. Else prove '..UptoSaid'. A law counts once. -/
mutual
def uptoBulk {H : Type} : DataW H → Nat
  | .lit (.string bytes) => bytes.length + 1
  | .lit _ => 1
  | .nil => 1
  | .ptr d => uptoBulk d + 1
  | .slice elems spare => uptoBulkAll elems + uptoBulkAll spare + 1
  | .agg parts => uptoBulkAll parts + 1
  | .iface _ d => uptoBulk d + 1
  | .map entries => uptoBulkEntries entries + 1
  | .held _ => 1
def uptoBulkAll {H : Type} : List (DataW H) → Nat
  | [] => 0
  | d :: r => uptoBulk d + uptoBulkAll r
def uptoBulkEntries {H : Type} : List (Lit × DataW H) → Nat
  | [] => 0
  | x :: r => uptoBulkEntry x + uptoBulkEntries r
def uptoBulkEntry {H : Type} : Lit × DataW H → Nat
  | (.string bytes, d) => bytes.length + uptoBulk d + 1
  | (_, d) => uptoBulk d + 1
 end
def uptoSmall : (H : Type) → List (DataW H) → Bool := fun _ ds => decide (uptoBulkAll ds ≤ 1048576)
def OpenSpec.upto (s : _root_.Go.ChangeSpec) : _root_.Go.OpenSpec := { _root_.Go.OpenSpec.ofChange s with cond := some uptoSmall }

/-- 'quaysidelaw24.OrderBest', WHERE WHAT IT READS IS OF BULK AT MOST 1048576: true; the input reads as it did. -/
def orderBestUptoRow : OpenClaim := { program := "ythmddmafiefaaaa", sum := "7bf58dbd86deef4210a9dfdb7b0de5b412670689fe798a11560f58b08c5ea563", func := "quayside/quaysidelaw24.OrderBest", spec := "orderBest", recurses := true, apart := false, narrowed := true }
def OrderBestUptoSaid : Prop := orderBestUptoRow.holds Try.pinned (OpenSpec.upto orderBestSpec)

/-- 'quaysidelaw24.OrderRows', WHERE WHAT IT READS IS OF BULK AT MOST 1048576: true; the input reads as it did. -/
def orderRowsUptoRow : OpenClaim := { program := "ythmddmafiefaaaa", sum := "7bf58dbd86deef4210a9dfdb7b0de5b412670689fe798a11560f58b08c5ea563", func := "quayside/quaysidelaw24.OrderRows", spec := "orderRows", apart := false, narrowed := true }
def OrderRowsUptoSaid : Prop := orderRowsUptoRow.holds Try.pinned (OpenSpec.upto orderRowsSpec)

/-- 'quaysidelaw24.OrderCosts', WHERE WHAT IT READS IS OF BULK AT MOST 1048576: true; the input reads as it did. -/
def orderCostsUptoRow : OpenClaim := { program := "ythmddmafiefaaaa", sum := "7bf58dbd86deef4210a9dfdb7b0de5b412670689fe798a11560f58b08c5ea563", func := "quayside/quaysidelaw24.OrderCosts", spec := "orderCosts", apart := false, narrowed := true }
def OrderCostsUptoSaid : Prop := orderCostsUptoRow.holds Try.pinned (OpenSpec.upto orderCostsSpec)

/-- 'quaysidelaw24.OrderLeast', WHERE WHAT IT READS IS OF BULK AT MOST 1048576: true; the input reads as it did. -/
def orderLeastUptoRow : OpenClaim := { program := "ythmddmafiefaaaa", sum := "7bf58dbd86deef4210a9dfdb7b0de5b412670689fe798a11560f58b08c5ea563", func := "quayside/quaysidelaw24.OrderLeast", spec := "orderLeast", apart := false, narrowed := true }
def OrderLeastUptoSaid : Prop := orderLeastUptoRow.holds Try.pinned (OpenSpec.upto orderLeastSpec)

end Rows
end Go.Proofs.Ythmddmafiefaaaa
