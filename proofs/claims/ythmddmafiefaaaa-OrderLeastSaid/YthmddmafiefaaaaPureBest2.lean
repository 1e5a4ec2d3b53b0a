import Derived.Test.YthmddmafiefaaaaOrx5
import Derived.Test.YthmddmafiefaaaaPureOrd
namespace Go.Proofs.Ythmddmafiefaaaa.PureOrd
open Go.RowKit Go.Proofs.YthmddmafiefaaaaW.PrintWords Go.Proofs.YthmddmafiefaaaaW.PrintLast Go.Proofs.YthmddmafiefaaaaW.PrintMore
open Go.Proofs.Ythmddmafiefaaaa.Or
set_option linter.unusedVariables false
set_option linter.unusedSimpArgs false
/-- a set with one table more -/
def ins (s t : Int) : Int := Go.bits .or .i64 s (shl .i64 1 t)
/-- a set without a table -/
def del (s t : Int) : Int := Go.bits .andNot .i64 s (shl .i64 1 t)
/-- is a table in a set? -/
def mem (s t : Int) : Bool := Go.bits .and .i64 (shr .i64 s t) 1 == 1
theorem set_nat : ∀ (s : Fin 64) (t : Fin 6), (0 ≤ ins s.val t.val ∧ ins s.val t.val < 64) ∧ (0 ≤ del s.val t.val ∧ del s.val t.val < 64) ∧ (mem s.val t.val = true → ins (del s.val t.val) t.val = s.val ∧ del s.val t.val < s.val) ∧ ∀ u : Fin 6, mem (ins s.val t.val) u.val = (mem s.val u.val || u == t) ∧ mem (del s.val t.val) u.val = (mem s.val u.val && u != t) := by decide +kernel
end Go.Proofs.Ythmddmafiefaaaa.PureOrd
