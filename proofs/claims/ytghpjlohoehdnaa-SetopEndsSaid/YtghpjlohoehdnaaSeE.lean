/- values compared. No condition beyond those that each theorem names. -/
import Derived.Test.YtghpjlohoehdnaaSeC
namespace Go.Proofs.Ytghpjlohoehdnaa.Sep
open Go Go.RowKit Go.Shelf
set_option maxHeartbeats 1000000 in
theorem neq45 (w : World) (a b : V3) : (binOp .neq 45 (.agg #[.int .i64 a.k, .int .i64 a.n, .string a.s]) (.agg #[.int .i64 b.k, .int .i64 b.n, .string b.s])).run Try.prog w = .ok (.bool (!(a.k == b.k && (a.n == b.n && a.s.toList == b.s.toList)))) w := by
  have u := Try.underlying45
  go_simp
  by_cases h1 : a.k = b.k <;> by_cases h2 : a.n = b.n <;> by_cases h3 : a.s.toList = b.s.toList <;> simp [h1, h2, h3]
end Go.Proofs.Ytghpjlohoehdnaa.Sep
