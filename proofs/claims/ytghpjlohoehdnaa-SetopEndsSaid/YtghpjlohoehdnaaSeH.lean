/- The predicate that sort.Distinct hands to ContainsFunc. No condition beyond those that each theorem names. -/
import Derived.Test.YtghpjlohoehdnaaSeG
namespace Go.Proofs.Ytghpjlohoehdnaa.Sep
open Go Go.RowKit Go.Shelf
set_option linter.unusedVariables false
set_option linter.unusedSimpArgs false
set_option maxHeartbeats 1000000 in
theorem pred_ok (oa ra : Option Addr) (on oc rn rc B : Nat) (so sr : List V3) (W : World) (hc : W.cell? ⟨B, 0, none⟩ = some (.slice ra rn rc)) (h1 : Cont W ⟨oa, on, oc⟩ so) (h2 : Cont W ⟨ra, rn, rc⟩ sr) (hn : on ≤ 100000) :
    Calls Try.prog 56 #[.slice oa on oc, .pointer (some ⟨B, 0, none⟩)] W fun e W' => e = .returned (.bool (eqRow so sr)) ∧ W'.heap = W.heap ∧ W'.os = W.os ∧ W'.tape = W.tape ∧ W'.output = W.output := by
  go_enter Try.func56, Try.ntmps56
  go_wp2_with (go_at_call 57; refine (equal_ok ⟨oa, on, oc⟩ ⟨ra, rn, rc⟩ so sr _ h1 h2 hn).mono ?_; rintro e w' ⟨rfl, hw⟩)
  go_ret
  exact ⟨rfl, hw⟩
end Go.Proofs.Ytghpjlohoehdnaa.Sep
