/- scan.over and scan.Metered: what they hand back. No condition beyond those that each theorem names. -/
import Derived.Test.YtghpjlohoehdnaaSeQ
namespace Go.Proofs.Ytghpjlohoehdnaa.Sep
open Go Go.RowKit Go.Shelf
set_option linter.unusedVariables false
set_option linter.unusedSimpArgs false
set_option maxHeartbeats 1000000 in
theorem over_make (ga gb : FuncId) (la lb : Array Value) (w : World) :
    Calls Try.prog 38 #[.func (.func ga) #[] la, .func (.func gb) #[] lb] w fun e w' => e = .returned (.func (.func 66) #[] #[.pointer (some ⟨w.heap.size, 0, none⟩), .pointer (some ⟨w.heap.size + 1, 0, none⟩)]) ∧
      w' = (w.alloc (.cells #[.func (.func ga) #[] la] 31)).alloc (.cells #[.func (.func gb) #[] lb] 71) := by
  go_enter Try.func38, Try.ntmps38
  go_wp2
  go_ret
  exact ⟨by simp, rfl⟩
set_option maxHeartbeats 1000000 in
theorem metered_make (ga : FuncId) (la : Array Value) (w : World) :
    Calls Try.prog 17 #[.func (.func ga) #[] la, .pointer none] w fun e w' => e = .returned (.func (.func 66) #[] #[.pointer (some ⟨w.heap.size + 1, 0, none⟩), .pointer (some ⟨w.heap.size + 2, 0, none⟩)]) ∧
      w' = ((w.alloc (.cells #[.pointer none] 62)).alloc (.cells #[.func (.func ga) #[] la] 31)).alloc (.cells #[.func (.func 39) #[] #[.pointer (some ⟨w.heap.size, 0, none⟩)]] 71) := by
  go_enter Try.func17, Try.ntmps17
  go_wp2_with (go_at_call 38; refine (over_make _ _ _ _ _).mono ?_; rintro e w' ⟨rfl, rfl⟩)
  go_ret
  exact ⟨by simp, rfl⟩
end Go.Proofs.Ytghpjlohoehdnaa.Sep
