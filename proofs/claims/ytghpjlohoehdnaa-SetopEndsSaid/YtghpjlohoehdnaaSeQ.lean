/- setop.both and scan.Metered (with no meter) hand back iterators. No condition beyond those that each theorem names. -/
import Derived.Test.YtghpjlohoehdnaaSeP
namespace Go.Proofs.Ytghpjlohoehdnaa.Sep
open Go Go.RowKit Go.Shelf
set_option linter.unusedVariables false
set_option linter.unusedSimpArgs false
theorem both_it (A B : Nat) (va vb : Value) (ya yb : List (RV × Int)) (Ra Rb : Nat → Prop) (w : World) (hA : A < w.heap.size) (hB : B < w.heap.size) (hca : w.cell? ⟨A, 0, none⟩ = some va) (hcb : w.cell? ⟨B, 0, none⟩ = some vb) (ha : It va ya Ra w) (hb : It vb yb Rb w) :
    It (.func (.func 68) #[] #[.pointer (some ⟨A, 0, none⟩), .pointer (some ⟨B, 0, none⟩)]) (cutE (ya ++ yb)) (fun j => j = A ∨ j = B ∨ Ra j ∨ Rb j) w := by
  refine ⟨⟨68, _, rfl, enters_of Try.func68 (by kernel_rfl) rfl, ?_⟩, ?_⟩
  · intro n l J Jx X W hs hR hX hJ hJx hY h0
    have ha' := ha.later hs (fun j hj => (hR j (.inr (.inr (.inl hj)))).2.2)
    have hb' := hb.later hs (fun j hj => (hR j (.inr (.inr (.inr hj)))).2.2)
    obtain ⟨ga, la, rfl, ega, hqa⟩ := ha'.ex
    obtain ⟨gb, lb, rfl, egb, hqb⟩ := hb'.ex
    refine callsIn_wide.2 (callsIn_wide.1 (both1_in 6 (Nat.le_refl _) l A B ga gb la lb ya yb Ra Rb J Jx X W hX hJ hJx (Nat.lt_of_lt_of_le hA hs) (Nat.lt_of_lt_of_le hB hs) ((cell_of_block (hR A (.inl rfl)).2.2 0).trans hca) ((cell_of_block (hR B (.inr (.inl rfl))).2.2 0).trans hcb) ega egb hqa hqb
      (fun j hj => ⟨ha'.lt j hj, (hR j (.inr (.inr (.inl hj)))).2.1⟩) (fun j hj => ⟨hb'.lt j hj, (hR j (.inr (.inr (.inr hj)))).2.1⟩) (fun pre x X1 W1 p q r => yield_wide (hY pre x X1 W1 p q r)) h0))
  · rintro j (rfl | rfl | h | h)
    · exact hA
    · exact hB
    · exact ha.lt j h
    · exact hb.lt j h
theorem bad_it (A B Bm : Nat) (va : Value) (ya : List (RV × Int)) (Ra : Nat → Prop) (w : World) (hA : A < w.heap.size) (hB : B < w.heap.size) (hM : Bm < w.heap.size) (hca : w.cell? ⟨A, 0, none⟩ = some va) (hcb : w.cell? ⟨B, 0, none⟩ = some (.func (.func 39) #[] #[.pointer (some ⟨Bm, 0, none⟩)]))
    (hcm : w.cell? ⟨Bm, 0, none⟩ = some (.pointer none)) (ha : It va ya Ra w) (hz : ∀ y ∈ ya, y.2 = 0) :
    It (.func (.func 66) #[] #[.pointer (some ⟨A, 0, none⟩), .pointer (some ⟨B, 0, none⟩)]) (badL ya) (fun j => j = A ∨ j = B ∨ j = Bm ∨ Ra j) w := by
  refine ⟨⟨66, _, rfl, enters_of Try.func66 (by kernel_rfl) rfl, ?_⟩, ?_⟩
  · intro n l J Jx X W hs hR hX hJ hJx hY h0
    have ha' := ha.later hs (fun j hj => (hR j (.inr (.inr (.inr hj)))).2.2)
    obtain ⟨ga, la, rfl, ega, hqa⟩ := ha'.ex
    have rB := hR B (.inr (.inl rfl))
    have rM := hR Bm (.inr (.inr (.inl rfl)))
    refine callsIn_wide.2 (callsIn_wide.1 (over1_nil 6 (Nat.le_refl _) l A B Bm ga la ya Ra J Jx X W hX hJ hJx hz (Nat.lt_of_lt_of_le hA hs) ⟨Nat.lt_of_lt_of_le hB hs, rB.2.1⟩ ⟨Nat.lt_of_lt_of_le hM hs, rM.2.1⟩ ((cell_of_block (hR A (.inl rfl)).2.2 0).trans hca) ((cell_of_block rB.2.2 0).trans hcb) ((cell_of_block rM.2.2 0).trans hcm) ega hqa
      (fun j hj => ⟨ha'.lt j hj, (hR j (.inr (.inr (.inr hj)))).2.1⟩) (fun pre x X1 W1 p q r => yield_wide (hY pre x X1 W1 p q r)) h0))
  · rintro j (rfl | rfl | rfl | h)
    · exact hA
    · exact hB
    · exact hM
    · exact ha.lt j h
set_option maxHeartbeats 1000000 in
theorem both_make (ga gb : FuncId) (la lb : Array Value) (w : World) :
    Calls Try.prog 43 #[.func (.func ga) #[] la, .func (.func gb) #[] lb] w fun e w' => e = .returned (.func (.func 68) #[] #[.pointer (some ⟨w.heap.size, 0, none⟩), .pointer (some ⟨w.heap.size + 1, 0, none⟩)]) ∧
      w' = (w.alloc (.cells #[.func (.func ga) #[] la] 31)).alloc (.cells #[.func (.func gb) #[] lb] 31) := by
  go_enter Try.func43, Try.ntmps43
  go_wp2
  go_ret
  exact ⟨by simp, rfl⟩
end Go.Proofs.Ytghpjlohoehdnaa.Sep
