/- setop.Join: an iterator of the rows of two, joined. No condition beyond those that each theorem names. -/
import Derived.Test.YtghpjlohoehdnaaSeY
namespace Go.Proofs.Ytghpjlohoehdnaa.Sep
open Go Go.RowKit Go.Shelf
attribute [local go_sem] Oper.semAt_some
set_option linter.unusedVariables false
set_option linter.unusedSimpArgs false
set_option maxRecDepth 100000 in
set_option maxHeartbeats 1000000 in
theorem err1_in (n : Nat) (hn : 1 ≤ n) (l : Nat) (J Jx : List (RV × Int) → (Nat → Prop) → World → Prop) (X : Nat → Prop) (W : World) (hX : ∀ j, X j → j < W.heap.size)
    (hY : ∀ pre x X1 W1, (pre ++ [x]) <+: [((RV.nil : RV), (1 : Int))] → J pre X1 W1 → Gr X X1 W.heap.size W W1 → YieldAt Fence.wide (n - 1) Try.prog l (enc x) W1 fun e W' =>
      ∃ X', Gr X1 X' W1.heap.size W1 W' ∧ ((e = .returned (.bool true) ∧ J (pre ++ [x]) X' W') ∨ (e = .returned (.bool false) ∧ Jx (pre ++ [x]) X' W')))
    (h0 : J [] X W) :
    CallsIn Fence.wide n Try.prog 45 #[.func (.yield l) #[] #[]] W fun e W' => (∃ v, e = .returned v) ∧
      ∃ X', Gr X X' W.heap.size W W' ∧ (J [((RV.nil : RV), (1 : Int))] X' W' ∨ ∃ pre, pre <+: [((RV.nil : RV), (1 : Int))] ∧ Jx pre X' W') := by
  have hro : Fence.wide.round = none := rfl
  obtain ⟨fn, tmps, assign, body, hy, hR⟩ := hY [] (RV.nil, 1) X W (List.prefix_refl _) h0 (Gr.refl _ _ hX)
  dsimp only [enc, RV.nil] at hy
  refine callsIn_of_wp Try.func45 rfl trivial ?_ hro
  simp only [Try.ntmps45, List.size_toArray, List.length_cons, List.length_nil, Nat.reduceAdd, Nat.reduceSub, Array.replicate_succ, Array.replicate_zero, List.push_toArray, List.append_toArray, List.nil_append, List.cons_append]
  gi_wp2
  refine hR.mono ?_
  rintro e W3 ⟨X3, hg3, (⟨rfl, hJ3⟩ | ⟨rfl, hJx3⟩)⟩
  · gi_wp2
    go_end0
    exact ⟨⟨_, rfl⟩, X3, hg3, .inl hJ3⟩
  · gi_wp2
    go_end0
    exact ⟨⟨_, rfl⟩, X3, hg3, .inr ⟨_, List.prefix_refl _, hJx3⟩⟩
theorem err_c (w : World) : ItC (.func (.func 45) #[] #[]) [((RV.nil, 1), [])] (fun _ => False) w := by
  refine ⟨⟨⟨45, _, rfl, enters_of Try.func45 (by kernel_rfl) rfl, ?_⟩, fun j h => h.elim⟩, fun p hp h0 => ?_⟩
  · intro n l J Jx X W hs hR hX hJ hJx hY h0
    exact callsIn_wide.2 (callsIn_wide.1 (err1_in 6 (by decide) l J Jx X W hX (fun pre x X1 W1 p q r => yield_wide (hY pre x X1 W1 p q r)) h0))
  · rw [List.mem_singleton.1 hp] at h0
    cases h0
/-- a function value that is no method, or nil -/
def Fv (v : Value) : Prop := (∃ g la, v = .func (.func g) #[] la) ∨ v = .nilFunc
theorem ItC.fv {v : Value} {prs : List Pr} {R : Nat → Prop} {w : World} (h : ItC v prs R w) : Fv v := by
  obtain ⟨g, lb, e, _⟩ := h.it.ex
  exact .inl ⟨g, lb, e⟩
set_option maxHeartbeats 1000000 in
theorem dist_make (va : Value) (hv : Fv va) (w : World) :
    Calls Try.prog 28 #[va] w fun e w' => e = .returned (.func (.func 54) #[] #[.pointer (some ⟨w.heap.size, 0, none⟩)]) ∧ w' = w.alloc (.cells #[va] 31) := by
  rcases hv with ⟨g, la, rfl⟩ | rfl
  · go_enter Try.func28, Try.ntmps28
    go_wp2
    go_ret
    exact ⟨rfl, rfl⟩
  · go_enter Try.func28, Try.ntmps28
    go_wp2
    go_ret
    exact ⟨rfl, rfl⟩
set_option maxHeartbeats 1000000 in
theorem among_make (va vb : Value) (hv : Fv va) (hw : Fv vb) (is : Bool) (w : World) :
    Calls Try.prog 44 #[va, vb, .bool is] w fun e w' => e = .returned (.func (.func 69) #[] #[.pointer (some ⟨w.heap.size + 1, 0, none⟩), .pointer (some ⟨w.heap.size, 0, none⟩), .pointer (some ⟨w.heap.size + 1 + 1, 0, none⟩)]) ∧
      w' = ((w.alloc (.cells #[va] 31)).alloc (.cells #[vb] 31)).alloc (.cells #[.bool is] 4) := by
  rcases hv with ⟨g, la, rfl⟩ | rfl <;> rcases hw with ⟨g2, la2, rfl⟩ | rfl
  all_goals
    go_enter Try.func44, Try.ntmps44
    go_wp2
    go_ret
    exact ⟨rfl, rfl⟩
set_option maxHeartbeats 1000000 in
theorem both_make2 (va vb : Value) (hv : Fv va) (hw : Fv vb) (w : World) :
    Calls Try.prog 43 #[va, vb] w fun e w' => e = .returned (.func (.func 68) #[] #[.pointer (some ⟨w.heap.size, 0, none⟩), .pointer (some ⟨w.heap.size + 1, 0, none⟩)]) ∧
      w' = (w.alloc (.cells #[va] 31)).alloc (.cells #[vb] 31) := by
  rcases hv with ⟨g, la, rfl⟩ | rfl <;> rcases hw with ⟨g2, la2, rfl⟩ | rfl
  all_goals
    go_enter Try.func43, Try.ntmps43
    go_wp2
    go_ret
    exact ⟨by simp, rfl⟩
set_option maxRecDepth 100000 in
set_option maxHeartbeats 1000000 in
theorem both_nil1 (n : Nat) (hn : 1 ≤ n) (l A B : Nat) (W : World) (hA : A < W.heap.size) (hB : B < W.heap.size) (hca : W.cell? ⟨A, 0, none⟩ = some .nilFunc) (hcb : W.cell? ⟨B, 0, none⟩ = some .nilFunc) :
    CallsIn Fence.wide n Try.prog 68 #[.func (.yield l) #[] #[], .pointer (some ⟨A, 0, none⟩), .pointer (some ⟨B, 0, none⟩)] W fun e W' => (∃ v, e = .returned v) ∧ Below W.heap.size W W' := by
  have hro : Fence.wide.round = none := rfl
  have hfn : ∀ (w : World), (binOp .eql 31 .nilFunc .nilFunc).run Try.prog w = .ok (.bool true) w := fun _ => rfl
  refine callsIn_of_wp Try.func68 rfl trivial ?_ hro
  simp only [Try.ntmps68, List.size_toArray, List.length_cons, List.length_nil, Nat.reduceAdd, Nat.reduceSub, Array.replicate_succ, Array.replicate_zero, List.push_toArray, List.append_toArray, List.nil_append, List.cons_append]
  gi_wp2
  refine wpIn_loop_rounds 3 ?_
  have cS := World.alloc_heap_new (W.alloc (.cells #[.func (.yield l) #[] #[]] 72)) (.cells #[.nilFunc, .nilFunc] 31)
  have hbel : Below W.heap.size W ((W.alloc (.cells #[.func (.yield l) #[] #[]] 72)).alloc (.cells #[.nilFunc, .nilFunc] 31)) := ((Below.refl _ W).alloc (Nat.le_refl _) _).alloc (by simp) _
  rw [World.size_alloc] at cS
  generalize (W.alloc (.cells #[.func (.yield l) #[] #[]] 72)).alloc (.cells #[.nilFunc, .nilFunc] 31) = W1 at cS hbel ⊢
  have s0 : W1.cell? ⟨W.heap.size + 1, 0, none⟩ = some .nilFunc := by simp [World.cell?, cS]
  have s1 : W1.cell? ⟨W.heap.size + 1, 1, none⟩ = some .nilFunc := by simp [World.cell?, cS]
  clear cS
  rw [roundsIn_succ]
  gi_wp2
  rw [roundsIn_succ]
  gi_wp2
  rw [roundsIn_succ]
  gi_wp2
  go_end0
  exact ⟨⟨_, rfl⟩, hbel⟩
theorem both_nil_c (A B : Nat) (w : World) (hA : A < w.heap.size) (hB : B < w.heap.size) (hca : w.cell? ⟨A, 0, none⟩ = some .nilFunc) (hcb : w.cell? ⟨B, 0, none⟩ = some .nilFunc) :
    ItC (.func (.func 68) #[] #[.pointer (some ⟨A, 0, none⟩), .pointer (some ⟨B, 0, none⟩)]) [] (fun j => j = A ∨ j = B) w := by
  refine ⟨⟨⟨68, _, rfl, enters_of Try.func68 (by kernel_rfl) rfl, ?_⟩, ?_⟩, fun p hp h0 => by cases hp⟩
  · intro n l J Jx X W hs hR hX hJ hJx hY h0
    refine (callsIn_wide.2 (callsIn_wide.1 (both_nil1 6 (by decide) l A B W (Nat.lt_of_lt_of_le hA hs) (Nat.lt_of_lt_of_le hB hs) ((cell_of_block (hR A (.inl rfl)).2.2 0).trans hca) ((cell_of_block (hR B (.inr rfl)).2.2 0).trans hcb)))).mono ?_
    rintro e W' ⟨h1, h2⟩
    exact ⟨h1, X, below_gr hX h2, .inl (hJ _ _ _ _ h0 (below_agree hX h2))⟩
  · rintro j (rfl | rfl)
    · exact hA
    · exact hB
set_option maxRecDepth 100000 in
set_option maxHeartbeats 1000000 in
theorem among_nil1 (n : Nat) (hn : 1 ≤ n) (l A B D : Nat) (is : Bool) (W : World) (hA : A < W.heap.size) (hB : B < W.heap.size) (hca : W.cell? ⟨A, 0, none⟩ = some .nilFunc) (hcb : W.cell? ⟨B, 0, none⟩ = some .nilFunc) :
    CallsIn Fence.wide n Try.prog 69 #[.func (.yield l) #[] #[], .pointer (some ⟨A, 0, none⟩), .pointer (some ⟨B, 0, none⟩), .pointer (some ⟨D, 0, none⟩)] W fun e W' => (∃ v, e = .returned v) ∧ Below W.heap.size W W' := by
  have hro : Fence.wide.round = none := rfl
  have hfn : ∀ (w : World), (binOp .eql 31 .nilFunc .nilFunc).run Try.prog w = .ok (.bool true) w := fun _ => rfl
  have hbel : Below W.heap.size W (W.alloc (.cells #[.func (.yield l) #[] #[]] 72)) := below_new _
  have cA1 := (cell_of_block (hbel.block A hA) 0).trans hca
  have cB1 := (cell_of_block (hbel.block B hB) 0).trans hcb
  refine callsIn_of_wp Try.func69 rfl trivial ?_ hro
  simp only [Try.ntmps69, List.size_toArray, List.length_cons, List.length_nil, Nat.reduceAdd, Nat.reduceSub, Array.replicate_succ, Array.replicate_zero, List.push_toArray, List.append_toArray, List.nil_append, List.cons_append]
  gi_upto_region 2 with (refine ⟨trivial, ?_⟩; gi_at_call 19; refine (callsIn_wide.2 (collect_nil _)).mono ?_; rintro e w2 ⟨rfl, hb2⟩)
  have hbx := below_step hbel (hb2.alloc hb2.size (.cells #[.slice none 0 0] 22)) hbel.size
  generalize w2.alloc (.cells #[.slice none 0 0] 22) = Wx at hbx ⊢
  have cBx := (cell_of_block (hbx.block B hB) 0).trans hcb
  gi_wp2
  refine bodyPost_ret (results_none rfl _ _ _) rfl ?_
  exact ⟨⟨_, rfl⟩, hbx⟩
theorem among_nil_c (A B D : Nat) (is : Bool) (w : World) (hA : A < w.heap.size) (hB : B < w.heap.size) (hca : w.cell? ⟨A, 0, none⟩ = some .nilFunc) (hcb : w.cell? ⟨B, 0, none⟩ = some .nilFunc) :
    ItC (.func (.func 69) #[] #[.pointer (some ⟨A, 0, none⟩), .pointer (some ⟨B, 0, none⟩), .pointer (some ⟨D, 0, none⟩)]) [] (fun j => j = A ∨ j = B) w := by
  refine ⟨⟨⟨69, _, rfl, enters_of Try.func69 (by kernel_rfl) rfl, ?_⟩, ?_⟩, fun p hp h0 => by cases hp⟩
  · intro n l J Jx X W hs hR hX hJ hJx hY h0
    refine (callsIn_wide.2 (callsIn_wide.1 (among_nil1 6 (by decide) l A B D is W (Nat.lt_of_lt_of_le hA hs) (Nat.lt_of_lt_of_le hB hs) ((cell_of_block (hR A (.inl rfl)).2.2 0).trans hca) ((cell_of_block (hR B (.inr rfl)).2.2 0).trans hcb)))).mono ?_
    rintro e W' ⟨h1, h2⟩
    exact ⟨h1, X, below_gr hX h2, .inl (hJ _ _ _ _ h0 (below_agree hX h2))⟩
  · rintro j (rfl | rfl)
    · exact hA
    · exact hB
end Go.Proofs.Ytghpjlohoehdnaa.Sep
