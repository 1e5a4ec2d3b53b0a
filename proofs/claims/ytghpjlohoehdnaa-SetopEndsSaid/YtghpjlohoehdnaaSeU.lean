/- Iterators whose rows' values are known; scan.Collect over them. No condition beyond those that each theorem names. -/
import Derived.Test.YtghpjlohoehdnaaSeR
import Derived.Test.YtghpjlohoehdnaaSeN
namespace Go.Proofs.Ytghpjlohoehdnaa.Sep
open Go Go.RowKit Go.Shelf
attribute [local go_sem] Oper.semAt_some
set_option linter.unusedVariables false
set_option linter.unusedSimpArgs false
/-- what an iterator hands over, and the row's values -/
abbrev Pr := (RV × Int) × List V3
/-- the value v is an iterator over rows whose values are known; it reads the blocks R, the rows lie there too -/
structure ItC (v : Value) (prs : List Pr) (R : Nat → Prop) (w : World) : Prop where
  it : It v (prs.map Prod.fst) R w
  rows : ∀ p ∈ prs, p.1.2 = 0 → Cont w p.1.1 p.2 ∧ p.1.1.n ≤ 1000 ∧ ∀ j, p.1.1.blk j → R j
theorem ItC.later {v : Value} {prs : List Pr} {R : Nat → Prop} {w W : World} (h : ItC v prs R w) (hs : w.heap.size ≤ W.heap.size) (hR : ∀ j, R j → W.heap[j]? = w.heap[j]?) : ItC v prs R W :=
  ⟨h.it.later hs hR, fun p hp h0 => by
    obtain ⟨h1, h2, h3⟩ := h.rows p hp h0
    exact ⟨h1.same hs (fun j hj => hR j (h3 j hj)), h2, h3⟩⟩
theorem ItC.below {v : Value} {prs : List Pr} {R : Nat → Prop} {w W : World} (h : ItC v prs R w) (hb : Below w.heap.size w W) : ItC v prs R W :=
  h.later hb.size (fun j hj => hb.block j (h.it.lt j hj))
theorem all2_map {α β γ : Type} {f : α → β} {g : α → γ} {P : β → γ → Prop} : ∀ {l : List α}, (∀ x ∈ l, P (f x) (g x)) → All2 P (l.map f) (l.map g)
  | [], _ => trivial
  | x :: l, h => ⟨h x (by simp), all2_map fun y hy => h y (by simp [hy])⟩
theorem ItC.all2 {v : Value} {prs : List Pr} {R : Nat → Prop} {w : World} (h : ItC v prs R w) : All2 (fun y row => y.2 = 0 → Cont w y.1 row ∧ y.1.n ≤ 1000) (prs.map Prod.fst) (prs.map Prod.snd) :=
  all2_map fun p hp h0 => ⟨(h.rows p hp h0).1, (h.rows p hp h0).2.1⟩
/-- the first error; 0: there is none -/
def errOf : List Pr → Int
  | [] => 0
  | p :: l => if p.1.2 = 0 then errOf l else p.1.2
theorem errOf_zero : ∀ l : List Pr, (∀ p ∈ l, p.1.2 = 0) → errOf l = 0
  | [], _ => rfl
  | p :: l, h => by unfold errOf; rw [if_pos (h p (by simp)), errOf_zero l (fun q hq => h q (by simp [hq]))]
theorem errOf_pre : ∀ (l : List Pr) (pre : List (RV × Int)) (y : RV × Int), pre ++ [y] <+: l.map Prod.fst → (∀ z ∈ pre, z.2 = 0) → y.2 ≠ 0 → errOf l = y.2
  | [], pre, y, h, _, _ => by have := h.length_le; simp at this
  | p :: l, [], y, ⟨t, h⟩, _, hy => by
    simp only [List.nil_append, List.cons_append, List.map_cons, List.cons.injEq] at h
    unfold errOf
    rw [← h.1, if_neg hy]
  | p :: l, z :: pre, y, ⟨t, h⟩, hz, hy => by
    simp only [List.cons_append, List.map_cons, List.cons.injEq] at h
    unfold errOf
    rw [← h.1, if_pos (hz z (by simp))]
    exact errOf_pre l pre y ⟨t, h.2⟩ (fun a ha => hz a (by simp [ha])) hy
/-- a list of rows, and the blocks P that it lies in -/
def OwnB (P : Nat → Prop) (W : World) (sv : Value) (rows : List (List V3)) : Prop :=
  (∃ a c, sv = .slice a 0 c ∧ rows = []) ∨ ∃ b off c rs, sv = .slice (some ⟨b, off, none⟩) (List.length rs) c ∧ P b ∧ b < W.heap.size ∧ (∀ j, j < rs.length → W.cell? ⟨b, off + j, none⟩ = some ((rs[j]?.getD RV.nil).v)) ∧
    All2 (fun q row => Cont W q row ∧ q.n ≤ 1000 ∧ ∀ j, q.blk j → P j) rs rows
theorem OwnB.own {P : Nat → Prop} {W : World} {sv : Value} {rows : List (List V3)} : OwnB P W sv rows → Own1 W sv rows
  | .inl h => .inl h
  | .inr ⟨b, off, c, rs, h1, _, h2, h3, h4⟩ => .inr ⟨b, off, c, rs, h1, h2, h3, h4.imp fun _ _ h => ⟨h.1, h.2.1⟩⟩
theorem OwnB.same {P : Nat → Prop} {W W' : World} {sv : Value} {rows : List (List V3)} (hs : W.heap.size ≤ W'.heap.size) (hb : ∀ j, P j → W'.heap[j]? = W.heap[j]?) : OwnB P W sv rows → OwnB P W' sv rows
  | .inl h => .inl h
  | .inr ⟨b, off, c, rs, h1, h0, h2, h3, h4⟩ => .inr ⟨b, off, c, rs, h1, h0, Nat.lt_of_lt_of_le h2 hs, fun j hj => (cell_of_block (hb b h0) _).trans (h3 j hj), h4.imp fun _ _ h => ⟨h.1.same hs (fun j hj => hb j (h.2.2 j hj)), h.2⟩⟩
theorem OwnB.shape {P : Nat → Prop} {W : World} {sv : Value} {rows : List (List V3)} : OwnB P W sv rows → ∃ a k c, sv = .slice a k c
  | .inl ⟨_, _, h, _⟩ => ⟨_, _, _, h⟩
  | .inr ⟨b, off, c, rs, h1, _⟩ => ⟨_, _, _, h1⟩
theorem ownB_of_row {N : Nat} {W : World} {sv : Value} {k : Nat} {rs : List RV} {rows : List (List V3)} (hk : k = rs.length) (h : W.ownsRow N 48 1 sv k (rs.map RV.v)) (hr : All2 (fun r row => Cont W r row ∧ r.n ≤ 1000 ∧ ∀ j, r.blk j → N ≤ j) rs rows) :
    OwnB (fun j => N ≤ j ∧ j < W.heap.size) W sv rows := by
  rcases h.2 with ⟨rfl, h0⟩ | ⟨g, cap, cur, rfl, h1, h2, h3, h4, h5, h6⟩
  · subst hk
    have : rs = [] := List.eq_nil_of_length_eq_zero h0
    subst this
    cases rows with
    | nil => exact .inl ⟨_, _, rfl, rfl⟩
    | cons _ _ => exact hr.elim
  · subst hk
    refine .inr ⟨g, 0, cap, rs, rfl, ⟨h1, (Array.getElem?_eq_some_iff.1 h2).1⟩, (Array.getElem?_eq_some_iff.1 h2).1, fun j hj => ?_, hr.imp fun q row h => ⟨h.1, h.2.1, fun j hj => ⟨h.2.2 j hj, h.1.blt j hj⟩⟩⟩
    unfold World.cell?
    simp only [h2]
    have hj2 : (rs.map RV.v)[j]? = some ((rs[j]?.getD RV.nil).v) := by simp [hj]
    rw [← h6, List.getElem?_take_of_lt (by omega), Array.getElem?_toList] at hj2
    simpa using hj2
/-- COLLECT, of an iterator whose rows' values are known. -/
theorem collect_c (n : Nat) (hn : 3 ≤ n) (v : Value) (prs : List Pr) (R : Nat → Prop) (w : World) (h : ItC v prs R w) (hlen : prs.length ≤ 100000) :
    CallsIn Fence.wide n Try.prog 19 #[v] w fun e W' => Below w.heap.size w W' ∧
      ((errOf prs = 0 ∧ ∃ sv, e = .returned (.tuple #[sv, .int .i64 0]) ∧ (∀ p ∈ prs, p.1.2 = 0) ∧ OwnB (fun j => w.heap.size ≤ j ∧ j < W'.heap.size) W' sv (prs.map Prod.snd)) ∨ (errOf prs ≠ 0 ∧ e = .returned (.tuple #[.slice none 0 0, .int .i64 (errOf prs)]))) := by
  refine (collect_in n hn v _ _ R w h.it (by simpa using hlen) h.all2).mono ?_
  rintro e W' ⟨hb, ⟨sv, rs, rfl, hz, ho, hr⟩ | ⟨pre, y, hp, hz, hy, rfl⟩⟩
  · refine ⟨hb, .inl ⟨errOf_zero prs (fun p hp => hz p.1 (List.mem_map_of_mem hp)), sv, rfl, (fun p hp => hz p.1 (List.mem_map_of_mem hp)), ownB_of_row ?_ ho hr⟩⟩
    have := hr.len
    simp only [List.length_map] at this ⊢
    exact this.symm
  · have := errOf_pre prs pre y hp hz hy
    exact ⟨hb, .inr ⟨by rw [this]; exact hy, by rw [this]⟩⟩
set_option maxRecDepth 100000 in
set_option maxHeartbeats 1000000 in
theorem collect_nil (w : World) : Calls Try.prog 19 #[.nilFunc] w fun e W' => e = .returned (.tuple #[.slice none 0 0, .int .i64 0]) ∧ Below w.heap.size w W' := by
  have hfn : ∀ (w : World), (binOp .eql 31 .nilFunc .nilFunc).run Try.prog w = .ok (.bool true) w := fun _ => rfl
  go_enter Try.func19, Try.ntmps19
  go_wp2
  have bA := Boxed.new w 22 (.slice none 0 0)
  have bB := Boxed.new (w.alloc (.cells #[.slice none 0 0] 22)) 25 (.int .i64 0)
  simp only [World.size_alloc] at bB
  refine bodyPost_ret (res19 w.heap.size _ none 0 0 0 _ rfl rfl ((bA.alloc _).alloc _) (bB.alloc _)) rfl ?_
  exact ⟨rfl, (((Below.refl _ w).alloc (Nat.le_refl _) _).alloc (by simp) _).alloc (by simp; omega) _⟩
end Go.Proofs.Ytghpjlohoehdnaa.Sep
