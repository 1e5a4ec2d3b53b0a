/- A range over a function whose iterator may itself range over one, keep cells of its own and call yield within its own rounds: each side names the blocks that it may turn. No condition beyond those that each theorem names. -/
import Derived.RangeFuncNested
import Derived.RangeFuncBound
import Derived.RangeFuncCalls
import Derived.RangeFuncLeaves
namespace Go.Proofs.Ytghpjlohoehdnaa.Sep
open Go Go.RowKit
set_option linter.unusedVariables false
/-- From W to W': below N, X alone may have turned; X' is X and what is new. -/
structure Gr (X X' : Nat → Prop) (N : Nat) (W W' : World) : Prop where
  os : W'.os = W.os
  tape : W'.tape = W.tape
  output : W'.output = W.output
  size : W.heap.size ≤ W'.heap.size
  block : ∀ j, j < N → ¬ X j → W'.heap[j]? = W.heap[j]?
  sub : ∀ j, X' j → X j ∨ N ≤ j
  lt : ∀ j, X' j → j < W'.heap.size
theorem Gr.refl {X : Nat → Prop} (N : Nat) (W : World) (h : ∀ j, X j → j < W.heap.size) : Gr X X N W W := ⟨rfl, rfl, rfl, Nat.le_refl _, fun _ _ _ => rfl, fun _ h => .inl h, h⟩
theorem Gr.trans {X Y Z : Nat → Prop} {N M : Nat} {A B C : World} (h : Gr X Y N A B) (k : Gr Y Z M B C) (hM : N ≤ M) : Gr X Z N A C :=
  ⟨k.os.trans h.os, k.tape.trans h.tape, k.output.trans h.output, Nat.le_trans h.size k.size,
   fun j hj hx => (k.block j (Nat.lt_of_lt_of_le hj hM) (fun hy => by rcases h.sub j hy with h1 | h1; exact hx h1; omega)).trans (h.block j hj hx),
   fun j hz => by
     rcases k.sub j hz with h1 | h1
     · exact h.sub j h1
     · exact .inr (Nat.le_trans hM h1),
   k.lt⟩
/-- W and W' agree on X and on all that lies below n₀. -/
structure Agree (X : Nat → Prop) (n₀ : Nat) (W W' : World) : Prop where
  os : W'.os = W.os
  tape : W'.tape = W.tape
  output : W'.output = W.output
  size : W.heap.size ≤ W'.heap.size
  block : ∀ j, (X j ∨ j < n₀) → W'.heap[j]? = W.heap[j]?
/-- what speaks of X and of what lies below n₀ alone -/
def Stable {α : Type} (n₀ : Nat) (J : List α → (Nat → Prop) → World → Prop) : Prop := ∀ pre X W W', J pre X W → Agree X n₀ W W' → J pre X W'
/-- AN ITERATOR's CONTRACT: what it hands over, one after the other, is ys; it reads what lies in R and calls yield alone; all that it turns is new. -/
def Seq {α : Type} (F : Fence) (n : Nat) (P : Program) (g : Nat) (lb : Array Value) (encs : α → Array Value) (ys : List α) (R : Nat → Prop) (w : World) : Prop :=
  ∀ (l : Nat) (J Jx : List α → (Nat → Prop) → World → Prop) (X : Nat → Prop) (W : World),
    w.heap.size ≤ W.heap.size → (∀ j, R j → j < w.heap.size ∧ ¬ X j ∧ W.heap[j]? = w.heap[j]?) → (∀ j, X j → j < W.heap.size) → Stable W.heap.size J → Stable W.heap.size Jx →
    (∀ pre x X1 W1, (pre ++ [x]) <+: ys → J pre X1 W1 → Gr X X1 W.heap.size W W1 → YieldAt F (n - 1) P l (encs x) W1 fun e W' =>
      ∃ X', Gr X1 X' W1.heap.size W1 W' ∧ ((e = .returned (.bool true) ∧ J (pre ++ [x]) X' W') ∨ (e = .returned (.bool false) ∧ Jx (pre ++ [x]) X' W'))) →
    J [] X W →
    CallsIn F n P g (#[.func (.yield l) #[] #[]] ++ lb) W fun e W' => (∃ v, e = .returned v) ∧ ∃ X', Gr X X' W.heap.size W W' ∧ (J ys X' W' ∨ ∃ pre, pre <+: ys ∧ Jx pre X' W')
/-- How a round's body may be left. -/
def sepPost {α : Type} (I : List α → (Nat → Prop) → World → Prop) (Ix : Code → List α → (Nat → Prop) → World → Prop) (X : Nat → Prop) (N : Nat) (W : World) (xs : List α) : Exit → Act → World → Prop
  | .normal, _, W' => ∃ X', Gr X X' N W W' ∧ I xs X' W'
  | .ret, _, W' => ∃ X', Gr X X' N W W' ∧ Ix .ret xs X' W'
  | .exit id, _, W' => ∃ X', Gr X X' N W W' ∧ Ix (.exit id) xs X' W'
  | .goto t, _, W' => ∃ X', Gr X X' N W W' ∧ Ix (.goto t) xs X' W'
  | .panic _, _, _ => False
  | .outgrown, _, _ => False
variable {F : Fence} {n : Nat} {P : Program}
theorem agree_put {X : Nat → Prop} {n₀ l : Nat} (W : World) (o : Obj) (hx : ¬ X l) (hl : n₀ ≤ l) : Agree X n₀ W (W.putObj l o) :=
  ⟨rfl, rfl, rfl, by rw [World.putObj_size]; exact Nat.le_refl _, fun j hj => World.putObj_heap_other (by rintro rfl; rcases hj with h | h; exact hx h; omega)⟩
/-- THE LAW OF THE CALLER. -/
theorem wpIn_rangeFunc_sep {α : Type} {g : Operand} {ps : Array Tmp} {assign body : Code} {Q : Exit → Act → World → Prop} {a : Act} {w : World}
    (hro : F.round = none) (h1 : 1 ≤ n) {gf : Nat} {lb : Array Value} (hg : a.eval g = .func (.func gf) #[] lb) (hFg : F.fn gf) (eg : ∀ args w, (callFunc gf args).run P w = .ok (.enter gf args) w)
    {encs : α → Array Value} {ys : List α} {R : Nat → Prop} {w0 : World} (hseq : Seq F (n - 1) P gf lb encs ys R w0) (hps : ∀ x, (encs x).size = ps.size)
    (X : Nat → Prop) (hw0 : w0.heap.size ≤ w.heap.size) (hR : ∀ j, R j → j < w0.heap.size ∧ ¬ X j ∧ w.heap[j]? = w0.heap[j]?) (hX : ∀ j, X j → j < w.heap.size)
    (I : List α → (Nat → Prop) → World → Prop) (Ix : Code → List α → (Nat → Prop) → World → Prop) (hI : Stable w.heap.size I) (hIx : ∀ c, Stable w.heap.size (Ix c)) (h0 : I [] X w)
    (hround : ∀ (l : Nat) (pre : List α) (x : α) (X1 : Nat → Prop) (W1 : World), l = w.heap.size + 1 → (pre ++ [x]) <+: ys → I pre X1 W1 → Gr X X1 w.heap.size w W1 → ¬ X1 l → l < W1.heap.size →
      assign.wpIn (F.inRound l) (n - 1 - 1) P (Exit.then (fun a' W2 => (∀ j, j < W1.heap.size → ¬ X1 j → W2.heap[j]? = W1.heap[j]?) ∧ W1.heap.size ≤ W2.heap.size ∧ W2.os = W1.os ∧ W2.tape = W1.tape ∧ W2.output = W1.output ∧
        ∀ W3 : World, W3.heap.size = W2.heap.size → W3.os = W2.os → W3.tape = W2.tape → W3.output = W2.output → (∀ j, j ≠ l → W3.heap[j]? = W2.heap[j]?) →
          body.wpIn (F.inRound l) (n - 1 - 1) P (sepPost I Ix X1 W1.heap.size W3 (pre ++ [x])) a' W3) (fun _ _ _ => False))
        { tmps := (ps.zip (encs x)).foldl (fun t (p, v) => t.setIfInBounds p v) a.tmps, defers := [] } W1)
    (hdone : ∀ (X' : Nat → Prop) (W : World), I ys X' W → Gr X X' w.heap.size w W → ¬ X' w.heap.size → W.heap[w.heap.size]? = some (.deferred (some [])) → Q .normal { a with defers := { target := .collected w.heap.size, args := #[] } :: a.defers } W)
    (hstop : ∀ (c : Code) (pre : List α) (X' : Nat → Prop) (W : World), pre <+: ys → Ix c pre X' W → Gr X X' w.heap.size w W → ¬ X' w.heap.size → W.heap[w.heap.size]? = some (.deferred (some [])) → c.wpIn F n P Q { a with defers := { target := .collected w.heap.size, args := #[] } :: a.defers } W) :
    (Code.rangeFunc g ps assign body).wpIn F n P Q a w := by
  refine wpIn_rangeFunc ?_
  intro fn hfn
  rw [hro]
  obtain ⟨rec, hrec⟩ : ∃ rec : LoopState → Option Code → Loop, rec = fun st pe => { state := st, pending := pe, fn, tmps := a.tmps, params := ps, assign, body, defers := w.heap.size } := ⟨_, rfl⟩
  obtain ⟨W1, hW1⟩ : ∃ W1, (w.alloc (.deferred (some []))).alloc (.loop (rec .ready none)) = W1 := ⟨_, rfl⟩
  have hsz : W1.heap.size = w.heap.size + 2 := by rw [← hW1]; simp
  have hL1 : W1.heap[w.heap.size + 1]? = some (.loop (rec .ready none)) := by
    rw [← hW1]; have := World.alloc_heap_new (w.alloc (.deferred (some []))) (.loop (rec .ready none)); rwa [World.size_alloc] at this
  have hK1 : W1.heap[w.heap.size]? = some (.deferred (some [])) := by
    rw [← hW1]; exact (Below.heap_alloc _ _ _ (by simp)).trans (World.alloc_heap_new w _)
  have hB1 : Below w.heap.size w W1 := by rw [← hW1]; exact ((Below.refl _ w).alloc (Nat.le_refl _) _).alloc (by simp) _
  have hA1 : Agree X w.heap.size w W1 := ⟨hB1.os, hB1.tape, hB1.output, hB1.size, fun j hj => hB1.block j (by rcases hj with h | h; exact hX j h; exact h)⟩
  have hI1 : I [] X W1 := hI _ _ _ _ h0 hA1
  -- the caller's own blocks, with the record and the block of deferred calls
  let U : (Nat → Prop) → Nat → Prop := fun X j => X j ∨ j = w.heap.size ∨ j = w.heap.size + 1
  refine ⟨w.heap.size + 1, [{ target := .collected w.heap.size, args := #[] }], W1, { target := .fn (.func gf) lb, args := #[.func (.yield (w.heap.size + 1)) #[] #[]] }, W1, gf,
    #[.func (.yield (w.heap.size + 1)) #[] #[]] ++ lb, W1, ?_, ?_, ?_, ?_, fun _ => h1, ?_⟩
  · rw [← hW1, hrec]; exact run_enterLoop_outer _ _ _ _ _
  · simp only [resolve, hg]
    simp [go_sem]
  · intro f' hf'; simp [Target.leads] at hf'; subst hf'; exact hFg
  · simp [invoke, go_sem, eg]
  · let J : List α → (Nat → Prop) → World → Prop := fun pre Y W => ∃ X', (∀ j, Y j ↔ U X' j) ∧ I pre X' W ∧ Gr X X' w.heap.size w W ∧ ¬ X' w.heap.size ∧ ¬ X' (w.heap.size + 1) ∧ W.heap[w.heap.size + 1]? = some (.loop (rec .ready none)) ∧ W.heap[w.heap.size]? = some (.deferred (some []))
    let Jx : List α → (Nat → Prop) → World → Prop := fun pre Y W => ∃ X' c, (∀ j, Y j ↔ U X' j) ∧ Ix c pre X' W ∧ Gr X X' w.heap.size w W ∧ ¬ X' w.heap.size ∧ ¬ X' (w.heap.size + 1) ∧ W.heap[w.heap.size + 1]? = some (.loop (rec .done (some c))) ∧ W.heap[w.heap.size]? = some (.deferred (some []))
    have gput : ∀ {X' : Nat → Prop} {W : World} (o : Obj), Gr X X' w.heap.size w W → Gr X X' w.heap.size w (W.putObj (w.heap.size + 1) o) := fun {X'} {W} o h =>
      ⟨h.os, h.tape, h.output, by rw [World.putObj_size]; exact h.size, fun j hj hx => (World.putObj_heap_other (by omega)).trans (h.block j hj hx), h.sub, fun j hj => by rw [World.putObj_size]; exact h.lt j hj⟩
    have gag : ∀ {Y X' : Nat → Prop} {W W' : World}, (∀ j, Y j ↔ U X' j) → Gr X X' w.heap.size w W → Agree Y W1.heap.size W W' → Gr X X' w.heap.size w W' := fun {Y X' W W'} hY h k =>
      ⟨k.os.trans h.os, k.tape.trans h.tape, k.output.trans h.output, Nat.le_trans h.size k.size, fun j hj hx => (k.block j (.inr (by omega))).trans (h.block j hj hx), h.sub, fun j hj => Nat.lt_of_lt_of_le (h.lt j hj) k.size⟩
    have sag : ∀ {Y X' : Nat → Prop} {W W' : World}, (∀ j, Y j ↔ U X' j) → Agree Y W1.heap.size W W' → Agree X' w.heap.size W W' := fun {Y X' W W'} hY k =>
      ⟨k.os, k.tape, k.output, k.size, fun j hj => k.block j (by rcases hj with h | h; exact .inl ((hY j).2 (.inl h)); exact .inr (by omega))⟩
    refine (hseq (w.heap.size + 1) J Jx (U X) W1 (by omega) ?_ ?_ ?_ ?_ ?_ ?_).mono ?_
    · intro j hj
      obtain ⟨r1, r2, r3⟩ := hR j hj
      exact ⟨r1, by rintro (h | h | h); exact r2 h; omega; omega, (hB1.block j (by omega)).trans r3⟩
    · rintro j (h | h | h)
      · have := hX j h; omega
      · omega
      · omega
    · rintro pre Y A B ⟨X', hY, hi, hgr, n1, n2, hl, hk⟩ hag
      exact ⟨X', hY, hI _ _ _ _ hi (sag hY hag), gag hY hgr hag, n1, n2, (hag.block _ (.inr (by omega))).trans hl, (hag.block _ (.inr (by omega))).trans hk⟩
    · rintro pre Y A B ⟨X', c, hY, hi, hgr, n1, n2, hl, hk⟩ hag
      exact ⟨X', c, hY, hIx _ _ _ _ _ hi (sag hY hag), gag hY hgr hag, n1, n2, (hag.block _ (.inr (by omega))).trans hl, (hag.block _ (.inr (by omega))).trans hk⟩
    · -- ONE ROUND
      rintro pre x Y W hpre ⟨X', hY, hi, hgr, n1, n2, hl, hk⟩ _
      have hlt : w.heap.size + 1 < W.heap.size := (Array.getElem?_eq_some_iff.1 hl).1
      have hy := run_yield (P := P) (args := encs x) hl (by rw [hrec]; exact hps x)
      rw [hrec] at hy
      refine ⟨fn, _, assign, body, hy, roundIn_of_wpIn hfn (wpIn_mono (hround _ pre x X' W rfl hpre hi hgr n2 hlt) ?_)⟩
      intro e a2 W2 he
      cases e with
      | normal =>
        obtain ⟨hs1, hs2, ho, ht, hp, hbody⟩ := he
        have hl2 : W2.heap[w.heap.size + 1]? = some (.loop (rec .ready none)) := (hs1 _ hlt n2).trans hl
        have hk2 : W2.heap[w.heap.size]? = some (.deferred (some [])) := (hs1 _ (by omega) n1).trans hk
        have hlt2 : w.heap.size + 1 < W2.heap.size := by omega
        refine ⟨_, run_beginRound hl2 (by rw [hrec]), ?_⟩
        have hl3 : (W2.putObj (w.heap.size + 1) (.loop { rec .ready none with state := .busy })).heap[w.heap.size + 1]? = some (.loop { rec .ready none with state := .busy }) := World.putObj_heap_same hlt2
        have hk3 : (W2.putObj (w.heap.size + 1) (.loop { rec .ready none with state := .busy })).heap[w.heap.size]? = some (.deferred (some [])) := (World.putObj_heap_other (by omega)).trans hk2
        refine wpIn_mono (hbody (W2.putObj (w.heap.size + 1) (.loop { rec .ready none with state := .busy })) (by rw [World.putObj_size]) rfl rfl rfl (fun j hj => World.putObj_heap_other hj)) ?_
        have e0 : (W2.putObj (w.heap.size + 1) (.loop { rec .ready none with state := .busy })).os = W.os ∧ (W2.putObj (w.heap.size + 1) (.loop { rec .ready none with state := .busy })).tape = W.tape ∧ (W2.putObj (w.heap.size + 1) (.loop { rec .ready none with state := .busy })).output = W.output := ⟨ho, ht, hp⟩
        have e1 : W.heap.size ≤ (W2.putObj (w.heap.size + 1) (.loop { rec .ready none with state := .busy })).heap.size := by rw [World.putObj_size]; exact hs2
        have e2 : ∀ j, j < W.heap.size → ¬ X' j → j ≠ w.heap.size + 1 → (W2.putObj (w.heap.size + 1) (.loop { rec .ready none with state := .busy })).heap[j]? = W.heap[j]? := fun j hj hx hn => (World.putObj_heap_other hn).trans (hs1 j hj hx)
        generalize W2.putObj (w.heap.size + 1) (.loop { rec .ready none with state := .busy }) = W3 at hl3 hk3 e0 e1 e2 ⊢
        have fin : ∀ (jump : Option Code) (X4 : Nat → Prop) (W4 : World), Gr X' X4 W.heap.size W3 W4 →
            (Instr.endRound (w.heap.size + 1) jump).run P W4 = .ok (.bool jump.isNone) (W4.putObj (w.heap.size + 1) (.loop (rec (if jump.isNone then .ready else .done) jump))) ∧
            ¬ X4 w.heap.size ∧ ¬ X4 (w.heap.size + 1) ∧
            (W4.putObj (w.heap.size + 1) (.loop (rec (if jump.isNone then .ready else .done) jump))).heap[w.heap.size + 1]? = some (.loop (rec (if jump.isNone then .ready else .done) jump)) ∧
            (W4.putObj (w.heap.size + 1) (.loop (rec (if jump.isNone then .ready else .done) jump))).heap[w.heap.size]? = some (.deferred (some [])) := fun jump X4 W4 h4 => by
          have hl4 := (h4.block _ (by omega) n2).trans hl3
          have hk4 := (h4.block _ (by omega) n1).trans hk3
          have := run_endRound (P := P) jump hl4
          rw [hrec] at this ⊢
          exact ⟨this, fun h => by rcases h4.sub _ h with h | h; exact n1 h; omega, fun h => by rcases h4.sub _ h with h | h; exact n2 h; omega, World.putObj_heap_same (Array.getElem?_eq_some_iff.1 hl4).1, (World.putObj_heap_other (by omega)).trans hk4⟩
        have grow : ∀ (X4 : Nat → Prop) (W4 : World) (o : Obj), Gr X' X4 W.heap.size W3 W4 →
            Gr X X4 w.heap.size w (W4.putObj (w.heap.size + 1) o) ∧ Gr Y (U X4) W.heap.size W (W4.putObj (w.heap.size + 1) o) := fun X4 W4 o h4 => by
          have hs4 : W.heap.size ≤ W4.heap.size := Nat.le_trans e1 h4.size
          have b4 : ∀ j, j < W.heap.size → ¬ X' j → j ≠ w.heap.size + 1 → (W4.putObj (w.heap.size + 1) o).heap[j]? = W.heap[j]? := fun j hj hx hn =>
            (World.putObj_heap_other hn).trans ((h4.block j hj hx).trans (e2 j hj hx hn))
          have hsub : ∀ j, X4 j → X j ∨ w.heap.size ≤ j := fun j hj => by
            rcases h4.sub j hj with h | h
            · exact hgr.sub j h
            · exact .inr (by omega)
          have t1 : (W4.putObj (w.heap.size + 1) o).os = W.os := h4.os.trans e0.1
          have t2 : (W4.putObj (w.heap.size + 1) o).tape = W.tape := h4.tape.trans e0.2.1
          have t3 : (W4.putObj (w.heap.size + 1) o).output = W.output := h4.output.trans e0.2.2
          have hz : (W4.putObj (w.heap.size + 1) o).heap.size = W4.heap.size := World.putObj_size
          refine ⟨⟨t1.trans hgr.os, t2.trans hgr.tape, t3.trans hgr.output, by rw [hz]; have := hgr.size; omega, ?_, hsub, fun j hj => by rw [hz]; exact h4.lt j hj⟩, ⟨t1, t2, t3, by rw [hz]; exact hs4, ?_, ?_, ?_⟩⟩
          · intro j hj hx
            exact (b4 j (by have := hgr.size; omega) (fun h => by rcases hgr.sub j h with h | h; exact hx h; omega) (by omega)).trans (hgr.block j hj hx)
          · intro j hj hy
            have hu := fun h => hy ((hY j).2 h)
            exact b4 j hj (fun h => hu (.inl h)) (fun h => hu (.inr (.inr h)))
          · rintro j (h | h | h)
            · rcases h4.sub j h with h | h
              · exact .inl ((hY j).2 (.inl h))
              · exact .inr h
            · exact .inl ((hY j).2 (.inr (.inl h)))
            · exact .inl ((hY j).2 (.inr (.inr h)))
          · rintro j (h | h | h)
            · rw [hz]; exact h4.lt j h
            · rw [hz]; omega
            · rw [hz]; omega
        intro e a3 W4 hp4
        cases e with
        | normal =>
          obtain ⟨X4, h4, hi4⟩ := hp4
          obtain ⟨f1, f2, f3, f4, f5⟩ := fin none X4 W4 h4
          obtain ⟨g1, g2⟩ := grow X4 W4 _ h4
          exact ⟨_, _, f1, U X4, g2, .inl ⟨rfl, X4, fun _ => Iff.rfl, hI _ _ _ _ hi4 (agree_put _ _ f3 (by omega)), g1, f2, f3, f4, f5⟩⟩
        | ret =>
          obtain ⟨X4, h4, hi4⟩ := hp4
          obtain ⟨f1, f2, f3, f4, f5⟩ := fin (some .ret) X4 W4 h4
          obtain ⟨g1, g2⟩ := grow X4 W4 _ h4
          exact ⟨_, _, f1, U X4, g2, .inr ⟨rfl, X4, .ret, fun _ => Iff.rfl, hIx _ _ _ _ _ hi4 (agree_put _ _ f3 (by omega)), g1, f2, f3, f4, f5⟩⟩
        | exit id =>
          obtain ⟨X4, h4, hi4⟩ := hp4
          obtain ⟨f1, f2, f3, f4, f5⟩ := fin (some (.exit id)) X4 W4 h4
          obtain ⟨g1, g2⟩ := grow X4 W4 _ h4
          exact ⟨_, _, f1, U X4, g2, .inr ⟨rfl, X4, .exit id, fun _ => Iff.rfl, hIx _ _ _ _ _ hi4 (agree_put _ _ f3 (by omega)), g1, f2, f3, f4, f5⟩⟩
        | goto t =>
          obtain ⟨X4, h4, hi4⟩ := hp4
          obtain ⟨f1, f2, f3, f4, f5⟩ := fin (some (.goto t)) X4 W4 h4
          obtain ⟨g1, g2⟩ := grow X4 W4 _ h4
          exact ⟨_, _, f1, U X4, g2, .inr ⟨rfl, X4, .goto t, fun _ => Iff.rfl, hIx _ _ _ _ _ hi4 (agree_put _ _ f3 (by omega)), g1, f2, f3, f4, f5⟩⟩
        | panic ch => exact hp4.elim
        | outgrown => exact hp4.elim
      | _ => exact he.elim
    · exact ⟨X, fun _ => Iff.rfl, hI1, ⟨hB1.os, hB1.tape, hB1.output, hB1.size, fun j hj _ => hB1.block j hj, fun j h => .inl h, fun j h => Nat.lt_of_lt_of_le (hX j h) hB1.size⟩, fun h => by have := hX _ h; omega, fun h => by have := hX _ h; omega, hL1, hK1⟩
    · -- BEHIND THE ITERATOR
      rintro e W2 ⟨⟨v, rfl⟩, Y, hgY, (⟨X', hY, hi, hgr, n1, n2, hl, hk⟩ | ⟨pre, hpre, X', c, hY, hi, hgr, n1, n2, hl, hk⟩)⟩
      · exact ⟨none, _, by have := run_endLoop (P := P) hl (by rw [hrec]; simp); rw [hrec] at this; exact this, hdone X' _ (hI _ _ _ _ hi (agree_put _ _ n2 (by omega))) (gput _ hgr) n1 ((World.putObj_heap_other (by omega)).trans hk)⟩
      · exact ⟨some c, _, by have := run_endLoop (P := P) hl (by rw [hrec]; simp); rw [hrec] at this; exact this, hstop c pre X' _ hpre (hIx _ _ _ _ _ hi (agree_put _ _ n2 (by omega))) (gput _ hgr) n1 ((World.putObj_heap_other (by omega)).trans hk)⟩
end Go.Proofs.Ytghpjlohoehdnaa.Sep
