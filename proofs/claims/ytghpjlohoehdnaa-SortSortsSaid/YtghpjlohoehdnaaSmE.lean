/- Iterators that keep state or make their rows at run time; sort.Sorted, scan.Metered, walked. No condition beyond those that each theorem names. -/
import Derived.Test.YtghpjlohoehdnaaSmD
/-! A range over a function whose iterator may keep state of its own in the blocks M, and of whose values only what they are is known ahead. No condition beyond those that each theorem names. -/
namespace Go.Proofs.Ytghpjlohoehdnaa.Sep
open Go Go.RowKit Go.Shelf
set_option linter.unusedVariables false
set_option linter.unusedSimpArgs false
/-- From W to W': below N, X and M alone may have turned; X' is X and what is new. -/
structure GrM (M X X' : Nat → Prop) (N : Nat) (W W' : World) : Prop where
  os : W'.os = W.os
  tape : W'.tape = W.tape
  output : W'.output = W.output
  size : W.heap.size ≤ W'.heap.size
  block : ∀ j, j < N → ¬ X j → ¬ M j → W'.heap[j]? = W.heap[j]?
  sub : ∀ j, X' j → X j ∨ N ≤ j
  lt : ∀ j, X' j → j < W'.heap.size
theorem Gr.m {M X X' : Nat → Prop} {N : Nat} {W W' : World} (h : Gr X X' N W W') : GrM M X X' N W W' := ⟨h.os, h.tape, h.output, h.size, fun j hj hx _ => h.block j hj hx, h.sub, h.lt⟩
theorem GrM.trans {M X Y Z : Nat → Prop} {N K : Nat} {A B C : World} (h : GrM M X Y N A B) (k : GrM M Y Z K B C) (hK : N ≤ K) : GrM M X Z N A C :=
  ⟨k.os.trans h.os, k.tape.trans h.tape, k.output.trans h.output, Nat.le_trans h.size k.size,
   fun j hj hx hm => (k.block j (Nat.lt_of_lt_of_le hj hK) (fun hy => by rcases h.sub j hy with h1 | h1; exact hx h1; omega) hm).trans (h.block j hj hx hm),
   fun j hz => by
     rcases k.sub j hz with h1 | h1
     · exact h.sub j h1
     · exact .inr (Nat.le_trans hK h1),
   k.lt⟩
/-- W and W' agree on X and on all that lies below n₀, but for M. -/
structure AgM (M X : Nat → Prop) (n₀ : Nat) (W W' : World) : Prop where
  os : W'.os = W.os
  tape : W'.tape = W.tape
  output : W'.output = W.output
  size : W.heap.size ≤ W'.heap.size
  block : ∀ j, (X j ∨ (j < n₀ ∧ ¬ M j)) → W'.heap[j]? = W.heap[j]?
/-- what speaks of X and of what lies below n₀ alone, and not of M -/
def StableM {α : Type} (M : Nat → Prop) (n₀ : Nat) (J : List α → (Nat → Prop) → World → Prop) : Prop := ∀ pre X W W', J pre X W → AgM M X n₀ W W' → J pre X W'
/-- AN ITERATOR's CONTRACT: of each value G tells what it is, where those before it are known; Fin: that is all. It reads what lies in R and M, turns M, and what is new. -/
def SeqM {α : Type} (M : Nat → Prop) (G : List α → α → (Nat → Prop) → World → Prop) (Fin : List α → Prop) (F : Fence) (n : Nat) (P : Program) (g : Nat) (lb : Array Value) (encs : α → Array Value) (R : Nat → Prop) (w : World) : Prop :=
  ∀ (l : Nat) (J Jx : List α → (Nat → Prop) → World → Prop) (X : Nat → Prop) (W : World),
    w.heap.size ≤ W.heap.size → (∀ j, R j → j < w.heap.size ∧ ¬ X j ∧ W.heap[j]? = w.heap[j]?) → (∀ j, M j → j < w.heap.size ∧ ¬ X j ∧ W.heap[j]? = w.heap[j]?) → (∀ j, X j → j < W.heap.size) → StableM M W.heap.size J → StableM M W.heap.size Jx →
    (∀ pre x X1 W1, G pre x X1 W1 → J pre X1 W1 → GrM M X X1 W.heap.size W W1 → YieldAt F (n - 1) P l (encs x) W1 fun e W' =>
      ∃ X', Gr X1 X' W1.heap.size W1 W' ∧ ((e = .returned (.bool true) ∧ J (pre ++ [x]) X' W') ∨ (e = .returned (.bool false) ∧ Jx (pre ++ [x]) X' W'))) →
    J [] X W →
    CallsIn F n P g (#[.func (.yield l) #[] #[]] ++ lb) W fun e W' => (∃ v, e = .returned v) ∧ ∃ X', GrM M X X' W.heap.size W W' ∧ ((∃ ys, Fin ys ∧ J ys X' W') ∨ ∃ pre, Jx pre X' W')
variable {F : Fence} {n : Nat} {P : Program}
theorem agm_put {M X : Nat → Prop} {n₀ l : Nat} (W : World) (o : Obj) (hx : ¬ X l) (hl : n₀ ≤ l) : AgM M X n₀ W (W.putObj l o) :=
  ⟨rfl, rfl, rfl, by rw [World.putObj_size]; exact Nat.le_refl _, fun j hj => World.putObj_heap_other (by rintro rfl; rcases hj with h | h; exact hx h; omega)⟩
/-- THE LAW OF THE CALLER. -/
theorem wpIn_rangeFunc_m {α : Type} {g : Operand} {ps : Array Tmp} {assign body : Code} {Q : Exit → Act → World → Prop} {a : Act} {w : World}
    (hro : F.round = none) (h1 : 1 ≤ n) {gf : Nat} {lb : Array Value} (hg : a.eval g = .func (.func gf) #[] lb) (hFg : F.fn gf) (eg : ∀ args w, (callFunc gf args).run P w = .ok (.enter gf args) w)
    {M : Nat → Prop} {G : List α → α → (Nat → Prop) → World → Prop} {Fin : List α → Prop} {encs : α → Array Value} {R : Nat → Prop} {w0 : World} (hseq : SeqM M G Fin F (n - 1) P gf lb encs R w0) (hGm : ∀ pre x X Y W, (∀ j, X j → Y j) → G pre x Y W → G pre x X W) (hps : ∀ x, (encs x).size = ps.size)
    (X : Nat → Prop) (hw0 : w0.heap.size ≤ w.heap.size) (hR : ∀ j, R j → j < w0.heap.size ∧ ¬ X j ∧ w.heap[j]? = w0.heap[j]?) (hM : ∀ j, M j → j < w0.heap.size ∧ ¬ X j ∧ w.heap[j]? = w0.heap[j]?) (hX : ∀ j, X j → j < w.heap.size)
    (I : List α → (Nat → Prop) → World → Prop) (Ix : Code → List α → (Nat → Prop) → World → Prop) (hI : StableM M w.heap.size I) (hIx : ∀ c, StableM M w.heap.size (Ix c)) (h0 : I [] X w)
    (hround : ∀ (l : Nat) (pre : List α) (x : α) (X1 : Nat → Prop) (W1 : World), l = w.heap.size + 1 → G pre x X1 W1 → I pre X1 W1 → GrM M X X1 w.heap.size w W1 → ¬ X1 l → l < W1.heap.size → (∃ r, W1.heap[l]? = some (.loop r)) →
      assign.wpIn (F.inRound l) (n - 1 - 1) P (Exit.then (fun a' W2 => (∀ j, j < W1.heap.size → ¬ X1 j → W2.heap[j]? = W1.heap[j]?) ∧ W1.heap.size ≤ W2.heap.size ∧ W2.os = W1.os ∧ W2.tape = W1.tape ∧ W2.output = W1.output ∧
        ∀ W3 : World, W3.heap.size = W2.heap.size → W3.os = W2.os → W3.tape = W2.tape → W3.output = W2.output → (∀ j, j ≠ l → W3.heap[j]? = W2.heap[j]?) →
          body.wpIn (F.inRound l) (n - 1 - 1) P (sepPost I Ix X1 W1.heap.size W3 (pre ++ [x])) a' W3) (fun _ _ _ => False))
        { tmps := (ps.zip (encs x)).foldl (fun t (p, v) => t.setIfInBounds p v) a.tmps, defers := [] } W1)
    (hdone : ∀ (ys : List α) (X' : Nat → Prop) (W : World), Fin ys → I ys X' W → GrM M X X' w.heap.size w W → ¬ X' w.heap.size → W.heap[w.heap.size]? = some (.deferred (some [])) → Q .normal { a with defers := { target := .collected w.heap.size, args := #[] } :: a.defers } W)
    (hstop : ∀ (c : Code) (pre : List α) (X' : Nat → Prop) (W : World), Ix c pre X' W → GrM M X X' w.heap.size w W → ¬ X' w.heap.size → W.heap[w.heap.size]? = some (.deferred (some [])) → c.wpIn F n P Q { a with defers := { target := .collected w.heap.size, args := #[] } :: a.defers } W) :
    (Code.rangeFunc g ps assign body).wpIn F n P Q a w := by
  refine wpIn_rangeFunc ?_
  intro fn hfn
  rw [hro]
  obtain ⟨rec, hrec⟩ : ∃ rec : LoopState → Option Code → Loop, rec = fun st pe => { state := st, pending := pe, fn, tmps := a.tmps, params := ps, assign, body, defers := w.heap.size } := ⟨_, rfl⟩
  obtain ⟨W1, hW1⟩ : ∃ W1, (w.alloc (.deferred (some []))).alloc (.loop (rec .ready none)) = W1 := ⟨_, rfl⟩
  have hsz : W1.heap.size = w.heap.size + 2 := by rw [← hW1]; simp
  have hL1 : W1.heap[w.heap.size + 1]? = some (.loop (rec .ready none)) := by
    rw [← hW1]; have := World.alloc_heap_new (w.alloc (.deferred (some []))) (.loop (rec .ready none)); rwa [World.size_alloc] at this
  have hK1 : W1.heap[w.heap.size]? = some (.deferred (some [])) := by
    rw [← hW1]; exact (Below.heap_alloc _ _ _ (by simp)).trans (World.alloc_heap_new w _)
  have hB1 : Below w.heap.size w W1 := by rw [← hW1]; exact ((Below.refl _ w).alloc (Nat.le_refl _) _).alloc (by simp) _
  have hA1 : AgM M X w.heap.size w W1 := ⟨hB1.os, hB1.tape, hB1.output, hB1.size, fun j hj => hB1.block j (by rcases hj with h | h; exact hX j h; exact h.1)⟩
  have hM0 : ∀ j, w.heap.size ≤ j → ¬ M j := fun j hj hm => by have := (hM j hm).1; omega
  have hI1 : I [] X W1 := hI _ _ _ _ h0 hA1
  -- the caller's own blocks, with the record and the block of deferred calls
  let U : (Nat → Prop) → Nat → Prop := fun X j => X j ∨ j = w.heap.size ∨ j = w.heap.size + 1
  refine ⟨w.heap.size + 1, [{ target := .collected w.heap.size, args := #[] }], W1, { target := .fn (.func gf) lb, args := #[.func (.yield (w.heap.size + 1)) #[] #[]] }, W1, gf,
    #[.func (.yield (w.heap.size + 1)) #[] #[]] ++ lb, W1, ?_, ?_, ?_, ?_, fun _ => h1, ?_⟩
  · rw [← hW1, hrec]; exact run_enterLoop_outer _ _ _ _ _
  · simp only [resolve, hg]
    simp [go_sem]
  · intro f' hf'; simp [Target.leads] at hf'; subst hf'; exact hFg
  · simp [invoke, go_sem, eg]
  · let J : List α → (Nat → Prop) → World → Prop := fun pre Y W => ∃ X', (∀ j, Y j ↔ U X' j) ∧ I pre X' W ∧ GrM M X X' w.heap.size w W ∧ ¬ X' w.heap.size ∧ ¬ X' (w.heap.size + 1) ∧ W.heap[w.heap.size + 1]? = some (.loop (rec .ready none)) ∧ W.heap[w.heap.size]? = some (.deferred (some []))
    let Jx : List α → (Nat → Prop) → World → Prop := fun pre Y W => ∃ X' c, (∀ j, Y j ↔ U X' j) ∧ Ix c pre X' W ∧ GrM M X X' w.heap.size w W ∧ ¬ X' w.heap.size ∧ ¬ X' (w.heap.size + 1) ∧ W.heap[w.heap.size + 1]? = some (.loop (rec .done (some c))) ∧ W.heap[w.heap.size]? = some (.deferred (some []))
    have gput : ∀ {X' : Nat → Prop} {W : World} (o : Obj), GrM M X X' w.heap.size w W → GrM M X X' w.heap.size w (W.putObj (w.heap.size + 1) o) := fun {X'} {W} o h =>
      ⟨h.os, h.tape, h.output, by rw [World.putObj_size]; exact h.size, fun j hj hx hm => (World.putObj_heap_other (by omega)).trans (h.block j hj hx hm), h.sub, fun j hj => by rw [World.putObj_size]; exact h.lt j hj⟩
    have gag : ∀ {Y X' : Nat → Prop} {W W' : World}, (∀ j, Y j ↔ U X' j) → GrM M X X' w.heap.size w W → AgM M Y W1.heap.size W W' → GrM M X X' w.heap.size w W' := fun {Y X' W W'} hY h k =>
      ⟨k.os.trans h.os, k.tape.trans h.tape, k.output.trans h.output, Nat.le_trans h.size k.size, fun j hj hx hm => (k.block j (.inr ⟨by omega, hm⟩)).trans (h.block j hj hx hm), h.sub, fun j hj => Nat.lt_of_lt_of_le (h.lt j hj) k.size⟩
    have sag : ∀ {Y X' : Nat → Prop} {W W' : World}, (∀ j, Y j ↔ U X' j) → AgM M Y W1.heap.size W W' → AgM M X' w.heap.size W W' := fun {Y X' W W'} hY k =>
      ⟨k.os, k.tape, k.output, k.size, fun j hj => k.block j (by rcases hj with h | h; exact .inl ((hY j).2 (.inl h)); exact .inr ⟨by omega, h.2⟩)⟩
    refine (hseq (w.heap.size + 1) J Jx (U X) W1 (by omega) ?_ ?_ ?_ ?_ ?_ ?_ ?_).mono ?_
    · intro j hj
      obtain ⟨r1, r2, r3⟩ := hR j hj
      exact ⟨r1, by rintro (h | h | h); exact r2 h; omega; omega, (hB1.block j (by omega)).trans r3⟩
    · intro j hj
      obtain ⟨r1, r2, r3⟩ := hM j hj
      exact ⟨r1, by rintro (h | h | h); exact r2 h; omega; omega, (hB1.block j (by omega)).trans r3⟩
    · rintro j (h | h | h)
      · have := hX j h; omega
      · omega
      · omega
    · rintro pre Y A B ⟨X', hY, hi, hgr, n1, n2, hl, hk⟩ hag
      exact ⟨X', hY, hI _ _ _ _ hi (sag hY hag), gag hY hgr hag, n1, n2, (hag.block _ (.inr ⟨by omega, hM0 _ (by omega)⟩)).trans hl, (hag.block _ (.inr ⟨by omega, hM0 _ (by omega)⟩)).trans hk⟩
    · rintro pre Y A B ⟨X', c, hY, hi, hgr, n1, n2, hl, hk⟩ hag
      exact ⟨X', c, hY, hIx _ _ _ _ _ hi (sag hY hag), gag hY hgr hag, n1, n2, (hag.block _ (.inr ⟨by omega, hM0 _ (by omega)⟩)).trans hl, (hag.block _ (.inr ⟨by omega, hM0 _ (by omega)⟩)).trans hk⟩
    · -- ONE ROUND
      rintro pre x Y W hpre ⟨X', hY, hi, hgr, n1, n2, hl, hk⟩ _
      have hlt : w.heap.size + 1 < W.heap.size := (Array.getElem?_eq_some_iff.1 hl).1
      have hy := run_yield (P := P) (args := encs x) hl (by rw [hrec]; exact hps x)
      rw [hrec] at hy
      refine ⟨fn, _, assign, body, hy, roundIn_of_wpIn hfn (wpIn_mono (hround _ pre x X' W rfl (hGm _ _ _ _ _ (fun j hj => (hY j).2 (.inl hj)) hpre) hi hgr n2 hlt ⟨_, hl⟩) ?_)⟩
      intro e a2 W2 he
      cases e with
      | normal =>
        obtain ⟨hs1, hs2, ho, ht, hp, hbody⟩ := he
        have hl2 : W2.heap[w.heap.size + 1]? = some (.loop (rec .ready none)) := (hs1 _ hlt n2).trans hl
        have hk2 : W2.heap[w.heap.size]? = some (.deferred (some [])) := (hs1 _ (by omega) n1).trans hk
        have hlt2 : w.heap.size + 1 < W2.heap.size := by omega
        refine ⟨_, run_beginRound hl2 (by rw [hrec]), ?_⟩
        have hl3 : (W2.putObj (w.heap.size + 1) (.loop { rec .ready none with state := .busy })).heap[w.heap.size + 1]? = some (.loop { rec .ready none with state := .busy }) := World.putObj_heap_same hlt2
        have hk3 : (W2.putObj (w.heap.size + 1) (.loop { rec .ready none with state := .busy })).heap[w.heap.size]? = some (.deferred (some [])) := (World.putObj_heap_other (by omega)).trans hk2
        refine wpIn_mono (hbody (W2.putObj (w.heap.size + 1) (.loop { rec .ready none with state := .busy })) (by rw [World.putObj_size]) rfl rfl rfl (fun j hj => World.putObj_heap_other hj)) ?_
        have e0 : (W2.putObj (w.heap.size + 1) (.loop { rec .ready none with state := .busy })).os = W.os ∧ (W2.putObj (w.heap.size + 1) (.loop { rec .ready none with state := .busy })).tape = W.tape ∧ (W2.putObj (w.heap.size + 1) (.loop { rec .ready none with state := .busy })).output = W.output := ⟨ho, ht, hp⟩
        have e1 : W.heap.size ≤ (W2.putObj (w.heap.size + 1) (.loop { rec .ready none with state := .busy })).heap.size := by rw [World.putObj_size]; exact hs2
        have e2 : ∀ j, j < W.heap.size → ¬ X' j → j ≠ w.heap.size + 1 → (W2.putObj (w.heap.size + 1) (.loop { rec .ready none with state := .busy })).heap[j]? = W.heap[j]? := fun j hj hx hn => (World.putObj_heap_other hn).trans (hs1 j hj hx)
        generalize W2.putObj (w.heap.size + 1) (.loop { rec .ready none with state := .busy }) = W3 at hl3 hk3 e0 e1 e2 ⊢
        have fin : ∀ (jump : Option Code) (X4 : Nat → Prop) (W4 : World), Gr X' X4 W.heap.size W3 W4 →
            (Instr.endRound (w.heap.size + 1) jump).run P W4 = .ok (.bool jump.isNone) (W4.putObj (w.heap.size + 1) (.loop (rec (if jump.isNone then .ready else .done) jump))) ∧
            ¬ X4 w.heap.size ∧ ¬ X4 (w.heap.size + 1) ∧
            (W4.putObj (w.heap.size + 1) (.loop (rec (if jump.isNone then .ready else .done) jump))).heap[w.heap.size + 1]? = some (.loop (rec (if jump.isNone then .ready else .done) jump)) ∧
            (W4.putObj (w.heap.size + 1) (.loop (rec (if jump.isNone then .ready else .done) jump))).heap[w.heap.size]? = some (.deferred (some [])) := fun jump X4 W4 h4 => by
          have hl4 := (h4.block _ (by omega) n2).trans hl3
          have hk4 := (h4.block _ (by omega) n1).trans hk3
          have := run_endRound (P := P) jump hl4
          rw [hrec] at this ⊢
          exact ⟨this, fun h => by rcases h4.sub _ h with h | h; exact n1 h; omega, fun h => by rcases h4.sub _ h with h | h; exact n2 h; omega, World.putObj_heap_same (Array.getElem?_eq_some_iff.1 hl4).1, (World.putObj_heap_other (by omega)).trans hk4⟩
        have grow : ∀ (X4 : Nat → Prop) (W4 : World) (o : Obj), Gr X' X4 W.heap.size W3 W4 →
            GrM M X X4 w.heap.size w (W4.putObj (w.heap.size + 1) o) ∧ Gr Y (U X4) W.heap.size W (W4.putObj (w.heap.size + 1) o) := fun X4 W4 o h4 => by
          have hs4 : W.heap.size ≤ W4.heap.size := Nat.le_trans e1 h4.size
          have b4 : ∀ j, j < W.heap.size → ¬ X' j → j ≠ w.heap.size + 1 → (W4.putObj (w.heap.size + 1) o).heap[j]? = W.heap[j]? := fun j hj hx hn =>
            (World.putObj_heap_other hn).trans ((h4.block j hj hx).trans (e2 j hj hx hn))
          have hsub : ∀ j, X4 j → X j ∨ w.heap.size ≤ j := fun j hj => by
            rcases h4.sub j hj with h | h
            · exact hgr.sub j h
            · exact .inr (by omega)
          have t1 : (W4.putObj (w.heap.size + 1) o).os = W.os := h4.os.trans e0.1
          have t2 : (W4.putObj (w.heap.size + 1) o).tape = W.tape := h4.tape.trans e0.2.1
          have t3 : (W4.putObj (w.heap.size + 1) o).output = W.output := h4.output.trans e0.2.2
          have hz : (W4.putObj (w.heap.size + 1) o).heap.size = W4.heap.size := World.putObj_size
          refine ⟨⟨t1.trans hgr.os, t2.trans hgr.tape, t3.trans hgr.output, by rw [hz]; have := hgr.size; omega, ?_, hsub, fun j hj => by rw [hz]; exact h4.lt j hj⟩, ⟨t1, t2, t3, by rw [hz]; exact hs4, ?_, ?_, ?_⟩⟩
          · intro j hj hx hm
            exact (b4 j (by have := hgr.size; omega) (fun h => by rcases hgr.sub j h with h | h; exact hx h; omega) (by omega)).trans (hgr.block j hj hx hm)
          · intro j hj hy
            have hu := fun h => hy ((hY j).2 h)
            exact b4 j hj (fun h => hu (.inl h)) (fun h => hu (.inr (.inr h)))
          · rintro j (h | h | h)
            · rcases h4.sub j h with h | h
              · exact .inl ((hY j).2 (.inl h))
              · exact .inr h
            · exact .inl ((hY j).2 (.inr (.inl h)))
            · exact .inl ((hY j).2 (.inr (.inr h)))
          · rintro j (h | h | h)
            · rw [hz]; exact h4.lt j h
            · rw [hz]; omega
            · rw [hz]; omega
        intro e a3 W4 hp4
        cases e with
        | normal =>
          obtain ⟨X4, h4, hi4⟩ := hp4
          obtain ⟨f1, f2, f3, f4, f5⟩ := fin none X4 W4 h4
          obtain ⟨g1, g2⟩ := grow X4 W4 _ h4
          exact ⟨_, _, f1, U X4, g2, .inl ⟨rfl, X4, fun _ => Iff.rfl, hI _ _ _ _ hi4 (agm_put _ _ f3 (by omega)), g1, f2, f3, f4, f5⟩⟩
        | ret =>
          obtain ⟨X4, h4, hi4⟩ := hp4
          obtain ⟨f1, f2, f3, f4, f5⟩ := fin (some .ret) X4 W4 h4
          obtain ⟨g1, g2⟩ := grow X4 W4 _ h4
          exact ⟨_, _, f1, U X4, g2, .inr ⟨rfl, X4, .ret, fun _ => Iff.rfl, hIx _ _ _ _ _ hi4 (agm_put _ _ f3 (by omega)), g1, f2, f3, f4, f5⟩⟩
        | exit id =>
          obtain ⟨X4, h4, hi4⟩ := hp4
          obtain ⟨f1, f2, f3, f4, f5⟩ := fin (some (.exit id)) X4 W4 h4
          obtain ⟨g1, g2⟩ := grow X4 W4 _ h4
          exact ⟨_, _, f1, U X4, g2, .inr ⟨rfl, X4, .exit id, fun _ => Iff.rfl, hIx _ _ _ _ _ hi4 (agm_put _ _ f3 (by omega)), g1, f2, f3, f4, f5⟩⟩
        | goto t =>
          obtain ⟨X4, h4, hi4⟩ := hp4
          obtain ⟨f1, f2, f3, f4, f5⟩ := fin (some (.goto t)) X4 W4 h4
          obtain ⟨g1, g2⟩ := grow X4 W4 _ h4
          exact ⟨_, _, f1, U X4, g2, .inr ⟨rfl, X4, .goto t, fun _ => Iff.rfl, hIx _ _ _ _ _ hi4 (agm_put _ _ f3 (by omega)), g1, f2, f3, f4, f5⟩⟩
        | panic ch => exact hp4.elim
        | outgrown => exact hp4.elim
      | _ => exact he.elim
    · exact ⟨X, fun _ => Iff.rfl, hI1, ⟨hB1.os, hB1.tape, hB1.output, hB1.size, fun j hj _ _ => hB1.block j hj, fun j h => .inl h, fun j h => Nat.lt_of_lt_of_le (hX j h) hB1.size⟩, fun h => by have := hX _ h; omega, fun h => by have := hX _ h; omega, hL1, hK1⟩
    · -- BEHIND THE ITERATOR
      rintro e W2 ⟨⟨v, rfl⟩, Y, hgY, (⟨ys, hys, X', hY, hi, hgr, n1, n2, hl, hk⟩ | ⟨pre, X', c, hY, hi, hgr, n1, n2, hl, hk⟩)⟩
      · exact ⟨none, _, by have := run_endLoop (P := P) hl (by rw [hrec]; simp); rw [hrec] at this; exact this, hdone ys X' _ hys (hI _ _ _ _ hi (agm_put _ _ n2 (by omega))) (gput _ hgr) n1 ((World.putObj_heap_other (by omega)).trans hk)⟩
      · exact ⟨some c, _, by have := run_endLoop (P := P) hl (by rw [hrec]; simp); rw [hrec] at this; exact this, hstop c pre X' _ (hIx _ _ _ _ _ hi (agm_put _ _ n2 (by omega))) (gput _ hgr) n1 ((World.putObj_heap_other (by omega)).trans hk)⟩
end Go.Proofs.Ytghpjlohoehdnaa.Sep

/-! Iterators whose rows are known by what they hold; scan.Collect over them. No condition beyond those that each theorem names. -/
namespace Go.Proofs.Ytghpjlohoehdnaa.Sep
open Go Go.RowKit Go.Shelf
attribute [local go_sem] Oper.semAt_some
set_option linter.unusedVariables false
set_option linter.unusedSimpArgs false
/-- an error's number (0: none) and, where there is none, a row's values -/
abbrev Cd := Int × List V3
/-- what an iterator hands over next -/
def GC (cs : List Cd) (pre : List (RV × Int)) (x : RV × Int) (X : Nat → Prop) (W : World) : Prop :=
  ∃ c, cs[pre.length]? = some c ∧ x.2 = c.1 ∧ (c.1 = 0 → Cont W x.1 c.2 ∧ x.1.n ≤ 1000 ∧ ∀ j, x.1.blk j → ¬ X j)
theorem GC.anti {cs : List Cd} : ∀ pre x X Y W, (∀ j, X j → Y j) → GC cs pre x Y W → GC cs pre x X W := fun pre x X Y W h ⟨c, h1, h2, h3⟩ => ⟨c, h1, h2, fun h0 => ⟨(h3 h0).1, (h3 h0).2.1, fun j hj hx => (h3 h0).2.2 j hj (h j hx)⟩⟩
def FinC (cs : List Cd) (ys : List (RV × Int)) : Prop := ys.length = cs.length
/-- the value v is an iterator: what it hands over is cs; it reads R and turns M -/
structure ItM (M R : Nat → Prop) (v : Value) (cs : List Cd) (w : World) : Prop where
  ex : ∃ g lb, v = .func (.func g) #[] lb ∧ (∀ args w, (callFunc g args).run Try.prog w = .ok (.enter g args) w) ∧ ∀ n, SeqM M (GC cs) (FinC cs) Fence.wide n Try.prog g lb enc R w
  lt : ∀ j, R j → j < w.heap.size
  ml : ∀ j, M j → j < w.heap.size
theorem ItM.later {M R : Nat → Prop} {v : Value} {cs : List Cd} {w W : World} (h : ItM M R v cs w) (hs : w.heap.size ≤ W.heap.size) (hR : ∀ j, R j → W.heap[j]? = w.heap[j]?) (hM : ∀ j, M j → W.heap[j]? = w.heap[j]?) : ItM M R v cs W := by
  obtain ⟨g, lb, rfl, eg, hq⟩ := h.ex
  refine ⟨⟨g, lb, rfl, eg, fun n l J Jx X W2 hs2 hR2 hM2 hX hJ hJx hY h0 => hq n l J Jx X W2 (Nat.le_trans hs hs2) (fun j hj => ?_) (fun j hj => ?_) hX hJ hJx hY h0⟩, fun j hj => Nat.lt_of_lt_of_le (h.lt j hj) hs, fun j hj => Nat.lt_of_lt_of_le (h.ml j hj) hs⟩
  · obtain ⟨a, b, c⟩ := hR2 j hj
    exact ⟨h.lt j hj, b, c.trans (hR j hj)⟩
  · obtain ⟨a, b, c⟩ := hM2 j hj
    exact ⟨h.ml j hj, b, c.trans (hM j hj)⟩
theorem ItM.below {M R : Nat → Prop} {v : Value} {cs : List Cd} {w W : World} (h : ItM M R v cs w) (hb : Below w.heap.size w W) : ItM M R v cs W :=
  h.later hb.size (fun j hj => hb.block j (h.lt j hj)) (fun j hj => hb.block j (h.ml j hj))
def cdOf (p : Pr) : Cd := (p.1.2, p.2)
/-- an iterator over rows that are known is one over what they hold -/
theorem ItC.m {v : Value} {prs : List Pr} {R : Nat → Prop} {w : World} (h : ItC v prs R w) : ItM (fun _ => False) R v (prs.map cdOf) w := by
  obtain ⟨g, lb, rfl, eg, hq⟩ := h.it.ex
  refine ⟨⟨g, lb, rfl, eg, fun n l J Jx X W hs hR hM hX hJ hJx hY h0 => ?_⟩, h.it.lt, fun j hj => hj.elim⟩
  have st : ∀ {J : List (RV × Int) → (Nat → Prop) → World → Prop}, StableM (fun _ => False) W.heap.size J → Stable W.heap.size J := fun hJ pre X W W' h1 h2 =>
    hJ pre X W W' h1 ⟨h2.os, h2.tape, h2.output, h2.size, fun j hj => h2.block j (hj.imp id And.left)⟩
  refine (hq n l J Jx X W hs hR hX (st hJ) (st hJx) ?_ h0).mono ?_
  · intro pre x X1 W1 hpre hj hg
    refine hY pre x X1 W1 ?_ hj hg.m
    obtain ⟨t, ht⟩ := hpre
    have hlen : pre.length < prs.length := by
      have := congrArg List.length ht
      simp at this
      omega
    have hx : (prs.map Prod.fst)[pre.length]? = some x := by rw [← ht]; simp
    rw [List.getElem?_map, List.getElem?_eq_getElem hlen] at hx
    have hx' : prs[pre.length].1 = x := by simpa using hx
    refine ⟨cdOf prs[pre.length], by rw [List.getElem?_map, List.getElem?_eq_getElem hlen]; rfl, by rw [← hx']; rfl, fun h0 => ?_⟩
    obtain ⟨r1, r2, r3⟩ := h.rows _ (List.getElem_mem hlen) h0
    rw [hx'] at r1 r2 r3
    have hRW : ∀ j, R j → W1.heap[j]? = w.heap[j]? := fun j hj => (hg.block j (Nat.lt_of_lt_of_le (hR j hj).1 hs) (hR j hj).2.1).trans (hR j hj).2.2
    refine ⟨r1.same (Nat.le_trans hs hg.size) (fun j hj => hRW j (r3 j hj)), r2, fun j hj hx1 => ?_⟩
    rcases hg.sub j hx1 with h4 | h4
    · exact (hR j (r3 j hj)).2.1 h4
    · have := (hR j (r3 j hj)).1
      omega
  · rintro e W' ⟨h1, X', hg, h2⟩
    refine ⟨h1, X', hg.m, ?_⟩
    rcases h2 with h2 | ⟨pre, _, h2⟩
    · exact .inl ⟨_, by unfold FinC; simp, h2⟩
    · exact .inr ⟨pre, h2⟩
/-- all but M is as it was, below N -/
structure BelM (M : Nat → Prop) (N : Nat) (W W' : World) : Prop where
  os : W'.os = W.os
  tape : W'.tape = W.tape
  output : W'.output = W.output
  size : W.heap.size ≤ W'.heap.size
  block : ∀ j, j < N → ¬ M j → W'.heap[j]? = W.heap[j]?
theorem BelM.of {M : Nat → Prop} {N : Nat} {W W' : World} (h : Below N W W') : BelM M N W W' := ⟨h.os, h.tape, h.output, h.size, fun j hj _ => h.block j hj⟩
theorem BelM.trans {M : Nat → Prop} {N K : Nat} {A B C : World} (h : BelM M N A B) (k : BelM M K B C) (hK : N ≤ K) : BelM M N A C :=
  ⟨k.os.trans h.os, k.tape.trans h.tape, k.output.trans h.output, Nat.le_trans h.size k.size, fun j hj hm => (k.block j (Nat.lt_of_lt_of_le hj hK) hm).trans (h.block j hj hm)⟩
theorem BelM.below {N : Nat} {W W' : World} (h : BelM (fun _ => False) N W W') : Below N W W' := ⟨h.os, h.tape, h.output, h.size, fun j hj => h.block j hj (fun h => h)⟩
end Go.Proofs.Ytghpjlohoehdnaa.Sep

/-! scan.Collect over iterators whose rows are known by what they hold. No condition beyond those that each theorem names. -/
namespace Go.Proofs.Ytghpjlohoehdnaa.Sep
open Go Go.RowKit Go.Shelf
attribute [local go_sem] Oper.semAt_some
set_option linter.unusedVariables false
set_option linter.unusedSimpArgs false
/-- what came has the codes of cs -/
def PreOk (cs : List Cd) (pre : List (RV × Int)) : Prop := ∀ (i : Nat) (y : RV × Int), pre[i]? = some y → ∃ c : Cd, cs[i]? = some c ∧ y.2 = c.1
theorem PreOk.snoc {cs : List Cd} {pre : List (RV × Int)} {x : RV × Int} (h : PreOk cs pre) (hx : ∃ c, cs[pre.length]? = some c ∧ x.2 = c.1) : PreOk cs (pre ++ [x]) := by
  intro i y hy
  rcases Nat.lt_or_ge i pre.length with hi | hi
  · rw [List.getElem?_append_left hi] at hy
    exact h i y hy
  · rw [List.getElem?_append_right hi] at hy
    have hi2 : i - pre.length = 0 := by
      have := (List.getElem?_eq_some_iff.1 hy).1
      simp at this
      omega
    rw [hi2] at hy
    have : i = pre.length := by omega
    subst this
    have hy2 : x = y := by simpa using hy
    subst hy2
    exact hx
theorem PreOk.zero {cs : List Cd} {ys : List (RV × Int)} (h : PreOk cs ys) (hl : ys.length = cs.length) (hz : ∀ y ∈ ys, y.2 = 0) : ∀ c ∈ cs, c.1 = 0 := by
  intro c hc
  obtain ⟨i, hi, rfl⟩ := List.getElem_of_mem hc
  have hy : ys[i]? = some (ys[i]'(by omega)) := List.getElem?_eq_getElem _
  obtain ⟨c', h1, h2⟩ := h i _ hy
  rw [List.getElem?_eq_getElem hi] at h1
  injection h1 with h1
  rw [h1, ← h2]
  exact hz _ (List.getElem_mem _)
theorem PreOk.last {cs : List Cd} {p : List (RV × Int)} {y : RV × Int} (h : PreOk cs (p ++ [y])) (hz : ∀ z ∈ p, z.2 = 0) : ∃ c, cs[p.length]? = some c ∧ y.2 = c.1 ∧ ∀ i c', i < p.length → cs[i]? = some c' → c'.1 = 0 := by
  obtain ⟨c, h1, h2⟩ := h p.length y (by simp)
  refine ⟨c, h1, h2, fun i c' hi hc' => ?_⟩
  obtain ⟨c2, h3, h4⟩ := h i (p[i]) (by rw [List.getElem?_append_left hi, List.getElem?_eq_getElem hi])
  rw [h3] at hc'
  injection hc' with hc'
  rw [← hc', ← h4]
  exact hz _ (List.getElem_mem _)
theorem cont_ne {W : World} {q : RV} {row : List V3} {l : Nat} {r : Loop} (h : Cont W q row) (hl : W.heap[l]? = some (.loop r)) : ∀ j, q.blk j → j ≠ l := by
  rintro j ⟨h0, o, t, e⟩ rfl
  rcases h with ⟨h1, _⟩ | ⟨b, off, h1, h2, h3, h4⟩
  · exact h0 h1
  · rw [h1] at e
    injection e with e
    injection e with e _ _
    subst e
    cases row with
    | nil => simp at h2; omega
    | cons v t =>
      have := h4 0 _ rfl
      unfold World.cell? at this
      simp only [hl] at this
      cases this
/-- Collect has come upon an error -/
def XR (cs : List Cd) (N : Nat) (pre : List (RV × Int)) (X : Nat → Prop) (W : World) : Prop := ∃ p y, pre = p ++ [y] ∧ PreOk cs (p ++ [y]) ∧ (∀ z ∈ p, z.2 = 0) ∧ y.2 ≠ 0 ∧ Boxed W N 22 (.slice none 0 0) ∧ Boxed W (N + 1) 25 (.int .i64 y.2) ∧ X N ∧ X (N + 1) ∧ ∀ j, X j → N ≤ j
set_option maxRecDepth 100000 in
set_option maxHeartbeats 4000000 in
theorem collect_m (n : Nat) (hn : 3 ≤ n) (v : Value) (cs : List Cd) (M R : Nat → Prop) (w : World) (hit : ItM M R v cs w) (hlen : cs.length ≤ 100000) :
    CallsIn Fence.wide n Try.prog 19 #[v] w fun e W' => BelM M w.heap.size w W' ∧
      ((∃ sv rs, e = .returned (.tuple #[sv, .int .i64 0]) ∧ (∀ c ∈ cs, c.1 = 0) ∧ W'.ownsRow w.heap.size 48 1 sv cs.length (rs.map RV.v) ∧ All2 (fun r row => Cont W' r row ∧ r.n ≤ 1000 ∧ ∀ j, r.blk j → w.heap.size ≤ j) rs (cs.map Prod.snd)) ∨
       (∃ (k : Nat) (c : Cd), cs[k]? = some c ∧ (∀ i c', i < k → cs[i]? = some c' → c'.1 = 0) ∧ c.1 ≠ 0 ∧ e = .returned (.tuple #[.slice none 0 0, .int .i64 c.1]))) := by
  obtain ⟨g, lb, rfl, eg, hq⟩ := hit.ex
  obtain ⟨i0, hi, hz0, hz1, hz2⟩ := info_parts infoR
  have hro : Fence.wide.round = none := rfl
  have hmx : Try.prog.follows .mixedOrders = true := by kernel_rfl
  have h1 : 1 ≤ n := by omega
  refine callsIn_of_wp_marks Try.func19 rfl trivial ?_ hro
  simp only [Try.ntmps19, List.size_toArray, List.length_cons, List.length_nil, Nat.reduceAdd, Nat.reduceSub, Array.replicate_succ, Array.replicate_zero, List.push_toArray, List.append_toArray, List.nil_append, List.cons_append]
  have hfn : ∀ (w : World) (g : FuncId) (lb : Array Value), (binOp .eql 31 (.func (.func g) #[] lb) .nilFunc).run Try.prog w = .ok (.bool false) w := fun _ _ _ => rfl
  gi_wp2
  have bA := Boxed.new w 22 (.slice none 0 0)
  have bB := Boxed.new (w.alloc (.cells #[.slice none 0 0] 22)) 25 (.int .i64 0)
  have bC := Boxed.new ((w.alloc (.cells #[.slice none 0 0] 22)).alloc (.cells #[.int .i64 0] 25)) 22 (.slice none 0 0)
  simp only [World.size_alloc] at bB bC
  have bA2 := (bA.alloc (.cells #[.int .i64 0] 25)).alloc (.cells #[.slice none 0 0] 22)
  have bB2 := bB.alloc (.cells #[.slice none 0 0] 22)
  have hbel : Below w.heap.size w (((w.alloc (.cells #[.slice none 0 0] 22)).alloc (.cells #[.int .i64 0] 25)).alloc (.cells #[.slice none 0 0] 22)) := (((Below.refl _ w).alloc (Nat.le_refl _) _).alloc (by simp) _).alloc (by simp; omega) _
  have hsz : (((w.alloc (.cells #[.slice none 0 0] 22)).alloc (.cells #[.int .i64 0] 25)).alloc (.cells #[.slice none 0 0] 22)).heap.size = w.heap.size + 3 := by simp
  clear bA bB
  generalize ((w.alloc (.cells #[.slice none 0 0] 22)).alloc (.cells #[.int .i64 0] 25)).alloc (.cells #[.slice none 0 0] 22) = w3 at bA2 bB2 bC hbel hsz ⊢
  refine wpIn_rangeFunc_m hro h1 (gf := g) (lb := lb) rfl trivial eg (hq (n - 1)) GC.anti (fun _ => rfl) (fun j => w.heap.size ≤ j ∧ j < w3.heap.size) hbel.size
    (fun j hj => ⟨hit.lt j hj, fun h => by have := hit.lt j hj; omega, hbel.block j (hit.lt j hj)⟩) (fun j hj => ⟨hit.ml j hj, fun h => by have := hit.ml j hj; omega, hbel.block j (hit.ml j hj)⟩) (fun j hj => hj.2)
    (fun pre X W => CI w.heap.size (cs.map Prod.snd) pre X W ∧ PreOk cs pre)
    (fun c pre X W => c = .ret ∧ XR cs w.heap.size pre X W)
    (fun pre X W W' h ha => ⟨CI.stable _ 0 _ _ _ _ _ h.1 ⟨ha.os, ha.tape, ha.output, ha.size, fun j hj => ha.block j (.inl (by rcases hj with h | h; exact h; omega))⟩, h.2⟩) ?xst ?start ?round ?done ?stop
  case xst =>
    rintro c pre X W W' ⟨rfl, p, y, e1, ep, e2, e3, e4, e5, e6, e7, e8⟩ ha
    exact ⟨rfl, p, y, e1, ep, e2, e3, boxed_same (ha.block _ (.inl e6)) e4, boxed_same (ha.block _ (.inl e7)) e5, e6, e7, e8⟩
  case start =>
    exact ⟨⟨(fun _ h => by cases h), bA2, bB2, ⟨.slice none 0 0, [], bC, World.ownsRow_nil _ _ _ _, (fun j h => by cases h), trivial⟩, by omega, by omega, by omega, (fun j h => h.1)⟩, fun i y h => by simp at h⟩
  case round =>
    rintro l pre ⟨⟨ra, rn, rc⟩, e⟩ X1 W1 hl ⟨cd, hcd, hce, hcc⟩ ⟨hI, hPO⟩ hg hXl hlt ⟨lr, hlr⟩
    have HLr := Aside0.mk hlr
    have HCd := Aside0.mk (And.intro hcd (And.intro hce hcc))
    have HLl := Aside0.mk hl
    clear hlr hcd hce hcc hl
    gi_wp2
    try refine ⟨fun _ _ _ => trivial, Nat.le_refl _, trivial, trivial, trivial, ?_⟩
    intro W3 z1 z2 z3 z4 z5
    obtain ⟨hcd, hce, hcc⟩ := HCd.out
    have hlr := HLr.out
    have hl := HLl.out
    have hag : Agree X1 0 W1 W3 := ⟨z2, z3, z4, by omega, fun j hj => z5 j (by rintro rfl; rcases hj with h | h; exact hXl h; omega)⟩
    have hI3 := CI.stable _ 0 _ _ _ _ _ hI hag
    obtain ⟨v, rs, o1, o2, o3, o4⟩ := hI3.out
    have hc0 := hI3.b0.cell
    have hf0 := hI3.b0.frozen
    have hc1 := hI3.b1.cell
    have hf1 := hI3.b1.frozen
    have hcv := o1.cell
    have hfv := o1.frozen
    have hn2 : 1 ≤ n - 1 - 1 := by omega
    have hM : W1.heap.size ≤ W3.heap.size := by omega
    have hpl : pre.length < cs.length := (List.getElem?_eq_some_iff.1 hcd).1
    try dsimp only at hce hcc
    have hPO2 : PreOk cs (pre ++ [((⟨ra, rn, rc⟩ : RV), e)]) := hPO.snoc ⟨cd, hcd, hce⟩
    by_cases he : e = 0
    · subst he
      have hcont := hcc hce.symm
      have hrow : (cs.map Prod.snd)[pre.length]? = some cd.2 := by rw [List.getElem?_map, hcd]; rfl
      have hC3 : Cont W3 ⟨ra, rn, rc⟩ cd.2 := hcont.1.same (by omega) (fun j hj => z5 j (cont_ne hcont.1 hlr j hj))
      have hbig : rn ≤ 1000 := hcont.2.1
      have hrowlen : cd.2.length ≤ 1000 := by
        rw [hcont.1.len]; exact hbig
      have hI4 : CI w.heap.size (cs.map Prod.snd) pre X1 W3.drew := CI.stable _ 0 _ _ _ _ _ hI3 ⟨rfl, rfl, rfl, Nat.le_refl _, fun _ _ => rfl⟩
      have o14 : Boxed W3.drew (w.heap.size + 2) 22 v := o1
      have o24 : W3.drew.ownsRow w.heap.size 48 1 v pre.length (rs.map RV.v) := ownsRow_same (fun _ _ => rfl) o2
      have o44 : All2 (fun r row => Cont W3.drew r row ∧ r.n ≤ 1000 ∧ ∀ j, r.blk j → X1 j ∧ w.heap.size + 2 < j ∧ v.ownBlock ≠ some j) rs ((cs.map Prod.snd).take pre.length) := o4.imp fun q qr h => ⟨h.1.same (Nat.le_refl _) (fun _ _ => rfl), h.2⟩
      have hC4 : Cont W3.drew ⟨ra, rn, rc⟩ cd.2 := hC3.same (Nat.le_refl _) (fun _ _ => rfl)
      have hM4 : W1.heap.size ≤ W3.drew.heap.size := hM
      have hlt4 : ∀ j, X1 j → j < W3.drew.heap.size := fun j hj => Nat.lt_of_lt_of_le (hg.lt j hj) hM
      have hback : ∀ X' W', Gr X1 X' W1.heap.size W3.drew W' → Gr X1 X' W1.heap.size W3 W' := fun X' W' h => ⟨h.os, h.tape, h.output, h.size, h.block, h.sub, h.lt⟩
      have hcv' := o14.cell
      have hfv' := o14.frozen
      gi_wp2
      refine wpIn_region_any hmx ?_
      change wpAnyIn _ _ _ _ _ _ _ _ _ (World.drew _)
      refine wpAnyIn_ready (rs := [0, 1]) (by kernel_rfl) (by simp) ?_
      refine AllReadyIn.cons rfl (fun K hK => ?_) (AllReadyIn.cons rfl (fun K hK => ?_) AllReadyIn.nil)
      · go_simp
        refine hK _ _ ?_
        clear hK K
        refine wpAnyIn_ready (rs := [1]) (by kernel_rfl) (by simp) ?_
        refine AllReadyIn.cons rfl (fun K hK => ?_) AllReadyIn.nil
        go_simp
        refine hK _ _ ?_
        clear hK K
        refine wpAnyIn_ready (rs := [2]) (by kernel_rfl) (by simp) ?_
        refine AllReadyIn.cons rfl (fun K hK => ?_) AllReadyIn.nil
        go_simp
        refine ⟨trivial, ?_⟩
        refine (CallsIn.inRound _ (callsIn_wide.2 (clone_push hI4 o14 o24 o3 o44 hM4 hg.lt hC4 hbig hrowlen (by omega) hrow))).mono ?_
        rintro e4 w4 ⟨qa, qn, qc, g', cap', w5, rfl, o15, hrun, hv5, hgr5, hci5⟩
        have hcv4 := o15.cell
        have hfv4 := o15.frozen
        have hcv6 := (o15.alloc (.cells #[.slice qa qn qc] 48)).cell
        have hcv5 := hv5.cell
        have hfv5 := hv5.frozen
        refine hK _ _ ?_
        clear hK K
        refine wpAnyIn_ready (rs := [3]) (by kernel_rfl) (by simp) ?_
        refine AllReadyIn.cons rfl (fun K hK => ?_) AllReadyIn.nil
        go_simp
        refine hK _ _ ?_
        clear hK K
        refine wpAnyIn_ready (rs := [4]) (by kernel_rfl) (by simp) ?_
        refine AllReadyIn.cons rfl (fun K hK => ?_) AllReadyIn.nil
        refine if_intro (by rfl) ?_
        refine app_step rfl rfl hrun ?_
        refine hK _ _ ?_
        clear hK K
        simp only [Act.put, List.setIfInBounds_toArray, List.set_cons_zero, List.set_cons_succ]
        refine wpAnyIn_ready (rs := [5]) (by kernel_rfl) (by simp) ?_
        refine AllReadyIn.cons rfl (fun K hK => ?_) AllReadyIn.nil
        go_simp
        refine hK _ _ ?_
        clear hK K
        refine wpAnyIn_done (by kernel_rfl) ?_ _
        gi_wp2
        exact ⟨_, hback _ _ hgr5, hci5, hPO2⟩
      · go_simp
        refine hK _ _ ?_
        clear hK K
        refine wpAnyIn_ready (rs := [0, 2]) (by kernel_rfl) (by simp) ?_
        refine AllReadyIn.cons rfl (fun K hK => ?_) (AllReadyIn.cons rfl (fun K hK => ?_) AllReadyIn.nil)
        · go_simp
          refine hK _ _ ?_
          clear hK K
          refine wpAnyIn_ready (rs := [2]) (by kernel_rfl) (by simp) ?_
          refine AllReadyIn.cons rfl (fun K hK => ?_) AllReadyIn.nil
          go_simp
          refine ⟨trivial, ?_⟩
          refine (CallsIn.inRound _ (callsIn_wide.2 (clone_push hI4 o14 o24 o3 o44 hM4 hg.lt hC4 hbig hrowlen (by omega) hrow))).mono ?_
          rintro e4 w4 ⟨qa, qn, qc, g', cap', w5, rfl, o15, hrun, hv5, hgr5, hci5⟩
          have hcv4 := o15.cell
          have hfv4 := o15.frozen
          have hcv6 := (o15.alloc (.cells #[.slice qa qn qc] 48)).cell
          have hcv5 := hv5.cell
          have hfv5 := hv5.frozen
          refine hK _ _ ?_
          clear hK K
          refine wpAnyIn_ready (rs := [3]) (by kernel_rfl) (by simp) ?_
          refine AllReadyIn.cons rfl (fun K hK => ?_) AllReadyIn.nil
          go_simp
          refine hK _ _ ?_
          clear hK K
          refine wpAnyIn_ready (rs := [4]) (by kernel_rfl) (by simp) ?_
          refine AllReadyIn.cons rfl (fun K hK => ?_) AllReadyIn.nil
          refine if_intro (by rfl) ?_
          refine app_step rfl rfl hrun ?_
          refine hK _ _ ?_
          clear hK K
          simp only [Act.put, List.setIfInBounds_toArray, List.set_cons_zero, List.set_cons_succ]
          refine wpAnyIn_ready (rs := [5]) (by kernel_rfl) (by simp) ?_
          refine AllReadyIn.cons rfl (fun K hK => ?_) AllReadyIn.nil
          go_simp
          refine hK _ _ ?_
          clear hK K
          refine wpAnyIn_done (by kernel_rfl) ?_ _
          gi_wp2
          exact ⟨_, hback _ _ hgr5, hci5, hPO2⟩
        · go_simp
          refine ⟨trivial, ?_⟩
          refine (CallsIn.inRound _ (callsIn_wide.2 (clone_push hI4 o14 o24 o3 o44 hM4 hg.lt hC4 hbig hrowlen (by omega) hrow))).mono ?_
          rintro e4 w4 ⟨qa, qn, qc, g', cap', w5, rfl, o15, hrun, hv5, hgr5, hci5⟩
          have hcv4 := o15.cell
          have hfv4 := o15.frozen
          have hcv6 := (o15.alloc (.cells #[.slice qa qn qc] 48)).cell
          have hcv5 := hv5.cell
          have hfv5 := hv5.frozen
          refine hK _ _ ?_
          clear hK K
          refine wpAnyIn_ready (rs := [0, 3]) (by kernel_rfl) (by simp) ?_
          refine AllReadyIn.cons rfl (fun K hK => ?_) (AllReadyIn.cons rfl (fun K hK => ?_) AllReadyIn.nil)
          · go_simp
            refine hK _ _ ?_
            clear hK K
            refine wpAnyIn_ready (rs := [3]) (by kernel_rfl) (by simp) ?_
            refine AllReadyIn.cons rfl (fun K hK => ?_) AllReadyIn.nil
            go_simp
            refine hK _ _ ?_
            clear hK K
            refine wpAnyIn_ready (rs := [4]) (by kernel_rfl) (by simp) ?_
            refine AllReadyIn.cons rfl (fun K hK => ?_) AllReadyIn.nil
            refine if_intro (by rfl) ?_
            refine app_step rfl rfl hrun ?_
            refine hK _ _ ?_
            clear hK K
            simp only [Act.put, List.setIfInBounds_toArray, List.set_cons_zero, List.set_cons_succ]
            refine wpAnyIn_ready (rs := [5]) (by kernel_rfl) (by simp) ?_
            refine AllReadyIn.cons rfl (fun K hK => ?_) AllReadyIn.nil
            go_simp
            refine hK _ _ ?_
            clear hK K
            refine wpAnyIn_done (by kernel_rfl) ?_ _
            gi_wp2
            exact ⟨_, hback _ _ hgr5, hci5, hPO2⟩
          · go_simp
            refine hK _ _ ?_
            clear hK K
            refine wpAnyIn_ready (rs := [0]) (by kernel_rfl) (by simp) ?_
            refine AllReadyIn.cons rfl (fun K hK => ?_) AllReadyIn.nil
            go_simp
            refine hK _ _ ?_
            clear hK K
            refine wpAnyIn_ready (rs := [4]) (by kernel_rfl) (by simp) ?_
            refine AllReadyIn.cons rfl (fun K hK => ?_) AllReadyIn.nil
            refine if_intro (by rfl) ?_
            refine app_step rfl rfl hrun ?_
            refine hK _ _ ?_
            clear hK K
            simp only [Act.put, List.setIfInBounds_toArray, List.set_cons_zero, List.set_cons_succ]
            refine wpAnyIn_ready (rs := [5]) (by kernel_rfl) (by simp) ?_
            refine AllReadyIn.cons rfl (fun K hK => ?_) AllReadyIn.nil
            go_simp
            refine hK _ _ ?_
            clear hK K
            refine wpAnyIn_done (by kernel_rfl) ?_ _
            gi_wp2
            exact ⟨_, hback _ _ hgr5, hci5, hPO2⟩
    · have hne : (e != 0) = true := by simpa using he
      gi_wp2
      refine ⟨X1, ⟨rfl, rfl, rfl, by rw [size_setCell, size_setCell]; exact Nat.le_refl _, ?_, fun j h => .inl h, fun j h => by rw [size_setCell, size_setCell]; have := hg.lt j h; omega⟩, rfl, pre, (⟨ra, rn, rc⟩, e), rfl, hPO2, hI3.zero, he, ?_, ?_, hI3.x0, hI3.x1, hI3.lo⟩
      · intro j hj hx
        exact (Below.heap_setCell _ _ _ j (fun h => hx (h ▸ hI3.x1))).trans (Below.heap_setCell _ _ _ j (fun h => hx (h ▸ hI3.x0)))
      · exact (Below.heap_setCell _ _ _ _ (by first | (dsimp only; omega) | omega)).trans (hI3.b0.set _)
      · dsimp only
        rw [hce]
        exact Boxed.set _ ((Below.heap_setCell W3 ⟨w.heap.size, 0, none⟩ (.slice none 0 0) (w.heap.size + 1) (Nat.succ_ne_self _)).trans hI3.b1)
  case done =>
    rintro ys X' W hfin ⟨hI, hPO⟩ hg hn hK
    have hfl : ys.length = cs.length := hfin
    obtain ⟨v, rs, o1, o2, o3, o4⟩ := hI.out
    have hc0 := hI.b0.cell
    have hf0 := hI.b0.frozen
    have hc1 := hI.b1.cell
    have hf1 := hI.b1.frozen
    have hcv := o1.cell
    have hfv := o1.frozen
    have hgw := hg.size
    have hbw := hbel.size
    obtain ⟨sa, sk, sc, rfl⟩ : ∃ sa sk sc, v = .slice sa sk sc := by
      rcases o2.2 with ⟨rfl, _⟩ | ⟨gq, capq, curq, rfl, _⟩
      · exact ⟨_, _, _, rfl⟩
      · exact ⟨_, _, _, rfl⟩
    gi_wp2
    have nv : ∀ {B : Nat} {t : TypeId} {u : Value}, t ≠ 48 → Boxed W B t u → (Value.slice sa sk sc).ownBlock ≠ some B := fun ht hb e => (hb.not_row ht o2) e.symm
    have s6 : ∀ j, j ≠ w.heap.size → j ≠ w.heap.size + 1 → j ≠ w3.heap.size → (((W.setCell ⟨w.heap.size, 0, none⟩ (.slice sa sk sc)).setCell ⟨w.heap.size + 1, 0, none⟩ (.int .i64 0)).putObj w3.heap.size (.deferred none)).heap[j]? = W.heap[j]? := fun j h1 h2 h3 =>
      (World.putObj_heap_other h3).trans ((Below.heap_setCell _ _ _ j h2).trans (Below.heap_setCell _ _ _ j h1))
    have sz6 : (((W.setCell ⟨w.heap.size, 0, none⟩ (.slice sa sk sc)).setCell ⟨w.heap.size + 1, 0, none⟩ (.int .i64 0)).putObj w3.heap.size (.deferred none)).heap.size = W.heap.size := by rw [World.putObj_size, size_setCell, size_setCell]
    refine ret19 (N := w.heap.size) (e := 0) (a := sa) (k := sk) (c := sc) ?_ rfl rfl ?_ ?_ ⟨⟨hg.os.trans hbel.os, hg.tape.trans hbel.tape, hg.output.trans hbel.output, by rw [sz6]; omega, ?_⟩, .inl ⟨_, rs, rfl, hPO.zero hfl hI.zero, ?_, ?_⟩⟩
    · exact (Below.heap_setCell _ _ _ _ (by dsimp only; omega)).trans ((Below.heap_setCell _ _ _ _ (by dsimp only; omega)).trans hK)
    · exact (Below.heap_setCell _ _ _ _ (by dsimp only; omega)).trans (hI.b0.set _)
    · exact Boxed.set _ ((Below.heap_setCell _ _ _ _ (by dsimp only; omega)).trans hI.b1)
    · intro j hj hm
      rw [s6 j (by omega) (by omega) (by omega), hg.block j (by omega) (by omega) hm, hbel.block j hj]
    · rw [← hfl]
      exact ownsRow_same (fun j hj => s6 j (fun e => nv (by decide) hI.b0 (e ▸ hj)) (fun e => nv (by decide) hI.b1 (e ▸ hj)) (fun e => hn (e ▸ o3 j hj))) o2
    · have ho : (cs.map Prod.snd).take ys.length = cs.map Prod.snd := List.take_of_length_le (by rw [List.length_map, hfl]; exact Nat.le_refl _)
      rw [ho] at o4
      exact o4.imp fun q qr h => ⟨h.1.same (by rw [sz6]; exact Nat.le_refl _) (fun j hj => s6 j (by have := (h.2.2 j hj).2.1; omega) (by have := (h.2.2 j hj).2.1; omega) (fun e => hn (e ▸ (h.2.2 j hj).1))), h.2.1, fun j hj => hI.lo j (h.2.2 j hj).1⟩
  case stop =>
    rintro c pre X' W ⟨rfl, p, y, rfl, ep, e2, e3, e4, e5, e6, e7, e8⟩ hg hn hK
    obtain ⟨cd, k1, k2, k3⟩ := ep.last e2
    have hgw := hg.size
    have hbw := hbel.size
    gi_wp2
    refine ret19 (N := w.heap.size) (e := y.2) (a := none) (k := 0) (c := 0) hK rfl rfl e4 e5 ⟨⟨hg.os.trans hbel.os, hg.tape.trans hbel.tape, hg.output.trans hbel.output, by rw [World.putObj_size]; omega, ?_⟩, .inr ⟨p.length, cd, k1, k3, by rw [← k2]; exact e3, by rw [← k2]⟩⟩
    intro j hj hm
    rw [World.putObj_heap_other (by omega), hg.block j (by omega) (by omega) hm, hbel.block j hj]
end Go.Proofs.Ytghpjlohoehdnaa.Sep

/-! sort.later: rows that are made when they are asked for. No condition beyond those that each theorem names. -/
namespace Go.Proofs.Ytghpjlohoehdnaa.Sep
open Go Go.RowKit Go.Shelf
attribute [local go_sem] Oper.semAt_some
set_option linter.unusedVariables false
set_option linter.unusedSimpArgs false
/-- what later hands over: an error alone, or the rows that were made -/
def lc (er : Int) (cs : List Cd) : List Cd := if er = 0 then cs else [(er, [])]
/-- what make gives: rows, or an error -/
def Made (M : Nat → Prop) (er : Int) (cs : List Cd) (X : Nat → Prop) (W : World) (e : Ending) (W' : World) : Prop :=
  BelM M W.heap.size W W' ∧ ((er = 0 ∧ ∃ v R', e = .returned (.tuple #[v, .int .i64 0]) ∧ ItM (fun _ => False) R' v cs W' ∧ ∀ j, R' j → ¬ X j) ∨ (er ≠ 0 ∧ e = .returned (.tuple #[.nilFunc, .int .i64 er])))
/-- how far the rows have come -/
def LI (M : Nat → Prop) (J : List (RV × Int) → (Nat → Prop) → World → Prop) (X0 : Nat → Prop) (W0 : World) (pre : List (RV × Int)) (X : Nat → Prop) (W : World) : Prop := J pre X W ∧ GrM M X0 X W0.heap.size W0 W
theorem agm_wide {M X : Nat → Prop} {n₀ n₁ : Nat} {A B : World} (h : AgM (fun _ => False) X n₁ A B) (hn : n₀ ≤ n₁) : AgM M X n₀ A B := ⟨h.os, h.tape, h.output, h.size, fun j hj => h.block j (hj.imp id fun h => ⟨by omega, fun h => h⟩)⟩
theorem LI.stable {M : Nat → Prop} {J : List (RV × Int) → (Nat → Prop) → World → Prop} {X0 : Nat → Prop} {W0 : World} {n₁ : Nat} (hJ : StableM M W0.heap.size J) (hn : W0.heap.size ≤ n₁) : StableM (fun _ => False) n₁ (LI M J X0 W0) := by
  intro pre X A B ⟨h1, h2⟩ ha
  exact ⟨hJ _ _ _ _ h1 (agm_wide ha hn), ⟨ha.os.trans h2.os, ha.tape.trans h2.tape, ha.output.trans h2.output, Nat.le_trans h2.size ha.size, fun j hj hx hm => (ha.block j (.inr ⟨by omega, fun h => h⟩)).trans (h2.block j hj hx hm), h2.sub, fun j hj => Nat.lt_of_lt_of_le (h2.lt j hj) ha.size⟩⟩
def LX (M : Nat → Prop) (Jx : List (RV × Int) → (Nat → Prop) → World → Prop) (X0 : Nat → Prop) (W0 : World) (c : Code) (pre : List (RV × Int)) (X : Nat → Prop) (W : World) : Prop := c = .ret ∧ Jx pre X W ∧ GrM M X0 X W0.heap.size W0 W
theorem GC.same {cs : List Cd} {pre : List (RV × Int)} {x : RV × Int} {X : Nat → Prop} {W W' : World} (h : GC cs pre x X W) (hs : W.heap.size ≤ W'.heap.size) (hb : ∀ (row : List V3), Cont W x.1 row → ∀ j, x.1.blk j → W'.heap[j]? = W.heap[j]?) : GC cs pre x X W' := by
  obtain ⟨c, h1, h2, h3⟩ := h
  exact ⟨c, h1, h2, fun h0 => ⟨(h3 h0).1.same hs (hb _ (h3 h0).1), (h3 h0).2⟩⟩
theorem GrM.put {M X X' : Nat → Prop} {N D : Nat} {W W' : World} (o : Obj) (hD : N ≤ D) (h : GrM M X X' N W W') : GrM M X X' N W (W'.putObj D o) :=
  ⟨h.os, h.tape, h.output, by rw [World.putObj_size]; exact h.size, fun j hj hx hm => (World.putObj_heap_other (by omega)).trans (h.block j hj hx hm), h.sub, fun j hj => by rw [World.putObj_size]; exact h.lt j hj⟩
set_option maxRecDepth 100000 in
set_option maxHeartbeats 4000000 in
theorem later1_in (n : Nat) (hn : 6 ≤ n) (l B : Nat) (lbm : Array Value) (er : Int) (cs : List Cd) (M : Nat → Prop)
    (J Jx : List (RV × Int) → (Nat → Prop) → World → Prop) (X : Nat → Prop) (W : World) (hX : ∀ j, X j → j < W.heap.size) (hM : ∀ j, M j → j < W.heap.size ∧ ¬ X j) (hJ : StableM M W.heap.size J) (hJx : StableM M W.heap.size Jx)
    (hB : B < W.heap.size) (hcb : W.cell? ⟨B, 0, none⟩ = some (.func (.func 60) #[] lbm)) (hmk : ∀ W1, Below W.heap.size W W1 → Calls Try.prog 60 lbm W1 (Made M er cs X W1))
    (hY : ∀ pre x X1 W1, GC (lc er cs) pre x X1 W1 → J pre X1 W1 → GrM M X X1 W.heap.size W W1 → YieldAt Fence.wide (n - 1) Try.prog l (enc x) W1 fun e W' =>
      ∃ X', Gr X1 X' W1.heap.size W1 W' ∧ ((e = .returned (.bool true) ∧ J (pre ++ [x]) X' W') ∨ (e = .returned (.bool false) ∧ Jx (pre ++ [x]) X' W')))
    (h0 : J [] X W) :
    CallsIn Fence.wide n Try.prog 79 #[.func (.yield l) #[] #[], .pointer (some ⟨B, 0, none⟩)] W fun e W' => (∃ v, e = .returned v) ∧
      ∃ X', GrM M X X' W.heap.size W W' ∧ ((∃ ys, FinC (lc er cs) ys ∧ J ys X' W') ∨ ∃ pre, Jx pre X' W') := by
  have hro : Fence.wide.round = none := rfl
  have h1 : 1 ≤ n := by omega
  have cY := Boxed.new W 72 (.func (.yield l) #[] #[])
  have hbel : Below W.heap.size W (W.alloc (.cells #[.func (.yield l) #[] #[]] 72)) := (Below.refl _ W).alloc (Nat.le_refl _) _
  have hsz : (W.alloc (.cells #[.func (.yield l) #[] #[]] 72)).heap.size = W.heap.size + 1 := by simp
  have hcb1 := (cell_of_block (hbel.block B hB) 0).trans hcb
  refine callsIn_of_wp_marks Try.func79 rfl trivial ?_ hro
  simp only [Try.ntmps79, List.size_toArray, List.length_cons, List.length_nil, Nat.reduceAdd, Nat.reduceSub, Array.replicate_succ, Array.replicate_zero, List.push_toArray, List.append_toArray, List.nil_append, List.cons_append]
  generalize hW1 : W.alloc (.cells #[.func (.yield l) #[] #[]] 72) = W1 at cY hbel hsz hcb1
  have hmk1 := callsIn_wide (n := n - 1).2 (hmk W1 hbel)
  by_cases he : er = 0
  · gi_upto_region 2 with (refine ⟨trivial, ?_⟩; gi_at_call 60; refine hmk1.mono ?_; rintro e w2 ⟨hb2, ⟨_, v, R', rfl, hit, hdis⟩ | ⟨hx, _⟩⟩; rotate_left; exact absurd he hx)
    subst he
    have hlc : lc 0 cs = cs := if_pos rfl
    rw [hlc] at hY
    have HLc := Aside0.mk hlc
    have hW2 : BelM M W.heap.size W w2 := (BelM.of hbel).trans hb2 (by omega)
    have hag : AgM M X W.heap.size W w2 := ⟨hW2.os, hW2.tape, hW2.output, hW2.size, fun j hj => by
      rcases hj with h | h
      · exact hW2.block j (hX j h) (fun hm => (hM j hm).2 h)
      · exact hW2.block j h.1 h.2⟩
    have hgr : GrM M X X W.heap.size W w2 := ⟨hW2.os, hW2.tape, hW2.output, hW2.size, fun j hj _ hm => hW2.block j hj hm, fun j h => .inl h, fun j h => Nat.lt_of_lt_of_le (hX j h) hW2.size⟩
    have hMn : ∀ j, W.heap.size ≤ j → ¬ M j := fun j hj hm => by have := (hM j hm).1; omega
    have cY2 : Boxed w2 W.heap.size 72 (.func (.yield l) #[] #[]) := (hb2.block W.heap.size (by omega) (hMn _ (Nat.le_refl _))).trans cY
    have hs2 : W.heap.size + 1 ≤ w2.heap.size := by have := hb2.size; omega
    obtain ⟨g, lb, rfl, eg, hq⟩ := hit.ex
    have HC := Aside0.mk (And.intro hag (And.intro hgr cY2))
    have HR := Aside0.mk (And.intro hit.lt hdis)
    clear hag hgr hb2 hW2 hmk1 hmk hcb1 hcb hbel hW1 hsz cY2 cY hlc hdis
    have hIX : ∀ c, StableM (fun _ => False) w2.heap.size (LX M Jx X W c) := fun c pre X' A B ⟨k1, k2, k3⟩ ha => by
      have := LI.stable hJx (show W.heap.size ≤ w2.heap.size by omega) pre X' A B ⟨k2, k3⟩ ha
      exact ⟨k1, this.1, this.2⟩
    gi_wp2
    refine wpIn_rangeFunc_m hro h1 (gf := g) (lb := lb) rfl trivial eg (hq (n - 1)) GC.anti (fun _ => rfl) X (Nat.le_refl _) (fun j hj => ⟨HR.out.1 j hj, HR.out.2 j hj, rfl⟩) (fun j hj => hj.elim) (fun j hj => by have := hX j hj; omega)
      (LI M J X W) (LX M Jx X W) (LI.stable hJ (by omega)) hIX ⟨hJ _ _ _ _ h0 HC.out.1, HC.out.2.1⟩ ?round ?done ?stop
    case round =>
      rintro lab pre ⟨⟨ra, rn, rc⟩, e⟩ X1 Wa hl hG ⟨b1, b2⟩ hg hXl hlt ⟨lr, hlr⟩
      have HG := Aside0.mk (And.intro hG (And.intro hlr (And.intro b1 (And.intro b2 hg))))
      have HL := Aside0.mk (And.intro hl (And.intro hXl hlt))
      clear hG hlr b1 b2 hg hl hXl hlt
      gi_wp2
      try refine ⟨fun _ _ _ => trivial, Nat.le_refl _, trivial, trivial, trivial, ?_⟩
      intro W3 z1 z2 z3 z4 z5
      obtain ⟨hG, hlr, b1, b2, hg⟩ := HG.out
      obtain ⟨hl, hXl, hlt⟩ := HL.out
      have hW0 := HC.out.2.1.size
      have hg1 := hg.size
      have hag3 : AgM M X1 W.heap.size Wa W3 := ⟨z2, z3, z4, by omega, fun j hj => z5 j (by rintro rfl; rcases hj with h | h; exact hXl h; omega)⟩
      have hJ3 := hJ _ _ _ _ b1 hag3
      have hg3 : GrM M X X1 W.heap.size W W3 := ⟨z2.trans b2.os, z3.trans b2.tape, z4.trans b2.output, by rw [z1]; exact b2.size, fun j hj hx hm => (z5 j (by omega)).trans (b2.block j hj hx hm), b2.sub, fun j hj => by rw [z1]; exact b2.lt j hj⟩
      have cY3 : W3.cell? ⟨W.heap.size, 0, none⟩ = some (.func (.yield l) #[] #[]) := (cell_of_block ((z5 _ (by omega)).trans (hg.block _ (by omega) (fun h => by have := hX _ h; omega) (fun h => h))) 0).trans (Boxed.cell HC.out.2.2)
      have hG3 : GC cs pre (⟨ra, rn, rc⟩, e) X1 W3 := hG.same (by omega) (fun row hc j hj => z5 j (cont_ne hc hlr j hj))
      obtain ⟨fn, tmps, assign, body, hy, hR⟩ := yield_wide (m := n - 1 - 1 - 1) (hY _ _ X1 W3 hG3 hJ3 hg3)
      dsimp only [enc] at hy
      have hR' : RoundIn (Fence.wide.inRound lab) (n - 1 - 1 - 1) Try.prog l fn tmps assign body W3 _ := hR
      have hz3 : W3.heap.size = Wa.heap.size := z1
      clear hG hlr b1 b2 hg hag3 hG3 hR hl hXl hlt
      gi_wp2
      refine ⟨(fun h => by cases h), ?_⟩
      refine hR'.mono ?_
      rintro e4 W4 ⟨X4, g4, (⟨rfl, j4⟩ | ⟨rfl, j4⟩)⟩
      · have g5 := hg3.trans g4.m hg3.size
        rw [hz3] at g4
        have HF := Aside0.mk (And.intro g4 (show LI M J X W (pre ++ [(⟨ra, rn, rc⟩, e)]) X4 W4 from ⟨j4, g5⟩))
        clear g4 g5 j4 hy
        gi_wp2
        exact ⟨X4, HF.out.1, HF.out.2⟩
      · have g5 := hg3.trans g4.m hg3.size
        rw [hz3] at g4
        have HF := Aside0.mk (And.intro g4 (show LX M Jx X W .ret (pre ++ [(⟨ra, rn, rc⟩, e)]) X4 W4 from ⟨rfl, j4, g5⟩))
        clear g4 g5 j4 hy
        gi_wp2
        exact ⟨X4, HF.out.1, HF.out.2⟩
    case done =>
      rintro ys Xd Wd hfin ⟨b1, b2⟩ hg hn hK
      have hD : W.heap.size ≤ w2.heap.size := by omega
      have j2 := hJ _ _ _ _ b1 (agm_put Wd (.deferred none) hn hD)
      have HD := Aside0.mk (And.intro hK (And.intro j2 (And.intro (b2.put (.deferred none) hD) hfin)))
      clear hfin b1 b2 hg hK j2
      gi_wp2
      refine ⟨by simp, .inl ⟨_, _, rfl, run_takeDeferred HD.out.1, ?_⟩⟩
      refine ⟨_, results_none rfl _ _ _, ⟨_, rfl⟩, Xd, HD.out.2.2.1, .inl ⟨ys, ?_, HD.out.2.1⟩⟩
      rw [HLc.out]
      exact HD.out.2.2.2
    case stop =>
      rintro c pre Xd Wd ⟨rfl, b1, b2⟩ hg hn hK
      have hD : W.heap.size ≤ w2.heap.size := by omega
      have j2 := hJx _ _ _ _ b1 (agm_put Wd (.deferred none) hn hD)
      have HD := Aside0.mk (And.intro hK (And.intro j2 (b2.put (.deferred none) hD)))
      clear b1 b2 hg hK j2
      gi_wp2
      refine ⟨by simp, .inl ⟨_, _, rfl, run_takeDeferred HD.out.1, ?_⟩⟩
      exact ⟨_, results_none rfl _ _ _, ⟨_, rfl⟩, Xd, HD.out.2.2, .inr ⟨pre, HD.out.2.1⟩⟩
  · gi_upto_region 2 with (refine ⟨trivial, ?_⟩; gi_at_call 60; refine hmk1.mono ?_; rintro e w2 ⟨hb2, ⟨hx, _⟩ | ⟨_, rfl⟩⟩; exact absurd hx he)
    have hlc : lc er cs = [(er, [])] := if_neg he
    have hW2 : BelM M W.heap.size W w2 := (BelM.of hbel).trans hb2 (by omega)
    have hag : AgM M X W.heap.size W w2 := ⟨hW2.os, hW2.tape, hW2.output, hW2.size, fun j hj => by
      rcases hj with h | h
      · exact hW2.block j (hX j h) (fun hm => (hM j hm).2 h)
      · exact hW2.block j h.1 h.2⟩
    have hgr : GrM M X X W.heap.size W w2 := ⟨hW2.os, hW2.tape, hW2.output, hW2.size, fun j hj _ hm => hW2.block j hj hm, fun j h => .inl h, fun j h => Nat.lt_of_lt_of_le (hX j h) hW2.size⟩
    have hMn : ∀ j, W.heap.size ≤ j → ¬ M j := fun j hj hm => by have := (hM j hm).1; omega
    have cY2 : Boxed w2 W.heap.size 72 (.func (.yield l) #[] #[]) := (hb2.block W.heap.size (by omega) (hMn _ (Nat.le_refl _))).trans cY
    have cY3 := cY2.cell
    have hne : (er != 0) = true := by simpa using he
    obtain ⟨fn, tmps, assign, body, hy, hR⟩ := yield_wide (m := n - 1) (hY [] (RV.nil, er) X w2 ⟨(er, []), by rw [hlc]; rfl, rfl, fun h0 => absurd h0 he⟩ (hJ _ _ _ _ h0 hag) hgr)
    have HC := Aside0.mk (And.intro hgr hlc)
    clear hag hgr hb2 hW2 hmk1 hmk hcb1 hcb hbel hW1 hsz cY2 cY hlc hY
    dsimp only [enc, RV.nil] at hy
    gi_wp2
    refine hR.mono ?_
    rintro e4 W4 ⟨X4, g4, h4⟩
    have hD : FinC (lc er cs) [(RV.nil, er)] := by rw [HC.out.2]; rfl
    have HF := Aside0.mk (show ∃ X', GrM M X X' W.heap.size W W4 ∧ ((∃ ys, FinC (lc er cs) ys ∧ J ys X' W4) ∨ ∃ pre, Jx pre X' W4) from
      ⟨X4, HC.out.1.trans g4.m HC.out.1.size, h4.imp (fun h => ⟨_, hD, h.2⟩) (fun h => ⟨_, h.2⟩)⟩)
    obtain ⟨bv, rfl⟩ : ∃ bv, e4 = .returned (.bool bv) := by rcases h4 with ⟨h, _⟩ | ⟨h, _⟩; exact ⟨_, h⟩; exact ⟨_, h⟩
    clear h4 g4 hD hy hR
    gi_wp2
    exact ⟨_, results_none rfl _ _ _, ⟨_, rfl⟩, HF.out⟩
/-- LATER's iterator -/
theorem later_m (B : Nat) (lbm : Array Value) (er : Int) (cs : List Cd) (M R : Nat → Prop) (w : World) (hB : R B) (hRl : ∀ j, R j → j < w.heap.size) (hMl : ∀ j, M j → j < w.heap.size) (hRM : ∀ j, M j → ¬ R j)
    (hcb : w.cell? ⟨B, 0, none⟩ = some (.func (.func 60) #[] lbm))
    (hmk : ∀ (X : Nat → Prop) (W1 : World), w.heap.size ≤ W1.heap.size → (∀ j, R j ∨ M j → W1.heap[j]? = w.heap[j]?) → (∀ j, R j ∨ M j → ¬ X j) → (∀ j, X j → j < W1.heap.size) → Calls Try.prog 60 lbm W1 (Made M er cs X W1)) :
    ItM M R (.func (.func 79) #[] #[.pointer (some ⟨B, 0, none⟩)]) (lc er cs) w := by
  refine ⟨⟨79, _, rfl, enters_of Try.func79 (by kernel_rfl) rfl, ?_⟩, hRl, hMl⟩
  intro n l J Jx X W hs hR hM hX hJ hJx hY h0
  have hcb1 := (cell_of_block (hR B hB).2.2 0).trans hcb
  refine callsIn_wide.2 (callsIn_wide.1 (later1_in 6 (Nat.le_refl _) l B lbm er cs M J Jx X W hX (fun j hj => ⟨Nat.lt_of_lt_of_le (hM j hj).1 hs, (hM j hj).2.1⟩) hJ hJx (Nat.lt_of_lt_of_le (hRl B hB) hs) hcb1 ?_ (fun pre x X1 W1 p q r => yield_wide (hY pre x X1 W1 p q r)) h0))
  intro W1 hb
  refine hmk X W1 (Nat.le_trans hs hb.size) ?_ ?_ (fun j hj => Nat.lt_of_lt_of_le (hX j hj) hb.size)
  · rintro j (hj | hj)
    · exact (hb.block j (Nat.lt_of_lt_of_le (hRl j hj) hs)).trans (hR j hj).2.2
    · exact (hb.block j (Nat.lt_of_lt_of_le (hMl j hj) hs)).trans (hM j hj).2.2
  · rintro j (hj | hj)
    · exact (hR j hj).2.1
    · exact (hM j hj).2.1
end Go.Proofs.Ytghpjlohoehdnaa.Sep

/-! sort.Sorted: rows are put into a Sorter, then given in order. No condition beyond those that each theorem names. -/
namespace Go.Proofs.Ytghpjlohoehdnaa.Sep
open Go Go.RowKit Go.Shelf
attribute [local go_sem] Oper.semAt_some
set_option linter.unusedVariables false
set_option linter.unusedSimpArgs false
/-- the first error; 0: there is none -/
def erOf : List Cd → Int
  | [] => 0
  | c :: l => if c.1 = 0 then erOf l else c.1
theorem erOf_zero : ∀ l : List Cd, (∀ c ∈ l, c.1 = 0) → erOf l = 0
  | [], _ => rfl
  | c :: l, h => by rw [erOf, if_pos (h c (List.mem_cons_self ..)), erOf_zero l fun d hd => h d (List.mem_cons_of_mem _ hd)]
theorem erOf_at : ∀ (l : List Cd) (k : Nat) (c : Cd), l[k]? = some c → (∀ i d, i < k → l[i]? = some d → d.1 = 0) → c.1 ≠ 0 → erOf l = c.1
  | [], k, c, h, _, _ => by cases h
  | d :: l, 0, c, h, _, hc => by cases h; rw [erOf, if_neg hc]
  | d :: l, k + 1, c, h, hz, hc => by
    rw [erOf, if_pos (hz 0 d (Nat.succ_pos _) rfl)]
    exact erOf_at l k c h (fun i e hi he => hz (i + 1) e (by omega) he) hc
/-- rows in order, without an error -/
def sc (by_ : Order) (rows : List (List V3)) : List Cd := (stab (fun a b => cmpR a b by_) rows).map fun r => ((0 : Int), r)
theorem sc_of {by_ : Order} {rows : List (List V3)} {prs : List Pr} (h : prs.map Prod.snd = stab (fun a b => cmpR a b by_) rows) (hz : ∀ p ∈ prs, p.1.2 = 0) : prs.map cdOf = sc by_ rows := by
  unfold sc
  rw [← h, List.map_map]
  refine List.map_congr_left fun p hp => ?_
  show (p.1.2, p.2) = ((0 : Int), p.2)
  rw [hz p hp]
theorem SR.ag {W W' : World} {S : Nat} {by_ : Order} {hand : Nat} {ins : List (List (List V3))} {now : List (List V3)} {k : Nat} {done : Bool} {X : Nat → Prop} (h : SR W S by_ hand ins now k done X) (hs : W.heap.size ≤ W'.heap.size) (hb : ∀ j, X j → W'.heap[j]? = W.heap[j]?) : SR W' S by_ hand ins now k done X := by
  obtain ⟨nowI, runsI, D, so, nv, rv, us, h1, h2⟩ := h
  exact ⟨nowI, runsI, D, so, nv, rv, us, h1.frame hs (fun j hj _ => hb j hj) ((hb S h1.xS).trans h1.cells) (fun _ h => h) (fun j hj => Nat.lt_of_lt_of_le (h1.xlt j hj) hs), h2⟩
/-- how far Sorted has come -/
structure SI (N S B P : Nat) (by_ : Order) (cs : List Cd) (pre : List (RV × Int)) (X : Nat → Prop) (W : World) : Prop where
  sr : ∃ Xs, SR W S by_ 64 [] ((cs.map Prod.snd).take pre.length) pre.length false Xs ∧ (∀ j, Xs j → X j) ∧ ¬ Xs B ∧ ¬ Xs (B + 1) ∧ ¬ Xs P
  po : PreOk cs pre
  zero : ∀ y ∈ pre, y.2 = 0
  b0 : Boxed W B 31 .nilFunc
  b1 : Boxed W (B + 1) 25 (.int .i64 0)
  bp : Boxed W P 37 (.pointer (some ⟨S, 0, none⟩))
  x0 : X B
  x1 : X (B + 1)
  xp : X P
  lo : ∀ j, X j → N ≤ j
  hi : ∀ j, X j → j < W.heap.size
theorem SI.stable {M : Nat → Prop} {N S B P n₀ : Nat} {by_ : Order} {cs : List Cd} : StableM M n₀ (SI N S B P by_ cs) := by
  intro pre X W W' h ha
  have hb : ∀ j, X j → W'.heap[j]? = W.heap[j]? := fun j hj => ha.block j (.inl hj)
  obtain ⟨Xs, h1, h2, h3⟩ := h.sr
  exact ⟨⟨Xs, h1.ag ha.size (fun j hj => hb j (h2 j hj)), h2, h3⟩, h.po, h.zero, boxed_same (hb _ h.x0) h.b0, boxed_same (hb _ h.x1) h.b1, boxed_same (hb _ h.xp) h.bp, h.x0, h.x1, h.xp, h.lo, fun j hj => Nat.lt_of_lt_of_le (h.hi j hj) ha.size⟩
theorem SI.step {N S B P K : Nat} {by_ : Order} {cs : List Cd} {pre : List (RV × Int)} {x : RV × Int} {X Xs X4 : Nat → Prop} {W W4 : World} (h : SI N S B P by_ cs pre X W) (hK : W.heap.size = K) (hN : N ≤ K) (hpo : PreOk cs (pre ++ [x])) (hx : x.2 = 0)
    (q1 : ∀ j, Xs j → X j) (q2 : ¬ Xs B) (q3 : ¬ Xs (B + 1)) (q4 : ¬ Xs P) (hg : Gr Xs X4 W.heap.size W W4) (hs : SR W4 S by_ 64 [] ((cs.map Prod.snd).take (pre.length + 1)) (pre.length + 1) false X4) :
    Gr X (fun j => X j ∨ (K ≤ j ∧ j < W4.heap.size)) K W W4 ∧ SI N S B P by_ cs (pre ++ [x]) (fun j => X j ∨ (K ≤ j ∧ j < W4.heap.size)) W4 := by
  subst hK
  have hB := h.hi B h.x0
  have hB1 := h.hi (B + 1) h.x1
  have hP := h.hi P h.xp
  have n4 : ∀ D, D < W.heap.size → ¬ Xs D → ¬ X4 D := fun D hD hn h4 => by
    rcases hg.sub D h4 with h5 | h5
    · exact hn h5
    · omega
  refine ⟨⟨hg.os, hg.tape, hg.output, hg.size, fun j hj hx => hg.block j hj (fun h => hx (q1 j h)), fun j hj => hj.imp id And.left, fun j hj => ?_⟩,
    ⟨⟨X4, by rw [List.length_append]; exact hs, fun j hj => ?_, n4 B hB q2, n4 (B + 1) hB1 q3, n4 P hP q4⟩, hpo, ?_, boxed_same (hg.block B hB q2) h.b0, boxed_same (hg.block (B + 1) hB1 q3) h.b1, boxed_same (hg.block P hP q4) h.bp, .inl h.x0, .inl h.x1, .inl h.xp, ?_, ?_⟩⟩
  · rcases hj with h1 | h1
    · exact Nat.lt_of_lt_of_le (h.hi j h1) hg.size
    · exact h1.2
  · rcases hg.sub j hj with h5 | h5
    · exact .inl (q1 j h5)
    · exact .inr ⟨h5, hg.lt j hj⟩
  · intro y hy
    rcases List.mem_append.1 hy with h1 | h1
    · exact h.zero y h1
    · rw [List.mem_singleton.1 h1]; exact hx
  · rintro j (h1 | h1)
    · exact h.lo j h1
    · omega
  · rintro j (h1 | h1)
    · exact Nat.lt_of_lt_of_le (h.hi j h1) hg.size
    · exact h1.2
/-- Sorted has come upon an error -/
def SX (N B : Nat) (cs : List Cd) (c : Code) (pre : List (RV × Int)) (X : Nat → Prop) (W : World) : Prop := c = .ret ∧ ∃ p y, pre = p ++ [y] ∧ PreOk cs (p ++ [y]) ∧ (∀ z ∈ p, z.2 = 0) ∧ y.2 ≠ 0 ∧ Boxed W B 31 .nilFunc ∧ Boxed W (B + 1) 25 (.int .i64 y.2) ∧ X B ∧ X (B + 1) ∧ ∀ j, X j → N ≤ j
theorem SX.stable {M : Nat → Prop} {N B n₀ : Nat} {cs : List Cd} {c : Code} : StableM M n₀ (SX N B cs c) := by
  rintro pre X W W' ⟨rfl, p, y, e1, ep, e2, e3, e4, e5, e6, e7, e8⟩ ha
  exact ⟨rfl, p, y, e1, ep, e2, e3, boxed_same (ha.block _ (.inl e6)) e4, boxed_same (ha.block _ (.inl e7)) e5, e6, e7, e8⟩
theorem putP_64 {α : Type} {now : List α} {r : α} (h : now.length + 1 < 64) : putP 64 [] now r = ([], now ++ [r]) := if_neg (by omega)
theorem res60 (N : Nat) (W : World) (v : Value) (e : Int) (tmps : Array Value) (h2 : tmps.getD 2 undef = .pointer (some ⟨N, 0, none⟩)) (h3 : tmps.getD 3 undef = .pointer (some ⟨N + 1, 0, none⟩))
    (b0 : Boxed W N 31 v) (b1 : Boxed W (N + 1) 25 (.int .i64 e)) : (results Try.f60 tmps).run Try.prog W = .ok (.tuple #[v, .int .i64 e]) W := by
  have hr : Try.f60.results = #[.cell 2 31, .cell 3 25] := rfl
  have c0 := b0.cell
  have c1 := b1.cell
  have f0 := b0.frozen
  have f1 := b1.frozen
  simp only [results, hr]
  rw [Array.getD_eq_getD_getElem?] at h2 h3
  simp [Sem.run_bind, Result.andThen, h2, h3]
  go_simp
theorem ret60 {n D : Nat} {Φ : Ending → World → Prop} {tmps : Array Value} {W : World} {v : Value} {N : Nat} {e : Int} (hK : W.heap[D]? = some (.deferred (some []))) (h2 : tmps.getD 2 undef = .pointer (some ⟨N, 0, none⟩)) (h3 : tmps.getD 3 undef = .pointer (some ⟨N + 1, 0, none⟩))
    (b0 : Boxed W N 31 v) (b1 : Boxed W (N + 1) 25 (.int .i64 e)) (h : Φ (.returned (.tuple #[v, .int .i64 e])) (W.putObj D (.deferred none))) :
    bodyPostM Fence.wide n Try.prog Try.f60 Φ .ret { tmps := tmps, defers := [{ target := .collected D, args := #[] }] } W := by
  have n0 : N ≠ D := by rintro rfl; rw [show W.heap[N]? = _ from b0] at hK; cases hK
  have n1 : N + 1 ≠ D := by rintro rfl; rw [show W.heap[N + 1]? = _ from b1] at hK; cases hK
  refine ⟨by simp, .inl ⟨_, _, rfl, run_takeDeferred hK, ?_⟩⟩
  exact ⟨_, res60 N _ v e tmps h2 h3 (boxed_same (World.putObj_heap_other n0) b0) (boxed_same (World.putObj_heap_other n1) b1), h⟩
set_option maxRecDepth 100000 in
set_option maxHeartbeats 4000000 in
theorem sorted1_ok (Bo Br : Nat) (so v : Value) (by_ : Order) (cs : List Cd) (M R X0 : Nat → Prop) (w : World) (hit : ItM M R v cs w) (hco : w.cell? ⟨Bo, 0, none⟩ = some so) (hcr : w.cell? ⟨Br, 0, none⟩ = some v)
    (ho : Ord w so by_) (hby : by_.length ≤ 1000) (hlen : cs.length ≤ 60) (hM : ∀ j, M j → j ≠ Bo ∧ j ≠ Br) (hst : (∀ c ∈ cs, c.1 = 0) → cs ≠ [] → StabOK cs.length by_) (hX : ∀ j, X0 j → j < w.heap.size) :
    Calls Try.prog 60 #[.pointer (some ⟨Bo, 0, none⟩), .pointer (some ⟨Br, 0, none⟩)] w (Made M (erOf cs) (sc by_ (cs.map Prod.snd)) X0 w) := by
  have hro : Fence.wide.round = none := rfl
  have hmx : Try.prog.follows .mixedOrders = true := by kernel_rfl
  obtain ⟨g, lb, rfl, eg, hq⟩ := hit.ex
  have hfn : ∀ (w : World) (g : FuncId) (lb : Array Value), (binOp .eql 31 (.func (.func g) #[] lb) .nilFunc).run Try.prog w = .ok (.bool false) w := fun _ _ _ => rfl
  refine (callsIn_wide (n := 9)).1 ?_
  refine callsIn_of_wp_marks Try.func60 rfl trivial ?_ hro
  simp only [Try.ntmps60, List.size_toArray, List.length_cons, List.length_nil, Nat.reduceAdd, Nat.reduceSub, Array.replicate_succ, Array.replicate_zero, List.push_toArray, List.append_toArray, List.nil_append, List.cons_append]
  have hb2 : Below w.heap.size w ((w.alloc (.cells #[.nilFunc] 31)).alloc (.cells #[.int .i64 0] 25)) := ((Below.refl _ w).alloc (Nat.le_refl _) _).alloc (by simp) _
  have hsz2 : ((w.alloc (.cells #[.nilFunc] 31)).alloc (.cells #[.int .i64 0] 25)).heap.size = w.heap.size + 2 := by simp
  have bA := (Boxed.new w 31 .nilFunc).alloc (.cells #[.int .i64 0] 25)
  have bB := Boxed.new (w.alloc (.cells #[.nilFunc] 31)) 25 (.int .i64 0)
  rw [World.size_alloc] at bB
  have hNew := new_sr so by_ 64 _ (ho.below hb2) hby (by decide) (by decide)
  have hco2 := (cell_of_block (hb2.block Bo (cell_lt hco)) 0).trans hco
  have hcr2 := (cell_of_block (hb2.block Br (cell_lt hcr)) 0).trans hcr
  have hCN := (callsIn_wide (n := 8)).2 hNew
  have HB2 := Aside0.mk hb2
  have HbA := Aside0.mk (And.intro bA bB)
  clear hb2 bA bB
  gi_upto_region 1 with fail
  generalize (w.alloc (.cells #[.nilFunc] 31)).alloc (.cells #[.int .i64 0] 25) = w2 at HB2 HbA hsz2 hco2 hcr2 hNew hCN ⊢
  gi_upto_region 2 with (refine ⟨trivial, ?_⟩; gi_at_call 21; refine hCN.mono ?_; rintro e w3 ⟨S, rfl, hS, hsr, hb3⟩)
  have hbw3 : Below w.heap.size w w3 := below_step HB2.out hb3 HB2.out.size
  have hb4 : Below w3.heap.size w3 (w3.alloc (.cells #[.pointer (some ⟨S, 0, none⟩)] 37)) := (Below.refl _ w3).alloc (Nat.le_refl _) _
  have hsz4 : (w3.alloc (.cells #[.pointer (some ⟨S, 0, none⟩)] 37)).heap.size = w3.heap.size + 1 := by simp
  have hs3 := hb3.size
  have hbw4 : Below w.heap.size w (w3.alloc (.cells #[.pointer (some ⟨S, 0, none⟩)] 37)) := below_step hbw3 hb4 hbw3.size
  have hcr4 := (cell_of_block (hbw4.block Br (cell_lt hcr)) 0).trans hcr
  have hSI : SI w.heap.size S w.heap.size w3.heap.size by_ cs [] (fun j => w.heap.size ≤ j ∧ j < (w3.alloc (.cells #[.pointer (some ⟨S, 0, none⟩)] 37)).heap.size) (w3.alloc (.cells #[.pointer (some ⟨S, 0, none⟩)] 37)) := by
    refine ⟨⟨_, hsr.below hb4, fun j hj => ⟨by omega, by rw [hsz4]; omega⟩, by omega, by omega, by omega⟩, (fun i y h => by simp at h), (fun y h => by cases h), ?_, ?_, Boxed.new w3 37 _, ⟨by omega, by omega⟩, ⟨by omega, by omega⟩, ⟨by omega, by omega⟩, fun j hj => hj.1, fun j hj => hj.2⟩
    · exact (hb4.block _ (by omega)).trans ((hb3.block _ (by omega)).trans HbA.out.1)
    · exact (hb4.block _ (by omega)).trans ((hb3.block _ (by omega)).trans HbA.out.2)
  have HSI := Aside0.mk hSI
  have HW4 := Aside0.mk hbw4
  have hP : w.heap.size + 2 ≤ w3.heap.size := by omega
  clear hSI hb4 hsr hbw3 hb3 hCN hNew hco2 hcr2 HbA hco HB2 hS
  generalize hP0 : w3.heap.size = P at HSI hP hsz4
  generalize w3.alloc (.cells #[.pointer (some ⟨S, 0, none⟩)] 37) = w4 at HSI HW4 hsz4 hcr4 hbw4 ⊢
  have HZ4 := Aside0.mk hsz4
  clear hbw4 hsz4
  gi_wp2
  refine wpIn_rangeFunc_m (n := 9) (encs := enc) hro (by decide) (gf := g) (lb := lb) rfl trivial eg (hq 8) GC.anti (fun _ => rfl) (fun j => w.heap.size ≤ j ∧ j < w4.heap.size) HW4.out.size
    (fun j hj => ⟨hit.lt j hj, fun h => by have := hit.lt j hj; omega, HW4.out.block j (hit.lt j hj)⟩) (fun j hj => ⟨hit.ml j hj, fun h => by have := hit.ml j hj; omega, HW4.out.block j (hit.ml j hj)⟩) (fun j hj => hj.2)
    (SI w.heap.size S w.heap.size P by_ cs) (SX w.heap.size w.heap.size cs) SI.stable (fun c => SX.stable) HSI.out ?round ?done ?stop
  case round =>
    rintro lab pre ⟨⟨ra, rn, rc⟩, e⟩ X1 Wa hl ⟨cd, hcd, hce, hcc⟩ hI hg hXl hlt ⟨lr, hlr⟩
    have HG := Aside0.mk (And.intro hcd (And.intro hce (And.intro hcc (And.intro hlr (And.intro hI hg)))))
    have HL := Aside0.mk (And.intro hl (And.intro hXl hlt))
    clear hcd hce hcc hlr hI hg hl hXl hlt
    gi_wp2
    try refine ⟨fun _ _ _ => trivial, Nat.le_refl _, trivial, trivial, trivial, ?_⟩
    intro W3 z1 z2 z3 z4 z5
    obtain ⟨hcd, hce, hcc, hlr, hI, hg⟩ := HG.out
    obtain ⟨hl, hXl, hlt⟩ := HL.out
    have hag3 : AgM M X1 0 Wa W3 := ⟨z2, z3, z4, by omega, fun j hj => z5 j (by rintro rfl; rcases hj with h | h; exact hXl h; omega)⟩
    have hI3 := SI.stable _ _ _ _ hI hag3
    have hPO2 : PreOk cs (pre ++ [((⟨ra, rn, rc⟩ : RV), e)]) := hI3.po.snoc ⟨cd, hcd, hce⟩
    have hpl : pre.length < cs.length := (List.getElem?_eq_some_iff.1 hcd).1
    have hcP := hI3.bp.cell
    by_cases he : e = 0
    · subst he
      obtain ⟨k1, k2, k3⟩ := hcc hce.symm
      try dsimp only at k1 k2 k3
      have hC3 : Cont W3 ⟨ra, rn, rc⟩ cd.2 := k1.same (by omega) (fun j hj => z5 j (cont_ne k1 hlr j hj))
      obtain ⟨Xs, hsr, q1, q2, q3, q4⟩ := hI3.sr
      have hpt : ((cs.map Prod.snd).take pre.length).length = pre.length := by rw [List.length_take, List.length_map]; omega
      have hPut := put_ok S by_ 64 [] ((cs.map Prod.snd).take pre.length) pre.length Xs W3 hsr (by omega) (fun h => by omega) ra rn rc cd.2 hC3 k2 (fun j hj => by
        rintro rfl
        obtain ⟨nowI, runsI, D, so', nv, rv, us, h1, _⟩ := hsr
        exact k3 _ hj (q1 _ h1.xS))
      rw [putP_64 (by omega)] at hPut
      have htk : (cs.map Prod.snd).take pre.length ++ [cd.2] = (cs.map Prod.snd).take (pre.length + 1) := by
        rw [List.take_add_one, List.getElem?_map, hcd]; rfl
      rw [htk] at hPut
      have hPutI := CallsIn.inRound lab ((callsIn_wide (n := 9 - 1 - 1 - 1)).2 hPut)
      have HI3 := Aside0.mk (And.intro hI3 (And.intro hPO2 (And.intro q1 (And.intro q2 (And.intro q3 q4)))))
      have HZ := Aside0.mk (And.intro z1 (And.intro hl (And.intro hlt hg)))
      clear hcd hce hcc hlr hI hg hag3 hI3 hPO2 k1 k2 k3 hC3 hsr q1 q2 q3 q4 hPut htk hl hXl hlt z1 z2 z3 z4 z5 hpt
      gi_wp2
      refine ⟨trivial, hPutI.mono ?_⟩
      rintro e4 W4 ⟨rfl, X4, hg4, hs4⟩
      have HF := Aside0.mk (SI.step HI3.out.1 HZ.out.1 (by have := HW4.out.size; have := HZ.out.2.2.2.size; omega) HI3.out.2.1 rfl HI3.out.2.2.1 HI3.out.2.2.2.1 HI3.out.2.2.2.2.1 HI3.out.2.2.2.2.2 hg4 hs4)
      clear hg4 hs4 hPutI
      gi_wp2
      exact ⟨_, HF.out.1, HF.out.2⟩
    · have hne : (e == 0) = false := by simpa using he
      have hne2 : (e != 0) = true := by simpa using he
      have hc0 := hI3.b0.cell
      have hf0 := hI3.b0.frozen
      have hc1 := hI3.b1.cell
      have hf1 := hI3.b1.frozen
      have HI3 := Aside0.mk (And.intro hI3 hPO2)
      have HZ := Aside0.mk (And.intro z1 (And.intro hl (And.intro hlt hg)))
      clear hcd hce hcc hlr hI hg hag3 hI3 hPO2 hl hXl hlt z1 z2 z3 z4 z5
      gi_wp2
      obtain ⟨hI3, hPO2⟩ := HI3.out
      have g1 := gr_set hI3.hi (a := ⟨w.heap.size, 0, none⟩) .nilFunc hI3.x0
      have g2 := gr_set (W := W3.setCell ⟨w.heap.size, 0, none⟩ .nilFunc) (fun j hj => by rw [size_setCell]; exact hI3.hi j hj) (a := ⟨w.heap.size + 1, 0, none⟩) (.int .i64 e) hI3.x1
      have g3 := g1.trans g2 (by rw [size_setCell]; exact Nat.le_refl _)
      rw [HZ.out.1] at g3
      refine ⟨X1, g3, rfl, pre, (⟨ra, rn, rc⟩, e), rfl, hPO2, hI3.zero, he, ?_, ?_, hI3.x0, hI3.x1, hI3.lo⟩
      · exact (Below.heap_setCell _ ⟨w.heap.size + 1, 0, none⟩ _ w.heap.size (by show w.heap.size ≠ w.heap.size + 1; omega)).trans (hI3.b0.set _)
      · exact Boxed.set _ ((Below.heap_setCell W3 ⟨w.heap.size, 0, none⟩ .nilFunc (w.heap.size + 1) (Nat.succ_ne_self _)).trans hI3.b1)
  case done =>
    rintro ys Xd Wd hfin hI hg hn hK
    have hfl : ys.length = cs.length := hfin
    obtain ⟨Xs, hsr, q1, q2, q3, q4⟩ := hI.sr
    have hcP := hI.bp.cell
    have hz : ∀ c ∈ cs, c.1 = 0 := hI.po.zero hfl hI.zero
    have htk : (cs.map Prod.snd).take ys.length = cs.map Prod.snd := List.take_of_length_le (by rw [List.length_map, hfl]; exact Nat.le_refl _)
    rw [htk] at hsr
    have hRows := (callsIn_wide (n := 8)).2 (rows_ok2 S by_ 64 [] (cs.map Prod.snd) ys.length false Xs Wd hsr (fun hne => by rw [List.length_map]; exact hst hz (fun h => hne (by rw [h]; rfl))))
    have HD := Aside0.mk (And.intro hI (And.intro hg (And.intro hn (And.intro hK (And.intro q1 (And.intro q2 (And.intro q3 (And.intro q4 hz))))))))
    have hc0 := hI.b0.cell
    have hf0 := hI.b0.frozen
    have hc1 := hI.b1.cell
    have hf1 := hI.b1.frozen
    clear hfin hI hg hn hK q1 q2 q3 q4 hsr htk
    gi_wp2_with (refine ⟨trivial, ?_⟩; gi_at_call 24; refine hRows.mono ?_; rintro e w5 ⟨gf, lbf, prs, R5, rfl, hg5, hs5, hit5, hp5, hz5, hR5⟩; have hb50 := boxed_same (hg5.block w.heap.size (HD.out.1.hi _ HD.out.1.x0) HD.out.2.2.2.2.2.1) HD.out.1.b0; have hb51 := boxed_same (hg5.block (w.heap.size + 1) (HD.out.1.hi _ HD.out.1.x1) HD.out.2.2.2.2.2.2.1) HD.out.1.b1; have hc50 := hb50.cell; have hf50 := hb50.frozen; have hc51 := hb51.cell; have hf51 := hb51.frozen; have H5 := Aside0.mk (And.intro hg5 (And.intro hit5 (And.intro hp5 (And.intro hz5 (And.intro hR5 (And.intro hb50 hb51)))))); clear hg5 hs5 hit5 hp5 hz5 hR5 hb50 hb51)
    obtain ⟨hI, hg, hn, hK, q1, q2, q3, q4, hz⟩ := HD.out
    obtain ⟨hg5, hit5, hp5, hz5, hR5, hb50, hb51⟩ := H5.out
    have hd := hg.size
    have h5s := hg5.size
    have hBl := hI.hi _ hI.x0
    have hB1l := hI.hi _ hI.x1
    have hDl : w4.heap.size < Wd.heap.size := (Array.getElem?_eq_some_iff.1 hK).1
    have hDs : ¬ Xs w4.heap.size := fun h => hn (q1 _ h)
    have s6 : ∀ j, j ≠ w.heap.size → j ≠ w.heap.size + 1 → j ≠ w4.heap.size → (((w5.setCell ⟨w.heap.size, 0, none⟩ (.func (.func gf) #[] lbf)).setCell ⟨w.heap.size + 1, 0, none⟩ (.int .i64 0)).putObj w4.heap.size (.deferred none)).heap[j]? = w5.heap[j]? := fun j h1 h2 h3 =>
      (World.putObj_heap_other h3).trans ((Below.heap_setCell _ _ _ j h2).trans (Below.heap_setCell _ _ _ j h1))
    have sz6 : (((w5.setCell ⟨w.heap.size, 0, none⟩ (.func (.func gf) #[] lbf)).setCell ⟨w.heap.size + 1, 0, none⟩ (.int .i64 0)).putObj w4.heap.size (.deferred none)).heap.size = w5.heap.size := by rw [World.putObj_size, size_setCell, size_setCell]
    have hw4 := HW4.out.size
    have hz4 := HZ4.out
    refine ret60 (N := w.heap.size) (e := 0) (v := .func (.func gf) #[] lbf) ?_ rfl rfl ?_ ?_ ⟨⟨hg5.os.trans (hg.os.trans HW4.out.os), hg5.tape.trans (hg.tape.trans HW4.out.tape), hg5.output.trans (hg.output.trans HW4.out.output), by rw [sz6]; omega, ?_⟩, .inl ⟨erOf_zero cs hz, _, R5, rfl, ?_, ?_⟩⟩
    · exact (Below.heap_setCell _ _ _ _ (by show w4.heap.size ≠ w.heap.size + 1; omega)).trans ((Below.heap_setCell _ _ _ _ (by show w4.heap.size ≠ w.heap.size; omega)).trans ((hg5.block _ hDl hDs).trans hK))
    · exact (Below.heap_setCell _ ⟨w.heap.size + 1, 0, none⟩ _ w.heap.size (by show w.heap.size ≠ w.heap.size + 1; omega)).trans (hb50.set _)
    · exact Boxed.set _ ((Below.heap_setCell w5 ⟨w.heap.size, 0, none⟩ (.func (.func gf) #[] lbf) (w.heap.size + 1) (Nat.succ_ne_self _)).trans hb51)
    · intro j hj hm
      have hx : ¬ Xd j := fun h => by have := hI.lo j h; omega
      rw [s6 j (by omega) (by omega) (by omega), hg5.block j (by omega) (fun h => hx (q1 j h)), hg.block j (by omega) (fun h => by omega) hm, HW4.out.block j hj]
    · have hm := hit5.m
      rw [sc_of hp5 hz5] at hm
      refine hm.later (by rw [sz6]; exact Nat.le_refl _) (fun j hj => s6 j ?_ ?_ ?_) (fun j hj => hj.elim)
      · rintro rfl
        rcases hR5 _ hj with h | h
        · exact q2 h
        · omega
      · rintro rfl
        rcases hR5 _ hj with h | h
        · exact q3 h
        · omega
      · rintro rfl
        rcases hR5 _ hj with h | h
        · exact hDs h
        · omega
    · intro j hj hx
      have := hX j hx
      rcases hR5 j hj with h | h
      · have := hI.lo j (q1 j h); omega
      · omega
  case stop =>
    rintro c pre Xd Wd ⟨rfl, p, y, rfl, ep, e2, e3, e4, e5, e6, e7, e8⟩ hg hn hK
    obtain ⟨cd, k1, k2, k3⟩ := ep.last e2
    have hd := hg.size
    have hw4 := HW4.out.size
    have her : erOf cs = y.2 := by rw [k2]; exact erOf_at cs _ cd k1 k3 (by rw [← k2]; exact e3)
    have HD := Aside0.mk (And.intro hg (And.intro hK (And.intro e4 (And.intro e5 (And.intro e8 (And.intro her e3))))))
    clear hg hn hK e4 e5 e8 her ep e2 e3 k1 k2 k3
    gi_wp2
    obtain ⟨hg, hK, e4, e5, e8, her, e3⟩ := HD.out
    refine ret60 (N := w.heap.size) (e := y.2) (v := .nilFunc) hK rfl rfl e4 e5 ⟨⟨hg.os.trans HW4.out.os, hg.tape.trans HW4.out.tape, hg.output.trans HW4.out.output, by rw [World.putObj_size]; omega, ?_⟩, .inr ⟨by rw [her]; exact e3, by rw [her]⟩⟩
    intro j hj hm
    rw [World.putObj_heap_other (by omega), hg.block j (by omega) (fun h => by omega) hm, HW4.out.block j hj]
end Go.Proofs.Ytghpjlohoehdnaa.Sep

/-! scan.Metered with a meter: an iterator that counts. No condition beyond those that each theorem names. -/
namespace Go.Proofs.Ytghpjlohoehdnaa.Sep
open Go Go.RowKit Go.Shelf
attribute [local go_sem] Oper.semAt_some
set_option linter.unusedVariables false
set_option linter.unusedSimpArgs false
/-- what a meter that has k left lets by -/
def metC (k : Nat) (rows : List (List V3)) : List Cd := (rows.take k).map (fun r => ((0 : Int), r)) ++ if k < rows.length then [(310, [])] else []
theorem metC_lt {k i : Nat} {rows : List (List V3)} {r : List V3} (h : rows[i]? = some r) (hi : i < k) : (metC k rows)[i]? = some (0, r) := by
  have hl := (List.getElem?_eq_some_iff.1 h).1
  unfold metC
  rw [List.getElem?_append_left (by rw [List.length_map, List.length_take]; omega), List.getElem?_map, List.getElem?_take_of_lt hi, h]
  rfl
theorem metC_at {k : Nat} {rows : List (List V3)} (h : k < rows.length) : (metC k rows)[k]? = some (310, []) := by
  have hl : ((rows.take k).map (fun r => ((0 : Int), r))).length = k := by rw [List.length_map, List.length_take]; omega
  unfold metC
  rw [List.getElem?_append_right (by omega), hl, Nat.sub_self, if_pos h]
  rfl
theorem metC_len {k : Nat} {rows : List (List V3)} : (metC k rows).length = min (k + 1) rows.length := by
  unfold metC
  rw [List.length_append, List.length_map, List.length_take]
  split
  · simp; omega
  · simp; omega
set_option maxHeartbeats 1000000 in
theorem left_some (Mb : Nat) (k : Nat) (w : World) (h : w.cell? ⟨Mb, 0, none⟩ = some (.int .i64 k)) : Calls Try.prog 67 #[.pointer (some ⟨Mb, 0, none⟩)] w fun e w' => e = .returned (.int .i64 k) ∧ w' = w := by
  go_enter Try.func67, Try.ntmps67
  go_wp2
  go_ret
  exact ⟨rfl, rfl⟩
set_option maxHeartbeats 1000000 in
theorem passes_zero (Mb : Nat) (w : World) (h : w.cell? ⟨Mb, 0, none⟩ = some (.int .i64 0)) : Calls Try.prog 40 #[.pointer (some ⟨Mb, 0, none⟩)] w fun e w' => e = .returned (.bool false) ∧ w' = w := by
  have H := Aside0.mk (left_some Mb 0 w h)
  go_enter Try.func40, Try.ntmps40
  go_wp2_with (go_at_call 67; refine H.out.mono ?_; rintro e w' ⟨rfl, rfl⟩)
  go_ret
  exact ⟨rfl, rfl⟩
set_option maxHeartbeats 1000000 in
theorem passes_succ (Mb : Nat) (k : Nat) (w : World) (h : w.cell? ⟨Mb, 0, none⟩ = some (.int .i64 ((k + 1 : Nat) : Int))) (hf : w.frozen? ⟨Mb, 0, none⟩ = false) (hk : k < 100000) :
    Calls Try.prog 40 #[.pointer (some ⟨Mb, 0, none⟩)] w fun e w' => e = .returned (.bool true) ∧ w' = w.setCell ⟨Mb, 0, none⟩ (.int .i64 k) := by
  have H := Aside0.mk (left_some Mb (k + 1) w h)
  have hd : (((k + 1 : Nat) : Int) == 0) = false := beq_eq_false_iff_ne.2 (by omega)
  have hd2 : ((k : Int) + 1 == 0) = false := beq_eq_false_iff_ne.2 (by omega)
  have hw : IntKind.i64.wrap (((k + 1 : Nat) : Int) - 1) = (k : Int) := by rw [IntKind.wrap_i64]; omega
  have hw2 : IntKind.i64.wrap ((k : Int) + 1 - 1) = (k : Int) := by rw [IntKind.wrap_i64]; omega
  go_enter Try.func40, Try.ntmps40
  go_wp2_with (go_at_call 67; refine H.out.mono ?_; rintro e w' ⟨rfl, hw'⟩; cases hw')
  go_ret
  exact ⟨rfl, rfl⟩
set_option maxHeartbeats 1000000 in
theorem what_zero (a : Option Addr) (k c Bm Mb : Nat) (w : World) (hm : w.cell? ⟨Bm, 0, none⟩ = some (.pointer (some ⟨Mb, 0, none⟩))) (h : w.cell? ⟨Mb, 0, none⟩ = some (.int .i64 0)) :
    Calls Try.prog 39 #[.slice a k c, .pointer (some ⟨Bm, 0, none⟩)] w fun e w' => e = .returned (.tuple #[.slice none 0 0, .bool false, .int .i64 310]) ∧ w' = w := by
  have H := Aside0.mk (passes_zero Mb w h)
  clear h
  go_enter Try.func39, Try.ntmps39
  go_wp2_with (go_at_call 40; refine H.out.mono ?_; rintro e w' ⟨rfl, rfl⟩)
  refine bodyPost_ret (results_tmp3 rfl _ _ _) rfl ?_
  exact ⟨rfl, rfl⟩
set_option maxHeartbeats 1000000 in
theorem what_succ (a : Option Addr) (q c Bm Mb k : Nat) (w : World) (hm : w.cell? ⟨Bm, 0, none⟩ = some (.pointer (some ⟨Mb, 0, none⟩))) (h : w.cell? ⟨Mb, 0, none⟩ = some (.int .i64 ((k + 1 : Nat) : Int))) (hf : w.frozen? ⟨Mb, 0, none⟩ = false) (hk : k < 100000) :
    Calls Try.prog 39 #[.slice a q c, .pointer (some ⟨Bm, 0, none⟩)] w fun e w' => e = .returned (.tuple #[.slice a q c, .bool true, .int .i64 0]) ∧ w' = w.setCell ⟨Mb, 0, none⟩ (.int .i64 k) := by
  have H := Aside0.mk (passes_succ Mb k w h hf hk)
  clear h hf
  go_enter Try.func39, Try.ntmps39
  go_wp2_with (go_at_call 40; refine H.out.mono ?_; rintro e w' ⟨rfl, rfl⟩)
  refine bodyPost_ret (results_tmp3 rfl _ _ _) rfl ?_
  exact ⟨rfl, rfl⟩
/-- how far the counted rows have come -/
def OI (Mb k0 : Nat) (J : List (RV × Int) → (Nat → Prop) → World → Prop) (X0 : Nat → Prop) (W0 : World) (pre : List (RV × Int)) (X' : Nat → Prop) (W' : World) : Prop :=
  ∃ Xj, (∀ j, X' j ↔ (Xj j ∨ j = Mb)) ∧ ¬ Xj Mb ∧ J pre Xj W' ∧ GrM (fun j => j = Mb) X0 Xj W0.heap.size W0 W' ∧ pre.length ≤ k0 ∧ Boxed W' Mb 92 (.int .i64 ((k0 - pre.length : Nat) : Int))
theorem OI.stable {Mb k0 n₀ : Nat} {J : List (RV × Int) → (Nat → Prop) → World → Prop} {X0 : Nat → Prop} {W0 : World} (hJ : StableM (fun j => j = Mb) W0.heap.size J) (hn : W0.heap.size ≤ n₀) : Stable n₀ (OI Mb k0 J X0 W0) := by
  rintro pre X' A B ⟨Xj, h1, h2, h3, h4, h5, h6⟩ ha
  have hx : ∀ j, Xj j → B.heap[j]? = A.heap[j]? := fun j hj => ha.block j (.inl ((h1 j).2 (.inl hj)))
  refine ⟨Xj, h1, h2, hJ _ _ _ _ h3 ⟨ha.os, ha.tape, ha.output, ha.size, fun j hj => ?_⟩, ⟨ha.os.trans h4.os, ha.tape.trans h4.tape, ha.output.trans h4.output, Nat.le_trans h4.size ha.size, fun j hj hx hm => (ha.block j (.inr (by omega))).trans (h4.block j hj hx hm), h4.sub, fun j hj => Nat.lt_of_lt_of_le (h4.lt j hj) ha.size⟩, h5, boxed_same (ha.block _ (.inl ((h1 _).2 (.inr rfl)))) h6⟩
  rcases hj with hj | hj
  · exact hx j hj
  · exact ha.block j (.inr (by omega))
def OX (Mb : Nat) (cs : List Cd) (J Jx : List (RV × Int) → (Nat → Prop) → World → Prop) (X0 : Nat → Prop) (W0 : World) (c : Code) (pre : List (RV × Int)) (X' : Nat → Prop) (W' : World) : Prop :=
  c = .ret ∧ ∃ Xj, (∀ j, Xj j → X' j) ∧ GrM (fun j => j = Mb) X0 Xj W0.heap.size W0 W' ∧ ((∃ ys, FinC cs ys ∧ J ys Xj W') ∨ ∃ q, Jx q Xj W')
theorem OX.stable {Mb n₀ : Nat} {cs : List Cd} {J Jx : List (RV × Int) → (Nat → Prop) → World → Prop} {X0 : Nat → Prop} {W0 : World} (hJ : StableM (fun j => j = Mb) W0.heap.size J) (hJx : StableM (fun j => j = Mb) W0.heap.size Jx) (hn : W0.heap.size ≤ n₀) (c : Code) : Stable n₀ (OX Mb cs J Jx X0 W0 c) := by
  rintro pre X' A B ⟨rfl, Xj, h1, h4, h5⟩ ha
  have ag : AgM (fun j => j = Mb) Xj W0.heap.size A B := ⟨ha.os, ha.tape, ha.output, ha.size, fun j hj => by
    rcases hj with hj | hj
    · exact ha.block j (.inl (h1 j hj))
    · exact ha.block j (.inr (by omega))⟩
  refine ⟨rfl, Xj, h1, ⟨ha.os.trans h4.os, ha.tape.trans h4.tape, ha.output.trans h4.output, Nat.le_trans h4.size ha.size, fun j hj hx hm => (ha.block j (.inr (by omega))).trans (h4.block j hj hx hm), h4.sub, fun j hj => Nat.lt_of_lt_of_le (h4.lt j hj) ha.size⟩, ?_⟩
  rcases h5 with ⟨ys, h6, h7⟩ | ⟨q, h7⟩
  · exact .inl ⟨ys, h6, hJ _ _ _ _ h7 ag⟩
  · exact .inr ⟨q, hJx _ _ _ _ h7 ag⟩
set_option maxRecDepth 100000 in
set_option maxHeartbeats 8000000 in
theorem over1_m (n : Nat) (hn : 6 ≤ n) (l A B Bm Mb k0 : Nat) (hk0 : k0 ≤ 50000) (ga : FuncId) (la : Array Value) (prs : List Pr) (Ra : Nat → Prop)
    (J Jx : List (RV × Int) → (Nat → Prop) → World → Prop) (X : Nat → Prop) (W : World) (hX : ∀ j, X j → j < W.heap.size) (hM : Mb < W.heap.size ∧ ¬ X Mb) (hJ : StableM (fun j => j = Mb) W.heap.size J) (hJx : StableM (fun j => j = Mb) W.heap.size Jx)
    (hA : A < W.heap.size) (hB : B < W.heap.size ∧ ¬ X B ∧ B ≠ Mb) (hBm : Bm < W.heap.size ∧ ¬ X Bm ∧ Bm ≠ Mb) (hca : W.cell? ⟨A, 0, none⟩ = some (.func (.func ga) #[] la)) (hcb : W.cell? ⟨B, 0, none⟩ = some (.func (.func 39) #[] #[.pointer (some ⟨Bm, 0, none⟩)])) (hcm : W.cell? ⟨Bm, 0, none⟩ = some (.pointer (some ⟨Mb, 0, none⟩)))
    (hmb : Boxed W Mb 92 (.int .i64 k0)) (ega : ∀ args w, (callFunc ga args).run Try.prog w = .ok (.enter ga args) w) (hqa : ∀ n, Seq Fence.wide n Try.prog ga la enc (prs.map Prod.fst) Ra W) (hRa : ∀ j, Ra j → j < W.heap.size ∧ ¬ X j ∧ j ≠ Mb)
    (hrows : ∀ p ∈ prs, p.1.2 = 0 ∧ Cont W p.1.1 p.2 ∧ p.1.1.n ≤ 1000 ∧ ∀ j, p.1.1.blk j → Ra j)
    (hY : ∀ pre x X1 W1, GC (metC k0 (prs.map Prod.snd)) pre x X1 W1 → J pre X1 W1 → GrM (fun j => j = Mb) X X1 W.heap.size W W1 → YieldAt Fence.wide (n - 1) Try.prog l (enc x) W1 fun e W' =>
      ∃ X', Gr X1 X' W1.heap.size W1 W' ∧ ((e = .returned (.bool true) ∧ J (pre ++ [x]) X' W') ∨ (e = .returned (.bool false) ∧ Jx (pre ++ [x]) X' W')))
    (h0 : J [] X W) :
    CallsIn Fence.wide n Try.prog 66 #[.func (.yield l) #[] #[], .pointer (some ⟨A, 0, none⟩), .pointer (some ⟨B, 0, none⟩)] W fun e W' => (∃ v, e = .returned v) ∧
      ∃ X', GrM (fun j => j = Mb) X X' W.heap.size W W' ∧ ((∃ ys, FinC (metC k0 (prs.map Prod.snd)) ys ∧ J ys X' W') ∨ ∃ pre, Jx pre X' W') := by
  have hro : Fence.wide.round = none := rfl
  have h1 : 1 ≤ n := by omega
  have hfn : ∀ (w : World) (g : FuncId) (lb : Array Value), (binOp .eql 31 (.func (.func g) #[] lb) .nilFunc).run Try.prog w = .ok (.bool false) w := fun _ _ _ => rfl
  have hcaA := fun o => (cell_of_block ((Below.refl W.heap.size W).alloc (Nat.le_refl _) o |>.block A hA) 0).trans hca
  refine callsIn_of_wp_marks Try.func66 rfl trivial ?_ hro
  simp only [Try.ntmps66, List.size_toArray, List.length_cons, List.length_nil, Nat.reduceAdd, Nat.reduceSub, Array.replicate_succ, Array.replicate_zero, List.push_toArray, List.append_toArray, List.nil_append, List.cons_append]
  gi_wp2
  have cY := Boxed.new W 72 (.func (.yield l) #[] #[])
  have hbel : Below W.heap.size W (W.alloc (.cells #[.func (.yield l) #[] #[]] 72)) := (Below.refl _ W).alloc (Nat.le_refl _) _
  have hsz : (W.alloc (.cells #[.func (.yield l) #[] #[]] 72)).heap.size = W.heap.size + 1 := by simp
  clear hcaA
  generalize W.alloc (.cells #[.func (.yield l) #[] #[]] 72) = W1 at cY hbel hsz ⊢
  have hag1 : AgM (fun j => j = Mb) X W.heap.size W W1 := ⟨hbel.os, hbel.tape, hbel.output, hbel.size, fun j hj => hbel.block j (by rcases hj with h | h; exact hX j h; exact h.1)⟩
  have hgr1 : GrM (fun j => j = Mb) X X W.heap.size W W1 := ⟨hbel.os, hbel.tape, hbel.output, hbel.size, fun j hj _ _ => hbel.block j hj, fun j h => .inl h, fun j h => Nat.lt_of_lt_of_le (hX j h) hbel.size⟩
  have HW1 := Aside0.mk (And.intro cY (And.intro hbel hsz))
  clear cY hsz
  refine wpIn_rangeFunc_sep hro h1 (gf := ga) (lb := la) rfl trivial ega (hqa (n - 1)) (fun _ => rfl) (fun j => X j ∨ j = Mb) hbel.size (fun j hj => ⟨(hRa j hj).1, (by rintro (h | h); exact (hRa j hj).2.1 h; exact (hRa j hj).2.2 h), hbel.block j (hRa j hj).1⟩) (fun j hj => by rcases hj with h | rfl; exact Nat.lt_of_lt_of_le (hX j h) hbel.size; exact Nat.lt_of_lt_of_le hM.1 hbel.size)
    (OI Mb k0 J X W) (OX Mb (metC k0 (prs.map Prod.snd)) J Jx X W) (OI.stable hJ hbel.size) (OX.stable hJ hJx hbel.size) ⟨X, fun _ => Iff.rfl, hM.2, hJ _ _ _ _ h0 hag1, hgr1, Nat.zero_le _, boxed_same (hbel.block Mb hM.1) hmb⟩ ?round ?done ?stop
  case round =>
    rintro lab pre ⟨⟨ra, rn, rc⟩, e⟩ X1 Wa hl hpre ⟨Xj, i1, i2, b1, b2, i5, i6⟩ hg hXl hlt
    have HG := Aside0.mk (And.intro hpre (And.intro i1 (And.intro i2 (And.intro b1 (And.intro b2 (And.intro i5 (And.intro i6 hg)))))))
    have HL := Aside0.mk (And.intro hl (And.intro hXl hlt))
    clear hpre i1 i2 b1 b2 i5 i6 hg hl hXl hlt
    gi_wp2
    try refine ⟨fun _ _ _ => trivial, Nat.le_refl _, trivial, trivial, trivial, ?_⟩
    intro W3 z1 z2 z3 z4 z5
    obtain ⟨hpre, i1, i2, b1, b2, i5, i6, hg⟩ := HG.out
    obtain ⟨hl, hXl, hlt⟩ := HL.out
    have hwz := HW1.out.2.2
    have hlXj : ¬ Xj lab := fun h => hXl ((i1 lab).2 (.inl h))
    have hag3 : AgM (fun j => j = Mb) Xj W.heap.size Wa W3 := ⟨z2, z3, z4, by omega, fun j hj => z5 j (by rintro rfl; rcases hj with h | h; exact hlXj h; omega)⟩
    have hJ3 := hJ _ _ _ _ b1 hag3
    have hg3 : GrM (fun j => j = Mb) X Xj W.heap.size W W3 := ⟨z2.trans b2.os, z3.trans b2.tape, z4.trans b2.output, by rw [z1]; exact b2.size, fun j hj hx hm => (z5 j (by omega)).trans (b2.block j hj hx hm), b2.sub, fun j hj => by rw [z1]; exact b2.lt j hj⟩
    have hb3 := hg3.size
    have cY3 : W3.cell? ⟨W.heap.size, 0, none⟩ = some (.func (.yield l) #[] #[]) := (cell_of_block ((z5 _ (by omega)).trans (hg.block _ (by omega) (fun h => by rcases h with h | h; have := hX _ h; omega; omega))) 0).trans (Boxed.cell HW1.out.1)
    have cB3 := (cell_of_block (hg3.block B hB.1 hB.2.1 hB.2.2) 0).trans hcb
    have cM3 := (cell_of_block (hg3.block Bm hBm.1 hBm.2.1 hBm.2.2) 0).trans hcm
    have bM3 : Boxed W3 Mb 92 (.int .i64 ((k0 - pre.length : Nat) : Int)) := boxed_same (z5 Mb (by omega)) i6
    have hpl : pre.length < prs.length := by
      have := hpre.length_le
      rw [List.length_append, List.length_singleton, List.length_map] at this
      omega
    have hpx : prs[pre.length].1 = (⟨ra, rn, rc⟩, e) := by
      obtain ⟨t, ht⟩ := hpre
      have hx : (prs.map Prod.fst)[pre.length]? = some ((⟨ra, rn, rc⟩ : RV), e) := by rw [← ht]; simp
      rw [List.getElem?_map, List.getElem?_eq_getElem hpl] at hx
      simpa using hx
    obtain ⟨r0, r1, r2, r3⟩ := hrows _ (List.getElem_mem hpl)
    rw [hpx] at r0 r1 r2 r3
    obtain ⟨row, hrow⟩ : ∃ row, prs[pre.length].2 = row := ⟨_, rfl⟩
    rw [hrow] at r1
    have hrx : (prs.map Prod.snd)[pre.length]? = some row := by rw [List.getElem?_map, List.getElem?_eq_getElem hpl, ← hrow]; rfl
    have he : e = 0 := r0
    subst he
    have hCont : Cont W3 ⟨ra, rn, rc⟩ row := r1.same hb3 (fun j hj => hg3.block j (hRa j (r3 j hj)).1 (hRa j (r3 j hj)).2.1 (hRa j (r3 j hj)).2.2)
    have hz3 : W3.heap.size = Wa.heap.size := z1
    have hmX : X1 Mb := (i1 Mb).2 (.inr rfl)
    have hMb3 : Mb < W3.heap.size := by have := hM.1; omega
    obtain ⟨k, hk⟩ : ∃ k, k0 - pre.length = k := ⟨_, rfl⟩
    rw [hk] at bM3
    cases k with
    | zero =>
      have hk2 : pre.length = k0 := by omega
      obtain ⟨fn, tmps, assign, body, hy, hR⟩ := yield_wide (m := n - 1 - 1 - 1) (hY pre (RV.nil, 310) Xj W3 ⟨(310, []), by rw [hk2]; exact metC_at (by rw [List.length_map]; omega), rfl, fun h => by cases h⟩ hJ3 hg3)
      dsimp only [enc, RV.nil] at hy
      have hR' : RoundIn (Fence.wide.inRound lab) (n - 1 - 1 - 1) Try.prog l fn tmps assign body W3 _ := hR
      have hcMb : W3.cell? ⟨Mb, 0, none⟩ = some (.int .i64 0) := bM3.cell
      have hwhat := CallsIn.inRound lab ((callsIn_wide (n := n - 1 - 1 - 1)).2 (what_zero ra rn rc Bm Mb W3 cM3 hcMb))
      have HF := Aside0.mk (And.intro hg3 (And.intro i1 hz3))
      have HP := Aside0.mk (And.intro hk2 hpl)
      clear hpre i1 i2 b1 b2 i5 i6 hg hag3 hJ3 hg3 hl hXl hlt z1 z2 z3 z4 z5 hpx r0 r1 r2 r3 hrow hrx hCont hk hk2 hpl hR
      gi_wp2_with (refine ⟨trivial, (fun h => by cases h), ?_⟩; gi_at_call 39; refine hwhat.mono ?_; rintro e4 w4 ⟨rfl, hw4⟩; cases hw4)
      refine ⟨(fun h => by cases h), ?_⟩
      refine hR'.mono ?_
      rintro e4 W4 ⟨X4, g4, h4⟩
      obtain ⟨hg3, i1, hz3⟩ := HF.out
      have HE := Aside0.mk (show ∃ X', Gr X1 X' Wa.heap.size W3 W4 ∧ OX Mb (metC k0 (prs.map Prod.snd)) J Jx X W .ret (pre ++ [(⟨ra, rn, rc⟩, 0)]) X' W4 from by
        rw [← hz3]
        refine ⟨fun j => X4 j ∨ j = Mb, ⟨g4.os, g4.tape, g4.output, g4.size, fun j hj hx => g4.block j hj (fun h => hx ((i1 j).2 (.inl h))), ?_, ?_⟩, rfl, X4, fun j => .inl, hg3.trans g4.m hg3.size, ?_⟩
        · rintro j (h | rfl)
          · exact (g4.sub j h).imp (fun h => (i1 j).2 (.inl h)) id
          · exact .inl hmX
        · rintro j (h | rfl)
          · exact g4.lt j h
          · exact Nat.lt_of_lt_of_le hMb3 g4.size
        · rcases h4 with ⟨_, h⟩ | ⟨_, h⟩
          · refine .inl ⟨_, ?_, h⟩
            unfold FinC
            rw [metC_len, List.length_append, List.length_singleton, List.length_map]
            have q1 := HP.out.1
            have q2 := HP.out.2
            omega
          · exact .inr ⟨_, h⟩)
      obtain ⟨bv, rfl⟩ : ∃ bv, e4 = .returned (.bool bv) := by rcases h4 with ⟨h, _⟩ | ⟨h, _⟩; exact ⟨_, h⟩; exact ⟨_, h⟩
      clear h4 g4 hy hR' hg3 i1 hz3 hwhat
      gi_wp2
      exact HE.out
    | succ k =>
      have hfMb := bM3.frozen
      have hcMb := bM3.cell
      have hkb : k < 100000 := by omega
      have ag4 : AgM (fun j => j = Mb) Xj W.heap.size W3 (W3.setCell ⟨Mb, 0, none⟩ (.int .i64 k)) := ⟨rfl, rfl, rfl, by rw [size_setCell]; exact Nat.le_refl _, fun j hj => Below.heap_setCell _ _ _ j (by
        rintro rfl
        rcases hj with hj | hj
        · exact i2 hj
        · exact hj.2 rfl)⟩
      have hJ4 := hJ _ _ _ _ hJ3 ag4
      have hg4 : GrM (fun j => j = Mb) X Xj W.heap.size W (W3.setCell ⟨Mb, 0, none⟩ (.int .i64 k)) := ⟨hg3.os, hg3.tape, hg3.output, by rw [size_setCell]; exact hg3.size, fun j hj hx hm => (Below.heap_setCell _ _ _ j hm).trans (hg3.block j hj hx hm), hg3.sub, fun j hj => by rw [size_setCell]; exact hg3.lt j hj⟩
      have hC4 : Cont (W3.setCell ⟨Mb, 0, none⟩ (.int .i64 k)) ⟨ra, rn, rc⟩ row := hCont.same (by rw [size_setCell]; exact Nat.le_refl _) (fun j hj => Below.heap_setCell _ _ _ j (hRa j (r3 j hj)).2.2)
      have bM4 : Boxed (W3.setCell ⟨Mb, 0, none⟩ (.int .i64 k)) Mb 92 (.int .i64 k) := bM3.set _
      have cY4 := (cell_of_block (Below.heap_setCell W3 ⟨Mb, 0, none⟩ (.int .i64 k) W.heap.size (by show W.heap.size ≠ Mb; have := hM.1; omega)) 0).trans cY3
      obtain ⟨fn, tmps, assign, body, hy, hR⟩ := yield_wide (m := n - 1 - 1 - 1) (hY pre (⟨ra, rn, rc⟩, 0) Xj _ ⟨(0, row), metC_lt hrx (by omega), rfl, fun _ => ⟨hC4, r2, fun j hj hx => by
        rcases hg3.sub j hx with h | h
        · exact (hRa j (r3 j hj)).2.1 h
        · have := (hRa j (r3 j hj)).1; omega⟩⟩ hJ4 hg4)
      dsimp only [enc] at hy
      have hR' : RoundIn (Fence.wide.inRound lab) (n - 1 - 1 - 1) Try.prog l fn tmps assign body _ _ := hR
      have hwhat := CallsIn.inRound lab ((callsIn_wide (n := n - 1 - 1 - 1)).2 (what_succ ra rn rc Bm Mb k W3 cM3 hcMb hfMb hkb))
      have HF := Aside0.mk (And.intro hg4 (And.intro i1 (And.intro hz3 (And.intro i2 (And.intro bM4 (And.intro hk i5))))))
      clear hpre i1 i2 b1 b2 i5 i6 hg hag3 hJ3 hg3 hl hXl hlt z1 z2 z3 z4 z5 hpx r0 r1 r2 r3 hrow hrx hCont hk hpl hR ag4 hJ4 hg4 hC4 hkb
      gi_wp2_with (refine ⟨trivial, (fun h => by cases h), ?_⟩; gi_at_call 39; refine hwhat.mono ?_; rintro e4 w4 ⟨rfl, hw4⟩; subst hw4)
      refine ⟨(fun h => by cases h), ?_⟩
      refine hR'.mono ?_
      rintro e4 W4 ⟨X4, g4, h4⟩
      obtain ⟨hg4, i1, hz3, i2, bM4, hk, i5⟩ := HF.out
      have hsz : (W3.setCell ⟨Mb, 0, none⟩ (.int .i64 k)).heap.size = W3.heap.size := size_setCell _ _ _
      have n4 : ¬ X4 Mb := fun h => by
        rcases g4.sub Mb h with h | h
        · exact i2 h
        · omega
      have HE1 := Aside0.mk (show Gr X1 (fun j => X4 j ∨ j = Mb) Wa.heap.size W3 W4 from by
        rw [← hz3]
        refine ⟨g4.os, g4.tape, g4.output, by have := g4.size; omega, fun j hj hx => ?_, ?_, ?_⟩
        · exact (g4.block j (by omega) (fun h => hx ((i1 j).2 (.inl h)))).trans (Below.heap_setCell _ _ _ j (fun h => hx ((i1 j).2 (.inr h))))
        · rintro j (h | rfl)
          · exact (g4.sub j h).imp (fun h => (i1 j).2 (.inl h)) (fun h => by omega)
          · exact .inl hmX
        · rintro j (h | rfl)
          · exact g4.lt j h
          · have := g4.size; omega)
      have hgr5 := hg4.trans g4.m hg4.size
      rcases h4 with ⟨rfl, j4⟩ | ⟨rfl, j4⟩
      · have HE2 := Aside0.mk (show OI Mb k0 J X W (pre ++ [(⟨ra, rn, rc⟩, 0)]) (fun j => X4 j ∨ j = Mb) W4 from
          ⟨X4, fun _ => Iff.rfl, n4, j4, hgr5, by rw [List.length_append, List.length_singleton]; omega, by
            rw [List.length_append, List.length_singleton, show k0 - (pre.length + 1) = k by omega]
            exact boxed_same (g4.block Mb (by omega) i2) bM4⟩)
        clear g4 j4 hgr5 hy hR' hg4 i1 hz3 i2 bM4 hk i5 hsz n4 hwhat
        gi_wp2
        exact ⟨_, HE1.out, HE2.out⟩
      · have HE2 := Aside0.mk (show OX Mb (metC k0 (prs.map Prod.snd)) J Jx X W .ret (pre ++ [(⟨ra, rn, rc⟩, 0)]) (fun j => X4 j ∨ j = Mb) W4 from
          ⟨rfl, X4, fun j => .inl, hgr5, .inr ⟨_, j4⟩⟩)
        clear g4 j4 hgr5 hy hR' hg4 i1 hz3 i2 bM4 hk i5 hsz n4 hwhat
        gi_wp2
        exact ⟨_, HE1.out, HE2.out⟩
  case done =>
    rintro Xd Wd ⟨Xj, i1, i2, b1, b2, i5, i6⟩ hg hn hK
    have hD : W.heap.size ≤ W1.heap.size := hbel.size
    have hnj : ¬ Xj W1.heap.size := fun h => hn ((i1 _).2 (.inl h))
    have hne : W1.heap.size ≠ Mb := by have := hM.1; omega
    have j2 := hJ _ _ _ _ b1 (agm_put Wd (.deferred none) hnj hD)
    have hfin : FinC (metC k0 (prs.map Prod.snd)) (prs.map Prod.fst) := by
      unfold FinC
      rw [metC_len, List.length_map, List.length_map]
      rw [List.length_map] at i5
      omega
    have HD := Aside0.mk (And.intro hK (And.intro j2 (And.intro (b2.put (.deferred none) hD) hfin)))
    clear hfin b1 b2 hg hK j2 i1 i2 i5 i6 hn
    gi_wp2
    refine ⟨by simp, .inl ⟨_, _, rfl, run_takeDeferred HD.out.1, ?_⟩⟩
    exact ⟨_, results_none rfl _ _ _, ⟨_, rfl⟩, Xj, HD.out.2.2.1, .inl ⟨_, HD.out.2.2.2, HD.out.2.1⟩⟩
  case stop =>
    rintro c pre Xd Wd _ ⟨rfl, Xj, q1, q2, q3⟩ hg hn hK
    have hD : W.heap.size ≤ W1.heap.size := hbel.size
    have hnj : ¬ Xj W1.heap.size := fun h => hn (q1 _ h)
    have hF : (∃ ys, FinC (metC k0 (prs.map Prod.snd)) ys ∧ J ys Xj (Wd.putObj W1.heap.size (.deferred none))) ∨ ∃ pre, Jx pre Xj (Wd.putObj W1.heap.size (.deferred none)) :=
      q3.imp (fun ⟨ys, h1, h2⟩ => ⟨ys, h1, hJ _ _ _ _ h2 (agm_put Wd (.deferred none) hnj hD)⟩) (fun ⟨q, h⟩ => ⟨q, hJx _ _ _ _ h (agm_put Wd (.deferred none) hnj hD)⟩)
    have HD := Aside0.mk (And.intro hK (And.intro hF (q2.put (.deferred none) hD)))
    clear hF q2 q3 hg hK hn
    gi_wp2
    refine ⟨by simp, .inl ⟨_, _, rfl, run_takeDeferred HD.out.1, ?_⟩⟩
    exact ⟨_, results_none rfl _ _ _, ⟨_, rfl⟩, Xj, HD.out.2.2, HD.out.2.1⟩
/-- METERED's iterator, of a list -/
theorem met_m (A B Bm Mb k0 : Nat) (hk0 : k0 ≤ 50000) (va : Value) (prs : List Pr) (Ra : Nat → Prop) (w : World) (ha : ItC va prs Ra w) (hz : ∀ p ∈ prs, p.1.2 = 0) (hA : A < w.heap.size) (hB : B < w.heap.size) (hBm : Bm < w.heap.size)
    (hca : w.cell? ⟨A, 0, none⟩ = some va) (hcb : w.cell? ⟨B, 0, none⟩ = some (.func (.func 39) #[] #[.pointer (some ⟨Bm, 0, none⟩)])) (hcm : w.cell? ⟨Bm, 0, none⟩ = some (.pointer (some ⟨Mb, 0, none⟩))) (hmb : Boxed w Mb 92 (.int .i64 k0))
    (hne : A ≠ Mb ∧ B ≠ Mb ∧ Bm ≠ Mb) (hRa : ∀ j, Ra j → j ≠ Mb) :
    ItM (fun j => j = Mb) (fun j => j = A ∨ j = B ∨ j = Bm ∨ Ra j) (.func (.func 66) #[] #[.pointer (some ⟨A, 0, none⟩), .pointer (some ⟨B, 0, none⟩)]) (metC k0 (prs.map Prod.snd)) w := by
  refine ⟨⟨66, _, rfl, enters_of Try.func66 (by kernel_rfl) rfl, ?_⟩, ?_, fun j hj => by rw [hj]; exact hmb.lt⟩
  · intro n l J Jx X W hs hR hM hX hJ hJx hY h0
    have ha' := ha.later hs (fun j hj => (hR j (.inr (.inr (.inr hj)))).2.2)
    obtain ⟨ga, la, rfl, ega, hqa⟩ := ha'.it.ex
    have rA := hR A (.inl rfl)
    have rB := hR B (.inr (.inl rfl))
    have rM := hR Bm (.inr (.inr (.inl rfl)))
    have mM := hM Mb rfl
    refine callsIn_wide.2 (callsIn_wide.1 (over1_m 6 (Nat.le_refl _) l A B Bm Mb k0 hk0 ga la prs Ra J Jx X W hX ⟨Nat.lt_of_lt_of_le hmb.lt hs, mM.2.1⟩ hJ hJx (Nat.lt_of_lt_of_le hA hs) ⟨Nat.lt_of_lt_of_le hB hs, rB.2.1, hne.2.1⟩ ⟨Nat.lt_of_lt_of_le hBm hs, rM.2.1, hne.2.2⟩
      ((cell_of_block rA.2.2 0).trans hca) ((cell_of_block rB.2.2 0).trans hcb) ((cell_of_block rM.2.2 0).trans hcm) (boxed_same mM.2.2 hmb) ega hqa
      (fun j hj => ⟨ha'.it.lt j hj, (hR j (.inr (.inr (.inr hj)))).2.1, hRa j hj⟩) (fun p hp => ⟨hz p hp, ha'.rows p hp (hz p hp)⟩) (fun pre x X1 W1 p q r => yield_wide (hY pre x X1 W1 p q r)) h0))
  · rintro j (rfl | rfl | rfl | h)
    · exact hA
    · exact hB
    · exact hBm
    · exact ha.it.lt j h
end Go.Proofs.Ytghpjlohoehdnaa.Sep

/-! what makes the iterators of the ends, and a Sorter that was never made. No condition beyond those that each theorem names. -/
namespace Go.Proofs.Ytghpjlohoehdnaa.Sep
open Go Go.RowKit Go.Shelf
attribute [local go_sem] Oper.semAt_some
set_option linter.unusedVariables false
set_option linter.unusedSimpArgs false
set_option maxHeartbeats 1000000 in
theorem meter_make (k : Int) (k0 : Nat) (w : World) (h : max 0 k = (k0 : Int)) :
    Calls Try.prog 35 #[.int .i64 k] w fun e w' => e = .returned (.pointer (some ⟨w.heap.size, 0, none⟩)) ∧ w' = w.alloc (.cells #[.int .i64 k0] 92) := by
  go_enter Try.func35, Try.ntmps35
  go_wp2
  go_ret
  exact ⟨rfl, rfl⟩
set_option maxHeartbeats 1000000 in
theorem metered_make2 (ga : FuncId) (la : Array Value) (p : Option Addr) (w : World) :
    Calls Try.prog 17 #[.func (.func ga) #[] la, .pointer p] w fun e w' => e = .returned (.func (.func 66) #[] #[.pointer (some ⟨w.heap.size + 1, 0, none⟩), .pointer (some ⟨w.heap.size + 2, 0, none⟩)]) ∧
      w' = ((w.alloc (.cells #[.pointer p] 62)).alloc (.cells #[.func (.func ga) #[] la] 31)).alloc (.cells #[.func (.func 39) #[] #[.pointer (some ⟨w.heap.size, 0, none⟩)]] 71) := by
  go_enter Try.func17, Try.ntmps17
  go_wp2_with (go_at_call 38; refine (over_make _ _ _ _ _).mono ?_; rintro e w' ⟨rfl, rfl⟩)
  go_ret
  exact ⟨by simp, rfl⟩
set_option maxHeartbeats 1000000 in
theorem later_make (g : FuncId) (la : Array Value) (w : World) :
    Calls Try.prog 59 #[.func (.func g) #[] la] w fun e w' => e = .returned (.func (.func 79) #[] #[.pointer (some ⟨w.heap.size, 0, none⟩)]) ∧ w' = w.alloc (.cells #[.func (.func g) #[] la] 87) := by
  go_enter Try.func59, Try.ntmps59
  go_wp2
  go_ret
  exact ⟨rfl, rfl⟩
set_option maxHeartbeats 1000000 in
theorem sorted_make (g : FuncId) (la : Array Value) (a : Option Addr) (k c : Nat) (w : World) :
    Calls Try.prog 33 #[(.func (.func g) #[] la), .slice a k c] w fun e w' => e = .returned (.func (.func 79) #[] #[.pointer (some ⟨w.heap.size + 2, 0, none⟩)]) ∧
      w' = ((w.alloc (.cells #[(.func (.func g) #[] la)] 31)).alloc (.cells #[.slice a k c] 42)).alloc (.cells #[.func (.func 60) #[] #[.pointer (some ⟨w.heap.size + 1, 0, none⟩), .pointer (some ⟨w.heap.size, 0, none⟩)]] 87) := by
  go_enter Try.func33, Try.ntmps33
  go_wp2_with (go_at_call 59; refine (later_make _ _ _).mono ?_; rintro e w' ⟨rfl, rfl⟩)
  go_ret
  exact ⟨by simp, by simp⟩
set_option maxHeartbeats 1000000 in
theorem sorted_make_nil (a : Option Addr) (k c : Nat) (w : World) :
    Calls Try.prog 33 #[.nilFunc, .slice a k c] w fun e w' => e = .returned (.func (.func 79) #[] #[.pointer (some ⟨w.heap.size + 2, 0, none⟩)]) ∧
      w' = ((w.alloc (.cells #[.nilFunc] 31)).alloc (.cells #[.slice a k c] 42)).alloc (.cells #[.func (.func 60) #[] #[.pointer (some ⟨w.heap.size + 1, 0, none⟩), .pointer (some ⟨w.heap.size, 0, none⟩)]] 87) := by
  go_enter Try.func33, Try.ntmps33
  go_wp2_with (go_at_call 59; refine (later_make _ _ _).mono ?_; rintro e w' ⟨rfl, rfl⟩)
  go_ret
  exact ⟨by simp, by simp⟩
set_option maxHeartbeats 1000000 in
theorem top_make (g : FuncId) (la : Array Value) (a : Option Addr) (k c : Nat) (m : Int) (w : World) :
    Calls Try.prog 34 #[(.func (.func g) #[] la), .slice a k c, .int .i64 m] w fun e w' => e = .returned (.func (.func 79) #[] #[.pointer (some ⟨w.heap.size + 3, 0, none⟩)]) ∧
      w' = (((w.alloc (.cells #[(.func (.func g) #[] la)] 31)).alloc (.cells #[.slice a k c] 42)).alloc (.cells #[.int .i64 m] 3)).alloc (.cells #[.func (.func 61) #[] #[.pointer (some ⟨w.heap.size, 0, none⟩), .pointer (some ⟨w.heap.size + 1, 0, none⟩), .pointer (some ⟨w.heap.size + 2, 0, none⟩)]] 87) := by
  go_enter Try.func34, Try.ntmps34
  go_wp2_with (go_at_call 59; refine (later_make _ _ _).mono ?_; rintro e w' ⟨rfl, rfl⟩)
  go_ret
  exact ⟨by simp, by simp⟩
set_option maxHeartbeats 1000000 in
theorem top_make_nil (a : Option Addr) (k c : Nat) (m : Int) (w : World) :
    Calls Try.prog 34 #[.nilFunc, .slice a k c, .int .i64 m] w fun e w' => e = .returned (.func (.func 79) #[] #[.pointer (some ⟨w.heap.size + 3, 0, none⟩)]) ∧
      w' = (((w.alloc (.cells #[.nilFunc] 31)).alloc (.cells #[.slice a k c] 42)).alloc (.cells #[.int .i64 m] 3)).alloc (.cells #[.func (.func 61) #[] #[.pointer (some ⟨w.heap.size, 0, none⟩), .pointer (some ⟨w.heap.size + 1, 0, none⟩), .pointer (some ⟨w.heap.size + 2, 0, none⟩)]] 87) := by
  go_enter Try.func34, Try.ntmps34
  go_wp2_with (go_at_call 59; refine (later_make _ _ _).mono ?_; rintro e w' ⟨rfl, rfl⟩)
  go_ret
  exact ⟨by simp, by simp⟩
set_option maxHeartbeats 1000000 in
theorem given_nil (w : World) : Calls Try.prog 47 #[.pointer none] w fun e w' => e = .returned (.bool false) ∧ w' = w := by
  go_enter Try.func47, Try.ntmps47
  go_wp2
  go_ret
  exact ⟨rfl, rfl⟩
set_option maxHeartbeats 1000000 in
theorem given_zero (S : Nat) (w : World) (h : w.cell? ⟨S, 1, none⟩ = some (.int .i64 0)) : Calls Try.prog 47 #[.pointer (some ⟨S, 0, none⟩)] w fun e w' => e = .returned (.bool false) ∧ w' = w := by
  have hmx : Try.prog.follows .mixedOrders = true := by kernel_rfl
  go_enter Try.func47, Try.ntmps47
  go_wp2
  refine bodyPost_ret (results_tmp rfl _ _ _) rfl ?_
  exact ⟨rfl, rfl⟩
set_option maxHeartbeats 1000000 in
theorem rows_not (p : Option Addr) (w : World) (H : Calls Try.prog 47 #[.pointer p] w fun e w' => e = .returned (.bool false) ∧ w' = w) :
    Calls Try.prog 24 #[.pointer p] w fun e w' => e = .returned (.func (.func 41) #[] #[.pointer (some ⟨w.heap.size, 0, none⟩)]) ∧ w' = w.alloc (.cells #[.slice none 0 0] 22) := by
  have H0 := Aside0.mk H
  clear H
  have HL : Calls Try.prog 18 #[.slice none 0 0] w fun e w' => e = .returned (.func (.func 41) #[] #[.pointer (some ⟨w.heap.size, 0, none⟩)]) ∧ w' = w.alloc (.cells #[.slice none 0 0] 22) := by
    go_enter Try.func18, Try.ntmps18
    go_wp2
    go_ret
    exact ⟨rfl, rfl⟩
  go_enter Try.func24, Try.ntmps24
  go_wp2_with (go_at_call 47; refine H0.out.mono ?_; rintro e w' ⟨rfl, hw'⟩; cases hw')
  go_wp2_with (go_at_call 18; refine (HL).mono ?_; rintro e w' ⟨rfl, rfl⟩)
  go_ret
  exact ⟨rfl, rfl⟩
set_option maxHeartbeats 1000000 in
theorem put_not (p : Option Addr) (w : World) (H : Calls Try.prog 47 #[.pointer p] w fun e w' => e = .returned (.bool false) ∧ w' = w) (a : Option Addr) (k c : Nat) :
    Calls Try.prog 22 #[.pointer p, .slice a k c] w fun e w' => e = .returned (.int .i64 1) ∧ w' = w := by
  have hmx : Try.prog.follows .mixedOrders = true := by kernel_rfl
  have H0 := Aside0.mk H
  clear H
  go_enter Try.func22, Try.ntmps22
  go_wp2_with (go_at_call 47; refine H0.out.mono ?_; rintro e w' ⟨rfl, hw'⟩; cases hw')
  go_ret
  exact ⟨rfl, rfl⟩
set_option maxHeartbeats 1000000 in
theorem runs_not (p : Option Addr) (w : World) (H : Calls Try.prog 47 #[.pointer p] w fun e w' => e = .returned (.bool false) ∧ w' = w) :
    Calls Try.prog 30 #[.pointer p] w fun e w' => e = .returned (.slice none 0 0) ∧ w' = w := by
  have H0 := Aside0.mk H
  clear H
  go_enter Try.func30, Try.ntmps30
  go_wp2_with (go_at_call 47; refine H0.out.mono ?_; rintro e w' ⟨rfl, hw'⟩; cases hw')
  go_ret
  exact ⟨rfl, rfl⟩
end Go.Proofs.Ytghpjlohoehdnaa.Sep

/-! Sorted and Top of nothing. No condition beyond those that each theorem names. -/
namespace Go.Proofs.Ytghpjlohoehdnaa.Sep
open Go Go.RowKit Go.Shelf
attribute [local go_sem] Oper.semAt_some
set_option linter.unusedVariables false
set_option linter.unusedSimpArgs false
set_option maxRecDepth 100000 in
set_option maxHeartbeats 4000000 in
theorem sorted1_nil (Bo Br : Nat) (so : Value) (by_ : Order) (X0 : Nat → Prop) (w : World) (hco : w.cell? ⟨Bo, 0, none⟩ = some so) (hcr : w.cell? ⟨Br, 0, none⟩ = some .nilFunc)
    (ho : Ord w so by_) (hby : by_.length ≤ 1000) (hX : ∀ j, X0 j → j < w.heap.size) :
    Calls Try.prog 60 #[.pointer (some ⟨Bo, 0, none⟩), .pointer (some ⟨Br, 0, none⟩)] w (Made (fun _ => False) 0 [] X0 w) := by
  have hro : Fence.wide.round = none := rfl
  have hmx : Try.prog.follows .mixedOrders = true := by kernel_rfl
  have hb2 : Below w.heap.size w ((w.alloc (.cells #[.nilFunc] 31)).alloc (.cells #[.int .i64 0] 25)) := ((Below.refl _ w).alloc (Nat.le_refl _) _).alloc (by simp) _
  have hsz2 : ((w.alloc (.cells #[.nilFunc] 31)).alloc (.cells #[.int .i64 0] 25)).heap.size = w.heap.size + 2 := by simp
  have bA := (Boxed.new w 31 .nilFunc).alloc (.cells #[.int .i64 0] 25)
  have bB := Boxed.new (w.alloc (.cells #[.nilFunc] 31)) 25 (.int .i64 0)
  rw [World.size_alloc] at bB
  have hNew := new_sr so by_ 64 _ (ho.below hb2) hby (by decide) (by decide)
  have hco2 := (cell_of_block (hb2.block Bo (cell_lt hco)) 0).trans hco
  have hcr2 := (cell_of_block (hb2.block Br (cell_lt hcr)) 0).trans hcr
  have HB2 := Aside0.mk hb2
  have HbA := Aside0.mk (And.intro bA bB)
  clear hb2 bA bB
  have hCN := (callsIn_wide (n := 8)).2 hNew
  refine (callsIn_wide (n := 9)).1 ?_
  refine callsIn_of_wp_marks Try.func60 rfl trivial ?_ hro
  simp only [Try.ntmps60, List.size_toArray, List.length_cons, List.length_nil, Nat.reduceAdd, Nat.reduceSub, Array.replicate_succ, Array.replicate_zero, List.push_toArray, List.append_toArray, List.nil_append, List.cons_append]
  gi_upto_region 1 with fail
  generalize (w.alloc (.cells #[.nilFunc] 31)).alloc (.cells #[.int .i64 0] 25) = w2 at HB2 HbA hsz2 hco2 hcr2 hNew hCN ⊢
  gi_upto_region 2 with (refine ⟨trivial, ?_⟩; gi_at_call 21; refine hCN.mono ?_; rintro e w3 ⟨S, rfl, hS, hsr, hb3⟩)
  have hbw3 : Below w.heap.size w w3 := below_step HB2.out hb3 HB2.out.size
  have hb4 : Below w3.heap.size w3 (w3.alloc (.cells #[.pointer (some ⟨S, 0, none⟩)] 37)) := (Below.refl _ w3).alloc (Nat.le_refl _) _
  have hsz4 : (w3.alloc (.cells #[.pointer (some ⟨S, 0, none⟩)] 37)).heap.size = w3.heap.size + 1 := by simp
  have hs3 := hb3.size
  have hbw4 : Below w.heap.size w (w3.alloc (.cells #[.pointer (some ⟨S, 0, none⟩)] 37)) := below_step hbw3 hb4 hbw3.size
  have hcr4 := (cell_of_block (hbw4.block Br (cell_lt hcr)) 0).trans hcr
  have hc4 := (Boxed.new w3 37 (.pointer (some ⟨S, 0, none⟩))).cell
  have hsr4 := hsr.below hb4
  have b0 := boxed_same (hb4.block _ (by omega)) (boxed_same (hb3.block _ (by omega)) HbA.out.1)
  have b1 := boxed_same (hb4.block _ (by omega)) (boxed_same (hb3.block _ (by omega)) HbA.out.2)
  have hRows := (callsIn_wide (n := 8)).2 (rows_ok2 S by_ 64 [] [] 0 false _ _ hsr4 (fun h => (h rfl).elim))
  have HW := Aside0.mk (And.intro hbw4 (And.intro hsz4 (And.intro b0 (And.intro b1 (And.intro hS hs3)))))
  have HX := Aside0.mk hX
  clear hbw3 hb3 hCN hNew hco2 hcr2 HbA hco HB2 hb4 hsr hsr4 hbw4 hsz4 b0 b1 hS hs3
  generalize hP0 : w3.heap.size = P at *
  generalize w3.alloc (.cells #[.pointer (some ⟨S, 0, none⟩)] 37) = w4 at *
  have hfn : ∀ (w : World), (binOp .eql 31 .nilFunc .nilFunc).run Try.prog w = .ok (.bool true) w := fun _ => rfl
  have hlo : w.heap.size < w4.heap.size ∧ w.heap.size + 1 < w4.heap.size := by
    have := HW.out
    omega
  have hn0 : ∀ j, j < w2.heap.size → ¬ (w2.heap.size ≤ j ∧ j < P) := fun j h1 h2 => by omega
  gi_wp2_with (refine ⟨trivial, ?_⟩; gi_at_call 24; refine hRows.mono ?_; rintro e w5 ⟨gf, lbf, prs, R5, rfl, hg5, hs5, hit5, hp5, hz5, hR5⟩; have hb50 := boxed_same (hg5.block w.heap.size hlo.1 (hn0 _ (by omega))) HW.out.2.2.1; have hb51 := boxed_same (hg5.block (w.heap.size + 1) hlo.2 (hn0 _ (by omega))) HW.out.2.2.2.1; have hc50 := hb50.cell; have hf50 := hb50.frozen; have hc51 := hb51.cell; have hf51 := hb51.frozen; have H5 := Aside0.mk (And.intro hg5 (And.intro hit5 (And.intro hp5 (And.intro hz5 (And.intro hR5 (And.intro hb50 hb51)))))); clear hg5 hs5 hit5 hp5 hz5 hR5 hb50 hb51)
  obtain ⟨hg5, hit5, hp5, hz5, hR5, hb50, hb51⟩ := H5.out
  have h5s := hg5.size
  obtain ⟨hbw4, hsz4, b0, b1, hS, hs3⟩ := HW.out
  have e0 := Boxed.set (.int .i64 0) ((Below.heap_setCell w5 ⟨w.heap.size, 0, none⟩ (.func (.func gf) #[] lbf) (w.heap.size + 1) (Nat.succ_ne_self _)).trans hb51)
  have e1 := (Below.heap_setCell (w5.setCell ⟨w.heap.size, 0, none⟩ (.func (.func gf) #[] lbf)) ⟨w.heap.size + 1, 0, none⟩ (.int .i64 0) w.heap.size (by show w.heap.size ≠ w.heap.size + 1; omega)).trans (hb50.set (.func (.func gf) #[] lbf))
  have s6 : ∀ j, j ≠ w.heap.size → j ≠ w.heap.size + 1 → ((w5.setCell ⟨w.heap.size, 0, none⟩ (.func (.func gf) #[] lbf)).setCell ⟨w.heap.size + 1, 0, none⟩ (.int .i64 0)).heap[j]? = w5.heap[j]? := fun j h1 h2 =>
    (Below.heap_setCell _ _ _ j h2).trans (Below.heap_setCell _ _ _ j h1)
  have sz6 : ((w5.setCell ⟨w.heap.size, 0, none⟩ (.func (.func gf) #[] lbf)).setCell ⟨w.heap.size + 1, 0, none⟩ (.int .i64 0)).heap.size = w5.heap.size := by rw [size_setCell, size_setCell]
  have hpn : prs = [] := by
    have : prs.map Prod.snd = [] := hp5
    exact List.map_eq_nil_iff.1 this
  subst hpn
  refine ⟨_, res60 w.heap.size _ _ 0 _ rfl rfl e1 e0, ⟨hg5.os.trans hbw4.os, hg5.tape.trans hbw4.tape, hg5.output.trans hbw4.output, by rw [sz6]; omega, ?_⟩, .inl ⟨rfl, _, R5, rfl, ?_, ?_⟩⟩
  · intro j hj _
    rw [s6 j (by omega) (by omega), hg5.block j (by omega) (by rintro ⟨h, _⟩; omega), hbw4.block j hj]
  · refine hit5.m.later (by rw [sz6]; exact Nat.le_refl _) (fun j hj => s6 j ?_ ?_) (fun j hj => hj.elim)
    · rintro rfl
      rcases hR5 _ hj with h | h <;> omega
    · rintro rfl
      rcases hR5 _ hj with h | h <;> omega
  · intro j hj hx
    have := HX.out j hx
    rcases hR5 j hj with h | h <;> omega
end Go.Proofs.Ytghpjlohoehdnaa.Sep

/-! sort.later over what Top makes; Top and Distinct of nothing. No condition beyond those that each theorem names. -/
namespace Go.Proofs.Ytghpjlohoehdnaa.Sep
open Go Go.RowKit Go.Shelf
attribute [local go_sem] Oper.semAt_some
set_option linter.unusedVariables false
set_option linter.unusedSimpArgs false
set_option maxRecDepth 100000 in
set_option maxHeartbeats 4000000 in
theorem later1_t (n : Nat) (hn : 6 ≤ n) (l B : Nat) (lbm : Array Value) (er : Int) (cs : List Cd) (M : Nat → Prop)
    (J Jx : List (RV × Int) → (Nat → Prop) → World → Prop) (X : Nat → Prop) (W : World) (hX : ∀ j, X j → j < W.heap.size) (hM : ∀ j, M j → j < W.heap.size ∧ ¬ X j) (hJ : StableM M W.heap.size J) (hJx : StableM M W.heap.size Jx)
    (hB : B < W.heap.size) (hcb : W.cell? ⟨B, 0, none⟩ = some (.func (.func 61) #[] lbm)) (hmk : ∀ W1, Below W.heap.size W W1 → Calls Try.prog 61 lbm W1 (Made M er cs X W1))
    (hY : ∀ pre x X1 W1, GC (lc er cs) pre x X1 W1 → J pre X1 W1 → GrM M X X1 W.heap.size W W1 → YieldAt Fence.wide (n - 1) Try.prog l (enc x) W1 fun e W' =>
      ∃ X', Gr X1 X' W1.heap.size W1 W' ∧ ((e = .returned (.bool true) ∧ J (pre ++ [x]) X' W') ∨ (e = .returned (.bool false) ∧ Jx (pre ++ [x]) X' W')))
    (h0 : J [] X W) :
    CallsIn Fence.wide n Try.prog 79 #[.func (.yield l) #[] #[], .pointer (some ⟨B, 0, none⟩)] W fun e W' => (∃ v, e = .returned v) ∧
      ∃ X', GrM M X X' W.heap.size W W' ∧ ((∃ ys, FinC (lc er cs) ys ∧ J ys X' W') ∨ ∃ pre, Jx pre X' W') := by
  have hro : Fence.wide.round = none := rfl
  have h1 : 1 ≤ n := by omega
  have cY := Boxed.new W 72 (.func (.yield l) #[] #[])
  have hbel : Below W.heap.size W (W.alloc (.cells #[.func (.yield l) #[] #[]] 72)) := (Below.refl _ W).alloc (Nat.le_refl _) _
  have hsz : (W.alloc (.cells #[.func (.yield l) #[] #[]] 72)).heap.size = W.heap.size + 1 := by simp
  have hcb1 := (cell_of_block (hbel.block B hB) 0).trans hcb
  refine callsIn_of_wp_marks Try.func79 rfl trivial ?_ hro
  simp only [Try.ntmps79, List.size_toArray, List.length_cons, List.length_nil, Nat.reduceAdd, Nat.reduceSub, Array.replicate_succ, Array.replicate_zero, List.push_toArray, List.append_toArray, List.nil_append, List.cons_append]
  generalize hW1 : W.alloc (.cells #[.func (.yield l) #[] #[]] 72) = W1 at cY hbel hsz hcb1
  have hmk1 := callsIn_wide (n := n - 1).2 (hmk W1 hbel)
  by_cases he : er = 0
  · gi_upto_region 2 with (refine ⟨trivial, ?_⟩; gi_at_call 61; refine hmk1.mono ?_; rintro e w2 ⟨hb2, ⟨_, v, R', rfl, hit, hdis⟩ | ⟨hx, _⟩⟩; rotate_left; exact absurd he hx)
    subst he
    have hlc : lc 0 cs = cs := if_pos rfl
    rw [hlc] at hY
    have HLc := Aside0.mk hlc
    have hW2 : BelM M W.heap.size W w2 := (BelM.of hbel).trans hb2 (by omega)
    have hag : AgM M X W.heap.size W w2 := ⟨hW2.os, hW2.tape, hW2.output, hW2.size, fun j hj => by
      rcases hj with h | h
      · exact hW2.block j (hX j h) (fun hm => (hM j hm).2 h)
      · exact hW2.block j h.1 h.2⟩
    have hgr : GrM M X X W.heap.size W w2 := ⟨hW2.os, hW2.tape, hW2.output, hW2.size, fun j hj _ hm => hW2.block j hj hm, fun j h => .inl h, fun j h => Nat.lt_of_lt_of_le (hX j h) hW2.size⟩
    have hMn : ∀ j, W.heap.size ≤ j → ¬ M j := fun j hj hm => by have := (hM j hm).1; omega
    have cY2 : Boxed w2 W.heap.size 72 (.func (.yield l) #[] #[]) := (hb2.block W.heap.size (by omega) (hMn _ (Nat.le_refl _))).trans cY
    have hs2 : W.heap.size + 1 ≤ w2.heap.size := by have := hb2.size; omega
    obtain ⟨g, lb, rfl, eg, hq⟩ := hit.ex
    have HC := Aside0.mk (And.intro hag (And.intro hgr cY2))
    have HR := Aside0.mk (And.intro hit.lt hdis)
    clear hag hgr hb2 hW2 hmk1 hmk hcb1 hcb hbel hW1 hsz cY2 cY hlc hdis
    have hIX : ∀ c, StableM (fun _ => False) w2.heap.size (LX M Jx X W c) := fun c pre X' A B ⟨k1, k2, k3⟩ ha => by
      have := LI.stable hJx (show W.heap.size ≤ w2.heap.size by omega) pre X' A B ⟨k2, k3⟩ ha
      exact ⟨k1, this.1, this.2⟩
    gi_wp2
    refine wpIn_rangeFunc_m hro h1 (gf := g) (lb := lb) rfl trivial eg (hq (n - 1)) GC.anti (fun _ => rfl) X (Nat.le_refl _) (fun j hj => ⟨HR.out.1 j hj, HR.out.2 j hj, rfl⟩) (fun j hj => hj.elim) (fun j hj => by have := hX j hj; omega)
      (LI M J X W) (LX M Jx X W) (LI.stable hJ (by omega)) hIX ⟨hJ _ _ _ _ h0 HC.out.1, HC.out.2.1⟩ ?round ?done ?stop
    case round =>
      rintro lab pre ⟨⟨ra, rn, rc⟩, e⟩ X1 Wa hl hG ⟨b1, b2⟩ hg hXl hlt ⟨lr, hlr⟩
      have HG := Aside0.mk (And.intro hG (And.intro hlr (And.intro b1 (And.intro b2 hg))))
      have HL := Aside0.mk (And.intro hl (And.intro hXl hlt))
      clear hG hlr b1 b2 hg hl hXl hlt
      gi_wp2
      try refine ⟨fun _ _ _ => trivial, Nat.le_refl _, trivial, trivial, trivial, ?_⟩
      intro W3 z1 z2 z3 z4 z5
      obtain ⟨hG, hlr, b1, b2, hg⟩ := HG.out
      obtain ⟨hl, hXl, hlt⟩ := HL.out
      have hW0 := HC.out.2.1.size
      have hg1 := hg.size
      have hag3 : AgM M X1 W.heap.size Wa W3 := ⟨z2, z3, z4, by omega, fun j hj => z5 j (by rintro rfl; rcases hj with h | h; exact hXl h; omega)⟩
      have hJ3 := hJ _ _ _ _ b1 hag3
      have hg3 : GrM M X X1 W.heap.size W W3 := ⟨z2.trans b2.os, z3.trans b2.tape, z4.trans b2.output, by rw [z1]; exact b2.size, fun j hj hx hm => (z5 j (by omega)).trans (b2.block j hj hx hm), b2.sub, fun j hj => by rw [z1]; exact b2.lt j hj⟩
      have cY3 : W3.cell? ⟨W.heap.size, 0, none⟩ = some (.func (.yield l) #[] #[]) := (cell_of_block ((z5 _ (by omega)).trans (hg.block _ (by omega) (fun h => by have := hX _ h; omega) (fun h => h))) 0).trans (Boxed.cell HC.out.2.2)
      have hG3 : GC cs pre (⟨ra, rn, rc⟩, e) X1 W3 := hG.same (by omega) (fun row hc j hj => z5 j (cont_ne hc hlr j hj))
      obtain ⟨fn, tmps, assign, body, hy, hR⟩ := yield_wide (m := n - 1 - 1 - 1) (hY _ _ X1 W3 hG3 hJ3 hg3)
      dsimp only [enc] at hy
      have hR' : RoundIn (Fence.wide.inRound lab) (n - 1 - 1 - 1) Try.prog l fn tmps assign body W3 _ := hR
      have hz3 : W3.heap.size = Wa.heap.size := z1
      clear hG hlr b1 b2 hg hag3 hG3 hR hl hXl hlt
      gi_wp2
      refine ⟨(fun h => by cases h), ?_⟩
      refine hR'.mono ?_
      rintro e4 W4 ⟨X4, g4, (⟨rfl, j4⟩ | ⟨rfl, j4⟩)⟩
      · have g5 := hg3.trans g4.m hg3.size
        rw [hz3] at g4
        have HF := Aside0.mk (And.intro g4 (show LI M J X W (pre ++ [(⟨ra, rn, rc⟩, e)]) X4 W4 from ⟨j4, g5⟩))
        clear g4 g5 j4 hy
        gi_wp2
        exact ⟨X4, HF.out.1, HF.out.2⟩
      · have g5 := hg3.trans g4.m hg3.size
        rw [hz3] at g4
        have HF := Aside0.mk (And.intro g4 (show LX M Jx X W .ret (pre ++ [(⟨ra, rn, rc⟩, e)]) X4 W4 from ⟨rfl, j4, g5⟩))
        clear g4 g5 j4 hy
        gi_wp2
        exact ⟨X4, HF.out.1, HF.out.2⟩
    case done =>
      rintro ys Xd Wd hfin ⟨b1, b2⟩ hg hn hK
      have hD : W.heap.size ≤ w2.heap.size := by omega
      have j2 := hJ _ _ _ _ b1 (agm_put Wd (.deferred none) hn hD)
      have HD := Aside0.mk (And.intro hK (And.intro j2 (And.intro (b2.put (.deferred none) hD) hfin)))
      clear hfin b1 b2 hg hK j2
      gi_wp2
      refine ⟨by simp, .inl ⟨_, _, rfl, run_takeDeferred HD.out.1, ?_⟩⟩
      refine ⟨_, results_none rfl _ _ _, ⟨_, rfl⟩, Xd, HD.out.2.2.1, .inl ⟨ys, ?_, HD.out.2.1⟩⟩
      rw [HLc.out]
      exact HD.out.2.2.2
    case stop =>
      rintro c pre Xd Wd ⟨rfl, b1, b2⟩ hg hn hK
      have hD : W.heap.size ≤ w2.heap.size := by omega
      have j2 := hJx _ _ _ _ b1 (agm_put Wd (.deferred none) hn hD)
      have HD := Aside0.mk (And.intro hK (And.intro j2 (b2.put (.deferred none) hD)))
      clear b1 b2 hg hK j2
      gi_wp2
      refine ⟨by simp, .inl ⟨_, _, rfl, run_takeDeferred HD.out.1, ?_⟩⟩
      exact ⟨_, results_none rfl _ _ _, ⟨_, rfl⟩, Xd, HD.out.2.2, .inr ⟨pre, HD.out.2.1⟩⟩
  · gi_upto_region 2 with (refine ⟨trivial, ?_⟩; gi_at_call 61; refine hmk1.mono ?_; rintro e w2 ⟨hb2, ⟨hx, _⟩ | ⟨_, rfl⟩⟩; exact absurd hx he)
    have hlc : lc er cs = [(er, [])] := if_neg he
    have hW2 : BelM M W.heap.size W w2 := (BelM.of hbel).trans hb2 (by omega)
    have hag : AgM M X W.heap.size W w2 := ⟨hW2.os, hW2.tape, hW2.output, hW2.size, fun j hj => by
      rcases hj with h | h
      · exact hW2.block j (hX j h) (fun hm => (hM j hm).2 h)
      · exact hW2.block j h.1 h.2⟩
    have hgr : GrM M X X W.heap.size W w2 := ⟨hW2.os, hW2.tape, hW2.output, hW2.size, fun j hj _ hm => hW2.block j hj hm, fun j h => .inl h, fun j h => Nat.lt_of_lt_of_le (hX j h) hW2.size⟩
    have hMn : ∀ j, W.heap.size ≤ j → ¬ M j := fun j hj hm => by have := (hM j hm).1; omega
    have cY2 : Boxed w2 W.heap.size 72 (.func (.yield l) #[] #[]) := (hb2.block W.heap.size (by omega) (hMn _ (Nat.le_refl _))).trans cY
    have cY3 := cY2.cell
    have hne : (er != 0) = true := by simpa using he
    obtain ⟨fn, tmps, assign, body, hy, hR⟩ := yield_wide (m := n - 1) (hY [] (RV.nil, er) X w2 ⟨(er, []), by rw [hlc]; rfl, rfl, fun h0 => absurd h0 he⟩ (hJ _ _ _ _ h0 hag) hgr)
    have HC := Aside0.mk (And.intro hgr hlc)
    clear hag hgr hb2 hW2 hmk1 hmk hcb1 hcb hbel hW1 hsz cY2 cY hlc hY
    dsimp only [enc, RV.nil] at hy
    gi_wp2
    refine hR.mono ?_
    rintro e4 W4 ⟨X4, g4, h4⟩
    have hD : FinC (lc er cs) [(RV.nil, er)] := by rw [HC.out.2]; rfl
    have HF := Aside0.mk (show ∃ X', GrM M X X' W.heap.size W W4 ∧ ((∃ ys, FinC (lc er cs) ys ∧ J ys X' W4) ∨ ∃ pre, Jx pre X' W4) from
      ⟨X4, HC.out.1.trans g4.m HC.out.1.size, h4.imp (fun h => ⟨_, hD, h.2⟩) (fun h => ⟨_, h.2⟩)⟩)
    obtain ⟨bv, rfl⟩ : ∃ bv, e4 = .returned (.bool bv) := by rcases h4 with ⟨h, _⟩ | ⟨h, _⟩; exact ⟨_, h⟩; exact ⟨_, h⟩
    clear h4 g4 hD hy hR
    gi_wp2
    exact ⟨_, results_none rfl _ _ _, ⟨_, rfl⟩, HF.out⟩
/-- LATER's iterator -/
theorem later_t (B : Nat) (lbm : Array Value) (er : Int) (cs : List Cd) (M R : Nat → Prop) (w : World) (hB : R B) (hRl : ∀ j, R j → j < w.heap.size) (hMl : ∀ j, M j → j < w.heap.size) (hRM : ∀ j, M j → ¬ R j)
    (hcb : w.cell? ⟨B, 0, none⟩ = some (.func (.func 61) #[] lbm))
    (hmk : ∀ (X : Nat → Prop) (W1 : World), w.heap.size ≤ W1.heap.size → (∀ j, R j ∨ M j → W1.heap[j]? = w.heap[j]?) → (∀ j, R j ∨ M j → ¬ X j) → (∀ j, X j → j < W1.heap.size) → Calls Try.prog 61 lbm W1 (Made M er cs X W1)) :
    ItM M R (.func (.func 79) #[] #[.pointer (some ⟨B, 0, none⟩)]) (lc er cs) w := by
  refine ⟨⟨79, _, rfl, enters_of Try.func79 (by kernel_rfl) rfl, ?_⟩, hRl, hMl⟩
  intro n l J Jx X W hs hR hM hX hJ hJx hY h0
  have hcb1 := (cell_of_block (hR B hB).2.2 0).trans hcb
  refine callsIn_wide.2 (callsIn_wide.1 (later1_t 6 (Nat.le_refl _) l B lbm er cs M J Jx X W hX (fun j hj => ⟨Nat.lt_of_lt_of_le (hM j hj).1 hs, (hM j hj).2.1⟩) hJ hJx (Nat.lt_of_lt_of_le (hRl B hB) hs) hcb1 ?_ (fun pre x X1 W1 p q r => yield_wide (hY pre x X1 W1 p q r)) h0))
  intro W1 hb
  refine hmk X W1 (Nat.le_trans hs hb.size) ?_ ?_ (fun j hj => Nat.lt_of_lt_of_le (hX j hj) hb.size)
  · rintro j (hj | hj)
    · exact (hb.block j (Nat.lt_of_lt_of_le (hRl j hj) hs)).trans (hR j hj).2.2
    · exact (hb.block j (Nat.lt_of_lt_of_le (hMl j hj) hs)).trans (hM j hj).2.2
  · rintro j (hj | hj)
    · exact (hR j hj).2.1
    · exact (hM j hj).2.1
theorem list_nil (w : World) : Calls Try.prog 18 #[.slice none 0 0] w fun e w' => e = .returned (.func (.func 41) #[] #[.pointer (some ⟨w.heap.size, 0, none⟩)]) ∧ Below w.heap.size w w' ∧ ItC (.func (.func 41) #[] #[.pointer (some ⟨w.heap.size, 0, none⟩)]) [] (fun j => j = w.heap.size ∨ False) w' := by
  refine (callsIn_wide.1 (list_make 1 none 0 0 w)).mono ?_
  rintro e W' ⟨rfl, rfl⟩
  have b1 : Below w.heap.size w (w.alloc (.cells #[.slice none 0 0] 22)) := below_new _
  obtain ⟨prs, e1, e2, it⟩ := list_c w.heap.size (.slice none 0 0) [] (fun _ => False) (w.alloc (.cells #[.slice none 0 0] 22)) (by simp) (fun j hj => hj.elim) (Boxed.new w 22 (.slice none 0 0)).cell (.inl ⟨none, 0, rfl, rfl⟩) (by simp)
  cases List.map_eq_nil_iff.1 e1
  exact ⟨rfl, b1, it⟩
theorem res61 (N : Nat) (W : World) (v : Value) (e : Int) (tmps : Array Value) (h2 : tmps.getD 3 undef = .pointer (some ⟨N, 0, none⟩)) (h3 : tmps.getD 4 undef = .pointer (some ⟨N + 1, 0, none⟩))
    (b0 : Boxed W N 31 v) (b1 : Boxed W (N + 1) 25 (.int .i64 e)) : (results Try.f61 tmps).run Try.prog W = .ok (.tuple #[v, .int .i64 e]) W := by
  have hr : Try.f61.results = #[.cell 3 31, .cell 4 25] := rfl
  have c0 := b0.cell
  have c1 := b1.cell
  have f0 := b0.frozen
  have f1 := b1.frozen
  simp only [results, hr]
  rw [Array.getD_eq_getD_getElem?] at h2 h3
  simp [Sem.run_bind, Result.andThen, h2, h3]
  go_simp
set_option maxRecDepth 100000 in
set_option maxHeartbeats 4000000 in
theorem top1_nil (Br Bo Bn : Nat) (X0 : Nat → Prop) (w : World) (hcr : w.cell? ⟨Br, 0, none⟩ = some .nilFunc) (hX : ∀ j, X0 j → j < w.heap.size) :
    Calls Try.prog 61 #[.pointer (some ⟨Br, 0, none⟩), .pointer (some ⟨Bo, 0, none⟩), .pointer (some ⟨Bn, 0, none⟩)] w (Made (fun _ => False) 0 [] X0 w) := by
  have hro : Fence.wide.round = none := rfl
  have hfn : ∀ (w : World), (binOp .eql 31 .nilFunc .nilFunc).run Try.prog w = .ok (.bool true) w := fun _ => rfl
  have hb3 : Below w.heap.size w (((w.alloc (.cells #[.nilFunc] 31)).alloc (.cells #[.int .i64 0] 25)).alloc (.cells #[.slice none 0 0] 22)) := (((Below.refl _ w).alloc (Nat.le_refl _) _).alloc (by simp) _).alloc (by simp; omega) _
  have hsz3 : (((w.alloc (.cells #[.nilFunc] 31)).alloc (.cells #[.int .i64 0] 25)).alloc (.cells #[.slice none 0 0] 22)).heap.size = w.heap.size + 3 := by simp
  have bA := ((Boxed.new w 31 .nilFunc).alloc (.cells #[.int .i64 0] 25)).alloc (.cells #[.slice none 0 0] 22)
  have bB := (Boxed.new (w.alloc (.cells #[.nilFunc] 31)) 25 (.int .i64 0)).alloc (.cells #[.slice none 0 0] 22)
  rw [World.size_alloc] at bB
  have hcr3 := (cell_of_block (hb3.block Br (cell_lt hcr)) 0).trans hcr
  have HB := Aside0.mk (And.intro hb3 (And.intro bA bB))
  clear hb3 bA bB
  refine (callsIn_wide (n := 9)).1 ?_
  refine callsIn_of_wp_marks Try.func61 rfl trivial ?_ hro
  simp only [Try.ntmps61, List.size_toArray, List.length_cons, List.length_nil, Nat.reduceAdd, Nat.reduceSub, Array.replicate_succ, Array.replicate_zero, List.push_toArray, List.append_toArray, List.nil_append, List.cons_append]
  gi_upto_region 2 with fail
  generalize ((w.alloc (.cells #[.nilFunc] 31)).alloc (.cells #[.int .i64 0] 25)).alloc (.cells #[.slice none 0 0] 22) = w3 at HB hsz3 hcr3 ⊢
  have c0 := HB.out.2.1.cell
  have f0 := HB.out.2.1.frozen
  have c1 := HB.out.2.2.cell
  have f1 := HB.out.2.2.frozen
  have HL := (callsIn_wide (n := 8)).2 (list_nil w3)
  have HL := Aside0.mk HL
  gi_wp2_with (refine ⟨trivial, ?_⟩; gi_at_call 18; refine HL.out.mono ?_; rintro e w4 ⟨rfl, hb4, hit⟩; have H4 := Aside0.mk (And.intro hb4 hit); have c40 := (boxed_same (hb4.block w.heap.size (by omega)) HB.out.2.1).cell; have f40 := (boxed_same (hb4.block w.heap.size (by omega)) HB.out.2.1).frozen; have c41 := (boxed_same (hb4.block (w.heap.size + 1) (by omega)) HB.out.2.2).cell; have f41 := (boxed_same (hb4.block (w.heap.size + 1) (by omega)) HB.out.2.2).frozen; clear hb4 hit)
  obtain ⟨hb4, hit⟩ := H4.out
  obtain ⟨hb3, b0, b1⟩ := HB.out
  have h4s := hb4.size
  rw [hsz3] at hit
  have e0 := Boxed.set (.int .i64 0) ((Below.heap_setCell w4 ⟨w.heap.size, 0, none⟩ (.func (.func 41) #[] #[.pointer (some ⟨w.heap.size + 3, 0, none⟩)]) (w.heap.size + 1) (Nat.succ_ne_self _)).trans (boxed_same (hb4.block (w.heap.size + 1) (by omega)) b1))
  have e1 := (Below.heap_setCell (w4.setCell ⟨w.heap.size, 0, none⟩ (.func (.func 41) #[] #[.pointer (some ⟨w.heap.size + 3, 0, none⟩)])) ⟨w.heap.size + 1, 0, none⟩ (.int .i64 0) w.heap.size (by show w.heap.size ≠ w.heap.size + 1; omega)).trans ((boxed_same (hb4.block w.heap.size (by omega)) b0).set (.func (.func 41) #[] #[.pointer (some ⟨w.heap.size + 3, 0, none⟩)]))
  have s6 : ∀ j, j ≠ w.heap.size → j ≠ w.heap.size + 1 → ((w4.setCell ⟨w.heap.size, 0, none⟩ (.func (.func 41) #[] #[.pointer (some ⟨w.heap.size + 3, 0, none⟩)])).setCell ⟨w.heap.size + 1, 0, none⟩ (.int .i64 0)).heap[j]? = w4.heap[j]? := fun j h1 h2 =>
    (Below.heap_setCell _ _ _ j h2).trans (Below.heap_setCell _ _ _ j h1)
  have sz6 : ((w4.setCell ⟨w.heap.size, 0, none⟩ (.func (.func 41) #[] #[.pointer (some ⟨w.heap.size + 3, 0, none⟩)])).setCell ⟨w.heap.size + 1, 0, none⟩ (.int .i64 0)).heap.size = w4.heap.size := by rw [size_setCell, size_setCell]
  refine ⟨_, res61 w.heap.size _ _ 0 _ rfl rfl e1 e0, ⟨hb4.os.trans hb3.os, hb4.tape.trans hb3.tape, hb4.output.trans hb3.output, by rw [sz6]; omega, ?_⟩, .inl ⟨rfl, _, fun j => j = w.heap.size + 3 ∨ False, rfl, ?_, ?_⟩⟩
  · intro j hj _
    rw [s6 j (by omega) (by omega), hb4.block j (by omega), hb3.block j hj]
  · refine hit.m.later (by rw [sz6]; exact Nat.le_refl _) (fun j hj => s6 j ?_ ?_) (fun j hj => hj.elim)
    · rintro rfl
      rcases hj with h | h <;> omega
    · rintro rfl
      rcases hj with h | h <;> omega
  · rintro j (hj | hj) hx
    · have := hX j hx
      omega
    · exact hj
set_option maxRecDepth 100000 in
set_option maxHeartbeats 1000000 in
theorem dist_nil1 (n : Nat) (hn : 1 ≤ n) (l A : Nat) (W : World) (hA : A < W.heap.size) (hca : W.cell? ⟨A, 0, none⟩ = some .nilFunc) :
    CallsIn Fence.wide n Try.prog 54 #[.func (.yield l) #[] #[], .pointer (some ⟨A, 0, none⟩)] W fun e W' => (∃ v, e = .returned v) ∧ Below W.heap.size W W' := by
  have hro : Fence.wide.round = none := rfl
  have hfn : ∀ (w : World), (binOp .eql 31 .nilFunc .nilFunc).run Try.prog w = .ok (.bool true) w := fun _ => rfl
  have hbel : Below W.heap.size W (W.alloc (.cells #[.func (.yield l) #[] #[]] 72)) := below_new _
  have cA1 := (cell_of_block (hbel.block A hA) 0).trans hca
  refine callsIn_of_wp Try.func54 rfl trivial ?_ hro
  simp only [Try.ntmps54, List.size_toArray, List.length_cons, List.length_nil, Nat.reduceAdd, Nat.reduceSub, Array.replicate_succ, Array.replicate_zero, List.push_toArray, List.append_toArray, List.nil_append, List.cons_append]
  gi_upto_region 1 with fail
  generalize W.alloc (.cells #[.func (.yield l) #[] #[]] 72) = W1 at hbel cA1 ⊢
  gi_wp2
  refine bodyPost_ret (results_none rfl _ _ _) rfl ?_
  exact ⟨⟨_, rfl⟩, hbel⟩
theorem dist_nil_c (A : Nat) (w : World) (hA : A < w.heap.size) (hca : w.cell? ⟨A, 0, none⟩ = some .nilFunc) :
    ItC (.func (.func 54) #[] #[.pointer (some ⟨A, 0, none⟩)]) [] (fun j => j = A) w := by
  refine ⟨⟨⟨54, _, rfl, enters_of Try.func54 (by kernel_rfl) rfl, ?_⟩, ?_⟩, fun p hp h0 => by cases hp⟩
  · intro n l J Jx X W hs hR hX hJ hJx hY h0
    refine (callsIn_wide.2 (callsIn_wide.1 (dist_nil1 6 (by decide) l A W (Nat.lt_of_lt_of_le hA hs) ((cell_of_block (hR A rfl).2.2 0).trans hca)))).mono ?_
    rintro e W' ⟨h1, h2⟩
    exact ⟨h1, X, below_gr hX h2, .inl (hJ _ _ _ _ h0 (below_agree hX h2))⟩
  · rintro j rfl
    exact hA
theorem collect_zero (v : Value) (R : Nat → Prop) (w : World) (hit : ItM (fun _ => False) R v [] w) :
    Calls Try.prog 19 #[v] w fun e W' => ∃ a c, e = .returned (.tuple #[.slice a 0 c, .int .i64 0]) ∧ Below w.heap.size w W' := by
  refine (callsIn_wide.1 (collect_m 5 (by decide) v [] _ R w hit (by simp))).mono ?_
  rintro e W' ⟨hb, ⟨sv, rs, rfl, _, ho, _⟩ | ⟨k, c, hk, _⟩⟩
  · obtain ⟨a, c, rfl⟩ := own_slice ho
    exact ⟨a, c, rfl, hb.below⟩
  · simp at hk
end Go.Proofs.Ytghpjlohoehdnaa.Sep

/-! The iterators of the ends as values. No condition beyond those that each theorem names. -/
namespace Go.Proofs.Ytghpjlohoehdnaa.Sep
open Go Go.RowKit Go.Shelf
set_option linter.unusedVariables false
set_option linter.unusedSimpArgs false
theorem nil_sorted (w : World) : Calls Try.prog 33 #[.nilFunc, .slice none 0 0] w fun e w' => ∃ g la R, e = .returned (.func (.func g) #[] la) ∧ Below w.heap.size w w' ∧ ItM (fun _ => False) R (.func (.func g) #[] la) [] w' := by
  refine (sorted_make_nil none 0 0 w).mono ?_
  rintro e w' ⟨rfl, rfl⟩
  have c0 := ((Boxed.new w 31 .nilFunc).alloc (.cells #[.slice none 0 0] 42)).alloc (.cells #[.func (.func 60) #[] #[.pointer (some ⟨w.heap.size + 1, 0, none⟩), .pointer (some ⟨w.heap.size, 0, none⟩)]] 87)
  have c1 := (Boxed.new (w.alloc (.cells #[.nilFunc] 31)) 42 (.slice none 0 0)).alloc (.cells #[.func (.func 60) #[] #[.pointer (some ⟨w.heap.size + 1, 0, none⟩), .pointer (some ⟨w.heap.size, 0, none⟩)]] 87)
  have c2 := Boxed.new ((w.alloc (.cells #[.nilFunc] 31)).alloc (.cells #[.slice none 0 0] 42)) 87 (.func (.func 60) #[] #[.pointer (some ⟨w.heap.size + 1, 0, none⟩), .pointer (some ⟨w.heap.size, 0, none⟩)])
  have hb : Below w.heap.size w (((w.alloc (.cells #[.nilFunc] 31)).alloc (.cells #[.slice none 0 0] 42)).alloc (.cells #[.func (.func 60) #[] #[.pointer (some ⟨w.heap.size + 1, 0, none⟩), .pointer (some ⟨w.heap.size, 0, none⟩)]] 87)) := (((Below.refl _ w).alloc (Nat.le_refl _) _).alloc (by simp) _).alloc (by simp; omega) _
  have hsz : (((w.alloc (.cells #[.nilFunc] 31)).alloc (.cells #[.slice none 0 0] 42)).alloc (.cells #[.func (.func 60) #[] #[.pointer (some ⟨w.heap.size + 1, 0, none⟩), .pointer (some ⟨w.heap.size, 0, none⟩)]] 87)).heap.size = w.heap.size + 3 := by simp
  simp only [World.size_alloc] at c1 c2
  generalize ((w.alloc (.cells #[.nilFunc] 31)).alloc (.cells #[.slice none 0 0] 42)).alloc (.cells #[.func (.func 60) #[] #[.pointer (some ⟨w.heap.size + 1, 0, none⟩), .pointer (some ⟨w.heap.size, 0, none⟩)]] 87) = w3 at *
  refine ⟨79, _, fun j => w.heap.size ≤ j ∧ j < w3.heap.size, rfl, hb, ?_⟩
  have hm := later_m (w.heap.size + 2) _ 0 [] (fun _ => False) (fun j => w.heap.size ≤ j ∧ j < w3.heap.size) w3 ⟨by omega, by omega⟩ (fun j hj => hj.2) (fun j hj => hj.elim) (fun j hj => hj.elim) c2.cell ?_
  · exact hm
  · intro X W1 hs hbl hnx hX
    exact sorted1_nil (w.heap.size + 1) w.heap.size (.slice none 0 0) [] X W1 ((cell_of_block (hbl _ (.inl ⟨by omega, by omega⟩)) 0).trans c1.cell) ((cell_of_block (hbl _ (.inl ⟨by omega, by omega⟩)) 0).trans c0.cell) (.inl ⟨none, 0, rfl, rfl⟩) (by simp) hX
theorem nil_top (m : Int) (w : World) : Calls Try.prog 34 #[.nilFunc, .slice none 0 0, .int .i64 m] w fun e w' => ∃ g la R, e = .returned (.func (.func g) #[] la) ∧ Below w.heap.size w w' ∧ ItM (fun _ => False) R (.func (.func g) #[] la) [] w' := by
  refine (top_make_nil none 0 0 m w).mono ?_
  rintro e w' ⟨rfl, rfl⟩
  have c0 := (((Boxed.new w 31 .nilFunc).alloc (.cells #[.slice none 0 0] 42)).alloc (.cells #[.int .i64 m] 3)).alloc (.cells #[.func (.func 61) #[] #[.pointer (some ⟨w.heap.size, 0, none⟩), .pointer (some ⟨w.heap.size + 1, 0, none⟩), .pointer (some ⟨w.heap.size + 2, 0, none⟩)]] 87)
  have c2 := Boxed.new (((w.alloc (.cells #[.nilFunc] 31)).alloc (.cells #[.slice none 0 0] 42)).alloc (.cells #[.int .i64 m] 3)) 87 (.func (.func 61) #[] #[.pointer (some ⟨w.heap.size, 0, none⟩), .pointer (some ⟨w.heap.size + 1, 0, none⟩), .pointer (some ⟨w.heap.size + 2, 0, none⟩)])
  have hb : Below w.heap.size w ((((w.alloc (.cells #[.nilFunc] 31)).alloc (.cells #[.slice none 0 0] 42)).alloc (.cells #[.int .i64 m] 3)).alloc (.cells #[.func (.func 61) #[] #[.pointer (some ⟨w.heap.size, 0, none⟩), .pointer (some ⟨w.heap.size + 1, 0, none⟩), .pointer (some ⟨w.heap.size + 2, 0, none⟩)]] 87)) := ((((Below.refl _ w).alloc (Nat.le_refl _) _).alloc (by simp) _).alloc (by simp; omega) _).alloc (by simp; omega) _
  have hsz : ((((w.alloc (.cells #[.nilFunc] 31)).alloc (.cells #[.slice none 0 0] 42)).alloc (.cells #[.int .i64 m] 3)).alloc (.cells #[.func (.func 61) #[] #[.pointer (some ⟨w.heap.size, 0, none⟩), .pointer (some ⟨w.heap.size + 1, 0, none⟩), .pointer (some ⟨w.heap.size + 2, 0, none⟩)]] 87)).heap.size = w.heap.size + 4 := by simp
  simp only [World.size_alloc] at c2
  generalize (((w.alloc (.cells #[.nilFunc] 31)).alloc (.cells #[.slice none 0 0] 42)).alloc (.cells #[.int .i64 m] 3)).alloc (.cells #[.func (.func 61) #[] #[.pointer (some ⟨w.heap.size, 0, none⟩), .pointer (some ⟨w.heap.size + 1, 0, none⟩), .pointer (some ⟨w.heap.size + 2, 0, none⟩)]] 87) = w3 at *
  refine ⟨79, _, fun j => w.heap.size ≤ j ∧ j < w3.heap.size, rfl, hb, ?_⟩
  have hm := later_t (w.heap.size + 3) _ 0 [] (fun _ => False) (fun j => w.heap.size ≤ j ∧ j < w3.heap.size) w3 ⟨by omega, by omega⟩ (fun j hj => hj.2) (fun j hj => hj.elim) (fun j hj => hj.elim) c2.cell ?_
  · exact hm
  · intro X W1 hs hbl hnx hX
    exact top1_nil w.heap.size (w.heap.size + 1) (w.heap.size + 2) X W1 ((cell_of_block (hbl _ (.inl ⟨by omega, by omega⟩)) 0).trans c0.cell) hX
theorem nil_dist (w : World) : Calls Try.prog 28 #[.nilFunc] w fun e w' => ∃ g la R, e = .returned (.func (.func g) #[] la) ∧ Below w.heap.size w w' ∧ ItM (fun _ => False) R (.func (.func g) #[] la) [] w' := by
  refine (dist_make .nilFunc (.inr rfl) w).mono ?_
  rintro e w' ⟨rfl, rfl⟩
  exact ⟨54, _, _, rfl, below_new _, (dist_nil_c w.heap.size _ (by simp) (Boxed.new w 31 .nilFunc).cell).m⟩
theorem meter_c (k : Int) (k0 : Nat) (w : World) (h : max 0 k = (k0 : Int)) :
    Calls Try.prog 35 #[.int .i64 k] w fun e w' => e = .returned (.pointer (some ⟨w.heap.size, 0, none⟩)) ∧ Below w.heap.size w w' ∧ w.heap.size < w'.heap.size ∧ Boxed w' w.heap.size 92 (.int .i64 k0) := by
  refine (meter_make k k0 w h).mono ?_
  rintro e w' ⟨rfl, rfl⟩
  exact ⟨rfl, below_new _, by simp, Boxed.new w 92 _⟩
theorem metered_c (ga : FuncId) (la : Array Value) (prs : List Pr) (Ra : Nat → Prop) (Mb k0 : Nat) (hk0 : k0 ≤ 50000) (w : World) (ha : ItC (.func (.func ga) #[] la) prs Ra w) (hz : ∀ p ∈ prs, p.1.2 = 0) (hmb : Boxed w Mb 92 (.int .i64 k0)) (hRa : ∀ j, Ra j → j ≠ Mb) :
    Calls Try.prog 17 #[.func (.func ga) #[] la, .pointer (some ⟨Mb, 0, none⟩)] w fun e w' => ∃ g lb R, e = .returned (.func (.func g) #[] lb) ∧ Below w.heap.size w w' ∧ ItM (fun j => j = Mb) R (.func (.func g) #[] lb) (metC k0 (prs.map Prod.snd)) w' ∧ (∀ j, R j → j ≠ Mb) ∧ ∀ j, R j → Ra j ∨ w.heap.size ≤ j := by
  refine (metered_make2 ga la _ w).mono ?_
  rintro e W' ⟨rfl, hW'⟩
  have c0 := ((Boxed.new w 62 (.pointer (some ⟨Mb, 0, none⟩))).alloc (.cells #[.func (.func ga) #[] la] 31)).alloc (.cells #[.func (.func 39) #[] #[.pointer (some ⟨w.heap.size, 0, none⟩)]] 71)
  have c1 := (Boxed.new (w.alloc (.cells #[.pointer (some ⟨Mb, 0, none⟩)] 62)) 31 (.func (.func ga) #[] la)).alloc (.cells #[.func (.func 39) #[] #[.pointer (some ⟨w.heap.size, 0, none⟩)]] 71)
  have c2 := Boxed.new ((w.alloc (.cells #[.pointer (some ⟨Mb, 0, none⟩)] 62)).alloc (.cells #[.func (.func ga) #[] la] 31)) 71 (.func (.func 39) #[] #[.pointer (some ⟨w.heap.size, 0, none⟩)])
  have bl : Below w.heap.size w (((w.alloc (.cells #[.pointer (some ⟨Mb, 0, none⟩)] 62)).alloc (.cells #[.func (.func ga) #[] la] 31)).alloc (.cells #[.func (.func 39) #[] #[.pointer (some ⟨w.heap.size, 0, none⟩)]] 71)) :=
    (((Below.refl _ w).alloc (Nat.le_refl _) _).alloc (by simp) _).alloc (by simp; omega) _
  have hsz : (((w.alloc (.cells #[.pointer (some ⟨Mb, 0, none⟩)] 62)).alloc (.cells #[.func (.func ga) #[] la] 31)).alloc (.cells #[.func (.func 39) #[] #[.pointer (some ⟨w.heap.size, 0, none⟩)]] 71)).heap.size = w.heap.size + 3 := by simp
  simp only [World.size_alloc] at c1 c2
  rw [← hW'] at c0 c1 c2 bl hsz
  have hlt := hmb.lt
  refine ⟨66, _, _, rfl, bl, met_m (w.heap.size + 1) (w.heap.size + 2) w.heap.size Mb k0 hk0 _ prs Ra W' (ha.below bl) hz (by omega) (by omega) (by omega) c1.cell c2.cell c0.cell (boxed_same (bl.block Mb hlt) hmb) ⟨by omega, by omega, by omega⟩ hRa, ?_, ?_⟩
  · rintro j (rfl | rfl | rfl | h)
    · omega
    · omega
    · omega
    · exact hRa j h
  · rintro j (rfl | rfl | rfl | h)
    · right; omega
    · right; omega
    · right; omega
    · exact .inl h
/-- what make does, wherever its blocks stand -/
def MK (M R : Nat → Prop) (er : Int) (cs : List Cd) (lbm : Array Value) (w : World) : Prop := ∀ (X : Nat → Prop) (W1 : World), w.heap.size ≤ W1.heap.size → (∀ j, R j ∨ M j → W1.heap[j]? = w.heap[j]?) → (∀ j, R j ∨ M j → ¬ X j) → (∀ j, X j → j < W1.heap.size) → Calls Try.prog 60 lbm W1 (Made M er cs X W1)
theorem sorted_c0 (g : FuncId) (la : Array Value) (a : Option Addr) (k c : Nat) (by_ : Order) (cs : List Cd) (M R : Nat → Prop) (w : World) (hit : ItM M R (.func (.func g) #[] la) cs w) (hRM : ∀ j, M j → ¬ R j)
    (hor : ∀ W', Below w.heap.size w W' → Ord W' (.slice a k c) by_) (P : Nat → Prop) (hP : ∀ j, P j → j < w.heap.size ∧ ¬ M j) (hoP : ∀ W1 W2, (∀ j, P j → W2.heap[j]? = W1.heap[j]?) → W1.heap.size ≤ W2.heap.size → Ord W1 (.slice a k c) by_ → Ord W2 (.slice a k c) by_)
    (hby : by_.length ≤ 1000) (hlen : cs.length ≤ 60) (hst : (∀ c ∈ cs, c.1 = 0) → cs ≠ [] → StabOK cs.length by_) :
    Calls Try.prog 33 #[.func (.func g) #[] la, .slice a k c] w fun e w' => ∃ B lbm R', e = .returned (.func (.func 79) #[] #[.pointer (some ⟨B, 0, none⟩)]) ∧ Below w.heap.size w w' ∧ R' B ∧ (∀ j, R' j → j < w'.heap.size) ∧ (∀ j, M j → j < w'.heap.size) ∧ (∀ j, M j → ¬ R' j) ∧ w'.cell? ⟨B, 0, none⟩ = some (.func (.func 60) #[] lbm) ∧ MK M R' (erOf cs) (sc by_ (cs.map Prod.snd)) lbm w' ∧ ∀ j, R' j → R j ∨ P j ∨ w.heap.size ≤ j := by
  refine (sorted_make g la a k c w).mono ?_
  rintro e w' ⟨rfl, hW'⟩
  have c0 := ((Boxed.new w 31 (.func (.func g) #[] la)).alloc (.cells #[.slice a k c] 42)).alloc (.cells #[.func (.func 60) #[] #[.pointer (some ⟨w.heap.size + 1, 0, none⟩), .pointer (some ⟨w.heap.size, 0, none⟩)]] 87)
  have c1 := (Boxed.new (w.alloc (.cells #[.func (.func g) #[] la] 31)) 42 (.slice a k c)).alloc (.cells #[.func (.func 60) #[] #[.pointer (some ⟨w.heap.size + 1, 0, none⟩), .pointer (some ⟨w.heap.size, 0, none⟩)]] 87)
  have c2 := Boxed.new ((w.alloc (.cells #[.func (.func g) #[] la] 31)).alloc (.cells #[.slice a k c] 42)) 87 (.func (.func 60) #[] #[.pointer (some ⟨w.heap.size + 1, 0, none⟩), .pointer (some ⟨w.heap.size, 0, none⟩)])
  have hb : Below w.heap.size w (((w.alloc (.cells #[.func (.func g) #[] la] 31)).alloc (.cells #[.slice a k c] 42)).alloc (.cells #[.func (.func 60) #[] #[.pointer (some ⟨w.heap.size + 1, 0, none⟩), .pointer (some ⟨w.heap.size, 0, none⟩)]] 87)) := (((Below.refl _ w).alloc (Nat.le_refl _) _).alloc (by simp) _).alloc (by simp; omega) _
  have hsz : (((w.alloc (.cells #[.func (.func g) #[] la] 31)).alloc (.cells #[.slice a k c] 42)).alloc (.cells #[.func (.func 60) #[] #[.pointer (some ⟨w.heap.size + 1, 0, none⟩), .pointer (some ⟨w.heap.size, 0, none⟩)]] 87)).heap.size = w.heap.size + 3 := by simp
  simp only [World.size_alloc] at c1 c2
  rw [← hW'] at c0 c1 c2 hb hsz
  refine ⟨w.heap.size + 2, _, fun j => (w.heap.size ≤ j ∧ j < w'.heap.size) ∨ R j ∨ P j, rfl, hb, .inl ⟨by omega, by omega⟩, ?_, (fun j hj => Nat.lt_of_lt_of_le (hit.ml j hj) hb.size), ?_, c2.cell, ?_, ?_⟩
  · rintro j (h | h | h)
    · exact h.2
    · exact Nat.lt_of_lt_of_le (hit.lt j h) hb.size
    · exact Nat.lt_of_lt_of_le (hP j h).1 hb.size
  · rintro j hj (h | h | h)
    · have := hit.ml j hj
      omega
    · exact hRM j hj h
    · exact (hP j h).2 hj
  · intro X W1 hs hbl hnx hX
    have hit1 := (hit.below hb).later hs (fun j hj => hbl j (.inl (.inr (.inl hj)))) (fun j hj => hbl j (.inr hj))
    exact sorted1_ok (w.heap.size + 1) w.heap.size (.slice a k c) _ by_ cs M R X W1 hit1 ((cell_of_block (hbl _ (.inl (.inl ⟨by omega, by omega⟩))) 0).trans c1.cell) ((cell_of_block (hbl _ (.inl (.inl ⟨by omega, by omega⟩))) 0).trans c0.cell)
      (hoP w' W1 (fun j hj => hbl j (.inl (.inr (.inr hj)))) hs (hor w' hb)) hby hlen (fun j hj => by have := hit.ml j hj; omega) hst hX
  · rintro j (h | h | h)
    · exact .inr (.inr h.1)
    · exact .inl h
    · exact .inr (.inl h)
theorem short_er (k0 : Nat) (rows : List (List V3)) (hk : k0 = rows.length - 1) : erOf (metC k0 rows) = if rows = [] then 0 else 310 := by
  cases rows with
  | nil => simp [metC, erOf]
  | cons r l =>
    rw [if_neg (by simp)]
    refine erOf_at _ k0 (310, []) (metC_at (by rw [hk]; simp)) ?_ (by decide)
    intro i d hi hd
    have hl : ((r :: l).take k0).length = k0 := by rw [List.length_take, hk]; simp
    unfold metC at hd
    rw [List.getElem?_append_left (by rw [List.length_map, hl]; exact hi), List.getElem?_map] at hd
    cases h2 : ((r :: l).take k0)[i]? with
    | none => rw [h2] at hd; cases hd
    | some x => rw [h2] at hd; cases hd; rfl
/-- what the ends see of a meter that is one short -/
def GE (rows : List (List V3)) (pre : List (RV × Int)) (x : RV × Int) (X : Nat → Prop) (W : World) : Prop := rows ≠ [] ∧ pre = [] ∧ x = (RV.nil, 310)
def FE (rows : List (List V3)) (ys : List (RV × Int)) : Prop := ys.length = if rows = [] then 0 else 1
theorem GE.anti {rows : List (List V3)} : ∀ pre x (X Y : Nat → Prop) (W : World), (∀ j, X j → Y j) → GE rows pre x Y W → GE rows pre x X W := fun _ _ _ _ _ _ h => h
set_option maxRecDepth 100000 in
set_option maxHeartbeats 4000000 in
theorem later_err1 (n : Nat) (hn : 6 ≤ n) (l B : Nat) (lbm : Array Value) (er : Int) (he : er ≠ 0) (cs : List Cd) (M : Nat → Prop)
    (J Jx : List (RV × Int) → (Nat → Prop) → World → Prop) (X : Nat → Prop) (W : World) (hX : ∀ j, X j → j < W.heap.size) (hM : ∀ j, M j → j < W.heap.size ∧ ¬ X j) (hJ : StableM M W.heap.size J) (hJx : StableM M W.heap.size Jx)
    (hB : B < W.heap.size) (hcb : W.cell? ⟨B, 0, none⟩ = some (.func (.func 60) #[] lbm)) (hmk : ∀ W1, Below W.heap.size W W1 → Calls Try.prog 60 lbm W1 (Made M er cs X W1))
    (hY : ∀ X1 W1, J [] X1 W1 → GrM M X X1 W.heap.size W W1 → YieldAt Fence.wide (n - 1) Try.prog l (enc (RV.nil, er)) W1 fun e W' =>
      ∃ X', Gr X1 X' W1.heap.size W1 W' ∧ ((e = .returned (.bool true) ∧ J ([] ++ [(RV.nil, er)]) X' W') ∨ (e = .returned (.bool false) ∧ Jx ([] ++ [(RV.nil, er)]) X' W')))
    (h0 : J [] X W) :
    CallsIn Fence.wide n Try.prog 79 #[.func (.yield l) #[] #[], .pointer (some ⟨B, 0, none⟩)] W fun e W' => (∃ v, e = .returned v) ∧
      ∃ X', GrM M X X' W.heap.size W W' ∧ ((∃ ys, List.length ys = 1 ∧ J ys X' W') ∨ ∃ pre, Jx pre X' W') := by
  have hro : Fence.wide.round = none := rfl
  have h1 : 1 ≤ n := by omega
  have cY := Boxed.new W 72 (.func (.yield l) #[] #[])
  have hbel : Below W.heap.size W (W.alloc (.cells #[.func (.yield l) #[] #[]] 72)) := (Below.refl _ W).alloc (Nat.le_refl _) _
  have hsz : (W.alloc (.cells #[.func (.yield l) #[] #[]] 72)).heap.size = W.heap.size + 1 := by simp
  have hcb1 := (cell_of_block (hbel.block B hB) 0).trans hcb
  refine callsIn_of_wp_marks Try.func79 rfl trivial ?_ hro
  simp only [Try.ntmps79, List.size_toArray, List.length_cons, List.length_nil, Nat.reduceAdd, Nat.reduceSub, Array.replicate_succ, Array.replicate_zero, List.push_toArray, List.append_toArray, List.nil_append, List.cons_append]
  generalize hW1 : W.alloc (.cells #[.func (.yield l) #[] #[]] 72) = W1 at cY hbel hsz hcb1
  have hmk1 := callsIn_wide (n := n - 1).2 (hmk W1 hbel)
  gi_upto_region 2 with (refine ⟨trivial, ?_⟩; gi_at_call 60; refine hmk1.mono ?_; rintro e w2 ⟨hb2, ⟨hx, _⟩ | ⟨_, rfl⟩⟩; exact absurd hx he)
  have hW2 : BelM M W.heap.size W w2 := (BelM.of hbel).trans hb2 (by omega)
  have hag : AgM M X W.heap.size W w2 := ⟨hW2.os, hW2.tape, hW2.output, hW2.size, fun j hj => by
    rcases hj with h | h
    · exact hW2.block j (hX j h) (fun hm => (hM j hm).2 h)
    · exact hW2.block j h.1 h.2⟩
  have hgr : GrM M X X W.heap.size W w2 := ⟨hW2.os, hW2.tape, hW2.output, hW2.size, fun j hj _ hm => hW2.block j hj hm, fun j h => .inl h, fun j h => Nat.lt_of_lt_of_le (hX j h) hW2.size⟩
  have hMn : ∀ j, W.heap.size ≤ j → ¬ M j := fun j hj hm => by have := (hM j hm).1; omega
  have cY2 : Boxed w2 W.heap.size 72 (.func (.yield l) #[] #[]) := (hb2.block W.heap.size (by omega) (hMn _ (Nat.le_refl _))).trans cY
  have cY3 := cY2.cell
  have hne : (er != 0) = true := by simpa using he
  obtain ⟨fn, tmps, assign, body, hy, hR⟩ := yield_wide (m := n - 1) (hY X w2 (hJ _ _ _ _ h0 hag) hgr)
  have HC := Aside0.mk hgr
  clear hag hgr hb2 hW2 hmk1 hmk hcb1 hcb hbel hW1 hsz cY2 cY hY
  dsimp only [enc, RV.nil] at hy
  gi_wp2
  refine hR.mono ?_
  rintro e4 W4 ⟨X4, g4, h4⟩
  have HF := Aside0.mk (show ∃ X', GrM M X X' W.heap.size W W4 ∧ ((∃ ys, List.length ys = 1 ∧ J ys X' W4) ∨ ∃ pre, Jx pre X' W4) from
    ⟨X4, HC.out.trans g4.m HC.out.size, h4.imp (fun h => ⟨_, rfl, h.2⟩) (fun h => ⟨_, h.2⟩)⟩)
  obtain ⟨bv, rfl⟩ : ∃ bv, e4 = .returned (.bool bv) := by rcases h4 with ⟨h, _⟩ | ⟨h, _⟩; exact ⟨_, h⟩; exact ⟨_, h⟩
  clear h4 g4 hy hR
  gi_wp2
  exact ⟨_, results_none rfl _ _ _, ⟨_, rfl⟩, HF.out⟩
/-- the ends' iterator -/
structure ItE (M R : Nat → Prop) (lb : Array Value) (rows : List (List V3)) (w : World) : Prop where
  ex : ∀ n, SeqM M (GE rows) (FE rows) Fence.wide n Try.prog 79 lb enc R w
  lt : ∀ j, R j → j < w.heap.size
  ml : ∀ j, M j → j < w.heap.size
theorem later_e (B : Nat) (lbm : Array Value) (rows : List (List V3)) (cs : List Cd) (hcs : rows = [] → cs = []) (M R : Nat → Prop) (w : World) (hB : R B) (hRl : ∀ j, R j → j < w.heap.size) (hMl : ∀ j, M j → j < w.heap.size) (hRM : ∀ j, M j → ¬ R j)
    (hcb : w.cell? ⟨B, 0, none⟩ = some (.func (.func 60) #[] lbm)) (hmk : MK M R (if rows = [] then 0 else 310) cs lbm w) : ItE M R #[.pointer (some ⟨B, 0, none⟩)] rows w := by
  by_cases hr : rows = []
  · subst hr
    rw [if_pos rfl, hcs rfl] at hmk
    have h := later_m B lbm 0 [] M R w hB hRl hMl hRM hcb hmk
    obtain ⟨g, lb, hv, _, hq⟩ := h.ex
    injection hv with hg _ hl
    injection hg with hg
    subst hg hl
    refine ⟨fun n l J Jx X W hs hR hM hX hJ hJx hY h0 => ?_, hRl, hMl⟩
    refine (hq n l J Jx X W hs hR hM hX hJ hJx (fun pre x X1 W1 hG => ?_) h0).mono fun e W' h => h
    obtain ⟨c, h1, _⟩ := hG
    have : ((lc 0 [] : List Cd))[pre.length]? = none := rfl
    rw [this] at h1
    cases h1
  · rw [if_neg hr] at hmk
    refine ⟨fun n l J Jx X W hs hR hM hX hJ hJx hY h0 => ?_, hRl, hMl⟩
    have hcb1 := (cell_of_block (hR B hB).2.2 0).trans hcb
    refine (callsIn_wide.2 (callsIn_wide.1 (later_err1 6 (Nat.le_refl _) l B lbm 310 (by decide) cs M J Jx X W hX (fun j hj => ⟨Nat.lt_of_lt_of_le (hM j hj).1 hs, (hM j hj).2.1⟩) hJ hJx (Nat.lt_of_lt_of_le (hRl B hB) hs) hcb1 ?_ (fun X1 W1 q r => yield_wide (hY [] _ X1 W1 ⟨hr, rfl, rfl⟩ q r)) h0))).mono ?_
    · intro W1 hb
      refine hmk X W1 (Nat.le_trans hs hb.size) ?_ ?_ (fun j hj => Nat.lt_of_lt_of_le (hX j hj) hb.size)
      · rintro j (hj | hj)
        · exact (hb.block j (Nat.lt_of_lt_of_le (hRl j hj) hs)).trans (hR j hj).2.2
        · exact (hb.block j (Nat.lt_of_lt_of_le (hMl j hj) hs)).trans (hM j hj).2.2
      · rintro j (hj | hj)
        · exact (hR j hj).2.1
        · exact (hM j hj).2.1
    · rintro e W' ⟨hv, X', hg, h⟩
      refine ⟨hv, X', hg, h.imp (fun ⟨ys, h1, h2⟩ => ⟨ys, ?_, h2⟩) id⟩
      rw [FE, if_neg hr, h1]
theorem ends_c (ga : FuncId) (la : Array Value) (rows : List (List V3)) (k0 : Nat) (M R : Nat → Prop) (w : World) (hit : ItM M R (.func (.func ga) #[] la) (metC k0 rows) w) (hRM : ∀ j, M j → ¬ R j) (hl : rows.length ≤ 50) (hk : k0 = rows.length - 1) :
    Calls Try.prog 33 #[.func (.func ga) #[] la, .slice none 0 0] w fun e w' => ∃ lb R', e = .returned (.func (.func 79) #[] lb) ∧ Below w.heap.size w w' ∧ ItE M R' lb rows w' ∧ ∀ j, R' j → R j ∨ w.heap.size ≤ j := by
  refine (sorted_c0 ga la none 0 0 [] (metC k0 rows) M R w hit hRM (fun _ _ => .inl ⟨none, 0, rfl, rfl⟩) (fun _ => False) (fun j hj => hj.elim) (fun _ _ _ _ _ => .inl ⟨none, 0, rfl, rfl⟩) (by simp) (by rw [metC_len]; omega) ?_).mono ?_
  · intro hz hne
    cases rows with
    | nil => exact absurd (by simp [metC]) hne
    | cons r l =>
      have hm : (310, []) ∈ metC k0 (r :: l) := List.mem_of_getElem? (metC_at (by rw [hk]; simp))
      exact absurd (hz _ hm) (by decide)
  · rintro e w' ⟨B, lbm, R', rfl, hb, hB, h1, h2, h3, h4, h5, h6⟩
    refine ⟨_, R', rfl, hb, later_e B lbm rows _ ?_ M R' w' hB h1 h2 h3 h4 (by rw [← short_er k0 rows hk]; exact h5), fun j hj => (h6 j hj).imp id (fun h => h.resolve_left (fun h => h))⟩
    rintro rfl
    simp [metC, sc, stab, insAll]
end Go.Proofs.Ytghpjlohoehdnaa.Sep
