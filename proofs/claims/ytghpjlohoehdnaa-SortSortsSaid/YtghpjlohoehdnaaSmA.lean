/- Iterators, ranges over them, rows and their values, walked. No condition beyond those that each theorem names. -/
import Derived.OrdersIn
import Derived.Tactics
import Derived.RangeFuncNested
import Derived.RangeFuncBound
import Derived.RangeFuncCalls
import Derived.RangeFuncLeaves
import Derived.RangeFuncBox
import Derived.Shelf.Abstract
import Derived.Shelf.RegionOpen
import Derived.WalkKit
import Derived.OwnWalkIn
import Derived.TacticsInMore
import Derived.LoopNIn
import Derived.LoopIn
import Derived.Test.YtghpjlohoehdnaaProg
import Derived.Maps.AppendAt
import Derived.OwnWalk
import Derived.Laws.Slices
import Derived.Laws.MakeOwn
import Derived.WalkSpells
import Derived.Lib.Hide
import Derived.Deep.LoopGhost
import Derived.Lib.Walk
import Derived.Lib.SliceRun
import Derived.Deep.Draws
import Derived.Maps.OwnIn
import Derived.Maps.Own
import Derived.Maps.Views
import Derived.Sort.CutIn
import Derived.Laws.EntriesVeiled
/-! A region that draws its order, by an invariant over what has been done: it serves within a round too. No condition beyond those that each theorem names. -/
namespace Go.Proofs.Ytghpjlohoehdnaa.Sep
open Go
set_option linter.unusedVariables false
section
variable {F : Fence} {n : Nat} {P : Program} {ops : Array Oper} {Q : Exit → Act → World → Prop} {md : Region.Mode}
/-- what is done behind i is done -/
def mark (d : Nat → Bool) (i : Nat) : Nat → Bool := fun j => j == i || d j
/-- what is done has all done that it waits for -/
def Closed (md : Region.Mode) (ops : Array Oper) (d : Nat → Bool) : Prop := ∀ (i : Nat) (o : Oper), ops[i]? = some o → d i = true → ∀ e ∈ o.after, Region.binds md e = true → d e.on = true
/-- one operation keeps the invariant -/
def Keeps (F : Fence) (n : Nat) (P : Program) (md : Region.Mode) (ops : Array Oper) (Q : Exit → Act → World → Prop) (Cl : (Nat → Bool) → Prop) (St : (Nat → Bool) → Act → World → Prop) (o : Oper) (i : Nat) : Prop :=
  ∀ (d : Nat → Bool) (a : Act) (w : World), d i = false → Cl d → Cl (mark d i) → St d a w →
    ∀ K : Act → World → Prop, (∀ a w, St (mark d i) a w → K a w) → if Region.wanted o (yielded ops a.tmps) = true then Oper.wpIn F n P o a w K Q else (∀ f, o.about P w a.eval = some f → F.fn f) ∧ K (a.put o.dst undef) w
def KeepAll (F : Fence) (n : Nat) (P : Program) (md : Region.Mode) (ops : Array Oper) (Q : Exit → Act → World → Prop) (Cl : (Nat → Bool) → Prop) (St : (Nat → Bool) → Act → World → Prop) : List Oper → Nat → Prop
  | [], _ => True
  | o :: l, i => Keeps F n P md ops Q Cl St o i ∧ KeepAll F n P md ops Q Cl St l (i + 1)
theorem KeepAll.get {Cl : (Nat → Bool) → Prop} {St : (Nat → Bool) → Act → World → Prop} : ∀ {l : List Oper} {k : Nat}, KeepAll F n P md ops Q Cl St l k → ∀ i o, l[i]? = some o → Keeps F n P md ops Q Cl St o (k + i)
  | [], _, _, i, o, h => by simp at h
  | x :: l, k, h, 0, o, e => by simp at e; subst e; exact h.1
  | x :: l, k, h, i + 1, o, e => by have := h.2.get i o (by simpa using e); rw [show k + (i + 1) = k + 1 + i by omega]; exact this
/-- how many are left -/
def left (m : Nat) (d : Nat → Bool) : Nat := (List.range m).countP (fun i => !d i)
theorem left_mark {m : Nat} {d : Nat → Bool} {i : Nat} (hi : i < m) (hd : d i = false) : left m (mark d i) < left m d := by
  unfold left
  induction m with
  | zero => omega
  | succ m ih =>
    rw [List.range_succ, List.countP_append, List.countP_append]
    by_cases e : i = m
    · subst e
      have h1 : (List.range i).countP (fun j => !mark d i j) = (List.range i).countP (fun j => !d j) := List.countP_congr (fun j hj => by
        have : j ≠ i := by have := List.mem_range.1 hj; omega
        simp [mark, this])
      rw [h1]
      simp [mark, hd]
    · have := ih (by omega)
      have h2 : mark d i m = d m := by simp [mark]; intro h; omega
      simp [h2]
      omega
theorem left_zero {m : Nat} {d : Nat → Bool} (h : ∀ i, i < m → d i = true) : left m d = 0 := by
  unfold left
  rw [List.countP_eq_zero]
  intro i hi
  simp [h i (List.mem_range.1 hi)]
theorem left_pos {m : Nat} {d : Nat → Bool} {i : Nat} (hi : i < m) (hd : d i = false) : 0 < left m d := by
  have := left_mark hi hd
  omega
/-- each operation stands behind those that it waits for -/
def inOrder (ops : Array Oper) : Bool := (List.range ops.size).all fun i => ((ops[i]?).map fun o => o.after.all fun e => decide (e.on < i)).getD true
theorem mark_get {listed : Array Bool} {i : Nat} (hi : i < listed.size) : (fun j => (listed.setIfInBounds i true).getD j false) = mark (fun j => listed.getD j false) i := by
  funext j
  by_cases e : j = i
  · subst e
    simp [mark, Array.getD_eq_getD_getElem?, hi]
  · simp [mark, Array.getD_eq_getD_getElem?, e, Ne.symm e]
theorem wpAnyIn_inv (hin : inOrder ops = true) (Cl : (Nat → Bool) → Prop) (hCl : ∀ d, Closed md ops d → Cl d) (St : (Nat → Bool) → Act → World → Prop) (hstep : KeepAll F n P md ops Q Cl St ops.toList 0)
    (hdone : ∀ d a w, (∀ i, i < ops.size → d i = true) → St d a w → Q .normal a w) :
    ∀ (fuel : Nat) (listed : Array Bool) (a : Act) (w : World), listed.size = ops.size → left ops.size (fun j => listed.getD j false) ≤ fuel → Closed md ops (fun j => listed.getD j false) → St (fun j => listed.getD j false) a w → wpAnyIn F n P md ops Q fuel listed a w := by
  have hnil : ∀ (listed : Array Bool), listed.size = ops.size → Region.ready md ops listed = [] → ∀ i, i < ops.size → listed.getD i false = true := by
    intro listed hsz hr i
    induction i using Nat.strongRecOn with
    | ind i ih =>
      intro hi
      by_cases h : listed.getD i false = true
      · exact h
      · have hm : i ∈ Region.ready md ops listed := mem_ready.2 ⟨by
          have h' : listed.getD i false = false := by simpa using h
          rw [Array.getD_eq_getD_getElem?] at h' ⊢
          rw [Array.getElem?_eq_getElem (by omega)] at h' ⊢
          simpa using h', ops[i], Array.getElem?_eq_getElem hi, fun e he _ => ih e.on (by
            have h1 := List.all_eq_true.1 hin i (List.mem_range.2 hi)
            rw [Array.getElem?_eq_getElem hi] at h1
            simp only [Option.map_some, Option.getD_some, Array.all_eq_true_iff_forall_mem] at h1
            simpa using h1 e he) (by
            have h1 := List.all_eq_true.1 hin i (List.mem_range.2 hi)
            rw [Array.getElem?_eq_getElem hi] at h1
            simp only [Option.map_some, Option.getD_some, Array.all_eq_true_iff_forall_mem] at h1
            have := h1 e he
            simp at this
            omega)⟩
        rw [hr] at hm; cases hm
  intro fuel
  induction fuel with
  | zero =>
    intro listed a w hsz hl hcl hs
    have hall : ∀ i, i < ops.size → listed.getD i false = true := fun i hi => by
      cases h : listed.getD i false with
      | true => rfl
      | false => have := left_pos (d := fun j => listed.getD j false) hi h; omega
    refine ⟨?_, hdone _ _ _ hall hs⟩
    cases hr : Region.ready md ops listed with
    | nil => rfl
    | cons i l =>
      have hm : i ∈ Region.ready md ops listed := by rw [hr]; simp
      obtain ⟨h1, o, h2, _⟩ := mem_ready.1 hm
      have hi := (Array.getElem?_eq_some_iff.1 h2).1
      have := hall i hi
      rw [Array.getD_eq_getD_getElem?] at h1 this
      rw [Array.getElem?_eq_getElem (by omega)] at h1 this
      simp at h1 this
      rw [h1] at this; cases this
  | succ fuel ih =>
    intro listed a w hsz hl hcl hs
    refine ⟨fun hr => hdone _ _ _ (hnil listed hsz hr) hs, fun i hi => ?_⟩
    obtain ⟨h1, o, h2, h3⟩ := mem_ready.1 hi
    have hlt := (Array.getElem?_eq_some_iff.1 h2).1
    have hd : listed.getD i false = false := by
      rw [Array.getD_eq_getD_getElem?] at h1 ⊢
      rw [Array.getElem?_eq_getElem (by omega)] at h1 ⊢
      simpa using h1
    have hk := hstep.get i o (by simpa using h2)
    rw [Nat.zero_add] at hk
    have hcl2 : Closed md ops (mark (fun j => listed.getD j false) i) := by
      intro j oj hj hdj e he hb
      by_cases hji : j = i
      · subst hji
        rw [h2] at hj
        injection hj with hj
        subst hj
        have := h3 e he hb
        simp only [mark, Bool.or_eq_true]
        exact .inr this
      · have hdj' : listed.getD j false = true := by simpa [mark, hji] using hdj
        have := hcl j oj hj hdj' e he hb
        simp only [mark, Bool.or_eq_true]
        exact .inr this
    refine wpOpIn_step h2 fun K hK => hk (fun j => listed.getD j false) a w hd (hCl _ hcl) (hCl _ hcl2) hs K (fun a' w' h => hK a' w' (ih _ a' w' (by simpa using hsz) ?_ ?_ ?_))
    · rw [mark_get (by omega)]
      have := left_mark (d := fun j => listed.getD j false) hlt hd
      omega
    · rw [mark_get (by omega)]; exact hcl2
    · rw [mark_get (by omega)]; exact h
theorem wpIn_region_inv {id : Nat} {a : Act} {w : World} (hm : P.follows .mixedOrders = true) (hin : inOrder ops = true) (Cl : (Nat → Bool) → Prop) (hCl : ∀ d, Closed .any ops d → Cl d) (St : (Nat → Bool) → Act → World → Prop) (h0 : St (fun _ => false) a { w with drawn := w.drawn + 1 })
    (hstep : KeepAll F n P .any ops Q Cl St ops.toList 0) (hdone : ∀ d a w, (∀ i, i < ops.size → d i = true) → St d a w → Q .normal a w) : (Code.region id ops true).wpIn F n P Q a w := by
  refine wpIn_region_any hm (wpAnyIn_inv hin Cl hCl St hstep hdone ops.size _ a _ (by simp) ?_ ?_ ?_)
  · unfold left
    refine Nat.le_trans List.countP_le_length (by simp)
  · intro i o ho hd
    exfalso
    replace hd : (Array.replicate ops.size false).getD i false = true := hd
    rw [Array.getD_eq_getD_getElem?] at hd
    by_cases h : i < ops.size <;> simp [h] at hd
  · have e : (fun j => (Array.replicate ops.size false).getD j false) = fun _ => false := by
      funext j
      rw [Array.getD_eq_getD_getElem?]
      by_cases h : j < ops.size <;> simp [h]
    rw [e]; exact h0
end
end Go.Proofs.Ytghpjlohoehdnaa.Sep

/-! A range over a function whose iterator may itself range over one, keep cells of its own and call yield within its own rounds: each side names the blocks that it may turn. No condition beyond those that each theorem names. -/
namespace Go.Proofs.Ytghpjlohoehdnaa.Sep
open Go Go.RowKit
set_option linter.unusedVariables false
/-- From W to W': below N, X alone may have turned; X' is X and what is new. -/
structure Gr (X X' : Nat → Prop) (N : Nat) (W W' : World) : Prop where
  os : W'.os = W.os
  tape : W'.tape = W.tape
  output : W'.output = W.output
  size : W.heap.size ≤ W'.heap.size
  block : ∀ j, j < N → ¬ X j → W'.heap[j]? = W.heap[j]?
  sub : ∀ j, X' j → X j ∨ N ≤ j
  lt : ∀ j, X' j → j < W'.heap.size
theorem Gr.refl {X : Nat → Prop} (N : Nat) (W : World) (h : ∀ j, X j → j < W.heap.size) : Gr X X N W W := ⟨rfl, rfl, rfl, Nat.le_refl _, fun _ _ _ => rfl, fun _ h => .inl h, h⟩
theorem Gr.trans {X Y Z : Nat → Prop} {N M : Nat} {A B C : World} (h : Gr X Y N A B) (k : Gr Y Z M B C) (hM : N ≤ M) : Gr X Z N A C :=
  ⟨k.os.trans h.os, k.tape.trans h.tape, k.output.trans h.output, Nat.le_trans h.size k.size,
   fun j hj hx => (k.block j (Nat.lt_of_lt_of_le hj hM) (fun hy => by rcases h.sub j hy with h1 | h1; exact hx h1; omega)).trans (h.block j hj hx),
   fun j hz => by
     rcases k.sub j hz with h1 | h1
     · exact h.sub j h1
     · exact .inr (Nat.le_trans hM h1),
   k.lt⟩
/-- W and W' agree on X and on all that lies below n₀. -/
structure Agree (X : Nat → Prop) (n₀ : Nat) (W W' : World) : Prop where
  os : W'.os = W.os
  tape : W'.tape = W.tape
  output : W'.output = W.output
  size : W.heap.size ≤ W'.heap.size
  block : ∀ j, (X j ∨ j < n₀) → W'.heap[j]? = W.heap[j]?
/-- what speaks of X and of what lies below n₀ alone -/
def Stable {α : Type} (n₀ : Nat) (J : List α → (Nat → Prop) → World → Prop) : Prop := ∀ pre X W W', J pre X W → Agree X n₀ W W' → J pre X W'
/-- AN ITERATOR's CONTRACT: what it hands over, one after the other, is ys; it reads what lies in R and calls yield alone; all that it turns is new. -/
def Seq {α : Type} (F : Fence) (n : Nat) (P : Program) (g : Nat) (lb : Array Value) (encs : α → Array Value) (ys : List α) (R : Nat → Prop) (w : World) : Prop :=
  ∀ (l : Nat) (J Jx : List α → (Nat → Prop) → World → Prop) (X : Nat → Prop) (W : World),
    w.heap.size ≤ W.heap.size → (∀ j, R j → j < w.heap.size ∧ ¬ X j ∧ W.heap[j]? = w.heap[j]?) → (∀ j, X j → j < W.heap.size) → Stable W.heap.size J → Stable W.heap.size Jx →
    (∀ pre x X1 W1, (pre ++ [x]) <+: ys → J pre X1 W1 → Gr X X1 W.heap.size W W1 → YieldAt F (n - 1) P l (encs x) W1 fun e W' =>
      ∃ X', Gr X1 X' W1.heap.size W1 W' ∧ ((e = .returned (.bool true) ∧ J (pre ++ [x]) X' W') ∨ (e = .returned (.bool false) ∧ Jx (pre ++ [x]) X' W'))) →
    J [] X W →
    CallsIn F n P g (#[.func (.yield l) #[] #[]] ++ lb) W fun e W' => (∃ v, e = .returned v) ∧ ∃ X', Gr X X' W.heap.size W W' ∧ (J ys X' W' ∨ ∃ pre, pre <+: ys ∧ Jx pre X' W')
/-- How a round's body may be left. -/
def sepPost {α : Type} (I : List α → (Nat → Prop) → World → Prop) (Ix : Code → List α → (Nat → Prop) → World → Prop) (X : Nat → Prop) (N : Nat) (W : World) (xs : List α) : Exit → Act → World → Prop
  | .normal, _, W' => ∃ X', Gr X X' N W W' ∧ I xs X' W'
  | .ret, _, W' => ∃ X', Gr X X' N W W' ∧ Ix .ret xs X' W'
  | .exit id, _, W' => ∃ X', Gr X X' N W W' ∧ Ix (.exit id) xs X' W'
  | .goto t, _, W' => ∃ X', Gr X X' N W W' ∧ Ix (.goto t) xs X' W'
  | .panic _, _, _ => False
  | .outgrown, _, _ => False
variable {F : Fence} {n : Nat} {P : Program}
theorem agree_put {X : Nat → Prop} {n₀ l : Nat} (W : World) (o : Obj) (hx : ¬ X l) (hl : n₀ ≤ l) : Agree X n₀ W (W.putObj l o) :=
  ⟨rfl, rfl, rfl, by rw [World.putObj_size]; exact Nat.le_refl _, fun j hj => World.putObj_heap_other (by rintro rfl; rcases hj with h | h; exact hx h; omega)⟩
/-- THE LAW OF THE CALLER. -/
theorem wpIn_rangeFunc_sep {α : Type} {g : Operand} {ps : Array Tmp} {assign body : Code} {Q : Exit → Act → World → Prop} {a : Act} {w : World}
    (hro : F.round = none) (h1 : 1 ≤ n) {gf : Nat} {lb : Array Value} (hg : a.eval g = .func (.func gf) #[] lb) (hFg : F.fn gf) (eg : ∀ args w, (callFunc gf args).run P w = .ok (.enter gf args) w)
    {encs : α → Array Value} {ys : List α} {R : Nat → Prop} {w0 : World} (hseq : Seq F (n - 1) P gf lb encs ys R w0) (hps : ∀ x, (encs x).size = ps.size)
    (X : Nat → Prop) (hw0 : w0.heap.size ≤ w.heap.size) (hR : ∀ j, R j → j < w0.heap.size ∧ ¬ X j ∧ w.heap[j]? = w0.heap[j]?) (hX : ∀ j, X j → j < w.heap.size)
    (I : List α → (Nat → Prop) → World → Prop) (Ix : Code → List α → (Nat → Prop) → World → Prop) (hI : Stable w.heap.size I) (hIx : ∀ c, Stable w.heap.size (Ix c)) (h0 : I [] X w)
    (hround : ∀ (l : Nat) (pre : List α) (x : α) (X1 : Nat → Prop) (W1 : World), l = w.heap.size + 1 → (pre ++ [x]) <+: ys → I pre X1 W1 → Gr X X1 w.heap.size w W1 → ¬ X1 l → l < W1.heap.size →
      assign.wpIn (F.inRound l) (n - 1 - 1) P (Exit.then (fun a' W2 => (∀ j, j < W1.heap.size → ¬ X1 j → W2.heap[j]? = W1.heap[j]?) ∧ W1.heap.size ≤ W2.heap.size ∧ W2.os = W1.os ∧ W2.tape = W1.tape ∧ W2.output = W1.output ∧
        ∀ W3 : World, W3.heap.size = W2.heap.size → W3.os = W2.os → W3.tape = W2.tape → W3.output = W2.output → (∀ j, j ≠ l → W3.heap[j]? = W2.heap[j]?) →
          body.wpIn (F.inRound l) (n - 1 - 1) P (sepPost I Ix X1 W1.heap.size W3 (pre ++ [x])) a' W3) (fun _ _ _ => False))
        { tmps := (ps.zip (encs x)).foldl (fun t (p, v) => t.setIfInBounds p v) a.tmps, defers := [] } W1)
    (hdone : ∀ (X' : Nat → Prop) (W : World), I ys X' W → Gr X X' w.heap.size w W → ¬ X' w.heap.size → W.heap[w.heap.size]? = some (.deferred (some [])) → Q .normal { a with defers := { target := .collected w.heap.size, args := #[] } :: a.defers } W)
    (hstop : ∀ (c : Code) (pre : List α) (X' : Nat → Prop) (W : World), pre <+: ys → Ix c pre X' W → Gr X X' w.heap.size w W → ¬ X' w.heap.size → W.heap[w.heap.size]? = some (.deferred (some [])) → c.wpIn F n P Q { a with defers := { target := .collected w.heap.size, args := #[] } :: a.defers } W) :
    (Code.rangeFunc g ps assign body).wpIn F n P Q a w := by
  refine wpIn_rangeFunc ?_
  intro fn hfn
  rw [hro]
  obtain ⟨rec, hrec⟩ : ∃ rec : LoopState → Option Code → Loop, rec = fun st pe => { state := st, pending := pe, fn, tmps := a.tmps, params := ps, assign, body, defers := w.heap.size } := ⟨_, rfl⟩
  obtain ⟨W1, hW1⟩ : ∃ W1, (w.alloc (.deferred (some []))).alloc (.loop (rec .ready none)) = W1 := ⟨_, rfl⟩
  have hsz : W1.heap.size = w.heap.size + 2 := by rw [← hW1]; simp
  have hL1 : W1.heap[w.heap.size + 1]? = some (.loop (rec .ready none)) := by
    rw [← hW1]; have := World.alloc_heap_new (w.alloc (.deferred (some []))) (.loop (rec .ready none)); rwa [World.size_alloc] at this
  have hK1 : W1.heap[w.heap.size]? = some (.deferred (some [])) := by
    rw [← hW1]; exact (Below.heap_alloc _ _ _ (by simp)).trans (World.alloc_heap_new w _)
  have hB1 : Below w.heap.size w W1 := by rw [← hW1]; exact ((Below.refl _ w).alloc (Nat.le_refl _) _).alloc (by simp) _
  have hA1 : Agree X w.heap.size w W1 := ⟨hB1.os, hB1.tape, hB1.output, hB1.size, fun j hj => hB1.block j (by rcases hj with h | h; exact hX j h; exact h)⟩
  have hI1 : I [] X W1 := hI _ _ _ _ h0 hA1
  -- the caller's own blocks, with the record and the block of deferred calls
  let U : (Nat → Prop) → Nat → Prop := fun X j => X j ∨ j = w.heap.size ∨ j = w.heap.size + 1
  refine ⟨w.heap.size + 1, [{ target := .collected w.heap.size, args := #[] }], W1, { target := .fn (.func gf) lb, args := #[.func (.yield (w.heap.size + 1)) #[] #[]] }, W1, gf,
    #[.func (.yield (w.heap.size + 1)) #[] #[]] ++ lb, W1, ?_, ?_, ?_, ?_, fun _ => h1, ?_⟩
  · rw [← hW1, hrec]; exact run_enterLoop_outer _ _ _ _ _
  · simp only [resolve, hg]
    simp [go_sem]
  · intro f' hf'; simp [Target.leads] at hf'; subst hf'; exact hFg
  · simp [invoke, go_sem, eg]
  · let J : List α → (Nat → Prop) → World → Prop := fun pre Y W => ∃ X', (∀ j, Y j ↔ U X' j) ∧ I pre X' W ∧ Gr X X' w.heap.size w W ∧ ¬ X' w.heap.size ∧ ¬ X' (w.heap.size + 1) ∧ W.heap[w.heap.size + 1]? = some (.loop (rec .ready none)) ∧ W.heap[w.heap.size]? = some (.deferred (some []))
    let Jx : List α → (Nat → Prop) → World → Prop := fun pre Y W => ∃ X' c, (∀ j, Y j ↔ U X' j) ∧ Ix c pre X' W ∧ Gr X X' w.heap.size w W ∧ ¬ X' w.heap.size ∧ ¬ X' (w.heap.size + 1) ∧ W.heap[w.heap.size + 1]? = some (.loop (rec .done (some c))) ∧ W.heap[w.heap.size]? = some (.deferred (some []))
    have gput : ∀ {X' : Nat → Prop} {W : World} (o : Obj), Gr X X' w.heap.size w W → Gr X X' w.heap.size w (W.putObj (w.heap.size + 1) o) := fun {X'} {W} o h =>
      ⟨h.os, h.tape, h.output, by rw [World.putObj_size]; exact h.size, fun j hj hx => (World.putObj_heap_other (by omega)).trans (h.block j hj hx), h.sub, fun j hj => by rw [World.putObj_size]; exact h.lt j hj⟩
    have gag : ∀ {Y X' : Nat → Prop} {W W' : World}, (∀ j, Y j ↔ U X' j) → Gr X X' w.heap.size w W → Agree Y W1.heap.size W W' → Gr X X' w.heap.size w W' := fun {Y X' W W'} hY h k =>
      ⟨k.os.trans h.os, k.tape.trans h.tape, k.output.trans h.output, Nat.le_trans h.size k.size, fun j hj hx => (k.block j (.inr (by omega))).trans (h.block j hj hx), h.sub, fun j hj => Nat.lt_of_lt_of_le (h.lt j hj) k.size⟩
    have sag : ∀ {Y X' : Nat → Prop} {W W' : World}, (∀ j, Y j ↔ U X' j) → Agree Y W1.heap.size W W' → Agree X' w.heap.size W W' := fun {Y X' W W'} hY k =>
      ⟨k.os, k.tape, k.output, k.size, fun j hj => k.block j (by rcases hj with h | h; exact .inl ((hY j).2 (.inl h)); exact .inr (by omega))⟩
    refine (hseq (w.heap.size + 1) J Jx (U X) W1 (by omega) ?_ ?_ ?_ ?_ ?_ ?_).mono ?_
    · intro j hj
      obtain ⟨r1, r2, r3⟩ := hR j hj
      exact ⟨r1, by rintro (h | h | h); exact r2 h; omega; omega, (hB1.block j (by omega)).trans r3⟩
    · rintro j (h | h | h)
      · have := hX j h; omega
      · omega
      · omega
    · rintro pre Y A B ⟨X', hY, hi, hgr, n1, n2, hl, hk⟩ hag
      exact ⟨X', hY, hI _ _ _ _ hi (sag hY hag), gag hY hgr hag, n1, n2, (hag.block _ (.inr (by omega))).trans hl, (hag.block _ (.inr (by omega))).trans hk⟩
    · rintro pre Y A B ⟨X', c, hY, hi, hgr, n1, n2, hl, hk⟩ hag
      exact ⟨X', c, hY, hIx _ _ _ _ _ hi (sag hY hag), gag hY hgr hag, n1, n2, (hag.block _ (.inr (by omega))).trans hl, (hag.block _ (.inr (by omega))).trans hk⟩
    · -- ONE ROUND
      rintro pre x Y W hpre ⟨X', hY, hi, hgr, n1, n2, hl, hk⟩ _
      have hlt : w.heap.size + 1 < W.heap.size := (Array.getElem?_eq_some_iff.1 hl).1
      have hy := run_yield (P := P) (args := encs x) hl (by rw [hrec]; exact hps x)
      rw [hrec] at hy
      refine ⟨fn, _, assign, body, hy, roundIn_of_wpIn hfn (wpIn_mono (hround _ pre x X' W rfl hpre hi hgr n2 hlt) ?_)⟩
      intro e a2 W2 he
      cases e with
      | normal =>
        obtain ⟨hs1, hs2, ho, ht, hp, hbody⟩ := he
        have hl2 : W2.heap[w.heap.size + 1]? = some (.loop (rec .ready none)) := (hs1 _ hlt n2).trans hl
        have hk2 : W2.heap[w.heap.size]? = some (.deferred (some [])) := (hs1 _ (by omega) n1).trans hk
        have hlt2 : w.heap.size + 1 < W2.heap.size := by omega
        refine ⟨_, run_beginRound hl2 (by rw [hrec]), ?_⟩
        have hl3 : (W2.putObj (w.heap.size + 1) (.loop { rec .ready none with state := .busy })).heap[w.heap.size + 1]? = some (.loop { rec .ready none with state := .busy }) := World.putObj_heap_same hlt2
        have hk3 : (W2.putObj (w.heap.size + 1) (.loop { rec .ready none with state := .busy })).heap[w.heap.size]? = some (.deferred (some [])) := (World.putObj_heap_other (by omega)).trans hk2
        refine wpIn_mono (hbody (W2.putObj (w.heap.size + 1) (.loop { rec .ready none with state := .busy })) (by rw [World.putObj_size]) rfl rfl rfl (fun j hj => World.putObj_heap_other hj)) ?_
        have e0 : (W2.putObj (w.heap.size + 1) (.loop { rec .ready none with state := .busy })).os = W.os ∧ (W2.putObj (w.heap.size + 1) (.loop { rec .ready none with state := .busy })).tape = W.tape ∧ (W2.putObj (w.heap.size + 1) (.loop { rec .ready none with state := .busy })).output = W.output := ⟨ho, ht, hp⟩
        have e1 : W.heap.size ≤ (W2.putObj (w.heap.size + 1) (.loop { rec .ready none with state := .busy })).heap.size := by rw [World.putObj_size]; exact hs2
        have e2 : ∀ j, j < W.heap.size → ¬ X' j → j ≠ w.heap.size + 1 → (W2.putObj (w.heap.size + 1) (.loop { rec .ready none with state := .busy })).heap[j]? = W.heap[j]? := fun j hj hx hn => (World.putObj_heap_other hn).trans (hs1 j hj hx)
        generalize W2.putObj (w.heap.size + 1) (.loop { rec .ready none with state := .busy }) = W3 at hl3 hk3 e0 e1 e2 ⊢
        have fin : ∀ (jump : Option Code) (X4 : Nat → Prop) (W4 : World), Gr X' X4 W.heap.size W3 W4 →
            (Instr.endRound (w.heap.size + 1) jump).run P W4 = .ok (.bool jump.isNone) (W4.putObj (w.heap.size + 1) (.loop (rec (if jump.isNone then .ready else .done) jump))) ∧
            ¬ X4 w.heap.size ∧ ¬ X4 (w.heap.size + 1) ∧
            (W4.putObj (w.heap.size + 1) (.loop (rec (if jump.isNone then .ready else .done) jump))).heap[w.heap.size + 1]? = some (.loop (rec (if jump.isNone then .ready else .done) jump)) ∧
            (W4.putObj (w.heap.size + 1) (.loop (rec (if jump.isNone then .ready else .done) jump))).heap[w.heap.size]? = some (.deferred (some [])) := fun jump X4 W4 h4 => by
          have hl4 := (h4.block _ (by omega) n2).trans hl3
          have hk4 := (h4.block _ (by omega) n1).trans hk3
          have := run_endRound (P := P) jump hl4
          rw [hrec] at this ⊢
          exact ⟨this, fun h => by rcases h4.sub _ h with h | h; exact n1 h; omega, fun h => by rcases h4.sub _ h with h | h; exact n2 h; omega, World.putObj_heap_same (Array.getElem?_eq_some_iff.1 hl4).1, (World.putObj_heap_other (by omega)).trans hk4⟩
        have grow : ∀ (X4 : Nat → Prop) (W4 : World) (o : Obj), Gr X' X4 W.heap.size W3 W4 →
            Gr X X4 w.heap.size w (W4.putObj (w.heap.size + 1) o) ∧ Gr Y (U X4) W.heap.size W (W4.putObj (w.heap.size + 1) o) := fun X4 W4 o h4 => by
          have hs4 : W.heap.size ≤ W4.heap.size := Nat.le_trans e1 h4.size
          have b4 : ∀ j, j < W.heap.size → ¬ X' j → j ≠ w.heap.size + 1 → (W4.putObj (w.heap.size + 1) o).heap[j]? = W.heap[j]? := fun j hj hx hn =>
            (World.putObj_heap_other hn).trans ((h4.block j hj hx).trans (e2 j hj hx hn))
          have hsub : ∀ j, X4 j → X j ∨ w.heap.size ≤ j := fun j hj => by
            rcases h4.sub j hj with h | h
            · exact hgr.sub j h
            · exact .inr (by omega)
          have t1 : (W4.putObj (w.heap.size + 1) o).os = W.os := h4.os.trans e0.1
          have t2 : (W4.putObj (w.heap.size + 1) o).tape = W.tape := h4.tape.trans e0.2.1
          have t3 : (W4.putObj (w.heap.size + 1) o).output = W.output := h4.output.trans e0.2.2
          have hz : (W4.putObj (w.heap.size + 1) o).heap.size = W4.heap.size := World.putObj_size
          refine ⟨⟨t1.trans hgr.os, t2.trans hgr.tape, t3.trans hgr.output, by rw [hz]; have := hgr.size; omega, ?_, hsub, fun j hj => by rw [hz]; exact h4.lt j hj⟩, ⟨t1, t2, t3, by rw [hz]; exact hs4, ?_, ?_, ?_⟩⟩
          · intro j hj hx
            exact (b4 j (by have := hgr.size; omega) (fun h => by rcases hgr.sub j h with h | h; exact hx h; omega) (by omega)).trans (hgr.block j hj hx)
          · intro j hj hy
            have hu := fun h => hy ((hY j).2 h)
            exact b4 j hj (fun h => hu (.inl h)) (fun h => hu (.inr (.inr h)))
          · rintro j (h | h | h)
            · rcases h4.sub j h with h | h
              · exact .inl ((hY j).2 (.inl h))
              · exact .inr h
            · exact .inl ((hY j).2 (.inr (.inl h)))
            · exact .inl ((hY j).2 (.inr (.inr h)))
          · rintro j (h | h | h)
            · rw [hz]; exact h4.lt j h
            · rw [hz]; omega
            · rw [hz]; omega
        intro e a3 W4 hp4
        cases e with
        | normal =>
          obtain ⟨X4, h4, hi4⟩ := hp4
          obtain ⟨f1, f2, f3, f4, f5⟩ := fin none X4 W4 h4
          obtain ⟨g1, g2⟩ := grow X4 W4 _ h4
          exact ⟨_, _, f1, U X4, g2, .inl ⟨rfl, X4, fun _ => Iff.rfl, hI _ _ _ _ hi4 (agree_put _ _ f3 (by omega)), g1, f2, f3, f4, f5⟩⟩
        | ret =>
          obtain ⟨X4, h4, hi4⟩ := hp4
          obtain ⟨f1, f2, f3, f4, f5⟩ := fin (some .ret) X4 W4 h4
          obtain ⟨g1, g2⟩ := grow X4 W4 _ h4
          exact ⟨_, _, f1, U X4, g2, .inr ⟨rfl, X4, .ret, fun _ => Iff.rfl, hIx _ _ _ _ _ hi4 (agree_put _ _ f3 (by omega)), g1, f2, f3, f4, f5⟩⟩
        | exit id =>
          obtain ⟨X4, h4, hi4⟩ := hp4
          obtain ⟨f1, f2, f3, f4, f5⟩ := fin (some (.exit id)) X4 W4 h4
          obtain ⟨g1, g2⟩ := grow X4 W4 _ h4
          exact ⟨_, _, f1, U X4, g2, .inr ⟨rfl, X4, .exit id, fun _ => Iff.rfl, hIx _ _ _ _ _ hi4 (agree_put _ _ f3 (by omega)), g1, f2, f3, f4, f5⟩⟩
        | goto t =>
          obtain ⟨X4, h4, hi4⟩ := hp4
          obtain ⟨f1, f2, f3, f4, f5⟩ := fin (some (.goto t)) X4 W4 h4
          obtain ⟨g1, g2⟩ := grow X4 W4 _ h4
          exact ⟨_, _, f1, U X4, g2, .inr ⟨rfl, X4, .goto t, fun _ => Iff.rfl, hIx _ _ _ _ _ hi4 (agree_put _ _ f3 (by omega)), g1, f2, f3, f4, f5⟩⟩
        | panic ch => exact hp4.elim
        | outgrown => exact hp4.elim
      | _ => exact he.elim
    · exact ⟨X, fun _ => Iff.rfl, hI1, ⟨hB1.os, hB1.tape, hB1.output, hB1.size, fun j hj _ => hB1.block j hj, fun j h => .inl h, fun j h => Nat.lt_of_lt_of_le (hX j h) hB1.size⟩, fun h => by have := hX _ h; omega, fun h => by have := hX _ h; omega, hL1, hK1⟩
    · -- BEHIND THE ITERATOR
      rintro e W2 ⟨⟨v, rfl⟩, Y, hgY, (⟨X', hY, hi, hgr, n1, n2, hl, hk⟩ | ⟨pre, hpre, X', c, hY, hi, hgr, n1, n2, hl, hk⟩)⟩
      · exact ⟨none, _, by have := run_endLoop (P := P) hl (by rw [hrec]; simp); rw [hrec] at this; exact this, hdone X' _ (hI _ _ _ _ hi (agree_put _ _ n2 (by omega))) (gput _ hgr) n1 ((World.putObj_heap_other (by omega)).trans hk)⟩
      · exact ⟨some c, _, by have := run_endLoop (P := P) hl (by rw [hrec]; simp); rw [hrec] at this; exact this, hstop c pre X' _ hpre (hIx _ _ _ _ _ hi (agree_put _ _ n2 (by omega))) (gput _ hgr) n1 ((World.putObj_heap_other (by omega)).trans hk)⟩
end Go.Proofs.Ytghpjlohoehdnaa.Sep

/-! scan.List: the iterator over a list of rows. No condition beyond those that each theorem names. -/
namespace Go.Proofs.Ytghpjlohoehdnaa.Sep
open Go Go.RowKit Go.Shelf
attribute [local go_sem] Oper.semAt_some
set_option linter.unusedVariables false
/-- a row as the machine holds it -/
structure RV where
  a : Option Addr
  n : Nat
  c : Nat
abbrev RV.v (r : RV) : Value := .slice r.a r.n r.c
def RV.nil : RV := ⟨none, 0, 0⟩
/-- what a row's iterator hands over: a row, an error's number -/
abbrev enc (x : RV × Int) : Array Value := #[.slice x.1.a x.1.n x.1.c, .int .i64 x.2]
/-- the slice sv holds the rows rs; it lies in the blocks R -/
def Rows (R : Nat → Prop) (W : World) (sv : Value) (rs : List RV) : Prop :=
  (∃ a c, sv = .slice a 0 c ∧ rs = []) ∨ ∃ b off cap, sv = .slice (some ⟨b, off, none⟩) rs.length cap ∧ R b ∧ ∀ j, j < rs.length → W.cell? ⟨b, off + j, none⟩ = some ((rs[j]?.getD RV.nil).v)
theorem cell_of_block {W W' : World} {b : Nat} (h : W'.heap[b]? = W.heap[b]?) (o : Nat) : W'.cell? ⟨b, o, none⟩ = W.cell? ⟨b, o, none⟩ := by
  unfold World.cell?
  simp only [h]
theorem frozen_of_block {W W' : World} {b : Nat} (h : W'.heap[b]? = W.heap[b]?) (o : Nat) : W'.frozen? ⟨b, o, none⟩ = W.frozen? ⟨b, o, none⟩ := by
  unfold World.frozen?
  simp only [h]
theorem Rows.same {R : Nat → Prop} {W W' : World} {sv : Value} {rs : List RV} (hR : ∀ j, R j → W'.heap[j]? = W.heap[j]?) : Rows R W sv rs → Rows R W' sv rs
  | .inl e => .inl e
  | .inr ⟨b, off, cap, e, hb, hc⟩ => .inr ⟨b, off, cap, e, hb, fun j hj => (cell_of_block (hR b hb) _).trans (hc j hj)⟩
/-- what has come when k rounds are over -/
def upto {α : Type} (f : Nat → α) (k : Nat) : List α := (List.range k).map f
theorem upto_succ {α : Type} (f : Nat → α) (k : Nat) : upto f (k + 1) = upto f k ++ [f k] := by simp [upto, List.range_succ]
theorem upto_length {α : Type} (f : Nat → α) (k : Nat) : (upto f k).length = k := by simp [upto]
theorem upto_all (rs : List RV) : upto (fun j => (rs[j]?.getD RV.nil, (0 : Int))) rs.length = rs.map (fun r => (r, 0)) := by
  apply List.ext_getElem
  · simp [upto]
  · intro i h1 h2
    have : i < rs.length := by simpa using h2
    simp [upto, this]
theorem upto_pre (rs : List RV) (k : Nat) (hk : k ≤ rs.length) : upto (fun j => (rs[j]?.getD RV.nil, (0 : Int))) k <+: rs.map (fun r => (r, 0)) := by
  rw [← upto_all]
  obtain ⟨d, hd⟩ : ∃ d, rs.length = k + d := ⟨rs.length - k, by omega⟩
  rw [hd]
  unfold upto
  rw [List.range_add, List.map_append]
  exact List.prefix_append _ _
set_option maxRecDepth 100000 in
set_option maxHeartbeats 2000000 in
theorem list1_in (F : Fence) (n : Nat) (h41 : F.fn 41) (hro : F.round = none) (hn : 1 ≤ n) (l Bs b off cap : Nat) (rs : List RV) (hreach : rs.length * 24 ≤ 140737488351232)
    (J Jx : List (RV × Int) → (Nat → Prop) → World → Prop) (X : Nat → Prop) (W : World) (hX : ∀ j, X j → j < W.heap.size) (hb : b < W.heap.size ∧ ¬ X b)
    (hY : ∀ pre x X1 W1, (pre ++ [x]) <+: rs.map (fun r => (r, (0 : Int))) → J pre X1 W1 → Gr X X1 W.heap.size W W1 → YieldAt F (n - 1) Try.prog l (enc x) W1 fun e W' =>
      ∃ X', Gr X1 X' W1.heap.size W1 W' ∧ ((e = .returned (.bool true) ∧ J (pre ++ [x]) X' W') ∨ (e = .returned (.bool false) ∧ Jx (pre ++ [x]) X' W')))
    (hBs : W.cell? ⟨Bs, 0, none⟩ = some (.slice (some ⟨b, off, none⟩) rs.length cap)) (hc : ∀ j, j < rs.length → W.cell? ⟨b, off + j, none⟩ = some ((rs[j]?.getD RV.nil).v)) (h0 : J [] X W) :
    CallsIn F n Try.prog 41 #[.func (.yield l) #[] #[], .pointer (some ⟨Bs, 0, none⟩)] W fun e W' => (∃ v, e = .returned v) ∧
      ∃ X', Gr X X' W.heap.size W W' ∧ (J (rs.map (fun r => (r, 0))) X' W' ∨ ∃ pre, pre <+: rs.map (fun r => (r, (0 : Int))) ∧ Jx pre X' W') := by
  refine callsIn_of_wp Try.func41 rfl h41 ?_ hro
  simp only [Try.ntmps41, List.size_toArray, List.length_cons, List.length_nil, Nat.reduceAdd, Nat.reduceSub, Array.replicate_succ, Array.replicate_zero, List.push_toArray, List.append_toArray, List.nil_append, List.cons_append]
  gi_wp2
  gi_loopw [7] (fun i wr => ∃ (k : Nat) (Xr : Nat → Prop), k ≤ rs.length ∧ i = .int .i64 k ∧ J (upto (fun j => (rs[j]?.getD RV.nil, (0 : Int))) k) Xr wr ∧ Gr X Xr W.heap.size W wr)
    (fun i _ => rs.length - (intOf i).toNat)
  case atStart => exact ⟨0, X, Nat.zero_le _, rfl, h0, Gr.refl _ _ hX⟩
  case round =>
    obtain ⟨k, Xr, hk, rfl, hJs, hg⟩ := hrel
    by_cases hlt : k < rs.length
    · have hcx := (cell_of_block (hg.block b hb.1 hb.2) (off + k)).trans (hc k hlt)
      have hpre := upto_pre rs (k + 1) hlt
      rw [upto_succ] at hpre
      have hsuc := upto_succ (fun j => (rs[j]?.getD RV.nil, (0 : Int))) k
      obtain ⟨r, hr⟩ : ∃ r, rs[k]?.getD RV.nil = r := ⟨_, rfl⟩
      rw [hr] at hcx hpre hsuc
      obtain ⟨ra, rn, rc⟩ := r
      obtain ⟨fn, tmps, assign, body, hy, hR⟩ := hY _ (⟨ra, rn, rc⟩, 0) Xr wr hpre hJs hg
      dsimp only [enc, RV.v] at hy hcx
      clear hr
      gi_wp2
      refine hR.mono ?_
      rintro e W3 ⟨X3, hg3, (⟨rfl, hJ3⟩ | ⟨rfl, hJx3⟩)⟩
      · gi_wp2
        go_roundw
        case rel => exact ⟨k + 1, X3, by omega, by simp, by rw [hsuc]; exact hJ3, hg.trans hg3 hg.size⟩
        case measure => simp [intOf]; omega
      · gi_wp2
        refine bodyPost_ret (results_none rfl _ _ _) rfl ?_
        exact ⟨⟨_, rfl⟩, X3, hg.trans hg3 hg.size, .inr ⟨_, hpre, hJx3⟩⟩
    · obtain rfl : k = rs.length := by omega
      gi_wp2
      go_end0
      exact ⟨⟨_, rfl⟩, Xr, hg, .inl (by rw [← upto_all]; exact hJs)⟩
end Go.Proofs.Ytghpjlohoehdnaa.Sep

/-! slices.Clone of a row. No condition beyond those that each theorem names. -/
namespace Go.Proofs.Ytghpjlohoehdnaa.Sep
open Go Go.RowKit Go.Shelf
set_option linter.unusedVariables false
/-- a value as the machine holds it -/
structure V3 where
  k : Int
  n : Int
  s : ByteArray
def cells3 (v : V3) : List Value := [.int .i64 v.k, .int .i64 v.n, .string v.s]
/-- a row's cells -/
def flat : List V3 → List Value
  | [] => []
  | v :: r => .int .i64 v.k :: .int .i64 v.n :: .string v.s :: flat r
theorem flat_length : ∀ r : List V3, (flat r).length = r.length * 3
  | [] => rfl
  | v :: r => by simp only [flat, List.length_cons, flat_length r]; omega
theorem flat_one : ∀ r : List V3, ∀ u ∈ flat r, u.oneCell' = true
  | [], u, h => by cases h
  | v :: r, u, h => by
    simp only [flat, List.mem_cons] at h
    rcases h with rfl | rfl | rfl | h
    · rfl
    · rfl
    · rfl
    · exact flat_one r u h
/-- the row r holds the values row; an empty one may lie anywhere -/
def Cont (W : World) (r : RV) (row : List V3) : Prop :=
  (r.n = 0 ∧ row = []) ∨ ∃ b off, r.a = some ⟨b, off, none⟩ ∧ row.length = r.n ∧ b < W.heap.size ∧ ∀ j u, (flat row)[j]? = some u → W.cell? ⟨b, off + j, none⟩ = some u
/-- the block that a row lies in -/
def RV.blk (r : RV) (j : Nat) : Prop := r.n ≠ 0 ∧ ∃ off t, r.a = some ⟨j, off, t⟩
theorem Cont.same {W W' : World} {r : RV} {row : List V3} (hs : W.heap.size ≤ W'.heap.size) (hb : ∀ j, r.blk j → W'.heap[j]? = W.heap[j]?) : Cont W r row → Cont W' r row
  | .inl h => .inl h
  | .inr ⟨b, off, e, hl, hlt, hc⟩ => .inr ⟨b, off, e, hl, Nat.lt_of_lt_of_le hlt hs, fun j u hu => (cell_of_block (hb b ⟨fun h0 => by
      rw [h0] at hl
      have := List.eq_nil_of_length_eq_zero hl
      subst this
      simp [flat] at hu, off, _, e⟩) _).trans (hc j u hu)⟩
theorem Cont.blt {w : World} {q : RV} {row : List V3} (h : Cont w q row) : ∀ j, q.blk j → j < w.heap.size := fun j ⟨h0, o, t, e⟩ => by
  rcases h with ⟨h1, _⟩ | ⟨b, off, h1, _, h2, _⟩
  · exact absurd h1 h0
  · rw [h1] at e; injection e with e; injection e with e _ _; omega
theorem Cont.len {w : World} {q : RV} {row : List V3} (h : Cont w q row) : row.length = q.n := by
  rcases h with ⟨h1, h2⟩ | ⟨b, off, _, h1, _⟩
  · rw [h1, h2]; rfl
  · exact h1
theorem infoV : (Try.prog.info? 45).map (fun i => (i.zero, i.size, i.bytes)) = some (some (.agg #[.int .i64 0, .int .i64 0, .string ⟨#[]⟩]), 3, 32) := by kernel_rfl
set_option maxHeartbeats 2000000 in
set_option maxRecDepth 100000 in
theorem clone_some (b off n c : Nat) (row : List V3) (w : World) (hz : row.length = n) (hbig : n * 32 ≤ 140737488355328) (hc : ∀ j u, (flat row)[j]? = some u → w.cell? ⟨b, off + j, none⟩ = some u) :
    Calls Try.prog 42 #[.slice (some ⟨b, off, none⟩) n c] w fun e w' => ∃ v', e = .returned v' ∧ w'.ownsRow w.heap.size 45 3 v' n (flat row) ∧ v' ≠ .slice none 0 0 ∧ Below w.heap.size w w' := by
  obtain ⟨i0, hi, hz0, hz1, hz2⟩ := info_parts infoV
  have q48 : ∀ (w : World) (a : Option Addr) (n c n' c' : Nat), (binOp .eql 48 (.slice a n c) (.slice none n' c')).run Try.prog w = .ok (.bool a.isNone) w := fun w a n c n' c' => Lib.run_eql_slice_nil w _ _ a n c n' c' Try.underlying48
  have A : Aside (∀ j u, (flat row)[j]? = some u → w.cell? ⟨b, off + j, none⟩ = some u) := hc
  clear hc
  go_enter Try.func42, Try.ntmps42
  go_wp2_with (at_builtin; refine wpList_append_own _ rfl _ _ 48 rfl w.heap.size 45 i0 (.agg #[.int .i64 0, .int .i64 0, .string ⟨#[]⟩]) 3 32 Try.underlying48 hi hz0 hz1 hz2 rfl (by decide) _ _ _ rfl (World.ownsRow_made w #[] 0 (Nat.le_refl _) (Nat.zero_le _) rfl) ⟨b, off, none⟩ n c (flat row) rfl ?qc1 ?qc2 ?qc3 ?qc4 ?qc5 ?qc6 ?_)
  case qc1 => rw [flat_length, hz]
  case qc2 =>
    intro j u hj
    rw [Addr.add_lit]
    exact Lib.cell?_alloc_some _ (A.out j u hj)
  case qc3 => exact flat_one row
  case qc4 => unfold maxLen; omega
  case qc5 => omega
  case qc6 => simp
  intro v' w1 hown hgrow hnil
  go_wp2
  go_ret
  refine ⟨v', rfl, by simpa using hown, ?_, ?_⟩
  · exact hnil
  · exact ((Below.refl _ w).alloc (Nat.le_refl _) _).grown hgrow (by simp) (by intro k hk; simp [Value.ownBlock] at hk; omega)
set_option maxHeartbeats 1000000 in
theorem clone_none (n c : Nat) (w : World) : Calls Try.prog 42 #[.slice none n c] w fun e w' => e = .returned (.slice none 0 0) ∧ w' = w := by
  have q48 : ∀ (w : World) (a : Option Addr) (n c n' c' : Nat), (binOp .eql 48 (.slice a n c) (.slice none n' c')).run Try.prog w = .ok (.bool a.isNone) w := fun w a n c n' c' => Lib.run_eql_slice_nil w _ _ a n c n' c' Try.underlying48
  go_enter Try.func42, Try.ntmps42
  go_wp2
  go_ret
  exact ⟨rfl, rfl⟩
set_option maxHeartbeats 2000000 in
set_option maxRecDepth 100000 in
theorem clone_zero (a : Addr) (c : Nat) (w : World) :
    Calls Try.prog 42 #[.slice (some a) 0 c] w fun e w' => ∃ v', e = .returned v' ∧ w'.ownsRow w.heap.size 45 3 v' 0 [] ∧ Below w.heap.size w w' := by
  obtain ⟨i0, hi, hz0, hz1, hz2⟩ := info_parts infoV
  have q48 : ∀ (w : World) (a : Option Addr) (n c n' c' : Nat), (binOp .eql 48 (.slice a n c) (.slice none n' c')).run Try.prog w = .ok (.bool a.isNone) w := fun w a n c n' c' => Lib.run_eql_slice_nil w _ _ a n c n' c' Try.underlying48
  go_enter Try.func42, Try.ntmps42
  go_wp2_with (at_builtin; refine wpList_append_own _ rfl _ _ 48 rfl w.heap.size 45 i0 (.agg #[.int .i64 0, .int .i64 0, .string ⟨#[]⟩]) 3 32 Try.underlying48 hi hz0 hz1 hz2 rfl (by decide) _ _ _ rfl (World.ownsRow_made w #[] 0 (Nat.le_refl _) (Nat.zero_le _) rfl) a 0 c [] rfl ?qc1 ?qc2 ?qc3 ?qc4 ?qc5 ?qc6 ?_)
  case qc1 => rfl
  case qc2 =>
    intro j u hj
    simp at hj
  case qc3 =>
    intro u hu
    cases hu
  case qc4 => unfold maxLen; omega
  case qc5 => omega
  case qc6 => simp
  intro v' w1 hown hgrow hnil
  go_wp2
  go_ret
  refine ⟨v', rfl, by simpa using hown, ?_⟩
  exact ((Below.refl _ w).alloc (Nat.le_refl _) _).grown hgrow (by simp) (by intro k hk; simp [Value.ownBlock] at hk; omega)
/-- slices.Clone of any row: its values in a new block. -/
theorem clone_ok (r : RV) (row : List V3) (w : World) (h : Cont w r row) (hbig : r.n * 32 ≤ 140737488355328) :
    Calls Try.prog 42 #[.slice r.a r.n r.c] w fun e w' => ∃ r' : RV, e = .returned (.slice r'.a r'.n r'.c) ∧ Cont w' r' row ∧ (∀ j, r'.blk j → w.heap.size ≤ j) ∧ r'.n = row.length ∧ Below w.heap.size w w' := by
  rcases h with ⟨e2, rfl⟩ | ⟨b, off, e1, e2, e3, e4⟩
  · cases e1 : r.a with
    | none =>
      refine (clone_none r.n r.c w).mono ?_
      rintro e w' ⟨rfl, rfl⟩
      exact ⟨RV.nil, rfl, .inl ⟨rfl, rfl⟩, (by rintro j ⟨h, _⟩; exact absurd rfl h), rfl, Below.refl _ _⟩
    | some a =>
      rw [e2]
      refine (clone_zero a r.c w).mono ?_
      rintro e w' ⟨v', rfl, hown, hb⟩
      rcases hown.2 with ⟨rfl, _⟩ | ⟨g, cap, cur, rfl, _⟩
      · exact ⟨RV.nil, rfl, .inl ⟨rfl, rfl⟩, (by rintro j ⟨h, _⟩; exact absurd rfl h), rfl, hb⟩
      · exact ⟨⟨some ⟨g, 0, none⟩, 0, cap⟩, rfl, .inl ⟨rfl, rfl⟩, (by rintro j ⟨h, _⟩; exact absurd rfl h), rfl, hb⟩
  · rw [e1]
    refine (clone_some b off r.n r.c row w e2 hbig e4).mono ?_
    rintro e w' ⟨v', rfl, hown, hne, hb⟩
    rcases hown.2 with ⟨rfl, _⟩ | ⟨g, cap, cur, rfl, hg, hgb, h1, h2, h3, h4⟩
    · exact absurd rfl hne
    · refine ⟨⟨some ⟨g, 0, none⟩, r.n, cap⟩, rfl, .inr ⟨g, 0, rfl, e2, (Array.getElem?_eq_some_iff.1 hgb).1, ?_⟩, ?_, e2.symm, hb⟩
      · intro j u hj
        rw [← h4] at hj
        have hj2 := (List.getElem?_eq_some_iff.1 hj).1
        rw [List.length_take] at hj2
        rw [List.getElem?_take_of_lt (by omega)] at hj
        rw [Array.getElem?_toList] at hj
        unfold World.cell?
        simp only [hgb]
        simpa using hj
      · rintro j ⟨_, o, t, h⟩
        injection h with h
        injection h with h _ _
        omega
end Go.Proofs.Ytghpjlohoehdnaa.Sep

/-! values compared. No condition beyond those that each theorem names. -/
namespace Go.Proofs.Ytghpjlohoehdnaa.Sep
open Go Go.RowKit Go.Shelf
set_option maxHeartbeats 1000000 in
theorem neq45 (w : World) (a b : V3) : (binOp .neq 45 (.agg #[.int .i64 a.k, .int .i64 a.n, .string a.s]) (.agg #[.int .i64 b.k, .int .i64 b.n, .string b.s])).run Try.prog w = .ok (.bool (!(a.k == b.k && (a.n == b.n && a.s.toList == b.s.toList)))) w := by
  have u := Try.underlying45
  go_simp
  by_cases h1 : a.k = b.k <;> by_cases h2 : a.n = b.n <;> by_cases h3 : a.s.toList = b.s.toList <;> simp [h1, h2, h3]
end Go.Proofs.Ytghpjlohoehdnaa.Sep

/-! slices.Equal of two rows. No condition beyond those that each theorem names. -/
namespace Go.Proofs.Ytghpjlohoehdnaa.Sep
open Go Go.RowKit Go.Shelf
set_option linter.unusedVariables false
set_option linter.unusedSimpArgs false
def eqV (a b : V3) : Bool := a.k == b.k && (a.n == b.n && a.s.toList == b.s.toList)
theorem flat_at : ∀ (r : List V3) (i : Nat) (v : V3), r[i]? = some v → (flat r)[3 * i]? = some (.int .i64 v.k) ∧ (flat r)[3 * i + 1]? = some (.int .i64 v.n) ∧ (flat r)[3 * i + 2]? = some (.string v.s)
  | [], i, v, h => by simp at h
  | u :: r, 0, v, h => by simp at h; subst h; exact ⟨rfl, rfl, rfl⟩
  | u :: r, i + 1, v, h => by
    have := flat_at r i v (by simpa using h)
    rw [show 3 * (i + 1) = 3 * i + 1 + 1 + 1 by omega]
    simpa [flat] using this
def eqRow : List V3 → List V3 → Bool
  | [], [] => true
  | u :: r, v :: s => eqV u v && eqRow r s
  | _, _ => false
set_option maxRecDepth 100000 in
set_option maxHeartbeats 2000000 in
theorem equal_some (b1 o1 c1 b2 o2 c2 k : Nat) (r1 r2 : List V3) (h1 : r1.length = k) (h2 : r2.length = k) (hk : k ≤ 100000) (W : World)
    (e1 : ∀ j u, (flat r1)[j]? = some u → W.cell? ⟨b1, o1 + j, none⟩ = some u) (e2 : ∀ j u, (flat r2)[j]? = some u → W.cell? ⟨b2, o2 + j, none⟩ = some u) :
    Calls Try.prog 57 #[.slice (some ⟨b1, o1, none⟩) k c1, .slice (some ⟨b2, o2, none⟩) k c2] W fun e W' => e = .returned (.bool (eqRow r1 r2)) ∧ W'.heap = W.heap ∧ W'.os = W.os ∧ W'.tape = W.tape ∧ W'.output = W.output := by
  have hmx : Try.prog.follows .mixedOrders = true := by kernel_rfl
  go_enter Try.func57, Try.ntmps57
  go_wp2
  go_loopw [13] (fun i wr => ∃ (j : Nat), j ≤ k ∧ i = .int .i64 j ∧ (wr.heap = W.heap ∧ wr.os = W.os ∧ wr.tape = W.tape ∧ wr.output = W.output) ∧ eqRow r1 r2 = eqRow (r1.drop j) (r2.drop j)) (fun i _ => k - (intOf i).toNat)
  case atStart => exact ⟨0, Nat.zero_le _, rfl, ⟨rfl, rfl, rfl, rfl⟩, rfl⟩
  case round =>
    obtain ⟨j, hj, rfl, hw, he⟩ := hrel
    by_cases hlt : j < k
    · obtain ⟨u, hu⟩ : ∃ u, r1[j]? = some u := ⟨r1[j]'(by omega), List.getElem?_eq_getElem (by omega)⟩
      obtain ⟨v, hv⟩ : ∃ v, r2[j]? = some v := ⟨r2[j]'(by omega), List.getElem?_eq_getElem (by omega)⟩
      have hd1 : r1.drop j = u :: r1.drop (j + 1) := by rw [List.drop_eq_getElem_cons (by omega)]; congr 1; exact Option.some.inj ((List.getElem?_eq_getElem (by omega)).symm.trans hu)
      have hd2 : r2.drop j = v :: r2.drop (j + 1) := by rw [List.drop_eq_getElem_cons (by omega)]; congr 1; exact Option.some.inj ((List.getElem?_eq_getElem (by omega)).symm.trans hv)
      rw [hd1, hd2, eqRow] at he
      obtain ⟨f1, f2, f3⟩ := flat_at r1 j u hu
      obtain ⟨g1, g2, g3⟩ := flat_at r2 j v hv
      have hc : ∀ (a : Addr), wr.drew.cell? a = W.cell? a := fun a => by
        have hb : wr.drew.heap[a.block]? = W.heap[a.block]? := congrArg (fun h : Array Obj => h[a.block]?) hw.1
        unfold World.cell?
        simp only [hb]
      have x1 := (hc _).trans (e1 _ _ f1)
      have x2 := (hc _).trans (e1 _ _ f2)
      have x3 := (hc _).trans (e1 _ _ f3)
      have y1 := (hc _).trans (e2 _ _ g1)
      have y2 := (hc _).trans (e2 _ _ g2)
      have y3 := (hc _).trans (e2 _ _ g3)
      rw [Nat.mul_comm 3 j] at x1 x2 x3 y1 y2 y3
      rw [← Nat.add_assoc] at x2 x3 y2 y3
      clear hc
      have no : eqV u v = false → eqRow r1 r2 = false := fun h => by rw [he, h, Bool.false_and]
      have yes : eqV u v = true → eqRow r1 r2 = eqRow (r1.drop (j + 1)) (r2.drop (j + 1)) := fun h => by rw [he, h, Bool.true_and]
      by_cases q1 : u.k = v.k
      · by_cases q2 : u.n = v.n
        · by_cases q3 : u.s.toList = v.s.toList
          · have hy := yes (by simp [eqV, q1, q2, q3])
            clear yes no
            go_wp2
            go_region
            go_wp2
            go_roundw
            case rel => exact ⟨j + 1, by omega, by simp, hw, hy⟩
            case measure => simp [intOf]; omega
          · have hno := no (by simp [eqV, q1, q2, q3])
            clear yes no
            go_wp2
            go_region
            go_wp2
            refine bodyPost_ret (results_tmp rfl _ _ _) rfl ?_
            exact ⟨by rw [hno]; rfl, hw⟩
        · have hno := no (by simp [eqV, q1, q2])
          clear yes no
          go_wp2
          go_region
          go_wp2
          refine bodyPost_ret (results_tmp rfl _ _ _) rfl ?_
          exact ⟨by rw [hno]; rfl, hw⟩
      · have hno := no (by simp [eqV, q1])
        clear yes no
        go_wp2
        go_region
        go_wp2
        refine bodyPost_ret (results_tmp rfl _ _ _) rfl ?_
        exact ⟨by rw [hno]; rfl, hw⟩
    · obtain rfl : j = k := by omega
      rw [List.drop_of_length_le (by omega), List.drop_of_length_le (by omega)] at he
      go_wp2
      refine bodyPost_ret (results_tmp rfl _ _ _) rfl ?_
      exact ⟨by rw [he]; rfl, hw⟩
end Go.Proofs.Ytghpjlohoehdnaa.Sep

/-! slices.Equal of any two rows. No condition beyond those that each theorem names. -/
namespace Go.Proofs.Ytghpjlohoehdnaa.Sep
open Go Go.RowKit Go.Shelf
set_option linter.unusedVariables false
set_option linter.unusedSimpArgs false
theorem eqRow_len : ∀ r s : List V3, r.length ≠ s.length → eqRow r s = false
  | [], [], h => absurd rfl h
  | [], _ :: _, _ => rfl
  | _ :: _, [], _ => rfl
  | u :: r, v :: s, h => by rw [eqRow, eqRow_len r s (by simpa using h), Bool.and_false]
set_option maxHeartbeats 1000000 in
theorem equal_len (a b : Option Addr) (n c m d : Nat) (h : n ≠ m) (W : World) : Calls Try.prog 57 #[.slice a n c, .slice b m d] W fun e W' => e = .returned (.bool false) ∧ W' = W := by
  have hne : ((n : Int) != (m : Int)) = true := by simp; omega
  have hne2 : ¬ ((n : Int) = (m : Int)) := by omega
  go_enter Try.func57, Try.ntmps57
  go_wp2
  go_ret
  exact ⟨rfl, rfl⟩
set_option maxHeartbeats 1000000 in
theorem equal_zero (a b : Option Addr) (c d : Nat) (W : World) : Calls Try.prog 57 #[.slice a 0 c, .slice b 0 d] W fun e W' => e = .returned (.bool true) ∧ W' = W := by
  go_enter Try.func57, Try.ntmps57
  go_wp2
  go_loopw [13] (fun i wr => i = .int .i64 0 ∧ wr = W) (fun _ _ => 0)
  case atStart => exact ⟨rfl, rfl⟩
  case round =>
    obtain ⟨rfl, rfl⟩ := hrel
    go_wp2
    refine bodyPost_ret (results_tmp rfl _ _ _) rfl ?_
    exact ⟨rfl, rfl⟩
theorem equal_ok (r1 r2 : RV) (s1 s2 : List V3) (W : World) (h1 : Cont W r1 s1) (h2 : Cont W r2 s2) (hn : r1.n ≤ 100000) :
    Calls Try.prog 57 #[.slice r1.a r1.n r1.c, .slice r2.a r2.n r2.c] W fun e W' => e = .returned (.bool (eqRow s1 s2)) ∧ W'.heap = W.heap ∧ W'.os = W.os ∧ W'.tape = W.tape ∧ W'.output = W.output := by
  have l1 : s1.length = r1.n := by
    exact h1.len
  have l2 : s2.length = r2.n := by
    exact h2.len
  by_cases hm : r1.n = r2.n
  · by_cases hz : r1.n = 0
    · have e1 : s1 = [] := List.eq_nil_of_length_eq_zero (by omega)
      have e2 : s2 = [] := List.eq_nil_of_length_eq_zero (by omega)
      rw [← hm, hz, e1, e2]
      refine (equal_zero r1.a r2.a r1.c r2.c W).mono ?_
      rintro e w ⟨rfl, rfl⟩
      exact ⟨rfl, rfl, rfl, rfl, rfl⟩
    · rcases h1 with ⟨h, _⟩ | ⟨b1, o1, ha, _, _, hc1⟩
      · exact absurd h hz
      rcases h2 with ⟨h, _⟩ | ⟨b2, o2, hb, _, _, hc2⟩
      · exact absurd (hm.trans h) hz
      rw [ha, hb, ← hm]
      exact equal_some b1 o1 r1.c b2 o2 r2.c r1.n s1 s2 l1 (l2.trans hm.symm) hn W hc1 hc2
  · rw [eqRow_len s1 s2 (by omega)]
    refine (equal_len r1.a r2.a r1.n r1.c r2.n r2.c hm W).mono ?_
    rintro e w ⟨rfl, rfl⟩
    exact ⟨rfl, rfl, rfl, rfl, rfl⟩
end Go.Proofs.Ytghpjlohoehdnaa.Sep

/-! The predicate that sort.Distinct hands to ContainsFunc. No condition beyond those that each theorem names. -/
namespace Go.Proofs.Ytghpjlohoehdnaa.Sep
open Go Go.RowKit Go.Shelf
set_option linter.unusedVariables false
set_option linter.unusedSimpArgs false
set_option maxHeartbeats 1000000 in
theorem pred_ok (oa ra : Option Addr) (on oc rn rc B : Nat) (so sr : List V3) (W : World) (hc : W.cell? ⟨B, 0, none⟩ = some (.slice ra rn rc)) (h1 : Cont W ⟨oa, on, oc⟩ so) (h2 : Cont W ⟨ra, rn, rc⟩ sr) (hn : on ≤ 100000) :
    Calls Try.prog 56 #[.slice oa on oc, .pointer (some ⟨B, 0, none⟩)] W fun e W' => e = .returned (.bool (eqRow so sr)) ∧ W'.heap = W.heap ∧ W'.os = W.os ∧ W'.tape = W.tape ∧ W'.output = W.output := by
  go_enter Try.func56, Try.ntmps56
  go_wp2_with (go_at_call 57; refine (equal_ok ⟨oa, on, oc⟩ ⟨ra, rn, rc⟩ so sr _ h1 h2 hn).mono ?_; rintro e w' ⟨rfl, hw⟩)
  go_ret
  exact ⟨rfl, hw⟩
end Go.Proofs.Ytghpjlohoehdnaa.Sep

/-! scan.Collect: all rows of an iterator, as a list of clones; or its error. No condition beyond those that each theorem names. -/
namespace Go.Proofs.Ytghpjlohoehdnaa.Sep
open Go Go.RowKit Go.Shelf
attribute [local go_sem] Oper.semAt_some
set_option linter.unusedVariables false
set_option linter.unusedSimpArgs false
/-- P holds of the two lists' elements, one by one -/
def All2 {α β : Type} (P : α → β → Prop) : List α → List β → Prop
  | [], [] => True
  | a :: l, b :: m => P a b ∧ All2 P l m
  | _, _ => False
theorem All2.imp {α β : Type} {P Q : α → β → Prop} (h : ∀ a b, P a b → Q a b) : ∀ {l : List α} {m : List β}, All2 P l m → All2 Q l m
  | [], [], _ => trivial
  | a :: l, b :: m, ⟨h1, h2⟩ => ⟨h a b h1, h2.imp h⟩
theorem All2.len {α β : Type} {P : α → β → Prop} : ∀ {l : List α} {m : List β}, All2 P l m → l.length = m.length
  | [], [], _ => rfl
  | a :: l, b :: m, ⟨_, h2⟩ => by simp [h2.len]
theorem All2.snoc {α β : Type} {P : α → β → Prop} {a : α} {b : β} (h : P a b) : ∀ {l : List α} {m : List β}, All2 P l m → All2 P (l ++ [a]) (m ++ [b])
  | [], [], _ => ⟨h, trivial⟩
  | c :: l, d :: m, ⟨h1, h2⟩ => ⟨h1, h2.snoc h⟩
theorem All2.get {α β : Type} {P : α → β → Prop} : ∀ {l : List α} {m : List β}, All2 P l m → ∀ (i : Nat) a b, l[i]? = some a → m[i]? = some b → P a b
  | [], [], _, i, a, b, h1, _ => by simp at h1
  | c :: l, d :: m, ⟨h1, h2⟩, 0, a, b, e1, e2 => by simp at e1 e2; subst e1; subst e2; exact h1
  | c :: l, d :: m, ⟨h1, h2⟩, i + 1, a, b, e1, e2 => h2.get i a b (by simpa using e1) (by simpa using e2)
/-- the value v is an iterator over ys; it reads the blocks R -/
structure It (v : Value) (ys : List (RV × Int)) (R : Nat → Prop) (w : World) : Prop where
  ex : ∃ g lb, v = .func (.func g) #[] lb ∧ (∀ args w, (callFunc g args).run Try.prog w = .ok (.enter g args) w) ∧ ∀ n, Seq Fence.wide n Try.prog g lb enc ys R w
  lt : ∀ j, R j → j < w.heap.size
theorem It.later {v : Value} {ys : List (RV × Int)} {R : Nat → Prop} {w W : World} (h : It v ys R w) (hs : w.heap.size ≤ W.heap.size) (hR : ∀ j, R j → W.heap[j]? = w.heap[j]?) : It v ys R W := by
  obtain ⟨g, lb, rfl, eg, hq⟩ := h.ex
  refine ⟨⟨g, lb, rfl, eg, fun n l J Jx X W2 hs2 hR2 hX hJ hJx hY h0 => hq n l J Jx X W2 (Nat.le_trans hs hs2) (fun j hj => ?_) hX hJ hJx hY h0⟩, fun j hj => Nat.lt_of_lt_of_le (h.lt j hj) hs⟩
  obtain ⟨a, b, c⟩ := hR2 j hj
  exact ⟨h.lt j hj, b, c.trans (hR j hj)⟩
theorem infoR : (Try.prog.info? 48).map (fun i => (i.zero, i.size, i.bytes)) = some (some (.slice none 0 0), 1, 24) := by kernel_rfl
/-- what Collect's own blocks hold when pre has come -/
structure CI (N : Nat) (rows : List (List V3)) (pre : List (RV × Int)) (X : Nat → Prop) (W : World) : Prop where
  zero : ∀ y ∈ pre, y.2 = 0
  b0 : Boxed W N 22 (.slice none 0 0)
  b1 : Boxed W (N + 1) 25 (.int .i64 0)
  out : ∃ v rs, Boxed W (N + 2) 22 v ∧ W.ownsRow N 48 1 v pre.length (rs.map RV.v) ∧ (∀ j, v.ownBlock = some j → X j) ∧ All2 (fun r row => Cont W r row ∧ r.n ≤ 1000 ∧ ∀ j, r.blk j → X j ∧ N + 2 < j ∧ v.ownBlock ≠ some j) rs (rows.take pre.length)
  x0 : X N
  x1 : X (N + 1)
  x2 : X (N + 2)
  lo : ∀ j, X j → N ≤ j
theorem boxed_same {W W' : World} {B : Nat} {t : TypeId} {v : Value} (hb : W'.heap[B]? = W.heap[B]?) (h : Boxed W B t v) : Boxed W' B t v := hb.trans h
theorem ownsRow_same {W W' : World} {N : Nat} {e : TypeId} {size : Nat} {v : Value} {k : Nat} {xs : List Value} (hb : ∀ j, v.ownBlock = some j → W'.heap[j]? = W.heap[j]?) (h : W.ownsRow N e size v k xs) : W'.ownsRow N e size v k xs := by
  refine ⟨h.1, ?_⟩
  rcases h.2 with h | ⟨g, cap, cur, rfl, h1, h2, h3⟩
  · exact .inl h
  · exact .inr ⟨g, cap, cur, rfl, h1, (hb g rfl).trans h2, h3⟩
theorem CI.stable (N n₀ : Nat) (rows : List (List V3)) : Stable n₀ (CI N rows) := by
  intro pre X W W' h ha
  have hb : ∀ j, X j → W'.heap[j]? = W.heap[j]? := fun j hj => ha.block j (.inl hj)
  obtain ⟨v, rs, o1, o2, o3, o4⟩ := h.out
  refine ⟨h.zero, boxed_same (hb _ h.x0) h.b0, boxed_same (hb _ h.x1) h.b1, ⟨v, rs, boxed_same (hb _ h.x2) o1, ownsRow_same (fun j hj => hb j (o3 j hj)) o2, o3, ?_⟩, h.x0, h.x1, h.x2, h.lo⟩
  exact o4.imp fun r row hr => ⟨hr.1.same ha.size (fun j hj => hb j (hr.2.2 j hj).1), hr.2⟩
theorem size_setCell (W : World) (a : Addr) (v : Value) : (W.setCell a v).heap.size = W.heap.size := by simp [World.setCell]
theorem CI.push {N M : Nat} {rows : List (List V3)} {pre : List (RV × Int)} {X1 : Nat → Prop} {W3 W4 w5 : World} {v v' : Value} {rs : List RV} {r r' : RV} {row : List V3} {tmp : Obj}
    (hI : CI N rows pre X1 W3) (o1 : Boxed W3 (N + 2) 22 v) (o2 : W3.ownsRow N 48 1 v pre.length (rs.map RV.v)) (o3 : ∀ j, v.ownBlock = some j → X1 j)
    (o4 : All2 (fun r row => Cont W3 r row ∧ r.n ≤ 1000 ∧ ∀ j, r.blk j → X1 j ∧ N + 2 < j ∧ v.ownBlock ≠ some j) rs (rows.take pre.length)) (hM : M ≤ W3.heap.size) (hX : ∀ j, X1 j → j < M)
    (hb4 : Below W3.heap.size W3 W4) (hC : Cont W4 r' row) (hn : r'.n ≤ 1000) (hblk : ∀ j, r'.blk j → W3.heap.size ≤ j) (hown : w5.ownsRow N 48 1 v' (pre.length + 1) (rs.map RV.v ++ [r'.v]))
    (hgrow : (W4.alloc tmp).grownBy w5 v.ownBlock) (hob : v'.ownBlock = v.ownBlock ∨ v'.ownBlock = some (W4.alloc tmp).heap.size) (hrow : rows[pre.length]? = some row) :
    Gr X1 (fun j => X1 j ∨ (M ≤ j ∧ j < w5.heap.size)) M W3 (w5.setCell ⟨N + 2, 0, none⟩ v') ∧ CI N rows (pre ++ [(r, 0)]) (fun j => X1 j ∨ (M ≤ j ∧ j < w5.heap.size)) (w5.setCell ⟨N + 2, 0, none⟩ v') := by
  have hN2 : N + 2 < M := hX _ hI.x2
  have hs4 := hb4.size
  have hs5 := hgrow.size
  rw [World.size_alloc] at hs5
  have b5 : ∀ j, j < W3.heap.size → v.ownBlock ≠ some j → w5.heap[j]? = W3.heap[j]? := fun j hj hv =>
    (hgrow.block j (by rw [World.size_alloc]; omega) (fun e => hv e.symm)).trans ((Below.heap_alloc W4 tmp j (by omega)).trans (hb4.block j hj))
  have b6 : ∀ j, j ≠ N + 2 → (w5.setCell ⟨N + 2, 0, none⟩ v').heap[j]? = w5.heap[j]? := fun j hj => Below.heap_setCell _ _ _ j hj
  have nb : ∀ {B : Nat} {t : TypeId} {u : Value}, t ≠ 48 → Boxed W3 B t u → v.ownBlock ≠ some B := fun ht hb e => (hb.not_row ht o2) e.symm
  have hv5 : Boxed w5 (N + 2) 22 v := (b5 _ (by omega) (nb (by decide) o1)).trans o1
  have hv6 : Boxed (w5.setCell ⟨N + 2, 0, none⟩ v') (N + 2) 22 v' := hv5.set v'
  have ho6 : (w5.setCell ⟨N + 2, 0, none⟩ v').ownsRow N 48 1 v' (pre.length + 1) (rs.map RV.v ++ [r'.v]) := ownsRow_same (fun j hj => b6 j (by rintro rfl; exact (hv5.not_row (by decide) hown) hj.symm)) hown
  have hz : (w5.setCell ⟨N + 2, 0, none⟩ v').heap.size = w5.heap.size := size_setCell _ _ _
  have hos : (w5.setCell ⟨N + 2, 0, none⟩ v').os = w5.os ∧ (w5.setCell ⟨N + 2, 0, none⟩ v').tape = w5.tape ∧ (w5.setCell ⟨N + 2, 0, none⟩ v').output = w5.output := ⟨rfl, rfl, rfl⟩
  refine ⟨⟨hos.1.trans (hgrow.os.trans hb4.os), hos.2.1.trans (hgrow.tape.trans hb4.tape), hos.2.2.trans (hgrow.output.trans hb4.output), by rw [hz]; omega, ?_, ?_, ?_⟩, ?_⟩
  · intro j hj hx
    rw [b6 j (fun e => hx (e ▸ hI.x2)), b5 j (by omega) (fun e => hx (o3 j e))]
  · rintro j (h | h)
    · exact .inl h
    · exact .inr h.1
  · rintro j (h | h)
    · rw [hz]; have := hX j h; omega
    · rw [hz]; exact h.2
  · refine ⟨?_, ?_, ?_, ⟨v', rs ++ [r'], hv6, ?_, ?_, ?_⟩, .inl hI.x0, .inl hI.x1, .inl hI.x2, ?_⟩
    · intro y hy
      rcases List.mem_append.1 hy with h | h
      · exact hI.zero y h
      · rw [List.mem_singleton.1 h]
    · exact (b6 N (by omega)).trans ((b5 N (by omega) (nb (by decide) hI.b0)).trans hI.b0)
    · exact (b6 (N + 1) (by omega)).trans ((b5 (N + 1) (by omega) (nb (by decide) hI.b1)).trans hI.b1)
    · rw [List.length_append, List.length_singleton, List.map_append, List.map_singleton]; exact ho6
    · intro j hj
      have hlt : j < w5.heap.size := by
        rcases hown.2 with ⟨rfl, h0⟩ | ⟨g, cap, cur, rfl, h1, h2, _⟩
        · cases hj
        · injection hj with hj; rw [← hj]; exact (Array.getElem?_eq_some_iff.1 h2).1
      rcases hob with h | h
      · exact .inl (o3 j (h ▸ hj))
      · rw [h] at hj; injection hj with hj
        rw [World.size_alloc] at hj
        exact .inr ⟨by omega, hlt⟩
    · rw [List.length_append, List.length_singleton, List.take_add_one, hrow]
      have same : ∀ (q : RV) (qr : List V3), Cont W4 q qr → (∀ j, q.blk j → some j ≠ v.ownBlock ∧ j ≠ N + 2 ∧ j < W4.heap.size) → Cont (w5.setCell ⟨N + 2, 0, none⟩ v') q qr := fun q qr hq hj =>
        hq.same (by rw [hz]; omega) (fun j hb => (b6 j (hj j hb).2.1).trans ((hgrow.block j (by rw [World.size_alloc]; have := (hj j hb).2.2; omega) (hj j hb).1).trans (Below.heap_alloc W4 tmp j (hj j hb).2.2)))
      have blt : ∀ (q : RV) (qr : List V3), Cont W4 q qr → ∀ j, q.blk j → j < W4.heap.size := fun q qr hq j hj => hq.blt j hj
      have vlt : ∀ j, v.ownBlock = some j → j < M := fun j hj => hX j (o3 j hj)
      have old : ∀ (q : RV) (qr : List V3), (Cont W3 q qr ∧ q.n ≤ 1000 ∧ ∀ j, q.blk j → X1 j ∧ N + 2 < j ∧ v.ownBlock ≠ some j) →
          (Cont (w5.setCell ⟨N + 2, 0, none⟩ v') q qr ∧ q.n ≤ 1000 ∧ ∀ j, q.blk j → (X1 j ∨ (M ≤ j ∧ j < w5.heap.size)) ∧ N + 2 < j ∧ v'.ownBlock ≠ some j) := fun q qr ⟨h1, h2, h3⟩ => by
        have h4 : Cont W4 q qr := h1.same hs4 (fun j hj => hb4.block j (by have := hX j (h3 j hj).1; omega))
        refine ⟨same q qr h4 (fun j hj => ⟨fun e => (h3 j hj).2.2 e.symm, by have := (h3 j hj).2.1; omega, blt q qr h4 j hj⟩), h2, fun j hj => ⟨.inl (h3 j hj).1, (h3 j hj).2.1, fun e => ?_⟩⟩
        rcases hob with h | h
        · exact (h3 j hj).2.2 (h ▸ e)
        · rw [h] at e; injection e with e
          rw [World.size_alloc] at e
          have := blt q qr h4 j hj; omega
      refine All2.snoc ⟨same r' row hC (fun j hj => ⟨fun e => ?_, by have := hblk j hj; omega, blt r' row hC j hj⟩), hn, fun j hj => ⟨.inr ⟨by have := hblk j hj; omega, by have := blt r' row hC j hj; omega⟩, by have := hblk j hj; omega, fun e => ?_⟩⟩ (o4.imp old)
      · have := vlt j e.symm; have := hblk j hj; omega
      · rcases hob with h | h
        · have := vlt j (h ▸ e); have := hblk j hj; omega
        · rw [h] at e; injection e with e
          rw [World.size_alloc] at e
          have := blt r' row hC j hj; omega
    · rintro j (h | h)
      · exact hI.lo j h
      · omega
theorem clone_push {N M : Nat} {rows : List (List V3)} {pre : List (RV × Int)} {X1 : Nat → Prop} {W : World} {v : Value} {rs : List RV} {ra : Option Addr} {rn rc : Nat} {row : List V3}
    (hI : CI N rows pre X1 W) (o1 : Boxed W (N + 2) 22 v) (o2 : W.ownsRow N 48 1 v pre.length (rs.map RV.v)) (o3 : ∀ j, v.ownBlock = some j → X1 j)
    (o4 : All2 (fun r row => Cont W r row ∧ r.n ≤ 1000 ∧ ∀ j, r.blk j → X1 j ∧ N + 2 < j ∧ v.ownBlock ≠ some j) rs (rows.take pre.length)) (hM : M ≤ W.heap.size) (hX : ∀ j, X1 j → j < M)
    (hC : Cont W ⟨ra, rn, rc⟩ row) (hrn : rn ≤ 1000) (hrl : row.length ≤ 1000) (hpl : pre.length < 100000) (hrow : rows[pre.length]? = some row) :
    Calls Try.prog 42 #[.slice ra rn rc] W fun e w4 => ∃ qa qn qc g' cap' w5, e = .returned (.slice qa qn qc) ∧ Boxed w4 (N + 2) 22 v ∧
      (Builtin.append_ #[22, 22] 22 #[v, .slice (some ⟨w4.heap.size, 0, none⟩) 1 1]).run Try.prog (w4.alloc (.cells #[.slice qa qn qc] 48)) = .ok (.slice (some ⟨g', 0, none⟩) (pre.length + 1) cap') w5 ∧ Boxed w5 (N + 2) 22 v ∧
      Gr X1 (fun j => X1 j ∨ (M ≤ j ∧ j < w5.heap.size)) M W (w5.setCell ⟨N + 2, 0, none⟩ (.slice (some ⟨g', 0, none⟩) (pre.length + 1) cap')) ∧
      CI N rows (pre ++ [(⟨ra, rn, rc⟩, 0)]) (fun j => X1 j ∨ (M ≤ j ∧ j < w5.heap.size)) (w5.setCell ⟨N + 2, 0, none⟩ (.slice (some ⟨g', 0, none⟩) (pre.length + 1) cap')) := by
  obtain ⟨i0, hi, hz0, hz1, hz2⟩ := info_parts infoR
  refine (clone_ok ⟨ra, rn, rc⟩ row W hC (by dsimp only; omega)).mono ?_
  rintro e4 w4 ⟨⟨qa, qn, qc⟩, rfl, hC5, hblk4, hn4, hb4⟩
  have hlt4 : ∀ j, X1 j → j < W.heap.size := fun j hj => Nat.lt_of_lt_of_le (hX j hj) hM
  have o15 : Boxed w4 (N + 2) 22 v := (hb4.block _ o1.lt).trans o1
  have o25 : w4.ownsRow N 48 1 v pre.length (rs.map RV.v) := ownsRow_same (fun j hj => hb4.block j (hlt4 j (o3 j hj))) o2
  have hN := o1.lt
  have hs4 := hb4.size
  obtain ⟨v', w5, hrun, hown', hgrow, _, hob⟩ := run_append_own_at (P := Try.prog) (w := w4.alloc (.cells #[.slice qa qn qc] 48)) N 22 22 48 i0 (.slice none 0 0) 1 24 Try.underlying22 hi hz0 hz1 hz2 rfl (by decide) v pre.length (rs.map RV.v) (o25.alloc _) ⟨w4.heap.size, 0, none⟩ 1 1 [.slice qa qn qc] rfl (cell_one_new _ _ _) (by simp [Value.oneCell']) (by unfold maxLen; omega) (by omega) (by simp; omega)
  have hn5 : qn ≤ 1000 := by have h9 : qn = row.length := hn4; omega
  have hpush := CI.push (r := ⟨ra, rn, rc⟩) (r' := ⟨qa, qn, qc⟩) hI o1 o2 o3 o4 hM hX hb4 hC5 hn5 hblk4 hown' hgrow hob hrow
  obtain ⟨g', cap', rfl⟩ := ownsRow_succ hown'
  exact ⟨qa, qn, qc, g', cap', w5, rfl, o15, hrun, (o15.alloc _).kept hgrow (o15.not_row (by decide) o25), hpush.1, hpush.2⟩
theorem if_intro {c p q : Prop} [Decidable c] (hc : c) (hp : p) : if c then p else q := by rw [if_pos hc]; exact hp
/-- an append in a region, by its run -/
theorem app_step {F : Fence} {n : Nat} {o : Oper} {a : Act} {w w' : World} {v' : Value} {K : Act → World → Prop} {Q : Exit → Act → World → Prop} {s x : Operand} {t : TypeId} (hg : o.guard = none)
    (hop : o.op = .call { callee := .builtin .append, args := #[s, x], argTypes := #[t, t] }) (hrun : (Builtin.append_ #[t, t] o.type #[a.eval s, a.eval x]).run Try.prog w = .ok v' w') (h : K (a.put o.dst v') w') : Oper.wpIn F n Try.prog o a w K Q := by
  unfold Oper.wpIn
  refine ⟨by simp [Oper.about, hop, resolve, Target.leads, Sem.run_pure], ?_⟩
  rw [Oper.semAt_plain F _ _ (by rw [hop]; intro c hc'; cases hc')]
  simp [execOp, hop, resolve, invoke, builtin, hrun, Result.andThen]
  exact h
theorem res19 (N : Nat) (W : World) (a : Option Addr) (k c : Nat) (e : Int) (tmps : Array Value) (h2 : tmps.getD 2 undef = .pointer (some ⟨N, 0, none⟩)) (h3 : tmps.getD 3 undef = .pointer (some ⟨N + 1, 0, none⟩))
    (b0 : Boxed W N 22 (.slice a k c)) (b1 : Boxed W (N + 1) 25 (.int .i64 e)) : (results Try.f19 tmps).run Try.prog W = .ok (.tuple #[.slice a k c, .int .i64 e]) W := by
  have hr : Try.f19.results = #[.cell 2 22, .cell 3 25] := rfl
  have c0 := b0.cell
  have c1 := b1.cell
  have f0 := b0.frozen
  have f1 := b1.frozen
  simp only [results, hr]
  rw [Array.getD_eq_getD_getElem?] at h2 h3
  simp [Sem.run_bind, Result.andThen, h2, h3]
  go_simp
theorem ret19 {n D : Nat} {Φ : Ending → World → Prop} {tmps : Array Value} {W : World} {a : Option Addr} {k c N : Nat} {e : Int} (hK : W.heap[D]? = some (.deferred (some []))) (h2 : tmps.getD 2 undef = .pointer (some ⟨N, 0, none⟩)) (h3 : tmps.getD 3 undef = .pointer (some ⟨N + 1, 0, none⟩))
    (b0 : Boxed W N 22 (.slice a k c)) (b1 : Boxed W (N + 1) 25 (.int .i64 e)) (h : Φ (.returned (.tuple #[.slice a k c, .int .i64 e])) (W.putObj D (.deferred none))) :
    bodyPostM Fence.wide n Try.prog Try.f19 Φ .ret { tmps := tmps, defers := [{ target := .collected D, args := #[] }] } W := by
  have n0 : N ≠ D := by rintro rfl; rw [show W.heap[N]? = _ from b0] at hK; cases hK
  have n1 : N + 1 ≠ D := by rintro rfl; rw [show W.heap[N + 1]? = _ from b1] at hK; cases hK
  refine ⟨by simp, .inl ⟨_, _, rfl, run_takeDeferred hK, ?_⟩⟩
  exact ⟨_, res19 N _ a k c e tmps h2 h3 (boxed_same (World.putObj_heap_other n0) b0) (boxed_same (World.putObj_heap_other n1) b1), h⟩
set_option maxRecDepth 100000 in
set_option maxHeartbeats 4000000 in
theorem collect_in (n : Nat) (hn : 3 ≤ n) (v : Value) (ys : List (RV × Int)) (rows : List (List V3)) (R : Nat → Prop) (w : World) (hit : It v ys R w) (hlen : ys.length ≤ 100000)
    (hrows : All2 (fun y row => y.2 = 0 → Cont w y.1 row ∧ y.1.n ≤ 1000) ys rows) :
    CallsIn Fence.wide n Try.prog 19 #[v] w fun e W' => Below w.heap.size w W' ∧
      ((∃ sv rs, e = .returned (.tuple #[sv, .int .i64 0]) ∧ (∀ y ∈ ys, y.2 = 0) ∧ W'.ownsRow w.heap.size 48 1 sv ys.length (rs.map RV.v) ∧ All2 (fun r row => Cont W' r row ∧ r.n ≤ 1000 ∧ ∀ j, r.blk j → w.heap.size ≤ j) rs rows) ∨
       (∃ pre y, pre ++ [y] <+: ys ∧ (∀ z ∈ pre, z.2 = 0) ∧ y.2 ≠ 0 ∧ e = .returned (.tuple #[.slice none 0 0, .int .i64 y.2]))) := by
  obtain ⟨g, lb, rfl, eg, hq⟩ := hit.ex
  obtain ⟨i0, hi, hz0, hz1, hz2⟩ := info_parts infoR
  have hro : Fence.wide.round = none := rfl
  have hmx : Try.prog.follows .mixedOrders = true := by kernel_rfl
  have h1 : 1 ≤ n := by omega
  refine callsIn_of_wp_marks Try.func19 rfl trivial ?_ hro
  simp only [Try.ntmps19, List.size_toArray, List.length_cons, List.length_nil, Nat.reduceAdd, Nat.reduceSub, Array.replicate_succ, Array.replicate_zero, List.push_toArray, List.append_toArray, List.nil_append, List.cons_append]
  have hfn : ∀ (w : World) (g : FuncId) (lb : Array Value), (binOp .eql 31 (.func (.func g) #[] lb) .nilFunc).run Try.prog w = .ok (.bool false) w := fun _ _ _ => rfl
  gi_wp2
  have bA := Boxed.new w 22 (.slice none 0 0)
  have bB := Boxed.new (w.alloc (.cells #[.slice none 0 0] 22)) 25 (.int .i64 0)
  have bC := Boxed.new ((w.alloc (.cells #[.slice none 0 0] 22)).alloc (.cells #[.int .i64 0] 25)) 22 (.slice none 0 0)
  simp only [World.size_alloc] at bB bC
  have bA2 := (bA.alloc (.cells #[.int .i64 0] 25)).alloc (.cells #[.slice none 0 0] 22)
  have bB2 := bB.alloc (.cells #[.slice none 0 0] 22)
  have hbel : Below w.heap.size w (((w.alloc (.cells #[.slice none 0 0] 22)).alloc (.cells #[.int .i64 0] 25)).alloc (.cells #[.slice none 0 0] 22)) := (((Below.refl _ w).alloc (Nat.le_refl _) _).alloc (by simp) _).alloc (by simp; omega) _
  have hsz : (((w.alloc (.cells #[.slice none 0 0] 22)).alloc (.cells #[.int .i64 0] 25)).alloc (.cells #[.slice none 0 0] 22)).heap.size = w.heap.size + 3 := by simp
  clear bA bB
  generalize ((w.alloc (.cells #[.slice none 0 0] 22)).alloc (.cells #[.int .i64 0] 25)).alloc (.cells #[.slice none 0 0] 22) = w3 at bA2 bB2 bC hbel hsz ⊢
  refine wpIn_rangeFunc_sep hro h1 (gf := g) (lb := lb) rfl trivial eg (hq (n - 1)) (fun _ => rfl) (fun j => w.heap.size ≤ j ∧ j < w3.heap.size) hbel.size
    (fun j hj => ⟨hit.lt j hj, fun h => by have := hit.lt j hj; omega, hbel.block j (hit.lt j hj)⟩) (fun j hj => hj.2)
    (CI w.heap.size rows)
    (fun c pre X W => c = .ret ∧ ∃ p y, pre = p ++ [y] ∧ (∀ z ∈ p, z.2 = 0) ∧ y.2 ≠ 0 ∧ Boxed W w.heap.size 22 (.slice none 0 0) ∧ Boxed W (w.heap.size + 1) 25 (.int .i64 y.2) ∧ X w.heap.size ∧ X (w.heap.size + 1) ∧ ∀ j, X j → w.heap.size ≤ j)
    (CI.stable _ _ _) ?xst ?start ?round ?done ?stop
  case xst =>
    rintro c pre X W W' ⟨rfl, p, y, e1, e2, e3, e4, e5, e6, e7, e8⟩ ha
    exact ⟨rfl, p, y, e1, e2, e3, boxed_same (ha.block _ (.inl e6)) e4, boxed_same (ha.block _ (.inl e7)) e5, e6, e7, e8⟩
  case start =>
    exact ⟨(fun _ h => by cases h), bA2, bB2, ⟨.slice none 0 0, [], bC, World.ownsRow_nil _ _ _ _, (fun j h => by cases h), trivial⟩, by omega, by omega, by omega, (fun j h => h.1)⟩
  case round =>
    rintro l pre ⟨⟨ra, rn, rc⟩, e⟩ X1 W1 hl hpre hI hg hXl hlt
    gi_wp2
    refine ⟨fun _ _ _ => trivial, Nat.le_refl _, trivial, trivial, trivial, ?_⟩
    intro W3 z1 z2 z3 z4 z5
    have hag : Agree X1 0 W1 W3 := ⟨z2, z3, z4, by omega, fun j hj => z5 j (by rintro rfl; rcases hj with h | h; exact hXl h; omega)⟩
    have hI3 := CI.stable _ 0 _ _ _ _ _ hI hag
    obtain ⟨v, rs, o1, o2, o3, o4⟩ := hI3.out
    have hc0 := hI3.b0.cell
    have hf0 := hI3.b0.frozen
    have hc1 := hI3.b1.cell
    have hf1 := hI3.b1.frozen
    have hcv := o1.cell
    have hfv := o1.frozen
    have hn2 : 1 ≤ n - 1 - 1 := by omega
    have hM : W1.heap.size ≤ W3.heap.size := by omega
    have hpl : pre.length < ys.length := by have := hpre.length_le; rw [List.length_append, List.length_singleton] at this; omega
    by_cases he : e = 0
    · subst he
      have hy : ys[pre.length]? = some ((⟨ra, rn, rc⟩ : RV), (0 : Int)) := by
        obtain ⟨t, rfl⟩ := hpre
        simp
      have hlen2 := hrows.len
      obtain ⟨row, hrow⟩ : ∃ row, rows[pre.length]? = some row := ⟨rows[pre.length]'(by omega), List.getElem?_eq_getElem (by omega)⟩
      have hcont := hrows.get pre.length _ _ hy hrow rfl
      have hC3 : Cont W3 ⟨ra, rn, rc⟩ row := hcont.1.same (by have := hg.size; have := hbel.size; omega) (fun j hj => by
        have hjw : j < w.heap.size := hcont.1.blt j hj
        exact (z5 j (by omega)).trans ((hg.block j (by omega) (by omega)).trans (hbel.block j hjw)))
      have hbig : rn ≤ 1000 := hcont.2
      have hrowlen : row.length ≤ 1000 := by
        rw [hcont.1.len]; exact hbig
      have hI4 : CI w.heap.size rows pre X1 W3.drew := CI.stable _ 0 _ _ _ _ _ hI3 ⟨rfl, rfl, rfl, Nat.le_refl _, fun _ _ => rfl⟩
      have o14 : Boxed W3.drew (w.heap.size + 2) 22 v := o1
      have o24 : W3.drew.ownsRow w.heap.size 48 1 v pre.length (rs.map RV.v) := ownsRow_same (fun _ _ => rfl) o2
      have o44 : All2 (fun r row => Cont W3.drew r row ∧ r.n ≤ 1000 ∧ ∀ j, r.blk j → X1 j ∧ w.heap.size + 2 < j ∧ v.ownBlock ≠ some j) rs (rows.take pre.length) := o4.imp fun q qr h => ⟨h.1.same (Nat.le_refl _) (fun _ _ => rfl), h.2⟩
      have hC4 : Cont W3.drew ⟨ra, rn, rc⟩ row := hC3.same (Nat.le_refl _) (fun _ _ => rfl)
      have hM4 : W1.heap.size ≤ W3.drew.heap.size := hM
      have hlt4 : ∀ j, X1 j → j < W3.drew.heap.size := fun j hj => Nat.lt_of_lt_of_le (hg.lt j hj) hM
      have hback : ∀ X' W', Gr X1 X' W1.heap.size W3.drew W' → Gr X1 X' W1.heap.size W3 W' := fun X' W' h => ⟨h.os, h.tape, h.output, h.size, h.block, h.sub, h.lt⟩
      have hcv' := o14.cell
      have hfv' := o14.frozen
      gi_wp2
      refine wpIn_region_any hmx ?_
      change wpAnyIn _ _ _ _ _ _ _ _ _ (World.drew _)
      refine wpAnyIn_ready (rs := [0, 1]) (by kernel_rfl) (by simp) ?_
      refine AllReadyIn.cons rfl (fun K hK => ?_) (AllReadyIn.cons rfl (fun K hK => ?_) AllReadyIn.nil)
      · go_simp
        refine hK _ _ ?_
        clear hK K
        refine wpAnyIn_ready (rs := [1]) (by kernel_rfl) (by simp) ?_
        refine AllReadyIn.cons rfl (fun K hK => ?_) AllReadyIn.nil
        go_simp
        refine hK _ _ ?_
        clear hK K
        refine wpAnyIn_ready (rs := [2]) (by kernel_rfl) (by simp) ?_
        refine AllReadyIn.cons rfl (fun K hK => ?_) AllReadyIn.nil
        go_simp
        refine ⟨trivial, ?_⟩
        refine (CallsIn.inRound _ (callsIn_wide.2 (clone_push hI4 o14 o24 o3 o44 hM4 hg.lt hC4 hbig hrowlen (by omega) hrow))).mono ?_
        rintro e4 w4 ⟨qa, qn, qc, g', cap', w5, rfl, o15, hrun, hv5, hgr5, hci5⟩
        have hcv4 := o15.cell
        have hfv4 := o15.frozen
        have hcv6 := (o15.alloc (.cells #[.slice qa qn qc] 48)).cell
        have hcv5 := hv5.cell
        have hfv5 := hv5.frozen
        refine hK _ _ ?_
        clear hK K
        refine wpAnyIn_ready (rs := [3]) (by kernel_rfl) (by simp) ?_
        refine AllReadyIn.cons rfl (fun K hK => ?_) AllReadyIn.nil
        go_simp
        refine hK _ _ ?_
        clear hK K
        refine wpAnyIn_ready (rs := [4]) (by kernel_rfl) (by simp) ?_
        refine AllReadyIn.cons rfl (fun K hK => ?_) AllReadyIn.nil
        refine if_intro (by rfl) ?_
        refine app_step rfl rfl hrun ?_
        refine hK _ _ ?_
        clear hK K
        simp only [Act.put, List.setIfInBounds_toArray, List.set_cons_zero, List.set_cons_succ]
        refine wpAnyIn_ready (rs := [5]) (by kernel_rfl) (by simp) ?_
        refine AllReadyIn.cons rfl (fun K hK => ?_) AllReadyIn.nil
        go_simp
        refine hK _ _ ?_
        clear hK K
        refine wpAnyIn_done (by kernel_rfl) ?_ _
        gi_wp2
        exact ⟨_, hback _ _ hgr5, hci5⟩
      · go_simp
        refine hK _ _ ?_
        clear hK K
        refine wpAnyIn_ready (rs := [0, 2]) (by kernel_rfl) (by simp) ?_
        refine AllReadyIn.cons rfl (fun K hK => ?_) (AllReadyIn.cons rfl (fun K hK => ?_) AllReadyIn.nil)
        · go_simp
          refine hK _ _ ?_
          clear hK K
          refine wpAnyIn_ready (rs := [2]) (by kernel_rfl) (by simp) ?_
          refine AllReadyIn.cons rfl (fun K hK => ?_) AllReadyIn.nil
          go_simp
          refine ⟨trivial, ?_⟩
          refine (CallsIn.inRound _ (callsIn_wide.2 (clone_push hI4 o14 o24 o3 o44 hM4 hg.lt hC4 hbig hrowlen (by omega) hrow))).mono ?_
          rintro e4 w4 ⟨qa, qn, qc, g', cap', w5, rfl, o15, hrun, hv5, hgr5, hci5⟩
          have hcv4 := o15.cell
          have hfv4 := o15.frozen
          have hcv6 := (o15.alloc (.cells #[.slice qa qn qc] 48)).cell
          have hcv5 := hv5.cell
          have hfv5 := hv5.frozen
          refine hK _ _ ?_
          clear hK K
          refine wpAnyIn_ready (rs := [3]) (by kernel_rfl) (by simp) ?_
          refine AllReadyIn.cons rfl (fun K hK => ?_) AllReadyIn.nil
          go_simp
          refine hK _ _ ?_
          clear hK K
          refine wpAnyIn_ready (rs := [4]) (by kernel_rfl) (by simp) ?_
          refine AllReadyIn.cons rfl (fun K hK => ?_) AllReadyIn.nil
          refine if_intro (by rfl) ?_
          refine app_step rfl rfl hrun ?_
          refine hK _ _ ?_
          clear hK K
          simp only [Act.put, List.setIfInBounds_toArray, List.set_cons_zero, List.set_cons_succ]
          refine wpAnyIn_ready (rs := [5]) (by kernel_rfl) (by simp) ?_
          refine AllReadyIn.cons rfl (fun K hK => ?_) AllReadyIn.nil
          go_simp
          refine hK _ _ ?_
          clear hK K
          refine wpAnyIn_done (by kernel_rfl) ?_ _
          gi_wp2
          exact ⟨_, hback _ _ hgr5, hci5⟩
        · go_simp
          refine ⟨trivial, ?_⟩
          refine (CallsIn.inRound _ (callsIn_wide.2 (clone_push hI4 o14 o24 o3 o44 hM4 hg.lt hC4 hbig hrowlen (by omega) hrow))).mono ?_
          rintro e4 w4 ⟨qa, qn, qc, g', cap', w5, rfl, o15, hrun, hv5, hgr5, hci5⟩
          have hcv4 := o15.cell
          have hfv4 := o15.frozen
          have hcv6 := (o15.alloc (.cells #[.slice qa qn qc] 48)).cell
          have hcv5 := hv5.cell
          have hfv5 := hv5.frozen
          refine hK _ _ ?_
          clear hK K
          refine wpAnyIn_ready (rs := [0, 3]) (by kernel_rfl) (by simp) ?_
          refine AllReadyIn.cons rfl (fun K hK => ?_) (AllReadyIn.cons rfl (fun K hK => ?_) AllReadyIn.nil)
          · go_simp
            refine hK _ _ ?_
            clear hK K
            refine wpAnyIn_ready (rs := [3]) (by kernel_rfl) (by simp) ?_
            refine AllReadyIn.cons rfl (fun K hK => ?_) AllReadyIn.nil
            go_simp
            refine hK _ _ ?_
            clear hK K
            refine wpAnyIn_ready (rs := [4]) (by kernel_rfl) (by simp) ?_
            refine AllReadyIn.cons rfl (fun K hK => ?_) AllReadyIn.nil
            refine if_intro (by rfl) ?_
            refine app_step rfl rfl hrun ?_
            refine hK _ _ ?_
            clear hK K
            simp only [Act.put, List.setIfInBounds_toArray, List.set_cons_zero, List.set_cons_succ]
            refine wpAnyIn_ready (rs := [5]) (by kernel_rfl) (by simp) ?_
            refine AllReadyIn.cons rfl (fun K hK => ?_) AllReadyIn.nil
            go_simp
            refine hK _ _ ?_
            clear hK K
            refine wpAnyIn_done (by kernel_rfl) ?_ _
            gi_wp2
            exact ⟨_, hback _ _ hgr5, hci5⟩
          · go_simp
            refine hK _ _ ?_
            clear hK K
            refine wpAnyIn_ready (rs := [0]) (by kernel_rfl) (by simp) ?_
            refine AllReadyIn.cons rfl (fun K hK => ?_) AllReadyIn.nil
            go_simp
            refine hK _ _ ?_
            clear hK K
            refine wpAnyIn_ready (rs := [4]) (by kernel_rfl) (by simp) ?_
            refine AllReadyIn.cons rfl (fun K hK => ?_) AllReadyIn.nil
            refine if_intro (by rfl) ?_
            refine app_step rfl rfl hrun ?_
            refine hK _ _ ?_
            clear hK K
            simp only [Act.put, List.setIfInBounds_toArray, List.set_cons_zero, List.set_cons_succ]
            refine wpAnyIn_ready (rs := [5]) (by kernel_rfl) (by simp) ?_
            refine AllReadyIn.cons rfl (fun K hK => ?_) AllReadyIn.nil
            go_simp
            refine hK _ _ ?_
            clear hK K
            refine wpAnyIn_done (by kernel_rfl) ?_ _
            gi_wp2
            exact ⟨_, hback _ _ hgr5, hci5⟩
    · have hne : (e != 0) = true := by simpa using he
      gi_wp2
      refine ⟨X1, ⟨rfl, rfl, rfl, by rw [size_setCell, size_setCell]; exact Nat.le_refl _, ?_, fun j h => .inl h, fun j h => by rw [size_setCell, size_setCell]; have := hg.lt j h; omega⟩, rfl, pre, _, rfl, hI3.zero, he, ?_, ?_, hI3.x0, hI3.x1, hI3.lo⟩
      · intro j hj hx
        exact (Below.heap_setCell _ _ _ j (fun h => hx (h ▸ hI3.x1))).trans (Below.heap_setCell _ _ _ j (fun h => hx (h ▸ hI3.x0)))
      · exact (Below.heap_setCell _ _ _ _ (by dsimp only; omega)).trans (hI3.b0.set _)
      · exact Boxed.set _ ((Below.heap_setCell _ _ _ _ (by dsimp only; omega)).trans hI3.b1)
  case done =>
    intro X' W hI hg hn hK
    obtain ⟨v, rs, o1, o2, o3, o4⟩ := hI.out
    have hc0 := hI.b0.cell
    have hf0 := hI.b0.frozen
    have hc1 := hI.b1.cell
    have hf1 := hI.b1.frozen
    have hcv := o1.cell
    have hfv := o1.frozen
    have hgw := hg.size
    have hbw := hbel.size
    obtain ⟨sa, sk, sc, rfl⟩ : ∃ sa sk sc, v = .slice sa sk sc := by
      rcases o2.2 with ⟨rfl, _⟩ | ⟨gq, capq, curq, rfl, _⟩
      · exact ⟨_, _, _, rfl⟩
      · exact ⟨_, _, _, rfl⟩
    gi_wp2
    have nv : ∀ {B : Nat} {t : TypeId} {u : Value}, t ≠ 48 → Boxed W B t u → (Value.slice sa sk sc).ownBlock ≠ some B := fun ht hb e => (hb.not_row ht o2) e.symm
    have s6 : ∀ j, j ≠ w.heap.size → j ≠ w.heap.size + 1 → j ≠ w3.heap.size → (((W.setCell ⟨w.heap.size, 0, none⟩ (.slice sa sk sc)).setCell ⟨w.heap.size + 1, 0, none⟩ (.int .i64 0)).putObj w3.heap.size (.deferred none)).heap[j]? = W.heap[j]? := fun j h1 h2 h3 =>
      (World.putObj_heap_other h3).trans ((Below.heap_setCell _ _ _ j h2).trans (Below.heap_setCell _ _ _ j h1))
    have sz6 : (((W.setCell ⟨w.heap.size, 0, none⟩ (.slice sa sk sc)).setCell ⟨w.heap.size + 1, 0, none⟩ (.int .i64 0)).putObj w3.heap.size (.deferred none)).heap.size = W.heap.size := by rw [World.putObj_size, size_setCell, size_setCell]
    refine ret19 (N := w.heap.size) (e := 0) (a := sa) (k := sk) (c := sc) ?_ rfl rfl ?_ ?_ ⟨⟨hg.os.trans hbel.os, hg.tape.trans hbel.tape, hg.output.trans hbel.output, by rw [sz6]; omega, ?_⟩, .inl ⟨_, rs, rfl, hI.zero, ?_, ?_⟩⟩
    · exact (Below.heap_setCell _ _ _ _ (by dsimp only; omega)).trans ((Below.heap_setCell _ _ _ _ (by dsimp only; omega)).trans hK)
    · exact (Below.heap_setCell _ _ _ _ (by dsimp only; omega)).trans (hI.b0.set _)
    · exact Boxed.set _ ((Below.heap_setCell _ _ _ _ (by dsimp only; omega)).trans hI.b1)
    · intro j hj
      rw [s6 j (by omega) (by omega) (by omega), hg.block j (by omega) (by omega), hbel.block j hj]
    · exact ownsRow_same (fun j hj => s6 j (fun e => nv (by decide) hI.b0 (e ▸ hj)) (fun e => nv (by decide) hI.b1 (e ▸ hj)) (fun e => hn (e ▸ o3 j hj))) o2
    · have ho : rows.take ys.length = rows := List.take_of_length_le (by rw [hrows.len]; exact Nat.le_refl _)
      rw [ho] at o4
      exact o4.imp fun q qr h => ⟨h.1.same (by rw [sz6]; exact Nat.le_refl _) (fun j hj => s6 j (by have := (h.2.2 j hj).2.1; omega) (by have := (h.2.2 j hj).2.1; omega) (fun e => hn (e ▸ (h.2.2 j hj).1))), h.2.1, fun j hj => hI.lo j (h.2.2 j hj).1⟩
  case stop =>
    rintro c pre X' W hpre ⟨rfl, p, y, rfl, e2, e3, e4, e5, e6, e7, e8⟩ hg hn hK
    have hgw := hg.size
    have hbw := hbel.size
    gi_wp2
    refine ret19 (N := w.heap.size) (e := y.2) (a := none) (k := 0) (c := 0) hK rfl rfl e4 e5 ⟨⟨hg.os.trans hbel.os, hg.tape.trans hbel.tape, hg.output.trans hbel.output, by rw [World.putObj_size]; omega, ?_⟩, .inr ⟨p, y, hpre, e2, e3, rfl⟩⟩
    intro j hj
    rw [World.putObj_heap_other (by omega), hg.block j (by omega) (by omega), hbel.block j hj]
end Go.Proofs.Ytghpjlohoehdnaa.Sep

/-! slices.IndexFunc over rows, with Distinct's predicate. No condition beyond those that each theorem names. -/
namespace Go.Proofs.Ytghpjlohoehdnaa.Sep
open Go Go.RowKit Go.Shelf
set_option linter.unusedVariables false
set_option linter.unusedSimpArgs false
set_option maxRecDepth 100000 in
set_option maxHeartbeats 2000000 in
theorem index_some (b off c : Nat) (rs : List RV) (rows : List (List V3)) (ra : Option Addr) (rn rc B : Nat) (sr : List V3) (W : World) (hk : rs.length ≤ 100000) (hcs : ∀ j, j < rs.length → W.cell? ⟨b, off + j, none⟩ = some ((rs[j]?.getD RV.nil).v))
    (hrows : All2 (fun q row => Cont W q row ∧ q.n ≤ 1000) rs rows) (hc : W.cell? ⟨B, 0, none⟩ = some (.slice ra rn rc)) (h2 : Cont W ⟨ra, rn, rc⟩ sr) :
    Calls Try.prog 76 #[.slice (some ⟨b, off, none⟩) rs.length c, .func (.func 56) #[] #[.pointer (some ⟨B, 0, none⟩)]] W fun e W' => (∃ z : Int, e = .returned (.int .i64 z) ∧ (0 ≤ z ↔ rows.any (fun s => eqRow s sr) = true)) ∧ W'.heap = W.heap ∧ W'.os = W.os ∧ W'.tape = W.tape ∧ W'.output = W.output := by
  go_enter Try.func76, Try.ntmps76
  go_wp2
  go_loopw [8] (fun i wr => ∃ (j : Nat), j ≤ rs.length ∧ i = .int .i64 j ∧ (wr.heap = W.heap ∧ wr.os = W.os ∧ wr.tape = W.tape ∧ wr.output = W.output) ∧ rows.any (fun s => eqRow s sr) = (rows.drop j).any (fun s => eqRow s sr)) (fun i _ => rs.length - (intOf i).toNat)
  case atStart => exact ⟨0, Nat.zero_le _, rfl, ⟨rfl, rfl, rfl, rfl⟩, rfl⟩
  case round =>
    obtain ⟨j, hj, rfl, hw, he⟩ := hrel
    have hlen := hrows.len
    have hcell : ∀ (a : Addr), wr.cell? a = W.cell? a := fun a => by
      have hb : wr.heap[a.block]? = W.heap[a.block]? := congrArg (fun h : Array Obj => h[a.block]?) hw.1
      unfold World.cell?
      simp only [hb]
    by_cases hlt : j < rs.length
    · obtain ⟨q, hq⟩ : ∃ q, rs[j]? = some q := ⟨rs[j], List.getElem?_eq_getElem hlt⟩
      obtain ⟨row, hr⟩ : ∃ row, rows[j]? = some row := ⟨rows[j]'(by omega), List.getElem?_eq_getElem (by omega)⟩
      have hcont := hrows.get j _ _ hq hr
      have hx := (hcell _).trans (hcs j hlt)
      rw [hq] at hx
      obtain ⟨qa, qn, qc⟩ := q
      dsimp only [RV.v, Option.getD_some] at hx
      have hd : rows.drop j = row :: rows.drop (j + 1) := by rw [List.drop_eq_getElem_cons (by omega)]; congr 1; exact Option.some.inj ((List.getElem?_eq_getElem (by omega)).symm.trans hr)
      rw [hd, List.any_cons] at he
      have hcB := (hcell _).trans hc
      have hC1 : Cont wr ⟨qa, qn, qc⟩ row := hcont.1.same (by rw [hw.1]; exact Nat.le_refl _) (fun j _ => by rw [hw.1])
      have hC2 : Cont wr ⟨ra, rn, rc⟩ sr := h2.same (by rw [hw.1]; exact Nat.le_refl _) (fun j _ => by rw [hw.1])
      have hqn : qn ≤ 100000 := Nat.le_trans hcont.2 (by decide)
      clear hcell hq hr hd hlen
      cases hv : eqRow row sr with
      | true =>
        rw [hv, Bool.true_or] at he
        go_wp2_with (go_at_call 56; refine (pred_ok qa ra qn qc rn rc B row sr _ hcB hC1 hC2 hqn).mono ?_; rw [hv]; rintro e w' ⟨rfl, hw'⟩)
        refine bodyPost_ret (results_tmp rfl _ _ _) rfl ?_
        exact ⟨⟨_, rfl, by rw [he]; simp⟩, hw'.1.trans hw.1, hw'.2.1.trans hw.2.1, hw'.2.2.1.trans hw.2.2.1, hw'.2.2.2.trans hw.2.2.2⟩
      | false =>
        rw [hv, Bool.false_or] at he
        go_wp2_with (go_at_call 56; refine (pred_ok qa ra qn qc rn rc B row sr _ hcB hC1 hC2 hqn).mono ?_; rw [hv]; rintro e w' ⟨rfl, hw'⟩)
        go_roundw
        case rel => exact ⟨j + 1, by omega, by simp, ⟨hw'.1.trans hw.1, hw'.2.1.trans hw.2.1, hw'.2.2.1.trans hw.2.2.1, hw'.2.2.2.trans hw.2.2.2⟩, he⟩
        case measure => simp [intOf]; omega
    · obtain rfl : j = rs.length := by omega
      rw [List.drop_of_length_le (by omega)] at he
      clear hlen
      go_wp2
      refine bodyPost_ret (results_tmp rfl _ _ _) rfl ?_
      exact ⟨⟨_, rfl, by rw [he]; simp⟩, hw⟩
end Go.Proofs.Ytghpjlohoehdnaa.Sep

/-! slices.ContainsFunc over rows, with Distinct's predicate. No condition beyond those that each theorem names. -/
namespace Go.Proofs.Ytghpjlohoehdnaa.Sep
open Go Go.RowKit Go.Shelf
set_option linter.unusedVariables false
set_option linter.unusedSimpArgs false
set_option maxHeartbeats 1000000 in
theorem index_nil (a : Option Addr) (c B : Nat) (W : World) : Calls Try.prog 76 #[.slice a 0 c, .func (.func 56) #[] #[.pointer (some ⟨B, 0, none⟩)]] W fun e W' => e = .returned (.int .i64 (-1)) ∧ W' = W := by
  go_enter Try.func76, Try.ntmps76
  go_wp2
  go_loopw [8] (fun i wr => i = .int .i64 0 ∧ wr = W) (fun _ _ => 0)
  case atStart => exact ⟨rfl, rfl⟩
  case round =>
    obtain ⟨rfl, rfl⟩ := hrel
    go_wp2
    refine bodyPost_ret (results_tmp rfl _ _ _) rfl ?_
    exact ⟨rfl, rfl⟩
set_option maxHeartbeats 1000000 in
theorem contains_nil (a : Option Addr) (c B : Nat) (W : World) : Calls Try.prog 55 #[.slice a 0 c, .func (.func 56) #[] #[.pointer (some ⟨B, 0, none⟩)]] W fun e W' => e = .returned (.bool false) ∧ W' = W := by
  go_enter Try.func55, Try.ntmps55
  go_wp2_with (go_at_call 76; refine (index_nil _ _ _ _).mono ?_; rintro e w' ⟨rfl, rfl⟩)
  go_ret
  exact ⟨rfl, rfl⟩
set_option maxHeartbeats 1000000 in
theorem contains_some (b off c : Nat) (rs : List RV) (rows : List (List V3)) (ra : Option Addr) (rn rc B : Nat) (sr : List V3) (W : World) (hk : rs.length ≤ 100000) (hcs : ∀ j, j < rs.length → W.cell? ⟨b, off + j, none⟩ = some ((rs[j]?.getD RV.nil).v))
    (hrows : All2 (fun q row => Cont W q row ∧ q.n ≤ 1000) rs rows) (hc : W.cell? ⟨B, 0, none⟩ = some (.slice ra rn rc)) (h2 : Cont W ⟨ra, rn, rc⟩ sr) :
    Calls Try.prog 55 #[.slice (some ⟨b, off, none⟩) rs.length c, .func (.func 56) #[] #[.pointer (some ⟨B, 0, none⟩)]] W fun e W' => e = .returned (.bool (rows.any (fun s => eqRow s sr))) ∧ W'.heap = W.heap ∧ W'.os = W.os ∧ W'.tape = W.tape ∧ W'.output = W.output := by
  have hix := index_some b off c rs rows ra rn rc B sr W hk hcs hrows hc h2
  generalize rows.any (fun s => eqRow s sr) = t at hix ⊢
  clear hcs hrows hc h2
  go_enter Try.func55, Try.ntmps55
  go_wp2_with (go_at_call 76; refine hix.mono ?_; clear hix; rintro e w' ⟨⟨z, rfl, hz⟩, hw⟩)
  go_ret
  refine ⟨?_, hw⟩
  cases t with
  | true => simp [hz]
  | false => simp [hz]
end Go.Proofs.Ytghpjlohoehdnaa.Sep

/-! scan.List hands back an iterator over its rows. No condition beyond those that each theorem names. -/
namespace Go.Proofs.Ytghpjlohoehdnaa.Sep
open Go Go.RowKit Go.Shelf
attribute [local go_sem] Oper.semAt_some
set_option linter.unusedVariables false
set_option linter.unusedSimpArgs false
/-- the wide fence knows no depth -/
theorem round_wide {n m : Nat} {P : Program} {l : Nat} {f : FuncId} {tmps : Array Value} {assign body : Code} {w : World} {R : Ending → World → Prop} (h : RoundIn Fence.wide n P l f tmps assign body w R) : RoundIn Fence.wide m P l f tmps assign body w R :=
  ⟨h.1, fun c cs _ => h.2 c cs (room_wide _)⟩
theorem yield_wide {n m : Nat} {P : Program} {l : Nat} {args : Array Value} {W : World} {R : Ending → World → Prop} (h : YieldAt Fence.wide n P l args W R) : YieldAt Fence.wide m P l args W R := by
  obtain ⟨fn, tmps, assign, body, h1, h2⟩ := h
  exact ⟨fn, tmps, assign, body, h1, round_wide h2⟩
theorem seq_wide {α : Type} {n m : Nat} {P : Program} {g : Nat} {lb : Array Value} {encs : α → Array Value} {ys : List α} {R : Nat → Prop} {w : World} (h : Seq Fence.wide n P g lb encs ys R w) : Seq Fence.wide m P g lb encs ys R w :=
  fun l J Jx X W hs hR hX hJ hJx hY h0 => callsIn_wide.2 (callsIn_wide.1 (h l J Jx X W hs hR hX hJ hJx (fun pre x X1 W1 a b c => yield_wide (hY pre x X1 W1 a b c)) h0))
set_option maxRecDepth 100000 in
set_option maxHeartbeats 1000000 in
theorem list1_nil (F : Fence) (n : Nat) (h41 : F.fn 41) (hro : F.round = none) (l Bs k c : Nat) (hk : k = 0) (a : Option Addr) (J : World → Prop) (W : World) (hBs : W.cell? ⟨Bs, 0, none⟩ = some (.slice a k c)) (h0 : J W) :
    CallsIn F n Try.prog 41 #[.func (.yield l) #[] #[], .pointer (some ⟨Bs, 0, none⟩)] W fun e W' => (∃ v, e = .returned v) ∧ W' = W ∧ J W' := by
  subst hk
  refine callsIn_of_wp Try.func41 rfl h41 ?_ hro
  simp only [Try.ntmps41, List.size_toArray, List.length_cons, List.length_nil, Nat.reduceAdd, Nat.reduceSub, Array.replicate_succ, Array.replicate_zero, List.push_toArray, List.append_toArray, List.nil_append, List.cons_append]
  gi_wp2
  gi_loopw [7] (fun i wr => i = .int .i64 0 ∧ wr = W ∧ J wr) (fun _ _ => 0)
  case atStart => exact ⟨rfl, rfl, h0⟩
  case round =>
    obtain ⟨rfl, rfl, hJs⟩ := hrel
    gi_wp2
    go_end0
    exact ⟨⟨_, rfl⟩, rfl, hJs⟩
set_option maxHeartbeats 1000000 in
theorem list_make (n : Nat) (a : Option Addr) (k c : Nat) (w : World) :
    CallsIn Fence.wide n Try.prog 18 #[.slice a k c] w fun e w' => e = .returned (.func (.func 41) #[] #[.pointer (some ⟨w.heap.size, 0, none⟩)]) ∧ w' = w.alloc (.cells #[.slice a k c] 22) := by
  refine callsIn_of_wp Try.func18 rfl trivial ?_ rfl
  simp only [Try.ntmps18, List.size_toArray, List.length_cons, List.length_nil, Nat.reduceAdd, Nat.reduceSub, Array.replicate_succ, Array.replicate_zero, List.push_toArray, List.append_toArray, List.nil_append, List.cons_append]
  gi_wp2
  go_ret
  exact ⟨rfl, rfl⟩
/-- List's function value is an iterator over the rows. -/
theorem list_it (Bs : Nat) (sv : Value) (rs : List RV) (R : Nat → Prop) (w : World) (hBs : Bs < w.heap.size) (hR : ∀ j, R j → j < w.heap.size) (hc : w.cell? ⟨Bs, 0, none⟩ = some sv) (hr : Rows R w sv rs) (hreach : rs.length * 24 ≤ 140737488351232) :
    It (.func (.func 41) #[] #[.pointer (some ⟨Bs, 0, none⟩)]) (rs.map fun r => (r, (0 : Int))) (fun j => j = Bs ∨ R j) w := by
  refine ⟨⟨41, _, rfl, enters_of Try.func41 (by kernel_rfl) rfl, ?_⟩, fun j hj => hj.elim (fun e => e ▸ hBs) (hR j)⟩
  intro n l J Jx X W hs hRW hX hJ hJx hY h0
  -- a fence of its own depth: the wide one has none
  have hc' : W.cell? ⟨Bs, 0, none⟩ = some sv := (cell_of_block (hRW Bs (.inl rfl)).2.2 0).trans hc
  rcases hr.same (fun j hj => (hRW j (.inr hj)).2.2) with ⟨a, c, rfl, rfl⟩ | ⟨b, off, cap, rfl, hb, hcs⟩
  · exact (list1_nil Fence.wide n trivial rfl l Bs 0 c rfl a (J [] X) W hc' h0).mono fun e W' ⟨he, hw, hj⟩ => ⟨he, X, by rw [hw]; exact Gr.refl _ _ hX, .inl hj⟩
  · obtain ⟨r1, r2, r3⟩ := hRW b (.inr hb)
    rcases Nat.lt_or_ge 0 n with hn | hn
    · exact list1_in Fence.wide n trivial rfl hn l Bs b off cap rs hreach J Jx X W hX ⟨by omega, r2⟩ hY hc' hcs h0
    · have hn0 : n = 0 := by omega
      subst hn0
      exact callsIn_wide.2 (callsIn_wide.1 (list1_in Fence.wide 1 trivial rfl (Nat.le_refl _) l Bs b off cap rs hreach J Jx X W hX ⟨by omega, r2⟩ hY hc' hcs h0))
end Go.Proofs.Ytghpjlohoehdnaa.Sep

/-! setop.among's closures: is a row among others? No condition beyond those that each theorem names. -/
namespace Go.Proofs.Ytghpjlohoehdnaa.Sep
open Go Go.RowKit Go.Shelf
set_option linter.unusedVariables false
set_option linter.unusedSimpArgs false
set_option maxHeartbeats 1000000 in
theorem pred71 (oa ra : Option Addr) (on oc rn rc B : Nat) (so sr : List V3) (W : World) (hc : W.cell? ⟨B, 0, none⟩ = some (.slice ra rn rc)) (h1 : Cont W ⟨oa, on, oc⟩ so) (h2 : Cont W ⟨ra, rn, rc⟩ sr) (hn : on ≤ 100000) :
    Calls Try.prog 71 #[.slice oa on oc, .pointer (some ⟨B, 0, none⟩)] W fun e W' => e = .returned (.bool (eqRow so sr)) ∧ W'.heap = W.heap ∧ W'.os = W.os ∧ W'.tape = W.tape ∧ W'.output = W.output := by
  go_enter Try.func71, Try.ntmps71
  go_wp2_with (go_at_call 57; refine (equal_ok ⟨oa, on, oc⟩ ⟨ra, rn, rc⟩ so sr _ h1 h2 hn).mono ?_; rintro e w' ⟨rfl, hw⟩)
  go_ret
  exact ⟨rfl, hw⟩

set_option maxRecDepth 100000 in
set_option maxHeartbeats 2000000 in
theorem index71 (b off c : Nat) (rs : List RV) (rows : List (List V3)) (ra : Option Addr) (rn rc B : Nat) (sr : List V3) (W : World) (hk : rs.length ≤ 100000) (hcs : ∀ j, j < rs.length → W.cell? ⟨b, off + j, none⟩ = some ((rs[j]?.getD RV.nil).v))
    (hrows : All2 (fun q row => Cont W q row ∧ q.n ≤ 1000) rs rows) (hc : W.cell? ⟨B, 0, none⟩ = some (.slice ra rn rc)) (h2 : Cont W ⟨ra, rn, rc⟩ sr) :
    Calls Try.prog 76 #[.slice (some ⟨b, off, none⟩) rs.length c, .func (.func 71) #[] #[.pointer (some ⟨B, 0, none⟩)]] W fun e W' => (∃ z : Int, e = .returned (.int .i64 z) ∧ (0 ≤ z ↔ rows.any (fun s => eqRow s sr) = true)) ∧ W'.heap = W.heap ∧ W'.os = W.os ∧ W'.tape = W.tape ∧ W'.output = W.output := by
  go_enter Try.func76, Try.ntmps76
  go_wp2
  go_loopw [8] (fun i wr => ∃ (j : Nat), j ≤ rs.length ∧ i = .int .i64 j ∧ (wr.heap = W.heap ∧ wr.os = W.os ∧ wr.tape = W.tape ∧ wr.output = W.output) ∧ rows.any (fun s => eqRow s sr) = (rows.drop j).any (fun s => eqRow s sr)) (fun i _ => rs.length - (intOf i).toNat)
  case atStart => exact ⟨0, Nat.zero_le _, rfl, ⟨rfl, rfl, rfl, rfl⟩, rfl⟩
  case round =>
    obtain ⟨j, hj, rfl, hw, he⟩ := hrel
    have hlen := hrows.len
    have hcell : ∀ (a : Addr), wr.cell? a = W.cell? a := fun a => by
      have hb : wr.heap[a.block]? = W.heap[a.block]? := congrArg (fun h : Array Obj => h[a.block]?) hw.1
      unfold World.cell?
      simp only [hb]
    by_cases hlt : j < rs.length
    · obtain ⟨q, hq⟩ : ∃ q, rs[j]? = some q := ⟨rs[j], List.getElem?_eq_getElem hlt⟩
      obtain ⟨row, hr⟩ : ∃ row, rows[j]? = some row := ⟨rows[j]'(by omega), List.getElem?_eq_getElem (by omega)⟩
      have hcont := hrows.get j _ _ hq hr
      have hx := (hcell _).trans (hcs j hlt)
      rw [hq] at hx
      obtain ⟨qa, qn, qc⟩ := q
      dsimp only [RV.v, Option.getD_some] at hx
      have hd : rows.drop j = row :: rows.drop (j + 1) := by rw [List.drop_eq_getElem_cons (by omega)]; congr 1; exact Option.some.inj ((List.getElem?_eq_getElem (by omega)).symm.trans hr)
      rw [hd, List.any_cons] at he
      have hcB := (hcell _).trans hc
      have hC1 : Cont wr ⟨qa, qn, qc⟩ row := hcont.1.same (by rw [hw.1]; exact Nat.le_refl _) (fun j _ => by rw [hw.1])
      have hC2 : Cont wr ⟨ra, rn, rc⟩ sr := h2.same (by rw [hw.1]; exact Nat.le_refl _) (fun j _ => by rw [hw.1])
      have hqn : qn ≤ 100000 := Nat.le_trans hcont.2 (by decide)
      clear hcell hq hr hd hlen
      cases hv : eqRow row sr with
      | true =>
        rw [hv, Bool.true_or] at he
        go_wp2_with (go_at_call 71; refine (pred71 qa ra qn qc rn rc B row sr _ hcB hC1 hC2 hqn).mono ?_; rw [hv]; rintro e w' ⟨rfl, hw'⟩)
        refine bodyPost_ret (results_tmp rfl _ _ _) rfl ?_
        exact ⟨⟨_, rfl, by rw [he]; simp⟩, hw'.1.trans hw.1, hw'.2.1.trans hw.2.1, hw'.2.2.1.trans hw.2.2.1, hw'.2.2.2.trans hw.2.2.2⟩
      | false =>
        rw [hv, Bool.false_or] at he
        go_wp2_with (go_at_call 71; refine (pred71 qa ra qn qc rn rc B row sr _ hcB hC1 hC2 hqn).mono ?_; rw [hv]; rintro e w' ⟨rfl, hw'⟩)
        go_roundw
        case rel => exact ⟨j + 1, by omega, by simp, ⟨hw'.1.trans hw.1, hw'.2.1.trans hw.2.1, hw'.2.2.1.trans hw.2.2.1, hw'.2.2.2.trans hw.2.2.2⟩, he⟩
        case measure => simp [intOf]; omega
    · obtain rfl : j = rs.length := by omega
      rw [List.drop_of_length_le (by omega)] at he
      clear hlen
      go_wp2
      refine bodyPost_ret (results_tmp rfl _ _ _) rfl ?_
      exact ⟨⟨_, rfl, by rw [he]; simp⟩, hw⟩

set_option maxHeartbeats 1000000 in
theorem index71_nil (a : Option Addr) (c B : Nat) (W : World) : Calls Try.prog 76 #[.slice a 0 c, .func (.func 71) #[] #[.pointer (some ⟨B, 0, none⟩)]] W fun e W' => e = .returned (.int .i64 (-1)) ∧ W' = W := by
  go_enter Try.func76, Try.ntmps76
  go_wp2
  go_loopw [8] (fun i wr => i = .int .i64 0 ∧ wr = W) (fun _ _ => 0)
  case atStart => exact ⟨rfl, rfl⟩
  case round =>
    obtain ⟨rfl, rfl⟩ := hrel
    go_wp2
    refine bodyPost_ret (results_tmp rfl _ _ _) rfl ?_
    exact ⟨rfl, rfl⟩
set_option maxHeartbeats 1000000 in
theorem contains71_nil (a : Option Addr) (c B : Nat) (W : World) : Calls Try.prog 55 #[.slice a 0 c, .func (.func 71) #[] #[.pointer (some ⟨B, 0, none⟩)]] W fun e W' => e = .returned (.bool false) ∧ W' = W := by
  go_enter Try.func55, Try.ntmps55
  go_wp2_with (go_at_call 76; refine (index71_nil _ _ _ _).mono ?_; rintro e w' ⟨rfl, rfl⟩)
  go_ret
  exact ⟨rfl, rfl⟩
set_option maxHeartbeats 1000000 in
theorem contains71 (b off c : Nat) (rs : List RV) (rows : List (List V3)) (ra : Option Addr) (rn rc B : Nat) (sr : List V3) (W : World) (hk : rs.length ≤ 100000) (hcs : ∀ j, j < rs.length → W.cell? ⟨b, off + j, none⟩ = some ((rs[j]?.getD RV.nil).v))
    (hrows : All2 (fun q row => Cont W q row ∧ q.n ≤ 1000) rs rows) (hc : W.cell? ⟨B, 0, none⟩ = some (.slice ra rn rc)) (h2 : Cont W ⟨ra, rn, rc⟩ sr) :
    Calls Try.prog 55 #[.slice (some ⟨b, off, none⟩) rs.length c, .func (.func 71) #[] #[.pointer (some ⟨B, 0, none⟩)]] W fun e W' => e = .returned (.bool (rows.any (fun s => eqRow s sr))) ∧ W'.heap = W.heap ∧ W'.os = W.os ∧ W'.tape = W.tape ∧ W'.output = W.output := by
  have hix := index71 b off c rs rows ra rn rc B sr W hk hcs hrows hc h2
  generalize rows.any (fun s => eqRow s sr) = t at hix ⊢
  clear hcs hrows hc h2
  go_enter Try.func55, Try.ntmps55
  go_wp2_with (go_at_call 76; refine hix.mono ?_; clear hix; rintro e w' ⟨⟨z, rfl, hz⟩, hw⟩)
  go_ret
  refine ⟨?_, hw⟩
  cases t with
  | true => simp [hz]
  | false => simp [hz]
/-- a list of rows as its owner holds it -/
def Own1 (W : World) (sv : Value) (rows : List (List V3)) : Prop :=
  (∃ a c, sv = .slice a 0 c ∧ rows = []) ∨ ∃ b off c rs, sv = .slice (some ⟨b, off, none⟩) (List.length rs) c ∧ b < W.heap.size ∧ (∀ j, j < rs.length → W.cell? ⟨b, off + j, none⟩ = some ((rs[j]?.getD RV.nil).v)) ∧ All2 (fun q row => Cont W q row ∧ q.n ≤ 1000) rs rows
set_option maxRecDepth 100000 in
set_option maxHeartbeats 1000000 in
theorem in70_ok (ra : Option Addr) (rn rc B : Nat) (sv : Value) (rows : List (List V3)) (sr : List V3) (W : World) (hk : rows.length ≤ 100000) (hB : W.cell? ⟨B, 0, none⟩ = some sv) (hl : Own1 W sv rows) (h2 : Cont W ⟨ra, rn, rc⟩ sr) :
    Calls Try.prog 70 #[.slice ra rn rc, .pointer (some ⟨B, 0, none⟩)] W fun e W' => e = .returned (.bool (rows.any (fun s => eqRow s sr))) ∧ Below W.heap.size W W' := by
  have hbel : Below W.heap.size W (W.alloc (.cells #[.slice ra rn rc] 48)) := (Below.refl _ W).alloc (Nat.le_refl _) _
  have hc := Boxed.new W 48 (.slice ra rn rc)
  have h2' : Cont (W.alloc (.cells #[.slice ra rn rc] 48)) ⟨ra, rn, rc⟩ sr := h2.same hbel.size (fun j hj => hbel.block j (h2.blt j hj))
  have hcB := (cell_of_block (hbel.block B (by
    unfold World.cell? at hB
    by_cases hlt : B < W.heap.size
    · exact hlt
    · rw [Array.getElem?_eq_none (by dsimp only; omega)] at hB; simp at hB)) 0).trans hB
  rcases hl with ⟨a0, c0, rfl, rfl⟩ | ⟨b, off, c, rs, rfl, hb, hcs, hrows⟩
  · go_enter Try.func70, Try.ntmps70
    go_wp2_with (go_at_call 55; refine (contains71_nil _ _ _ _).mono ?_; rintro e w' ⟨rfl, rfl⟩)
    go_ret
    exact ⟨rfl, hbel⟩
  · have hcs' : ∀ j, j < rs.length → (W.alloc (.cells #[.slice ra rn rc] 48)).cell? ⟨b, off + j, none⟩ = some ((rs[j]?.getD RV.nil).v) := fun j hj => (cell_of_block (hbel.block b hb) _).trans (hcs j hj)
    have hrows' : All2 (fun q row => Cont (W.alloc (.cells #[.slice ra rn rc] 48)) q row ∧ q.n ≤ 1000) rs rows := hrows.imp fun q row ⟨h, h1⟩ => ⟨h.same hbel.size (fun j hj => hbel.block j (h.blt j hj)), h1⟩
    have hk' : rs.length ≤ 100000 := by rw [hrows.len]; exact hk
    go_enter Try.func70, Try.ntmps70
    go_wp2_with (go_at_call 55; refine (contains71 b off c rs rows ra rn rc W.heap.size sr _ hk' hcs' hrows' (Boxed.cell hc) h2').mono ?_; rintro e w' ⟨rfl, hw1, hw2, hw3, hw4⟩)
    go_ret
    exact ⟨rfl, ⟨hw2.trans hbel.os, hw3.trans hbel.tape, hw4.trans hbel.output, by rw [hw1]; exact hbel.size, fun j hj => by rw [hw1]; exact hbel.block j hj⟩⟩
end Go.Proofs.Ytghpjlohoehdnaa.Sep

/-! setop.both: an iterator over two, one behind the other, up to the first error. No condition beyond those that each theorem names. -/
namespace Go.Proofs.Ytghpjlohoehdnaa.Sep
open Go Go.RowKit Go.Shelf
attribute [local go_sem] Oper.semAt_some
set_option linter.unusedVariables false
set_option linter.unusedSimpArgs false
/-- up to the first error, that one taken in -/
def cutE : List (RV × Int) → List (RV × Int)
  | [] => []
  | y :: l => if y.2 = 0 then y :: cutE l else [y]
/-- an iterator, or nil: no rows -/
def ItN (v : Value) (ys : List (RV × Int)) (R : Nat → Prop) (w : World) : Prop := (v = .nilFunc ∧ ys = []) ∨ It v ys R w
/-- the inner loop's invariant: what the outer caller holds, and what has turned since -/
def BI (J : List (RV × Int) → (Nat → Prop) → World → Prop) (dn : List (RV × Int)) (X0 : Nat → Prop) (W0 : World) (pre : List (RV × Int)) (X : Nat → Prop) (W : World) : Prop :=
  J (dn ++ pre) X W ∧ Gr X0 X W0.heap.size W0 W ∧ ∀ y ∈ pre, y.2 = 0
theorem BI.stable {J : List (RV × Int) → (Nat → Prop) → World → Prop} {dn : List (RV × Int)} {X0 : Nat → Prop} {W0 : World} {n₀ : Nat} (hJ : Stable W0.heap.size J) (hn : W0.heap.size ≤ n₀) : Stable n₀ (BI J dn X0 W0) := by
  rintro pre X W W' ⟨h1, h2, h3⟩ ha
  have ha' : Agree X W0.heap.size W W' := ⟨ha.os, ha.tape, ha.output, ha.size, fun j hj => ha.block j (by rcases hj with h | h; exact .inl h; exact .inr (by omega))⟩
  exact ⟨hJ _ _ _ _ h1 ha', ⟨ha.os.trans h2.os, ha.tape.trans h2.tape, ha.output.trans h2.output, Nat.le_trans h2.size ha.size, fun j hj hx => (ha.block j (.inr (by omega))).trans (h2.block j hj hx), h2.sub, fun j hj => Nat.lt_of_lt_of_le (h2.lt j hj) ha.size⟩, h3⟩
theorem cutE_pre : ∀ (l p : List (RV × Int)) (x : RV × Int), (∀ y ∈ p, y.2 = 0) → p ++ [x] <+: l → p ++ [x] <+: cutE l ∧ (x.2 ≠ 0 → p ++ [x] = cutE l)
  | [], p, x, _, h => by have := h.length_le; simp at this
  | y :: l, [], x, _, h => by
    obtain ⟨t, h⟩ := h
    simp only [List.nil_append, List.cons_append, List.cons.injEq] at h
    obtain ⟨rfl, rfl⟩ := h
    unfold cutE
    by_cases hx : x.2 = 0
    · rw [if_pos hx]; exact ⟨⟨_, rfl⟩, fun h => absurd hx h⟩
    · rw [if_neg hx]; exact ⟨⟨[], rfl⟩, fun _ => rfl⟩
  | y :: l, z :: p, x, hp, h => by
    obtain ⟨t, h⟩ := h
    simp only [List.cons_append, List.cons.injEq] at h
    obtain ⟨rfl, h⟩ := h
    have hz : z.2 = 0 := hp z (by simp)
    obtain ⟨h1, h2⟩ := cutE_pre l p x (fun y hy => hp y (by simp [hy])) ⟨t, h⟩
    unfold cutE
    rw [if_pos hz]
    refine ⟨?_, fun hx => ?_⟩
    · obtain ⟨u, hu⟩ := h1
      exact ⟨u, by rw [← hu]; simp⟩
    · rw [← h2 hx]; rfl
theorem cutE_all : ∀ l : List (RV × Int), (∀ y ∈ l, y.2 = 0) → cutE l = l
  | [], _ => rfl
  | y :: l, h => by unfold cutE; rw [if_pos (h y (by simp)), cutE_all l (fun z hz => h z (by simp [hz]))]
theorem Gr.put {X X' : Nat → Prop} {N D : Nat} {W W' : World} (o : Obj) (hD : N ≤ D) (h : Gr X X' N W W') : Gr X X' N W (W'.putObj D o) :=
  ⟨h.os, h.tape, h.output, by rw [World.putObj_size]; exact h.size, fun j hj hx => (World.putObj_heap_other (by omega)).trans (h.block j hj hx), h.sub, fun j hj => by rw [World.putObj_size]; exact h.lt j hj⟩
set_option maxRecDepth 100000 in
set_option maxHeartbeats 4000000 in
theorem both1_in (n : Nat) (hn : 6 ≤ n) (l A B : Nat) (ga gb : FuncId) (la lb : Array Value) (ya yb : List (RV × Int)) (Ra Rb : Nat → Prop)
    (J Jx : List (RV × Int) → (Nat → Prop) → World → Prop) (X : Nat → Prop) (W : World) (hX : ∀ j, X j → j < W.heap.size) (hJ : Stable W.heap.size J) (hJx : Stable W.heap.size Jx)
    (hA : A < W.heap.size) (hB : B < W.heap.size) (hca : W.cell? ⟨A, 0, none⟩ = some (.func (.func ga) #[] la)) (hcb : W.cell? ⟨B, 0, none⟩ = some (.func (.func gb) #[] lb))
    (ega : ∀ args w, (callFunc ga args).run Try.prog w = .ok (.enter ga args) w) (egb : ∀ args w, (callFunc gb args).run Try.prog w = .ok (.enter gb args) w)
    (hqa : ∀ n, Seq Fence.wide n Try.prog ga la enc ya Ra W) (hqb : ∀ n, Seq Fence.wide n Try.prog gb lb enc yb Rb W) (hRa : ∀ j, Ra j → j < W.heap.size ∧ ¬ X j) (hRb : ∀ j, Rb j → j < W.heap.size ∧ ¬ X j)
    (hY : ∀ pre x X1 W1, (pre ++ [x]) <+: cutE (ya ++ yb) → J pre X1 W1 → Gr X X1 W.heap.size W W1 → YieldAt Fence.wide (n - 1) Try.prog l (enc x) W1 fun e W' =>
      ∃ X', Gr X1 X' W1.heap.size W1 W' ∧ ((e = .returned (.bool true) ∧ J (pre ++ [x]) X' W') ∨ (e = .returned (.bool false) ∧ Jx (pre ++ [x]) X' W')))
    (h0 : J [] X W) :
    CallsIn Fence.wide n Try.prog 68 #[.func (.yield l) #[] #[], .pointer (some ⟨A, 0, none⟩), .pointer (some ⟨B, 0, none⟩)] W fun e W' => (∃ v, e = .returned v) ∧
      ∃ X', Gr X X' W.heap.size W W' ∧ (J (cutE (ya ++ yb)) X' W' ∨ ∃ pre, pre <+: cutE (ya ++ yb) ∧ Jx pre X' W') := by
  have hro : Fence.wide.round = none := rfl
  have h1 : 1 ≤ n := by omega
  have hfn : ∀ (w : World) (g : FuncId) (lb : Array Value), (binOp .eql 31 (.func (.func g) #[] lb) .nilFunc).run Try.prog w = .ok (.bool false) w := fun _ _ _ => rfl
  refine callsIn_of_wp_marks Try.func68 rfl trivial ?_ hro
  simp only [Try.ntmps68, List.size_toArray, List.length_cons, List.length_nil, Nat.reduceAdd, Nat.reduceSub, Array.replicate_succ, Array.replicate_zero, List.push_toArray, List.append_toArray, List.nil_append, List.cons_append]
  gi_wp2
  refine wpIn_loop_rounds 3 ?_
  have cY := (Boxed.new W 72 (.func (.yield l) #[] #[])).alloc (.cells #[.func (.func ga) #[] la, .func (.func gb) #[] lb] 31)
  have cS := World.alloc_heap_new (W.alloc (.cells #[.func (.yield l) #[] #[]] 72)) (.cells #[.func (.func ga) #[] la, .func (.func gb) #[] lb] 31)
  have hbel : Below W.heap.size W ((W.alloc (.cells #[.func (.yield l) #[] #[]] 72)).alloc (.cells #[.func (.func ga) #[] la, .func (.func gb) #[] lb] 31)) := ((Below.refl _ W).alloc (Nat.le_refl _) _).alloc (by simp) _
  have hsz : ((W.alloc (.cells #[.func (.yield l) #[] #[]] 72)).alloc (.cells #[.func (.func ga) #[] la, .func (.func gb) #[] lb] 31)).heap.size = W.heap.size + 2 := by simp
  rw [World.size_alloc] at cS
  generalize (W.alloc (.cells #[.func (.yield l) #[] #[]] 72)).alloc (.cells #[.func (.func ga) #[] la, .func (.func gb) #[] lb] 31) = W1 at cY cS hbel hsz ⊢
  have s0 : W1.cell? ⟨W.heap.size + 1, 0, none⟩ = some (.func (.func ga) #[] la) := by simp [World.cell?, cS]
  have s1 : W1.cell? ⟨W.heap.size + 1, 1, none⟩ = some (.func (.func gb) #[] lb) := by simp [World.cell?, cS]
  have hXW : ∀ j, X j → j ≠ W.heap.size ∧ j ≠ W.heap.size + 1 := fun j hj => by have := hX j hj; omega
  have hag1 : Agree X W.heap.size W W1 := ⟨hbel.os, hbel.tape, hbel.output, hbel.size, fun j hj => hbel.block j (by rcases hj with h | h; exact hX j h; exact h)⟩
  have hgr1 : Gr X X W.heap.size W W1 := ⟨hbel.os, hbel.tape, hbel.output, hbel.size, fun j hj _ => hbel.block j hj, fun j h => .inl h, fun j h => Nat.lt_of_lt_of_le (hX j h) hbel.size⟩
  let IX : Code → List (RV × Int) → (Nat → Prop) → World → Prop := fun c pre X' W' => c = .ret ∧ Gr X X' W.heap.size W W' ∧ (J (cutE (ya ++ yb)) X' W' ∨ ∃ q, q <+: cutE (ya ++ yb) ∧ Jx q X' W')
  have hIX : ∀ (n₀ : Nat), W.heap.size ≤ n₀ → ∀ c, Stable n₀ (IX c) := fun n₀ hn c pre X' A B ⟨h1, h2, h3⟩ ha => by
    have ha' : Agree X' W.heap.size A B := ⟨ha.os, ha.tape, ha.output, ha.size, fun j hj => ha.block j (by rcases hj with h | h; exact .inl h; exact .inr (by omega))⟩
    refine ⟨h1, ⟨ha.os.trans h2.os, ha.tape.trans h2.tape, ha.output.trans h2.output, Nat.le_trans h2.size ha.size, fun j hj hx => (ha.block j (.inr (by omega))).trans (h2.block j hj hx), h2.sub, fun j hj => Nat.lt_of_lt_of_le (h2.lt j hj) ha.size⟩, ?_⟩
    rcases h3 with h | ⟨q, hq, h⟩
    · exact .inl (hJ _ _ _ _ h ha')
    · exact .inr ⟨q, hq, hJx _ _ _ _ h ha'⟩
  rw [roundsIn_succ]
  gi_wp2
  refine wpIn_rangeFunc_sep hro h1 (gf := ga) (lb := la) rfl trivial ega (hqa (n - 1)) (fun _ => rfl) X hbel.size (fun j hj => ⟨(hRa j hj).1, (hRa j hj).2, hbel.block j (hRa j hj).1⟩) (fun j hj => Nat.lt_of_lt_of_le (hX j hj) hbel.size)
    (BI J [] X W) IX (BI.stable hJ hbel.size) (hIX _ hbel.size) ⟨hJ _ _ _ _ h0 hag1, hgr1, (fun _ h => by cases h)⟩ ?round ?done ?stop
  case round =>
    rintro lab pre ⟨⟨ra, rn, rc⟩, e⟩ X1 Wa hl hpre ⟨b1, b2, b3⟩ hg hXl hlt
    gi_wp2
    refine ⟨fun _ _ _ => trivial, Nat.le_refl _, trivial, trivial, trivial, ?_⟩
    intro W3 z1 z2 z3 z4 z5
    have hag3 : Agree X1 W.heap.size Wa W3 := ⟨z2, z3, z4, by omega, fun j hj => z5 j (by rintro rfl; rcases hj with h | h; exact hXl h; omega)⟩
    have hJ3 := hJ _ _ _ _ b1 hag3
    have hg3 : Gr X X1 W.heap.size W W3 := ⟨z2.trans b2.os, z3.trans b2.tape, z4.trans b2.output, by rw [z1]; exact b2.size, fun j hj hx => (z5 j (by omega)).trans (b2.block j hj hx), b2.sub, fun j hj => by rw [z1]; exact b2.lt j hj⟩
    have cY3 : W3.cell? ⟨W.heap.size, 0, none⟩ = some (.func (.yield l) #[] #[]) := (cell_of_block ((z5 _ (by omega)).trans (hg.block _ (by omega) (fun h => (hXW _ h).1 rfl))) 0).trans (Boxed.cell cY)
    have hpre2 : ([] ++ pre) ++ [((⟨ra, rn, rc⟩ : RV), e)] <+: ya ++ yb := List.IsPrefix.trans hpre (List.prefix_append _ _)
    obtain ⟨p1, p2⟩ := cutE_pre _ _ _ b3 hpre2
    obtain ⟨fn, tmps, assign, body, hy, hR⟩ := yield_wide (m := n - 1 - 1 - 1) (hY _ _ X1 W3 p1 hJ3 hg3)
    dsimp only [enc] at hy
    have hR' : RoundIn (Fence.wide.inRound lab) (n - 1 - 1 - 1) Try.prog l fn tmps assign body W3 _ := hR
    have hp0 : e ≠ 0 → pre ++ [((⟨ra, rn, rc⟩ : RV), e)] = cutE (ya ++ yb) := p2
    clear p2
    have hz3 : W3.heap.size = Wa.heap.size := z1
    by_cases he : e = 0
    · subst he
      clear hp0
      gi_wp2
      refine ⟨(fun h => by cases h), ?_⟩
      refine hR'.mono ?_
      rintro e4 W4 ⟨X4, g4, (⟨rfl, j4⟩ | ⟨rfl, j4⟩)⟩
      · gi_wp2
        have g5 := hg3.trans g4 hg3.size
        rw [hz3] at g4
        refine ⟨X4, g4, ?_, g5, ?_⟩
        · exact j4
        · intro y hy
          rcases List.mem_append.1 hy with h | h
          · exact b3 y h
          · rw [List.mem_singleton.1 h]
      · gi_wp2
        have g5 := hg3.trans g4 hg3.size
        rw [hz3] at g4
        exact ⟨X4, g4, rfl, g5, .inr ⟨_, p1, j4⟩⟩
    · have hne : (e != 0) = true := by simpa using he
      have hE := hp0 he
      clear hp0
      obtain ⟨q, hq⟩ : ∃ q, q = pre ++ [((⟨ra, rn, rc⟩ : RV), e)] := ⟨_, rfl⟩
      rw [← hq] at hE p1
      have hR2 : RoundIn (Fence.wide.inRound lab) (n - 1 - 1 - 1) Try.prog l fn tmps assign body W3 fun e W' => ∃ X', Gr X1 X' W3.heap.size W3 W' ∧ ((e = .returned (.bool true) ∧ J q X' W') ∨ (e = .returned (.bool false) ∧ Jx q X' W')) := by rw [hq]; exact hR'
      clear hq hR hR'
      rw [hE] at p1 hR2
      have hR' := hR2
      gi_wp2
      refine ⟨(fun h => by cases h), ?_⟩
      refine hR'.mono ?_
      rintro e4 W4 ⟨X4, g4, (⟨rfl, j4⟩ | ⟨rfl, j4⟩)⟩
      · gi_wp2
        have g5 := hg3.trans g4 hg3.size
        rw [hz3] at g4
        exact ⟨X4, g4, rfl, g5, .inl j4⟩
      · gi_wp2
        have g5 := hg3.trans g4 hg3.size
        rw [hz3] at g4
        exact ⟨X4, g4, rfl, g5, .inr ⟨_, p1, j4⟩⟩
  case done =>
    rintro Xd Wd ⟨b1, b2, b3⟩ hg hn hK
    have hxd : ∀ j, Xd j → X j ∨ W1.heap.size ≤ j := hg.sub
    have hx0 : ¬ Xd W.heap.size := fun h => by rcases hxd _ h with h | h; exact (hXW _ h).1 rfl; omega
    have hx1 : ¬ Xd (W.heap.size + 1) := fun h => by rcases hxd _ h with h | h; exact (hXW _ h).2 rfl; omega
    have cYd : Wd.cell? ⟨W.heap.size, 0, none⟩ = some (.func (.yield l) #[] #[]) := (cell_of_block (hg.block _ (by omega) (fun h => (hXW _ h).1 rfl)) 0).trans (Boxed.cell cY)
    have bS := hg.block (W.heap.size + 1) (by omega) (fun h => (hXW _ h).2 rfl)
    have t0 := (cell_of_block bS 0).trans s0
    have t1 := (cell_of_block bS 1).trans s1
    have hdw := hg.size
    have hb1 : J (ya ++ []) Xd Wd := by rw [List.append_nil]; exact b1
    gi_wp2
    rw [roundsIn_succ]
    gi_wp2
    refine wpIn_rangeFunc_sep hro h1 (gf := gb) (lb := lb) rfl trivial egb (hqb (n - 1)) (fun _ => rfl) Xd b2.size (fun j hj => ⟨(hRb j hj).1, (fun h => by have := (hRb j hj).1; rcases hxd j h with h | h; exact (hRb j hj).2 h; omega), b2.block j (hRb j hj).1 (hRb j hj).2⟩) b2.lt
      (BI J ya X W) IX (BI.stable hJ b2.size) (hIX _ b2.size) ⟨hb1, b2, (fun _ h => by cases h)⟩ ?round2 ?done2 ?stop2
    case round2 =>
      rintro lab pre ⟨⟨ra, rn, rc⟩, e⟩ X1 Wa hl hpre ⟨d1, d2, d3⟩ hg2 hXl hlt
      gi_wp2
      refine ⟨fun _ _ _ => trivial, Nat.le_refl _, trivial, trivial, trivial, ?_⟩
      intro W3 z1 z2 z3 z4 z5
      have hag3 : Agree X1 W.heap.size Wa W3 := ⟨z2, z3, z4, by omega, fun j hj => z5 j (by rintro rfl; rcases hj with h | h; exact hXl h; omega)⟩
      have hJ3 := hJ _ _ _ _ d1 hag3
      have hg3 : Gr X X1 W.heap.size W W3 := ⟨z2.trans d2.os, z3.trans d2.tape, z4.trans d2.output, by rw [z1]; exact d2.size, fun j hj hx => (z5 j (by omega)).trans (d2.block j hj hx), d2.sub, fun j hj => by rw [z1]; exact d2.lt j hj⟩
      have cY3 : W3.cell? ⟨W.heap.size, 0, none⟩ = some (.func (.yield l) #[] #[]) := (cell_of_block ((z5 _ (by omega)).trans (hg2.block _ (by omega) hx0)) 0).trans cYd
      have hpre2 : (ya ++ pre) ++ [((⟨ra, rn, rc⟩ : RV), e)] <+: ya ++ yb := by rw [List.append_assoc]; exact (List.prefix_append_right_inj ya).2 hpre
      have dz : ∀ y ∈ ya ++ pre, y.2 = 0 := fun y hy => (List.mem_append.1 hy).elim (b3 y) (d3 y)
      obtain ⟨p1, p2⟩ := cutE_pre _ _ _ dz hpre2
      obtain ⟨fn, tmps, assign, body, hy, hR⟩ := yield_wide (m := n - 1 - 1 - 1) (hY _ _ X1 W3 p1 hJ3 hg3)
      dsimp only [enc] at hy
      have hR' : RoundIn (Fence.wide.inRound lab) (n - 1 - 1 - 1) Try.prog l fn tmps assign body W3 _ := hR
      have hp0 : e ≠ 0 → (ya ++ pre) ++ [((⟨ra, rn, rc⟩ : RV), e)] = cutE (ya ++ yb) := p2
      clear p2
      have hz3 : W3.heap.size = Wa.heap.size := z1
      by_cases he : e = 0
      · subst he
        clear hp0
        gi_wp2
        refine ⟨(fun h => by cases h), ?_⟩
        refine hR'.mono ?_
        rintro e4 W4 ⟨X4, g4, (⟨rfl, j4⟩ | ⟨rfl, j4⟩)⟩
        · gi_wp2
          have g5 := hg3.trans g4 hg3.size
          rw [hz3] at g4
          refine ⟨X4, g4, ?_, g5, ?_⟩
          · rw [← List.append_assoc]; exact j4
          · intro y hy
            rcases List.mem_append.1 hy with h | h
            · exact d3 y h
            · rw [List.mem_singleton.1 h]
        · gi_wp2
          have g5 := hg3.trans g4 hg3.size
          rw [hz3] at g4
          exact ⟨X4, g4, rfl, g5, .inr ⟨_, p1, j4⟩⟩
      · have hne : (e != 0) = true := by simpa using he
        have hE := hp0 he
        clear hp0
        obtain ⟨q, hq⟩ : ∃ q, q = (ya ++ pre) ++ [((⟨ra, rn, rc⟩ : RV), e)] := ⟨_, rfl⟩
        rw [← hq] at hE p1
        have hR2 : RoundIn (Fence.wide.inRound lab) (n - 1 - 1 - 1) Try.prog l fn tmps assign body W3 fun e W' => ∃ X', Gr X1 X' W3.heap.size W3 W' ∧ ((e = .returned (.bool true) ∧ J q X' W') ∨ (e = .returned (.bool false) ∧ Jx q X' W')) := by rw [hq]; exact hR'
        clear hq hR hR'
        rw [hE] at p1 hR2
        have hR' := hR2
        gi_wp2
        refine ⟨(fun h => by cases h), ?_⟩
        refine hR'.mono ?_
        rintro e4 W4 ⟨X4, g4, (⟨rfl, j4⟩ | ⟨rfl, j4⟩)⟩
        · gi_wp2
          have g5 := hg3.trans g4 hg3.size
          rw [hz3] at g4
          exact ⟨X4, g4, rfl, g5, .inl j4⟩
        · gi_wp2
          have g5 := hg3.trans g4 hg3.size
          rw [hz3] at g4
          exact ⟨X4, g4, rfl, g5, .inr ⟨_, p1, j4⟩⟩
    case done2 =>
      rintro Xe We ⟨c1, c2, c3⟩ hg2 hn2 hK2
      have hlt1 := (Array.getElem?_eq_some_iff.1 hK).1
      have hw1 := hgr1.size
      have hK1 : We.heap[W1.heap.size]? = some (.deferred (some [])) := (hg2.block _ hlt1 hn).trans hK
      have hne1 : ¬ Xe W1.heap.size := fun h => by rcases hg2.sub _ h with h | h; exact hn h; omega
      have hall : cutE (ya ++ yb) = ya ++ yb := cutE_all _ (fun y hy => (List.mem_append.1 hy).elim (b3 y) (c3 y))
      have c1' : J (cutE (ya ++ yb)) Xe We := by rw [hall]; exact c1
      have j2 := hJ _ _ _ _ (hJ _ _ _ _ c1' (agree_put We (.deferred none) hn2 (Nat.le_trans hw1 (Nat.le_of_lt hlt1)))) (agree_put _ (.deferred none) hne1 hw1)
      clear c1 hall
      gi_wp2
      rw [roundsIn_succ]
      gi_wp2
      refine ⟨by simp, .inl ⟨_, _, rfl, run_takeDeferred hK2, ?_⟩⟩
      refine ⟨by simp, .inl ⟨_, _, rfl, run_takeDeferred ((World.putObj_heap_other (Nat.ne_of_lt hlt1)).trans hK1), ?_⟩⟩
      exact ⟨_, results_none rfl _ _ _, ⟨_, rfl⟩, Xe, (c2.put _ (Nat.le_trans hw1 (Nat.le_of_lt hlt1))).put _ hw1, .inl j2⟩
    case stop2 =>
      rintro c pre Xe We _ ⟨rfl, c2, c3⟩ hg2 hn2 hK2
      have hlt1 := (Array.getElem?_eq_some_iff.1 hK).1
      have hw1 := hgr1.size
      have hK1 : We.heap[W1.heap.size]? = some (.deferred (some [])) := (hg2.block _ hlt1 hn).trans hK
      have hne1 : ¬ Xe W1.heap.size := fun h => by rcases hg2.sub _ h with h | h; exact hn h; omega
      have hw2 := Nat.le_trans hw1 (Nat.le_of_lt hlt1)
      gi_wp2
      refine ⟨by simp, .inl ⟨_, _, rfl, run_takeDeferred hK2, ?_⟩⟩
      refine ⟨by simp, .inl ⟨_, _, rfl, run_takeDeferred ((World.putObj_heap_other (Nat.ne_of_lt hlt1)).trans hK1), ?_⟩⟩
      refine ⟨_, results_none rfl _ _ _, ⟨_, rfl⟩, Xe, (c2.put _ hw2).put _ hw1, ?_⟩
      rcases c3 with h | ⟨q, hq, h⟩
      · exact .inl (hJ _ _ _ _ (hJ _ _ _ _ h (agree_put We (.deferred none) hn2 hw2)) (agree_put _ (.deferred none) hne1 hw1))
      · exact .inr ⟨q, hq, hJx _ _ _ _ (hJx _ _ _ _ h (agree_put We (.deferred none) hn2 hw2)) (agree_put _ (.deferred none) hne1 hw1)⟩
  case stop =>
    rintro c pre Xd Wd _ ⟨rfl, c2, c3⟩ hg hn hK
    have hw1 := hgr1.size
    gi_wp2
    refine ⟨by simp, .inl ⟨_, _, rfl, run_takeDeferred hK, ?_⟩⟩
    refine ⟨_, results_none rfl _ _ _, ⟨_, rfl⟩, Xd, c2.put _ hw1, ?_⟩
    rcases c3 with h | ⟨q, hq, h⟩
    · exact .inl (hJ _ _ _ _ h (agree_put Wd (.deferred none) hn hw1))
    · exact .inr ⟨q, hq, hJx _ _ _ _ h (agree_put Wd (.deferred none) hn hw1)⟩
end Go.Proofs.Ytghpjlohoehdnaa.Sep

/-! scan.Metered with no meter: its function on a row. No condition beyond those that each theorem names. -/
namespace Go.Proofs.Ytghpjlohoehdnaa.Sep
open Go Go.RowKit Go.Shelf
set_option linter.unusedVariables false
set_option linter.unusedSimpArgs false
set_option maxHeartbeats 1000000 in
theorem left_nil (w : World) : Calls Try.prog 67 #[.pointer none] w fun e w' => e = .returned (.int .i64 0) ∧ w' = w := by
  go_enter Try.func67, Try.ntmps67
  go_wp2
  go_ret
  exact ⟨rfl, rfl⟩
set_option maxHeartbeats 1000000 in
theorem passes_nil (w : World) : Calls Try.prog 40 #[.pointer none] w fun e w' => e = .returned (.bool false) ∧ w' = w := by
  go_enter Try.func40, Try.ntmps40
  go_wp2_with (go_at_call 67; refine (left_nil _).mono ?_; rintro e w' ⟨rfl, rfl⟩)
  go_ret
  exact ⟨rfl, rfl⟩
set_option maxHeartbeats 1000000 in
theorem what_nil (a : Option Addr) (k c Bm : Nat) (w : World) (hm : w.cell? ⟨Bm, 0, none⟩ = some (.pointer none)) :
    Calls Try.prog 39 #[.slice a k c, .pointer (some ⟨Bm, 0, none⟩)] w fun e w' => e = .returned (.tuple #[.slice none 0 0, .bool false, .int .i64 310]) ∧ w' = w := by
  go_enter Try.func39, Try.ntmps39
  go_wp2_with (go_at_call 40; refine (passes_nil _).mono ?_; rintro e w' ⟨rfl, rfl⟩)
  refine bodyPost_ret (results_tmp3 rfl _ _ _) rfl ?_
  exact ⟨rfl, rfl⟩
end Go.Proofs.Ytghpjlohoehdnaa.Sep

/-! scan.Metered with no meter: an iterator of one error, where there is a row. No condition beyond those that each theorem names. -/
namespace Go.Proofs.Ytghpjlohoehdnaa.Sep
open Go Go.RowKit Go.Shelf
attribute [local go_sem] Oper.semAt_some
set_option linter.unusedVariables false
set_option linter.unusedSimpArgs false
def badL : List (RV × Int) → List (RV × Int)
  | [] => []
  | _ :: _ => [(RV.nil, 310)]
set_option maxRecDepth 100000 in
set_option maxHeartbeats 4000000 in
theorem over1_nil (n : Nat) (hn : 6 ≤ n) (l A B Bm : Nat) (ga : FuncId) (la : Array Value) (ya : List (RV × Int)) (Ra : Nat → Prop)
    (J Jx : List (RV × Int) → (Nat → Prop) → World → Prop) (X : Nat → Prop) (W : World) (hX : ∀ j, X j → j < W.heap.size) (hJ : Stable W.heap.size J) (hJx : Stable W.heap.size Jx) (hz : ∀ y ∈ ya, y.2 = 0)
    (hA : A < W.heap.size) (hB : B < W.heap.size ∧ ¬ X B) (hBm : Bm < W.heap.size ∧ ¬ X Bm) (hca : W.cell? ⟨A, 0, none⟩ = some (.func (.func ga) #[] la)) (hcb : W.cell? ⟨B, 0, none⟩ = some (.func (.func 39) #[] #[.pointer (some ⟨Bm, 0, none⟩)])) (hcm : W.cell? ⟨Bm, 0, none⟩ = some (.pointer none))
    (ega : ∀ args w, (callFunc ga args).run Try.prog w = .ok (.enter ga args) w) (hqa : ∀ n, Seq Fence.wide n Try.prog ga la enc ya Ra W) (hRa : ∀ j, Ra j → j < W.heap.size ∧ ¬ X j)
    (hY : ∀ pre x X1 W1, (pre ++ [x]) <+: badL ya → J pre X1 W1 → Gr X X1 W.heap.size W W1 → YieldAt Fence.wide (n - 1) Try.prog l (enc x) W1 fun e W' =>
      ∃ X', Gr X1 X' W1.heap.size W1 W' ∧ ((e = .returned (.bool true) ∧ J (pre ++ [x]) X' W') ∨ (e = .returned (.bool false) ∧ Jx (pre ++ [x]) X' W')))
    (h0 : J [] X W) :
    CallsIn Fence.wide n Try.prog 66 #[.func (.yield l) #[] #[], .pointer (some ⟨A, 0, none⟩), .pointer (some ⟨B, 0, none⟩)] W fun e W' => (∃ v, e = .returned v) ∧
      ∃ X', Gr X X' W.heap.size W W' ∧ (J (badL ya) X' W' ∨ ∃ pre, pre <+: badL ya ∧ Jx pre X' W') := by
  have hro : Fence.wide.round = none := rfl
  have h1 : 1 ≤ n := by omega
  have hfn : ∀ (w : World) (g : FuncId) (lb : Array Value), (binOp .eql 31 (.func (.func g) #[] lb) .nilFunc).run Try.prog w = .ok (.bool false) w := fun _ _ _ => rfl
  have hcaA := fun o => (cell_of_block ((Below.refl W.heap.size W).alloc (Nat.le_refl _) o |>.block A hA) 0).trans hca
  refine callsIn_of_wp_marks Try.func66 rfl trivial ?_ hro
  simp only [Try.ntmps66, List.size_toArray, List.length_cons, List.length_nil, Nat.reduceAdd, Nat.reduceSub, Array.replicate_succ, Array.replicate_zero, List.push_toArray, List.append_toArray, List.nil_append, List.cons_append]
  gi_wp2
  have cY := Boxed.new W 72 (.func (.yield l) #[] #[])
  have hbel : Below W.heap.size W (W.alloc (.cells #[.func (.yield l) #[] #[]] 72)) := (Below.refl _ W).alloc (Nat.le_refl _) _
  have hsz : (W.alloc (.cells #[.func (.yield l) #[] #[]] 72)).heap.size = W.heap.size + 1 := by simp
  clear hcaA
  generalize W.alloc (.cells #[.func (.yield l) #[] #[]] 72) = W1 at cY hbel hsz ⊢
  have hXW : ∀ j, X j → j ≠ W.heap.size := fun j hj => by have := hX j hj; omega
  have hag1 : Agree X W.heap.size W W1 := ⟨hbel.os, hbel.tape, hbel.output, hbel.size, fun j hj => hbel.block j (by rcases hj with h | h; exact hX j h; exact h)⟩
  have hgr1 : Gr X X W.heap.size W W1 := ⟨hbel.os, hbel.tape, hbel.output, hbel.size, fun j hj _ => hbel.block j hj, fun j h => .inl h, fun j h => Nat.lt_of_lt_of_le (hX j h) hbel.size⟩
  let IX : Code → List (RV × Int) → (Nat → Prop) → World → Prop := fun c pre X' W' => c = .ret ∧ Gr X X' W.heap.size W W' ∧ (J (badL ya) X' W' ∨ ∃ q, q <+: badL ya ∧ Jx q X' W')
  have hIX : ∀ (n₀ : Nat), W.heap.size ≤ n₀ → ∀ c, Stable n₀ (IX c) := fun n₀ hn c pre X' A B ⟨h1, h2, h3⟩ ha => by
    have ha' : Agree X' W.heap.size A B := ⟨ha.os, ha.tape, ha.output, ha.size, fun j hj => ha.block j (by rcases hj with h | h; exact .inl h; exact .inr (by omega))⟩
    refine ⟨h1, ⟨ha.os.trans h2.os, ha.tape.trans h2.tape, ha.output.trans h2.output, Nat.le_trans h2.size ha.size, fun j hj hx => (ha.block j (.inr (by omega))).trans (h2.block j hj hx), h2.sub, fun j hj => Nat.lt_of_lt_of_le (h2.lt j hj) ha.size⟩, ?_⟩
    rcases h3 with h | ⟨q, hq, h⟩
    · exact .inl (hJ _ _ _ _ h ha')
    · exact .inr ⟨q, hq, hJx _ _ _ _ h ha'⟩
  let I : List (RV × Int) → (Nat → Prop) → World → Prop := fun pre X' W' => pre = [] ∧ BI J [] X W [] X' W'
  have hI : Stable W1.heap.size I := fun pre X' A B ⟨h1, h2⟩ ha => ⟨h1, BI.stable hJ hbel.size _ _ _ _ h2 ha⟩
  refine wpIn_rangeFunc_sep hro h1 (gf := ga) (lb := la) rfl trivial ega (hqa (n - 1)) (fun _ => rfl) X hbel.size (fun j hj => ⟨(hRa j hj).1, (hRa j hj).2, hbel.block j (hRa j hj).1⟩) (fun j hj => Nat.lt_of_lt_of_le (hX j hj) hbel.size)
    I IX hI (hIX _ hbel.size) ⟨rfl, hJ _ _ _ _ h0 hag1, hgr1, (fun _ h => by cases h)⟩ ?round ?done ?stop
  case round =>
    rintro lab pre ⟨⟨ra, rn, rc⟩, e⟩ X1 Wa hl hpre ⟨rfl, b1, b2, b3⟩ hg hXl hlt
    gi_wp2
    refine ⟨fun _ _ _ => trivial, Nat.le_refl _, trivial, trivial, trivial, ?_⟩
    intro W3 z1 z2 z3 z4 z5
    have hag3 : Agree X1 W.heap.size Wa W3 := ⟨z2, z3, z4, by omega, fun j hj => z5 j (by rintro rfl; rcases hj with h | h; exact hXl h; omega)⟩
    have hJ3 := hJ _ _ _ _ b1 hag3
    have hg3 : Gr X X1 W.heap.size W W3 := ⟨z2.trans b2.os, z3.trans b2.tape, z4.trans b2.output, by rw [z1]; exact b2.size, fun j hj hx => (z5 j (by omega)).trans (b2.block j hj hx), b2.sub, fun j hj => by rw [z1]; exact b2.lt j hj⟩
    have cY3 : W3.cell? ⟨W.heap.size, 0, none⟩ = some (.func (.yield l) #[] #[]) := (cell_of_block ((z5 _ (by omega)).trans (hg.block _ (by omega) (fun h => hXW _ h rfl))) 0).trans (Boxed.cell cY)
    have cB3 := (cell_of_block (hg3.block B hB.1 hB.2) 0).trans hcb
    have cM3 := (cell_of_block (hg3.block Bm hBm.1 hBm.2) 0).trans hcm
    obtain ⟨y0, yt, rfl⟩ : ∃ y0 yt, ya = y0 :: yt := by
      cases ya with
      | nil => have := hpre.length_le; simp at this
      | cons y0 yt => exact ⟨y0, yt, rfl⟩
    have he : e = 0 := by
      obtain ⟨t, ht⟩ := hpre
      exact hz (⟨ra, rn, rc⟩, e) (by rw [← ht]; simp)
    subst he
    obtain ⟨fn, tmps, assign, body, hy, hR⟩ := yield_wide (m := n - 1 - 1 - 1) (hY [] (RV.nil, 310) X1 W3 (List.prefix_refl _) hJ3 hg3)
    dsimp only [enc, RV.nil] at hy
    have hR' : RoundIn (Fence.wide.inRound lab) (n - 1 - 1 - 1) Try.prog l fn tmps assign body W3 _ := hR
    have hz3 : W3.heap.size = Wa.heap.size := z1
    gi_wp2_with (refine ⟨trivial, (fun h => by cases h), ?_⟩; gi_at_call 39; refine (CallsIn.inRound _ (callsIn_wide.2 (what_nil _ _ _ Bm _ cM3))).mono ?_; rintro e4 w4 ⟨rfl, rfl⟩)
    refine ⟨(fun h => by cases h), ?_⟩
    refine hR'.mono ?_
    rintro e4 W4 ⟨X4, g4, (⟨rfl, j4⟩ | ⟨rfl, j4⟩)⟩
    · gi_wp2
      have g5 := hg3.trans g4 hg3.size
      rw [hz3] at g4
      exact ⟨X4, g4, rfl, g5, .inl j4⟩
    · gi_wp2
      have g5 := hg3.trans g4 hg3.size
      rw [hz3] at g4
      exact ⟨X4, g4, rfl, g5, .inr ⟨_, List.prefix_refl _, j4⟩⟩
  case done =>
    rintro Xd Wd ⟨h5, b1, b2, b3⟩ hg hn hK
    have hw1 := hgr1.size
    have hb : J (badL ya) Xd Wd := by rw [h5]; exact b1
    gi_wp2
    refine ⟨by simp, .inl ⟨_, _, rfl, run_takeDeferred hK, ?_⟩⟩
    exact ⟨_, results_none rfl _ _ _, ⟨_, rfl⟩, Xd, b2.put _ hw1, .inl (hJ _ _ _ _ hb (agree_put Wd (.deferred none) hn hw1))⟩
  case stop =>
    rintro c pre Xd Wd _ ⟨rfl, c2, c3⟩ hg hn hK
    have hw1 := hgr1.size
    gi_wp2
    refine ⟨by simp, .inl ⟨_, _, rfl, run_takeDeferred hK, ?_⟩⟩
    refine ⟨_, results_none rfl _ _ _, ⟨_, rfl⟩, Xd, c2.put _ hw1, ?_⟩
    rcases c3 with h | ⟨q, hq, h⟩
    · exact .inl (hJ _ _ _ _ h (agree_put Wd (.deferred none) hn hw1))
    · exact .inr ⟨q, hq, hJx _ _ _ _ h (agree_put Wd (.deferred none) hn hw1)⟩
end Go.Proofs.Ytghpjlohoehdnaa.Sep

/-! setop.both and scan.Metered (with no meter) hand back iterators. No condition beyond those that each theorem names. -/
namespace Go.Proofs.Ytghpjlohoehdnaa.Sep
open Go Go.RowKit Go.Shelf
set_option linter.unusedVariables false
set_option linter.unusedSimpArgs false
theorem both_it (A B : Nat) (va vb : Value) (ya yb : List (RV × Int)) (Ra Rb : Nat → Prop) (w : World) (hA : A < w.heap.size) (hB : B < w.heap.size) (hca : w.cell? ⟨A, 0, none⟩ = some va) (hcb : w.cell? ⟨B, 0, none⟩ = some vb) (ha : It va ya Ra w) (hb : It vb yb Rb w) :
    It (.func (.func 68) #[] #[.pointer (some ⟨A, 0, none⟩), .pointer (some ⟨B, 0, none⟩)]) (cutE (ya ++ yb)) (fun j => j = A ∨ j = B ∨ Ra j ∨ Rb j) w := by
  refine ⟨⟨68, _, rfl, enters_of Try.func68 (by kernel_rfl) rfl, ?_⟩, ?_⟩
  · intro n l J Jx X W hs hR hX hJ hJx hY h0
    have ha' := ha.later hs (fun j hj => (hR j (.inr (.inr (.inl hj)))).2.2)
    have hb' := hb.later hs (fun j hj => (hR j (.inr (.inr (.inr hj)))).2.2)
    obtain ⟨ga, la, rfl, ega, hqa⟩ := ha'.ex
    obtain ⟨gb, lb, rfl, egb, hqb⟩ := hb'.ex
    refine callsIn_wide.2 (callsIn_wide.1 (both1_in 6 (Nat.le_refl _) l A B ga gb la lb ya yb Ra Rb J Jx X W hX hJ hJx (Nat.lt_of_lt_of_le hA hs) (Nat.lt_of_lt_of_le hB hs) ((cell_of_block (hR A (.inl rfl)).2.2 0).trans hca) ((cell_of_block (hR B (.inr (.inl rfl))).2.2 0).trans hcb) ega egb hqa hqb
      (fun j hj => ⟨ha'.lt j hj, (hR j (.inr (.inr (.inl hj)))).2.1⟩) (fun j hj => ⟨hb'.lt j hj, (hR j (.inr (.inr (.inr hj)))).2.1⟩) (fun pre x X1 W1 p q r => yield_wide (hY pre x X1 W1 p q r)) h0))
  · rintro j (rfl | rfl | h | h)
    · exact hA
    · exact hB
    · exact ha.lt j h
    · exact hb.lt j h
theorem bad_it (A B Bm : Nat) (va : Value) (ya : List (RV × Int)) (Ra : Nat → Prop) (w : World) (hA : A < w.heap.size) (hB : B < w.heap.size) (hM : Bm < w.heap.size) (hca : w.cell? ⟨A, 0, none⟩ = some va) (hcb : w.cell? ⟨B, 0, none⟩ = some (.func (.func 39) #[] #[.pointer (some ⟨Bm, 0, none⟩)]))
    (hcm : w.cell? ⟨Bm, 0, none⟩ = some (.pointer none)) (ha : It va ya Ra w) (hz : ∀ y ∈ ya, y.2 = 0) :
    It (.func (.func 66) #[] #[.pointer (some ⟨A, 0, none⟩), .pointer (some ⟨B, 0, none⟩)]) (badL ya) (fun j => j = A ∨ j = B ∨ j = Bm ∨ Ra j) w := by
  refine ⟨⟨66, _, rfl, enters_of Try.func66 (by kernel_rfl) rfl, ?_⟩, ?_⟩
  · intro n l J Jx X W hs hR hX hJ hJx hY h0
    have ha' := ha.later hs (fun j hj => (hR j (.inr (.inr (.inr hj)))).2.2)
    obtain ⟨ga, la, rfl, ega, hqa⟩ := ha'.ex
    have rB := hR B (.inr (.inl rfl))
    have rM := hR Bm (.inr (.inr (.inl rfl)))
    refine callsIn_wide.2 (callsIn_wide.1 (over1_nil 6 (Nat.le_refl _) l A B Bm ga la ya Ra J Jx X W hX hJ hJx hz (Nat.lt_of_lt_of_le hA hs) ⟨Nat.lt_of_lt_of_le hB hs, rB.2.1⟩ ⟨Nat.lt_of_lt_of_le hM hs, rM.2.1⟩ ((cell_of_block (hR A (.inl rfl)).2.2 0).trans hca) ((cell_of_block rB.2.2 0).trans hcb) ((cell_of_block rM.2.2 0).trans hcm) ega hqa
      (fun j hj => ⟨ha'.lt j hj, (hR j (.inr (.inr (.inr hj)))).2.1⟩) (fun pre x X1 W1 p q r => yield_wide (hY pre x X1 W1 p q r)) h0))
  · rintro j (rfl | rfl | rfl | h)
    · exact hA
    · exact hB
    · exact hM
    · exact ha.lt j h
set_option maxHeartbeats 1000000 in
theorem both_make (ga gb : FuncId) (la lb : Array Value) (w : World) :
    Calls Try.prog 43 #[.func (.func ga) #[] la, .func (.func gb) #[] lb] w fun e w' => e = .returned (.func (.func 68) #[] #[.pointer (some ⟨w.heap.size, 0, none⟩), .pointer (some ⟨w.heap.size + 1, 0, none⟩)]) ∧
      w' = (w.alloc (.cells #[.func (.func ga) #[] la] 31)).alloc (.cells #[.func (.func gb) #[] lb] 31) := by
  go_enter Try.func43, Try.ntmps43
  go_wp2
  go_ret
  exact ⟨by simp, rfl⟩
end Go.Proofs.Ytghpjlohoehdnaa.Sep

/-! scan.over and scan.Metered: what they hand back. No condition beyond those that each theorem names. -/
namespace Go.Proofs.Ytghpjlohoehdnaa.Sep
open Go Go.RowKit Go.Shelf
set_option linter.unusedVariables false
set_option linter.unusedSimpArgs false
set_option maxHeartbeats 1000000 in
theorem over_make (ga gb : FuncId) (la lb : Array Value) (w : World) :
    Calls Try.prog 38 #[.func (.func ga) #[] la, .func (.func gb) #[] lb] w fun e w' => e = .returned (.func (.func 66) #[] #[.pointer (some ⟨w.heap.size, 0, none⟩), .pointer (some ⟨w.heap.size + 1, 0, none⟩)]) ∧
      w' = (w.alloc (.cells #[.func (.func ga) #[] la] 31)).alloc (.cells #[.func (.func gb) #[] lb] 71) := by
  go_enter Try.func38, Try.ntmps38
  go_wp2
  go_ret
  exact ⟨by simp, rfl⟩
set_option maxHeartbeats 1000000 in
theorem metered_make (ga : FuncId) (la : Array Value) (w : World) :
    Calls Try.prog 17 #[.func (.func ga) #[] la, .pointer none] w fun e w' => e = .returned (.func (.func 66) #[] #[.pointer (some ⟨w.heap.size + 1, 0, none⟩), .pointer (some ⟨w.heap.size + 2, 0, none⟩)]) ∧
      w' = ((w.alloc (.cells #[.pointer none] 62)).alloc (.cells #[.func (.func ga) #[] la] 31)).alloc (.cells #[.func (.func 39) #[] #[.pointer (some ⟨w.heap.size, 0, none⟩)]] 71) := by
  go_enter Try.func17, Try.ntmps17
  go_wp2_with (go_at_call 38; refine (over_make _ _ _ _ _).mono ?_; rintro e w' ⟨rfl, rfl⟩)
  go_ret
  exact ⟨by simp, rfl⟩
end Go.Proofs.Ytghpjlohoehdnaa.Sep

/-! A map of slices keyed by ints, as a function of its keys. No condition beyond those that each theorem names. -/
namespace Go.Proofs.Ytghpjlohoehdnaa.Sep
open Go Go.RowKit Go.Shelf
open Go.Maps (Keyed)
set_option linter.unusedVariables false
set_option linter.unusedSimpArgs false
/-- an element as a token -/
def RH (v : Value) : Option (DataW Value × List MemPlace) := some (.held v, [])
theorem law3 : Keyed Try.prog 3 := Maps.int_keyed Try.underlying3
theorem zero22 (w : World) : (zeroValue 22).run Try.prog w = .ok (.slice none 0 0) w := by kernel_rfl
/-- block B is a map of at most n entries that holds f's slice at each key -/
def MapF (W : World) (B n : Nat) (f : Int → Value) : Prop :=
  ∃ D : DataW Value, W.ownsMap Try.prog 3 RH B n D ∧ Maps.IsMap D ∧ ∀ h, (Lit.int .i64 h).wf = true → D.atKey (.int .i64 h) (.held (.slice none 0 0)) = .held (f h)
theorem MapF.made (w : World) : MapF (w.alloc (.map #[] 0)) w.heap.size 0 (fun _ => .slice none 0 0) :=
  ⟨.map [], World.ownsMap_made _ _ _ _, Maps.isMap_empty, fun h _ => rfl⟩
theorem MapF.kept {W W' : World} {B n : Nat} {f : Int → Value} (h : MapF W B n f) (hb : W'.heap[B]? = W.heap[B]?) : MapF W' B n f := by
  obtain ⟨D, ⟨es, clock, h1, h2⟩, hm, hf⟩ := h
  exact ⟨D, ⟨es, clock, hb.trans h1, h2⟩, hm, hf⟩
theorem MapF.lt {W : World} {B n : Nat} {f : Int → Value} (h : MapF W B n f) : B < W.heap.size := by
  obtain ⟨D, h, _⟩ := h
  exact h.lt
theorem MapF.isMap {W : World} {B n : Nat} {f : Int → Value} (h : MapF W B n f) : ∃ es clock, W.heap[B]? = some (.map es clock) := by
  obtain ⟨D, ⟨es, clock, h1, _⟩, _⟩ := h
  exact ⟨es, clock, h1⟩
theorem MapF.look {W : World} {B n : Nat} {f : Int → Value} (h : MapF W B n f) (k : Int) (hk : (Lit.int .i64 k).wf = true) : (Instr.lookup 82 (.map (some B)) (.int .i64 k) false).run Try.prog W = .ok (f k) W := by
  obtain ⟨D, ho, _, hf⟩ := h
  obtain ⟨v, ps, hrun, hv⟩ := ho.lookup (t := 82) (e := 22) law3 Try.underlying82 (zero22 W) (zd := .held (.slice none 0 0)) (zp := []) rfl (Maps.keyOf_int_mk Try.underlying3 hk)
  rw [hf k hk] at hv
  have : v = f k := by
    simp only [RH, Option.some.injEq, Prod.mk.injEq, DataW.held.injEq] at hv
    exact hv.1
  rw [← this]; exact hrun
theorem MapF.store {W : World} {B n : Nat} {f : Int → Value} (h : MapF W B n f) (hn : n < maxLen) (k : Int) (hk : (Lit.int .i64 k).wf = true) (v : Value) :
    ∃ W', (Instr.mapUpdate 82 (.map (some B)) (.int .i64 k) v).run Try.prog W = .ok () W' ∧ MapF W' B (n + 1) (fun j => if j = k then v else f j) ∧ W.grownBy W' (some B) ∧ W'.heap.size = W.heap.size := by
  obtain ⟨D, ⟨es, clock, hb, F, hs, rfl⟩, hm, hf⟩ := h
  have ho : W.ownsMap Try.prog 3 RH B n _ := ⟨es, clock, hb, F, hs, rfl⟩
  obtain ⟨es', clock', hrun, F', hput, _⟩ := Maps.fit_store (R' := RH) law3 (t := 82) (e := 22) Try.underlying82 hb F (Nat.lt_of_le_of_lt hs hn) (fun _ _ _ _ hz => hz) (Maps.keyOf_int_mk Try.underlying3 hk) (show RH v = some (.held v, []) from rfl)
  obtain ⟨W', hr2, ho2, hg⟩ := ho.update (t := 82) (e := 22) law3 Try.underlying82 hn (Maps.keyOf_int_mk Try.underlying3 hk) (show RH v = some (.held v, []) from rfl)
  refine ⟨W', hr2, ⟨_, ho2, hm.put _ _, ?_⟩, hg, ?_⟩
  · intro j hj
    by_cases e : j = k
    · subst e
      rw [Maps.atKey_put_same hm (show WideAt.IsKeyLit (Lit.int .i64 j) from trivial)]
      simp
    · rw [Maps.atKey_put_other (by simpa using e), hf j hj]
      simp [e]
  · rw [(Result.ok.inj (hr2.symm.trans hrun)).2]
    simp [ChangeMaps.setBlock]
end Go.Proofs.Ytghpjlohoehdnaa.Sep

/-! Iterators whose rows' values are known; scan.Collect over them. No condition beyond those that each theorem names. -/
namespace Go.Proofs.Ytghpjlohoehdnaa.Sep
open Go Go.RowKit Go.Shelf
attribute [local go_sem] Oper.semAt_some
set_option linter.unusedVariables false
set_option linter.unusedSimpArgs false
/-- what an iterator hands over, and the row's values -/
abbrev Pr := (RV × Int) × List V3
/-- the value v is an iterator over rows whose values are known; it reads the blocks R, the rows lie there too -/
structure ItC (v : Value) (prs : List Pr) (R : Nat → Prop) (w : World) : Prop where
  it : It v (prs.map Prod.fst) R w
  rows : ∀ p ∈ prs, p.1.2 = 0 → Cont w p.1.1 p.2 ∧ p.1.1.n ≤ 1000 ∧ ∀ j, p.1.1.blk j → R j
theorem ItC.later {v : Value} {prs : List Pr} {R : Nat → Prop} {w W : World} (h : ItC v prs R w) (hs : w.heap.size ≤ W.heap.size) (hR : ∀ j, R j → W.heap[j]? = w.heap[j]?) : ItC v prs R W :=
  ⟨h.it.later hs hR, fun p hp h0 => by
    obtain ⟨h1, h2, h3⟩ := h.rows p hp h0
    exact ⟨h1.same hs (fun j hj => hR j (h3 j hj)), h2, h3⟩⟩
theorem ItC.below {v : Value} {prs : List Pr} {R : Nat → Prop} {w W : World} (h : ItC v prs R w) (hb : Below w.heap.size w W) : ItC v prs R W :=
  h.later hb.size (fun j hj => hb.block j (h.it.lt j hj))
theorem all2_map {α β γ : Type} {f : α → β} {g : α → γ} {P : β → γ → Prop} : ∀ {l : List α}, (∀ x ∈ l, P (f x) (g x)) → All2 P (l.map f) (l.map g)
  | [], _ => trivial
  | x :: l, h => ⟨h x (by simp), all2_map fun y hy => h y (by simp [hy])⟩
theorem ItC.all2 {v : Value} {prs : List Pr} {R : Nat → Prop} {w : World} (h : ItC v prs R w) : All2 (fun y row => y.2 = 0 → Cont w y.1 row ∧ y.1.n ≤ 1000) (prs.map Prod.fst) (prs.map Prod.snd) :=
  all2_map fun p hp h0 => ⟨(h.rows p hp h0).1, (h.rows p hp h0).2.1⟩
/-- the first error; 0: there is none -/
def errOf : List Pr → Int
  | [] => 0
  | p :: l => if p.1.2 = 0 then errOf l else p.1.2
theorem errOf_zero : ∀ l : List Pr, (∀ p ∈ l, p.1.2 = 0) → errOf l = 0
  | [], _ => rfl
  | p :: l, h => by unfold errOf; rw [if_pos (h p (by simp)), errOf_zero l (fun q hq => h q (by simp [hq]))]
theorem errOf_pre : ∀ (l : List Pr) (pre : List (RV × Int)) (y : RV × Int), pre ++ [y] <+: l.map Prod.fst → (∀ z ∈ pre, z.2 = 0) → y.2 ≠ 0 → errOf l = y.2
  | [], pre, y, h, _, _ => by have := h.length_le; simp at this
  | p :: l, [], y, ⟨t, h⟩, _, hy => by
    simp only [List.nil_append, List.cons_append, List.map_cons, List.cons.injEq] at h
    unfold errOf
    rw [← h.1, if_neg hy]
  | p :: l, z :: pre, y, ⟨t, h⟩, hz, hy => by
    simp only [List.cons_append, List.map_cons, List.cons.injEq] at h
    unfold errOf
    rw [← h.1, if_pos (hz z (by simp))]
    exact errOf_pre l pre y ⟨t, h.2⟩ (fun a ha => hz a (by simp [ha])) hy
/-- a list of rows, and the blocks P that it lies in -/
def OwnB (P : Nat → Prop) (W : World) (sv : Value) (rows : List (List V3)) : Prop :=
  (∃ a c, sv = .slice a 0 c ∧ rows = []) ∨ ∃ b off c rs, sv = .slice (some ⟨b, off, none⟩) (List.length rs) c ∧ P b ∧ b < W.heap.size ∧ (∀ j, j < rs.length → W.cell? ⟨b, off + j, none⟩ = some ((rs[j]?.getD RV.nil).v)) ∧
    All2 (fun q row => Cont W q row ∧ q.n ≤ 1000 ∧ ∀ j, q.blk j → P j) rs rows
theorem OwnB.own {P : Nat → Prop} {W : World} {sv : Value} {rows : List (List V3)} : OwnB P W sv rows → Own1 W sv rows
  | .inl h => .inl h
  | .inr ⟨b, off, c, rs, h1, _, h2, h3, h4⟩ => .inr ⟨b, off, c, rs, h1, h2, h3, h4.imp fun _ _ h => ⟨h.1, h.2.1⟩⟩
theorem OwnB.same {P : Nat → Prop} {W W' : World} {sv : Value} {rows : List (List V3)} (hs : W.heap.size ≤ W'.heap.size) (hb : ∀ j, P j → W'.heap[j]? = W.heap[j]?) : OwnB P W sv rows → OwnB P W' sv rows
  | .inl h => .inl h
  | .inr ⟨b, off, c, rs, h1, h0, h2, h3, h4⟩ => .inr ⟨b, off, c, rs, h1, h0, Nat.lt_of_lt_of_le h2 hs, fun j hj => (cell_of_block (hb b h0) _).trans (h3 j hj), h4.imp fun _ _ h => ⟨h.1.same hs (fun j hj => hb j (h.2.2 j hj)), h.2⟩⟩
theorem OwnB.shape {P : Nat → Prop} {W : World} {sv : Value} {rows : List (List V3)} : OwnB P W sv rows → ∃ a k c, sv = .slice a k c
  | .inl ⟨_, _, h, _⟩ => ⟨_, _, _, h⟩
  | .inr ⟨b, off, c, rs, h1, _⟩ => ⟨_, _, _, h1⟩
theorem ownB_of_row {N : Nat} {W : World} {sv : Value} {k : Nat} {rs : List RV} {rows : List (List V3)} (hk : k = rs.length) (h : W.ownsRow N 48 1 sv k (rs.map RV.v)) (hr : All2 (fun r row => Cont W r row ∧ r.n ≤ 1000 ∧ ∀ j, r.blk j → N ≤ j) rs rows) :
    OwnB (fun j => N ≤ j ∧ j < W.heap.size) W sv rows := by
  rcases h.2 with ⟨rfl, h0⟩ | ⟨g, cap, cur, rfl, h1, h2, h3, h4, h5, h6⟩
  · subst hk
    have : rs = [] := List.eq_nil_of_length_eq_zero h0
    subst this
    cases rows with
    | nil => exact .inl ⟨_, _, rfl, rfl⟩
    | cons _ _ => exact hr.elim
  · subst hk
    refine .inr ⟨g, 0, cap, rs, rfl, ⟨h1, (Array.getElem?_eq_some_iff.1 h2).1⟩, (Array.getElem?_eq_some_iff.1 h2).1, fun j hj => ?_, hr.imp fun q row h => ⟨h.1, h.2.1, fun j hj => ⟨h.2.2 j hj, h.1.blt j hj⟩⟩⟩
    unfold World.cell?
    simp only [h2]
    have hj2 : (rs.map RV.v)[j]? = some ((rs[j]?.getD RV.nil).v) := by simp [hj]
    rw [← h6, List.getElem?_take_of_lt (by omega), Array.getElem?_toList] at hj2
    simpa using hj2
/-- COLLECT, of an iterator whose rows' values are known. -/
theorem collect_c (n : Nat) (hn : 3 ≤ n) (v : Value) (prs : List Pr) (R : Nat → Prop) (w : World) (h : ItC v prs R w) (hlen : prs.length ≤ 100000) :
    CallsIn Fence.wide n Try.prog 19 #[v] w fun e W' => Below w.heap.size w W' ∧
      ((errOf prs = 0 ∧ ∃ sv, e = .returned (.tuple #[sv, .int .i64 0]) ∧ (∀ p ∈ prs, p.1.2 = 0) ∧ OwnB (fun j => w.heap.size ≤ j ∧ j < W'.heap.size) W' sv (prs.map Prod.snd)) ∨ (errOf prs ≠ 0 ∧ e = .returned (.tuple #[.slice none 0 0, .int .i64 (errOf prs)]))) := by
  refine (collect_in n hn v _ _ R w h.it (by simpa using hlen) h.all2).mono ?_
  rintro e W' ⟨hb, ⟨sv, rs, rfl, hz, ho, hr⟩ | ⟨pre, y, hp, hz, hy, rfl⟩⟩
  · refine ⟨hb, .inl ⟨errOf_zero prs (fun p hp => hz p.1 (List.mem_map_of_mem hp)), sv, rfl, (fun p hp => hz p.1 (List.mem_map_of_mem hp)), ownB_of_row ?_ ho hr⟩⟩
    have := hr.len
    simp only [List.length_map] at this ⊢
    exact this.symm
  · have := errOf_pre prs pre y hp hz hy
    exact ⟨hb, .inr ⟨by rw [this]; exact hy, by rw [this]⟩⟩
set_option maxRecDepth 100000 in
set_option maxHeartbeats 1000000 in
theorem collect_nil (w : World) : Calls Try.prog 19 #[.nilFunc] w fun e W' => e = .returned (.tuple #[.slice none 0 0, .int .i64 0]) ∧ Below w.heap.size w W' := by
  have hfn : ∀ (w : World), (binOp .eql 31 .nilFunc .nilFunc).run Try.prog w = .ok (.bool true) w := fun _ => rfl
  go_enter Try.func19, Try.ntmps19
  go_wp2
  have bA := Boxed.new w 22 (.slice none 0 0)
  have bB := Boxed.new (w.alloc (.cells #[.slice none 0 0] 22)) 25 (.int .i64 0)
  simp only [World.size_alloc] at bB
  refine bodyPost_ret (res19 w.heap.size _ none 0 0 0 _ rfl rfl ((bA.alloc _).alloc _) (bB.alloc _)) rfl ?_
  exact ⟨rfl, (((Below.refl _ w).alloc (Nat.le_refl _) _).alloc (by simp) _).alloc (by simp; omega) _⟩
end Go.Proofs.Ytghpjlohoehdnaa.Sep

/-! setop.among: those rows of one that are, or are not, among the other's. No condition beyond those that each theorem names. -/
namespace Go.Proofs.Ytghpjlohoehdnaa.Sep
open Go Go.RowKit Go.Shelf
attribute [local go_sem] Oper.semAt_some
set_option linter.unusedVariables false
set_option linter.unusedSimpArgs false
/-- those rows that are (is), or are not, among rows; up to the first error -/
def amL (is : Bool) (rows : List (List V3)) : List Pr → List Pr
  | [] => []
  | p :: l => if p.1.2 = 0 then (if (rows.any fun s => eqRow s p.2) = is then p :: amL is rows l else amL is rows l) else [((RV.nil, p.1.2), [])]
theorem drop_at {ys : List Pr} {pre : List (RV × Int)} {x : RV × Int} (h : pre ++ [x] <+: ys.map Prod.fst) : ∃ row, ys.drop pre.length = (x, row) :: ys.drop (pre.length + 1) ∧ (x, row) ∈ ys := by
  obtain ⟨t, ht⟩ := h
  have hl : pre.length < ys.length := by have := congrArg List.length ht; simp at this; omega
  have hx : (ys[pre.length]).1 = x := by
    have h1 : (ys.map Prod.fst)[pre.length]? = some x := by rw [← ht]; simp
    rw [List.getElem?_map, List.getElem?_eq_getElem hl] at h1
    simpa using h1
  refine ⟨(ys[pre.length]).2, ?_, ?_⟩
  · rw [List.drop_eq_getElem_cons hl, ← hx]
  · rw [← hx]; exact List.getElem_mem hl
/-- what an adaptor's loop knows: what it has handed over, what has turned since -/
def AI (zs : List Pr) (rest : Nat → List Pr) (J : List (RV × Int) → (Nat → Prop) → World → Prop) (X0 : Nat → Prop) (W0 : World) (pre : List (RV × Int)) (X : Nat → Prop) (W : World) : Prop :=
  ∃ out, zs = out ++ rest pre.length ∧ J (out.map Prod.fst) X W ∧ Gr X0 X W0.heap.size W0 W
theorem AI.stable {zs : List Pr} {rest : Nat → List Pr} {J : List (RV × Int) → (Nat → Prop) → World → Prop} {X0 : Nat → Prop} {W0 : World} {n₀ : Nat} (hJ : Stable W0.heap.size J) (hn : W0.heap.size ≤ n₀) : Stable n₀ (AI zs rest J X0 W0) := by
  rintro pre X W W' ⟨out, h0, h1, h2⟩ ha
  have ha' : Agree X W0.heap.size W W' := ⟨ha.os, ha.tape, ha.output, ha.size, fun j hj => ha.block j (by rcases hj with h | h; exact .inl h; exact .inr (by omega))⟩
  exact ⟨out, h0, hJ _ _ _ _ h1 ha', ⟨ha.os.trans h2.os, ha.tape.trans h2.tape, ha.output.trans h2.output, Nat.le_trans h2.size ha.size, fun j hj hx => (ha.block j (.inr (by omega))).trans (h2.block j hj hx), h2.sub, fun j hj => Nat.lt_of_lt_of_le (h2.lt j hj) ha.size⟩⟩
/-- how an adaptor's loop is left ahead of its end -/
def AX (zs : List Pr) (J Jx : List (RV × Int) → (Nat → Prop) → World → Prop) (X0 : Nat → Prop) (W0 : World) (c : Code) (pre : List (RV × Int)) (X' : Nat → Prop) (W' : World) : Prop :=
  c = .ret ∧ Gr X0 X' W0.heap.size W0 W' ∧ (J (zs.map Prod.fst) X' W' ∨ ∃ q, q <+: zs.map Prod.fst ∧ Jx q X' W')
theorem AX.stable {zs : List Pr} {J Jx : List (RV × Int) → (Nat → Prop) → World → Prop} {X0 : Nat → Prop} {W0 : World} {n₀ : Nat} (hJ : Stable W0.heap.size J) (hJx : Stable W0.heap.size Jx) (hn : W0.heap.size ≤ n₀) (c : Code) : Stable n₀ (AX zs J Jx X0 W0 c) := by
  rintro pre X' A B ⟨h1, h2, h3⟩ ha
  have ha' : Agree X' W0.heap.size A B := ⟨ha.os, ha.tape, ha.output, ha.size, fun j hj => ha.block j (by rcases hj with h | h; exact .inl h; exact .inr (by omega))⟩
  refine ⟨h1, ⟨ha.os.trans h2.os, ha.tape.trans h2.tape, ha.output.trans h2.output, Nat.le_trans h2.size ha.size, fun j hj hx => (ha.block j (.inr (by omega))).trans (h2.block j hj hx), h2.sub, fun j hj => Nat.lt_of_lt_of_le (h2.lt j hj) ha.size⟩, ?_⟩
  rcases h3 with h | ⟨q, hq, h⟩
  · exact .inl (hJ _ _ _ _ h ha')
  · exact .inr ⟨q, hq, hJx _ _ _ _ h ha'⟩
theorem below_gr {X : Nat → Prop} {W W1 : World} (hX : ∀ j, X j → j < W.heap.size) (hb : Below W.heap.size W W1) : Gr X X W.heap.size W W1 :=
  ⟨hb.os, hb.tape, hb.output, hb.size, fun j hj _ => hb.block j hj, fun j h => .inl h, fun j h => Nat.lt_of_lt_of_le (hX j h) hb.size⟩
theorem below_agree {X : Nat → Prop} {W W1 : World} (hX : ∀ j, X j → j < W.heap.size) (hb : Below W.heap.size W W1) : Agree X W.heap.size W W1 :=
  ⟨hb.os, hb.tape, hb.output, hb.size, fun j hj => hb.block j (by rcases hj with h | h; exact hX j h; exact h)⟩
/-- region 11 of among's round: its slots as far as they are reckoned, and its world -/
def ISt (L : List Value) (Wd : World) (f y rv : Value) (t is g : Bool) (Post : Bool → World → Prop) (d : Nat → Bool) (a : Act) (w : World) : Prop :=
  ∃ x31 x32 x33 x34 x35 x36 x37 x38 x39 x40 x41 : Value, a = { tmps := (L ++ [x31, x32, x33, x34, x35, x36, x37, x38, x39, x40, x41]).toArray, defers := [] } ∧
    (d 0 = true → x31 = f) ∧
    (d 1 = true → x32 = rv) ∧
    (d 2 = true → x33 = .bool t) ∧
    (d 3 = true → x34 = .bool is) ∧
    (d 4 = true → x35 = .bool g) ∧
    (d 5 = true → x36 = .bool g) ∧
    (d 6 = true → g = true → x37 = y) ∧
    (d 7 = true → g = true → x38 = rv) ∧
    ((d 8 = false ∨ g = false) → Below Wd.heap.size Wd w) ∧
    (d 8 = true → g = true → ∃ b, x39 = .bool b ∧ Post b w ∧ (d 9 = true → x40 = .bool (!b)) ∧ (d 10 = true → x41 = .bool (!b))) ∧
    (d 10 = true → g = false → x41 = .bool false)
/-- what is done there has all done that it waits for -/
def ICl (d : Nat → Bool) : Prop := (d 2 = true → d 0 = true ∧ d 1 = true) ∧ (d 4 = true → d 2 = true ∧ d 3 = true) ∧ (d 5 = true → d 4 = true) ∧ (d 6 = true → d 5 = true) ∧ (d 7 = true → d 5 = true) ∧ (d 8 = true → d 6 = true ∧ d 7 = true) ∧ (d 9 = true → d 8 = true) ∧ (d 10 = true → d 9 = true)
theorem below_drew {N : Nat} {A B : World} (h : Below N A.drew B) : Below N A B := ⟨h.os, h.tape, h.output, h.size, h.block⟩
theorem if_outro {c p q : Prop} [Decidable c] (hc : ¬ c) (hp : q) : if c then p else q := by rw [if_neg hc]; exact hp
theorem cell_lt {w : World} {a : Addr} {v : Value} (h : w.cell? a = some v) : a.block < w.heap.size := by
  by_cases hlt : a.block < w.heap.size
  · exact hlt
  · unfold World.cell? at h
    rw [Array.getElem?_eq_none (by omega)] at h
    simp at h
theorem Cont.below {W W' : World} {q : RV} {row : List V3} (h : Cont W q row) (hb : Below W.heap.size W W') : Cont W' q row := h.same hb.size (fun j hj => hb.block j (h.blt j hj))
theorem Own1.below {W W' : World} {sv : Value} {rows : List (List V3)} (hb : Below W.heap.size W W') : Own1 W sv rows → Own1 W' sv rows
  | .inl h => .inl h
  | .inr ⟨b, off, c, rs, h1, h2, h3, h4⟩ => .inr ⟨b, off, c, rs, h1, Nat.lt_of_lt_of_le h2 hb.size, fun j hj => (cell_of_block (hb.block b h2) _).trans (h3 j hj), h4.imp fun q row h => ⟨h.1.below hb, h.2⟩⟩
theorem yield_mono {F : Fence} {n : Nat} {P : Program} {l : Nat} {args : Array Value} {W : World} {R R' : Ending → World → Prop} (h : YieldAt F n P l args W R) (hh : ∀ e w, R e w → R' e w) : YieldAt F n P l args W R' := by
  obtain ⟨fn, tmps, assign, body, h1, h2⟩ := h
  exact ⟨fn, tmps, assign, body, h1, h2.mono hh⟩
/-- what the caller's yield leaves behind an adaptor's own yield -/
def APost (J Jx : List (RV × Int) → (Nat → Prop) → World → Prop) (X X1 : Nat → Prop) (W : World) (M : Nat) (W3 : World) (q : List (RV × Int)) (b : Bool) (W' : World) : Prop :=
  ∃ X4, Gr X1 X4 M W3 W' ∧ Gr X X4 W.heap.size W W' ∧ (match b with | true => J q X4 W' | false => Jx q X4 W')
theorem below_step {N M : Nat} {A B C : World} (h : Below N A B) (k : Below M B C) (hM : N ≤ M) : Below N A C :=
  ⟨k.os.trans h.os, k.tape.trans h.tape, k.output.trans h.output, Nat.le_trans h.size k.size, fun j hj => (k.block j (by omega)).trans (h.block j hj)⟩
set_option maxRecDepth 100000 in
set_option maxHeartbeats 4000000 in
theorem among1_err (n : Nat) (hn : 6 ≤ n) (l A B D : Nat) (is : Bool) (ga : FuncId) (la : Array Value) (vb : Value) (pa pb : List Pr) (Ra Rb : Nat → Prop)
    (J Jx : List (RV × Int) → (Nat → Prop) → World → Prop) (X : Nat → Prop) (W : World) (hX : ∀ j, X j → j < W.heap.size) (hJ : Stable W.heap.size J) (hJx : Stable W.heap.size Jx)
    (hA : A < W.heap.size) (hB : B < W.heap.size ∧ ¬ X B) (hD : D < W.heap.size ∧ ¬ X D) (hca : W.cell? ⟨A, 0, none⟩ = some vb) (hcb : W.cell? ⟨B, 0, none⟩ = some (.func (.func ga) #[] la)) (hcd : W.cell? ⟨D, 0, none⟩ = some (.bool is))
    (ega : ∀ args w, (callFunc ga args).run Try.prog w = .ok (.enter ga args) w) (hqa : ∀ n, Seq Fence.wide n Try.prog ga la enc (pa.map Prod.fst) Ra W) (hRa : ∀ j, Ra j → j < W.heap.size ∧ ¬ X j)
    (hrows : ∀ p ∈ pa, p.1.2 = 0 → Cont W p.1.1 p.2 ∧ p.1.1.n ≤ 1000 ∧ ∀ j, p.1.1.blk j → Ra j) (hb : ItC vb pb Rb W) (hlb : pb.length ≤ 100000) (heb : errOf pb ≠ 0)
    (hY : ∀ pre x X1 W1, (pre ++ [x]) <+: ([((RV.nil, errOf pb), [])] : List Pr).map Prod.fst → J pre X1 W1 → Gr X X1 W.heap.size W W1 → YieldAt Fence.wide (n - 1) Try.prog l (enc x) W1 fun e W' =>
      ∃ X', Gr X1 X' W1.heap.size W1 W' ∧ ((e = .returned (.bool true) ∧ J (pre ++ [x]) X' W') ∨ (e = .returned (.bool false) ∧ Jx (pre ++ [x]) X' W')))
    (h0 : J [] X W) :
    CallsIn Fence.wide n Try.prog 69 #[.func (.yield l) #[] #[], .pointer (some ⟨A, 0, none⟩), .pointer (some ⟨B, 0, none⟩), .pointer (some ⟨D, 0, none⟩)] W fun e W' => (∃ v, e = .returned v) ∧
      ∃ X', Gr X X' W.heap.size W W' ∧ (J (([((RV.nil, errOf pb), [])] : List Pr).map Prod.fst) X' W' ∨ ∃ pre, pre <+: ([((RV.nil, errOf pb), [])] : List Pr).map Prod.fst ∧ Jx pre X' W') := by
  have hro : Fence.wide.round = none := rfl
  have hmx : Try.prog.follows .mixedOrders = true := by kernel_rfl
  have h1 : 1 ≤ n := by omega
  have hfn : ∀ (w : World) (g : FuncId) (lb : Array Value), (binOp .eql 31 (.func (.func g) #[] lb) .nilFunc).run Try.prog w = .ok (.bool false) w := fun _ _ _ => rfl
  have cY := Boxed.new W 72 (.func (.yield l) #[] #[])
  have hbel : Below W.heap.size W (W.alloc (.cells #[.func (.yield l) #[] #[]] 72)) := (Below.refl _ W).alloc (Nat.le_refl _) _
  have hsz : (W.alloc (.cells #[.func (.yield l) #[] #[]] 72)).heap.size = W.heap.size + 1 := by simp
  have hcaA := (cell_of_block (hbel.block A hA) 0).trans hca
  have hb1 := hb.below hbel
  refine callsIn_of_wp_marks Try.func69 rfl trivial ?_ hro
  simp only [Try.ntmps69, List.size_toArray, List.length_cons, List.length_nil, Nat.reduceAdd, Nat.reduceSub, Array.replicate_succ, Array.replicate_zero, List.push_toArray, List.append_toArray, List.nil_append, List.cons_append]
  generalize hW1 : W.alloc (.cells #[.func (.yield l) #[] #[]] 72) = W1 at cY hbel hsz hcaA hb1
  have hcol := collect_c (n - 1) (by omega) vb pb Rb W1 hb1 hlb
  generalize errOf pb = eb at heb hcol hY ⊢
  have hne : (eb != 0) = true := by simpa using heb
  gi_upto_region 2 with (refine ⟨trivial, ?_⟩; gi_at_call 19; refine hcol.mono ?_; rintro e w2 ⟨hb2, ⟨hx, _⟩ | ⟨_, rfl⟩⟩; first | exact absurd hx heb | skip)
  have hbx := below_step hbel (hb2.alloc (by have := hb2.size; omega) (.cells #[.slice none 0 0] 22)) (by omega)
  have cYx := (cell_of_block ((hb2.alloc (by have := hb2.size; omega) (.cells #[.slice none 0 0] 22)).block W.heap.size (by omega)) 0).trans (Boxed.cell cY)
  generalize w2.alloc (.cells #[.slice none 0 0] 22) = Wx at hbx cYx ⊢
  obtain ⟨fn, tmps, assign, body, hy, hR⟩ := yield_wide (m := n - 1) (hY [] (RV.nil, eb) X Wx (List.prefix_refl _) (hJ _ _ _ _ h0 (below_agree hX hbx)) (below_gr hX hbx))
  dsimp only [enc, RV.nil] at hy
  clear hY hcol hb hb1
  gi_wp2
  refine hR.mono ?_
  rintro e4 W4 ⟨X4, g4, (⟨rfl, j4⟩ | ⟨rfl, j4⟩)⟩
  · gi_wp2
    refine ⟨_, results_none rfl _ _ _, ⟨_, rfl⟩, X4, (below_gr hX hbx).trans g4 hbx.size, .inl j4⟩
  · gi_wp2
    refine ⟨_, results_none rfl _ _ _, ⟨_, rfl⟩, X4, (below_gr hX hbx).trans g4 hbx.size, .inr ⟨_, List.prefix_refl _, j4⟩⟩
set_option maxRecDepth 100000 in
set_option maxHeartbeats 4000000 in
theorem among1_ok (n : Nat) (hn : 6 ≤ n) (l A B D : Nat) (is : Bool) (ga : FuncId) (la : Array Value) (vb : Value) (pa pb : List Pr) (Ra Rb : Nat → Prop)
    (J Jx : List (RV × Int) → (Nat → Prop) → World → Prop) (X : Nat → Prop) (W : World) (hX : ∀ j, X j → j < W.heap.size) (hJ : Stable W.heap.size J) (hJx : Stable W.heap.size Jx)
    (hA : A < W.heap.size) (hB : B < W.heap.size ∧ ¬ X B) (hD : D < W.heap.size ∧ ¬ X D) (hca : W.cell? ⟨A, 0, none⟩ = some vb) (hcb : W.cell? ⟨B, 0, none⟩ = some (.func (.func ga) #[] la)) (hcd : W.cell? ⟨D, 0, none⟩ = some (.bool is))
    (ega : ∀ args w, (callFunc ga args).run Try.prog w = .ok (.enter ga args) w) (hqa : ∀ n, Seq Fence.wide n Try.prog ga la enc (pa.map Prod.fst) Ra W) (hRa : ∀ j, Ra j → j < W.heap.size ∧ ¬ X j)
    (hrows : ∀ p ∈ pa, p.1.2 = 0 → Cont W p.1.1 p.2 ∧ p.1.1.n ≤ 1000 ∧ ∀ j, p.1.1.blk j → Ra j) (hb : ItC vb pb Rb W) (hlb : pb.length ≤ 100000) (heb : errOf pb = 0) (rowsB : List (List V3)) (hrB : rowsB = pb.map Prod.snd)
    (hY : ∀ pre x X1 W1, (pre ++ [x]) <+: (amL is rowsB pa).map Prod.fst → J pre X1 W1 → Gr X X1 W.heap.size W W1 → YieldAt Fence.wide (n - 1) Try.prog l (enc x) W1 fun e W' =>
      ∃ X', Gr X1 X' W1.heap.size W1 W' ∧ ((e = .returned (.bool true) ∧ J (pre ++ [x]) X' W') ∨ (e = .returned (.bool false) ∧ Jx (pre ++ [x]) X' W')))
    (h0 : J [] X W) :
    CallsIn Fence.wide n Try.prog 69 #[.func (.yield l) #[] #[], .pointer (some ⟨A, 0, none⟩), .pointer (some ⟨B, 0, none⟩), .pointer (some ⟨D, 0, none⟩)] W fun e W' => (∃ v, e = .returned v) ∧
      ∃ X', Gr X X' W.heap.size W W' ∧ (J ((amL is rowsB pa).map Prod.fst) X' W' ∨ ∃ pre, pre <+: (amL is rowsB pa).map Prod.fst ∧ Jx pre X' W') := by
  have hro : Fence.wide.round = none := rfl
  have hmx : Try.prog.follows .mixedOrders = true := by kernel_rfl
  have h1 : 1 ≤ n := by omega
  have hfn : ∀ (w : World) (g : FuncId) (lb : Array Value), (binOp .eql 31 (.func (.func g) #[] lb) .nilFunc).run Try.prog w = .ok (.bool false) w := fun _ _ _ => rfl
  have cY := Boxed.new W 72 (.func (.yield l) #[] #[])
  have hbel : Below W.heap.size W (W.alloc (.cells #[.func (.yield l) #[] #[]] 72)) := (Below.refl _ W).alloc (Nat.le_refl _) _
  have hsz : (W.alloc (.cells #[.func (.yield l) #[] #[]] 72)).heap.size = W.heap.size + 1 := by simp
  have hcaA := (cell_of_block (hbel.block A hA) 0).trans hca
  have hb1 := hb.below hbel
  refine callsIn_of_wp_marks Try.func69 rfl trivial ?_ hro
  simp only [Try.ntmps69, List.size_toArray, List.length_cons, List.length_nil, Nat.reduceAdd, Nat.reduceSub, Array.replicate_succ, Array.replicate_zero, List.push_toArray, List.append_toArray, List.nil_append, List.cons_append]
  generalize hW1 : W.alloc (.cells #[.func (.yield l) #[] #[]] 72) = W1 at cY hbel hsz hcaA hb1
  have hcol := collect_c (n - 1) (by omega) vb pb Rb W1 hb1 hlb
  gi_upto_region 2 with (refine ⟨trivial, ?_⟩; gi_at_call 19; refine hcol.mono ?_; rintro e w2 ⟨hb2, ⟨_, sv, rfl, hz, hown⟩ | ⟨hx, _⟩⟩; (obtain ⟨sa, sk, sc, rfl⟩ := hown.shape); rotate_left; exact absurd heb hx)
  have hbx := below_step hbel (hb2.alloc (by have := hb2.size; omega) (.cells #[.slice sa sk sc] 22)) (by omega)
  have cYx := (cell_of_block ((hb2.alloc (by have := hb2.size; omega) (.cells #[.slice sa sk sc] 22)).block W.heap.size (by omega)) 0).trans (Boxed.cell cY)
  have cLx := Boxed.new w2 22 (.slice sa sk sc)
  have hownx : OwnB (fun j => W1.heap.size ≤ j ∧ j < w2.heap.size) (w2.alloc (.cells #[.slice sa sk sc] 22)) (.slice sa sk sc) (pb.map Prod.snd) := hown.same (by simp) (fun j hj => Below.heap_alloc _ _ _ hj.2)
  have hszx : w2.heap.size < (w2.alloc (.cells #[.slice sa sk sc] 22)).heap.size := by simp
  generalize w2.alloc (.cells #[.slice sa sk sc] 22) = Wx at hbx cYx cLx hownx hszx ⊢
  have hw2 := hb2.size
  have hcbx := (cell_of_block (hbx.block B hB.1) 0).trans hcb
  generalize hNL : w2.heap.size = NL at cLx hownx hszx hw2 ⊢
  clear hcol hb1 hown hb2 cY
  gi_upto_region 6 with fail
  have hby := below_step hbx ((Below.refl _ Wx).alloc (Nat.le_refl _) (.cells #[.func (.func 70) #[] #[.pointer (some ⟨NL, 0, none⟩)]] 84)) hbx.size
  have bAl := fun j (hj : j < Wx.heap.size) => Below.heap_alloc Wx (.cells #[.func (.func 70) #[] #[.pointer (some ⟨NL, 0, none⟩)]] 84) j hj
  have cYy := (cell_of_block (bAl W.heap.size (by have := hbx.size; omega)) 0).trans cYx
  have cLy := (cell_of_block (bAl NL (by omega)) 0).trans (Boxed.cell cLx)
  have cFy := Boxed.cell (Boxed.new Wx 84 (.func (.func 70) #[] #[.pointer (some ⟨NL, 0, none⟩)]))
  have hFy : Wx.heap.size < (Wx.alloc (.cells #[.func (.func 70) #[] #[.pointer (some ⟨NL, 0, none⟩)]] 84)).heap.size := by simp
  have hownx := hownx.same (W' := Wx.alloc (.cells #[.func (.func 70) #[] #[.pointer (some ⟨NL, 0, none⟩)]] 84)) (by simp) (fun j hj => bAl j (by omega))
  have hbxs := hbx.size
  generalize hNF : Wx.heap.size = NF at cFy hFy hszx hbxs ⊢
  generalize Wx.alloc (.cells #[.func (.func 70) #[] #[.pointer (some ⟨NL, 0, none⟩)]] 84) = Wy at hby cYy cLy cFy hFy hownx ⊢
  clear bAl cYx cLx hbx hcbx hNF
  have hcby := (cell_of_block (hby.block B hB.1) 0).trans hcb
  rw [← hrB] at hownx
  have hlr : rowsB.length ≤ 100000 := by rw [hrB, List.length_map]; exact hlb
  clear hrB hz heb hlb
  have hXlt : ∀ j, X j → j < Wy.heap.size := fun j hj => Nat.lt_of_lt_of_le (hX j hj) hby.size
  have hI : Stable Wy.heap.size (AI (amL is rowsB pa) (fun k => amL is rowsB (pa.drop k)) J X W) := AI.stable hJ hby.size
  have hIX : ∀ c, Stable Wy.heap.size (AX (amL is rowsB pa) J Jx X W c) := AX.stable hJ hJx hby.size
  gi_wp2
  refine wpIn_rangeFunc_sep hro h1 (gf := ga) (lb := la) rfl trivial ega (hqa (n - 1)) (fun _ => rfl) X hby.size (fun j hj => ⟨(hRa j hj).1, (hRa j hj).2, hby.block j (hRa j hj).1⟩) hXlt
    _ _ hI hIX ⟨[], rfl, hJ _ _ _ _ h0 (below_agree hX hby), below_gr hX hby⟩ ?round ?done ?stop
  case round =>
    rintro lab pre ⟨⟨ra, rn, rc⟩, e⟩ X1 Wa hl hpre ⟨out, b1, b2, b3⟩ hg hXl hlt
    obtain ⟨row, hdrop, hmem⟩ := drop_at hpre
    have b1' : Aside (amL is rowsB pa = out ++ amL is rowsB (pa.drop pre.length)) := b1
    have hdrop' : Aside (pa.drop pre.length = ((⟨ra, rn, rc⟩, e), row) :: pa.drop (pre.length + 1)) := hdrop
    clear b1 hdrop
    have hl2 : Wy.heap.size < lab := by omega
    clear hl
    gi_wp2
    refine ⟨fun _ _ _ => trivial, Nat.le_refl _, trivial, trivial, trivial, ?_⟩
    intro W3 z1 z2 z3 z4 z5
    have hag3 : Agree X1 W.heap.size Wa W3 := ⟨z2, z3, z4, by omega, fun j hj => z5 j (by rintro rfl; rcases hj with h | h; exact hXl h; have := hby.size; omega)⟩
    have hJ3 := hJ _ _ _ _ b2 hag3
    have hg3 : Gr X X1 W.heap.size W W3 := ⟨z2.trans b3.os, z3.trans b3.tape, z4.trans b3.output, by rw [z1]; exact b3.size, fun j hj hx => (z5 j (by have := hby.size; omega)).trans (b3.block j hj hx), b3.sub, fun j hj => by rw [z1]; exact b3.lt j hj⟩
    have hgy : ∀ j, j < Wy.heap.size → ¬ X j → W3.heap[j]? = Wy.heap[j]? := fun j hj hx => (z5 j (by omega)).trans (hg.block j hj hx)
    have nX : ∀ j, W.heap.size ≤ j → ¬ X j := fun j hj hx => by have := hX j hx; omega
    have cY3 := (cell_of_block (hgy W.heap.size (by omega) (nX _ (Nat.le_refl _))) 0).trans cYy
    have cL3 := (cell_of_block (hgy NL (by omega) (nX _ (by omega))) 0).trans cLy
    have cF3 := (cell_of_block (hgy NF (by omega) (nX _ (by omega))) 0).trans cFy
    have cD3 := (cell_of_block (hg3.block D hD.1 hD.2) 0).trans hcd
    have hz3 : W3.heap.size = Wa.heap.size := z1
    have b1 := b1'.out
    rw [hdrop'.out] at b1
    by_cases he : e = 0
    · subst he
      obtain ⟨r1, r2, r3⟩ := hrows _ hmem rfl
      have hC3 : Cont W3 ⟨ra, rn, rc⟩ row := r1.same hg3.size (fun j hj => hg3.block j (hRa j (r3 j hj)).1 (hRa j (r3 j hj)).2)
      have hown3 : OwnB (fun j => W1.heap.size ≤ j ∧ j < NL) W3 (.slice sa sk sc) rowsB := hownx.same (by have := hg.size; omega) (fun j hj => hgy j (by omega) (nX j (by omega)))
      clear b1
      gi_wp2
      obtain ⟨t, ht⟩ : ∃ t, (rowsB.any fun s => eqRow s row) = t := ⟨_, rfl⟩
      have hin70 := fun (w : World) (hb : Below W3.drew.heap.size W3.drew w) => in70_ok ra rn rc NL (.slice sa sk sc) rowsB row w hlr ((cell_of_block (hb.block NL (by have := hg.size; change _ < W3.heap.size; omega)) 0).trans cL3) (hown3.own.below (below_drew hb)) (hC3.below (below_drew hb))
      rw [ht] at hin70
      have hLo : ∀ (B : Nat) (v : Value), W3.cell? ⟨B, 0, none⟩ = some v → ∀ w, Below W3.drew.heap.size W3.drew w → w.cell? ⟨B, 0, none⟩ = some v := fun B v hv w hb => (cell_of_block (hb.block B (cell_lt hv)) 0).trans hv
      have hYY : (t == is) = true → ∀ w, Below W3.drew.heap.size W3.drew w → YieldAt Fence.wide (n - 1 - 1 - 1) Try.prog l (enc (⟨ra, rn, rc⟩, 0)) w fun e W' => ∃ b, e = .returned (.bool b) ∧ APost J Jx X X1 W Wa.heap.size W3 (out.map Prod.fst ++ [(⟨ra, rn, rc⟩, 0)]) b W' := by
        intro hg2 w hb
        have hpre2 : out.map Prod.fst ++ [((⟨ra, rn, rc⟩ : RV), (0 : Int))] <+: (amL is rowsB pa).map Prod.fst := by
          have b1 := b1'.out
          rw [hdrop'.out, amL, if_pos rfl, if_pos (by rw [ht]; simpa using hg2)] at b1
          rw [b1]; simp
        have hltX : ∀ j, X1 j → j < W3.drew.heap.size := fun j hj => by have := hg.lt j hj; change j < W3.heap.size; omega
        have hag : Agree X1 W.heap.size W3 w := ⟨hb.os, hb.tape, hb.output, hb.size, fun j hj => hb.block j (by rcases hj with h | h; exact hltX j h; have := hg3.size; change j < W3.heap.size; omega)⟩
        have hgw : Gr X X1 W.heap.size W w := ⟨hb.os.trans hg3.os, hb.tape.trans hg3.tape, hb.output.trans hg3.output, Nat.le_trans hg3.size hb.size, fun j hj hx => (hb.block j (Nat.lt_of_lt_of_le hj hg3.size)).trans (hg3.block j hj hx), hg3.sub, fun j hj => Nat.lt_of_lt_of_le (hg3.lt j hj) hb.size⟩
        refine yield_mono (yield_wide (hY _ _ X1 w hpre2 (hJ _ _ _ _ hJ3 hag) hgw)) ?_
        rintro e W' ⟨X4, g4, h⟩
        have g5 := hgw.trans g4 hgw.size
        have g6 : Gr X1 X4 Wa.heap.size W3 W' := ⟨g4.os.trans hb.os, g4.tape.trans hb.tape, g4.output.trans hb.output, Nat.le_trans hb.size g4.size, fun j hj hx => (g4.block j (by have := hb.size; change W3.heap.size ≤ _ at this; omega) hx).trans (hb.block j (by change j < W3.heap.size; omega)), fun j hj => (g4.sub j hj).imp id (fun h => by have := hb.size; change W3.heap.size ≤ _ at this; omega), g4.lt⟩
        rcases h with ⟨rfl, j4⟩ | ⟨rfl, j4⟩
        · exact ⟨true, rfl, X4, g6, g5, j4⟩
        · exact ⟨false, rfl, X4, g6, g5, j4⟩
      obtain ⟨g, hgg⟩ : ∃ g, (t == is) = g := ⟨_, rfl⟩
      rw [hgg] at hYY
      have hst0 : Aside (g = false → amL is rowsB pa = out ++ amL is rowsB (pa.drop (pre.length + 1))) := by
        intro hg0
        have b1 := b1'.out
        rw [hdrop'.out, amL, if_pos rfl, if_neg (by rw [ht]; rw [← hgg] at hg0; simpa using hg0)] at b1
        exact b1
      have hst1 : Aside (g = true → amL is rowsB pa = (out ++ [((⟨ra, rn, rc⟩, 0), row)]) ++ amL is rowsB (pa.drop (pre.length + 1))) := by
        intro hg0
        have b1 := b1'.out
        rw [hdrop'.out, amL, if_pos rfl, if_pos (by rw [ht]; rw [← hgg] at hg0; simpa using hg0)] at b1
        rw [b1]; simp
      clear ht
      refine wpIn_region_inv hmx (by kernel_rfl) ICl ?hcl (ISt [Value.func (Fn.yield l) #[] #[], Value.pointer (some { block := A, off := 0 }), Value.pointer (some { block := B, off := 0 }), Value.pointer (some { block := D, off := 0 }), Value.pointer (some { block := W.heap.size, off := 0 }), Value.pointer (some { block := NL, off := 0 }), Value.int IntKind.i64 0, Value.pointer (some { block := NF, off := 0 }), Value.slice ra rn rc, Value.int IntKind.i64 0, Value.tuple #[Value.slice sa sk sc, Value.int IntKind.i64 0], vb, Value.tuple #[Value.slice sa sk sc, Value.int IntKind.i64 0], Value.slice sa sk sc, Value.int IntKind.i64 0, Value.int IntKind.i64 0, Value.bool false, undef, undef, undef, Value.func (Fn.func ga) #[] la, Value.bool false, Value.func (Fn.func 70) #[] #[Value.pointer (some { block := NL, off := 0 })], Value.func (Fn.func ga) #[] la, Value.slice ra rn rc, Value.int IntKind.i64 0, Value.int IntKind.i64 0, Value.bool false, undef, undef, undef] W3.drew (.func (.func 70) #[] #[.pointer (some ⟨NL, 0, none⟩)]) (.func (.yield l) #[] #[]) (.slice ra rn rc) t is g (APost J Jx X X1 W Wa.heap.size W3 (out.map Prod.fst ++ [(⟨ra, rn, rc⟩, 0)]))) ?hst ?hops ?hend
      case hcl =>
        intro d h
        have m : ∀ (i : Nat) (o : Oper) (e : Edge), _ → d i = true → e ∈ o.after → Region.binds .any e = true → d e.on = true := fun i o e ho hd he hb => h i o ho hd e he hb
        exact ⟨fun q => ⟨m 2 _ ⟨0, .data⟩ rfl q (by simp) rfl, m 2 _ ⟨1, .data⟩ rfl q (by simp) rfl⟩, fun q => ⟨m 4 _ ⟨2, .data⟩ rfl q (by simp) rfl, m 4 _ ⟨3, .data⟩ rfl q (by simp) rfl⟩, fun q => m 5 _ ⟨4, .data⟩ rfl q (by simp) rfl, fun q => m 6 _ ⟨5, .guard⟩ rfl q (by simp) rfl, fun q => m 7 _ ⟨5, .guard⟩ rfl q (by simp) rfl, fun q => ⟨m 8 _ ⟨6, .data⟩ rfl q (by simp) rfl, m 8 _ ⟨7, .data⟩ rfl q (by simp) rfl⟩, fun q => m 9 _ ⟨8, .data⟩ rfl q (by simp) rfl, fun q => m 10 _ ⟨9, .data⟩ rfl q (by simp) rfl⟩
      case hst => exact ⟨undef, undef, undef, undef, undef, undef, undef, undef, undef, undef, undef, rfl, nofun, nofun, nofun, nofun, nofun, nofun, nofun, nofun, fun _ => Below.refl _ _, nofun, nofun⟩
      case hops =>
        refine ⟨?_, ?_, ?_, ?_, ?_, ?_, ?_, ?_, ?_, ?_, ?_, trivial⟩
        · rintro d a w hd hc hc2 ⟨x31, x32, x33, x34, x35, x36, x37, x38, x39, x40, x41, rfl, h0, h1, h2, h3, h4, h5, h6, h7, hw, h8, h10⟩ K hK
          have d8 : d 8 = false := by cases q : d 8 with | false => rfl | true => exact absurd (hc.1 (hc.2.1 (hc.2.2.1 (hc.2.2.2.1 (hc.2.2.2.2.2.1 q).1))).1).1 (by rw [hd]; decide)
          have hlow := hw (.inl d8)
          have hcell := hLo NF _ cF3 w hlow
          refine if_intro (by rfl) ?_
          go_simp
          exact hK _ _ ⟨_, x32, x33, x34, x35, x36, x37, x38, x39, x40, x41, rfl, fun _ => rfl, h1, h2, h3, h4, h5, h6, h7, hw, h8, h10⟩
        · rintro d a w hd hc hc2 ⟨x31, x32, x33, x34, x35, x36, x37, x38, x39, x40, x41, rfl, h0, h1, h2, h3, h4, h5, h6, h7, hw, h8, h10⟩ K hK
          have d8 : d 8 = false := by cases q : d 8 with | false => rfl | true => exact absurd (hc.1 (hc.2.1 (hc.2.2.1 (hc.2.2.2.1 (hc.2.2.2.2.2.1 q).1))).1).2 (by rw [hd]; decide)
          have hlow := hw (.inl d8)
          refine if_intro (by rfl) ?_
          go_simp
          exact hK _ _ ⟨x31, _, x33, x34, x35, x36, x37, x38, x39, x40, x41, rfl, h0, fun _ => rfl, h2, h3, h4, h5, h6, h7, hw, h8, h10⟩
        · rintro d a w hd hc hc2 ⟨x31, x32, x33, x34, x35, x36, x37, x38, x39, x40, x41, rfl, h0, h1, h2, h3, h4, h5, h6, h7, hw, h8, h10⟩ K hK
          have d8 : d 8 = false := by cases q : d 8 with | false => rfl | true => exact absurd (hc.2.1 (hc.2.2.1 (hc.2.2.2.1 (hc.2.2.2.2.2.1 q).1))).1 (by rw [hd]; decide)
          have hlow := hw (.inl d8)
          obtain rfl := h0 (hc2.1 rfl).1
          obtain rfl := h1 (hc2.1 rfl).2
          refine if_intro (by rfl) ?_
          go_simp
          refine ⟨trivial, (fun h => by cases h), ?_⟩
          refine (CallsIn.inRound _ (callsIn_wide.2 (hin70 w hlow))).mono ?_
          rintro e4 w4 ⟨rfl, hb4⟩
          exact hK _ _ ⟨_, _, _, x34, x35, x36, x37, x38, x39, x40, x41, rfl, h0, h1, fun _ => rfl, h3, h4, h5, h6, h7, fun _ => below_step hlow hb4 hlow.size, fun q => absurd q (by change ¬ (d 8 = true); rw [d8]; decide), h10⟩
        · rintro d a w hd hc hc2 ⟨x31, x32, x33, x34, x35, x36, x37, x38, x39, x40, x41, rfl, h0, h1, h2, h3, h4, h5, h6, h7, hw, h8, h10⟩ K hK
          have d8 : d 8 = false := by cases q : d 8 with | false => rfl | true => exact absurd (hc.2.1 (hc.2.2.1 (hc.2.2.2.1 (hc.2.2.2.2.2.1 q).1))).2 (by rw [hd]; decide)
          have hlow := hw (.inl d8)
          have hcell := hLo D _ cD3 w hlow
          refine if_intro (by rfl) ?_
          go_simp
          exact hK _ _ ⟨x31, x32, x33, _, x35, x36, x37, x38, x39, x40, x41, rfl, h0, h1, h2, fun _ => rfl, h4, h5, h6, h7, hw, h8, h10⟩
        · rintro d a w hd hc hc2 ⟨x31, x32, x33, x34, x35, x36, x37, x38, x39, x40, x41, rfl, h0, h1, h2, h3, h4, h5, h6, h7, hw, h8, h10⟩ K hK
          have d8 : d 8 = false := by cases q : d 8 with | false => rfl | true => exact absurd (hc.2.2.1 (hc.2.2.2.1 (hc.2.2.2.2.2.1 q).1)) (by rw [hd]; decide)
          have hlow := hw (.inl d8)
          obtain rfl := h2 (hc2.2.1 rfl).1
          obtain rfl := h3 (hc2.2.1 rfl).2
          refine if_intro (by rfl) ?_
          go_simp
          exact hK _ _ ⟨x31, x32, _, _, _, x36, x37, x38, x39, x40, x41, rfl, h0, h1, h2, h3, fun _ => by rw [← hgg], h5, h6, h7, hw, h8, h10⟩
        · rintro d a w hd hc hc2 ⟨x31, x32, x33, x34, x35, x36, x37, x38, x39, x40, x41, rfl, h0, h1, h2, h3, h4, h5, h6, h7, hw, h8, h10⟩ K hK
          have d8 : d 8 = false := by cases q : d 8 with | false => rfl | true => exact absurd (hc.2.2.2.1 (hc.2.2.2.2.2.1 q).1) (by rw [hd]; decide)
          have hlow := hw (.inl d8)
          obtain rfl := h4 (hc2.2.2.1 rfl)
          refine if_intro (by rfl) ?_
          go_simp
          exact hK _ _ ⟨x31, x32, x33, x34, _, _, x37, x38, x39, x40, x41, rfl, h0, h1, h2, h3, h4, fun _ => rfl, h6, h7, hw, h8, h10⟩
        · rintro d a w hd hc hc2 ⟨x31, x32, x33, x34, x35, x36, x37, x38, x39, x40, x41, rfl, h0, h1, h2, h3, h4, h5, h6, h7, hw, h8, h10⟩ K hK
          have d8 : d 8 = false := by cases q : d 8 with | false => rfl | true => exact absurd (hc.2.2.2.2.2.1 q).1 (by rw [hd]; decide)
          have hlow := hw (.inl d8)
          obtain rfl := h5 (hc2.2.2.2.1 rfl)
          cases g with
          | false =>
            refine if_outro (by change ¬ (false = true); decide) ⟨fun _ _ => trivial, hK _ _ ⟨x31, x32, x33, x34, x35, _, _, x38, x39, x40, x41, rfl, h0, h1, h2, h3, h4, h5, fun _ q => Bool.noConfusion q, h7, hw, h8, h10⟩⟩
          | true =>
            have hcell := hLo W.heap.size _ cY3 w hlow
            refine if_intro (by rfl) ?_
            go_simp
            exact hK _ _ ⟨x31, x32, x33, x34, x35, _, _, x38, x39, x40, x41, rfl, h0, h1, h2, h3, h4, h5, fun _ _ => rfl, h7, hw, h8, h10⟩
        · rintro d a w hd hc hc2 ⟨x31, x32, x33, x34, x35, x36, x37, x38, x39, x40, x41, rfl, h0, h1, h2, h3, h4, h5, h6, h7, hw, h8, h10⟩ K hK
          have d8 : d 8 = false := by cases q : d 8 with | false => rfl | true => exact absurd (hc.2.2.2.2.2.1 q).2 (by rw [hd]; decide)
          have hlow := hw (.inl d8)
          obtain rfl := h5 (hc2.2.2.2.2.1 rfl)
          cases g with
          | false =>
            refine if_outro (by change ¬ (false = true); decide) ⟨fun _ _ => trivial, hK _ _ ⟨x31, x32, x33, x34, x35, _, x37, _, x39, x40, x41, rfl, h0, h1, h2, h3, h4, h5, h6, fun _ q => Bool.noConfusion q, hw, h8, h10⟩⟩
          | true =>
            refine if_intro (by rfl) ?_
            go_simp
            exact hK _ _ ⟨x31, x32, x33, x34, x35, _, x37, _, x39, x40, x41, rfl, h0, h1, h2, h3, h4, h5, h6, fun _ _ => rfl, hw, h8, h10⟩
        · rintro d a w hd hc hc2 ⟨x31, x32, x33, x34, x35, x36, x37, x38, x39, x40, x41, rfl, h0, h1, h2, h3, h4, h5, h6, h7, hw, h8, h10⟩ K hK
          have d8 := hd
          have hlow := hw (.inl d8)
          obtain rfl := h5 (hc.2.2.2.1 (hc2.2.2.2.2.2.1 rfl).1)
          cases g with
          | false =>
            refine if_outro (by change ¬ (false = true); decide) ⟨fun _ _ => trivial, hK _ _ ⟨x31, x32, x33, x34, x35, _, x37, x38, _, x40, x41, rfl, h0, h1, h2, h3, h4, h5, h6, h7, fun _ => hlow, fun _ q => Bool.noConfusion q, h10⟩⟩
          | true =>
            obtain rfl := h6 (hc2.2.2.2.2.2.1 rfl).1 rfl
            obtain rfl := h7 (hc2.2.2.2.2.2.1 rfl).2 rfl
            obtain ⟨fn, tmps, assign, body, hy, hR⟩ := hYY rfl w hlow
            dsimp only [enc] at hy
            refine if_intro (by rfl) ?_
            go_simp
            refine ⟨(fun h => by cases h), ?_⟩
            refine (show RoundIn (Fence.wide.inRound lab) (n - 1 - 1 - 1) Try.prog l fn tmps assign body w _ from hR).mono ?_
            rintro e4 w4 ⟨b, rfl, hp⟩
            have d9 : d 9 = false := by cases q : d 9 with | false => rfl | true => exact absurd (hc.2.2.2.2.2.2.1 q) (by rw [hd]; decide)
            have d10 : d 10 = false := by cases q : d 10 with | false => rfl | true => exact absurd (hc.2.2.2.2.2.2.2 q) (by rw [d9]; decide)
            exact hK _ _ ⟨x31, x32, x33, x34, x35, _, _, _, _, x40, x41, rfl, h0, h1, h2, h3, h4, h5, h6, h7, fun q => absurd q (by rintro (q | q) <;> cases q), fun _ _ => ⟨b, rfl, hp, fun q => absurd q (by change ¬ (d 9 = true); rw [d9]; decide), fun q => absurd q (by change ¬ (d 10 = true); rw [d10]; decide)⟩, h10⟩
        · rintro d a w hd hc hc2 ⟨x31, x32, x33, x34, x35, x36, x37, x38, x39, x40, x41, rfl, h0, h1, h2, h3, h4, h5, h6, h7, hw, h8, h10⟩ K hK
          obtain ⟨e8⟩ : PLift (d 8 = true) := ⟨hc2.2.2.2.2.2.2.1 rfl⟩
          obtain rfl := h5 (hc.2.2.2.1 (hc.2.2.2.2.2.1 e8).1)
          have d10 : d 10 = false := by cases q : d 10 with | false => rfl | true => exact absurd (hc.2.2.2.2.2.2.2 q) (by rw [hd]; decide)
          cases g with
          | false => refine if_outro (by change ¬ (false = true); decide) ⟨fun _ _ => trivial, hK _ _ ⟨x31, x32, x33, x34, x35, _, x37, x38, x39, _, x41, rfl, h0, h1, h2, h3, h4, h5, h6, h7, hw, fun _ q => Bool.noConfusion q, h10⟩⟩
          | true =>
            obtain ⟨b, rfl, hp, h9, h11⟩ := h8 e8 rfl
            refine if_intro (by rfl) ?_
            go_simp
            exact hK _ _ ⟨x31, x32, x33, x34, x35, _, x37, x38, _, _, x41, rfl, h0, h1, h2, h3, h4, h5, h6, h7, hw, fun _ _ => ⟨b, rfl, hp, fun _ => rfl, fun q => absurd q (by change ¬ (d 10 = true); rw [d10]; decide)⟩, h10⟩
        · rintro d a w hd hc hc2 ⟨x31, x32, x33, x34, x35, x36, x37, x38, x39, x40, x41, rfl, h0, h1, h2, h3, h4, h5, h6, h7, hw, h8, h10⟩ K hK
          obtain ⟨e9⟩ : PLift (d 9 = true) := ⟨hc2.2.2.2.2.2.2.2 rfl⟩
          obtain ⟨e8⟩ : PLift (d 8 = true) := ⟨hc.2.2.2.2.2.2.1 e9⟩
          obtain rfl := h5 (hc.2.2.2.1 (hc.2.2.2.2.2.1 e8).1)
          refine if_intro (by rfl) ?_
          cases g with
          | false =>
            go_simp
            exact hK _ _ ⟨x31, x32, x33, x34, x35, _, x37, x38, x39, x40, _, rfl, h0, h1, h2, h3, h4, h5, h6, h7, hw, fun _ q => Bool.noConfusion q, fun _ _ => rfl⟩
          | true =>
            obtain ⟨b, rfl, hp, h9, h11⟩ := h8 e8 rfl
            obtain rfl := h9 e9
            go_simp
            exact hK _ _ ⟨x31, x32, x33, x34, x35, _, x37, x38, _, _, _, rfl, h0, h1, h2, h3, h4, h5, h6, h7, hw, fun _ _ => ⟨b, rfl, hp, fun _ => rfl, fun _ => rfl⟩, fun _ q => Bool.noConfusion q⟩
      case hend =>
        rintro d a w hall ⟨x31, x32, x33, x34, x35, x36, x37, x38, x39, x40, x41, rfl, h0, h1, h2, h3, h4, h5, h6, h7, hw, h8, h10⟩
        have dd : ∀ i, i < 11 → d i = true := hall
        obtain rfl := h5 (dd 5 (by decide))
        cases g with
        | false =>
          obtain rfl := h10 (dd 10 (by decide)) rfl
          have hlow := hw (.inr rfl)
          clear hYY hin70 hLo
          gi_wp2
          have hlow2 := below_drew hlow
          have hwa : Wa.heap.size ≤ W3.heap.size := Nat.le_of_eq hz3.symm
          have hltX : ∀ j, X1 j → j < W3.heap.size := fun j hj => Nat.lt_of_lt_of_le (hg.lt j hj) hwa
          have hag : Agree X1 W.heap.size W3 w := ⟨hlow2.os, hlow2.tape, hlow2.output, hlow2.size, fun j hj => hlow2.block j (by rcases hj with h | h; exact hltX j h; exact Nat.lt_of_lt_of_le h hg3.size)⟩
          have hgw : Gr X X1 W.heap.size W w := ⟨hlow2.os.trans hg3.os, hlow2.tape.trans hg3.tape, hlow2.output.trans hg3.output, Nat.le_trans hg3.size hlow2.size, fun j hj hx => (hlow2.block j (Nat.lt_of_lt_of_le hj hg3.size)).trans (hg3.block j hj hx), hg3.sub, fun j hj => Nat.lt_of_lt_of_le (hg3.lt j hj) hlow2.size⟩
          refine ⟨X1, ⟨hlow2.os, hlow2.tape, hlow2.output, hlow2.size, fun j hj _ => hlow2.block j (Nat.lt_of_lt_of_le hj hwa), fun j hj => .inl hj, fun j hj => Nat.lt_of_lt_of_le (hltX j hj) hlow2.size⟩, out, ?_, hJ _ _ _ _ hJ3 hag, hgw⟩
          rw [List.length_append]; exact hst0.out trivial
        | true =>
          obtain ⟨b, rfl, hp, h9, h11⟩ := h8 (dd 8 (by decide)) rfl
          obtain rfl := h11 (dd 10 (by decide))
          clear hYY hin70 hLo
          cases b with
          | true =>
            gi_wp2
            obtain ⟨X4, g6, g5, j4⟩ := hp
            refine ⟨X4, g6, out ++ [((⟨ra, rn, rc⟩, 0), row)], ?_, ?_, g5⟩
            · rw [List.length_append]; exact hst1.out trivial
            · rw [List.map_append]; exact j4
          | false =>
            gi_wp2
            obtain ⟨X4, g6, g5, j4⟩ := hp
            refine ⟨X4, g6, rfl, g5, .inr ⟨_, ?_, j4⟩⟩
            rw [hst1.out trivial]; simp
    · have hne : (e != 0) = true := by simpa using he
      rw [amL, if_neg he] at b1
      have hp1 : out.map Prod.fst ++ [((RV.nil : RV), e)] = (amL is rowsB pa).map Prod.fst := by rw [b1]; simp
      obtain ⟨fn, tmps, assign, body, hy, hR⟩ := yield_wide (m := n - 1 - 1 - 1) (hY _ (RV.nil, e) X1 W3 (by rw [hp1]; exact List.prefix_refl _) hJ3 hg3)
      dsimp only [enc, RV.nil] at hy
      have hR' : RoundIn (Fence.wide.inRound lab) (n - 1 - 1 - 1) Try.prog l fn tmps assign body W3 _ := hR
      clear hR b1
      rw [hp1] at hR'
      gi_wp2
      refine ⟨(fun h => by cases h), ?_⟩
      refine hR'.mono ?_
      rintro e4 W4 ⟨X4, g4, (⟨rfl, j4⟩ | ⟨rfl, j4⟩)⟩
      · gi_wp2
        have g5 := hg3.trans g4 hg3.size
        rw [hz3] at g4
        exact ⟨X4, g4, rfl, g5, .inl j4⟩
      · gi_wp2
        have g5 := hg3.trans g4 hg3.size
        rw [hz3] at g4
        exact ⟨X4, g4, rfl, g5, .inr ⟨_, List.prefix_refl _, j4⟩⟩
  case done =>
    rintro Xd Wd ⟨out, b1, b2, b3⟩ hg hn hK
    have b1' : amL is rowsB pa = out ++ amL is rowsB (pa.drop (pa.map Prod.fst).length) := b1
    rw [List.length_map, List.drop_length, amL, List.append_nil] at b1'
    have hb : J ((amL is rowsB pa).map Prod.fst) Xd Wd := by rw [b1']; exact b2
    clear b1 b1'
    gi_wp2
    refine ⟨by simp, .inl ⟨_, _, rfl, run_takeDeferred hK, ?_⟩⟩
    exact ⟨_, results_none rfl _ _ _, ⟨_, rfl⟩, Xd, b3.put _ hby.size, .inl (hJ _ _ _ _ hb (agree_put Wd (.deferred none) hn hby.size))⟩
  case stop =>
    rintro c pre Xd Wd _ ⟨rfl, c2, c3⟩ hg hn hK
    gi_wp2
    refine ⟨by simp, .inl ⟨_, _, rfl, run_takeDeferred hK, ?_⟩⟩
    refine ⟨_, results_none rfl _ _ _, ⟨_, rfl⟩, Xd, c2.put _ hby.size, ?_⟩
    rcases c3 with h | ⟨q, hq, h⟩
    · exact .inl (hJ _ _ _ _ h (agree_put Wd (.deferred none) hn hby.size))
    · exact .inr ⟨q, hq, hJx _ _ _ _ h (agree_put Wd (.deferred none) hn hby.size)⟩
end Go.Proofs.Ytghpjlohoehdnaa.Sep

/-! sort.Distinct's own memory: a map of lists of rows. No condition beyond those that each theorem names. -/
namespace Go.Proofs.Ytghpjlohoehdnaa.Sep
open Go Go.RowKit Go.Shelf
set_option linter.unusedVariables false
set_option linter.unusedSimpArgs false
def hashV (h : Int) (v : V3) : Int := wrap64 (wrap64 (wrap64 (wrap64 (h * 31) + v.k) + v.n) + v.s.size)
def hashR (row : List V3) : Int := row.foldl hashV row.length
theorem hashR_wf (row : List V3) (h : row.length ≤ 100000) : (Lit.int .i64 (hashR row)).wf = true := by
  unfold hashR
  have : ∀ (l : List V3) (a : Int), (Lit.int .i64 a).wf = true → (Lit.int .i64 (l.foldl hashV a)).wf = true := by
    intro l
    induction l with
    | nil => intro a h; exact h
    | cons v l ih => intro a _; exact ih _ (wrap64_wf _)
  exact this row _ (WalkArith.wf_i64 (by omega))
theorem eqRow_eq : ∀ r s : List V3, eqRow r s = true → r = s
  | [], [], _ => rfl
  | [], _ :: _, h => by cases h
  | _ :: _, [], h => by cases h
  | u :: r, v :: s, h => by
    unfold eqRow at h
    rw [Bool.and_eq_true] at h
    have h2 := eqRow_eq r s h.2
    obtain ⟨k, n, b⟩ := u
    obtain ⟨k', n', b'⟩ := v
    have h1 := h.1
    unfold eqV at h1
    simp only [Bool.and_eq_true, beq_iff_eq] at h1
    obtain ⟨h3, h4, h5⟩ := h1
    rw [h2, h3, h4]
    have : b = b' := by
      cases b; cases b'
      congr 1
      simpa [ByteArray.toList_eq] using h5
    rw [this]
theorem any_hash (acc : List (List V3)) (row : List V3) : ((acc.filter fun s => hashR s == hashR row).any fun s => eqRow s row) = acc.any fun s => eqRow s row := by
  induction acc with
  | nil => rfl
  | cons s l ih =>
    rw [List.filter_cons]
    by_cases h : (hashR s == hashR row) = true
    · rw [if_pos h, List.any_cons, List.any_cons, ih]
    · rw [if_neg h, ih, List.any_cons]
      have : eqRow s row = false := by
        cases he : eqRow s row with
        | false => rfl
        | true => exact absurd (by rw [eqRow_eq s row he]; simp) h
      rw [this, Bool.false_or]
structure DF (f : Int → Value) (n Mp : Nat) (acc : List (List V3)) (Xd : Nat → Prop) (W : World) : Prop where
  map : MapF W Mp n f
  le : n ≤ acc.length
  mp : Xd Mp
  own : ∀ h, ∃ rs : List RV, W.ownsRow (Mp + 1) 48 1 (f h) rs.length (rs.map RV.v) ∧ (∀ j, (f h).ownBlock = some j → Xd j) ∧ All2 (fun q row => Cont W q row ∧ q.n ≤ 1000 ∧ ∀ j, q.blk j → Xd j ∧ Mp < j ∧ ∀ h', (f h').ownBlock ≠ some j) rs (acc.filter fun s => hashR s == h)
  apart : ∀ h h' j, h ≠ h' → (f h).ownBlock = some j → (f h').ownBlock ≠ some j
theorem DF.same {f : Int → Value} {n Mp : Nat} {acc : List (List V3)} {Xd : Nat → Prop} {W W' : World} (h : DF f n Mp acc Xd W) (hs : W.heap.size ≤ W'.heap.size) (hb : ∀ j, Xd j → W'.heap[j]? = W.heap[j]?) : DF f n Mp acc Xd W' :=
  ⟨h.map.kept (hb _ h.mp), h.le, h.mp, fun k => by
    obtain ⟨rs, h1, h2, h3⟩ := h.own k
    exact ⟨rs, ownsRow_same (fun j hj => hb j (h2 j hj)) h1, h2, h3.imp fun q row hq => ⟨hq.1.same hs (fun j hj => hb j (hq.2.2 j hj).1), hq.2⟩⟩, h.apart⟩
theorem DF.made (W : World) : DF (fun _ => .slice none 0 0) 0 W.heap.size [] (fun j => j = W.heap.size) (W.alloc (.map #[] 0)) :=
  ⟨MapF.made W, Nat.le_refl _, rfl, fun h => ⟨[], World.ownsRow_nil _ _ _ _, (fun j h => by cases h), trivial⟩, fun h h' j _ e => by cases e⟩
theorem DF.lt {f : Int → Value} {n Mp : Nat} {acc : List (List V3)} {Xd : Nat → Prop} {W : World} (h : DF f n Mp acc Xd W) (k : Int) : ∀ j, (f k).ownBlock = some j → Mp < j ∧ j < W.heap.size := fun j hj => by
  obtain ⟨rs, h1, _⟩ := h.own k
  rcases h1.2 with ⟨e, _⟩ | ⟨g, cap, cur, e, h2, h3, _⟩
  · rw [e] at hj; cases hj
  · rw [e] at hj; injection hj with hj; subst hj
    exact ⟨h2, (Array.getElem?_eq_some_iff.1 h3).1⟩
theorem DF.list {f : Int → Value} {n Mp : Nat} {acc : List (List V3)} {Xd : Nat → Prop} {W : World} (h : DF f n Mp acc Xd W) (k : Int) : Own1 W (f k) (acc.filter fun s => hashR s == k) := by
  obtain ⟨rs, h1, _, h3⟩ := h.own k
  have := ownB_of_row (N := Mp + 1) rfl h1 (h3.imp fun q row hq => ⟨hq.1, hq.2.1, fun j hj => (hq.2.2 j hj).2.1⟩)
  exact this.own
theorem filter_snoc (acc : List (List V3)) (row : List V3) (h : Int) : (acc ++ [row]).filter (fun s => hashR s == h) = if h = hashR row then acc.filter (fun s => hashR s == h) ++ [row] else acc.filter fun s => hashR s == h := by
  rw [List.filter_append]
  by_cases e : h = hashR row
  · subst e; simp
  · have : (hashR row == h) = false := by simpa using Ne.symm e
    simp [this, e]
/-- A ROW MORE: a clone of it, behind the others of its key; the map's entry anew. -/
theorem DF.push {f : Int → Value} {n Mp M : Nat} {acc : List (List V3)} {Xd : Nat → Prop} {W W4 W5 W6 : World} {row : List V3} {r' : RV} {v' : Value} {rs : List RV}
    (hD : DF f n Mp acc Xd W) (hM : M ≤ W.heap.size) (hX : ∀ j, Xd j → j < M) (hb4 : Below W.heap.size W W4) (hC : Cont W4 r' row) (hn : r'.n ≤ 1000) (hblk : ∀ j, r'.blk j → W.heap.size ≤ j)
    (hrs : All2 (fun q row => Cont W q row ∧ q.n ≤ 1000 ∧ ∀ j, q.blk j → Xd j ∧ Mp < j ∧ ∀ h', (f h').ownBlock ≠ some j) rs (acc.filter fun s => hashR s == hashR row)) (hox : ∀ j, (f (hashR row)).ownBlock = some j → Xd j)
    (hown : W5.ownsRow (Mp + 1) 48 1 v' (rs.length + 1) (rs.map RV.v ++ [r'.v])) (hgrow : W4.grownBy W5 (f (hashR row)).ownBlock) (hob : v'.ownBlock = (f (hashR row)).ownBlock ∨ v'.ownBlock = some W4.heap.size)
    (hmap : MapF W6 Mp (n + 1) (fun j => if j = hashR row then v' else f j)) (hg6 : W5.grownBy W6 (some Mp)) (hs6 : W6.heap.size = W5.heap.size) :
    DF (fun j => if j = hashR row then v' else f j) (n + 1) Mp (acc ++ [row]) (fun j => Xd j ∨ (M ≤ j ∧ j < W6.heap.size)) W6 ∧ (∀ j, j < W.heap.size → ¬ Xd j → W6.heap[j]? = W.heap[j]?) ∧ W.heap.size ≤ W6.heap.size ∧ W6.os = W.os ∧ W6.tape = W.tape ∧ W6.output = W.output := by
  have hMp : Mp < M := hX _ hD.mp
  have hs4 := hb4.size
  have hs5 := hgrow.size
  have vlt : ∀ k j, (f k).ownBlock = some j → j < M := fun k j hj => by
    obtain ⟨rs2, _, h2, _⟩ := hD.own k
    exact hX j (h2 j hj)
  have b5 : ∀ j, j < W4.heap.size → (f (hashR row)).ownBlock ≠ some j → W5.heap[j]? = W4.heap[j]? := fun j hj hv => hgrow.block j hj (fun e => hv e.symm)
  have b6 : ∀ j, j < W5.heap.size → j ≠ Mp → W6.heap[j]? = W5.heap[j]? := fun j hj hm => hg6.block j hj (fun e => hm (by injection e))
  have v'lt : ∀ j, v'.ownBlock = some j → Mp < j ∧ j < W5.heap.size := fun j hj => by
    rcases hown.2 with ⟨e, _⟩ | ⟨g, cap, cur, e, h2, h3, _⟩
    · rw [e] at hj; cases hj
    · rw [e] at hj; injection hj with hj; subst hj
      exact ⟨h2, (Array.getElem?_eq_some_iff.1 h3).1⟩
  have v'new : ∀ j, v'.ownBlock = some j → (f (hashR row)).ownBlock = some j ∨ j = W4.heap.size := fun j hj => by
    rcases hob with h | h
    · exact .inl (h ▸ hj)
    · rw [h] at hj; injection hj with hj; exact .inr hj.symm
  -- an old row of whatever key
  have old : ∀ (q : RV) (qr : List V3), (Cont W q qr ∧ q.n ≤ 1000 ∧ ∀ j, q.blk j → Xd j ∧ Mp < j ∧ ∀ h', (f h').ownBlock ≠ some j) →
      (Cont W6 q qr ∧ q.n ≤ 1000 ∧ ∀ j, q.blk j → (Xd j ∨ (M ≤ j ∧ j < W6.heap.size)) ∧ Mp < j ∧ ∀ h', (if h' = hashR row then v' else f h').ownBlock ≠ some j) := fun q qr ⟨h1, h2, h3⟩ => by
    have hlt : ∀ j, q.blk j → j < M := fun j hj => hX j (h3 j hj).1
    refine ⟨h1.same (by omega) (fun j hj => ?_), h2, fun j hj => ⟨.inl (h3 j hj).1, (h3 j hj).2.1, fun h' => ?_⟩⟩
    · have := hlt j hj
      rw [b6 j (by omega) (by have := (h3 j hj).2.1; omega), b5 j (by omega) ((h3 j hj).2.2 _), hb4.block j (by omega)]
    · by_cases e : h' = hashR row
      · rw [if_pos e]
        intro hv
        rcases v'new j hv with h | h
        · exact (h3 j hj).2.2 _ h
        · have := hlt j hj; omega
      · rw [if_neg e]; exact (h3 j hj).2.2 _
  have hnew : Cont W6 r' row ∧ r'.n ≤ 1000 ∧ ∀ j, r'.blk j → (Xd j ∨ (M ≤ j ∧ j < W6.heap.size)) ∧ Mp < j ∧ ∀ h', (if h' = hashR row then v' else f h').ownBlock ≠ some j := by
    have hlt : ∀ j, r'.blk j → j < W4.heap.size := hC.blt
    refine ⟨hC.same (by omega) (fun j hj => ?_), hn, fun j hj => ?_⟩
    · have h1 := hlt j hj
      have h2 := hblk j hj
      rw [b6 j (by omega) (by omega), b5 j h1 (fun e => by have := vlt _ j e; omega)]
    · have h1 := hlt j hj
      have h2 := hblk j hj
      refine ⟨.inr ⟨by omega, by omega⟩, by omega, fun h' => ?_⟩
      by_cases e : h' = hashR row
      · rw [if_pos e]
        intro hv
        rcases v'new j hv with h | h
        · have := vlt _ j h; omega
        · omega
      · rw [if_neg e]
        intro hv
        have := vlt _ j hv; omega
  refine ⟨⟨hmap, by rw [List.length_append, List.length_singleton]; exact Nat.succ_le_succ hD.le, .inl hD.mp, fun h => ?_, fun h h' j hne hv => ?_⟩, fun j hj hx => ?_, by omega, hg6.os.trans (hgrow.os.trans hb4.os), hg6.tape.trans (hgrow.tape.trans hb4.tape), hg6.output.trans (hgrow.output.trans hb4.output)⟩
  · rw [filter_snoc]
    by_cases e : h = hashR row
    · subst e
      refine ⟨rs ++ [r'], ?_, fun j hj => ?_, ?_⟩
      · rw [if_pos rfl, List.length_append, List.length_singleton, List.map_append, List.map_singleton]
        exact ownsRow_same (fun j hj => b6 j (v'lt j hj).2 (by have := (v'lt j hj).1; omega)) hown
      · rw [if_pos rfl] at hj
        rcases v'new j hj with h | h
        · exact .inl (hox j h)
        · exact .inr ⟨by omega, by have := (v'lt j hj).2; omega⟩
      · rw [if_pos rfl]
        exact All2.snoc (P := fun q qr => Cont W6 q qr ∧ q.n ≤ 1000 ∧ ∀ j, q.blk j → (Xd j ∨ (M ≤ j ∧ j < W6.heap.size)) ∧ Mp < j ∧ ∀ h', (if h' = hashR row then v' else f h').ownBlock ≠ some j) hnew (hrs.imp old)
    · obtain ⟨rs2, h1, h2, h3⟩ := hD.own h
      refine ⟨rs2, ?_, fun j hj => ?_, ?_⟩
      · rw [if_neg e]
        refine ownsRow_same (fun j hj => ?_) h1
        have l1 := hD.lt h j hj
        have l2 := vlt h j hj
        rw [b6 j (by omega) (by omega), b5 j (by omega) (hD.apart _ _ _ e hj), hb4.block j (by omega)]
      · rw [if_neg e] at hj; exact .inl (h2 j hj)
      · rw [if_neg e]
        exact h3.imp old
  · by_cases e : h = hashR row
    · rw [if_pos e] at hv
      rw [if_neg (fun e' => hne (e.trans e'.symm))]
      intro hv'
      rcases v'new j hv with h1 | h1
      · exact hD.apart _ _ _ (fun e' => hne (e.trans e')) h1 hv'
      · have := vlt _ j hv'; omega
    · rw [if_neg e] at hv
      by_cases e' : h' = hashR row
      · rw [if_pos e']
        intro hv'
        rcases v'new j hv' with h1 | h1
        · exact hD.apart _ _ _ e hv h1
        · have := vlt _ j hv; omega
      · rw [if_neg e']; exact hD.apart _ _ _ hne hv
  · have hm : j ≠ Mp := fun e => hx (e ▸ hD.mp)
    rw [b6 j (by omega) hm, b5 j (by omega) (fun e => hx (hox j e)), hb4.block j hj]
/-- each row once, up to the first error -/
def distL (acc : List (List V3)) : List Pr → List Pr
  | [] => []
  | p :: l => if p.1.2 = 0 then (if acc.any fun s => eqRow s p.2 then distL acc l else p :: distL (acc ++ [p.2]) l) else [((RV.nil, p.1.2), [])]
end Go.Proofs.Ytghpjlohoehdnaa.Sep

/-! sort.Distinct: each row once. No condition beyond those that each theorem names. -/
namespace Go.Proofs.Ytghpjlohoehdnaa.Sep
open Go Go.RowKit Go.Shelf
attribute [local go_sem] Oper.semAt_some
set_option linter.unusedVariables false
set_option linter.unusedSimpArgs false
/-- what Distinct's loop knows -/
def DI (zs : List Pr) (rest : List (List V3) → Nat → List Pr) (J : List (RV × Int) → (Nat → Prop) → World → Prop) (X0 : Nat → Prop) (W0 : World) (Mp : Nat) (pre : List (RV × Int)) (X1 : Nat → Prop) (W1 : World) : Prop :=
  ∃ (out : List Pr) (acc : List (List V3)) (Xo Xd : Nat → Prop), zs = out ++ rest acc pre.length ∧ (∀ j, X1 j ↔ Xo j ∨ Xd j) ∧ (∀ j, Xd j → ¬ Xo j ∧ W0.heap.size ≤ j) ∧ J (out.map Prod.fst) Xo W1 ∧ Gr X0 Xo W0.heap.size W0 W1 ∧ (∃ f n, DF f n Mp acc Xd W1) ∧ acc.length ≤ pre.length
theorem gr_agree {X0 Xo : Nat → Prop} {W0 W W' : World} (h2 : Gr X0 Xo W0.heap.size W0 W) (ha : Agree Xo W0.heap.size W W') : Gr X0 Xo W0.heap.size W0 W' :=
  ⟨ha.os.trans h2.os, ha.tape.trans h2.tape, ha.output.trans h2.output, Nat.le_trans h2.size ha.size, fun j hj hx => (ha.block j (.inr (by omega))).trans (h2.block j hj hx), h2.sub, fun j hj => Nat.lt_of_lt_of_le (h2.lt j hj) ha.size⟩
theorem DI.stable {zs : List Pr} {rest : List (List V3) → Nat → List Pr} {J : List (RV × Int) → (Nat → Prop) → World → Prop} {X0 : Nat → Prop} {W0 : World} {Mp n₀ : Nat} (hJ : Stable W0.heap.size J) (hn : W0.heap.size ≤ n₀) : Stable n₀ (DI zs rest J X0 W0 Mp) := by
  rintro pre X W W' ⟨out, acc, Xo, Xd, h0, h1, h2, h3, h4, ⟨f, n, h5⟩, h6⟩ ha
  have ha' : Agree Xo W0.heap.size W W' := ⟨ha.os, ha.tape, ha.output, ha.size, fun j hj => ha.block j (by rcases hj with h | h; exact .inl ((h1 j).2 (.inl h)); exact .inr (by omega))⟩
  exact ⟨out, acc, Xo, Xd, h0, h1, h2, hJ _ _ _ _ h3 ha', gr_agree h4 ha', ⟨f, n, h5.same ha.size (fun j hj => ha.block j (.inl ((h1 j).2 (.inr hj))))⟩, h6⟩
/-- how Distinct's loop is left ahead of its end -/
def DX (zs : List Pr) (J Jx : List (RV × Int) → (Nat → Prop) → World → Prop) (X0 : Nat → Prop) (W0 : World) (c : Code) (pre : List (RV × Int)) (X' : Nat → Prop) (W' : World) : Prop :=
  c = .ret ∧ ∃ Xo, (∀ j, Xo j → X' j) ∧ Gr X0 Xo W0.heap.size W0 W' ∧ (J (zs.map Prod.fst) Xo W' ∨ ∃ q, q <+: zs.map Prod.fst ∧ Jx q Xo W')
theorem DX.stable {zs : List Pr} {J Jx : List (RV × Int) → (Nat → Prop) → World → Prop} {X0 : Nat → Prop} {W0 : World} {n₀ : Nat} (hJ : Stable W0.heap.size J) (hJx : Stable W0.heap.size Jx) (hn : W0.heap.size ≤ n₀) (c : Code) : Stable n₀ (DX zs J Jx X0 W0 c) := by
  rintro pre X' A B ⟨h1, Xo, h2, h3, h4⟩ ha
  have ha' : Agree Xo W0.heap.size A B := ⟨ha.os, ha.tape, ha.output, ha.size, fun j hj => ha.block j (by rcases hj with h | h; exact .inl (h2 j h); exact .inr (by omega))⟩
  refine ⟨h1, Xo, h2, gr_agree h3 ha', ?_⟩
  rcases h4 with h | ⟨q, hq, h⟩
  · exact .inl (hJ _ _ _ _ h ha')
  · exact .inr ⟨q, hq, hJx _ _ _ _ h ha'⟩
theorem contains56 (ra : Option Addr) (rn rc B : Nat) (sv : Value) (rows : List (List V3)) (sr : List V3) (W : World) (hk : rows.length ≤ 100000) (hB : W.cell? ⟨B, 0, none⟩ = some (.slice ra rn rc)) (hl : Own1 W sv rows) (h2 : Cont W ⟨ra, rn, rc⟩ sr) :
    Calls Try.prog 55 #[sv, .func (.func 56) #[] #[.pointer (some ⟨B, 0, none⟩)]] W fun e W' => e = .returned (.bool (rows.any (fun s => eqRow s sr))) ∧ Below W.heap.size W W' := by
  rcases hl with ⟨a0, c0, rfl, rfl⟩ | ⟨b, off, c, rs, rfl, hb, hcs, hrows⟩
  · exact (contains_nil a0 c0 B W).mono (by rintro e w ⟨rfl, rfl⟩; exact ⟨rfl, Below.refl _ _⟩)
  · refine (contains_some b off c rs rows ra rn rc B sr W (by rw [hrows.len]; exact hk) hcs hrows hB h2).mono ?_
    rintro e w ⟨rfl, h1, h2, h3, h4⟩
    exact ⟨rfl, h2, h3, h4, by rw [h1]; exact Nat.le_refl _, fun j hj => by rw [h1]⟩
theorem below_new {W : World} (o : Obj) : Below W.heap.size W (W.alloc o) := (Below.refl _ W).alloc (Nat.le_refl _) o
/-- Distinct's map ahead of the store -/
def DMid (f : Int → Value) (m Mp : Nat) (hs : Int) (Bs : Nat) (Fin : World → Prop) (v' : Value) (w : World) : Prop :=
  w.cell? ⟨Bs, 0, none⟩ = some (.map (some Mp)) ∧ MapF w Mp m f ∧ ∀ w6, MapF w6 Mp (m + 1) (fun j => if j = hs then v' else f j) → w.grownBy w6 (some Mp) → w6.heap.size = w.heap.size → Fin w6
/-- region 15 of Distinct's round: its slots as far as they are reckoned, and its world -/
def DSt (L : List Value) (W5 : World) (f : Int → Value) (m Mp : Nat) (hs : Int) (ra : Option Addr) (k rc : Nat) (row : List V3) (Fin : World → Prop) (d : Nat → Bool) (a : Act) (w : World) : Prop :=
  ∃ x46 x47 x48 x49 x50 x51 x52 x53 x54 : Value, a = { tmps := (L ++ [x46, x47, x48, x49, x50, x51, x52, x53, x54, undef, undef, undef, undef]).toArray, defers := [] } ∧
    (d 0 = true → x46 = .map (some Mp)) ∧
    (d 1 = true → x47 = .int .i64 hs) ∧
    (d 2 = true → x48 = .map (some Mp)) ∧
    (d 3 = true → x49 = .int .i64 hs) ∧
    (d 4 = true → x50 = f hs) ∧
    (d 5 = true → x51 = .slice ra k rc) ∧
    (d 8 = false → Below W5.heap.size W5 w) ∧
    (d 6 = true → d 7 = false → ∃ r' : RV, x52 = r'.v ∧ Cont w r' row ∧ (∀ j, r'.blk j → W5.heap.size ≤ j) ∧ r'.n = row.length) ∧
    (d 7 = true → d 8 = false → ∃ (r' : RV) (g : Nat), x53 = .slice (some ⟨g, 0, none⟩) 1 1 ∧ w.cell? ⟨g, 0, none⟩ = some r'.v ∧ Cont w r' row ∧ (∀ j, r'.blk j → W5.heap.size ≤ j) ∧ r'.n = row.length) ∧
    (d 8 = true → d 9 = false → DMid f m Mp hs (Mp + 1) Fin x54 w) ∧
    (d 9 = true → Fin w)
/-- what is done there has all done that it waits for -/
def DCl (d : Nat → Bool) : Prop := (d 4 = true → d 2 = true ∧ d 3 = true) ∧ (d 6 = true → d 5 = true) ∧ (d 7 = true → d 6 = true) ∧ (d 8 = true → d 4 = true ∧ d 7 = true) ∧ (d 9 = true → (d 0 = true ∧ d 1 = true) ∧ d 8 = true)
/-- what holds behind the store -/
def DFin (Mp M : Nat) (acc : List (List V3)) (Xd : Nat → Prop) (W5 w6 : World) : Prop :=
  (∃ f' n', DF f' n' Mp acc (fun j => Xd j ∨ (M ≤ j ∧ j < w6.heap.size)) w6) ∧ (∀ j, j < W5.heap.size → ¬ Xd j → w6.heap[j]? = W5.heap[j]?) ∧ W5.heap.size ≤ w6.heap.size ∧ w6.os = W5.os ∧ w6.tape = W5.tape ∧ w6.output = W5.output
theorem infoR2 : (Try.prog.info? 48).map (fun i => (i.zero, i.size, i.bytes)) = some (some (.slice none 0 0), 1, 24) := by kernel_rfl
/-- the append of a clone to the list of its key -/
theorem dist_push {f : Int → Value} {m Mp M : Nat} {acc : List (List V3)} {Xd : Nat → Prop} {W5 : World} {row : List V3} {hs : Int} {k : Nat} (hD5 : DF f m Mp acc Xd W5) (hXdM : ∀ j, Xd j → j < M) (hM : M ≤ W5.heap.size) (hrl : row.length = k) (hk : k ≤ 1000)
    (hacc : acc.length ≤ 100000) (hhs : hashR row = hs) (cM5 : W5.cell? ⟨Mp + 1, 0, none⟩ = some (.map (some Mp))) (hXd' : ¬ Xd (Mp + 1)) (w : World) (r' : RV) (g : Nat) (hlow : Below W5.heap.size W5 w) (hg1 : w.cell? ⟨g, 0, none⟩ = some r'.v) (hr1 : Cont w r' row)
    (hr2 : ∀ j, r'.blk j → W5.heap.size ≤ j) (hr3 : r'.n = row.length) :
    ∃ v' w5, (Builtin.append_ #[22, 22] 22 #[f hs, .slice (some ⟨g, 0, none⟩) 1 1]).run Try.prog w = .ok v' w5 ∧ DMid f m Mp hs (Mp + 1) (DFin Mp M (acc ++ [row]) Xd W5) v' w5 := by
  subst hhs
  obtain ⟨i0, hi, hz0, hz1, hz2⟩ := info_parts infoR2
  obtain ⟨rs, o1, o2, o3⟩ := hD5.own (hashR row)
  have hfl : (acc.filter fun s => hashR s == hashR row).length ≤ acc.length := List.length_filter_le _ _
  have hrsl : rs.length ≤ acc.length := by rw [o3.len]; exact hfl
  have ow : w.ownsRow (Mp + 1) 48 1 (f (hashR row)) rs.length (rs.map RV.v) := ownsRow_same (fun j hj => hlow.block j (hD5.lt _ j hj).2) o1
  have hMpl := hD5.map.lt
  obtain ⟨v', w5, hr, h2, h3, h4, h5⟩ := run_append_own_at (P := Try.prog) w (Mp + 1) 22 22 48 i0 (.slice none 0 0) 1 24 Try.underlying22 hi hz0 hz1 hz2 rfl (by decide) (f (hashR row)) rs.length (rs.map RV.v) ow ⟨g, 0, none⟩ 1 1 [r'.v] rfl
    (fun j u hj => by
      cases j with
      | zero => simp at hj; subst hj; exact hg1
      | succ j => simp at hj) (fun u hu => by simp at hu; subst hu; rfl) (by unfold maxLen; omega) (by omega) (by have := hlow.size; omega)
  have fne : ∀ j, (f (hashR row)).ownBlock = some j → j ≠ Mp ∧ Xd j := fun j hj => ⟨by have := (hD5.lt _ j hj).1; omega, o2 j hj⟩
  refine ⟨v', w5, hr, ?_, ?_, ?_⟩
  · refine (cell_of_block ((h3.block (Mp + 1) (by have := cell_lt cM5; have := hlow.size; dsimp only at *; omega) (fun e => hXd' ((fne _ e.symm).2))).trans (hlow.block (Mp + 1) (cell_lt cM5))) 0).trans cM5
  · exact hD5.map.kept ((h3.block Mp (by have := hlow.size; omega) (fun e => (fne _ e.symm).1 rfl)).trans (hlow.block Mp hMpl))
  · intro w6 q1 q2 q3
    obtain ⟨p1, p2, p3, p4, p5, p6⟩ := hD5.push hM hXdM hlow hr1 (by omega) hr2 o3 o2 (by simpa using h2) h3 h5 q1 q2 q3
    exact ⟨⟨_, _, p1⟩, p2, p3, p4, p5, p6⟩
set_option maxRecDepth 100000 in
set_option maxHeartbeats 4000000 in
theorem dist1_in (n : Nat) (hn : 6 ≤ n) (l A : Nat) (ga : FuncId) (la : Array Value) (pa : List Pr) (Ra : Nat → Prop)
    (J Jx : List (RV × Int) → (Nat → Prop) → World → Prop) (X : Nat → Prop) (W : World) (hX : ∀ j, X j → j < W.heap.size) (hJ : Stable W.heap.size J) (hJx : Stable W.heap.size Jx)
    (hA : A < W.heap.size) (hca : W.cell? ⟨A, 0, none⟩ = some (.func (.func ga) #[] la)) (hla : pa.length ≤ 100000)
    (ega : ∀ args w, (callFunc ga args).run Try.prog w = .ok (.enter ga args) w) (hqa : ∀ n, Seq Fence.wide n Try.prog ga la enc (pa.map Prod.fst) Ra W) (hRa : ∀ j, Ra j → j < W.heap.size ∧ ¬ X j)
    (hrows : ∀ p ∈ pa, p.1.2 = 0 → Cont W p.1.1 p.2 ∧ p.1.1.n ≤ 1000 ∧ ∀ j, p.1.1.blk j → Ra j)
    (hY : ∀ pre x X1 W1, (pre ++ [x]) <+: (distL [] pa).map Prod.fst → J pre X1 W1 → Gr X X1 W.heap.size W W1 → YieldAt Fence.wide (n - 1) Try.prog l (enc x) W1 fun e W' =>
      ∃ X', Gr X1 X' W1.heap.size W1 W' ∧ ((e = .returned (.bool true) ∧ J (pre ++ [x]) X' W') ∨ (e = .returned (.bool false) ∧ Jx (pre ++ [x]) X' W')))
    (h0 : J [] X W) :
    CallsIn Fence.wide n Try.prog 54 #[.func (.yield l) #[] #[], .pointer (some ⟨A, 0, none⟩)] W fun e W' => (∃ v, e = .returned v) ∧
      ∃ X', Gr X X' W.heap.size W W' ∧ (J ((distL [] pa).map Prod.fst) X' W' ∨ ∃ pre, pre <+: (distL [] pa).map Prod.fst ∧ Jx pre X' W') := by
  have hro : Fence.wide.round = none := rfl
  have hmx : Try.prog.follows .mixedOrders = true := by kernel_rfl
  have h1 : 1 ≤ n := by omega
  have hfn : ∀ (w : World) (g : FuncId) (lb : Array Value), (binOp .eql 31 (.func (.func g) #[] lb) .nilFunc).run Try.prog w = .ok (.bool false) w := fun _ _ _ => rfl
  have hcaA := fun o => (cell_of_block ((below_new (W := W) o).block A hA) 0).trans hca
  refine callsIn_of_wp_marks Try.func54 rfl trivial ?_ hro
  simp only [Try.ntmps54, List.size_toArray, List.length_cons, List.length_nil, Nat.reduceAdd, Nat.reduceSub, Array.replicate_succ, Array.replicate_zero, List.push_toArray, List.append_toArray, List.nil_append, List.cons_append]
  have hmm := @run_makeMap Try.prog
  gi_upto_region 3 with fail
  clear hmm hcaA
  have b0 := ((Boxed.new W 72 (.func (.yield l) #[] #[])).alloc (.map #[] 0)).alloc (.cells #[.map (some (W.heap.size + 1))] 82)
  have b2 := Boxed.new ((W.alloc (.cells #[.func (.yield l) #[] #[]] 72)).alloc (.map #[] 0)) 82 (.map (some (W.heap.size + 1)))
  have hD := (DF.made (W.alloc (.cells #[.func (.yield l) #[] #[]] 72))).same (W' := ((W.alloc (.cells #[.func (.yield l) #[] #[]] 72)).alloc (.map #[] 0)).alloc (.cells #[.map (some (W.heap.size + 1))] 82)) (by simp) (fun j hj => by subst hj; exact Below.heap_alloc _ _ _ (by simp))
  have hby : Below W.heap.size W (((W.alloc (.cells #[.func (.yield l) #[] #[]] 72)).alloc (.map #[] 0)).alloc (.cells #[.map (some (W.heap.size + 1))] 82)) := (((Below.refl _ W).alloc (Nat.le_refl _) _).alloc (by simp) _).alloc (by simp; omega) _
  have hsz : (((W.alloc (.cells #[.func (.yield l) #[] #[]] 72)).alloc (.map #[] 0)).alloc (.cells #[.map (some (W.heap.size + 1))] 82)).heap.size = W.heap.size + 3 := by simp
  simp only [World.size_alloc] at b2 hD
  generalize ((W.alloc (.cells #[.func (.yield l) #[] #[]] 72)).alloc (.map #[] 0)).alloc (.cells #[.map (some (W.heap.size + 1))] 82) = Wy at b0 b2 hD hby hsz ⊢
  have cYy := Boxed.cell b0
  have cMy := Boxed.cell b2
  have hcay := (cell_of_block (hby.block A hA) 0).trans hca
  have hszl : W.heap.size + 3 ≤ Wy.heap.size := Nat.le_of_eq hsz.symm
  clear b0 b2 hsz
  obtain ⟨Mp, hMp⟩ : ∃ Mp, Mp = W.heap.size + 1 := ⟨_, rfl⟩
  rw [← hMp] at hD cMy
  have hMp1 : W.heap.size < Mp := by omega
  have hMp2 : Mp + 1 < Wy.heap.size := by omega
  gi_wp2
  rw [← hMp]
  clear hMp
  refine wpIn_rangeFunc_sep hro h1 (gf := ga) (lb := la) rfl trivial ega (hqa (n - 1)) (fun _ => rfl) (fun j => X j ∨ j = Mp) hby.size (fun j hj => ⟨(hRa j hj).1, (fun h => h.elim (hRa j hj).2 (fun e => by have := (hRa j hj).1; omega)), hby.block j (hRa j hj).1⟩)
    (fun j hj => hj.elim (fun h => Nat.lt_of_lt_of_le (hX j h) hby.size) (fun e => by omega))
    (DI (distL [] pa) (fun acc k => distL acc (pa.drop k)) J X W Mp) (DX (distL [] pa) J Jx X W) (DI.stable hJ hby.size) (DX.stable hJ hJx hby.size) ?start ?round ?done ?stop
  case start => exact ⟨[], [], X, fun j => j = Mp, rfl, fun _ => Iff.rfl, fun j hj => ⟨fun h => by have := hX j h; omega, by omega⟩, hJ _ _ _ _ h0 (below_agree hX hby), below_gr hX hby, ⟨_, _, hD⟩, Nat.le_refl _⟩
  case round =>
    rintro lab pre ⟨⟨ra, rn, rc⟩, e⟩ X1 Wa hl hpre ⟨out, acc, Xo, Xd, b1, hXX, hXd, b2, b3, ⟨f, m, hdf⟩, hacc⟩ hg hXl hlt
    obtain ⟨row, hdrop, hmem⟩ := drop_at hpre
    have b1' : Aside (distL [] pa = out ++ distL acc (pa.drop pre.length)) := b1
    have hdrop' : Aside (pa.drop pre.length = ((⟨ra, rn, rc⟩, e), row) :: pa.drop (pre.length + 1)) := hdrop
    have hl2 : Wy.heap.size < lab := by omega
    have hplen : pre.length < pa.length := by have := hpre.length_le; simp at this; omega
    clear b1 hdrop hl
    gi_wp2
    refine ⟨fun j hj _ => Below.heap_alloc _ _ _ hj, by simp, rfl, rfl, rfl, ?_⟩
    intro W3 z1 z2 z3 z4 z5
    have hz3 : W3.heap.size = Wa.heap.size + 1 := by rw [z1]; simp
    have hza : Wa.heap.size ≤ W3.heap.size := by omega
    have hga : ∀ j, j < Wa.heap.size → j ≠ lab → W3.heap[j]? = Wa.heap[j]? := fun j hj hn => (z5 j hn).trans (Below.heap_alloc _ _ _ hj)
    have cR3 : Boxed W3 Wa.heap.size 48 (.slice ra rn rc) := boxed_same (z5 _ (by omega)) (Boxed.new Wa 48 (.slice ra rn rc))
    replace z2 : W3.os = Wa.os := z2
    replace z3 : W3.tape = Wa.tape := z3
    replace z4 : W3.output = Wa.output := z4
    clear z1 z5
    have hXol : ¬ Xo lab := fun h => hXl ((hXX _).2 (.inl h))
    have hXdl : ¬ Xd lab := fun h => hXl ((hXX _).2 (.inr h))
    have hXlta : ∀ j, Xo j ∨ Xd j → j < Wa.heap.size := fun j hj => hg.lt j ((hXX j).2 hj)
    have hag3 : Agree Xo W.heap.size Wa W3 := ⟨z2, z3, z4, hza, fun j hj => hga j (by rcases hj with h | h; exact hXlta j (.inl h); have := b3.size; omega) (by rintro rfl; rcases hj with h | h; exact hXol h; have := hby.size; omega)⟩
    have hJ3 := hJ _ _ _ _ b2 hag3
    have hg3 := gr_agree b3 hag3
    have hD3 := hdf.same hza (fun j hj => hga j (hXlta j (.inr hj)) (fun e => hXdl (e ▸ hj)))
    have hgy : ∀ j, j < Wy.heap.size → ¬ X j → j ≠ Mp → W3.heap[j]? = Wy.heap[j]? := fun j hj hx hm => (hga j (by have := hg.size; omega) (by omega)).trans (hg.block j hj (fun h => h.elim hx hm))
    have nX : ∀ j, W.heap.size ≤ j → ¬ X j := fun j hj hx => by have := hX j hx; omega
    have cY3 := (cell_of_block (hgy W.heap.size (by omega) (nX _ (Nat.le_refl _)) (by omega)) 0).trans cYy
    have cM3 := (cell_of_block (hgy (Mp + 1) (by omega) (nX _ (by omega)) (by omega)) 0).trans cMy
    have b1 := b1'.out
    rw [hdrop'.out] at b1
    by_cases he : e = 0
    · subst he
      obtain ⟨r1, r2, r3⟩ := hrows _ hmem rfl
      have hC3 : Cont W3 ⟨ra, rn, rc⟩ row := r1.same hg3.size (fun j hj => hg3.block j (hRa j (r3 j hj)).1 (hRa j (r3 j hj)).2)
      have hrn : rn ≤ 1000 := r2
      have hrl : Aside (row.length = rn) := by
        exact r1.len
      clear b1 r1 r2 r3
      have cR3c := cR3.cell
      gi_wp2
      gi_loopw [24, 6] (fun i hh wr => ∃ k, k ≤ rn ∧ i = .int .i64 k ∧ hh = .int .i64 ((row.take k).foldl hashV rn) ∧ Below W3.heap.size W3 wr) (fun i _ _ => rn - (intOf i).toNat)
      case atStart => exact ⟨0, Nat.zero_le _, rfl, rfl, Below.refl _ _⟩
      case round =>
        obtain ⟨k, hk, rfl, rfl, hbw⟩ := hrel
        by_cases hlt2 : k < rn
        · obtain ⟨v, hv⟩ : ∃ v, row[k]? = some v := ⟨row[k]'(by rw [hrl.out]; exact hlt2), List.getElem?_eq_getElem _⟩
          have hst0 : (row.take (k + 1)).foldl hashV (rn : Int) = hashV ((row.take k).foldl hashV rn) v := by rw [List.take_add_one, hv]; simp
          have hst : Aside ((row.take (k + 1)).foldl hashV (rn : Int) = hashV ((row.take k).foldl hashV rn) v) := hst0
          clear hst0
          rcases hC3.below hbw with ⟨h, _⟩ | ⟨b, off, hae, _, _, hcs⟩
          · have : rn = 0 := h
            omega
          · replace hae : ra = some ⟨b, off, none⟩ := hae
            subst hae
            obtain ⟨f1, f2, f3⟩ := flat_at row k v hv
            have x1 := hcs _ _ f1
            have x2 := hcs _ _ f2
            have x3 := hcs _ _ f3
            rw [Nat.mul_comm 3 k] at x1 x2 x3
            rw [← Nat.add_assoc] at x2 x3
            clear hv f1 f2 f3 hcs
            generalize hacc' : List.foldl hashV (rn : Int) (List.take k row) = hh at hst ⊢
            clear hacc'
            gi_wp2
            go_roundw
            case rel => exact ⟨k + 1, by omega, by simp, by rw [hst.out]; rfl, hbw.alloc hbw.size _⟩
            case measure => simp [intOf]; omega
        · obtain rfl : k = rn := by omega
          have hh : (row.take k).foldl hashV (k : Int) = hashR row := by rw [List.take_of_length_le (Nat.le_of_eq hrl.out), ← hrl.out]; rfl
          rw [hh]
          clear hh
          obtain ⟨hs, hhs⟩ : ∃ hs, hashR row = hs := ⟨_, rfl⟩
          have hwf : (Lit.int .i64 hs).wf = true := by rw [← hhs]; exact hashR_wf row (by rw [hrl.out]; omega)
          rw [hhs]
          have hCw := hC3.below hbw
          have hDw := hD3.same hbw.size (fun j hj => hbw.block j (Nat.lt_of_lt_of_le (hXlta j (.inr hj)) hza))
          have hlook := hDw.map.look hs hwf
          have hown := hDw.list hs
          have cRw := (cell_of_block (hbw.block Wa.heap.size (by omega)) 0).trans cR3.cell
          have cMw := (cell_of_block (hbw.block (Mp + 1) (cell_lt cM3)) 0).trans cM3
          have hany := any_hash acc row
          rw [hhs] at hany
          have hcon := contains56 ra k rc Wa.heap.size (f hs) _ row wr (Nat.le_trans (List.length_filter_le _ _) (by omega)) cRw hown hCw
          rw [hany] at hcon
          obtain ⟨t, htt⟩ : ∃ t, (acc.any fun s => eqRow s row) = t := ⟨_, rfl⟩
          rw [htt] at hcon
          clear hany hown
          have htA : Aside ((acc.any fun s => eqRow s row) = t) := htt
          have hhA : Aside (hashR row = hs) := hhs
          clear htt hhs
          cases t with
          | true =>
            gi_wp2_with (refine ⟨trivial, (fun h => by cases h), ?_⟩; gi_at_call 55; refine (CallsIn.inRound _ (callsIn_wide.2 hcon)).mono ?_; rintro e5 W5 ⟨rfl, hb5⟩)
            have hb5' := below_step hbw hb5 hbw.size
            have hag5 : Agree Xo W.heap.size W3 W5 := ⟨hb5'.os, hb5'.tape, hb5'.output, hb5'.size, fun j hj => hb5'.block j (by rcases hj with h | h; exact Nat.lt_of_lt_of_le (hXlta j (.inl h)) hza; exact Nat.lt_of_lt_of_le h hg3.size)⟩
            refine ⟨X1, ⟨hb5'.os, hb5'.tape, hb5'.output, hb5'.size, fun j hj _ => hb5'.block j (Nat.lt_of_lt_of_le hj hza), fun j hj => .inl hj, fun j hj => Nat.lt_of_lt_of_le (hg.lt j hj) (Nat.le_trans hza hb5'.size)⟩, out, acc, Xo, Xd, ?_, hXX, hXd, hJ _ _ _ _ hJ3 hag5, gr_agree hg3 hag5, ⟨f, m, hD3.same hb5'.size (fun j hj => hb5'.block j (Nat.lt_of_lt_of_le (hXlta j (.inr hj)) hza))⟩, by rw [List.length_append]; omega⟩
            have b1 := b1'.out
            rw [hdrop'.out, distL, if_pos rfl, if_pos htA.out] at b1
            rw [b1, List.length_append]; rfl
          | false =>
            gi_upto_region 15 with (refine ⟨trivial, (fun h => by cases h), ?_⟩; gi_at_call 55; refine (CallsIn.inRound _ (callsIn_wide.2 hcon)).mono ?_; rintro e5 W5 ⟨rfl, hb5⟩)
            have hXdS : ∀ j, Xd j → j = Mp ∨ Wy.heap.size ≤ j := fun j h => (hg.sub j ((hXX j).2 (.inr h))).elim (fun q => q.elim (fun q => by have := hX j q; have := (hXd j h).2; omega) .inl) .inr
            have hXd' : ¬ Xd (Mp + 1) := fun h => by rcases hXdS _ h with h | h <;> omega
            have hb5' := below_step hbw hb5 hbw.size
            have hD5 := hDw.same hb5.size (fun j hj => hb5.block j (by have := hXlta j (.inr hj); have := hbw.size; omega))
            have hC5 := hCw.below hb5
            have cR5 := (cell_of_block (hb5.block Wa.heap.size (cell_lt cRw)) 0).trans cRw
            have cM5 := (cell_of_block (hb5.block (Mp + 1) (cell_lt cMw)) 0).trans cMw
            have hLo : ∀ (B : Nat) (v : Value), W5.cell? ⟨B, 0, none⟩ = some v → ∀ w, Below W5.heap.size W5 w → w.cell? ⟨B, 0, none⟩ = some v := fun B v hv w hb => (cell_of_block (hb.block B (cell_lt hv)) 0).trans hv
            have hsz5 : Wa.heap.size < W5.heap.size := by have := hb5'.size; omega
            have hXdM : ∀ j, Xd j → j < Wa.heap.size := fun j hj => hXlta j (.inr hj)
            have hmle : m ≤ acc.length := hD5.le
            have hpush : ∀ (w : World) (r' : RV) (g : Nat), Below W5.heap.size W5 w → w.cell? ⟨g, 0, none⟩ = some r'.v → Cont w r' row → (∀ j, r'.blk j → W5.heap.size ≤ j) → r'.n = row.length →
                ∃ v' w5, (Builtin.append_ #[22, 22] 22 #[f hs, .slice (some ⟨g, 0, none⟩) 1 1]).run Try.prog w = .ok v' w5 ∧ DMid f m Mp hs (Mp + 1) (DFin Mp Wa.heap.size (acc ++ [row]) Xd W5) v' w5 := by
              intro w r' g hlow hg1 hr1 hr2 hr3
              exact dist_push hD5 hXdM (by omega) hrl.out (by omega) (by omega) hhA.out cM5 hXd' w r' g hlow hg1 hr1 hr2 hr3
            refine wpIn_region_inv hmx (by kernel_rfl) DCl ?hcl (DSt [Value.func (Fn.yield l) #[] #[], Value.pointer (some { block := A, off := 0 }), Value.pointer (some { block := W.heap.size, off := 0 }), Value.pointer (some { block := Mp + 1, off := 0 }), Value.pointer (some { block := Wa.heap.size, off := 0 }), Value.int IntKind.i64 0, Value.int IntKind.i64 hs, undef, u8, Value.func (Fn.func ga) #[] la, Value.bool false, Value.map (some Mp), Value.func (Fn.func ga) #[] la, Value.slice ra k rc, Value.int IntKind.i64 0, Value.int IntKind.i64 0, Value.bool false, undef, undef, undef, Value.slice ra k rc, Value.int IntKind.i64 ↑k, Value.slice ra k rc, Value.int IntKind.i64 ↑k, Value.int IntKind.i64 ↑k, Value.bool false, u26, u27, u28, u29, u30, u31, u32, u33, u34, u35, u36, u37, u38, u39, u40, Value.map (some Mp), Value.int IntKind.i64 hs, f hs, Value.func (Fn.func 56) #[] #[Value.pointer (some { block := Wa.heap.size, off := 0 })], Value.bool false] W5 f m Mp hs ra k rc row (DFin Mp Wa.heap.size (acc ++ [row]) Xd W5)) ?hst ?hops ?hend
            case hcl =>
              intro d h
              have mm : ∀ (i : Nat) (o : Oper) (e : Edge), _ → d i = true → e ∈ o.after → Region.binds .any e = true → d e.on = true := fun i o e ho hd he hb => h i o ho hd e he hb
              exact ⟨fun q => ⟨mm 4 _ ⟨2, .data⟩ rfl q (by simp) rfl, mm 4 _ ⟨3, .data⟩ rfl q (by simp) rfl⟩, fun q => mm 6 _ ⟨5, .data⟩ rfl q (by simp) rfl, fun q => mm 7 _ ⟨6, .data⟩ rfl q (by simp) rfl, fun q => ⟨mm 8 _ ⟨4, .data⟩ rfl q (by simp) rfl, mm 8 _ ⟨7, .data⟩ rfl q (by simp) rfl⟩, fun q => ⟨⟨mm 9 _ ⟨0, .data⟩ rfl q (by simp) rfl, mm 9 _ ⟨1, .data⟩ rfl q (by simp) rfl⟩, mm 9 _ ⟨8, .data⟩ rfl q (by simp) rfl⟩⟩
            case hst => exact ⟨undef, undef, undef, undef, undef, undef, undef, undef, undef, rfl, nofun, nofun, nofun, nofun, nofun, nofun, fun _ => ⟨rfl, rfl, rfl, Nat.le_refl _, fun _ _ => rfl⟩, nofun, nofun, nofun, nofun⟩
            case hops =>
              refine ⟨?_, ?_, ?_, ?_, ?_, ?_, ?_, ?_, ?_, ?_, trivial⟩
              · rintro d a w hd hc hc2 ⟨x46, x47, x48, x49, x50, x51, x52, x53, x54, rfl, h0, h1, h2, h3, h4, h5, hw, h6, h7, h8, h9⟩ K hK
                have hcell : w.cell? ⟨Mp + 1, 0, none⟩ = some (.map (some Mp)) := by
                  cases q : d 8 with
                  | false => exact hLo _ _ cM5 w (hw q)
                  | true =>
                    have d9 : d 9 = false := by cases q : d 9 with | false => rfl | true => exact absurd (hc.2.2.2.2 q).1.1 (by rw [hd]; decide)
                    exact (h8 q d9).1
                refine if_intro (by rfl) ?_
                go_simp
                exact hK _ _ ⟨_, x47, x48, x49, x50, x51, x52, x53, x54, rfl, fun _ => rfl, h1, h2, h3, h4, h5, hw, h6, h7, h8, h9⟩
              · rintro d a w hd hc hc2 ⟨x46, x47, x48, x49, x50, x51, x52, x53, x54, rfl, h0, h1, h2, h3, h4, h5, hw, h6, h7, h8, h9⟩ K hK
                refine if_intro (by rfl) ?_
                go_simp
                exact hK _ _ ⟨x46, _, x48, x49, x50, x51, x52, x53, x54, rfl, h0, fun _ => rfl, h2, h3, h4, h5, hw, h6, h7, h8, h9⟩
              · rintro d a w hd hc hc2 ⟨x46, x47, x48, x49, x50, x51, x52, x53, x54, rfl, h0, h1, h2, h3, h4, h5, hw, h6, h7, h8, h9⟩ K hK
                have d8 : d 8 = false := by cases q : d 8 with | false => rfl | true => exact absurd (hc.1 (hc.2.2.2.1 q).1).1 (by rw [hd]; decide)
                have hcell := hLo _ _ cM5 w (hw d8)
                refine if_intro (by rfl) ?_
                go_simp
                exact hK _ _ ⟨x46, x47, _, x49, x50, x51, x52, x53, x54, rfl, h0, h1, fun _ => rfl, h3, h4, h5, hw, h6, h7, h8, h9⟩
              · rintro d a w hd hc hc2 ⟨x46, x47, x48, x49, x50, x51, x52, x53, x54, rfl, h0, h1, h2, h3, h4, h5, hw, h6, h7, h8, h9⟩ K hK
                refine if_intro (by rfl) ?_
                go_simp
                exact hK _ _ ⟨x46, x47, x48, _, x50, x51, x52, x53, x54, rfl, h0, h1, h2, fun _ => rfl, h4, h5, hw, h6, h7, h8, h9⟩
              · rintro d a w hd hc hc2 ⟨x46, x47, x48, x49, x50, x51, x52, x53, x54, rfl, h0, h1, h2, h3, h4, h5, hw, h6, h7, h8, h9⟩ K hK
                have d8 : d 8 = false := by cases q : d 8 with | false => rfl | true => exact absurd (hc.2.2.2.1 q).1 (by rw [hd]; decide)
                have hlk := (hD5.map.kept ((hw d8).block Mp hD5.map.lt)).look hs hwf
                obtain rfl := h2 (hc2.1 rfl).1
                obtain rfl := h3 (hc2.1 rfl).2
                refine if_intro (by rfl) ?_
                go_simp
                exact hK _ _ ⟨x46, x47, _, _, _, x51, x52, x53, x54, rfl, h0, h1, h2, h3, fun _ => rfl, h5, hw, h6, h7, h8, h9⟩
              · rintro d a w hd hc hc2 ⟨x46, x47, x48, x49, x50, x51, x52, x53, x54, rfl, h0, h1, h2, h3, h4, h5, hw, h6, h7, h8, h9⟩ K hK
                have d8 : d 8 = false := by cases q : d 8 with | false => rfl | true => exact absurd (hc.2.1 (hc.2.2.1 (hc.2.2.2.1 q).2)) (by rw [hd]; decide)
                have hcell := hLo _ _ cR5 w (hw d8)
                refine if_intro (by rfl) ?_
                go_simp
                exact hK _ _ ⟨x46, x47, x48, x49, x50, _, x52, x53, x54, rfl, h0, h1, h2, h3, h4, fun _ => rfl, hw, h6, h7, h8, h9⟩
              · rintro d a w hd hc hc2 ⟨x46, x47, x48, x49, x50, x51, x52, x53, x54, rfl, h0, h1, h2, h3, h4, h5, hw, h6, h7, h8, h9⟩ K hK
                have d8 : d 8 = false := by cases q : d 8 with | false => rfl | true => exact absurd (hc.2.2.1 (hc.2.2.2.1 q).2) (by rw [hd]; decide)
                have d7 : d 7 = false := by cases q : d 7 with | false => rfl | true => exact absurd (hc.2.2.1 q) (by rw [hd]; decide)
                obtain rfl := h5 (hc2.2.1 rfl)
                have hlow := hw d8
                refine if_intro (by rfl) ?_
                go_simp
                refine ⟨trivial, (fun h => by cases h), ?_⟩
                refine (CallsIn.inRound _ (callsIn_wide.2 (clone_ok ⟨ra, k, rc⟩ row w (hC5.below hlow) (by dsimp only; omega)))).mono ?_
                rintro e6 w6 ⟨r', rfl, hr1, hr2, hr3, hr4⟩
                exact hK _ _ ⟨x46, x47, x48, x49, x50, _, _, x53, x54, rfl, h0, h1, h2, h3, h4, h5, fun _ => below_step hlow hr4 hlow.size, fun _ _ => ⟨r', rfl, hr1, fun j hj => Nat.le_trans hlow.size (hr2 j hj), hr3⟩, fun q => absurd q (by change ¬ (d 7 = true); rw [d7]; decide), fun q => absurd q (by change ¬ (d 8 = true); rw [d8]; decide), fun q => absurd (hc.2.2.2.2 q).2 (by rw [d8]; decide)⟩
              · rintro d a w hd hc hc2 ⟨x46, x47, x48, x49, x50, x51, x52, x53, x54, rfl, h0, h1, h2, h3, h4, h5, hw, h6, h7, h8, h9⟩ K hK
                have d8 : d 8 = false := by cases q : d 8 with | false => rfl | true => exact absurd (hc.2.2.2.1 q).2 (by rw [hd]; decide)
                obtain ⟨⟨qa, qn, qc⟩, rfl, hr1, hr2, hr3⟩ := h6 (hc2.2.2.1 rfl) hd
                have hlow := hw d8
                dsimp only [RV.v]
                refine if_intro (by rfl) ?_
                go_simp
                exact hK _ _ ⟨x46, x47, x48, x49, x50, x51, _, _, x54, rfl, h0, h1, h2, h3, h4, h5, fun _ => hlow.alloc hlow.size _, fun _ q => Bool.noConfusion q, fun _ _ => ⟨⟨qa, qn, qc⟩, w.heap.size, rfl, Boxed.cell (Boxed.new w 48 (.slice qa qn qc)), hr1.below (below_new _), hr2, hr3⟩, fun q => absurd q (by change ¬ (d 8 = true); rw [d8]; decide), fun q => absurd (hc.2.2.2.2 q).2 (by rw [d8]; decide)⟩
              · rintro d a w hd hc hc2 ⟨x46, x47, x48, x49, x50, x51, x52, x53, x54, rfl, h0, h1, h2, h3, h4, h5, hw, h6, h7, h8, h9⟩ K hK
                have d9 : d 9 = false := by cases q : d 9 with | false => rfl | true => exact absurd (hc.2.2.2.2 q).2 (by rw [hd]; decide)
                obtain rfl := h4 (hc2.2.2.2.1 rfl).1
                obtain ⟨r', g, rfl, hg1, hr1, hr2, hr3⟩ := h7 (hc2.2.2.2.1 rfl).2 hd
                have hlow := hw hd
                obtain ⟨v', w5, hrun, hmid⟩ := hpush w r' g hlow hg1 hr1 hr2 hr3
                refine if_intro (by rfl) ?_
                refine app_step rfl rfl hrun ?_
                refine hK _ _ ?_
                simp only [Act.put, List.cons_append, List.nil_append, List.setIfInBounds_toArray, List.set_cons_zero, List.set_cons_succ]
                exact ⟨x46, x47, x48, x49, _, x51, x52, _, _, rfl, h0, h1, h2, h3, h4, h5, fun q => Bool.noConfusion q, fun _ q => absurd (hc.2.2.2.2 · |>.2) (fun _ => by cases q.symm.trans (hc2.2.2.2.1 rfl).2), fun _ q => Bool.noConfusion q, fun _ _ => hmid, fun q => absurd q (by change ¬ (d 9 = true); rw [d9]; decide)⟩
              · rintro d a w hd hc hc2 ⟨x46, x47, x48, x49, x50, x51, x52, x53, x54, rfl, h0, h1, h2, h3, h4, h5, hw, h6, h7, h8, h9⟩ K hK
                obtain ⟨e8⟩ : PLift (d 8 = true) := ⟨(hc2.2.2.2.2 rfl).2⟩
                obtain rfl := h0 (hc2.2.2.2.2 rfl).1.1
                obtain rfl := h1 (hc2.2.2.2.2 rfl).1.2
                obtain ⟨m1, m2, m3⟩ := h8 e8 hd
                obtain ⟨w6, hrun, n1, n2, n3⟩ := m2.store (by unfold maxLen; omega) hs hwf x54
                refine if_intro (by rfl) ?_
                go_simp
                exact hK _ _ ⟨_, _, x48, x49, x50, x51, x52, x53, x54, rfl, h0, h1, h2, h3, h4, h5, fun q => absurd q (by rw [show mark d 9 8 = d 8 from rfl, e8]; decide), fun _ q => absurd (show d 7 = false from q) (by rw [(hc.2.2.2.1 e8).2]; decide), fun p q => absurd (show d 8 = false from q) (by rw [e8]; decide), fun _ q => Bool.noConfusion q, fun _ => m3 w6 n1 n2 n3⟩
            case hend =>
              rintro d a w hall ⟨x46, x47, x48, x49, x50, x51, x52, x53, x54, rfl, h0, h1, h2, h3, h4, h5, hw, h6, h7, h8, h9⟩
              obtain ⟨⟨f', n', g1⟩, g2, g3, g4, g5, g6⟩ := h9 (hall 9 (by decide))
              clear h0 h1 h2 h3 h4 h5 hw h6 h7 h8 h9 hpush
              simp only [List.cons_append, List.nil_append]
              have hXdN : ¬ Xd W.heap.size := fun h => by rcases hXdS _ h with h | h <;> omega
              have cYw := (cell_of_block ((g2 W.heap.size (by omega) hXdN).trans (hb5'.block W.heap.size (cell_lt cY3))) 0).trans cY3
              have cRw2 := (cell_of_block (g2 Wa.heap.size hsz5 (fun h => Nat.lt_irrefl _ (hXdM _ h))) 0).trans cR5
              have hag6 : Agree Xo W.heap.size W3 w := ⟨g4.trans hb5'.os, g5.trans hb5'.tape, g6.trans hb5'.output, Nat.le_trans hb5'.size g3, fun j hj => by
                have h3 : j < W3.heap.size := by rcases hj with h | h; exact Nat.lt_of_lt_of_le (hXlta j (.inl h)) hza; exact Nat.lt_of_lt_of_le h hg3.size
                rw [g2 j (Nat.lt_of_lt_of_le h3 hb5'.size) (fun h => by rcases hj with q | q; exact (hXd j h).1 q; have := (hXd j h).2; omega), hb5'.block j h3]⟩
              have hJ6 := hJ _ _ _ _ hJ3 hag6
              have hg6 := gr_agree hg3 hag6
              have b1 := b1'.out
              rw [hdrop'.out, distL, if_pos rfl, if_neg (by rw [htA.out]; decide)] at b1
              have hpre2 : out.map Prod.fst ++ [((⟨ra, k, rc⟩ : RV), (0 : Int))] <+: (distL [] pa).map Prod.fst := by rw [b1]; simp
              obtain ⟨fn, tmps, assign, body, hy, hR⟩ := yield_wide (m := n - 1 - 1 - 1) (hY _ (⟨ra, k, rc⟩, 0) Xo w hpre2 hJ6 hg6)
              dsimp only [enc] at hy
              replace hR : RoundIn (Fence.wide.inRound lab) (n - 1 - 1 - 1) Try.prog l fn tmps assign body w _ := hR
              have hb1 : distL [] pa = (out ++ [((⟨ra, k, rc⟩, 0), row)]) ++ distL (acc ++ [row]) (pa.drop (pre.length + 1)) := by rw [b1]; simp
              have hb1A : Aside (distL [] pa = (out ++ [((⟨ra, k, rc⟩, 0), row)]) ++ distL (acc ++ [row]) (pa.drop (pre.length + 1))) := hb1
              clear hb1
              clear b1 hlook hLo
              gi_wp2
              refine ⟨(fun h => by cases h), ?_⟩
              refine hR.mono ?_
              have fin : ∀ (X4 : Nat → Prop) (W4 : World), Gr Xo X4 w.heap.size w W4 → Gr X1 (fun j => X4 j ∨ (Xd j ∨ (Wa.heap.size ≤ j ∧ j < w.heap.size))) Wa.heap.size W3 W4 ∧ Gr X X4 W.heap.size W W4 := fun X4 W4 g => by
                refine ⟨⟨g.os.trans hag6.os, g.tape.trans hag6.tape, g.output.trans hag6.output, Nat.le_trans hag6.size g.size, fun j hj hx => ?_, fun j hj => ?_, fun j hj => ?_⟩, hg6.trans g hg6.size⟩
                · rw [g.block j (by omega) (fun h => hx ((hXX j).2 (.inl h))), g2 j (by omega) (fun h => hx ((hXX j).2 (.inr h))), hb5'.block j (by omega)]
                · rcases hj with h | h | h
                  · exact (g.sub j h).imp (fun h => (hXX j).2 (.inl h)) (fun h => by omega)
                  · exact .inl ((hXX j).2 (.inr h))
                  · exact .inr h.1
                · have := g.size
                  rcases hj with h | h | h
                  · exact g.lt j h
                  · have := hXlta j (.inr h); omega
                  · omega
              rintro e4 W4 ⟨X4, g, (⟨rfl, j4⟩ | ⟨rfl, j4⟩)⟩
              · gi_wp2
                have hno : ∀ j, (Xd j ∨ (Wa.heap.size ≤ j ∧ j < w.heap.size)) → ¬ Xo j ∧ j < w.heap.size := fun j h => by
                  rcases h with h | h
                  · exact ⟨(hXd j h).1, by have := hXdM j h; omega⟩
                  · exact ⟨fun q => by have := hXlta j (.inl q); omega, h.2⟩
                refine ⟨_, (fin X4 W4 g).1, out ++ [((⟨ra, k, rc⟩, 0), row)], acc ++ [row], X4, _, ?_, fun _ => Iff.rfl, fun j hj => ⟨fun q => ?_, ?_⟩, ?_, (fin X4 W4 g).2, ⟨_, _, g1.same g.size (fun j hj => g.block j (hno j hj).2 (hno j hj).1)⟩, ?_⟩
                · rw [List.length_append]; exact hb1A.out
                · rcases g.sub j q with q | q
                  · exact (hno j hj).1 q
                  · have := (hno j hj).2; omega
                · rcases hj with h | h
                  · exact (hXd j h).2
                  · have := b3.size; omega
                · rw [List.map_append]; exact j4
                · rw [List.length_append, List.length_append]; exact Nat.succ_le_succ hacc
              · gi_wp2
                exact ⟨_, (fin X4 W4 g).1, rfl, X4, fun j h => .inl h, (fin X4 W4 g).2, .inr ⟨_, hpre2, j4⟩⟩
    · have hne : (e != 0) = true := by simpa using he
      rw [distL, if_neg he] at b1
      have hp1 : out.map Prod.fst ++ [((RV.nil : RV), e)] = (distL [] pa).map Prod.fst := by rw [b1]; simp
      have hR' := yield_wide (m := n - 1 - 1 - 1) (hY _ (RV.nil, e) Xo W3 (by rw [hp1]; exact List.prefix_refl _) hJ3 hg3)
      rw [hp1] at hR'
      obtain ⟨fn, tmps, assign, body, hy, hR⟩ := hR'
      dsimp only [enc, RV.nil] at hy
      replace hR : RoundIn (Fence.wide.inRound lab) (n - 1 - 1 - 1) Try.prog l fn tmps assign body W3 _ := hR
      clear hp1 b1
      gi_wp2
      refine ⟨(fun h => by cases h), ?_⟩
      refine hR.mono ?_
      have fin : ∀ (X4 : Nat → Prop) (W4 : World), Gr Xo X4 W3.heap.size W3 W4 → Gr X1 (fun j => X4 j ∨ Xd j) Wa.heap.size W3 W4 ∧ Gr X X4 W.heap.size W W4 := fun X4 W4 g4 =>
        ⟨⟨g4.os, g4.tape, g4.output, g4.size, fun j hj hx => g4.block j (by omega) (fun h => hx ((hXX j).2 (.inl h))), fun j hj => hj.elim (fun h => (g4.sub j h).imp (fun h => (hXX j).2 (.inl h)) (fun h => by omega)) (fun h => .inl ((hXX j).2 (.inr h))), fun j hj => hj.elim (g4.lt j) (fun h => by have := hXlta j (.inr h); have := g4.size; omega)⟩, hg3.trans g4 hg3.size⟩
      rintro e4 W4 ⟨X4, g4, (⟨rfl, j4⟩ | ⟨rfl, j4⟩)⟩
      · gi_wp2
        exact ⟨_, (fin X4 W4 g4).1, rfl, X4, fun j h => .inl h, (fin X4 W4 g4).2, .inl j4⟩
      · gi_wp2
        exact ⟨_, (fin X4 W4 g4).1, rfl, X4, fun j h => .inl h, (fin X4 W4 g4).2, .inr ⟨_, List.prefix_refl _, j4⟩⟩
  case done =>
    rintro X' Wd ⟨out, acc, Xo, Xd, b1, hXX, hXd, b2, b3, _, _⟩ hg hn hK
    have b1' : distL [] pa = out ++ distL acc (pa.drop (pa.map Prod.fst).length) := b1
    rw [List.length_map, List.drop_length, distL, List.append_nil] at b1'
    have hb : J ((distL [] pa).map Prod.fst) Xo Wd := by rw [b1']; exact b2
    clear b1 b1'
    have hno : ¬ Xo Wy.heap.size := fun h => hn ((hXX _).2 (.inl h))
    gi_wp2
    refine ⟨by simp, .inl ⟨_, _, rfl, run_takeDeferred hK, ?_⟩⟩
    exact ⟨_, results_none rfl _ _ _, ⟨_, rfl⟩, Xo, b3.put _ hby.size, .inl (hJ _ _ _ _ hb (agree_put Wd (.deferred none) hno hby.size))⟩
  case stop =>
    rintro c pre X' Wd _ ⟨rfl, Xo, c1, c2, c3⟩ hg hn hK
    have hno : ¬ Xo Wy.heap.size := fun h => hn (c1 _ h)
    gi_wp2
    refine ⟨by simp, .inl ⟨_, _, rfl, run_takeDeferred hK, ?_⟩⟩
    refine ⟨_, results_none rfl _ _ _, ⟨_, rfl⟩, Xo, c2.put _ hby.size, ?_⟩
    rcases c3 with h | ⟨q, hq, h⟩
    · exact .inl (hJ _ _ _ _ h (agree_put Wd (.deferred none) hno hby.size))
    · exact .inr ⟨q, hq, hJx _ _ _ _ h (agree_put Wd (.deferred none) hno hby.size)⟩
end Go.Proofs.Ytghpjlohoehdnaa.Sep

/-! The iterators of scan, sort and setop, as values; setop.Join. No condition beyond those that each theorem names. -/
namespace Go.Proofs.Ytghpjlohoehdnaa.Sep
open Go Go.RowKit Go.Shelf
attribute [local go_sem] Oper.semAt_some
set_option linter.unusedVariables false
set_option linter.unusedSimpArgs false
/-- up to the first error, that one taken in -/
def cutP : List Pr → List Pr
  | [] => []
  | p :: l => if p.1.2 = 0 then p :: cutP l else [p]
theorem cutP_fst : ∀ l : List Pr, (cutP l).map Prod.fst = cutE (l.map Prod.fst)
  | [] => rfl
  | p :: l => by
    unfold cutP
    rw [List.map_cons, cutE]
    by_cases h : p.1.2 = 0
    · rw [if_pos h, if_pos h, List.map_cons, cutP_fst l]
    · rw [if_neg h, if_neg h]; rfl
theorem cutP_mem : ∀ (l : List Pr), ∀ p ∈ cutP l, p ∈ l
  | [], p, h => by cases h
  | q :: l, p, h => by
    unfold cutP at h
    by_cases h0 : q.1.2 = 0
    · rw [if_pos h0] at h
      rcases List.mem_cons.1 h with rfl | h
      · exact List.mem_cons_self ..
      · exact List.mem_cons_of_mem _ (cutP_mem l p h)
    · rw [if_neg h0] at h
      rw [List.mem_singleton.1 h]; exact List.mem_cons_self ..
theorem cutP_len : ∀ l : List Pr, (cutP l).length ≤ l.length
  | [] => Nat.le_refl _
  | p :: l => by
    unfold cutP
    by_cases h : p.1.2 = 0
    · rw [if_pos h]; exact Nat.succ_le_succ (cutP_len l)
    · rw [if_neg h]; simp
theorem amL_mem (is : Bool) (rows : List (List V3)) : ∀ (l : List Pr), ∀ p ∈ amL is rows l, p.1.2 = 0 → p ∈ l
  | [], p, h, _ => by cases h
  | q :: l, p, h, hp => by
    unfold amL at h
    by_cases h0 : q.1.2 = 0
    · rw [if_pos h0] at h
      by_cases h1 : (rows.any fun s => eqRow s q.2) = is
      · rw [if_pos h1] at h
        rcases List.mem_cons.1 h with rfl | h
        · exact List.mem_cons_self ..
        · exact List.mem_cons_of_mem _ (amL_mem is rows l p h hp)
      · rw [if_neg h1] at h
        exact List.mem_cons_of_mem _ (amL_mem is rows l p h hp)
    · rw [if_neg h0] at h
      rw [List.mem_singleton.1 h] at hp
      exact absurd hp h0
theorem amL_len (is : Bool) (rows : List (List V3)) : ∀ l : List Pr, (amL is rows l).length ≤ l.length
  | [] => Nat.le_refl _
  | q :: l => by
    unfold amL
    have := amL_len is rows l
    split
    · split
      · simpa using this
      · rw [List.length_cons]; omega
    · simp
theorem distL_mem : ∀ (l : List Pr) (acc : List (List V3)), ∀ p ∈ distL acc l, p.1.2 = 0 → p ∈ l
  | [], acc, p, h, _ => by cases h
  | q :: l, acc, p, h, hp => by
    unfold distL at h
    by_cases h0 : q.1.2 = 0
    · rw [if_pos h0] at h
      split at h
      · exact List.mem_cons_of_mem _ (distL_mem l _ p h hp)
      · rcases List.mem_cons.1 h with rfl | h
        · exact List.mem_cons_self ..
        · exact List.mem_cons_of_mem _ (distL_mem l _ p h hp)
    · rw [if_neg h0] at h
      rw [List.mem_singleton.1 h] at hp
      exact absurd hp h0
theorem distL_len : ∀ (l : List Pr) (acc : List (List V3)), (distL acc l).length ≤ l.length
  | [], acc => Nat.le_refl _
  | q :: l, acc => by
    unfold distL
    split
    · split
      · have := distL_len l acc; rw [List.length_cons]; omega
      · have := distL_len l (acc ++ [q.2]); simpa using this
    · simp
/-- among, whatever the other is -/
def amAll (is : Bool) (pa pb : List Pr) : List Pr := if errOf pb = 0 then amL is (pb.map Prod.snd) pa else [((RV.nil, errOf pb), [])]
theorem amAll_len (is : Bool) (pa pb : List Pr) : (amAll is pa pb).length ≤ pa.length + 1 := by
  unfold amAll
  split
  · have := amL_len is (pb.map Prod.snd) pa; omega
  · simp
theorem both_c (A B : Nat) (va vb : Value) (pa pb : List Pr) (Ra Rb : Nat → Prop) (w : World) (hA : A < w.heap.size) (hB : B < w.heap.size) (hca : w.cell? ⟨A, 0, none⟩ = some va) (hcb : w.cell? ⟨B, 0, none⟩ = some vb) (ha : ItC va pa Ra w) (hb : ItC vb pb Rb w) :
    ItC (.func (.func 68) #[] #[.pointer (some ⟨A, 0, none⟩), .pointer (some ⟨B, 0, none⟩)]) (cutP (pa ++ pb)) (fun j => j = A ∨ j = B ∨ Ra j ∨ Rb j) w := by
  refine ⟨?_, fun p hp h0 => ?_⟩
  · rw [cutP_fst, List.map_append]
    exact both_it A B va vb _ _ Ra Rb w hA hB hca hcb ha.it hb.it
  · rcases List.mem_append.1 (cutP_mem _ p hp) with h | h
    · obtain ⟨h1, h2, h3⟩ := ha.rows p h h0
      exact ⟨h1, h2, fun j hj => .inr (.inr (.inl (h3 j hj)))⟩
    · obtain ⟨h1, h2, h3⟩ := hb.rows p h h0
      exact ⟨h1, h2, fun j hj => .inr (.inr (.inr (h3 j hj)))⟩
theorem dist_c (A : Nat) (va : Value) (pa : List Pr) (Ra : Nat → Prop) (w : World) (hA : A < w.heap.size) (hca : w.cell? ⟨A, 0, none⟩ = some va) (ha : ItC va pa Ra w) (hla : pa.length ≤ 100000) :
    ItC (.func (.func 54) #[] #[.pointer (some ⟨A, 0, none⟩)]) (distL [] pa) (fun j => j = A ∨ Ra j) w := by
  refine ⟨⟨⟨54, _, rfl, enters_of Try.func54 (by kernel_rfl) rfl, ?_⟩, ?_⟩, fun p hp h0 => ?_⟩
  · intro n l J Jx X W hs hR hX hJ hJx hY h0
    have ha' := ha.later hs (fun j hj => (hR j (.inr hj)).2.2)
    obtain ⟨ga, la, rfl, ega, hqa⟩ := ha'.it.ex
    exact callsIn_wide.2 (callsIn_wide.1 (dist1_in 6 (Nat.le_refl _) l A ga la pa Ra J Jx X W hX hJ hJx (Nat.lt_of_lt_of_le hA hs) ((cell_of_block (hR A (.inl rfl)).2.2 0).trans hca) hla ega hqa (fun j hj => ⟨ha'.it.lt j hj, (hR j (.inr hj)).2.1⟩) ha'.rows (fun pre x X1 W1 p q r => yield_wide (hY pre x X1 W1 p q r)) h0))
  · rintro j (rfl | h)
    · exact hA
    · exact ha.it.lt j h
  · obtain ⟨h1, h2, h3⟩ := ha.rows p (distL_mem _ _ p hp h0) h0
    exact ⟨h1, h2, fun j hj => .inr (h3 j hj)⟩
theorem among_c (A B D : Nat) (is : Bool) (va vb : Value) (pa pb : List Pr) (Ra Rb : Nat → Prop) (w : World) (hA : A < w.heap.size) (hB : B < w.heap.size) (hD : D < w.heap.size) (hca : w.cell? ⟨A, 0, none⟩ = some vb) (hcb : w.cell? ⟨B, 0, none⟩ = some va) (hcd : w.cell? ⟨D, 0, none⟩ = some (.bool is))
    (ha : ItC va pa Ra w) (hb : ItC vb pb Rb w) (hlb : pb.length ≤ 100000) :
    ItC (.func (.func 69) #[] #[.pointer (some ⟨A, 0, none⟩), .pointer (some ⟨B, 0, none⟩), .pointer (some ⟨D, 0, none⟩)]) (amAll is pa pb) (fun j => j = A ∨ j = B ∨ j = D ∨ Ra j ∨ Rb j) w := by
  refine ⟨⟨⟨69, _, rfl, enters_of Try.func69 (by kernel_rfl) rfl, ?_⟩, ?_⟩, fun p hp h0 => ?_⟩
  · intro n l J Jx X W hs hR hX hJ hJx hY h0
    have ha' := ha.later hs (fun j hj => (hR j (.inr (.inr (.inr (.inl hj))))).2.2)
    have hb' := hb.later hs (fun j hj => (hR j (.inr (.inr (.inr (.inr hj))))).2.2)
    obtain ⟨ga, la, rfl, ega, hqa⟩ := ha'.it.ex
    have rA := hR A (.inl rfl)
    have rB := hR B (.inr (.inl rfl))
    have rD := hR D (.inr (.inr (.inl rfl)))
    by_cases he : errOf pb = 0
    · unfold amAll at hY ⊢
      rw [if_pos he] at hY ⊢
      exact callsIn_wide.2 (callsIn_wide.1 (among1_ok 6 (Nat.le_refl _) l A B D is ga la vb pa pb Ra Rb J Jx X W hX hJ hJx (Nat.lt_of_lt_of_le hA hs) ⟨Nat.lt_of_lt_of_le hB hs, rB.2.1⟩ ⟨Nat.lt_of_lt_of_le hD hs, rD.2.1⟩ ((cell_of_block rA.2.2 0).trans hca) ((cell_of_block rB.2.2 0).trans hcb) ((cell_of_block rD.2.2 0).trans hcd)
        ega hqa (fun j hj => ⟨ha'.it.lt j hj, (hR j (.inr (.inr (.inr (.inl hj))))).2.1⟩) ha'.rows hb' hlb he _ rfl (fun pre x X1 W1 p q r => yield_wide (hY pre x X1 W1 p q r)) h0))
    · unfold amAll at hY ⊢
      rw [if_neg he] at hY ⊢
      exact callsIn_wide.2 (callsIn_wide.1 (among1_err 6 (Nat.le_refl _) l A B D is ga la vb pa pb Ra Rb J Jx X W hX hJ hJx (Nat.lt_of_lt_of_le hA hs) ⟨Nat.lt_of_lt_of_le hB hs, rB.2.1⟩ ⟨Nat.lt_of_lt_of_le hD hs, rD.2.1⟩ ((cell_of_block rA.2.2 0).trans hca) ((cell_of_block rB.2.2 0).trans hcb) ((cell_of_block rD.2.2 0).trans hcd)
        ega hqa (fun j hj => ⟨ha'.it.lt j hj, (hR j (.inr (.inr (.inr (.inl hj))))).2.1⟩) ha'.rows hb' hlb he (fun pre x X1 W1 p q r => yield_wide (hY pre x X1 W1 p q r)) h0))
  · rintro j (rfl | rfl | rfl | h | h)
    · exact hA
    · exact hB
    · exact hD
    · exact ha.it.lt j h
    · exact hb.it.lt j h
  · unfold amAll at hp
    split at hp
    · obtain ⟨h1, h2, h3⟩ := ha.rows p (amL_mem _ _ _ p hp h0) h0
      exact ⟨h1, h2, fun j hj => .inr (.inr (.inr (.inl (h3 j hj))))⟩
    · rename_i he
      rw [List.mem_singleton.1 hp] at h0
      exact absurd h0 he
/-- a list's rows with their values -/
def prL : List RV → List (List V3) → List Pr
  | r :: rs, row :: rows => ((r, 0), row) :: prL rs rows
  | _, _ => []
theorem prL_fst : ∀ (rs : List RV) (rows : List (List V3)), rs.length = rows.length → (prL rs rows).map Prod.fst = rs.map fun r => (r, 0)
  | [], [], _ => rfl
  | r :: rs, row :: rows, h => by simp [prL, prL_fst rs rows (by simpa using h)]
theorem prL_snd : ∀ (rs : List RV) (rows : List (List V3)), rs.length = rows.length → (prL rs rows).map Prod.snd = rows
  | [], [], _ => rfl
  | r :: rs, row :: rows, h => by simp [prL, prL_snd rs rows (by simpa using h)]
theorem prL_mem {P : RV → List V3 → Prop} : ∀ (rs : List RV) (rows : List (List V3)), All2 P rs rows → ∀ p ∈ prL rs rows, p.1.2 = 0 ∧ P p.1.1 p.2
  | [], [], _, p, hp => by cases hp
  | r :: rs, row :: rows, h, p, hp => by
    rcases List.mem_cons.1 hp with rfl | hp
    · exact ⟨rfl, h.1⟩
    · exact prL_mem rs rows h.2 p hp
theorem list_c (Bs : Nat) (sv : Value) (rows : List (List V3)) (P : Nat → Prop) (w : World) (hBs : Bs < w.heap.size) (hP : ∀ j, P j → j < w.heap.size) (hc : w.cell? ⟨Bs, 0, none⟩ = some sv) (h : OwnB P w sv rows) (hl : rows.length ≤ 100000) :
    ∃ prs, prs.map Prod.snd = rows ∧ (∀ p ∈ prs, p.1.2 = 0) ∧ ItC (.func (.func 41) #[] #[.pointer (some ⟨Bs, 0, none⟩)]) prs (fun j => j = Bs ∨ P j) w := by
  rcases h with ⟨a0, c0, rfl, rfl⟩ | ⟨b, off, c, rs, rfl, hb, hb2, hcs, hr⟩
  · exact ⟨[], rfl, (fun p hp => by cases hp), list_it Bs _ [] P w hBs hP hc (.inl ⟨_, _, rfl, rfl⟩) (by simp), fun p hp => by cases hp⟩
  · refine ⟨prL rs rows, prL_snd rs rows hr.len, fun p hp => (prL_mem rs rows hr p hp).1, ?_, fun p hp _ => ?_⟩
    · rw [prL_fst rs rows hr.len]
      exact list_it Bs _ rs P w hBs hP hc (.inr ⟨b, off, c, rfl, hb, hcs⟩) (by rw [hr.len]; omega)
    · obtain ⟨h1, h2, h3⟩ := (prL_mem rs rows hr p hp).2
      exact ⟨h1, h2, fun j hj => .inr (h3 j hj)⟩
end Go.Proofs.Ytghpjlohoehdnaa.Sep

/-! setop.Join: an iterator of the rows of two, joined. No condition beyond those that each theorem names. -/
namespace Go.Proofs.Ytghpjlohoehdnaa.Sep
open Go Go.RowKit Go.Shelf
attribute [local go_sem] Oper.semAt_some
set_option linter.unusedVariables false
set_option linter.unusedSimpArgs false
set_option maxRecDepth 100000 in
set_option maxHeartbeats 1000000 in
theorem err1_in (n : Nat) (hn : 1 ≤ n) (l : Nat) (J Jx : List (RV × Int) → (Nat → Prop) → World → Prop) (X : Nat → Prop) (W : World) (hX : ∀ j, X j → j < W.heap.size)
    (hY : ∀ pre x X1 W1, (pre ++ [x]) <+: [((RV.nil : RV), (1 : Int))] → J pre X1 W1 → Gr X X1 W.heap.size W W1 → YieldAt Fence.wide (n - 1) Try.prog l (enc x) W1 fun e W' =>
      ∃ X', Gr X1 X' W1.heap.size W1 W' ∧ ((e = .returned (.bool true) ∧ J (pre ++ [x]) X' W') ∨ (e = .returned (.bool false) ∧ Jx (pre ++ [x]) X' W')))
    (h0 : J [] X W) :
    CallsIn Fence.wide n Try.prog 45 #[.func (.yield l) #[] #[]] W fun e W' => (∃ v, e = .returned v) ∧
      ∃ X', Gr X X' W.heap.size W W' ∧ (J [((RV.nil : RV), (1 : Int))] X' W' ∨ ∃ pre, pre <+: [((RV.nil : RV), (1 : Int))] ∧ Jx pre X' W') := by
  have hro : Fence.wide.round = none := rfl
  obtain ⟨fn, tmps, assign, body, hy, hR⟩ := hY [] (RV.nil, 1) X W (List.prefix_refl _) h0 (Gr.refl _ _ hX)
  dsimp only [enc, RV.nil] at hy
  refine callsIn_of_wp Try.func45 rfl trivial ?_ hro
  simp only [Try.ntmps45, List.size_toArray, List.length_cons, List.length_nil, Nat.reduceAdd, Nat.reduceSub, Array.replicate_succ, Array.replicate_zero, List.push_toArray, List.append_toArray, List.nil_append, List.cons_append]
  gi_wp2
  refine hR.mono ?_
  rintro e W3 ⟨X3, hg3, (⟨rfl, hJ3⟩ | ⟨rfl, hJx3⟩)⟩
  · gi_wp2
    go_end0
    exact ⟨⟨_, rfl⟩, X3, hg3, .inl hJ3⟩
  · gi_wp2
    go_end0
    exact ⟨⟨_, rfl⟩, X3, hg3, .inr ⟨_, List.prefix_refl _, hJx3⟩⟩
theorem err_c (w : World) : ItC (.func (.func 45) #[] #[]) [((RV.nil, 1), [])] (fun _ => False) w := by
  refine ⟨⟨⟨45, _, rfl, enters_of Try.func45 (by kernel_rfl) rfl, ?_⟩, fun j h => h.elim⟩, fun p hp h0 => ?_⟩
  · intro n l J Jx X W hs hR hX hJ hJx hY h0
    exact callsIn_wide.2 (callsIn_wide.1 (err1_in 6 (by decide) l J Jx X W hX (fun pre x X1 W1 p q r => yield_wide (hY pre x X1 W1 p q r)) h0))
  · rw [List.mem_singleton.1 hp] at h0
    cases h0
/-- a function value that is no method, or nil -/
def Fv (v : Value) : Prop := (∃ g la, v = .func (.func g) #[] la) ∨ v = .nilFunc
theorem ItC.fv {v : Value} {prs : List Pr} {R : Nat → Prop} {w : World} (h : ItC v prs R w) : Fv v := by
  obtain ⟨g, lb, e, _⟩ := h.it.ex
  exact .inl ⟨g, lb, e⟩
set_option maxHeartbeats 1000000 in
theorem dist_make (va : Value) (hv : Fv va) (w : World) :
    Calls Try.prog 28 #[va] w fun e w' => e = .returned (.func (.func 54) #[] #[.pointer (some ⟨w.heap.size, 0, none⟩)]) ∧ w' = w.alloc (.cells #[va] 31) := by
  rcases hv with ⟨g, la, rfl⟩ | rfl
  · go_enter Try.func28, Try.ntmps28
    go_wp2
    go_ret
    exact ⟨rfl, rfl⟩
  · go_enter Try.func28, Try.ntmps28
    go_wp2
    go_ret
    exact ⟨rfl, rfl⟩
set_option maxHeartbeats 1000000 in
theorem among_make (va vb : Value) (hv : Fv va) (hw : Fv vb) (is : Bool) (w : World) :
    Calls Try.prog 44 #[va, vb, .bool is] w fun e w' => e = .returned (.func (.func 69) #[] #[.pointer (some ⟨w.heap.size + 1, 0, none⟩), .pointer (some ⟨w.heap.size, 0, none⟩), .pointer (some ⟨w.heap.size + 1 + 1, 0, none⟩)]) ∧
      w' = ((w.alloc (.cells #[va] 31)).alloc (.cells #[vb] 31)).alloc (.cells #[.bool is] 4) := by
  rcases hv with ⟨g, la, rfl⟩ | rfl <;> rcases hw with ⟨g2, la2, rfl⟩ | rfl
  all_goals
    go_enter Try.func44, Try.ntmps44
    go_wp2
    go_ret
    exact ⟨rfl, rfl⟩
set_option maxHeartbeats 1000000 in
theorem both_make2 (va vb : Value) (hv : Fv va) (hw : Fv vb) (w : World) :
    Calls Try.prog 43 #[va, vb] w fun e w' => e = .returned (.func (.func 68) #[] #[.pointer (some ⟨w.heap.size, 0, none⟩), .pointer (some ⟨w.heap.size + 1, 0, none⟩)]) ∧
      w' = (w.alloc (.cells #[va] 31)).alloc (.cells #[vb] 31) := by
  rcases hv with ⟨g, la, rfl⟩ | rfl <;> rcases hw with ⟨g2, la2, rfl⟩ | rfl
  all_goals
    go_enter Try.func43, Try.ntmps43
    go_wp2
    go_ret
    exact ⟨by simp, rfl⟩
set_option maxRecDepth 100000 in
set_option maxHeartbeats 1000000 in
theorem both_nil1 (n : Nat) (hn : 1 ≤ n) (l A B : Nat) (W : World) (hA : A < W.heap.size) (hB : B < W.heap.size) (hca : W.cell? ⟨A, 0, none⟩ = some .nilFunc) (hcb : W.cell? ⟨B, 0, none⟩ = some .nilFunc) :
    CallsIn Fence.wide n Try.prog 68 #[.func (.yield l) #[] #[], .pointer (some ⟨A, 0, none⟩), .pointer (some ⟨B, 0, none⟩)] W fun e W' => (∃ v, e = .returned v) ∧ Below W.heap.size W W' := by
  have hro : Fence.wide.round = none := rfl
  have hfn : ∀ (w : World), (binOp .eql 31 .nilFunc .nilFunc).run Try.prog w = .ok (.bool true) w := fun _ => rfl
  refine callsIn_of_wp Try.func68 rfl trivial ?_ hro
  simp only [Try.ntmps68, List.size_toArray, List.length_cons, List.length_nil, Nat.reduceAdd, Nat.reduceSub, Array.replicate_succ, Array.replicate_zero, List.push_toArray, List.append_toArray, List.nil_append, List.cons_append]
  gi_wp2
  refine wpIn_loop_rounds 3 ?_
  have cS := World.alloc_heap_new (W.alloc (.cells #[.func (.yield l) #[] #[]] 72)) (.cells #[.nilFunc, .nilFunc] 31)
  have hbel : Below W.heap.size W ((W.alloc (.cells #[.func (.yield l) #[] #[]] 72)).alloc (.cells #[.nilFunc, .nilFunc] 31)) := ((Below.refl _ W).alloc (Nat.le_refl _) _).alloc (by simp) _
  rw [World.size_alloc] at cS
  generalize (W.alloc (.cells #[.func (.yield l) #[] #[]] 72)).alloc (.cells #[.nilFunc, .nilFunc] 31) = W1 at cS hbel ⊢
  have s0 : W1.cell? ⟨W.heap.size + 1, 0, none⟩ = some .nilFunc := by simp [World.cell?, cS]
  have s1 : W1.cell? ⟨W.heap.size + 1, 1, none⟩ = some .nilFunc := by simp [World.cell?, cS]
  clear cS
  rw [roundsIn_succ]
  gi_wp2
  rw [roundsIn_succ]
  gi_wp2
  rw [roundsIn_succ]
  gi_wp2
  go_end0
  exact ⟨⟨_, rfl⟩, hbel⟩
theorem both_nil_c (A B : Nat) (w : World) (hA : A < w.heap.size) (hB : B < w.heap.size) (hca : w.cell? ⟨A, 0, none⟩ = some .nilFunc) (hcb : w.cell? ⟨B, 0, none⟩ = some .nilFunc) :
    ItC (.func (.func 68) #[] #[.pointer (some ⟨A, 0, none⟩), .pointer (some ⟨B, 0, none⟩)]) [] (fun j => j = A ∨ j = B) w := by
  refine ⟨⟨⟨68, _, rfl, enters_of Try.func68 (by kernel_rfl) rfl, ?_⟩, ?_⟩, fun p hp h0 => by cases hp⟩
  · intro n l J Jx X W hs hR hX hJ hJx hY h0
    refine (callsIn_wide.2 (callsIn_wide.1 (both_nil1 6 (by decide) l A B W (Nat.lt_of_lt_of_le hA hs) (Nat.lt_of_lt_of_le hB hs) ((cell_of_block (hR A (.inl rfl)).2.2 0).trans hca) ((cell_of_block (hR B (.inr rfl)).2.2 0).trans hcb)))).mono ?_
    rintro e W' ⟨h1, h2⟩
    exact ⟨h1, X, below_gr hX h2, .inl (hJ _ _ _ _ h0 (below_agree hX h2))⟩
  · rintro j (rfl | rfl)
    · exact hA
    · exact hB
set_option maxRecDepth 100000 in
set_option maxHeartbeats 1000000 in
theorem among_nil1 (n : Nat) (hn : 1 ≤ n) (l A B D : Nat) (is : Bool) (W : World) (hA : A < W.heap.size) (hB : B < W.heap.size) (hca : W.cell? ⟨A, 0, none⟩ = some .nilFunc) (hcb : W.cell? ⟨B, 0, none⟩ = some .nilFunc) :
    CallsIn Fence.wide n Try.prog 69 #[.func (.yield l) #[] #[], .pointer (some ⟨A, 0, none⟩), .pointer (some ⟨B, 0, none⟩), .pointer (some ⟨D, 0, none⟩)] W fun e W' => (∃ v, e = .returned v) ∧ Below W.heap.size W W' := by
  have hro : Fence.wide.round = none := rfl
  have hfn : ∀ (w : World), (binOp .eql 31 .nilFunc .nilFunc).run Try.prog w = .ok (.bool true) w := fun _ => rfl
  have hbel : Below W.heap.size W (W.alloc (.cells #[.func (.yield l) #[] #[]] 72)) := below_new _
  have cA1 := (cell_of_block (hbel.block A hA) 0).trans hca
  have cB1 := (cell_of_block (hbel.block B hB) 0).trans hcb
  refine callsIn_of_wp Try.func69 rfl trivial ?_ hro
  simp only [Try.ntmps69, List.size_toArray, List.length_cons, List.length_nil, Nat.reduceAdd, Nat.reduceSub, Array.replicate_succ, Array.replicate_zero, List.push_toArray, List.append_toArray, List.nil_append, List.cons_append]
  gi_upto_region 2 with (refine ⟨trivial, ?_⟩; gi_at_call 19; refine (callsIn_wide.2 (collect_nil _)).mono ?_; rintro e w2 ⟨rfl, hb2⟩)
  have hbx := below_step hbel (hb2.alloc hb2.size (.cells #[.slice none 0 0] 22)) hbel.size
  generalize w2.alloc (.cells #[.slice none 0 0] 22) = Wx at hbx ⊢
  have cBx := (cell_of_block (hbx.block B hB) 0).trans hcb
  gi_wp2
  refine bodyPost_ret (results_none rfl _ _ _) rfl ?_
  exact ⟨⟨_, rfl⟩, hbx⟩
theorem among_nil_c (A B D : Nat) (is : Bool) (w : World) (hA : A < w.heap.size) (hB : B < w.heap.size) (hca : w.cell? ⟨A, 0, none⟩ = some .nilFunc) (hcb : w.cell? ⟨B, 0, none⟩ = some .nilFunc) :
    ItC (.func (.func 69) #[] #[.pointer (some ⟨A, 0, none⟩), .pointer (some ⟨B, 0, none⟩), .pointer (some ⟨D, 0, none⟩)]) [] (fun j => j = A ∨ j = B) w := by
  refine ⟨⟨⟨69, _, rfl, enters_of Try.func69 (by kernel_rfl) rfl, ?_⟩, ?_⟩, fun p hp h0 => by cases hp⟩
  · intro n l J Jx X W hs hR hX hJ hJx hY h0
    refine (callsIn_wide.2 (callsIn_wide.1 (among_nil1 6 (by decide) l A B D is W (Nat.lt_of_lt_of_le hA hs) (Nat.lt_of_lt_of_le hB hs) ((cell_of_block (hR A (.inl rfl)).2.2 0).trans hca) ((cell_of_block (hR B (.inr rfl)).2.2 0).trans hcb)))).mono ?_
    rintro e W' ⟨h1, h2⟩
    exact ⟨h1, X, below_gr hX h2, .inl (hJ _ _ _ _ h0 (below_agree hX h2))⟩
  · rintro j (rfl | rfl)
    · exact hA
    · exact hB
end Go.Proofs.Ytghpjlohoehdnaa.Sep
