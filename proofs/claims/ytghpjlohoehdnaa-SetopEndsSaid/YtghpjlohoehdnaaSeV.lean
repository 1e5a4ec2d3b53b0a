/- A region that draws its order, by an invariant over what has been done: it serves within a round too. No condition beyond those that each theorem names. -/
import Derived.OrdersIn
import Derived.Tactics
namespace Go.Proofs.Ytghpjlohoehdnaa.Sep
open Go
set_option linter.unusedVariables false
section
variable {F : Fence} {n : Nat} {P : Program} {ops : Array Oper} {Q : Exit → Act → World → Prop} {md : Region.Mode}
/-- what is done behind i is done -/
def mark (d : Nat → Bool) (i : Nat) : Nat → Bool := fun j => j == i || d j
/-- what is done has all done that it waits for -/
def Closed (md : Region.Mode) (ops : Array Oper) (d : Nat → Bool) : Prop := ∀ (i : Nat) (o : Oper), ops[i]? = some o → d i = true → ∀ e ∈ o.after, Region.binds md e = true → d e.on = true
/-- one operation keeps the invariant -/
def Keeps (F : Fence) (n : Nat) (P : Program) (md : Region.Mode) (ops : Array Oper) (Q : Exit → Act → World → Prop) (Cl : (Nat → Bool) → Prop) (St : (Nat → Bool) → Act → World → Prop) (o : Oper) (i : Nat) : Prop :=
  ∀ (d : Nat → Bool) (a : Act) (w : World), d i = false → Cl d → Cl (mark d i) → St d a w →
    ∀ K : Act → World → Prop, (∀ a w, St (mark d i) a w → K a w) → if Region.wanted o (yielded ops a.tmps) = true then Oper.wpIn F n P o a w K Q else (∀ f, o.about P w a.eval = some f → F.fn f) ∧ K (a.put o.dst undef) w
def KeepAll (F : Fence) (n : Nat) (P : Program) (md : Region.Mode) (ops : Array Oper) (Q : Exit → Act → World → Prop) (Cl : (Nat → Bool) → Prop) (St : (Nat → Bool) → Act → World → Prop) : List Oper → Nat → Prop
  | [], _ => True
  | o :: l, i => Keeps F n P md ops Q Cl St o i ∧ KeepAll F n P md ops Q Cl St l (i + 1)
theorem KeepAll.get {Cl : (Nat → Bool) → Prop} {St : (Nat → Bool) → Act → World → Prop} : ∀ {l : List Oper} {k : Nat}, KeepAll F n P md ops Q Cl St l k → ∀ i o, l[i]? = some o → Keeps F n P md ops Q Cl St o (k + i)
  | [], _, _, i, o, h => by simp at h
  | x :: l, k, h, 0, o, e => by simp at e; subst e; exact h.1
  | x :: l, k, h, i + 1, o, e => by have := h.2.get i o (by simpa using e); rw [show k + (i + 1) = k + 1 + i by omega]; exact this
/-- how many are left -/
def left (m : Nat) (d : Nat → Bool) : Nat := (List.range m).countP (fun i => !d i)
theorem left_mark {m : Nat} {d : Nat → Bool} {i : Nat} (hi : i < m) (hd : d i = false) : left m (mark d i) < left m d := by
  unfold left
  induction m with
  | zero => omega
  | succ m ih =>
    rw [List.range_succ, List.countP_append, List.countP_append]
    by_cases e : i = m
    · subst e
      have h1 : (List.range i).countP (fun j => !mark d i j) = (List.range i).countP (fun j => !d j) := List.countP_congr (fun j hj => by
        have : j ≠ i := by have := List.mem_range.1 hj; omega
        simp [mark, this])
      rw [h1]
      simp [mark, hd]
    · have := ih (by omega)
      have h2 : mark d i m = d m := by simp [mark]; intro h; omega
      simp [h2]
      omega
theorem left_zero {m : Nat} {d : Nat → Bool} (h : ∀ i, i < m → d i = true) : left m d = 0 := by
  unfold left
  rw [List.countP_eq_zero]
  intro i hi
  simp [h i (List.mem_range.1 hi)]
theorem left_pos {m : Nat} {d : Nat → Bool} {i : Nat} (hi : i < m) (hd : d i = false) : 0 < left m d := by
  have := left_mark hi hd
  omega
/-- each operation stands behind those that it waits for -/
def inOrder (ops : Array Oper) : Bool := (List.range ops.size).all fun i => ((ops[i]?).map fun o => o.after.all fun e => decide (e.on < i)).getD true
theorem mark_get {listed : Array Bool} {i : Nat} (hi : i < listed.size) : (fun j => (listed.setIfInBounds i true).getD j false) = mark (fun j => listed.getD j false) i := by
  funext j
  by_cases e : j = i
  · subst e
    simp [mark, Array.getD_eq_getD_getElem?, hi]
  · simp [mark, Array.getD_eq_getD_getElem?, e, Ne.symm e]
theorem wpAnyIn_inv (hin : inOrder ops = true) (Cl : (Nat → Bool) → Prop) (hCl : ∀ d, Closed md ops d → Cl d) (St : (Nat → Bool) → Act → World → Prop) (hstep : KeepAll F n P md ops Q Cl St ops.toList 0)
    (hdone : ∀ d a w, (∀ i, i < ops.size → d i = true) → St d a w → Q .normal a w) :
    ∀ (fuel : Nat) (listed : Array Bool) (a : Act) (w : World), listed.size = ops.size → left ops.size (fun j => listed.getD j false) ≤ fuel → Closed md ops (fun j => listed.getD j false) → St (fun j => listed.getD j false) a w → wpAnyIn F n P md ops Q fuel listed a w := by
  have hnil : ∀ (listed : Array Bool), listed.size = ops.size → Region.ready md ops listed = [] → ∀ i, i < ops.size → listed.getD i false = true := by
    intro listed hsz hr i
    induction i using Nat.strongRecOn with
    | ind i ih =>
      intro hi
      by_cases h : listed.getD i false = true
      · exact h
      · have hm : i ∈ Region.ready md ops listed := mem_ready.2 ⟨by
          have h' : listed.getD i false = false := by simpa using h
          rw [Array.getD_eq_getD_getElem?] at h' ⊢
          rw [Array.getElem?_eq_getElem (by omega)] at h' ⊢
          simpa using h', ops[i], Array.getElem?_eq_getElem hi, fun e he _ => ih e.on (by
            have h1 := List.all_eq_true.1 hin i (List.mem_range.2 hi)
            rw [Array.getElem?_eq_getElem hi] at h1
            simp only [Option.map_some, Option.getD_some, Array.all_eq_true_iff_forall_mem] at h1
            simpa using h1 e he) (by
            have h1 := List.all_eq_true.1 hin i (List.mem_range.2 hi)
            rw [Array.getElem?_eq_getElem hi] at h1
            simp only [Option.map_some, Option.getD_some, Array.all_eq_true_iff_forall_mem] at h1
            have := h1 e he
            simp at this
            omega)⟩
        rw [hr] at hm; cases hm
  intro fuel
  induction fuel with
  | zero =>
    intro listed a w hsz hl hcl hs
    have hall : ∀ i, i < ops.size → listed.getD i false = true := fun i hi => by
      cases h : listed.getD i false with
      | true => rfl
      | false => have := left_pos (d := fun j => listed.getD j false) hi h; omega
    refine ⟨?_, hdone _ _ _ hall hs⟩
    cases hr : Region.ready md ops listed with
    | nil => rfl
    | cons i l =>
      have hm : i ∈ Region.ready md ops listed := by rw [hr]; simp
      obtain ⟨h1, o, h2, _⟩ := mem_ready.1 hm
      have hi := (Array.getElem?_eq_some_iff.1 h2).1
      have := hall i hi
      rw [Array.getD_eq_getD_getElem?] at h1 this
      rw [Array.getElem?_eq_getElem (by omega)] at h1 this
      simp at h1 this
      rw [h1] at this; cases this
  | succ fuel ih =>
    intro listed a w hsz hl hcl hs
    refine ⟨fun hr => hdone _ _ _ (hnil listed hsz hr) hs, fun i hi => ?_⟩
    obtain ⟨h1, o, h2, h3⟩ := mem_ready.1 hi
    have hlt := (Array.getElem?_eq_some_iff.1 h2).1
    have hd : listed.getD i false = false := by
      rw [Array.getD_eq_getD_getElem?] at h1 ⊢
      rw [Array.getElem?_eq_getElem (by omega)] at h1 ⊢
      simpa using h1
    have hk := hstep.get i o (by simpa using h2)
    rw [Nat.zero_add] at hk
    have hcl2 : Closed md ops (mark (fun j => listed.getD j false) i) := by
      intro j oj hj hdj e he hb
      by_cases hji : j = i
      · subst hji
        rw [h2] at hj
        injection hj with hj
        subst hj
        have := h3 e he hb
        simp only [mark, Bool.or_eq_true]
        exact .inr this
      · have hdj' : listed.getD j false = true := by simpa [mark, hji] using hdj
        have := hcl j oj hj hdj' e he hb
        simp only [mark, Bool.or_eq_true]
        exact .inr this
    refine wpOpIn_step h2 fun K hK => hk (fun j => listed.getD j false) a w hd (hCl _ hcl) (hCl _ hcl2) hs K (fun a' w' h => hK a' w' (ih _ a' w' (by simpa using hsz) ?_ ?_ ?_))
    · rw [mark_get (by omega)]
      have := left_mark (d := fun j => listed.getD j false) hlt hd
      omega
    · rw [mark_get (by omega)]; exact hcl2
    · rw [mark_get (by omega)]; exact h
theorem wpIn_region_inv {id : Nat} {a : Act} {w : World} (hm : P.follows .mixedOrders = true) (hin : inOrder ops = true) (Cl : (Nat → Bool) → Prop) (hCl : ∀ d, Closed .any ops d → Cl d) (St : (Nat → Bool) → Act → World → Prop) (h0 : St (fun _ => false) a { w with drawn := w.drawn + 1 })
    (hstep : KeepAll F n P .any ops Q Cl St ops.toList 0) (hdone : ∀ d a w, (∀ i, i < ops.size → d i = true) → St d a w → Q .normal a w) : (Code.region id ops true).wpIn F n P Q a w := by
  refine wpIn_region_any hm (wpAnyIn_inv hin Cl hCl St hstep hdone ops.size _ a _ (by simp) ?_ ?_ ?_)
  · unfold left
    refine Nat.le_trans List.countP_le_length (by simp)
  · intro i o ho hd
    exfalso
    replace hd : (Array.replicate ops.size false).getD i false = true := hd
    rw [Array.getD_eq_getD_getElem?] at hd
    by_cases h : i < ops.size <;> simp [h] at hd
  · have e : (fun j => (Array.replicate ops.size false).getD j false) = fun _ => false := by
      funext j
      rw [Array.getD_eq_getD_getElem?]
      by_cases h : j < ops.size <;> simp [h]
    rw [e]; exact h0
end
end Go.Proofs.Ytghpjlohoehdnaa.Sep
