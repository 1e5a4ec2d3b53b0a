/- How a list of rows that is handed over lies. No condition beyond those that each theorem names. -/
import Derived.Test.YtghpjlohoehdnaaSfH
import Derived.Test.YtghpjlohoehdnaaRows
import Derived.WalkKit
import Derived.ProofKit
import Derived.OpenShut
import Derived.ShutString
import Derived.ChangeOld
import Derived.ChangeSame
import Derived.Below
import Derived.SizedLaws
import Derived.Deep.Slices
import Derived.Deep.Strs
namespace Go.Proofs.Ytghpjlohoehdnaa.Sep
open Go Go.ChangeShapes Go.WideShapes Go.ChangeAt Go.RowKit
set_option linter.unusedVariables false
set_option maxRecDepth 100000
theorem cells45 {H : Type} {enc : TypeId × Value → H} {w : World} {base : Nat} {spare : Nat → Bool} {held : Bool} {fuel : Nat} {cs : List Value} {x : DataW H × List MemPlace} (h : DataW.trod enc Try.prog w base spare held fuel 45 cs = some x) :
    ∃ y : V3, cs = cells3 y := by
  obtain ⟨y0, y1, y2, n, _, hl, h0, h1, h2⟩ := Go.Deep.trod_struct3 Try.underlying45 h
  have hC : Try.prog.cellsOf 45 = 3 := by kernel_rfl
  have hC3 : Try.prog.cellsOf 3 = 1 := by kernel_rfl
  have hC9 : Try.prog.cellsOf 9 = 1 := by kernel_rfl
  rw [hC] at hl
  match cs, hl with
  | [c0, c1, c2], _ =>
    simp only [hC3, hC9, List.drop_zero, List.take_succ_cons, List.take_zero, List.drop_succ_cons] at h0 h1 h2
    obtain ⟨a0, e0, _⟩ := DataW.trod_int Try.underlying3 h0
    obtain ⟨a1, e1, _⟩ := DataW.trod_int Try.underlying3 h1
    obtain ⟨a2, e2, _⟩ := DataW.trod_string Try.underlying9 h2
    simp only [List.cons.injEq, and_true] at e0 e1 e2
    subst e0 e1 e2
    exact ⟨⟨a0, a1, a2⟩, rfl⟩
theorem cell_lt' {w : World} {a : Addr} {v : Value} (h : w.cell? a = some v) : a.block < w.heap.size := by
  by_cases hlt : a.block < w.heap.size
  · exact hlt
  · unfold World.cell? at h
    rw [Array.getElem?_eq_none (by omega)] at h
    simp at h
theorem flat_get : ∀ (row : List V3) (j : Nat) (u : Value), (flat row)[j]? = some u → ∃ i r v, row[i]? = some v ∧ j = i * 3 + r ∧ (cells3 v)[r]? = some u
  | [], j, u, h => by simp [flat] at h
  | v :: l, 0, u, h => ⟨0, 0, v, rfl, rfl, by simpa [flat, cells3] using h⟩
  | v :: l, 1, u, h => ⟨0, 1, v, rfl, rfl, by simpa [flat, cells3] using h⟩
  | v :: l, 2, u, h => ⟨0, 2, v, rfl, rfl, by simpa [flat, cells3] using h⟩
  | v :: l, j + 3, u, h => by
    obtain ⟨i, r, v', h1, h2, h3⟩ := flat_get l j u (by simpa [flat] using h)
    exact ⟨i + 1, r, v', by simpa using h1, by omega, h3⟩
theorem spot_none {w : World} {a : Addr} {v : Value} (h : w.cell? a = some v) : a.spot = none := by
  unfold World.cell? at h
  split at h
  · split at h
    · cases h
    · rename_i hn; cases hs : a.spot with
      | none => rfl
      | some x => rw [hs] at hn; simp at hn
  · cases h
theorem add_spot (a : Addr) (n : Nat) (h : (a.add n).spot = none) (hn : n = 0 → a.spot = none) : a.add n = ⟨a.block, a.off + n, none⟩ := by
  unfold Addr.add at *
  split
  · rename_i e; subst e
    have := hn rfl
    obtain ⟨b, o, s⟩ := a
    simp at this; subst this; rfl
  · rfl
theorem open48 {H : Type} {enc : TypeId × Value → H} {w : World} {spare : Nat → Bool} {held : Bool} {fuel : Nat} {v : Value} {x : DataW H × List MemPlace} (h : DataW.trod enc Try.prog w 0 spare held fuel 48 [v] = some x) :
    ∃ q row, v = RV.v q ∧ Cont w q row := by
  have hC : Try.prog.cellsOf 45 = 3 := by kernel_rfl
  rcases Go.Deep.open_slice Try.underlying48 h with ⟨hcs, _⟩ | ⟨a, len, cap, m, n, D, Pl, hcs, _, hl, hm, hmm, _, hel⟩
  · obtain rfl : v = .slice none 0 0 := by simpa using hcs
    exact ⟨RV.nil, [], rfl, .inl ⟨rfl, rfl⟩⟩
  · obtain rfl : v = .slice (some a) len cap := by simpa using hcs
    have hlm : len ≤ m := by rw [hmm]; split <;> omega
    by_cases h0 : len = 0
    · subst h0
      exact ⟨⟨some a, 0, cap⟩, [], rfl, .inl ⟨rfl, rfl⟩⟩
    have each : ∀ i, i < len → ∃ y : V3, w.cells? 0 (a.add (i * 3)) 3 = some (cells3 y) := by
      intro i hi
      obtain ⟨cs', h1, h2⟩ := hel i (by omega)
      obtain ⟨y, rfl⟩ := cells45 h2
      rw [hC] at h1
      exact ⟨y, h1⟩
    obtain ⟨f, hf⟩ : ∃ f : Nat → V3, ∀ i, i < len → w.cells? 0 (a.add (i * 3)) 3 = some (cells3 (f i)) :=
      ⟨fun i => if h : i < len then (each i h).choose else ⟨0, 0, ⟨#[]⟩⟩, fun i hi => by simp only [dif_pos hi]; exact (each i hi).choose_spec⟩
    have hcell : ∀ i r, i < len → r < 3 → w.cell? (a.add (i * 3 + r)) = (cells3 (f i))[r]? := by
      intro i r hi hr
      obtain ⟨_, _, hc⟩ := World.cells?_some (hf i hi)
      rw [← Go.Deep.add_add]
      exact hc r hr
    have ha0 : a.spot = none := by
      have := hcell 0 0 (by omega) (by omega)
      exact spot_none (a := a) (v := .int .i64 (f 0).k) this
    obtain ⟨b, off, sp⟩ := a
    simp at ha0
    subst ha0
    refine ⟨⟨some ⟨b, off, none⟩, len, cap⟩, (List.range len).map f, rfl, .inr ⟨b, off, rfl, by simp, ?_, fun j u hj => ?_⟩⟩
    · have := hcell 0 0 (by omega) (by omega)
      have hlt := cell_lt' (v := .int .i64 (f 0).k) this
      exact hlt
    · obtain ⟨i, r, v', h1, h2, h3⟩ := flat_get _ j u hj
      obtain ⟨hi1, hi2⟩ := List.getElem?_eq_some_iff.1 h1
      have hi : i < len := by simpa using hi1
      obtain rfl : f i = v' := by simpa using hi2
      have hr : r < 3 := by have := (List.getElem?_eq_some_iff.1 h3).1; simpa [cells3] using this
      have := hcell i r hi hr
      rw [Addr.add_lit, ← h2, h3] at this
      exact this
theorem open22' {H : Type} {enc : TypeId × Value → H} {w : World} {spare : Nat → Bool} {held : Bool} {fuel : Nat} {v : Value} {x : DataW H × List MemPlace} (h : DataW.trod enc Try.prog w 0 spare held fuel 22 [v] = some x) :
    ∃ rows, Raw w v rows := by
  have hC : Try.prog.cellsOf 48 = 1 := by kernel_rfl
  rcases Go.Deep.open_slice1 Try.underlying22 hC h with ⟨hcs, _⟩ | ⟨a, len, cap, m, n, V, D, Pl, hcs, _, hl, hm, hmm, _, hel⟩
  · obtain rfl : v = .slice none 0 0 := by simpa using hcs
    exact ⟨[], .inl ⟨none, 0, rfl, rfl⟩⟩
  · obtain rfl : v = .slice (some a) len cap := by simpa using hcs
    have hlm : len ≤ m := by rw [hmm]; split <;> omega
    by_cases h0 : len = 0
    · subst h0
      exact ⟨[], .inl ⟨some a, cap, rfl, rfl⟩⟩
    have each : ∀ i, i < len → ∃ y : RV × List V3, w.cell? (a.add i) = some (RV.v y.1) ∧ Cont w y.1 y.2 := by
      intro i hi
      obtain ⟨h1, h2⟩ := hel i (by omega)
      obtain ⟨q, row, e, hc⟩ := open48 h2
      exact ⟨(q, row), by rw [h1, e], hc⟩
    obtain ⟨f, hf⟩ : ∃ f : Nat → RV × List V3, ∀ i, i < len → w.cell? (a.add i) = some (RV.v (f i).1) ∧ Cont w (f i).1 (f i).2 :=
      ⟨fun i => if h : i < len then (each i h).choose else (RV.nil, []), fun i hi => by simp only [dif_pos hi]; exact (each i hi).choose_spec⟩
    have hc0 := (hf 0 (by omega)).1
    have ha0 : a.spot = none := spot_none (a := a) hc0
    have hlt := cell_lt' (a := a) hc0
    obtain ⟨b, off, sp⟩ := a
    simp at ha0
    subst ha0
    refine ⟨(List.range len).map (fun i => (f i).2), .inr ⟨b, off, cap, (List.range len).map (fun i => (f i).1), by simp, hlt, fun j hj => ?_, ?_⟩⟩
    · have hj' : j < len := by simpa using hj
      have := (hf j hj').1
      rw [Addr.add_lit] at this
      rw [this]; simp [hj']
    · have hall : ∀ l : List Nat, (∀ i ∈ l, i < len) → All2 (fun q row => Cont w q row) (l.map fun i => (f i).1) (l.map fun i => (f i).2) := by
        intro l
        induction l with
        | nil => intro _; trivial
        | cons i l ih => intro h; exact ⟨(hf i (h i (List.mem_cons_self ..))).2, ih fun k hk => h k (List.mem_cons_of_mem _ hk)⟩
      exact hall _ (fun i hi => List.mem_range.1 hi)
/-- A list of rows that is handed over. -/
theorem open22 {H : Type} {enc : TypeId × Value → H} {w : World} {v : Value} {d : DataW H} {p : List MemPlace} {r : Reach} {b0 : Nat} (hv : Value.okWide Try.prog w r b0 22 v) (h : DataW.Trod enc Try.prog w 0 (fun _ => true) true 22 v d p) :
    ∃ rows, Raw w v rows := by
  obtain ⟨A, len, cap, rfl⟩ := okWide_slice Try.underlying22 hv
  obtain ⟨fuel, hf⟩ := h
  exact open22' hf
end Go.Proofs.Ytghpjlohoehdnaa.Sep
