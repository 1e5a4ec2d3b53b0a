/- How a row of values lies, as the printed contracts read it. No condition beyond those that each theorem names. -/
import Derived.Test.YtccpbacnfhbdlaaDoorOpens
import Derived.Deep.Strs
namespace Go.Proofs.YtccpbacnfhbdlaaDoor.Opens
open Go.ChangeShapes Go.WideShapes Go.ChangeAt Go.RowKit
open Go.Proofs.YtccpbacnfhbdlaaDoorW.PrintWords
open Go.Proofs.YtccpbacnfhbdlaaDoor.Va
set_option linter.unusedVariables false
theorem cells23 {H : Type} {enc : TypeId × Value → H} {w : World} {base : Nat} {spare : Nat → Bool} {held : Bool} {fuel : Nat} {cs : List Value} {x : DataW H × List MemPlace} (h : DataW.trod enc Tryd.prog w base spare held fuel 23 cs = some x) :
    ∃ y : S23, cs = [.int .i64 y.f0, .int .i64 y.f1, .string y.f2] ∧ (Lit.int .i64 y.f0).wf = true ∧ (Lit.int .i64 y.f1).wf = true := by
  obtain ⟨y0, y1, y2, n, _, hl, h0, h1, h2⟩ := Go.Deep.trod_struct3 Tryd.underlying23 h
  have hC : Tryd.prog.cellsOf 23 = 3 := by kernel_rfl
  have hC3 : Tryd.prog.cellsOf 3 = 1 := by kernel_rfl
  have hC9 : Tryd.prog.cellsOf 9 = 1 := by kernel_rfl
  rw [hC] at hl
  match cs, hl with
  | [c0, c1, c2], _ =>
    simp only [hC3, hC9, List.drop_zero, List.take_succ_cons, List.take_zero, List.drop_succ_cons] at h0 h1 h2
    obtain ⟨a0, e0, _, w0⟩ := DataW.trod_int Tryd.underlying3 h0
    obtain ⟨a1, e1, _, w1⟩ := DataW.trod_int Tryd.underlying3 h1
    obtain ⟨a2, e2, _, w2⟩ := DataW.trod_string Tryd.underlying9 h2
    simp only [List.cons.injEq, and_true] at e0 e1 e2
    subst e0 e1 e2
    exact ⟨⟨a0, a1, a2⟩, rfl, w0, w1⟩
theorem cells3 {w : World} {base : Nat} {a : Addr} {j : Nat} {c0 c1 c2 : Value} (h : w.cells? base (a.add (j * 3)) 3 = some [c0, c1, c2]) (i : Nat) (u : Value) (hu : [c0, c1, c2][i]? = some u) : w.cell? (a.add (j * 3 + i)) = some u := by
  obtain ⟨_, hl, hc⟩ := World.cells?_some h
  rw [← Go.Deep.add_add]
  exact (hc i (by have := (List.getElem?_eq_some_iff.1 hu).1; simpa using this)).trans hu
theorem open30' {H : Type} {enc : TypeId × Value → H} {w : World} {base : Nat} {spare : Nat → Bool} {held : Bool} {fuel : Nat} {v : Value} {x : DataW H × List MemPlace} (h : DataW.trod enc Tryd.prog w base spare held fuel 30 [v] = some x) :
    ∃ (A : Option Addr) (c : Nat) (l : List S23), v = .slice A l.length c ∧ Kd.C k23 w A l.length l ∧ l.length ≤ c ∧ ∀ y ∈ l, (Lit.int .i64 y.f0).wf = true ∧ (Lit.int .i64 y.f1).wf = true := by
  have hC : Tryd.prog.cellsOf 23 = 3 := by kernel_rfl
  rcases Go.Deep.open_slice Tryd.underlying30 h with ⟨hcs, _⟩ | ⟨a, len, cap, m, n, D, Pl, hcs, _, hl, hm, hmm, _, hel⟩
  · obtain rfl : v = .slice none 0 0 := by simpa using hcs
    exact ⟨none, 0, [], rfl, Kd.C_nil _ _, Nat.le_refl _, fun y hy => by simp at hy⟩
  · obtain rfl : v = .slice (some a) len cap := by simpa using hcs
    have hlm : len ≤ m := by rw [hmm]; split <;> omega
    have each : ∀ i, i < len → ∃ y : S23, w.cells? base (a.add (i * 3)) 3 = some [.int .i64 y.f0, .int .i64 y.f1, .string y.f2] ∧ (Lit.int .i64 y.f0).wf = true ∧ (Lit.int .i64 y.f1).wf = true := by
      intro i hi
      obtain ⟨cs', h1, h2⟩ := hel i (by omega)
      obtain ⟨y, rfl, hw⟩ := cells23 h2
      rw [hC] at h1
      exact ⟨y, h1, hw⟩
    obtain ⟨f, hf⟩ : ∃ f : Nat → S23, ∀ i, i < len → w.cells? base (a.add (i * 3)) 3 = some [.int .i64 (f i).f0, .int .i64 (f i).f1, .string (f i).f2] ∧ (Lit.int .i64 (f i).f0).wf = true ∧ (Lit.int .i64 (f i).f1).wf = true :=
      ⟨fun i => if h : i < len then (each i h).choose else z23, fun i hi => by simp only [dif_pos hi]; exact (each i hi).choose_spec⟩
    refine ⟨some a, cap, (List.range len).map f, by simp, ?_, by simpa using hl, ?_⟩
    · refine ⟨rfl, by simp; unfold maxLen at hm; omega, fun _ => ⟨a, rfl, fun j p hj => ?_⟩⟩
      obtain ⟨hjl, hjp⟩ := List.getElem?_eq_some_iff.1 hj
      have hjl' : j < len := by simpa using hjl
      obtain rfl : f j = p := by simpa using hjp
      refine ⟨_, rfl, k23_mk w (f j), fun i u hu => ?_⟩
      rw [show k23.sz = 3 from rfl]
      exact cells3 (hf j hjl').1 i u hu
    · intro y hy
      obtain ⟨i, hi, rfl⟩ := List.mem_map.1 hy
      exact (hf i (by simpa using hi)).2
/-- A row that is handed over. -/
theorem open30 {H : Type} {enc : TypeId × Value → H} {w : World} {v : Value} {d : DataW H} {p : List MemPlace} {r : Reach} {b0 : Nat} (hv : Value.okWide Tryd.prog w r b0 30 v) (h : DataW.Trod enc Tryd.prog w 0 (fun _ => true) true 30 v d p) :
    ∃ (A : Option Addr) (c : Nat) (l : List S23), v = .slice A l.length c ∧ Kd.C k23 w A l.length l ∧ l.length ≤ c ∧ ∀ y ∈ l, (Lit.int .i64 y.f0).wf = true ∧ (Lit.int .i64 y.f1).wf = true := by
  obtain ⟨A, len, cap, rfl⟩ := okWide_slice Tryd.underlying30 hv
  obtain ⟨fuel, hf⟩ := h
  exact open30' hf
end Go.Proofs.YtccpbacnfhbdlaaDoor.Opens
