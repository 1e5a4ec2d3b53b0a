/- How the laws' lists of columns lie, as the printed contracts read them. No condition beyond those that each theorem names. -/
import Derived.Test.YtccpbacnfhbdlaaDoorOpens2
import Derived.ChangeSame
namespace Go.Proofs.YtccpbacnfhbdlaaDoor.Opens
open Go.ChangeShapes Go.WideShapes Go.ChangeAt Go.RowKit
open Go.Proofs.YtccpbacnfhbdlaaDoorW.PrintWords
open Go.Proofs.YtccpbacnfhbdlaaDoor.Va
set_option linter.unusedVariables false
theorem cells44 {H : Type} {enc : TypeId × Value → H} {w : World} {base : Nat} {spare : Nat → Bool} {held : Bool} {fuel : Nat} {cs : List Value} {x : DataW H × List MemPlace} (h : DataW.trod enc Tryd.prog w base spare held fuel 44 cs = some x) :
    ∃ y : S44, cs = [.int .i64 y.f0, .bool y.f1] ∧ (Lit.int .i64 y.f0).wf = true := by
  obtain ⟨y0, y1, n, _, hl, h0, h1⟩ := Go.ChangeShapes.trod_struct2 Tryd.underlying44 h
  have hC : Tryd.prog.cellsOf 44 = 2 := by kernel_rfl
  have hC3 : Tryd.prog.cellsOf 3 = 1 := by kernel_rfl
  have hC4 : Tryd.prog.cellsOf 4 = 1 := by kernel_rfl
  rw [hC] at hl
  match cs, hl with
  | [c0, c1], _ =>
    simp only [hC3, hC4, List.drop_zero, List.take_succ_cons, List.take_zero, List.drop_succ_cons] at h0 h1
    obtain ⟨a0, e0, _, w0⟩ := DataW.trod_int Tryd.underlying3 h0
    obtain ⟨a1, e1, _⟩ := DataW.trod_bool Tryd.underlying4 h1
    simp only [List.cons.injEq, and_true] at e0 e1
    subst e0 e1
    exact ⟨⟨a0, a1⟩, rfl, w0⟩
theorem cells2 {w : World} {base : Nat} {a : Addr} {j : Nat} {c0 c1 : Value} (h : w.cells? base (a.add (j * 2)) 2 = some [c0, c1]) (i : Nat) (u : Value) (hu : [c0, c1][i]? = some u) : w.cell? (a.add (j * 2 + i)) = some u := by
  obtain ⟨_, hl, hc⟩ := World.cells?_some h
  rw [← Go.Deep.add_add]
  exact (hc i (by have := (List.getElem?_eq_some_iff.1 hu).1; simpa using this)).trans hu
theorem open42' {H : Type} {enc : TypeId × Value → H} {w : World} {base : Nat} {spare : Nat → Bool} {held : Bool} {fuel : Nat} {v : Value} {x : DataW H × List MemPlace} (h : DataW.trod enc Tryd.prog w base spare held fuel 42 [v] = some x) :
    ∃ (A : Option Addr) (c : Nat) (l : List S44), v = .slice A l.length c ∧ Kd.C k44 w A l.length l ∧ l.length ≤ c ∧ ∀ y ∈ l, (Lit.int .i64 y.f0).wf = true := by
  have hC : Tryd.prog.cellsOf 44 = 2 := by kernel_rfl
  rcases Go.Deep.open_slice Tryd.underlying42 h with ⟨hcs, _⟩ | ⟨a, len, cap, m, n, D, Pl, hcs, _, hl, hm, hmm, _, hel⟩
  · obtain rfl : v = .slice none 0 0 := by simpa using hcs
    exact ⟨none, 0, [], rfl, Kd.C_nil _ _, Nat.le_refl _, fun y hy => by simp at hy⟩
  · obtain rfl : v = .slice (some a) len cap := by simpa using hcs
    have hlm : len ≤ m := by rw [hmm]; split <;> omega
    have each : ∀ i, i < len → ∃ y : S44, w.cells? base (a.add (i * 2)) 2 = some [.int .i64 y.f0, .bool y.f1] ∧ (Lit.int .i64 y.f0).wf = true := by
      intro i hi
      obtain ⟨cs', h1, h2⟩ := hel i (by omega)
      obtain ⟨y, rfl, hw⟩ := cells44 h2
      rw [hC] at h1
      exact ⟨y, h1, hw⟩
    obtain ⟨f, hf⟩ : ∃ f : Nat → S44, ∀ i, i < len → w.cells? base (a.add (i * 2)) 2 = some [.int .i64 (f i).f0, .bool (f i).f1] ∧ (Lit.int .i64 (f i).f0).wf = true :=
      ⟨fun i => if h : i < len then (each i h).choose else z44, fun i hi => by simp only [dif_pos hi]; exact (each i hi).choose_spec⟩
    refine ⟨some a, cap, (List.range len).map f, by simp, ?_, by simpa using hl, ?_⟩
    · refine ⟨rfl, by simp; unfold maxLen at hm; omega, fun _ => ⟨a, rfl, fun j p hj => ?_⟩⟩
      obtain ⟨hjl, hjp⟩ := List.getElem?_eq_some_iff.1 hj
      have hjl' : j < len := by simpa using hjl
      obtain rfl : f j = p := by simpa using hjp
      refine ⟨_, rfl, k44_mk w (f j), fun i u hu => ?_⟩
      rw [show k44.sz = 2 from rfl]
      exact cells2 (hf j hjl').1 i u hu
    · intro y hy
      obtain ⟨i, hi, rfl⟩ := List.mem_map.1 hy
      exact (hf i (by simpa using hi)).2
/-- A list of columns that is handed over. -/
theorem open42 {H : Type} {enc : TypeId × Value → H} {w : World} {v : Value} {d : DataW H} {p : List MemPlace} {r : Reach} {b0 : Nat} (hv : Value.okWide Tryd.prog w r b0 42 v) (h : DataW.Trod enc Tryd.prog w 0 (fun _ => true) true 42 v d p) :
    ∃ (A : Option Addr) (c : Nat) (l : List S44), v = .slice A l.length c ∧ Kd.C k44 w A l.length l ∧ l.length ≤ c ∧ ∀ y ∈ l, (Lit.int .i64 y.f0).wf = true := by
  obtain ⟨A, len, cap, rfl⟩ := okWide_slice Tryd.underlying42 hv
  obtain ⟨fuel, hf⟩ := h
  exact open42' hf
end Go.Proofs.YtccpbacnfhbdlaaDoor.Opens
