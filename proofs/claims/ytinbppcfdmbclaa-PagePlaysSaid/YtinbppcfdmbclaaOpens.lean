/- How a list of cells lies, as the printed contracts read it. No condition beyond those that each theorem names. -/
import Derived.Test.YtinbppcfdmbclaaPgx0
import Derived.Test.YtinbppcfdmbclaaRows
import Derived.WalkKit
import Derived.ProofKit
import Derived.OpenShut
import Derived.ShutString
import Derived.ChangeOld
import Derived.ChangeSame
import Derived.Below
import Derived.SizedLaws
import Derived.Deep.Slices
import Derived.Deep.Strs
namespace Go.Proofs.Ytinbppcfdmbclaa.Opens
open Go.ChangeShapes Go.WideShapes Go.ChangeAt Go.RowKit
open Go.Proofs.YtinbppcfdmbclaaW.PrintWords
open Go.Proofs.Ytinbppcfdmbclaa.Pg
set_option linter.unusedVariables false
theorem cells66 {H : Type} {enc : TypeId × Value → H} {w : World} {base : Nat} {spare : Nat → Bool} {held : Bool} {fuel : Nat} {cs : List Value} {x : DataW H × List MemPlace} (h : DataW.trod enc Try.prog w base spare held fuel 66 cs = some x) :
    ∃ y : S66, cs = [.string y.f0, .string y.f1] := by
  obtain ⟨y0, y1, n, _, hl, h0, h1⟩ := trod_struct2 Try.underlying66 h
  have hC : Try.prog.cellsOf 66 = 2 := by kernel_rfl
  have hC9 : Try.prog.cellsOf 9 = 1 := by kernel_rfl
  rw [hC] at hl
  match cs, hl with
  | [c0, c1], _ =>
    simp only [hC9, List.drop_zero, List.take_succ_cons, List.take_zero, List.drop_succ_cons] at h0 h1
    obtain ⟨a0, e0, _⟩ := DataW.trod_string Try.underlying9 h0
    obtain ⟨a1, e1, _⟩ := DataW.trod_string Try.underlying9 h1
    simp only [List.cons.injEq, and_true] at e0 e1
    subst e0 e1
    exact ⟨⟨a0, a1⟩, rfl⟩
theorem cells2 {w : World} {base : Nat} {a : Addr} {j : Nat} {c0 c1 : Value} (h : w.cells? base (a.add (j * 2)) 2 = some [c0, c1]) (i : Nat) (u : Value) (hu : [c0, c1][i]? = some u) : w.cell? (a.add (j * 2 + i)) = some u := by
  obtain ⟨_, hl, hc⟩ := World.cells?_some h
  rw [← Go.Deep.add_add]
  exact (hc i (by have := (List.getElem?_eq_some_iff.1 hu).1; simpa using this)).trans hu
theorem open22' {H : Type} {enc : TypeId × Value → H} {w : World} {base : Nat} {spare : Nat → Bool} {held : Bool} {fuel : Nat} {v : Value} {x : DataW H × List MemPlace} (h : DataW.trod enc Try.prog w base spare held fuel 22 [v] = some x) :
    ∃ (A : Option Addr) (c : Nat) (l : List S66), v = .slice A l.length c ∧ Kd.C k66 w A l.length l ∧ l.length ≤ c := by
  have hC : Try.prog.cellsOf 66 = 2 := by kernel_rfl
  rcases Go.Deep.open_slice Try.underlying22 h with ⟨hcs, _⟩ | ⟨a, len, cap, m, n, D, Pl, hcs, _, hl, hm, hmm, _, hel⟩
  · obtain rfl : v = .slice none 0 0 := by simpa using hcs
    exact ⟨none, 0, [], rfl, Kd.C_nil _ _, Nat.le_refl _⟩
  · obtain rfl : v = .slice (some a) len cap := by simpa using hcs
    have hlm : len ≤ m := by rw [hmm]; split <;> omega
    have each : ∀ i, i < len → ∃ y : S66, w.cells? base (a.add (i * 2)) 2 = some [.string y.f0, .string y.f1] := by
      intro i hi
      obtain ⟨cs', h1, h2⟩ := hel i (by omega)
      obtain ⟨y, rfl⟩ := cells66 h2
      rw [hC] at h1
      exact ⟨y, h1⟩
    obtain ⟨f, hf⟩ : ∃ f : Nat → S66, ∀ i, i < len → w.cells? base (a.add (i * 2)) 2 = some [.string (f i).f0, .string (f i).f1] :=
      ⟨fun i => if h : i < len then (each i h).choose else z66, fun i hi => by simp only [dif_pos hi]; exact (each i hi).choose_spec⟩
    refine ⟨some a, cap, (List.range len).map f, by simp, ?_, by simpa using hl⟩
    refine ⟨rfl, by simp; unfold maxLen at hm; omega, fun _ => ⟨a, rfl, fun j p hj => ?_⟩⟩
    obtain ⟨hjl, hjp⟩ := List.getElem?_eq_some_iff.1 hj
    have hjl' : j < len := by simpa using hjl
    obtain rfl : f j = p := by simpa using hjp
    refine ⟨_, rfl, k66_mk w (f j), fun i u hu => ?_⟩
    rw [show k66.sz = 2 from rfl]
    exact cells2 (hf j hjl') i u hu
/-- A list of cells that is handed over. -/
theorem open22 {H : Type} {enc : TypeId × Value → H} {w : World} {v : Value} {d : DataW H} {p : List MemPlace} {r : Reach} {b0 : Nat} (hv : Value.okWide Try.prog w r b0 22 v) (h : DataW.Trod enc Try.prog w 0 (fun _ => true) true 22 v d p) :
    ∃ (A : Option Addr) (c : Nat) (l : List S66), v = .slice A l.length c ∧ Kd.C k66 w A l.length l ∧ l.length ≤ c ∧ True := by
  obtain ⟨A, len, cap, rfl⟩ := okWide_slice Try.underlying22 hv
  obtain ⟨fuel, hf⟩ := h
  obtain ⟨A', c', l, h1, h2, h3⟩ := open22' hf
  exact ⟨A', c', l, h1, h2, h3, trivial⟩
end Go.Proofs.Ytinbppcfdmbclaa.Opens
