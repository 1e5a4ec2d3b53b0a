/- How a list of calls lies: its cells, read. No condition beyond those that each theorem names. -/
import Derived.Test.YtinbppcfdmbclaaOpens
import Derived.Lib.SmallJoins
namespace Go.Proofs.Ytinbppcfdmbclaa.Pg
open Go.RowKit Go.Proofs.YtinbppcfdmbclaaW.PrintWords Go.Proofs.YtinbppcfdmbclaaW.PrintLast Go.Proofs.YtinbppcfdmbclaaW.PrintMore
structure S52 where
  f0 : Int
  f1 : Int
  f2 : ByteArray
  f3 : ByteArray
def z52 : S52 := ⟨0, 0, ⟨#[]⟩, ⟨#[]⟩⟩
/-- a list of calls, as it lies -/
def AL (w : World) (A : Option Addr) (l : List S52) : Prop := ∀ i (h : i < l.length), ∃ ad, A = some ad ∧ w.cell? (ad.add (i * 4)) = some (.int .i64 l[i].f0) ∧ w.cell? ⟨(ad.add (i * 4)).block, (ad.add (i * 4)).off + 1, none⟩ = some (.int .i64 l[i].f1) ∧ w.cell? ⟨(ad.add (i * 4)).block, (ad.add (i * 4)).off + 2, none⟩ = some (.string l[i].f2) ∧ w.cell? ⟨(ad.add (i * 4)).block, (ad.add (i * 4)).off + 3, none⟩ = some (.string l[i].f3)
end Go.Proofs.Ytinbppcfdmbclaa.Pg
namespace Go.Proofs.Ytinbppcfdmbclaa.Opens
open Go.ChangeShapes Go.WideShapes Go.ChangeAt Go.RowKit
open Go.Proofs.YtinbppcfdmbclaaW.PrintWords
open Go.Proofs.Ytinbppcfdmbclaa.Pg
set_option linter.unusedVariables false
theorem cells52 {H : Type} {enc : TypeId × Value → H} {w : World} {base : Nat} {spare : Nat → Bool} {held : Bool} {fuel : Nat} {cs : List Value} {x : DataW H × List MemPlace} (h : DataW.trod enc Try.prog w base spare held fuel 52 cs = some x) :
    ∃ y : S52, cs = [.int .i64 y.f0, .int .i64 y.f1, .string y.f2, .string y.f3] := by
  obtain ⟨y0, y1, y2, y3, n, _, hl, h0, h1, h2, h3⟩ := Go.Joins.trod_struct4 Try.underlying52 h
  have hC : Try.prog.cellsOf 52 = 4 := by kernel_rfl
  have hC3 : Try.prog.cellsOf 3 = 1 := by kernel_rfl
  have hC9 : Try.prog.cellsOf 9 = 1 := by kernel_rfl
  rw [hC] at hl
  match cs, hl with
  | [c0, c1, c2, c3], _ =>
    simp only [hC3, hC9, List.drop_zero, List.take_succ_cons, List.take_zero, List.drop_succ_cons] at h0 h1 h2 h3
    obtain ⟨a0, e0, _, w0⟩ := DataW.trod_int Try.underlying3 h0
    obtain ⟨a1, e1, _, w1⟩ := DataW.trod_int Try.underlying3 h1
    obtain ⟨a2, e2, _⟩ := DataW.trod_string Try.underlying9 h2
    obtain ⟨a3, e3, _⟩ := DataW.trod_string Try.underlying9 h3
    simp only [List.cons.injEq, and_true] at e0 e1 e2 e3
    subst e0 e1 e2 e3
    exact ⟨⟨a0, a1, a2, a3⟩, rfl⟩
theorem cells4 {w : World} {base : Nat} {a : Addr} {j : Nat} {c0 c1 c2 c3 : Value} (h : w.cells? base (a.add (j * 4)) 4 = some [c0, c1, c2, c3]) (i : Nat) (u : Value) (hu : [c0, c1, c2, c3][i]? = some u) : w.cell? (a.add (j * 4 + i)) = some u := by
  obtain ⟨_, hl, hc⟩ := World.cells?_some h
  rw [← Go.Deep.add_add]
  exact (hc i (by have := (List.getElem?_eq_some_iff.1 hu).1; simpa using this)).trans hu
theorem open49' {H : Type} {enc : TypeId × Value → H} {w : World} {base : Nat} {spare : Nat → Bool} {held : Bool} {fuel : Nat} {v : Value} {x : DataW H × List MemPlace} (h : DataW.trod enc Try.prog w base spare held fuel 49 [v] = some x) :
    ∃ (A : Option Addr) (c : Nat) (l : List S52), v = .slice A l.length c ∧ AL w A l ∧ l.length ≤ 9223372036854775807 := by
  have hC : Try.prog.cellsOf 52 = 4 := by kernel_rfl
  rcases Go.Deep.open_slice Try.underlying49 h with ⟨hcs, _⟩ | ⟨a, len, cap, m, n, D, Pl, hcs, _, hl, hm, hmm, _, hel⟩
  · obtain rfl : v = .slice none 0 0 := by simpa using hcs
    exact ⟨none, 0, [], rfl, fun i h => absurd h (Nat.not_lt_zero i), Nat.zero_le _⟩
  · obtain rfl : v = .slice (some a) len cap := by simpa using hcs
    have hlm : len ≤ m := by rw [hmm]; split <;> omega
    have each : ∀ i, i < len → ∃ y : S52, w.cells? base (a.add (i * 4)) 4 = some [.int .i64 y.f0, .int .i64 y.f1, .string y.f2, .string y.f3] := by
      intro i hi
      obtain ⟨cs', h1, h2⟩ := hel i (by omega)
      obtain ⟨y, rfl⟩ := cells52 h2
      rw [hC] at h1
      exact ⟨y, h1⟩
    obtain ⟨f, hf⟩ : ∃ f : Nat → S52, ∀ i, i < len → w.cells? base (a.add (i * 4)) 4 = some [.int .i64 (f i).f0, .int .i64 (f i).f1, .string (f i).f2, .string (f i).f3] :=
      ⟨fun i => if h : i < len then (each i h).choose else z52, fun i hi => by simp only [dif_pos hi]; exact (each i hi).choose_spec⟩
    refine ⟨some a, cap, (List.range len).map f, by simp, ?_, by simp; unfold maxLen at hm; omega⟩
    intro j hj
    have hjl : j < len := by simpa using hj
    have e : ((List.range len).map f)[j] = f j := by simp
    rw [e]
    refine ⟨a, rfl, cells4 (hf j hjl) 0 _ rfl, ?_, ?_, ?_⟩
    · rw [← add_field _ _ 1 (by omega)]; exact cells4 (hf j hjl) 1 _ rfl
    · rw [← add_field _ _ 2 (by omega)]; exact cells4 (hf j hjl) 2 _ rfl
    · rw [← add_field _ _ 3 (by omega)]; exact cells4 (hf j hjl) 3 _ rfl
/-- A list of calls that is handed over. -/
theorem open49 {H : Type} {enc : TypeId × Value → H} {w : World} {v : Value} {d : DataW H} {p : List MemPlace} {r : Reach} {b0 : Nat} (hv : Value.okWide Try.prog w r b0 49 v) (h : DataW.Trod enc Try.prog w 0 (fun _ => true) true 49 v d p) :
    ∃ (A : Option Addr) (c : Nat) (l : List S52), v = .slice A l.length c ∧ AL w A l ∧ l.length ≤ 9223372036854775807 ∧ True := by
  obtain ⟨A, len, cap, rfl⟩ := okWide_slice Try.underlying49 hv
  obtain ⟨fuel, hf⟩ := h
  obtain ⟨A', c', l, h1, h2, h3⟩ := open49' hf
  exact ⟨A', c', l, h1, h2, h3, trivial⟩
end Go.Proofs.Ytinbppcfdmbclaa.Opens
