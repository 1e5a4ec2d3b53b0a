/- The law ValueRows, as a plain function: it is true. No condition. -/
import Derived.Test.YtccpbacnfhbdlaaDoorVax14
import Derived.Test.YtccpbacnfhbdlaaDoorPureVal1
import Derived.Test.YtccpbacnfhbdlaaDoorPureAwake
namespace Go.Proofs.YtccpbacnfhbdlaaDoor.Pure
open Go.RowKit Go.Proofs.YtccpbacnfhbdlaaDoor.Va Go.Proofs.YtccpbacnfhbdlaaDoor.PureVal
set_option linter.unusedVariables false
namespace Rows5
def Ev {α : Type} (f : Nat → Option α) (r : α) : Prop := ∃ k0, ∀ k, k0 ≤ k → f k = some r
theorem Ev.step {α : Type} {f : Nat → Option α} {r : α} (g : Nat → Option α) (h : Ev g r) (e : ∀ k, f (k + 1) = g k) : Ev f r := by
  obtain ⟨k0, h0⟩ := h
  refine ⟨k0 + 1, fun k hk => ?_⟩
  obtain ⟨j, rfl⟩ : ∃ j, k = j + 1 := ⟨k - 1, by omega⟩
  rw [e]; exact h0 j (by omega)
theorem Ev.at1 {α : Type} {f : Nat → Option α} {r : α} (e : ∀ k, f (k + 1) = some r) : Ev f r := Ev.step (fun _ => some r) ⟨0, fun _ _ => rfl⟩ e
theorem w64 {i : Nat} (h : i < 4611686018427387904) : wrap64 ((i : Int) + 1) = ((i + 1 : Nat) : Int) := by unfold wrap64; omega
theorem light_l1 (L : List (List S23)) (i : Nat) (hi : i < L.length) (hR : (rd_L4 L (i : Int)).length ≤ 300) (hn : ∃ b, Ev (fun k => quaysidelaw05_light.l0 k L (wrap64 ((i : Int) + 1))) b) :
    ∀ n j : Nat, j ≤ (rd_L4 L (i : Int)).length → (rd_L4 L (i : Int)).length - j ≤ n → ∃ b, Ev (fun k => quaysidelaw05_light.l1 k L (i : Int) (j : Int)) b := by
  intro n
  induction n with
  | zero =>
    intro j h1 h2
    obtain ⟨b, hb⟩ := hn
    exact ⟨b, Ev.step _ hb fun k => by show quaysidelaw05_light.l1 (k + 1) _ _ _ = _; rw [quaysidelaw05_light.l1, if_pos (by omega), if_pos (by omega), if_neg (by omega)]⟩
  | succ n ih =>
    intro j h1 h2
    by_cases hj : j < (rd_L4 L (i : Int)).length
    · by_cases hc : (((rd_T23 (rd_L4 L (i : Int)) (j : Int)).f2).size : Int) > 200
      · exact ⟨false, Ev.at1 fun k => by show quaysidelaw05_light.l1 (k + 1) _ _ _ = _; rw [quaysidelaw05_light.l1, if_pos (by omega), if_pos (by omega), if_pos (by omega), if_pos (by omega), if_pos hc]⟩
      · obtain ⟨b, hb⟩ := ih (j + 1) (by omega) (by omega)
        exact ⟨b, Ev.step _ hb fun k => by show quaysidelaw05_light.l1 (k + 1) _ _ _ = _; rw [quaysidelaw05_light.l1, if_pos (by omega), if_pos (by omega), if_pos (by omega), if_pos (by omega), if_neg hc, w64 (by omega)]⟩
    · obtain ⟨b, hb⟩ := hn
      exact ⟨b, Ev.step _ hb fun k => by show quaysidelaw05_light.l1 (k + 1) _ _ _ = _; rw [quaysidelaw05_light.l1, if_pos (by omega), if_pos (by omega), if_neg (by omega)]⟩
theorem light_l0 (L : List (List S23)) (hL : L.length ≤ 300) : ∀ n i : Nat, i ≤ L.length → L.length - i ≤ n → ∃ b, Ev (fun k => quaysidelaw05_light.l0 k L (i : Int)) b := by
  intro n
  induction n with
  | zero =>
    intro i h1 h2
    exact ⟨true, Ev.at1 fun k => by show quaysidelaw05_light.l0 (k + 1) _ _ = _; rw [quaysidelaw05_light.l0, if_neg (by omega)]⟩
  | succ n ih =>
    intro i h1 h2
    by_cases hi : i < L.length
    · by_cases hc : ((rd_L4 L (i : Int)).length : Int) > 300
      · exact ⟨false, Ev.at1 fun k => by show quaysidelaw05_light.l0 (k + 1) _ _ = _; rw [quaysidelaw05_light.l0, if_pos (by omega), if_pos (by omega), if_pos hc]⟩
      · have h3 := ih (i + 1) (by omega) (by omega)
        rw [← w64 (i := i) (by omega)] at h3
        obtain ⟨b, hb⟩ := light_l1 L i hi (by omega) h3 300 0 (by omega) (by omega)
        exact ⟨b, Ev.step _ hb fun k => by show quaysidelaw05_light.l0 (k + 1) _ _ = _; rw [quaysidelaw05_light.l0, if_pos (by omega), if_pos (by omega), if_neg hc]; rfl⟩
    · exact ⟨true, Ev.at1 fun k => by show quaysidelaw05_light.l0 (k + 1) _ _ = _; rw [quaysidelaw05_light.l0, if_neg (by omega)]⟩
theorem oneC_three (l0 l1 : List S23) (s : S44) : oneC l0 l1 s = -1 ∨ oneC l0 l1 s = 0 ∨ oneC l0 l1 s = 1 := cV_three _ _ _ _ _ _
theorem oneC_anti (l0 l1 : List S23) (s : S44) : oneC l1 l0 s = -oneC l0 l1 s := cV_anti _ _ _ _ _ _
theorem cRows_three (l0 l1 : List S23) : ∀ l2 : List S44, cRows l0 l1 l2 = -1 ∨ cRows l0 l1 l2 = 0 ∨ cRows l0 l1 l2 = 1
  | [] => by simp [cRows]
  | s :: t => by
    have := oneC_three l0 l1 s
    have := cRows_three l0 l1 t
    unfold cRows
    split
    · assumption
    · split <;> (try unfold wrap64) <;> omega
def turn (s : S44) : S44 := ⟨s.f0, !s.f1⟩
theorem cRows_turn (l0 l1 : List S23) : ∀ l2 : List S44, cRows l0 l1 (l2.map turn) = -cRows l0 l1 l2
  | [] => by simp [cRows]
  | s :: t => by
    have h1 := oneC_three l0 l1 s
    rw [List.map_cons, cRows, cRows, cRows_turn l0 l1 t, show oneC l0 l1 (turn s) = oneC l0 l1 s from rfl]
    split
    · rfl
    · cases hb : s.f1 <;> simp [turn, hb, wrap64] <;> omega
theorem cRows_anti (l0 l1 : List S23) : ∀ l2 : List S44, cRows l1 l0 l2 = -cRows l0 l1 l2
  | [] => by simp [cRows]
  | s :: t => by
    have h1 := oneC_three l0 l1 s
    rw [cRows, cRows, cRows_anti l0 l1 t, oneC_anti l0 l1 s]
    by_cases h : oneC l0 l1 s = 0
    · rw [if_pos (by omega), if_pos h]
    · rw [if_neg (by omega), if_neg h]
      split <;> (try unfold wrap64) <;> omega
theorem at_r (l : List S23) (k : Int) : quaysideref05_at.f l k = some ((atV l k).f0, (atV l k).f1, (atV l k).f2) := at_f l k
theorem drop_rd (l2 : List S44) (i : Nat) (h : i < l2.length) : l2.drop i = rd_T44 l2 (i : Int) :: l2.drop (i + 1) := by
  rw [List.drop_eq_getElem_cons h]; congr 1
  simp [rd_T44, List.getD_eq_getElem?_getD, List.getElem?_eq_getElem h]
theorem take_rd (l2 : List S44) (i : Nat) (h : i < l2.length) : l2.take (i + 1) = l2.take i ++ [rd_T44 l2 (i : Int)] := by
  rw [List.take_succ_eq_append_getElem h]; congr 2
  simp [rd_T44, List.getD_eq_getElem?_getD, List.getElem?_eq_getElem h]
theorem ref_l0 (l0 l1 : List S23) (l2 : List S44) (hL : l2.length ≤ 20) : ∀ n i : Nat, i ≤ l2.length → l2.length - i ≤ n → Ev (fun k => quaysideref05_CompareRows.l0 k l0 l1 l2 (i : Int)) (cRows l0 l1 (l2.drop i)) := by
  intro n
  induction n with
  | zero =>
    intro i h1 h2
    obtain rfl : i = l2.length := by omega
    exact Ev.at1 fun k => by show quaysideref05_CompareRows.l0 (k + 1) _ _ _ _ = _; rw [quaysideref05_CompareRows.l0, if_neg (by omega)]; simp [cRows]
  | succ n ih =>
    intro i h1 h2
    by_cases hi : i < l2.length
    · have hh := oneC_three l0 l1 (rd_T44 l2 (i : Int))
      have h3 := ih (i + 1) (by omega) (by omega)
      rw [drop_rd l2 i hi, cRows]
      have hu : ∀ k, quaysideref05_CompareRows.l0 (k + 1) l0 l1 l2 (i : Int) = (if (rd_T44 l2 (i : Int)).f1 = true then (if (wrap64 (-oneC l0 l1 (rd_T44 l2 (i : Int)))) = 0 then (quaysideref05_CompareRows.l0 k l0 l1 l2 ((i + 1 : Nat) : Int)) else (some (wrap64 (-oneC l0 l1 (rd_T44 l2 (i : Int)))))) else (if oneC l0 l1 (rd_T44 l2 (i : Int)) = 0 then (quaysideref05_CompareRows.l0 k l0 l1 l2 ((i + 1 : Nat) : Int)) else (some (oneC l0 l1 (rd_T44 l2 (i : Int)))))) := fun k => by
        rw [quaysideref05_CompareRows.l0, if_pos (by omega), if_pos (by omega), at_r, Option.bind_some, at_r, Option.bind_some, rcompare_f, Option.bind_some, w64 (by omega)]
        rfl
      by_cases h0 : oneC l0 l1 (rd_T44 l2 (i : Int)) = 0
      · rw [if_pos h0]
        refine Ev.step _ h3 fun k => ?_
        show quaysideref05_CompareRows.l0 (k + 1) _ _ _ _ = _
        rw [hu, h0]; simp [wrap64]
      · rw [if_neg h0]
        refine Ev.at1 fun k => ?_
        show quaysideref05_CompareRows.l0 (k + 1) _ _ _ _ = _
        rw [hu]
        split
        · rw [if_neg (by unfold wrap64; omega)]
        · rfl
    · obtain rfl : i = l2.length := by omega
      exact Ev.at1 fun k => by show quaysideref05_CompareRows.l0 (k + 1) _ _ _ _ = _; rw [quaysideref05_CompareRows.l0, if_neg (by omega)]; simp [cRows]
theorem law_l0 (l0 l1 : List S23) (l2 : List S44) (hL : l2.length ≤ 20) : ∀ n i : Nat, i ≤ l2.length → l2.length - i ≤ n → Ev (fun k => quaysidelaw05_ValueRows.l0 k l0 l1 l2 ((l2.take i).map turn) (i : Int)) true := by
  intro n
  have fin : Ev (fun k => quaysidelaw05_ValueRows.l0 k l0 l1 l2 ((l2.take l2.length).map turn) (l2.length : Int)) true := by
    obtain ⟨K, hK⟩ := awake_ex
    obtain ⟨K2, h2⟩ := ref_l0 l0 l1 l2 hL 20 0 (by omega) (by omega)
    refine Ev.step (fun k => (quaysideref05_CompareRows.f k l0 l1 l2).bind fun t193 => if cRows l0 l1 l2 = t193 then ((quaysidelaw05_awake.f k).bind fun t => some t) else some false) ⟨K + K2, fun k hk => ?_⟩ fun k => ?_
    · have e1 : quaysideref05_CompareRows.f k l0 l1 l2 = some (cRows l0 l1 l2) := h2 k (by omega)
      have e2 : quaysidelaw05_awake.f k = some true := by
        have := hK (k - K); rwa [show K + (k - K) = k from by omega] at this
      show (quaysideref05_CompareRows.f k l0 l1 l2).bind _ = _
      rw [e1, Option.bind_some, if_pos rfl, e2, Option.bind_some]
    · show quaysidelaw05_ValueRows.l0 (k + 1) _ _ _ _ _ = _
      have h3 := cRows_three l0 l1 l2
      rw [quaysidelaw05_ValueRows.l0, if_neg (by omega), value_CompareRows.f, value_CompareRows.f, value_CompareRows.f, Option.bind_some, List.take_length]
      simp only [Option.bind_some]
      rw [cRows_turn, cRows_anti l0 l1 l2, if_pos (show cRows l0 l1 l2 = wrap64 (- -cRows l0 l1 l2) from by unfold wrap64; omega), if_pos (show cRows l0 l1 l2 = wrap64 (- -cRows l0 l1 l2) from by unfold wrap64; omega)]
  induction n with
  | zero =>
    intro i h1 h2
    obtain rfl : i = l2.length := by omega
    exact fin
  | succ n ih =>
    intro i h1 h2
    by_cases hi : i < l2.length
    · refine Ev.step _ (ih (i + 1) (by omega) (by omega)) fun k => ?_
      show quaysidelaw05_ValueRows.l0 (k + 1) _ _ _ _ _ = _
      rw [quaysidelaw05_ValueRows.l0, if_pos (by omega), if_pos (by omega), if_pos (by simp; omega), w64 (by omega), take_rd l2 i hi, List.map_append]
      rfl
    · obtain rfl : i = l2.length := by omega
      exact fin
end Rows5
open Rows5 in
theorem ValueRows (l0 l1 : List S23) (l2 : List S44) (f0 : ∀ y ∈ l0, (Lit.int .i64 y.f0).wf = true ∧ (Lit.int .i64 y.f1).wf = true) (f1 : ∀ y ∈ l1, (Lit.int .i64 y.f0).wf = true ∧ (Lit.int .i64 y.f1).wf = true) (f2 : ∀ y ∈ l2, (Lit.int .i64 y.f0).wf = true) :
    ∃ k, quaysidelaw05_ValueRows.f k l0 l1 l2 = some true := by
  obtain ⟨b, K1, h1⟩ := light_l0 [l0, l1] (by simp) 2 0 (by simp) (by simp)
  obtain ⟨K, hK⟩ := awake_ex
  have base : ∀ k, K ≤ k → quaysidelaw05_ValueRows.j0 (k + 1) l0 l1 l2 true = some true := fun k hk => by
    have e2 : quaysidelaw05_awake.f k = some true := by
      have := hK (k - K); rwa [show K + (k - K) = k from by omega] at this
    rw [quaysidelaw05_ValueRows.j0, if_pos rfl, e2, Option.bind_some]
  have hf : ∀ k, K1 ≤ k → quaysidelaw05_ValueRows.f k l0 l1 l2 = if b = true then (quaysidelaw05_ValueRows.j0 k l0 l1 l2 (decide ((l2.length : Int) > 20))) else (quaysidelaw05_ValueRows.j0 k l0 l1 l2 true) := fun k hk => by
    have e1 : quaysidelaw05_light.f k [l0, l1] = some b := h1 k hk
    rw [quaysidelaw05_ValueRows.f, e1, Option.bind_some]
  by_cases hb : b = true
  · by_cases hc : (l2.length : Int) > 20
    · exact ⟨K1 + K + 1, by rw [hf _ (by omega), if_pos hb, decide_eq_true hc]; exact base _ (by omega)⟩
    · obtain ⟨K3, h3⟩ := law_l0 l0 l1 l2 (by omega) 20 0 (by omega) (by omega)
      refine ⟨K1 + K3 + 1, ?_⟩
      rw [hf _ (by omega), if_pos hb, decide_eq_false hc, quaysidelaw05_ValueRows.j0, if_neg (by decide)]
      have := h3 (K1 + K3) (by omega)
      simpa using this
  · exact ⟨K1 + K + 1, by rw [hf _ (by omega), if_neg hb]; exact base _ (by omega)⟩
end Go.Proofs.YtccpbacnfhbdlaaDoor.Pure
