/- The reference's SameRows, over lists of rows. No condition beyond those that each theorem names. -/
import Derived.Test.YtghpjlohoehdnaaSfC
namespace Go.Proofs.Ytghpjlohoehdnaa.Sep
open Go Go.RowKit Go.Shelf
set_option linter.unusedVariables false
set_option linter.unusedSimpArgs false
def eqRows : List (List V3) → List (List V3) → Bool
  | [], [] => true
  | u :: r, v :: s => eqRow u v && eqRows r s
  | _, _ => false
theorem eqRows_len : ∀ r s : List (List V3), r.length ≠ s.length → eqRows r s = false
  | [], [], h => absurd rfl h
  | [], _ :: _, _ => rfl
  | _ :: _, [], _ => rfl
  | u :: r, v :: s, h => by rw [eqRows, eqRows_len r s (by simpa using h), Bool.and_false]
theorem eqV_refl (v : V3) : eqV v v = true := by simp [eqV]
theorem eqRow_refl : ∀ r : List V3, eqRow r r = true
  | [] => rfl
  | v :: r => by rw [eqRow, eqV_refl, eqRow_refl r]; rfl
theorem eqRows_refl : ∀ r : List (List V3), eqRows r r = true
  | [] => rfl
  | v :: r => by rw [eqRows, eqRow_refl, eqRows_refl r]; rfl
set_option maxRecDepth 100000 in
set_option maxHeartbeats 2000000 in
theorem sameRows_some (b1 o1 c1 b2 o2 c2 k : Nat) (rs1 rs2 : List RV) (r1 r2 : List (List V3)) (h1 : rs1.length = k) (h2 : rs2.length = k) (hk : k ≤ 100000) (W : World)
    (e1 : ∀ j, j < k → W.cell? ⟨b1, o1 + j, none⟩ = some ((rs1[j]?.getD RV.nil).v)) (e2 : ∀ j, j < k → W.cell? ⟨b2, o2 + j, none⟩ = some ((rs2[j]?.getD RV.nil).v))
    (a1 : All2 (fun q row => Cont W q row ∧ q.n ≤ 1000) rs1 r1) (a2 : All2 (fun q row => Cont W q row ∧ q.n ≤ 1000) rs2 r2) :
    Calls Try.prog 15 #[.slice (some ⟨b1, o1, none⟩) k c1, .slice (some ⟨b2, o2, none⟩) k c2] W fun e W' => e = .returned (.bool (eqRows r1 r2)) ∧ Still W W' := by
  have hmx : Try.prog.follows .mixedOrders = true := by kernel_rfl
  go_enter Try.func15, Try.ntmps15
  go_wp2
  go_loopw [5] (fun i wr => ∃ (j : Nat), j ≤ k ∧ i = .int .i64 j ∧ Still W wr ∧ eqRows r1 r2 = eqRows (r1.drop j) (r2.drop j)) (fun i _ => k - (intOf i).toNat)
  case atStart => exact ⟨0, Nat.zero_le _, rfl, Still.refl _, rfl⟩
  case round =>
    obtain ⟨j, hj, rfl, hw, he⟩ := hrel
    have l1 := a1.len
    have l2 := a2.len
    by_cases hlt : j < k
    · obtain ⟨q, hq⟩ : ∃ q, rs1[j]? = some q := ⟨rs1[j]'(by omega), List.getElem?_eq_getElem (by omega)⟩
      obtain ⟨p, hp⟩ : ∃ p, rs2[j]? = some p := ⟨rs2[j]'(by omega), List.getElem?_eq_getElem (by omega)⟩
      obtain ⟨u, hu⟩ : ∃ u, r1[j]? = some u := ⟨r1[j]'(by omega), List.getElem?_eq_getElem (by omega)⟩
      obtain ⟨v, hv⟩ : ∃ v, r2[j]? = some v := ⟨r2[j]'(by omega), List.getElem?_eq_getElem (by omega)⟩
      have hd1 : r1.drop j = u :: r1.drop (j + 1) := by rw [List.drop_eq_getElem_cons (by omega)]; congr 1; exact Option.some.inj ((List.getElem?_eq_getElem (by omega)).symm.trans hu)
      have hd2 : r2.drop j = v :: r2.drop (j + 1) := by rw [List.drop_eq_getElem_cons (by omega)]; congr 1; exact Option.some.inj ((List.getElem?_eq_getElem (by omega)).symm.trans hv)
      rw [hd1, hd2, eqRows] at he
      have c1' := a1.get j _ _ hq hu
      have c2' := a2.get j _ _ hp hv
      have x1 := ((hw.trans (Still.drew wr)).cell _).trans (e1 j hlt)
      have x2 := ((hw.trans (Still.drew wr)).cell _).trans (e2 j hlt)
      rw [hq] at x1
      rw [hp] at x2
      obtain ⟨qa, qn, qc⟩ := q
      obtain ⟨pa, pn, pc⟩ := p
      dsimp only [RV.v, Option.getD_some] at x1 x2
      have hC1 : Cont wr.drew ⟨qa, qn, qc⟩ u := c1'.1.still (hw.trans (Still.drew wr))
      have hC2 : Cont wr.drew ⟨pa, pn, pc⟩ v := c2'.1.still (hw.trans (Still.drew wr))
      have hqn : qn ≤ 100000 := Nat.le_trans c1'.2 (by decide)
      have hsame := same_ok ⟨qa, qn, qc⟩ ⟨pa, pn, pc⟩ u v wr.drew hC1 hC2 hqn
      clear hd1 hd2 hu hv hq hp l1 l2
      cases ht : eqRow u v with
      | true =>
        rw [ht, Bool.true_and] at he
        rw [ht] at hsame
        go_wp2
        go_region_with (go_at_call 27; refine hsame.mono ?_; rintro e w' ⟨rfl, hw'⟩)
        all_goals (go_wp2; go_roundw; (case rel => exact ⟨j + 1, by omega, by simp, (hw.trans (Still.drew wr)).trans hw', he⟩); (case measure => simp [intOf]; omega))
      | false =>
        rw [ht, Bool.false_and] at he
        rw [ht] at hsame
        go_wp2
        go_region_with (go_at_call 27; refine hsame.mono ?_; rintro e w' ⟨rfl, hw'⟩)
        all_goals (go_wp2; refine bodyPost_ret (results_tmp rfl _ _ _) rfl ?_; exact ⟨by rw [he]; rfl, (hw.trans (Still.drew wr)).trans hw'⟩)
    · obtain rfl : j = k := by omega
      rw [List.drop_of_length_le (by omega), List.drop_of_length_le (by omega)] at he
      clear l1 l2
      go_wp2
      refine bodyPost_ret (results_tmp rfl _ _ _) rfl ?_
      exact ⟨by rw [he]; rfl, hw⟩
set_option maxHeartbeats 1000000 in
theorem sameRows_len (a b : Option Addr) (n c m d : Nat) (h : n ≠ m) (W : World) : Calls Try.prog 15 #[.slice a n c, .slice b m d] W fun e W' => e = .returned (.bool false) ∧ Still W W' := by
  have hne : ((n : Int) != (m : Int)) = true := by simp; omega
  have hne2 : ¬ ((n : Int) = (m : Int)) := by omega
  go_enter Try.func15, Try.ntmps15
  go_wp2
  go_ret
  exact ⟨rfl, Still.refl _⟩
set_option maxHeartbeats 1000000 in
theorem sameRows_zero (a b : Option Addr) (c d : Nat) (W : World) : Calls Try.prog 15 #[.slice a 0 c, .slice b 0 d] W fun e W' => e = .returned (.bool true) ∧ Still W W' := by
  go_enter Try.func15, Try.ntmps15
  go_wp2
  go_loopw [5] (fun i wr => i = .int .i64 0 ∧ wr = W) (fun _ _ => 0)
  case atStart => exact ⟨rfl, rfl⟩
  case round =>
    obtain ⟨rfl, rfl⟩ := hrel
    go_wp2
    refine bodyPost_ret (results_tmp rfl _ _ _) rfl ?_
    exact ⟨rfl, Still.refl _⟩
theorem sameRows_ok (s1 s2 : Value) (r1 r2 : List (List V3)) (W : World) (h1 : Own1 W s1 r1) (h2 : Own1 W s2 r2) (hn : r1.length ≤ 100000) :
    Calls Try.prog 15 #[s1, s2] W fun e W' => e = .returned (.bool (eqRows r1 r2)) ∧ Still W W' := by
  rcases h1 with ⟨a1, c1, rfl, rfl⟩ | ⟨b1, o1, c1, rs1, rfl, _, e1, w1⟩
  · rcases h2 with ⟨a2, c2, rfl, rfl⟩ | ⟨b2, o2, c2, rs2, rfl, _, e2, w2⟩
    · exact sameRows_zero a1 a2 c1 c2 W
    · have l2 := w2.len
      by_cases hz : rs2.length = 0
      · have : r2 = [] := List.eq_nil_of_length_eq_zero (by omega)
        subst this
        rw [hz]
        exact sameRows_zero a1 _ c1 c2 W
      · rw [eqRows_len [] r2 (by rw [List.length_nil]; omega)]
        exact sameRows_len a1 _ 0 c1 rs2.length c2 (fun h => hz h.symm) W
  · have l1 := w1.len
    rcases h2 with ⟨a2, c2, rfl, rfl⟩ | ⟨b2, o2, c2, rs2, rfl, _, e2, w2⟩
    · by_cases hz : rs1.length = 0
      · have : r1 = [] := List.eq_nil_of_length_eq_zero (by omega)
        subst this
        rw [hz]
        exact sameRows_zero _ a2 c1 c2 W
      · rw [eqRows_len r1 [] (by rw [List.length_nil]; omega)]
        exact sameRows_len _ a2 rs1.length c1 0 c2 hz W
    · have l2 := w2.len
      by_cases hm : rs1.length = rs2.length
      · rw [← hm] at e2 ⊢
        exact sameRows_some b1 o1 c1 b2 o2 c2 rs1.length rs1 rs2 r1 r2 rfl hm.symm (by omega) W e1 e2 w1 w2
      · rw [eqRows_len r1 r2 (by omega)]
        exact sameRows_len _ _ _ c1 _ c2 hm W
end Go.Proofs.Ytghpjlohoehdnaa.Sep
