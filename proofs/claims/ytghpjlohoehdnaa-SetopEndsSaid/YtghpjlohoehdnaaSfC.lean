/- The reference's Has, SameRows and the law's within, over lists of rows. No condition beyond those that each theorem names. -/
import Derived.Test.YtghpjlohoehdnaaSfB
import Derived.Test.YtghpjlohoehdnaaSfA
namespace Go.Proofs.Ytghpjlohoehdnaa.Sep
open Go Go.RowKit Go.Shelf
set_option linter.unusedVariables false
set_option linter.unusedSimpArgs false
theorem Own1.still {W W' : World} {sv : Value} {rows : List (List V3)} (h : Own1 W sv rows) (k : Still W W') : Own1 W' sv rows := h.below k.below
theorem Own1.shp {W : World} {sv : Value} {rows : List (List V3)} : Own1 W sv rows → ∃ a k c, sv = .slice a k c
  | .inl ⟨_, _, h, _⟩ => ⟨_, _, _, h⟩
  | .inr ⟨b, off, c, rs, h1, _⟩ => ⟨_, _, _, h1⟩
set_option maxRecDepth 100000 in
set_option maxHeartbeats 2000000 in
theorem has_ok2 (ra : Option Addr) (rn rc : Nat) (sv : Value) (rows : List (List V3)) (sr : List V3) (W : World) (hk : rows.length ≤ 200000) (hl : Own1 W sv rows) (h2 : Cont W ⟨ra, rn, rc⟩ sr) :
    Calls Try.prog 37 #[sv, .slice ra rn rc] W fun e W' => e = .returned (.bool (rows.any (fun s => eqRow s sr))) ∧ Still W W' := by
  rcases hl with ⟨a0, c0, rfl, rfl⟩ | ⟨b, off, c, rs, rfl, hb, hcs, hrows⟩
  · go_enter Try.func37, Try.ntmps37
    go_wp2
    go_loopw [5] (fun i wr => i = .int .i64 0 ∧ wr = W) (fun _ _ => 0)
    case atStart => exact ⟨rfl, rfl⟩
    case round =>
      obtain ⟨rfl, rfl⟩ := hrel
      go_wp2
      refine bodyPost_ret (results_tmp rfl _ _ _) rfl ?_
      exact ⟨rfl, Still.refl _⟩
  · have hk' : rs.length ≤ 200000 := by rw [hrows.len]; exact hk
    go_enter Try.func37, Try.ntmps37
    go_wp2
    go_loopw [5] (fun i wr => ∃ (j : Nat), j ≤ rs.length ∧ i = .int .i64 j ∧ Still W wr ∧ rows.any (fun s => eqRow s sr) = (rows.drop j).any (fun s => eqRow s sr)) (fun i _ => rs.length - (intOf i).toNat)
    case atStart => exact ⟨0, Nat.zero_le _, rfl, Still.refl _, rfl⟩
    case round =>
      obtain ⟨j, hj, rfl, hw, he⟩ := hrel
      have hlen := hrows.len
      by_cases hlt : j < rs.length
      · obtain ⟨q, hq⟩ : ∃ q, rs[j]? = some q := ⟨rs[j], List.getElem?_eq_getElem hlt⟩
        obtain ⟨row, hr⟩ : ∃ row, rows[j]? = some row := ⟨rows[j]'(by omega), List.getElem?_eq_getElem (by omega)⟩
        have hcont := hrows.get j _ _ hq hr
        have hx := (hw.cell _).trans (hcs j hlt)
        rw [hq] at hx
        obtain ⟨qa, qn, qc⟩ := q
        dsimp only [RV.v, Option.getD_some] at hx
        have hd : rows.drop j = row :: rows.drop (j + 1) := by rw [List.drop_eq_getElem_cons (by omega)]; congr 1; exact Option.some.inj ((List.getElem?_eq_getElem (by omega)).symm.trans hr)
        rw [hd, List.any_cons] at he
        have hC1 : Cont wr ⟨qa, qn, qc⟩ row := hcont.1.still hw
        have hC2 : Cont wr ⟨ra, rn, rc⟩ sr := h2.still hw
        have hqn : qn ≤ 100000 := Nat.le_trans hcont.2 (by decide)
        clear hq hr hd hlen
        have hsame := same_ok ⟨qa, qn, qc⟩ ⟨ra, rn, rc⟩ row sr wr hC1 hC2 hqn
        cases hv : eqRow row sr with
        | true =>
          rw [hv, Bool.true_or] at he
          rw [hv] at hsame
          go_wp2_with (go_at_call 27; refine hsame.mono ?_; rintro e w' ⟨rfl, hw'⟩)
          refine bodyPost_ret (results_tmp rfl _ _ _) rfl ?_
          exact ⟨by rw [he]; rfl, hw.trans hw'⟩
        | false =>
          rw [hv, Bool.false_or] at he
          rw [hv] at hsame
          go_wp2_with (go_at_call 27; refine hsame.mono ?_; rintro e w' ⟨rfl, hw'⟩)
          go_roundw
          case rel => exact ⟨j + 1, by omega, by simp, hw.trans hw', he⟩
          case measure => simp [intOf]; omega
      · obtain rfl : j = rs.length := by omega
        rw [List.drop_of_length_le (by omega)] at he
        clear hlen
        go_wp2
        refine bodyPost_ret (results_tmp rfl _ _ _) rfl ?_
        exact ⟨by rw [he]; rfl, hw⟩
theorem has_ok (ra : Option Addr) (rn rc : Nat) (sv : Value) (rows : List (List V3)) (sr : List V3) (W : World) (hk : rows.length ≤ 100000) (hl : Own1 W sv rows) (h2 : Cont W ⟨ra, rn, rc⟩ sr) :
    Calls Try.prog 37 #[sv, .slice ra rn rc] W fun e W' => e = .returned (.bool (rows.any (fun s => eqRow s sr))) ∧ Still W W' := has_ok2 ra rn rc sv rows sr W (Nat.le_trans hk (by decide)) hl h2
set_option maxRecDepth 100000 in
set_option maxHeartbeats 2000000 in
/-- within: are all of some rows among others? -/
theorem within_ok (sa sb : Value) (ra rb : List (List V3)) (W : World) (hka : ra.length ≤ 100000) (hkb : rb.length ≤ 100000) (ha : Own1 W sa ra) (hb : Own1 W sb rb) :
    Calls Try.prog 16 #[sa, sb] W fun e W' => e = .returned (.bool (ra.all fun r => rb.any fun s => eqRow s r)) ∧ Still W W' := by
  rcases ha with ⟨a0, c0, rfl, rfl⟩ | ⟨b, off, c, rs, rfl, hbb, hcs, hrows⟩
  · rcases hb.shp with ⟨ya, yn, yc, rfl⟩
    go_enter Try.func16, Try.ntmps16
    go_wp2
    go_loopw [5] (fun i wr => i = .int .i64 0 ∧ wr = W) (fun _ _ => 0)
    case atStart => exact ⟨rfl, rfl⟩
    case round =>
      obtain ⟨rfl, rfl⟩ := hrel
      go_wp2
      refine bodyPost_ret (results_tmp rfl _ _ _) rfl ?_
      exact ⟨rfl, Still.refl _⟩
  · have hk' : rs.length ≤ 100000 := by rw [hrows.len]; exact hka
    rcases hb.shp with ⟨ya, yn, yc, rfl⟩
    go_enter Try.func16, Try.ntmps16
    go_wp2
    go_loopw [5] (fun i wr => ∃ (j : Nat), j ≤ rs.length ∧ i = .int .i64 j ∧ Still W wr ∧ (ra.all fun r => rb.any fun s => eqRow s r) = (ra.drop j).all fun r => rb.any fun s => eqRow s r) (fun i _ => rs.length - (intOf i).toNat)
    case atStart => exact ⟨0, Nat.zero_le _, rfl, Still.refl _, rfl⟩
    case round =>
      obtain ⟨j, hj, rfl, hw, he⟩ := hrel
      have hlen := hrows.len
      by_cases hlt : j < rs.length
      · obtain ⟨q, hq⟩ : ∃ q, rs[j]? = some q := ⟨rs[j], List.getElem?_eq_getElem hlt⟩
        obtain ⟨row, hr⟩ : ∃ row, ra[j]? = some row := ⟨ra[j]'(by omega), List.getElem?_eq_getElem (by omega)⟩
        have hcont := hrows.get j _ _ hq hr
        have hx := (hw.cell _).trans (hcs j hlt)
        rw [hq] at hx
        obtain ⟨qa, qn, qc⟩ := q
        dsimp only [RV.v, Option.getD_some] at hx
        have hd : ra.drop j = row :: ra.drop (j + 1) := by rw [List.drop_eq_getElem_cons (by omega)]; congr 1; exact Option.some.inj ((List.getElem?_eq_getElem (by omega)).symm.trans hr)
        rw [hd, List.all_cons] at he
        clear hq hr hd hlen
        have hsame := has_ok qa qn qc (.slice ya yn yc) rb row wr hkb (hb.still hw) (hcont.1.still hw)
        cases hv : (rb.any fun s => eqRow s row) with
        | true =>
          rw [hv, Bool.true_and] at he
          rw [hv] at hsame
          go_wp2_with (go_at_call 37; refine hsame.mono ?_; rintro e w' ⟨rfl, hw'⟩)
          go_roundw
          case rel => exact ⟨j + 1, by omega, by simp, hw.trans hw', he⟩
          case measure => simp [intOf]; omega
        | false =>
          rw [hv, Bool.false_and] at he
          rw [hv] at hsame
          go_wp2_with (go_at_call 37; refine hsame.mono ?_; rintro e w' ⟨rfl, hw'⟩)
          refine bodyPost_ret (results_tmp rfl _ _ _) rfl ?_
          exact ⟨by rw [he]; rfl, hw.trans hw'⟩
      · obtain rfl : j = rs.length := by omega
        rw [List.drop_of_length_le (by omega)] at he
        clear hlen
        go_wp2
        refine bodyPost_ret (results_tmp rfl _ _ _) rfl ?_
        exact ⟨by rw [he]; rfl, hw⟩
end Go.Proofs.Ytghpjlohoehdnaa.Sep
