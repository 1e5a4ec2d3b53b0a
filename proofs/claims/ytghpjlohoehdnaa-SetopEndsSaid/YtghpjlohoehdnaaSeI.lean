/- slices.IndexFunc over rows, with Distinct's predicate. No condition beyond those that each theorem names. -/
import Derived.Test.YtghpjlohoehdnaaSeH
import Derived.Test.YtghpjlohoehdnaaSeK
namespace Go.Proofs.Ytghpjlohoehdnaa.Sep
open Go Go.RowKit Go.Shelf
set_option linter.unusedVariables false
set_option linter.unusedSimpArgs false
set_option maxRecDepth 100000 in
set_option maxHeartbeats 2000000 in
theorem index_some (b off c : Nat) (rs : List RV) (rows : List (List V3)) (ra : Option Addr) (rn rc B : Nat) (sr : List V3) (W : World) (hk : rs.length ≤ 100000) (hcs : ∀ j, j < rs.length → W.cell? ⟨b, off + j, none⟩ = some ((rs[j]?.getD RV.nil).v))
    (hrows : All2 (fun q row => Cont W q row ∧ q.n ≤ 1000) rs rows) (hc : W.cell? ⟨B, 0, none⟩ = some (.slice ra rn rc)) (h2 : Cont W ⟨ra, rn, rc⟩ sr) :
    Calls Try.prog 76 #[.slice (some ⟨b, off, none⟩) rs.length c, .func (.func 56) #[] #[.pointer (some ⟨B, 0, none⟩)]] W fun e W' => (∃ z : Int, e = .returned (.int .i64 z) ∧ (0 ≤ z ↔ rows.any (fun s => eqRow s sr) = true)) ∧ W'.heap = W.heap ∧ W'.os = W.os ∧ W'.tape = W.tape ∧ W'.output = W.output := by
  go_enter Try.func76, Try.ntmps76
  go_wp2
  go_loopw [8] (fun i wr => ∃ (j : Nat), j ≤ rs.length ∧ i = .int .i64 j ∧ (wr.heap = W.heap ∧ wr.os = W.os ∧ wr.tape = W.tape ∧ wr.output = W.output) ∧ rows.any (fun s => eqRow s sr) = (rows.drop j).any (fun s => eqRow s sr)) (fun i _ => rs.length - (intOf i).toNat)
  case atStart => exact ⟨0, Nat.zero_le _, rfl, ⟨rfl, rfl, rfl, rfl⟩, rfl⟩
  case round =>
    obtain ⟨j, hj, rfl, hw, he⟩ := hrel
    have hlen := hrows.len
    have hcell : ∀ (a : Addr), wr.cell? a = W.cell? a := fun a => by
      have hb : wr.heap[a.block]? = W.heap[a.block]? := congrArg (fun h : Array Obj => h[a.block]?) hw.1
      unfold World.cell?
      simp only [hb]
    by_cases hlt : j < rs.length
    · obtain ⟨q, hq⟩ : ∃ q, rs[j]? = some q := ⟨rs[j], List.getElem?_eq_getElem hlt⟩
      obtain ⟨row, hr⟩ : ∃ row, rows[j]? = some row := ⟨rows[j]'(by omega), List.getElem?_eq_getElem (by omega)⟩
      have hcont := hrows.get j _ _ hq hr
      have hx := (hcell _).trans (hcs j hlt)
      rw [hq] at hx
      obtain ⟨qa, qn, qc⟩ := q
      dsimp only [RV.v, Option.getD_some] at hx
      have hd : rows.drop j = row :: rows.drop (j + 1) := by rw [List.drop_eq_getElem_cons (by omega)]; congr 1; exact Option.some.inj ((List.getElem?_eq_getElem (by omega)).symm.trans hr)
      rw [hd, List.any_cons] at he
      have hcB := (hcell _).trans hc
      have hC1 : Cont wr ⟨qa, qn, qc⟩ row := hcont.1.same (by rw [hw.1]; exact Nat.le_refl _) (fun j _ => by rw [hw.1])
      have hC2 : Cont wr ⟨ra, rn, rc⟩ sr := h2.same (by rw [hw.1]; exact Nat.le_refl _) (fun j _ => by rw [hw.1])
      have hqn : qn ≤ 100000 := Nat.le_trans hcont.2 (by decide)
      clear hcell hq hr hd hlen
      cases hv : eqRow row sr with
      | true =>
        rw [hv, Bool.true_or] at he
        go_wp2_with (go_at_call 56; refine (pred_ok qa ra qn qc rn rc B row sr _ hcB hC1 hC2 hqn).mono ?_; rw [hv]; rintro e w' ⟨rfl, hw'⟩)
        refine bodyPost_ret (results_tmp rfl _ _ _) rfl ?_
        exact ⟨⟨_, rfl, by rw [he]; simp⟩, hw'.1.trans hw.1, hw'.2.1.trans hw.2.1, hw'.2.2.1.trans hw.2.2.1, hw'.2.2.2.trans hw.2.2.2⟩
      | false =>
        rw [hv, Bool.false_or] at he
        go_wp2_with (go_at_call 56; refine (pred_ok qa ra qn qc rn rc B row sr _ hcB hC1 hC2 hqn).mono ?_; rw [hv]; rintro e w' ⟨rfl, hw'⟩)
        go_roundw
        case rel => exact ⟨j + 1, by omega, by simp, ⟨hw'.1.trans hw.1, hw'.2.1.trans hw.2.1, hw'.2.2.1.trans hw.2.2.1, hw'.2.2.2.trans hw.2.2.2⟩, he⟩
        case measure => simp [intOf]; omega
    · obtain rfl : j = rs.length := by omega
      rw [List.drop_of_length_le (by omega)] at he
      clear hlen
      go_wp2
      refine bodyPost_ret (results_tmp rfl _ _ _) rfl ?_
      exact ⟨⟨_, rfl, by rw [he]; simp⟩, hw⟩
end Go.Proofs.Ytghpjlohoehdnaa.Sep
