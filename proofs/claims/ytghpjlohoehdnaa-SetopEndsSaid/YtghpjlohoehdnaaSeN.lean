/- setop.among's closures: is a row among others? No condition beyond those that each theorem names. -/
import Derived.Test.YtghpjlohoehdnaaSeJ
namespace Go.Proofs.Ytghpjlohoehdnaa.Sep
open Go Go.RowKit Go.Shelf
set_option linter.unusedVariables false
set_option linter.unusedSimpArgs false
set_option maxHeartbeats 1000000 in
theorem pred71 (oa ra : Option Addr) (on oc rn rc B : Nat) (so sr : List V3) (W : World) (hc : W.cell? ⟨B, 0, none⟩ = some (.slice ra rn rc)) (h1 : Cont W ⟨oa, on, oc⟩ so) (h2 : Cont W ⟨ra, rn, rc⟩ sr) (hn : on ≤ 100000) :
    Calls Try.prog 71 #[.slice oa on oc, .pointer (some ⟨B, 0, none⟩)] W fun e W' => e = .returned (.bool (eqRow so sr)) ∧ W'.heap = W.heap ∧ W'.os = W.os ∧ W'.tape = W.tape ∧ W'.output = W.output := by
  go_enter Try.func71, Try.ntmps71
  go_wp2_with (go_at_call 57; refine (equal_ok ⟨oa, on, oc⟩ ⟨ra, rn, rc⟩ so sr _ h1 h2 hn).mono ?_; rintro e w' ⟨rfl, hw⟩)
  go_ret
  exact ⟨rfl, hw⟩

set_option maxRecDepth 100000 in
set_option maxHeartbeats 2000000 in
theorem index71 (b off c : Nat) (rs : List RV) (rows : List (List V3)) (ra : Option Addr) (rn rc B : Nat) (sr : List V3) (W : World) (hk : rs.length ≤ 100000) (hcs : ∀ j, j < rs.length → W.cell? ⟨b, off + j, none⟩ = some ((rs[j]?.getD RV.nil).v))
    (hrows : All2 (fun q row => Cont W q row ∧ q.n ≤ 1000) rs rows) (hc : W.cell? ⟨B, 0, none⟩ = some (.slice ra rn rc)) (h2 : Cont W ⟨ra, rn, rc⟩ sr) :
    Calls Try.prog 76 #[.slice (some ⟨b, off, none⟩) rs.length c, .func (.func 71) #[] #[.pointer (some ⟨B, 0, none⟩)]] W fun e W' => (∃ z : Int, e = .returned (.int .i64 z) ∧ (0 ≤ z ↔ rows.any (fun s => eqRow s sr) = true)) ∧ W'.heap = W.heap ∧ W'.os = W.os ∧ W'.tape = W.tape ∧ W'.output = W.output := by
  go_enter Try.func76, Try.ntmps76
  go_wp2
  go_loopw [8] (fun i wr => ∃ (j : Nat), j ≤ rs.length ∧ i = .int .i64 j ∧ (wr.heap = W.heap ∧ wr.os = W.os ∧ wr.tape = W.tape ∧ wr.output = W.output) ∧ rows.any (fun s => eqRow s sr) = (rows.drop j).any (fun s => eqRow s sr)) (fun i _ => rs.length - (intOf i).toNat)
  case atStart => exact ⟨0, Nat.zero_le _, rfl, ⟨rfl, rfl, rfl, rfl⟩, rfl⟩
  case round =>
    obtain ⟨j, hj, rfl, hw, he⟩ := hrel
    have hlen := hrows.len
    have hcell : ∀ (a : Addr), wr.cell? a = W.cell? a := fun a => by
      have hb : wr.heap[a.block]? = W.heap[a.block]? := congrArg (fun h : Array Obj => h[a.block]?) hw.1
      unfold World.cell?
      simp only [hb]
    by_cases hlt : j < rs.length
    · obtain ⟨q, hq⟩ : ∃ q, rs[j]? = some q := ⟨rs[j], List.getElem?_eq_getElem hlt⟩
      obtain ⟨row, hr⟩ : ∃ row, rows[j]? = some row := ⟨rows[j]'(by omega), List.getElem?_eq_getElem (by omega)⟩
      have hcont := hrows.get j _ _ hq hr
      have hx := (hcell _).trans (hcs j hlt)
      rw [hq] at hx
      obtain ⟨qa, qn, qc⟩ := q
      dsimp only [RV.v, Option.getD_some] at hx
      have hd : rows.drop j = row :: rows.drop (j + 1) := by rw [List.drop_eq_getElem_cons (by omega)]; congr 1; exact Option.some.inj ((List.getElem?_eq_getElem (by omega)).symm.trans hr)
      rw [hd, List.any_cons] at he
      have hcB := (hcell _).trans hc
      have hC1 : Cont wr ⟨qa, qn, qc⟩ row := hcont.1.same (by rw [hw.1]; exact Nat.le_refl _) (fun j _ => by rw [hw.1])
      have hC2 : Cont wr ⟨ra, rn, rc⟩ sr := h2.same (by rw [hw.1]; exact Nat.le_refl _) (fun j _ => by rw [hw.1])
      have hqn : qn ≤ 100000 := Nat.le_trans hcont.2 (by decide)
      clear hcell hq hr hd hlen
      cases hv : eqRow row sr with
      | true =>
        rw [hv, Bool.true_or] at he
        go_wp2_with (go_at_call 71; refine (pred71 qa ra qn qc rn rc B row sr _ hcB hC1 hC2 hqn).mono ?_; rw [hv]; rintro e w' ⟨rfl, hw'⟩)
        refine bodyPost_ret (results_tmp rfl _ _ _) rfl ?_
        exact ⟨⟨_, rfl, by rw [he]; simp⟩, hw'.1.trans hw.1, hw'.2.1.trans hw.2.1, hw'.2.2.1.trans hw.2.2.1, hw'.2.2.2.trans hw.2.2.2⟩
      | false =>
        rw [hv, Bool.false_or] at he
        go_wp2_with (go_at_call 71; refine (pred71 qa ra qn qc rn rc B row sr _ hcB hC1 hC2 hqn).mono ?_; rw [hv]; rintro e w' ⟨rfl, hw'⟩)
        go_roundw
        case rel => exact ⟨j + 1, by omega, by simp, ⟨hw'.1.trans hw.1, hw'.2.1.trans hw.2.1, hw'.2.2.1.trans hw.2.2.1, hw'.2.2.2.trans hw.2.2.2⟩, he⟩
        case measure => simp [intOf]; omega
    · obtain rfl : j = rs.length := by omega
      rw [List.drop_of_length_le (by omega)] at he
      clear hlen
      go_wp2
      refine bodyPost_ret (results_tmp rfl _ _ _) rfl ?_
      exact ⟨⟨_, rfl, by rw [he]; simp⟩, hw⟩

set_option maxHeartbeats 1000000 in
theorem index71_nil (a : Option Addr) (c B : Nat) (W : World) : Calls Try.prog 76 #[.slice a 0 c, .func (.func 71) #[] #[.pointer (some ⟨B, 0, none⟩)]] W fun e W' => e = .returned (.int .i64 (-1)) ∧ W' = W := by
  go_enter Try.func76, Try.ntmps76
  go_wp2
  go_loopw [8] (fun i wr => i = .int .i64 0 ∧ wr = W) (fun _ _ => 0)
  case atStart => exact ⟨rfl, rfl⟩
  case round =>
    obtain ⟨rfl, rfl⟩ := hrel
    go_wp2
    refine bodyPost_ret (results_tmp rfl _ _ _) rfl ?_
    exact ⟨rfl, rfl⟩
set_option maxHeartbeats 1000000 in
theorem contains71_nil (a : Option Addr) (c B : Nat) (W : World) : Calls Try.prog 55 #[.slice a 0 c, .func (.func 71) #[] #[.pointer (some ⟨B, 0, none⟩)]] W fun e W' => e = .returned (.bool false) ∧ W' = W := by
  go_enter Try.func55, Try.ntmps55
  go_wp2_with (go_at_call 76; refine (index71_nil _ _ _ _).mono ?_; rintro e w' ⟨rfl, rfl⟩)
  go_ret
  exact ⟨rfl, rfl⟩
set_option maxHeartbeats 1000000 in
theorem contains71 (b off c : Nat) (rs : List RV) (rows : List (List V3)) (ra : Option Addr) (rn rc B : Nat) (sr : List V3) (W : World) (hk : rs.length ≤ 100000) (hcs : ∀ j, j < rs.length → W.cell? ⟨b, off + j, none⟩ = some ((rs[j]?.getD RV.nil).v))
    (hrows : All2 (fun q row => Cont W q row ∧ q.n ≤ 1000) rs rows) (hc : W.cell? ⟨B, 0, none⟩ = some (.slice ra rn rc)) (h2 : Cont W ⟨ra, rn, rc⟩ sr) :
    Calls Try.prog 55 #[.slice (some ⟨b, off, none⟩) rs.length c, .func (.func 71) #[] #[.pointer (some ⟨B, 0, none⟩)]] W fun e W' => e = .returned (.bool (rows.any (fun s => eqRow s sr))) ∧ W'.heap = W.heap ∧ W'.os = W.os ∧ W'.tape = W.tape ∧ W'.output = W.output := by
  have hix := index71 b off c rs rows ra rn rc B sr W hk hcs hrows hc h2
  generalize rows.any (fun s => eqRow s sr) = t at hix ⊢
  clear hcs hrows hc h2
  go_enter Try.func55, Try.ntmps55
  go_wp2_with (go_at_call 76; refine hix.mono ?_; clear hix; rintro e w' ⟨⟨z, rfl, hz⟩, hw⟩)
  go_ret
  refine ⟨?_, hw⟩
  cases t with
  | true => simp [hz]
  | false => simp [hz]
/-- a list of rows as its owner holds it -/
def Own1 (W : World) (sv : Value) (rows : List (List V3)) : Prop :=
  (∃ a c, sv = .slice a 0 c ∧ rows = []) ∨ ∃ b off c rs, sv = .slice (some ⟨b, off, none⟩) (List.length rs) c ∧ b < W.heap.size ∧ (∀ j, j < rs.length → W.cell? ⟨b, off + j, none⟩ = some ((rs[j]?.getD RV.nil).v)) ∧ All2 (fun q row => Cont W q row ∧ q.n ≤ 1000) rs rows
set_option maxRecDepth 100000 in
set_option maxHeartbeats 1000000 in
theorem in70_ok (ra : Option Addr) (rn rc B : Nat) (sv : Value) (rows : List (List V3)) (sr : List V3) (W : World) (hk : rows.length ≤ 100000) (hB : W.cell? ⟨B, 0, none⟩ = some sv) (hl : Own1 W sv rows) (h2 : Cont W ⟨ra, rn, rc⟩ sr) :
    Calls Try.prog 70 #[.slice ra rn rc, .pointer (some ⟨B, 0, none⟩)] W fun e W' => e = .returned (.bool (rows.any (fun s => eqRow s sr))) ∧ Below W.heap.size W W' := by
  have hbel : Below W.heap.size W (W.alloc (.cells #[.slice ra rn rc] 48)) := (Below.refl _ W).alloc (Nat.le_refl _) _
  have hc := Boxed.new W 48 (.slice ra rn rc)
  have h2' : Cont (W.alloc (.cells #[.slice ra rn rc] 48)) ⟨ra, rn, rc⟩ sr := h2.same hbel.size (fun j hj => hbel.block j (h2.blt j hj))
  have hcB := (cell_of_block (hbel.block B (by
    unfold World.cell? at hB
    by_cases hlt : B < W.heap.size
    · exact hlt
    · rw [Array.getElem?_eq_none (by dsimp only; omega)] at hB; simp at hB)) 0).trans hB
  rcases hl with ⟨a0, c0, rfl, rfl⟩ | ⟨b, off, c, rs, rfl, hb, hcs, hrows⟩
  · go_enter Try.func70, Try.ntmps70
    go_wp2_with (go_at_call 55; refine (contains71_nil _ _ _ _).mono ?_; rintro e w' ⟨rfl, rfl⟩)
    go_ret
    exact ⟨rfl, hbel⟩
  · have hcs' : ∀ j, j < rs.length → (W.alloc (.cells #[.slice ra rn rc] 48)).cell? ⟨b, off + j, none⟩ = some ((rs[j]?.getD RV.nil).v) := fun j hj => (cell_of_block (hbel.block b hb) _).trans (hcs j hj)
    have hrows' : All2 (fun q row => Cont (W.alloc (.cells #[.slice ra rn rc] 48)) q row ∧ q.n ≤ 1000) rs rows := hrows.imp fun q row ⟨h, h1⟩ => ⟨h.same hbel.size (fun j hj => hbel.block j (h.blt j hj)), h1⟩
    have hk' : rs.length ≤ 100000 := by rw [hrows.len]; exact hk
    go_enter Try.func70, Try.ntmps70
    go_wp2_with (go_at_call 55; refine (contains71 b off c rs rows ra rn rc W.heap.size sr _ hk' hcs' hrows' (Boxed.cell hc) h2').mono ?_; rintro e w' ⟨rfl, hw1, hw2, hw3, hw4⟩)
    go_ret
    exact ⟨rfl, ⟨hw2.trans hbel.os, hw3.trans hbel.tape, hw4.trans hbel.output, by rw [hw1]; exact hbel.size, fun j hj => by rw [hw1]; exact hbel.block j hj⟩⟩
end Go.Proofs.Ytghpjlohoehdnaa.Sep
