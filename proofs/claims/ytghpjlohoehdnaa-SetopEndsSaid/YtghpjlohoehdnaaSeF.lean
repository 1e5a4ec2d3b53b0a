/- slices.Equal of two rows. No condition beyond those that each theorem names. -/
import Derived.Test.YtghpjlohoehdnaaSeE
import Derived.Deep.Draws
namespace Go.Proofs.Ytghpjlohoehdnaa.Sep
open Go Go.RowKit Go.Shelf
set_option linter.unusedVariables false
set_option linter.unusedSimpArgs false
def eqV (a b : V3) : Bool := a.k == b.k && (a.n == b.n && a.s.toList == b.s.toList)
theorem flat_at : ∀ (r : List V3) (i : Nat) (v : V3), r[i]? = some v → (flat r)[3 * i]? = some (.int .i64 v.k) ∧ (flat r)[3 * i + 1]? = some (.int .i64 v.n) ∧ (flat r)[3 * i + 2]? = some (.string v.s)
  | [], i, v, h => by simp at h
  | u :: r, 0, v, h => by simp at h; subst h; exact ⟨rfl, rfl, rfl⟩
  | u :: r, i + 1, v, h => by
    have := flat_at r i v (by simpa using h)
    rw [show 3 * (i + 1) = 3 * i + 1 + 1 + 1 by omega]
    simpa [flat] using this
def eqRow : List V3 → List V3 → Bool
  | [], [] => true
  | u :: r, v :: s => eqV u v && eqRow r s
  | _, _ => false
set_option maxRecDepth 100000 in
set_option maxHeartbeats 2000000 in
theorem equal_some (b1 o1 c1 b2 o2 c2 k : Nat) (r1 r2 : List V3) (h1 : r1.length = k) (h2 : r2.length = k) (hk : k ≤ 100000) (W : World)
    (e1 : ∀ j u, (flat r1)[j]? = some u → W.cell? ⟨b1, o1 + j, none⟩ = some u) (e2 : ∀ j u, (flat r2)[j]? = some u → W.cell? ⟨b2, o2 + j, none⟩ = some u) :
    Calls Try.prog 57 #[.slice (some ⟨b1, o1, none⟩) k c1, .slice (some ⟨b2, o2, none⟩) k c2] W fun e W' => e = .returned (.bool (eqRow r1 r2)) ∧ W'.heap = W.heap ∧ W'.os = W.os ∧ W'.tape = W.tape ∧ W'.output = W.output := by
  have hmx : Try.prog.follows .mixedOrders = true := by kernel_rfl
  go_enter Try.func57, Try.ntmps57
  go_wp2
  go_loopw [13] (fun i wr => ∃ (j : Nat), j ≤ k ∧ i = .int .i64 j ∧ (wr.heap = W.heap ∧ wr.os = W.os ∧ wr.tape = W.tape ∧ wr.output = W.output) ∧ eqRow r1 r2 = eqRow (r1.drop j) (r2.drop j)) (fun i _ => k - (intOf i).toNat)
  case atStart => exact ⟨0, Nat.zero_le _, rfl, ⟨rfl, rfl, rfl, rfl⟩, rfl⟩
  case round =>
    obtain ⟨j, hj, rfl, hw, he⟩ := hrel
    by_cases hlt : j < k
    · obtain ⟨u, hu⟩ : ∃ u, r1[j]? = some u := ⟨r1[j]'(by omega), List.getElem?_eq_getElem (by omega)⟩
      obtain ⟨v, hv⟩ : ∃ v, r2[j]? = some v := ⟨r2[j]'(by omega), List.getElem?_eq_getElem (by omega)⟩
      have hd1 : r1.drop j = u :: r1.drop (j + 1) := by rw [List.drop_eq_getElem_cons (by omega)]; congr 1; exact Option.some.inj ((List.getElem?_eq_getElem (by omega)).symm.trans hu)
      have hd2 : r2.drop j = v :: r2.drop (j + 1) := by rw [List.drop_eq_getElem_cons (by omega)]; congr 1; exact Option.some.inj ((List.getElem?_eq_getElem (by omega)).symm.trans hv)
      rw [hd1, hd2, eqRow] at he
      obtain ⟨f1, f2, f3⟩ := flat_at r1 j u hu
      obtain ⟨g1, g2, g3⟩ := flat_at r2 j v hv
      have hc : ∀ (a : Addr), wr.drew.cell? a = W.cell? a := fun a => by
        have hb : wr.drew.heap[a.block]? = W.heap[a.block]? := congrArg (fun h : Array Obj => h[a.block]?) hw.1
        unfold World.cell?
        simp only [hb]
      have x1 := (hc _).trans (e1 _ _ f1)
      have x2 := (hc _).trans (e1 _ _ f2)
      have x3 := (hc _).trans (e1 _ _ f3)
      have y1 := (hc _).trans (e2 _ _ g1)
      have y2 := (hc _).trans (e2 _ _ g2)
      have y3 := (hc _).trans (e2 _ _ g3)
      rw [Nat.mul_comm 3 j] at x1 x2 x3 y1 y2 y3
      rw [← Nat.add_assoc] at x2 x3 y2 y3
      clear hc
      have no : eqV u v = false → eqRow r1 r2 = false := fun h => by rw [he, h, Bool.false_and]
      have yes : eqV u v = true → eqRow r1 r2 = eqRow (r1.drop (j + 1)) (r2.drop (j + 1)) := fun h => by rw [he, h, Bool.true_and]
      by_cases q1 : u.k = v.k
      · by_cases q2 : u.n = v.n
        · by_cases q3 : u.s.toList = v.s.toList
          · have hy := yes (by simp [eqV, q1, q2, q3])
            clear yes no
            go_wp2
            go_region
            go_wp2
            go_roundw
            case rel => exact ⟨j + 1, by omega, by simp, hw, hy⟩
            case measure => simp [intOf]; omega
          · have hno := no (by simp [eqV, q1, q2, q3])
            clear yes no
            go_wp2
            go_region
            go_wp2
            refine bodyPost_ret (results_tmp rfl _ _ _) rfl ?_
            exact ⟨by rw [hno]; rfl, hw⟩
        · have hno := no (by simp [eqV, q1, q2])
          clear yes no
          go_wp2
          go_region
          go_wp2
          refine bodyPost_ret (results_tmp rfl _ _ _) rfl ?_
          exact ⟨by rw [hno]; rfl, hw⟩
      · have hno := no (by simp [eqV, q1])
        clear yes no
        go_wp2
        go_region
        go_wp2
        refine bodyPost_ret (results_tmp rfl _ _ _) rfl ?_
        exact ⟨by rw [hno]; rfl, hw⟩
    · obtain rfl : j = k := by omega
      rw [List.drop_of_length_le (by omega), List.drop_of_length_le (by omega)] at he
      go_wp2
      refine bodyPost_ret (results_tmp rfl _ _ _) rfl ?_
      exact ⟨by rw [he]; rfl, hw⟩
end Go.Proofs.Ytghpjlohoehdnaa.Sep
