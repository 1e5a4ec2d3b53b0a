/- The reference's Same, over two rows. No condition beyond those that each theorem names. -/
import Derived.Test.YtghpjlohoehdnaaSeG
import Derived.Deep.RegionWith
namespace Go.Proofs.Ytghpjlohoehdnaa.Sep
open Go Go.RowKit Go.Shelf
set_option linter.unusedVariables false
set_option linter.unusedSimpArgs false
/-- only the count of what was drawn may have turned -/
def Still (W W' : World) : Prop := W'.heap = W.heap ∧ W'.os = W.os ∧ W'.tape = W.tape ∧ W'.output = W.output
theorem Still.refl (W : World) : Still W W := ⟨rfl, rfl, rfl, rfl⟩
theorem Still.trans {A B C : World} (h : Still A B) (k : Still B C) : Still A C := ⟨k.1.trans h.1, k.2.1.trans h.2.1, k.2.2.1.trans h.2.2.1, k.2.2.2.trans h.2.2.2⟩
theorem Still.drew (W : World) : Still W W.drew := ⟨rfl, rfl, rfl, rfl⟩
theorem Still.cell {W W' : World} (h : Still W W') (a : Addr) : W'.cell? a = W.cell? a := by
  unfold World.cell?
  rw [h.1]
theorem Still.below {W W' : World} (h : Still W W') : Below W.heap.size W W' := ⟨h.2.1, h.2.2.1, h.2.2.2, by rw [h.1]; exact Nat.le_refl _, fun j _ => by rw [h.1]⟩
theorem Cont.still {W W' : World} {r : RV} {row : List V3} (h : Cont W r row) (k : Still W W') : Cont W' r row := h.same (by rw [k.1]; exact Nat.le_refl _) (fun j _ => by rw [k.1])
set_option maxRecDepth 100000 in
set_option maxHeartbeats 2000000 in
theorem same_some (b1 o1 c1 b2 o2 c2 k : Nat) (r1 r2 : List V3) (h1 : r1.length = k) (h2 : r2.length = k) (hk : k ≤ 100000) (W : World)
    (e1 : ∀ j u, (flat r1)[j]? = some u → W.cell? ⟨b1, o1 + j, none⟩ = some u) (e2 : ∀ j u, (flat r2)[j]? = some u → W.cell? ⟨b2, o2 + j, none⟩ = some u) :
    Calls Try.prog 27 #[.slice (some ⟨b1, o1, none⟩) k c1, .slice (some ⟨b2, o2, none⟩) k c2] W fun e W' => e = .returned (.bool (eqRow r1 r2)) ∧ Still W W' := by
  have hmx : Try.prog.follows .mixedOrders = true := by kernel_rfl
  go_enter Try.func27, Try.ntmps27
  go_wp2
  go_loopw [5] (fun i wr => ∃ (j : Nat), j ≤ k ∧ i = .int .i64 j ∧ Still W wr ∧ eqRow r1 r2 = eqRow (r1.drop j) (r2.drop j)) (fun i _ => k - (intOf i).toNat)
  case atStart => exact ⟨0, Nat.zero_le _, rfl, Still.refl _, rfl⟩
  case round =>
    obtain ⟨j, hj, rfl, hw, he⟩ := hrel
    by_cases hlt : j < k
    · obtain ⟨u, hu⟩ : ∃ u, r1[j]? = some u := ⟨r1[j]'(by omega), List.getElem?_eq_getElem (by omega)⟩
      obtain ⟨v, hv⟩ : ∃ v, r2[j]? = some v := ⟨r2[j]'(by omega), List.getElem?_eq_getElem (by omega)⟩
      have hd1 : r1.drop j = u :: r1.drop (j + 1) := by rw [List.drop_eq_getElem_cons (by omega)]; congr 1; exact Option.some.inj ((List.getElem?_eq_getElem (by omega)).symm.trans hu)
      have hd2 : r2.drop j = v :: r2.drop (j + 1) := by rw [List.drop_eq_getElem_cons (by omega)]; congr 1; exact Option.some.inj ((List.getElem?_eq_getElem (by omega)).symm.trans hv)
      rw [hd1, hd2, eqRow] at he
      obtain ⟨f1, f2, f3⟩ := flat_at r1 j u hu
      obtain ⟨g1, g2, g3⟩ := flat_at r2 j v hv
      have hc : ∀ (a : Addr), wr.drew.cell? a = W.cell? a := fun a => (hw.trans (Still.drew wr)).cell a
      have x1 := (hc _).trans (e1 _ _ f1)
      have x2 := (hc _).trans (e1 _ _ f2)
      have x3 := (hc _).trans (e1 _ _ f3)
      have y1 := (hc _).trans (e2 _ _ g1)
      have y2 := (hc _).trans (e2 _ _ g2)
      have y3 := (hc _).trans (e2 _ _ g3)
      rw [Nat.mul_comm 3 j] at x1 x2 x3 y1 y2 y3
      rw [← Nat.add_assoc] at x2 x3 y2 y3
      clear hc
      have no : eqV u v = false → eqRow r1 r2 = false := fun h => by rw [he, h, Bool.false_and]
      have yes : eqV u v = true → eqRow r1 r2 = eqRow (r1.drop (j + 1)) (r2.drop (j + 1)) := fun h => by rw [he, h, Bool.true_and]
      by_cases q1 : u.k = v.k
      · by_cases q2 : u.n = v.n
        · by_cases q3 : u.s.toList = v.s.toList
          · have hy := yes (by simp [eqV, q1, q2, q3])
            clear yes no
            go_wp2
            go_region
            go_wp2
            go_roundw
            case rel => exact ⟨j + 1, by omega, by simp, hw.trans (Still.drew wr), hy⟩
            case measure => simp [intOf]; omega
          · have hno := no (by simp [eqV, q1, q2, q3])
            clear yes no
            go_wp2
            go_region
            go_wp2
            refine bodyPost_ret (results_tmp rfl _ _ _) rfl ?_
            exact ⟨by rw [hno]; rfl, hw.trans (Still.drew wr)⟩
        · have hno := no (by simp [eqV, q1, q2])
          clear yes no
          go_wp2
          go_region
          go_wp2
          refine bodyPost_ret (results_tmp rfl _ _ _) rfl ?_
          exact ⟨by rw [hno]; rfl, hw.trans (Still.drew wr)⟩
      · have hno := no (by simp [eqV, q1])
        clear yes no
        go_wp2
        go_region
        go_wp2
        refine bodyPost_ret (results_tmp rfl _ _ _) rfl ?_
        exact ⟨by rw [hno]; rfl, hw.trans (Still.drew wr)⟩
    · obtain rfl : j = k := by omega
      rw [List.drop_of_length_le (by omega), List.drop_of_length_le (by omega)] at he
      go_wp2
      refine bodyPost_ret (results_tmp rfl _ _ _) rfl ?_
      exact ⟨by rw [he]; rfl, hw⟩
set_option maxHeartbeats 1000000 in
theorem same_len (a b : Option Addr) (n c m d : Nat) (h : n ≠ m) (W : World) : Calls Try.prog 27 #[.slice a n c, .slice b m d] W fun e W' => e = .returned (.bool false) ∧ Still W W' := by
  have hne : ((n : Int) != (m : Int)) = true := by simp; omega
  have hne2 : ¬ ((n : Int) = (m : Int)) := by omega
  go_enter Try.func27, Try.ntmps27
  go_wp2
  go_ret
  exact ⟨rfl, Still.refl _⟩
set_option maxHeartbeats 1000000 in
theorem same_zero (a b : Option Addr) (c d : Nat) (W : World) : Calls Try.prog 27 #[.slice a 0 c, .slice b 0 d] W fun e W' => e = .returned (.bool true) ∧ Still W W' := by
  go_enter Try.func27, Try.ntmps27
  go_wp2
  go_loopw [5] (fun i wr => i = .int .i64 0 ∧ wr = W) (fun _ _ => 0)
  case atStart => exact ⟨rfl, rfl⟩
  case round =>
    obtain ⟨rfl, rfl⟩ := hrel
    go_wp2
    refine bodyPost_ret (results_tmp rfl _ _ _) rfl ?_
    exact ⟨rfl, Still.refl _⟩
theorem same_ok (r1 r2 : RV) (s1 s2 : List V3) (W : World) (h1 : Cont W r1 s1) (h2 : Cont W r2 s2) (hn : r1.n ≤ 100000) :
    Calls Try.prog 27 #[.slice r1.a r1.n r1.c, .slice r2.a r2.n r2.c] W fun e W' => e = .returned (.bool (eqRow s1 s2)) ∧ Still W W' := by
  have l1 := h1.len
  have l2 := h2.len
  by_cases hm : r1.n = r2.n
  · by_cases hz : r1.n = 0
    · have e1 : s1 = [] := List.eq_nil_of_length_eq_zero (by omega)
      have e2 : s2 = [] := List.eq_nil_of_length_eq_zero (by omega)
      rw [← hm, hz, e1, e2]
      exact same_zero r1.a r2.a r1.c r2.c W
    · rcases h1 with ⟨h, _⟩ | ⟨b1, o1, ha, _, _, hc1⟩
      · exact absurd h hz
      rcases h2 with ⟨h, _⟩ | ⟨b2, o2, hb, _, _, hc2⟩
      · exact absurd (hm.trans h) hz
      rw [ha, hb, ← hm]
      exact same_some b1 o1 r1.c b2 o2 r2.c r1.n s1 s2 l1 (l2.trans hm.symm) hn W hc1 hc2
  · rw [eqRow_len s1 s2 (by omega)]
    exact same_len r1.a r2.a r1.n r1.c r2.n r2.c hm W
end Go.Proofs.Ytghpjlohoehdnaa.Sep
