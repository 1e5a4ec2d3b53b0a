import Derived.Test.YthmddmafiefaaaaOrx1
import Derived.Test.YthmddmafiefaaaaOrx4
import Derived.Test.YthmddmafiefaaaaOrx5
namespace Go.Proofs.Ythmddmafiefaaaa.PureOrd
open Go.RowKit Go.Proofs.YthmddmafiefaaaaW.PrintWords Go.Proofs.YthmddmafiefaaaaW.PrintLast Go.Proofs.YthmddmafiefaaaaW.PrintMore
open Go.Proofs.Ythmddmafiefaaaa.Or
set_option linter.unusedVariables false
set_option linter.unusedSimpArgs false
/-- What may be, index by index. -/
structure Ok (l0 : List Int) (l1 : List S39) (l2 : List Int) : Prop where
  six : l0.length ≤ 6
  len : l2.length = l1.length
  size : ∀ i : Int, 0 ≤ i → i < l0.length → 0 ≤ rd l0 i ∧ rd l0 i ≤ 1048576
  edge : ∀ i : Int, 0 ≤ i → i < l1.length → 0 ≤ (rd_T39 l1 i).f0 ∧ (rd_T39 l1 i).f0 < (rd_T39 l1 i).f2 ∧ (rd_T39 l1 i).f2 < l0.length ∧ 1 ≤ rd l2 i ∧ rd l2 i ≤ 1048576
theorem wrap64_id {x : Int} (h0 : -9223372036854775808 ≤ x) (h1 : x ≤ 9223372036854775807) : wrap64 x = x := by unfold wrap64; omega
/-- The reference's May: whatever comes, it answers; and what 'true' tells. -/
theorem may_l1 (l0 : List Int) (l1 : List S39) (l2 : List Int) (hl : l1.length ≤ 20) (hlen : l2.length = l1.length) : ∀ (n d : Nat) (i : Int), 0 ≤ i → i ≤ l1.length → (l1.length : Int) - i ≤ n →
    ∃ b, quaysideref24_May.l1 (n + 1 + d) l0 l1 l2 i = some b ∧ (b = true → ∀ j : Int, i ≤ j → j < l1.length → 0 ≤ (rd_T39 l1 j).f0 ∧ (rd_T39 l1 j).f0 < (rd_T39 l1 j).f2 ∧ (rd_T39 l1 j).f2 < l0.length ∧ 1 ≤ rd l2 j ∧ rd l2 j ≤ 1048576)
  | 0, d, i, h0, h1, h2 => by
    rw [show 0 + 1 + d = d + 1 from by omega]
    simp only [quaysideref24_May.l1]
    rw [if_neg (by omega)]
    exact ⟨true, rfl, fun _ j _ _ => by omega⟩
  | n + 1, d, i, h0, h1, h2 => by
    rw [show n + 1 + 1 + d = (n + 1 + d) + 1 from by omega]
    simp only [quaysideref24_May.l1]
    by_cases c : i < (l1.length : Int)
    · rw [if_pos c, if_pos h0]
      by_cases c1 : (rd_T39 l1 i).f0 < 0
      · rw [if_pos c1]; exact ⟨false, rfl, fun h => by simp at h⟩
      rw [if_neg c1]
      by_cases c2 : (rd_T39 l1 i).f2 ≥ (l0.length : Int)
      · rw [if_pos c2]; exact ⟨false, rfl, fun h => by simp at h⟩
      rw [if_neg c2]
      by_cases c3 : (rd_T39 l1 i).f0 ≥ (rd_T39 l1 i).f2
      · rw [if_pos c3]; exact ⟨false, rfl, fun h => by simp at h⟩
      rw [if_neg c3, if_pos (by omega)]
      by_cases c4 : rd l2 i < 1
      · rw [if_pos c4]; exact ⟨false, rfl, fun h => by simp at h⟩
      rw [if_neg c4]
      by_cases c5 : rd l2 i > 1048576
      · rw [if_pos c5]; exact ⟨false, rfl, fun h => by simp at h⟩
      rw [if_neg c5, wrap64_id (by omega) (by omega)]
      obtain ⟨b, hb, hj⟩ := may_l1 l0 l1 l2 hl hlen n d (i + 1) (by omega) (by omega) (by omega)
      refine ⟨b, hb, fun hbt j hj0 hj1 => ?_⟩
      by_cases hji : j = i
      · subst hji; omega
      · exact hj hbt j (by omega) hj1
    · rw [if_neg c]
      exact ⟨true, rfl, fun _ j _ _ => by omega⟩
theorem may_l0 (l0 : List Int) (l1 : List S39) (l2 : List Int) (h6 : l0.length ≤ 6) (hl : l1.length ≤ 20) (hlen : l2.length = l1.length) : ∀ (n d : Nat) (i : Int), 0 ≤ i → i ≤ l0.length → (l0.length : Int) - i ≤ n →
    ∃ b, quaysideref24_May.l0 (n + 1 + (20 + 1 + d)) l0 l1 l2 i = some b ∧ (b = true → (∀ j : Int, i ≤ j → j < l0.length → 0 ≤ rd l0 j ∧ rd l0 j ≤ 1048576) ∧ ∀ j : Int, 0 ≤ j → j < l1.length → 0 ≤ (rd_T39 l1 j).f0 ∧ (rd_T39 l1 j).f0 < (rd_T39 l1 j).f2 ∧ (rd_T39 l1 j).f2 < l0.length ∧ 1 ≤ rd l2 j ∧ rd l2 j ≤ 1048576)
  | 0, d, i, h0, h1, h2 => by
    rw [show 0 + 1 + (20 + 1 + d) = (20 + 1 + d) + 1 from by omega]
    simp only [quaysideref24_May.l0]
    rw [if_neg (by omega)]
    obtain ⟨b, hb, hj⟩ := may_l1 l0 l1 l2 hl hlen 20 d 0 (by omega) (by omega) (by omega)
    exact ⟨b, hb, fun hbt => ⟨fun j _ _ => by omega, fun j a b => hj hbt j a b⟩⟩
  | n + 1, d, i, h0, h1, h2 => by
    rw [show n + 1 + 1 + (20 + 1 + d) = (n + 1 + (20 + 1 + d)) + 1 from by omega]
    simp only [quaysideref24_May.l0]
    by_cases c : i < (l0.length : Int)
    · rw [if_pos c, if_pos h0]
      by_cases c1 : rd l0 i < 0
      · rw [if_pos c1]; exact ⟨false, rfl, fun h => by simp at h⟩
      rw [if_neg c1]
      by_cases c2 : rd l0 i > 1048576
      · rw [if_pos c2]; exact ⟨false, rfl, fun h => by simp at h⟩
      rw [if_neg c2, wrap64_id (by omega) (by omega)]
      obtain ⟨b, hb, hj⟩ := may_l0 l0 l1 l2 h6 hl hlen n d (i + 1) (by omega) (by omega) (by omega)
      refine ⟨b, hb, fun hbt => ⟨fun j hj0 hj1 => ?_, (hj hbt).2⟩⟩
      by_cases hji : j = i
      · subst hji; omega
      · exact (hj hbt).1 j (by omega) hj1
    · rw [if_neg c]
      rw [show n + 1 + (20 + 1 + d) = 20 + 1 + (n + 1 + d) from by omega]
      obtain ⟨b, hb, hj⟩ := may_l1 l0 l1 l2 hl hlen 20 (n + 1 + d) 0 (by omega) (by omega) (by omega)
      exact ⟨b, hb, fun hbt => ⟨fun j _ _ => by omega, fun j a b => hj hbt j a b⟩⟩
theorem may_ok (l0 : List Int) (l1 : List S39) (l2 : List Int) (hl : l1.length ≤ 20) (d : Nat) : ∃ b, quaysideref24_May.f (30 + d) l0 l1 l2 = some b ∧ (b = true → Ok l0 l1 l2) := by
  unfold quaysideref24_May.f
  by_cases c : (l0.length : Int) > 6
  · rw [if_pos c, show 30 + d = (29 + d) + 1 from by omega]
    simp only [quaysideref24_May.j0, if_true]
    exact ⟨false, rfl, fun h => by simp at h⟩
  · rw [if_neg c, show 30 + d = (29 + d) + 1 from by omega]
    simp only [quaysideref24_May.j0]
    by_cases c2 : l2.length = l1.length
    · rw [if_neg (by simp [c2])]
      obtain ⟨b, hb, hj⟩ := may_l0 l0 l1 l2 (by omega) hl c2 6 (1 + d) 0 (by omega) (by omega) (by omega)
      rw [show 29 + d = 6 + 1 + (20 + 1 + (1 + d)) from by omega]
      exact ⟨b, hb, fun hbt => ⟨by omega, c2, (hj hbt).1, (hj hbt).2⟩⟩
    · rw [if_pos (by simp; omega)]
      exact ⟨false, rfl, fun h => by simp at h⟩
theorem has_f (s i : Int) (h : 0 ≤ i) : order_has.f s i = some (Go.bits .and .i64 (shr .i64 s i) 1 == 1) := by unfold order_has.f; rw [if_pos h]
theorem rows_l1 {l0 : List Int} {l1 : List S39} {l2 : List Int} (ok : Ok l0 l1 l2) (hl : l1.length ≤ 20) (m : Int) : ∀ (k : Nat) (x9 i : Int), 0 ≤ i → i ≤ l1.length → order_Rows.l1 k l2 m x9 l1 (l1.length : Int) i = quaysideref24_Rows.l1 k l1 l2 m x9 i
  | 0, _, _, _, _ => rfl
  | k + 1, x9, i, h0, h1 => by
    simp only [order_Rows.l1, quaysideref24_Rows.l1]
    by_cases c : i < (l1.length : Int)
    · obtain ⟨e1, e2, e3, e4, e5⟩ := ok.edge i h0 c
      have e6 : 0 ≤ (rd_T39 l1 i).f2 := by omega
      rw [wrap64_id (x := i + 1) (by omega) (by omega)]
      have ih := fun x => rows_l1 ok hl m k x (i + 1) (by omega) (by omega)
      simp only [c, h0, e1, e6, if_true, has_f _ _ e1, has_f _ _ e6, Option.bind_some, beq_iff_eq, ih]
    · rw [if_neg c, if_neg c]
theorem rows_j1 {l0 : List Int} {l1 : List S39} {l2 : List Int} (ok : Ok l0 l1 l2) (hl : l1.length ≤ 20) (m : Int) (k : Nat) (x9 : Int) (b : Bool) : order_Rows.j1 k l1 l2 m x9 b = quaysideref24_Rows.j1 k l1 l2 m x9 b := by
  cases k with
  | zero => rfl
  | succ k =>
    simp only [order_Rows.j1, quaysideref24_Rows.j1]
    rw [rows_l1 ok hl m k x9 0 (Int.le_refl _) (by omega)]
theorem mn_le (x : Int) (h : 0 ≤ x) : 0 ≤ mn 1099511627776 x ∧ mn 1099511627776 x ≤ 1099511627776 ∧ (mn 1099511627776 x = 0 ↔ x = 0) := by unfold mn; split <;> omega
theorem rows_l0 {l0 : List Int} {l1 : List S39} {l2 : List Int} (ok : Ok l0 l1 l2) (hl : l1.length ≤ 20) (m : Int) : ∀ (k : Nat) (x9 : Int) (x10 x11 : Bool) (i : Int), 0 ≤ i → i ≤ l0.length → 0 ≤ x9 → x9 ≤ 1099511627776 → (x11 = true ↔ x9 = 0) →
    order_Rows.l0 k l1 l2 m x9 x10 l0 (l0.length : Int) i = quaysideref24_Rows.l0 k l0 l1 l2 m x9 x10 x11 i
  | 0, _, _, _, _, _, _, _, _, _ => rfl
  | k + 1, x9, x10, x11, i, h0, h1, h2, h3, h4 => by
    have h6 := ok.six
    simp only [order_Rows.l0, quaysideref24_Rows.l0]
    by_cases c : i < (l0.length : Int)
    · obtain ⟨s0, s1⟩ := ok.size i h0 c
      have p0 : 0 ≤ x9 * rd l0 i := Int.mul_nonneg h2 s0
      have p1 : x9 * rd l0 i ≤ 1099511627776 * 1048576 := Int.mul_le_mul h3 s1 s0 (by decide)
      have pz : x9 * rd l0 i = 0 ↔ x9 = 0 ∨ rd l0 i = 0 := Int.mul_eq_zero
      rw [wrap64_id (x := i + 1) (by omega) (by omega), wrap64_id (x := x9 * rd l0 i) (by omega) (by omega)]
      obtain ⟨q0, q1, q2⟩ := mn_le _ p0
      have ih0 := rows_l0 ok hl m k x9 x10 x11 (i + 1) (by omega) (by omega) h2 h3 h4
      simp only [c, h0, if_true, has_f _ _ h0, Option.bind_some, beq_iff_eq]
      split
      · cases x11 with
        | true =>
          rw [if_pos rfl]
          exact rows_l0 ok hl m k _ true true (i + 1) (by omega) (by omega) q0 q1 ⟨fun _ => q2.2 (pz.2 (.inl (h4.1 rfl))), fun _ => rfl⟩
        | false =>
          rw [if_neg (by simp)]
          have hx : x9 ≠ 0 := fun h => by have := h4.2 h; simp at this
          exact rows_l0 ok hl m k _ true _ (i + 1) (by omega) (by omega) q0 q1 ⟨fun h => q2.2 (pz.2 (.inr (by simpa using h))), fun h => by rcases pz.1 (q2.1 h) with h | h; exact absurd h hx; simpa using h⟩
      · exact ih0
    · simp only [c, if_false]
      have e : (x9 == 0) = x11 := by
        cases x11 with
        | true => simpa using h4.1 rfl
        | false => simp; intro h; have := h4.2 h; simp at this
      rw [e]
      cases x10 <;> simp only [if_true, if_false, Bool.false_eq_true] <;> exact rows_j1 ok hl m k x9 _
theorem rows_eq {l0 : List Int} {l1 : List S39} {l2 : List Int} (ok : Ok l0 l1 l2) (hl : l1.length ≤ 20) (m : Int) (k : Nat) : order_Rows.f k l0 l1 l2 m = quaysideref24_Rows.f k l0 l1 l2 m :=
  rows_l0 ok hl m k 1 false false 0 (Int.le_refl _) (by omega) (by decide) (by decide) (by simp)
theorem rows_tot_l1 {l0 : List Int} {l1 : List S39} {l2 : List Int} (ok : Ok l0 l1 l2) (hl : l1.length ≤ 20) (m : Int) : ∀ (n d : Nat) (x9 i : Int), 0 ≤ i → i ≤ l1.length → (l1.length : Int) - i ≤ n → ∃ r, order_Rows.l1 (n + 1 + d) l2 m x9 l1 (l1.length : Int) i = some r
  | 0, d, x9, i, h0, h1, h2 => by
    rw [show 0 + 1 + d = d + 1 from by omega]
    simp only [order_Rows.l1]
    rw [if_neg (by omega)]
    exact ⟨_, rfl⟩
  | n + 1, d, x9, i, h0, h1, h2 => by
    rw [show n + 1 + 1 + d = (n + 1 + d) + 1 from by omega]
    simp only [order_Rows.l1]
    by_cases c : i < (l1.length : Int)
    · obtain ⟨e1, e2, e3, e4, e5⟩ := ok.edge i h0 c
      have e6 : 0 ≤ (rd_T39 l1 i).f2 := by omega
      have e7 : i < (l2.length : Int) := by have := ok.len; omega
      have e8 : ¬ rd l2 i = 0 := by omega
      rw [wrap64_id (x := i + 1) (by omega) (by omega)]
      have ih := fun x => rows_tot_l1 ok hl m n d x (i + 1) (by omega) (by omega) (by omega)
      simp only [c, h0, e1, e6, e7, e8, if_true, if_false, has_f _ _ e1, has_f _ _ e6, Option.bind_some, beq_iff_eq]
      split
      · split
        · exact ih _
        · exact ih _
      · exact ih _
    · rw [if_neg c]; exact ⟨_, rfl⟩
theorem rows_tot_l0 {l0 : List Int} {l1 : List S39} {l2 : List Int} (ok : Ok l0 l1 l2) (hl : l1.length ≤ 20) (m : Int) : ∀ (n d : Nat) (x9 : Int) (x10 : Bool) (i : Int), 0 ≤ i → i ≤ l0.length → (l0.length : Int) - i ≤ n → ∃ r, order_Rows.l0 (n + 1 + (22 + d)) l1 l2 m x9 x10 l0 (l0.length : Int) i = some r
  | 0, d, x9, x10, i, h0, h1, h2 => by
    rw [show 0 + 1 + (22 + d) = (20 + 1 + d) + 1 + 1 from by omega]
    simp only [order_Rows.l0]
    rw [if_neg (by omega)]
    have hj : ∀ b, ∃ r, order_Rows.j1 (20 + 1 + d + 1) l1 l2 m x9 b = some r := by
      intro b
      simp only [order_Rows.j1]
      cases b with
      | true => exact ⟨0, rfl⟩
      | false => exact rows_tot_l1 ok hl m 20 d x9 0 (Int.le_refl _) (by omega) (by omega)
    split
    · exact hj _
    · exact hj _
  | n + 1, d, x9, x10, i, h0, h1, h2 => by
    by_cases c : i < (l0.length : Int)
    · rw [show n + 1 + 1 + (22 + d) = (n + 1 + (22 + d)) + 1 from by omega]
      simp only [order_Rows.l0]
      have h6 := ok.six
      rw [wrap64_id (x := i + 1) (by omega) (by omega)]
      have ih := fun x b => rows_tot_l0 ok hl m n d x b (i + 1) (by omega) (by omega) (by omega)
      simp only [c, h0, if_true, has_f _ _ h0, Option.bind_some, beq_iff_eq]
      split
      · exact ih _ _
      · exact ih _ _
    · rw [show n + 1 + 1 + (22 + d) = 0 + 1 + (22 + (n + 1 + d)) from by omega]
      exact rows_tot_l0 ok hl m 0 (n + 1 + d) x9 x10 i h0 h1 (by omega)
theorem rows_tot {l0 : List Int} {l1 : List S39} {l2 : List Int} (ok : Ok l0 l1 l2) (hl : l1.length ≤ 20) (m : Int) (d : Nat) : ∃ r, order_Rows.f (30 + d) l0 l1 l2 m = some r := by
  have := rows_tot_l0 ok hl m 6 (1 + d) 1 false 0 (Int.le_refl _) (by omega) (by have := ok.six; omega)
  rw [show 6 + 1 + (22 + (1 + d)) = 30 + d from by omega] at this
  exact this
end Go.Proofs.Ythmddmafiefaaaa.PureOrd
