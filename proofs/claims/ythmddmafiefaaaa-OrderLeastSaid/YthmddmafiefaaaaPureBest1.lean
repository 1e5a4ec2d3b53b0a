import Derived.Test.YthmddmafiefaaaaOrx3
import Derived.Test.YthmddmafiefaaaaPureOrd
namespace Go.Proofs.Ythmddmafiefaaaa.PureOrd
open Go.RowKit Go.Proofs.YthmddmafiefaaaaW.PrintWords Go.Proofs.YthmddmafiefaaaaW.PrintLast Go.Proofs.YthmddmafiefaaaaW.PrintMore
open Go.Proofs.Ythmddmafiefaaaa.Or
set_option linter.unusedVariables false
set_option linter.unusedSimpArgs false
/-- about how many rows the tables of a set have together -/
def Rw (l0 : List Int) (l1 : List S39) (l2 : List Int) (m : Int) : Int := (order_Rows.f 30 l0 l1 l2 m).getD 0
theorem rows_Rw {l0 : List Int} {l1 : List S39} {l2 : List Int} (ok : Ok l0 l1 l2) (hl : l1.length ≤ 20) (m : Int) : ∀ d : Nat, order_Rows.f (30 + d) l0 l1 l2 m = some (Rw l0 l1 l2 m)
  | 0 => by
    obtain ⟨r, hr⟩ := rows_tot ok hl m 0
    unfold Rw
    rw [show 30 + 0 = 30 from rfl] at hr ⊢
    rw [hr]; rfl
  | d + 1 => order_Rows.mono l0 l1 l2 m (30 + d) _ (rows_Rw ok hl m d)
theorem rows_bd_l1 {l0 : List Int} {l1 : List S39} {l2 : List Int} (ok : Ok l0 l1 l2) (hl : l1.length ≤ 20) (m : Int) : ∀ (k : Nat) (x9 i r : Int), 0 ≤ i → i ≤ l1.length → 0 ≤ x9 → x9 ≤ 1099511627776 → order_Rows.l1 k l2 m x9 l1 (l1.length : Int) i = some r → 0 ≤ r ∧ r ≤ 1099511627776
  | 0, x9, i, r, h0, h1, h2, h3, h => by simp [order_Rows.l1] at h
  | k + 1, x9, i, r, h0, h1, h2, h3, h => by
    simp only [order_Rows.l1] at h
    by_cases c : i < (l1.length : Int)
    · obtain ⟨e1, e2, e3, e4, e5⟩ := ok.edge i h0 c
      have e6 : 0 ≤ (rd_T39 l1 i).f2 := by omega
      have e7 : i < (l2.length : Int) := by have := ok.len; omega
      have e8 : ¬ rd l2 i = 0 := by omega
      have d0 : 0 ≤ Int.tdiv x9 (rd l2 i) := Int.tdiv_nonneg h2 (by omega)
      have d1 : Int.tdiv x9 (rd l2 i) ≤ x9 := by rw [Int.tdiv_eq_ediv_of_nonneg h2]; exact Int.ediv_le_self _ h2
      rw [wrap64_id (x := i + 1) (by omega) (by omega), wrap64_id (x := Int.tdiv x9 (rd l2 i)) (by omega) (by omega)] at h
      have ih := fun x r => rows_bd_l1 ok hl m k x (i + 1) r (by omega) (by omega)
      simp only [c, h0, e1, e6, e7, e8, if_true, if_false, has_f _ _ e1, has_f _ _ e6, Option.bind_some, beq_iff_eq] at h
      split at h
      · split at h
        · exact ih _ _ d0 (by omega) h
        · exact ih _ _ h2 h3 h
      · exact ih _ _ h2 h3 h
    · rw [if_neg c] at h
      have := Option.some.inj h
      unfold mx at this
      split at this <;> omega
theorem rows_bd_l0 {l0 : List Int} {l1 : List S39} {l2 : List Int} (ok : Ok l0 l1 l2) (hl : l1.length ≤ 20) (m : Int) : ∀ (k : Nat) (x9 : Int) (x10 : Bool) (i r : Int), 0 ≤ i → i ≤ l0.length → 0 ≤ x9 → x9 ≤ 1099511627776 → order_Rows.l0 k l1 l2 m x9 x10 l0 (l0.length : Int) i = some r → 0 ≤ r ∧ r ≤ 1099511627776
  | 0, x9, x10, i, r, h0, h1, h2, h3, h => by simp [order_Rows.l0] at h
  | k + 1, x9, x10, i, r, h0, h1, h2, h3, h => by
    have h6 := ok.six
    simp only [order_Rows.l0] at h
    by_cases c : i < (l0.length : Int)
    · obtain ⟨s0, s1⟩ := ok.size i h0 c
      have p0 : 0 ≤ x9 * rd l0 i := Int.mul_nonneg h2 s0
      have p1 : x9 * rd l0 i ≤ 1099511627776 * 1048576 := Int.mul_le_mul h3 s1 s0 (by decide)
      rw [wrap64_id (x := i + 1) (by omega) (by omega), wrap64_id (x := x9 * rd l0 i) (by omega) (by omega)] at h
      obtain ⟨q0, q1, q2⟩ := mn_le _ p0
      have ih := fun x b r => rows_bd_l0 ok hl m k x b (i + 1) r (by omega) (by omega)
      simp only [c, h0, if_true, has_f _ _ h0, Option.bind_some, beq_iff_eq] at h
      split at h
      · exact ih _ _ _ q0 q1 h
      · exact ih _ _ _ h2 h3 h
    · have hj : ∀ b, order_Rows.j1 k l1 l2 m x9 b = some r → 0 ≤ r ∧ r ≤ 1099511627776 := by
        intro b hb
        cases k with
        | zero => simp [order_Rows.j1] at hb
        | succ k =>
          simp only [order_Rows.j1] at hb
          split at hb
          · have := Option.some.inj hb; omega
          · exact rows_bd_l1 ok hl m k x9 0 r (Int.le_refl _) (by omega) h2 h3 hb
      rw [if_neg c] at h
      split at h
      · exact hj _ h
      · exact hj _ h
theorem Rw_bd {l0 : List Int} {l1 : List S39} {l2 : List Int} (ok : Ok l0 l1 l2) (hl : l1.length ≤ 20) (m : Int) : 0 ≤ Rw l0 l1 l2 m ∧ Rw l0 l1 l2 m ≤ 1099511627776 :=
  rows_bd_l0 ok hl m 30 1 false 0 _ (Int.le_refl _) (by omega) (by decide) (by decide) (rows_Rw ok hl m 0)
end Go.Proofs.Ythmddmafiefaaaa.PureOrd
