import Derived.Test.YthmddmafiefaaaaOrx8
import Derived.Test.YthmddmafiefaaaaPureOrd
import Derived.Test.YthmddmafiefaaaaPureOrderRows
namespace Go.Proofs.Ythmddmafiefaaaa.PureOrd
open Go.RowKit Go.Proofs.YthmddmafiefaaaaW.PrintWords Go.Proofs.YthmddmafiefaaaaW.PrintLast Go.Proofs.YthmddmafiefaaaaW.PrintMore
open Go.Proofs.Ythmddmafiefaaaa.Or
set_option linter.unusedVariables false
set_option linter.unusedSimpArgs false
/-- Both tell alike whether these may be. -/
theorem mayeq_l1 (l0 : List Int) (l1 : List S39) (l2 : List Int) (hl : l1.length ≤ 20) (hlen : l2.length = l1.length) : ∀ (k : Nat) (i : Int), 0 ≤ i → i ≤ l1.length → order_may.l1 k l0 l2 l1 (l1.length : Int) i = quaysideref24_May.l1 k l0 l1 l2 i
  | 0, _, _, _ => rfl
  | k + 1, i, h0, h1 => by
    simp only [order_may.l1, quaysideref24_May.l1]
    by_cases c : i < (l1.length : Int)
    · have c2 : i < (l2.length : Int) := by omega
      rw [wrap64_id (x := i + 1) (by omega) (by omega)]
      have ih := mayeq_l1 l0 l1 l2 hl hlen k (i + 1) (by omega) (by omega)
      simp only [c, c2, h0, if_true, ih]
      by_cases e1 : (rd_T39 l1 i).f0 < 0
      · simp only [e1, if_true]
      · simp only [e1, if_false]
        by_cases e2 : (rd_T39 l1 i).f0 ≥ (rd_T39 l1 i).f2
        · simp only [e2, if_true]; split <;> rfl
        · simp only [e2, if_false]
    · rw [if_neg c, if_neg c]
theorem mayeq_l0 (l0 : List Int) (l1 : List S39) (l2 : List Int) (h6 : l0.length ≤ 7) (hl : l1.length ≤ 20) (hlen : l2.length = l1.length) : ∀ (k : Nat) (i : Int), 0 ≤ i → i ≤ l0.length → order_may.l0 k l0 l1 l2 l0 (l0.length : Int) i = quaysideref24_May.l0 k l0 l1 l2 i
  | 0, _, _, _ => rfl
  | k + 1, i, h0, h1 => by
    simp only [order_may.l0, quaysideref24_May.l0]
    by_cases c : i < (l0.length : Int)
    · rw [wrap64_id (x := i + 1) (by omega) (by omega)]
      have ih := mayeq_l0 l0 l1 l2 h6 hl hlen k (i + 1) (by omega) (by omega)
      simp only [c, h0, if_true, ih]
    · rw [if_neg c, if_neg c]
      exact mayeq_l1 l0 l1 l2 hl hlen k 0 (Int.le_refl _) (by omega)
theorem may_eq (l0 : List Int) (l1 : List S39) (l2 : List Int) (h6 : l0.length ≤ 7) (hl : l1.length ≤ 20) (k : Nat) : order_may.f k l0 l1 l2 = quaysideref24_May.f k l0 l1 l2 := by
  unfold order_may.f quaysideref24_May.f
  have hj : ∀ b, (b = false → l2.length = l1.length) → order_may.j0 k l0 l1 l2 b = quaysideref24_May.j0 k l0 l1 l2 b := by
    intro b hb
    cases k with
    | zero => rfl
    | succ k =>
      simp only [order_may.j0, quaysideref24_May.j0]
      cases b with
      | true => rfl
      | false => simp only [Bool.false_eq_true, if_false]; exact mayeq_l0 l0 l1 l2 h6 hl (hb rfl) k 0 (Int.le_refl _) (by omega)
  split
  · exact hj true (by simp)
  · exact hj _ (by simp; omega)
theorem cost_l0 {l0 : List Int} {l1 : List S39} {l2 : List Int} (ok : Ok l0 l1 l2) (hl : l1.length ≤ 20) (l3 : List Int) (h3 : l3.length ≤ 10) : ∀ (k : Nat) (x10 x11 i : Int), 0 ≤ i → i ≤ l3.length → order_Cost.l0 k l0 l1 l2 x10 x11 l3 (l3.length : Int) i = quaysideref24_Cost.l0 k l0 l1 l2 l3 x10 x11 i
  | 0, _, _, _, _, _ => rfl
  | k + 1, x10, x11, i, h0, h1 => by
    simp only [order_Cost.l0, quaysideref24_Cost.l0]
    by_cases c : i < (l3.length : Int)
    · rw [wrap64_id (x := i + 1) (by omega) (by omega)]
      have ih := fun x y => cost_l0 ok hl l3 h3 k x y (i + 1) (by omega) (by omega)
      simp only [c, h0, if_true]
      by_cases e1 : rd l3 i < 0
      · simp only [e1, if_true]
      · have e2 : 0 ≤ rd l3 i := by omega
        simp only [e1, if_false, e2, if_true, has_f _ _ e2, Option.bind_some, beq_iff_eq, ih, rows_eq ok hl]
    · rw [if_neg c, if_neg c]
theorem cost_eq (l0 : List Int) (l1 : List S39) (l2 : List Int) (h6 : l0.length ≤ 7) (hl : l1.length ≤ 20) (l3 : List Int) (h3 : l3.length ≤ 10) (d : Nat) : order_Cost.f (30 + d) l0 l1 l2 l3 = quaysideref24_Cost.f (30 + d) l0 l1 l2 l3 := by
  unfold order_Cost.f quaysideref24_Cost.f
  rw [may_eq l0 l1 l2 h6 hl]
  obtain ⟨b, hb, hok⟩ := may_ok l0 l1 l2 hl d
  rw [hb, Option.bind_some, Option.bind_some]
  have hj : ∀ b2, (b2 = false → Ok l0 l1 l2) → order_Cost.j0 (30 + d) l0 l1 l2 l3 b2 = quaysideref24_Cost.j0 (30 + d) l0 l1 l2 l3 b2 := by
    intro b2 hb2
    rw [show 30 + d = (29 + d) + 1 from by omega]
    simp only [order_Cost.j0, quaysideref24_Cost.j0]
    cases b2 with
    | true => rfl
    | false => simp only [Bool.false_eq_true, if_false]; exact cost_l0 (hb2 rfl) hl l3 h3 _ 0 0 0 (Int.le_refl _) (by omega)
  cases b with
  | true => simp only [if_true]; exact hj _ (fun _ => hok rfl)
  | false => simp only [Bool.false_eq_true, if_false]; exact hj true (by simp)
theorem cost_tot_l0 {l0 : List Int} {l1 : List S39} {l2 : List Int} (ok : Ok l0 l1 l2) (hl : l1.length ≤ 20) (l3 : List Int) (h3 : l3.length ≤ 10) : ∀ (n d : Nat) (x10 x11 i : Int), 0 ≤ i → i ≤ l3.length → (l3.length : Int) - i ≤ n → ∃ r, order_Cost.l0 (n + 31 + d) l0 l1 l2 x10 x11 l3 (l3.length : Int) i = some r
  | 0, d, x10, x11, i, h0, h1, h2 => by
    rw [show 0 + 31 + d = (30 + d) + 1 from by omega]
    simp only [order_Cost.l0]
    rw [if_neg (by omega)]
    exact ⟨_, rfl⟩
  | n + 1, d, x10, x11, i, h0, h1, h2 => by
    rw [show n + 1 + 31 + d = (n + 31 + d) + 1 from by omega]
    simp only [order_Cost.l0]
    by_cases c : i < (l3.length : Int)
    · rw [wrap64_id (x := i + 1) (by omega) (by omega)]
      have ih := fun x y => cost_tot_l0 ok hl l3 h3 n d x y (i + 1) (by omega) (by omega) (by omega)
      simp only [c, h0, if_true]
      by_cases e1 : rd l3 i < 0
      · simp only [e1, if_true]; exact ⟨_, rfl⟩
      · have e2 : 0 ≤ rd l3 i := by omega
        simp only [e1, if_false, e2, if_true, has_f _ _ e2, Option.bind_some, beq_iff_eq]
        split
        · exact ⟨_, rfl⟩
        · split
          · exact ⟨_, rfl⟩
          · obtain ⟨r, hr⟩ := rows_tot ok hl (Go.bits .or .i64 x10 (shl .i64 1 (rd l3 i))) (n + 1 + d)
            rw [show n + 31 + d = 30 + (n + 1 + d) from by omega, hr, Option.bind_some, show 30 + (n + 1 + d) = n + 31 + d from by omega]
            exact ih _ _
    · rw [if_neg c]; exact ⟨_, rfl⟩
theorem cost_tot (l0 : List Int) (l1 : List S39) (l2 : List Int) (h6 : l0.length ≤ 7) (hl : l1.length ≤ 20) (l3 : List Int) (h3 : l3.length ≤ 10) (d : Nat) : ∃ r, order_Cost.f (50 + d) l0 l1 l2 l3 = some r := by
  unfold order_Cost.f
  rw [may_eq l0 l1 l2 h6 hl]
  obtain ⟨b, hb, hok⟩ := may_ok l0 l1 l2 hl (20 + d)
  rw [show 50 + d = 30 + (20 + d) from by omega, hb, Option.bind_some, show 30 + (20 + d) = (49 + d) + 1 from by omega]
  cases b with
  | false => simp only [Bool.false_eq_true, if_false, order_Cost.j0, if_true]; exact ⟨_, rfl⟩
  | true =>
    simp only [if_true, order_Cost.j0]
    split
    · exact ⟨_, rfl⟩
    · rw [show 49 + d = 10 + 31 + (8 + d) from by omega]
      exact cost_tot_l0 (hok rfl) hl l3 h3 10 (8 + d) 0 0 0 (Int.le_refl _) (by omega) (by omega)
end Go.Proofs.Ythmddmafiefaaaa.PureOrd
namespace Go.Proofs.Ythmddmafiefaaaa.Pure
open Go.RowKit Go.Proofs.Ythmddmafiefaaaa.Or Go.Proofs.Ythmddmafiefaaaa.PureOrd
set_option linter.unusedVariables false
theorem OrderCosts (l0 : List Int) (l1 : List S39) (l2 l3 : List Int) (f0 : ∀ y ∈ l0, (Lit.int .i64 y).wf = true) (f1 : ∀ y ∈ l1, (Lit.int .i64 y.f0).wf = true ∧ (Lit.int .i64 y.f1).wf = true ∧ (Lit.int .i64 y.f2).wf = true ∧ (Lit.int .i64 y.f3).wf = true) (f2 : ∀ y ∈ l2, (Lit.int .i64 y).wf = true) (f3 : ∀ y ∈ l3, (Lit.int .i64 y).wf = true) :
    ∃ k, quaysidelaw24_OrderCosts.f k l0 l1 l2 l3 = some true := by
  have hj : quaysidelaw24_OrderCosts.j0 201 l3 true l0 l1 l2 = some true := by
    simp only [quaysidelaw24_OrderCosts.j0, if_true, awake_true, Option.bind_some]
  refine ⟨201, ?_⟩
  unfold quaysidelaw24_OrderCosts.f quaysidelaw24_light.f
  by_cases c : (l0.length : Int) ≤ 7
  · rw [if_pos c, Option.bind_some]
    by_cases c2 : (l1.length : Int) ≤ 20
    · rw [if_pos (by simpa using c2)]
      by_cases c3 : (l3.length : Int) > 10
      · rw [decide_eq_true c3]; exact hj
      · rw [decide_eq_false c3]
        obtain ⟨r, hr⟩ := cost_tot l0 l1 l2 (by omega) (by omega) l3 (by omega) 150
        have hq := cost_eq l0 l1 l2 (by omega) (by omega) l3 (by omega) 170
        show quaysidelaw24_OrderCosts.j0 (200 + 1) l3 false l0 l1 l2 = some true
        simp only [quaysidelaw24_OrderCosts.j0, Bool.false_eq_true, if_false]
        rw [show 200 = 30 + 170 from rfl, ← hq, show 30 + 170 = 50 + 150 from rfl, hr]
        simp only [Option.bind_some, if_true]
        rw [show 50 + 150 = 200 from rfl, awake_true, Option.bind_some]
    · rw [if_neg (by simpa using c2)]
      exact hj
  · rw [if_neg c, Option.bind_some, if_neg (by simp)]
    exact hj
end Go.Proofs.Ythmddmafiefaaaa.Pure
