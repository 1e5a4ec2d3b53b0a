import Derived.Test.YthmddmafiefaaaaOrx5
import Derived.Test.YthmddmafiefaaaaPureOrd
import Derived.Test.YthmddmafiefaaaaPureBest1
import Derived.Test.YthmddmafiefaaaaPureBest2
import Derived.Test.YthmddmafiefaaaaPureBest0
namespace Go.Proofs.Ythmddmafiefaaaa.PureOrd
open Go.RowKit Go.Proofs.YthmddmafiefaaaaW.PrintWords Go.Proofs.YthmddmafiefaaaaW.PrintLast Go.Proofs.YthmddmafiefaaaaW.PrintMore
open Go.Proofs.Ythmddmafiefaaaa.Or
set_option linter.unusedVariables false
set_option linter.unusedSimpArgs false
/-- an order of tables below n, none of them in s, none twice -/
def Fits (n : Nat) : Int → List Int → Prop
  | _, [] => True
  | s, t :: p => 0 ≤ t ∧ t < n ∧ mem s t = false ∧ Fits n (ins s t) p
/-- what an order costs from a set on -/
def Ct (R : Int → Int) : Int → List Int → Int
  | _, [] => 0
  | s, t :: p => R (ins s t) + Ct R (ins s t) p
theorem Ct_bd {R : Int → Int} (h : ∀ m, 0 ≤ R m ∧ R m ≤ 1099511627776) : ∀ (p : List Int) (s : Int), 0 ≤ Ct R s p ∧ Ct R s p ≤ 1099511627776 * p.length
  | [], s => by simp [Ct]
  | t :: p, s => by
    have h1 := h (ins s t)
    have h2 := Ct_bd h p (ins s t)
    simp only [Ct, List.length_cons]
    omega
theorem refcost_l0 {l0 : List Int} {l1 : List S39} {l2 : List Int} (ok : Ok l0 l1 l2) (hl : l1.length ≤ 20) (l3 : List Int) (h3 : l3.length ≤ 10) : ∀ (n d i : Nat) (s x : Int), i ≤ l3.length → l3.length - i ≤ n → 0 ≤ x → x ≤ 1099511627776 * i → Fits l0.length s (l3.drop i) →
    quaysideref24_Cost.l0 (n + 31 + d) l0 l1 l2 l3 s x (i : Int) = some (x + Ct (Rw l0 l1 l2) s (l3.drop i), 0)
  | 0, d, i, s, x, h1, h2, h4, h5, hf => by
    rw [show 0 + 31 + d = (30 + d) + 1 from by omega]
    simp only [quaysideref24_Cost.l0]
    rw [if_neg (by omega), List.drop_eq_nil_of_le (by omega)]
    simp [Ct]
  | n + 1, d, i, s, x, h1, h2, h4, h5, hf => by
    by_cases c : i < l3.length
    · rw [show n + 1 + 31 + d = (n + 31 + d) + 1 from by omega]
      simp only [quaysideref24_Cost.l0]
      rw [drop_cons l3 i c] at hf ⊢
      obtain ⟨f1, f2, f3, f4⟩ := hf
      have f3' : ¬ Go.bits .and .i64 (shr .i64 s (rd l3 (i : Int))) 1 = 1 := by intro h; simp [mem, h] at f3
      rw [if_pos (by omega), if_pos (by omega), if_neg (by omega), if_neg (by omega), if_pos f1, if_neg f3', wrap64_id (x := (i : Int) + 1) (by omega) (by omega)]
      have hb := Rw_bd ok hl (ins s (rd l3 (i : Int)))
      have hr := rows_Rw ok hl (ins s (rd l3 (i : Int))) (n + 1 + d)
      rw [rows_eq ok hl, show 30 + (n + 1 + d) = n + 31 + d from by omega] at hr
      unfold ins at hr
      rw [hr, Option.bind_some]
      have ih := refcost_l0 ok hl l3 h3 n d (i + 1) (ins s (rd l3 (i : Int))) (x + Rw l0 l1 l2 (ins s (rd l3 (i : Int)))) (by omega) (by omega) (by omega) (by omega) f4
      unfold ins at ih hb
      rw [wrap64_id (by omega) (by omega)]
      rw [show ((i + 1 : Nat) : Int) = (i : Int) + 1 from by omega] at ih
      rw [ih]
      simp only [Ct, ins]
      congr 2
      omega
    · rw [show n + 1 + 31 + d = 0 + 31 + (n + 1 + d) from by omega]
      exact refcost_l0 ok hl l3 h3 0 (n + 1 + d) i s x h1 (by omega) h4 h5 hf
end Go.Proofs.Ythmddmafiefaaaa.PureOrd
