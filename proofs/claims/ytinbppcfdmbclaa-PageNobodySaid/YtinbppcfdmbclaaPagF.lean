/- What happens to a page's bytes when room for a cell is made, and when a cell is taken out: plain law. No condition beyond those that each theorem names. -/
import Derived.Test.YtinbppcfdmbclaaPagD
import Derived.Laws.CopyOwn
namespace Go.Proofs.Ytinbppcfdmbclaa.Pg
open Go.RowKit
set_option linter.unusedVariables false
set_option linter.unusedSimpArgs false
theorem splice_mid {P Q R Q' : List UInt8} {o : Nat} (hP : P.length = o) (hQ : Q.length = Q'.length) : splice (P ++ (Q ++ R)) o Q' = P ++ (Q' ++ R) := by
  subst hP
  unfold splice
  rw [List.take_left, ← hQ, ← List.drop_drop, List.drop_left, List.drop_left]
theorem drop_take_mid {P Q R : List UInt8} {o n : Nat} (hP : P.length = o) (hQ : Q.length = n) : ((P ++ (Q ++ R)).drop o).take n = Q := by
  subst hP; subst hQ
  rw [List.drop_left, List.take_left]
/-- the directory half turned: the first cells' places count from another end -/
def halfB (P R : List UInt8) (a a' : Nat) (B : List S66) (m : Nat) : List UInt8 := P ++ (dirB a' (B.take m) ++ (dirB (a - total (B.take m)) (B.drop m) ++ R))
theorem halfB_zero (P R : List UInt8) (a a' : Nat) (B : List S66) : halfB P R a a' B 0 = P ++ (dirB a B ++ R) := by simp [halfB, dirB, total]
theorem halfB_all (P R : List UInt8) (a a' : Nat) (B : List S66) : halfB P R a a' B B.length = P ++ (dirB a' B ++ R) := by simp [halfB, dirB, total]
theorem halfB_low (P R : List UInt8) (a a' : Nat) (B : List S66) (m i : Nat) (hi : i < P.length) : at_ (halfB P R a a' B m) i = at_ P i := at_append_l _ _ _ hi
theorem halfB_at (P R : List UInt8) (a a' : Nat) (B : List S66) (m : Nat) (hm : m < B.length) (ha : a ≤ 256) (hc : 1 ≤ cz B[m]) (ht : total B ≤ a) : at_ (halfB P R a a' B m) (P.length + 2 * m) = a - total (B.take (m + 1)) := by
  have h1 := total_take_succ B m hm
  have hd := dirB_length (B.take m) a'
  have h2 := total_take_le B (m + 1)
  rw [List.length_take, Nat.min_eq_left (by omega)] at hd
  rw [halfB, at_append_r, ← hd, show (dirB a' (B.take m)).length = (dirB a' (B.take m)).length + 0 from rfl, at_append_r, List.drop_eq_getElem_cons hm, dirB]
  rw [show at_ (by_ (a - total (B.take m) - cz B[m]) :: by_ B[m].f0.size :: dirB (a - total (B.take m) - cz B[m]) (B.drop (m + 1)) ++ R) 0 = (by_ (a - total (B.take m) - cz B[m])).toNat from rfl, by_at _ (by omega)]
  omega
theorem set_append_r (A B : List UInt8) (i : Nat) (x : UInt8) : (A ++ B).set (A.length + i) x = A ++ B.set i x := by
  rw [List.set_append, if_neg (by omega), Nat.add_sub_cancel_left]
theorem halfB_step (P R : List UInt8) (a a' : Nat) (B : List S66) (m : Nat) (hm : m < B.length) : (halfB P R a a' B m).set (P.length + 2 * m) (by_ (a' - total (B.take (m + 1)))) = halfB P R a a' B (m + 1) := by
  have h1 := total_take_succ B m hm
  have hd := dirB_length (B.take m) a'
  rw [List.length_take, Nat.min_eq_left (by omega)] at hd
  rw [halfB, set_append_r, ← hd, show (dirB a' (B.take m)).length = (dirB a' (B.take m)).length + 0 from rfl, set_append_r, List.drop_eq_getElem_cons hm, dirB, halfB, List.take_succ_eq_append_getElem hm, dirB_append, total_append]
  simp only [dirB, total, List.cons_append, List.set_cons_zero, List.append_assoc, List.nil_append, Nat.add_zero]
  rw [show a' - (total (B.take m) + cz B[m]) = a' - total (B.take m) - cz B[m] from by omega, show a - (total (B.take m) + cz B[m]) = a - total (B.take m) - cz B[m] from by omega]
theorem setsB_head (kind : UInt8) (x y z : UInt8) (r : List UInt8) (n u : Nat) : setsB (kind :: x :: y :: z :: r) n u = kind :: by_ n :: by_ u :: by_ (u / 256) :: r := by
  simp [setsB]
theorem enc_parts (kind : UInt8) (A B : List S66) : encB kind (A ++ B) = headB kind (A ++ B) ++ (dirB 256 A ++ (dirB (256 - total A) B ++ (List.replicate (248 - 2 * (A.length + B.length) - (total A + total B)) 0 ++ (cellsB B ++ cellsB A)))) := by
  rw [encB, dirB_append, cellsB_append, List.length_append, total_append, List.append_assoc]
end Go.Proofs.Ytinbppcfdmbclaa.Pg
