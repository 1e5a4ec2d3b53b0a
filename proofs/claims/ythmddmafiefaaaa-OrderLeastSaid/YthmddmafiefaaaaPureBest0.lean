import Derived.Test.YthmddmafiefaaaaOrx3
import Derived.Test.YthmddmafiefaaaaPureOrd
namespace Go.Proofs.Ythmddmafiefaaaa.PureOrd
open Go.RowKit Go.Proofs.YthmddmafiefaaaaW.PrintWords Go.Proofs.YthmddmafiefaaaaW.PrintLast Go.Proofs.YthmddmafiefaaaaW.PrintMore
open Go.Proofs.Ythmddmafiefaaaa.Or
set_option linter.unusedVariables false
set_option linter.unusedSimpArgs false
def lexLt : List Int → List Int → Bool
  | [], [] => false
  | [], _ :: _ => true
  | _ :: _, [] => false
  | a :: xs, b :: ys => decide (a < b) || (decide (a = b) && lexLt xs ys)
theorem cmp_f (a b : Int) : cmp_Compare_int.f a b = some (if a < b then -1 else if b < a then 1 else 0) := by
  unfold cmp_Compare_int.f cmp_isNaN_int.f
  simp
  split
  · rfl
  · split <;> rfl
theorem drop_cons (l : List Int) (i : Nat) (h : i < l.length) : l.drop i = rd l (i : Int) :: l.drop (i + 1) := by
  rw [List.drop_eq_getElem_cons h]
  simp [rd, h]
theorem compare_l0 (x0 x1 : List Int) (h0 : x0.length ≤ 10) : ∀ (n d i : Nat), i ≤ x0.length → x0.length - i ≤ n → i ≤ x1.length → ∃ r, slices_Compare_int_int.l0 (n + 1 + d) x0 x1 x0 (x0.length : Int) (i : Int) = some r ∧ (r < 0 ↔ lexLt (x0.drop i) (x1.drop i) = true)
  | 0, d, i, h1, h2, h3 => by
    rw [show 0 + 1 + d = d + 1 from by omega]
    simp only [slices_Compare_int_int.l0]
    rw [if_neg (by omega)]
    have e : x0.drop i = [] := List.drop_eq_nil_of_le (by omega)
    rw [e]
    by_cases c : (x0.length : Int) < (x1.length : Int)
    · rw [if_pos c]
      refine ⟨-1, rfl, ?_⟩
      rw [drop_cons x1 i (by omega)]
      simp [lexLt]
    · rw [if_neg c]
      refine ⟨0, rfl, ?_⟩
      rw [show x1.drop i = [] from List.drop_eq_nil_of_le (by omega)]
      simp [lexLt]
  | n + 1, d, i, h1, h2, h3 => by
    by_cases c : i < x0.length
    · rw [show n + 1 + 1 + d = (n + 1 + d) + 1 from by omega]
      simp only [slices_Compare_int_int.l0]
      rw [if_pos (by omega), if_pos (by omega), if_pos (by omega)]
      by_cases c2 : i < x1.length
      · rw [if_neg (by omega), if_pos (by omega), cmp_f, Option.bind_some, wrap64_id (by omega) (by omega), drop_cons x0 i c, drop_cons x1 i c2]
        simp only [lexLt]
        by_cases e1 : rd x0 (i : Int) < rd x1 (i : Int)
        · rw [if_pos e1, if_neg (by decide)]
          exact ⟨-1, rfl, by simp [e1]⟩
        · rw [if_neg e1]
          by_cases e2 : rd x1 (i : Int) < rd x0 (i : Int)
          · rw [if_pos e2, if_neg (by decide)]
            exact ⟨1, rfl, by simp [e1]; omega⟩
          · rw [if_neg e2, if_pos rfl]
            obtain ⟨r, hr, hl⟩ := compare_l0 x0 x1 h0 n d (i + 1) (by omega) (by omega) (by omega)
            refine ⟨r, by simpa using hr, ?_⟩
            have e3 : rd x0 (i : Int) = rd x1 (i : Int) := by omega
            simp [e3, hl]
      · rw [if_pos (by omega)]
        refine ⟨1, rfl, ?_⟩
        rw [drop_cons x0 i c, show x1.drop i = [] from List.drop_eq_nil_of_le (by omega)]
        simp [lexLt]
    · rw [show n + 1 + 1 + d = 0 + 1 + (n + 1 + d) from by omega]
      exact compare_l0 x0 x1 h0 0 (n + 1 + d) i h1 (by omega) h3
theorem compare_f (x0 x1 : List Int) (h0 : x0.length ≤ 10) (d : Nat) : ∃ r, slices_Compare_int_int.f (11 + d) x0 x1 = some r ∧ (r < 0 ↔ lexLt x0 x1 = true) :=
  compare_l0 x0 x1 h0 10 d 0 (by omega) (by omega) (by omega)
end Go.Proofs.Ythmddmafiefaaaa.PureOrd
