/- The plain law of SetopTogether. No condition beyond those that each theorem names. -/
import Derived.Test.YtghpjlohoehdnaaSfK
namespace Go.Proofs.Ytghpjlohoehdnaa.Sep
open Go Go.RowKit Go.Shelf
set_option linter.unusedVariables false
set_option linter.unusedSimpArgs false
theorem eqRow_iff {r s : List V3} : eqRow r s = true ↔ r = s := ⟨eqRow_eq r s, fun h => h ▸ eqRow_refl r⟩
theorem any_iff {l : List (List V3)} {r : List V3} : (l.any fun s => eqRow s r) = true ↔ r ∈ l := by
  rw [List.any_eq_true]
  constructor
  · rintro ⟨s, hs, he⟩; rw [← eqRow_iff.1 he]; exact hs
  · intro h; exact ⟨r, h, eqRow_refl r⟩
theorem within_iff {a b : List (List V3)} : (a.all fun r => b.any fun s => eqRow s r) = true ↔ ∀ r ∈ a, r ∈ b := by
  rw [List.all_eq_true]
  constructor
  · intro h r hr; exact any_iff.1 (h r hr)
  · intro h r hr; exact any_iff.2 (h r hr)
theorem dd_mem : ∀ (l acc : List (List V3)) (r : List V3), r ∈ dd acc l ↔ r ∈ l ∧ r ∉ acc
  | [], acc, r => by simp [dd]
  | x :: l, acc, r => by
    rw [dd]
    by_cases h : x ∈ acc
    · rw [if_pos (any_iff.2 h), dd_mem l acc r]
      constructor
      · rintro ⟨h1, h2⟩; exact ⟨List.mem_cons_of_mem _ h1, h2⟩
      · rintro ⟨h1, h2⟩
        rcases List.mem_cons.1 h1 with rfl | h1
        · exact absurd h h2
        · exact ⟨h1, h2⟩
    · rw [if_neg (fun e => h (any_iff.1 e)), List.mem_cons, dd_mem l (acc ++ [x]) r]
      constructor
      · rintro (rfl | ⟨h1, h2⟩)
        · exact ⟨List.mem_cons_self .., h⟩
        · exact ⟨List.mem_cons_of_mem _ h1, fun e => h2 (List.mem_append_left _ e)⟩
      · rintro ⟨h1, h2⟩
        by_cases e : r = x
        · exact .inl e
        · rcases List.mem_cons.1 h1 with h1 | h1
          · exact absurd h1 e
          · exact .inr ⟨h1, fun q => (List.mem_append.1 q).elim h2 (fun q => e (List.mem_singleton.1 q))⟩
theorem dd_nodup : ∀ (l acc : List (List V3)), (dd acc l).Nodup
  | [], acc => List.nodup_nil
  | x :: l, acc => by
    rw [dd]
    split
    · exact dd_nodup l acc
    · refine List.nodup_cons.2 ⟨fun h => ?_, dd_nodup l _⟩
      exact ((dd_mem l _ x).1 h).2 (by simp)
theorem dd_congr : ∀ (l acc acc' : List (List V3)), (∀ r ∈ l, r ∈ acc ↔ r ∈ acc') → dd acc l = dd acc' l
  | [], _, _, _ => rfl
  | x :: l, acc, acc', h => by
    have hx := h x (List.mem_cons_self ..)
    rw [dd, dd]
    by_cases hm : x ∈ acc
    · rw [if_pos (any_iff.2 hm), if_pos (any_iff.2 (hx.1 hm))]
      exact dd_congr l acc acc' fun r hr => h r (List.mem_cons_of_mem _ hr)
    · rw [if_neg (fun e => hm (any_iff.1 e)), if_neg (fun e => hm (hx.2 (any_iff.1 e)))]
      rw [dd_congr l (acc ++ [x]) (acc' ++ [x]) fun r hr => by
        rw [List.mem_append, List.mem_append, h r (List.mem_cons_of_mem _ hr)]]
theorem dd_filter (p : List V3 → Bool) : ∀ (l acc : List (List V3)), (dd acc l).filter p = dd acc (l.filter p)
  | [], _ => rfl
  | x :: l, acc => by
    rw [dd, List.filter_cons]
    by_cases hm : x ∈ acc
    · rw [if_pos (any_iff.2 hm), dd_filter p l acc]
      by_cases hp : p x = true
      · rw [if_pos hp, dd, if_pos (any_iff.2 hm)]
      · rw [if_neg hp]
    · rw [if_neg (fun e => hm (any_iff.1 e)), List.filter_cons]
      by_cases hp : p x = true
      · rw [if_pos hp, if_pos hp, dd, if_neg (fun e => hm (any_iff.1 e)), dd_filter p l]
      · rw [if_neg hp, if_neg hp, dd_filter p l]
        refine dd_congr _ _ _ fun r hr => ?_
        have hpr := (List.mem_filter.1 hr).2
        rw [List.mem_append]
        exact ⟨fun h => h.elim id (fun h => absurd (List.mem_singleton.1 h ▸ hpr) hp), .inl⟩
theorem refL2 (a b : List (List V3)) : refL 2 a b = dd [] (a ++ b) := by
  show refB (refA 2 b [] a) b = _
  rw [refB_dd, refA_dd, filter_is2, dd_append]
  simp
theorem refL3 (a b : List (List V3)) : refL 3 a b = dd [] (a.filter (isIn 3 b)) := by
  show refA 3 b [] a = _
  rw [refA_dd]; simp
theorem refL4 (a b : List (List V3)) : refL 4 a b = dd [] (a.filter (isIn 4 b)) := by
  show refA 4 b [] a = _
  rw [refA_dd]; simp
theorem isIn3 {b : List (List V3)} {r : List V3} : isIn 3 b r = true ↔ r ∈ b := by
  rw [← any_iff]; simp [isIn]
theorem isIn4 (b : List (List V3)) (r : List V3) : isIn 4 b r = !isIn 3 b r := by simp [isIn]
theorem filter_two (p : List V3 → Bool) : ∀ l : List (List V3), (l.filter p).length + (l.filter fun r => !p r).length = l.length
  | [] => rfl
  | x :: l => by
    have := filter_two p l
    rw [List.filter_cons, List.filter_cons]
    cases p x <;> simp <;> omega
theorem plain_len (a b : List (List V3)) : (refL 2 a b).length = (refL 2 b a).length := by
  rw [refL2, refL2]
  refine List.Perm.length_eq ((List.perm_ext_iff_of_nodup (dd_nodup _ _) (dd_nodup _ _)).2 fun r => ?_)
  rw [dd_mem, dd_mem, List.mem_append, List.mem_append, or_comm]
theorem plain_two (a b : List (List V3)) : (refL 3 a b).length + (refL 4 a b).length = (refL 2 a []).length := by
  rw [refL2, refL3, refL4, ← dd_filter, ← dd_filter, List.append_nil]
  have := filter_two (isIn 3 b) (dd [] a)
  rw [show (isIn 4 b) = fun r => !isIn 3 b r from funext (isIn4 b)]
  exact this
theorem w_xy (a b : List (List V3)) : ((refL 2 a b).all fun r => (refL 2 b a).any fun s => eqRow s r) = true := by
  rw [within_iff, refL2, refL2]
  intro r hr
  rw [dd_mem, List.mem_append] at *
  exact ⟨hr.1.symm, hr.2⟩
theorem mem3 (a b : List (List V3)) (r : List V3) : r ∈ refL 3 a b ↔ r ∈ a ∧ r ∈ b := by
  rw [refL3, dd_mem, List.mem_filter, isIn3]; simp
theorem mem4 (a b : List (List V3)) (r : List V3) : r ∈ refL 4 a b ↔ r ∈ a ∧ r ∉ b := by
  rw [refL4, dd_mem, List.mem_filter, isIn4]
  have := isIn3 (b := b) (r := r)
  cases h : isIn 3 b r with
  | true => simp [this.1 h]
  | false => simp only [Bool.not_false, and_true, List.not_mem_nil, not_false_eq_true]; exact ⟨fun q => ⟨q, fun e => by rw [this.2 e] at h; cases h⟩, fun q => q.1⟩
theorem w_again (a b : List (List V3)) : ((refL 2 (refL 3 a b) (refL 4 a b)).all fun r => (refL 2 a []).any fun s => eqRow s r) = true := by
  rw [within_iff, refL2, refL2 a]
  intro r hr
  rw [dd_mem, List.mem_append, mem3, mem4] at hr
  rw [dd_mem, List.append_nil]
  exact ⟨hr.1.elim (fun h => h.1) (fun h => h.1), by simp⟩
theorem w_once (a b : List (List V3)) : ((refL 2 a []).all fun r => (refL 2 (refL 3 a b) (refL 4 a b)).any fun s => eqRow s r) = true := by
  rw [within_iff, refL2, refL2]
  intro r hr
  rw [dd_mem, List.append_nil] at hr
  rw [dd_mem, List.mem_append, mem3, mem4]
  by_cases h : r ∈ b
  · exact ⟨.inl ⟨hr.1, h⟩, by simp⟩
  · exact ⟨.inr ⟨hr.1, h⟩, by simp⟩
theorem w_both (a b : List (List V3)) : ((refL 3 a b).all fun r => b.any fun s => eqRow s r) = true := by
  rw [within_iff]
  intro r hr
  exact ((mem3 a b r).1 hr).2
theorem w_all (a b : List (List V3)) : ((refL 1 a b).all fun r => (refL 2 a b).any fun s => eqRow s r) = true := by
  rw [within_iff, refL2]
  intro r hr
  rw [dd_mem]
  exact ⟨hr, by simp⟩
end Go.Proofs.Ytghpjlohoehdnaa.Sep
