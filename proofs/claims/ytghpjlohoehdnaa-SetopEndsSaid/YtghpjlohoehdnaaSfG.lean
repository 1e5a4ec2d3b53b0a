/- The plain law: what setop.Join hands over is the reference's Join. No condition beyond those that each theorem names. -/
import Derived.Test.YtghpjlohoehdnaaSfF
namespace Go.Proofs.Ytghpjlohoehdnaa.Sep
open Go Go.RowKit Go.Shelf
set_option linter.unusedVariables false
set_option linter.unusedSimpArgs false
/-- those of a list that were not seen, each once -/
def dd (acc : List (List V3)) : List (List V3) → List (List V3)
  | [] => []
  | r :: l => if acc.any fun s => eqRow s r then dd acc l else r :: dd (acc ++ [r]) l
theorem dd_append : ∀ (l m acc : List (List V3)), dd acc (l ++ m) = dd acc l ++ dd (acc ++ dd acc l) m
  | [], m, acc => by simp [dd]
  | r :: l, m, acc => by
    rw [List.cons_append, dd, dd]
    split
    · exact dd_append l m acc
    · rw [dd_append l m (acc ++ [r])]; simp
theorem refB_dd : ∀ (l out : List (List V3)), refB out l = out ++ dd out l
  | [], out => by simp [refB, dd]
  | r :: l, out => by
    rw [refB, dd]
    cases h : (out.any fun s => eqRow s r) with
    | true => simp [h, refB_dd l out]
    | false => simp [h, refB_dd l]
/-- which rows a join takes of its first -/
def isIn (how : Int) (b : List (List V3)) (r : List V3) : Bool := how == 2 || ((how == 3) == b.any fun s => eqRow s r)
theorem refA_dd (how : Int) (b : List (List V3)) : ∀ (l out : List (List V3)), refA how b out l = out ++ dd out (l.filter (isIn how b))
  | [], out => by simp [refA, dd]
  | r :: l, out => by
    rw [refA, refA_dd how b l, List.filter_cons]
    cases hi : isIn how b r with
    | false =>
      have : (how == 2 || ((how == 3) == b.any fun s => eqRow s r)) = false := hi
      rw [this]; simp
    | true =>
      have : (how == 2 || ((how == 3) == b.any fun s => eqRow s r)) = true := hi
      rw [this, if_pos rfl, dd]
      cases h : (out.any fun s => eqRow s r) with
      | true => simp [h]
      | false => simp [h]
def okP (l : List Pr) : Prop := ∀ p ∈ l, p.1.2 = 0
theorem okP.tail {p : Pr} {l : List Pr} (h : okP (p :: l)) : p.1.2 = 0 ∧ okP l := ⟨h p (List.mem_cons_self ..), fun q hq => h q (List.mem_cons_of_mem _ hq)⟩
theorem okP.app {l m : List Pr} (h : okP l) (k : okP m) : okP (l ++ m) := fun p hp => (List.mem_append.1 hp).elim (h p) (k p)
theorem cutP_ok : ∀ {l : List Pr}, okP l → cutP l = l
  | [], _ => rfl
  | p :: l, h => by rw [cutP, if_pos h.tail.1, cutP_ok h.tail.2]
theorem distL_ok : ∀ {l : List Pr} (acc : List (List V3)), okP l → okP (distL acc l) ∧ (distL acc l).map Prod.snd = dd acc (l.map Prod.snd)
  | [], acc, _ => ⟨(fun p hp => by cases hp), rfl⟩
  | p :: l, acc, h => by
    rw [distL, if_pos h.tail.1, List.map_cons, dd]
    cases hc : (acc.any fun s => eqRow s p.2) with
    | true => simp only [if_true]; exact distL_ok acc h.tail.2
    | false =>
      obtain ⟨h1, h2⟩ := distL_ok (acc ++ [p.2]) h.tail.2
      simp only [Bool.false_eq_true, if_false]
      refine ⟨fun q hq => ?_, by rw [List.map_cons, h2]⟩
      rcases List.mem_cons.1 hq with rfl | hq
      · exact h.tail.1
      · exact h1 q hq
theorem amL_ok (is : Bool) (rows : List (List V3)) : ∀ {l : List Pr}, okP l → okP (amL is rows l) ∧ (amL is rows l).map Prod.snd = (l.map Prod.snd).filter fun r => (rows.any fun s => eqRow s r) == is
  | [], _ => ⟨(fun p hp => by cases hp), rfl⟩
  | p :: l, h => by
    obtain ⟨h1, h2⟩ := amL_ok is rows h.tail.2
    rw [amL, if_pos h.tail.1, List.map_cons, List.filter_cons]
    by_cases hc : (rows.any fun s => eqRow s p.2) = is
    · rw [if_pos hc, if_pos (by simpa using hc)]
      refine ⟨fun q hq => ?_, by rw [List.map_cons, h2]⟩
      rcases List.mem_cons.1 hq with rfl | hq
      · exact h.tail.1
      · exact h1 q hq
    · rw [if_neg hc, if_neg (by simpa using hc)]
      exact ⟨h1, h2⟩
theorem filter_is3 (b l : List (List V3)) : (l.filter fun r => (b.any fun s => eqRow s r) == true) = l.filter (isIn 3 b) := by
  congr 1; funext r; simp [isIn]
theorem filter_is4 (b l : List (List V3)) : (l.filter fun r => (b.any fun s => eqRow s r) == false) = l.filter (isIn 4 b) := by
  congr 1; funext r; simp [isIn]
theorem filter_is2 (b l : List (List V3)) : l.filter (isIn 2 b) = l := by
  rw [List.filter_eq_self]; intro r _; simp [isIn]
/-- JOIN, of lists: no error, the reference's rows. -/
theorem joinP_ok {how : Int} (h : ¬ (how < 1 ∨ 4 < how)) {pa pb : List Pr} (ha : okP pa) (hb : okP pb) : okP (joinP how pa pb) ∧ (joinP how pa pb).map Prod.snd = refL how (pa.map Prod.snd) (pb.map Prod.snd) := by
  have hc := cutP_ok (ha.app hb)
  by_cases h1 : how = 1
  · subst h1
    rw [joinP_1 rfl, hc]
    exact ⟨ha.app hb, by rw [List.map_append]; rfl⟩
  by_cases h2 : how = 2
  · subst h2
    rw [joinP_2 rfl, hc]
    obtain ⟨e1, e2⟩ := distL_ok [] (ha.app hb)
    refine ⟨e1, ?_⟩
    rw [e2, List.map_append, dd_append]
    show _ = refB (refA 2 (pb.map Prod.snd) [] (pa.map Prod.snd)) (pb.map Prod.snd)
    rw [refB_dd, refA_dd, filter_is2]
    simp
  by_cases h3 : how = 3
  · subst h3
    rw [show joinP 3 pa pb = distL [] (amAll true pa pb) from joinP_34 (is := true) rfl]
    unfold amAll
    rw [if_pos (errOf_zero pb hb)]
    obtain ⟨a1, a2⟩ := amL_ok true (pb.map Prod.snd) ha
    obtain ⟨e1, e2⟩ := distL_ok [] a1
    refine ⟨e1, ?_⟩
    rw [e2, a2, filter_is3]
    show _ = refA 3 (pb.map Prod.snd) [] (pa.map Prod.snd)
    rw [refA_dd]; simp
  · obtain rfl : how = 4 := by omega
    rw [show joinP 4 pa pb = distL [] (amAll false pa pb) from joinP_34 (is := false) rfl]
    unfold amAll
    rw [if_pos (errOf_zero pb hb)]
    obtain ⟨a1, a2⟩ := amL_ok false (pb.map Prod.snd) ha
    obtain ⟨e1, e2⟩ := distL_ok [] a1
    refine ⟨e1, ?_⟩
    rw [e2, a2, filter_is4]
    show _ = refA 4 (pb.map Prod.snd) [] (pa.map Prod.snd)
    rw [refA_dd]; simp
theorem dd_len : ∀ (l acc : List (List V3)), (dd acc l).length ≤ l.length
  | [], _ => Nat.le_refl _
  | r :: l, acc => by
    rw [dd]
    split
    · have := dd_len l acc; rw [List.length_cons]; omega
    · have := dd_len l (acc ++ [r]); simpa using this
theorem refL_len (how : Int) (a b : List (List V3)) : (refL how a b).length ≤ a.length + b.length := by
  have hd : ∀ h : Int, (refA h b [] a).length ≤ a.length := fun h => by
    rw [refA_dd, List.nil_append]
    exact Nat.le_trans (dd_len _ _) (List.length_filter_le _ _)
  unfold refL
  split
  · rw [List.length_append]; exact Nat.le_refl _
  · split
    · rw [refB_dd, List.length_append]
      have := hd 2
      have := dd_len b (refA 2 b [] a)
      omega
    · have := hd how; omega
end Go.Proofs.Ytghpjlohoehdnaa.Sep
