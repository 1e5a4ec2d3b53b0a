/- An error of either comes: the plain law, and Metered's iterator. No condition beyond those that each theorem names. -/
import Derived.Test.YtghpjlohoehdnaaSfK
namespace Go.Proofs.Ytghpjlohoehdnaa.Sep
open Go Go.RowKit Go.Shelf
set_option linter.unusedVariables false
set_option linter.unusedSimpArgs false
/-- what is metered with no meter -/
def badP : List Pr → List Pr
  | [] => []
  | _ :: _ => [((RV.nil, 310), [])]
theorem badP_fst : ∀ l : List Pr, (badP l).map Prod.fst = badL (l.map Prod.fst)
  | [] => rfl
  | _ :: _ => rfl
theorem errOf_app : ∀ {l : List Pr} (m : List Pr), okP l → errOf (l ++ m) = errOf m
  | [], _, _ => rfl
  | p :: l, m, h => by rw [List.cons_append, errOf, if_pos h.tail.1, errOf_app m h.tail.2]
theorem errOf_cut : ∀ l : List Pr, errOf (cutP l) = errOf l
  | [] => rfl
  | p :: l => by
    rw [cutP, errOf]
    by_cases h : p.1.2 = 0
    · rw [if_pos h, if_pos h, errOf, if_pos h, errOf_cut l]
    · rw [if_neg h, if_neg h, errOf, if_neg h]
theorem errOf_dist : ∀ (l : List Pr) (acc : List (List V3)), errOf (distL acc l) = errOf l
  | [], _ => rfl
  | p :: l, acc => by
    rw [distL, errOf]
    by_cases h : p.1.2 = 0
    · rw [if_pos h, if_pos h]
      split
      · exact errOf_dist l acc
      · rw [errOf, if_pos h, errOf_dist l _]
    · rw [if_neg h, if_neg h, errOf, if_neg h]
theorem badP_err {p : Pr} {l : List Pr} : errOf (badP (p :: l)) = 310 := rfl
/-- the answer's error, where one of both is bad -/
def codeE (how : Int) (rows : List (List V3)) : Int := if bad how then 1 else if rows = [] then 0 else 310
theorem joinP_nil {how : Int} (h : ¬ bad how) : joinP how [] [] = [] := by
  unfold bad at h
  by_cases h1 : how = 1
  · subst h1; rfl
  by_cases h2 : how = 2
  · subst h2; rfl
  by_cases h3 : how = 3
  · subst h3; rfl
  · obtain rfl : how = 4 := by omega
    rfl
theorem join_err {how : Int} (h : ¬ bad how) (p : Pr) (l : List Pr) (hl : okP (p :: l)) : errOf (joinP how (p :: l) (badP (p :: l))) = 310 ∧ errOf (joinP how (badP (p :: l)) (p :: l)) = 310 := by
  unfold bad at h
  have e0 := errOf_zero (p :: l) hl
  by_cases h1 : how = 1
  · subst h1
    rw [joinP_1 rfl, joinP_1 rfl, errOf_cut, errOf_cut, errOf_app _ hl]
    exact ⟨rfl, rfl⟩
  by_cases h2 : how = 2
  · subst h2
    rw [joinP_2 rfl, joinP_2 rfl, errOf_dist, errOf_dist, errOf_cut, errOf_cut, errOf_app _ hl]
    exact ⟨rfl, rfl⟩
  have hg : ∀ is : Bool, errOf (distL [] (amAll is (p :: l) (badP (p :: l)))) = 310 ∧ errOf (distL [] (amAll is (badP (p :: l)) (p :: l))) = 310 := fun is => by
    rw [errOf_dist, errOf_dist]
    unfold amAll
    rw [if_neg (by rw [badP_err]; decide), if_pos e0]
    exact ⟨rfl, rfl⟩
  by_cases h3 : how = 3
  · subst h3
    exact hg true
  · obtain rfl : how = 4 := by omega
    exact hg false
/-- what must hold of what is collected: an error, or nothing -/
theorem join_e (how : Int) (l : List Pr) (hl : okP l) : errOf (joinP how l (badP l)) = codeE how (l.map Prod.snd) ∧ errOf (joinP how (badP l) l) = codeE how (l.map Prod.snd) ∧
    (errOf (joinP how l (badP l)) ≠ 0 ∨ joinP how l (badP l) = []) ∧ (errOf (joinP how (badP l) l) ≠ 0 ∨ joinP how (badP l) l = []) := by
  unfold codeE
  by_cases h : bad how
  · rw [if_pos h, joinP_no h, joinP_no h]
    exact ⟨rfl, rfl, .inl (by decide), .inl (by decide)⟩
  · rw [if_neg h]
    cases l with
    | nil =>
      have e : joinP how [] (badP []) = [] := joinP_nil h
      have e' : joinP how (badP []) [] = [] := joinP_nil h
      rw [e, e']
      exact ⟨rfl, rfl, .inr rfl, .inr rfl⟩
    | cons p l =>
      obtain ⟨e1, e2⟩ := join_err h p l hl
      rw [e1, e2]
      exact ⟨rfl, rfl, .inl (by decide), .inl (by decide)⟩
theorem join_z (how : Int) : errOf (joinP how [] []) = codeJ how ∧ (errOf (joinP how [] []) ≠ 0 ∨ joinP how [] [] = []) := by
  unfold codeJ
  by_cases h : bad how
  · rw [if_pos h, joinP_no h]; exact ⟨rfl, .inl (by decide)⟩
  · rw [if_neg h, joinP_nil h]; exact ⟨rfl, .inr rfl⟩
theorem collect_z (v : Value) (prs : List Pr) (R : Nat → Prop) (w : World) (h : ItC v prs R w) (hl : prs.length ≤ 100000) (hz : errOf prs ≠ 0 ∨ prs = []) :
    Calls Try.prog 19 #[v] w fun e W' => ∃ a c, e = .returned (.tuple #[.slice a 0 c, .int .i64 (errOf prs)]) ∧ Below w.heap.size w W' := by
  refine (callsIn_wide.1 (collect_c 3 (Nat.le_refl _) v _ R w h hl)).mono ?_
  rintro e W' ⟨hbl, ⟨h0, sv, rfl, _, ho⟩ | ⟨h0, rfl⟩⟩
  · rcases hz with hz | rfl
    · exact absurd h0 hz
    · rcases ho with ⟨a, c, rfl, _⟩ | ⟨b, off, c, rs, rfl, _, _, _, h4⟩
      · exact ⟨a, c, rfl, hbl⟩
      · match rs, h4 with
        | [], _ => exact ⟨_, _, rfl, hbl⟩
  · exact ⟨none, 0, rfl, hbl⟩
theorem bad_c (A B Bm : Nat) (va : Value) (pa : List Pr) (Ra : Nat → Prop) (w : World) (hA : A < w.heap.size) (hB : B < w.heap.size) (hM : Bm < w.heap.size) (hca : w.cell? ⟨A, 0, none⟩ = some va) (hcb : w.cell? ⟨B, 0, none⟩ = some (.func (.func 39) #[] #[.pointer (some ⟨Bm, 0, none⟩)]))
    (hcm : w.cell? ⟨Bm, 0, none⟩ = some (.pointer none)) (ha : ItC va pa Ra w) (hz : okP pa) :
    ItC (.func (.func 66) #[] #[.pointer (some ⟨A, 0, none⟩), .pointer (some ⟨B, 0, none⟩)]) (badP pa) (fun j => j = A ∨ j = B ∨ j = Bm ∨ Ra j) w := by
  refine ⟨?_, fun p hp h0 => ?_⟩
  · rw [badP_fst]
    exact bad_it A B Bm va _ Ra w hA hB hM hca hcb hcm ha.it (fun y hy => by obtain ⟨p, hp, rfl⟩ := List.mem_map.1 hy; exact hz p hp)
  · cases pa with
    | nil => cases hp
    | cons _ _ => rw [List.mem_singleton.1 hp] at h0; cases h0
theorem badP_len : ∀ l : List Pr, (badP l).length ≤ 1
  | [] => Nat.zero_le _
  | _ :: _ => Nat.le_refl _
end Go.Proofs.Ytghpjlohoehdnaa.Sep
