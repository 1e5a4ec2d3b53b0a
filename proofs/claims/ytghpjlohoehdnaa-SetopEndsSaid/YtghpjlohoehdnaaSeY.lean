/- The iterators of scan, sort and setop, as values; setop.Join. No condition beyond those that each theorem names. -/
import Derived.Test.YtghpjlohoehdnaaSeX
namespace Go.Proofs.Ytghpjlohoehdnaa.Sep
open Go Go.RowKit Go.Shelf
attribute [local go_sem] Oper.semAt_some
set_option linter.unusedVariables false
set_option linter.unusedSimpArgs false
/-- up to the first error, that one taken in -/
def cutP : List Pr → List Pr
  | [] => []
  | p :: l => if p.1.2 = 0 then p :: cutP l else [p]
theorem cutP_fst : ∀ l : List Pr, (cutP l).map Prod.fst = cutE (l.map Prod.fst)
  | [] => rfl
  | p :: l => by
    unfold cutP
    rw [List.map_cons, cutE]
    by_cases h : p.1.2 = 0
    · rw [if_pos h, if_pos h, List.map_cons, cutP_fst l]
    · rw [if_neg h, if_neg h]; rfl
theorem cutP_mem : ∀ (l : List Pr), ∀ p ∈ cutP l, p ∈ l
  | [], p, h => by cases h
  | q :: l, p, h => by
    unfold cutP at h
    by_cases h0 : q.1.2 = 0
    · rw [if_pos h0] at h
      rcases List.mem_cons.1 h with rfl | h
      · exact List.mem_cons_self ..
      · exact List.mem_cons_of_mem _ (cutP_mem l p h)
    · rw [if_neg h0] at h
      rw [List.mem_singleton.1 h]; exact List.mem_cons_self ..
theorem cutP_len : ∀ l : List Pr, (cutP l).length ≤ l.length
  | [] => Nat.le_refl _
  | p :: l => by
    unfold cutP
    by_cases h : p.1.2 = 0
    · rw [if_pos h]; exact Nat.succ_le_succ (cutP_len l)
    · rw [if_neg h]; simp
theorem amL_mem (is : Bool) (rows : List (List V3)) : ∀ (l : List Pr), ∀ p ∈ amL is rows l, p.1.2 = 0 → p ∈ l
  | [], p, h, _ => by cases h
  | q :: l, p, h, hp => by
    unfold amL at h
    by_cases h0 : q.1.2 = 0
    · rw [if_pos h0] at h
      by_cases h1 : (rows.any fun s => eqRow s q.2) = is
      · rw [if_pos h1] at h
        rcases List.mem_cons.1 h with rfl | h
        · exact List.mem_cons_self ..
        · exact List.mem_cons_of_mem _ (amL_mem is rows l p h hp)
      · rw [if_neg h1] at h
        exact List.mem_cons_of_mem _ (amL_mem is rows l p h hp)
    · rw [if_neg h0] at h
      rw [List.mem_singleton.1 h] at hp
      exact absurd hp h0
theorem amL_len (is : Bool) (rows : List (List V3)) : ∀ l : List Pr, (amL is rows l).length ≤ l.length
  | [] => Nat.le_refl _
  | q :: l => by
    unfold amL
    have := amL_len is rows l
    split
    · split
      · simpa using this
      · rw [List.length_cons]; omega
    · simp
theorem distL_mem : ∀ (l : List Pr) (acc : List (List V3)), ∀ p ∈ distL acc l, p.1.2 = 0 → p ∈ l
  | [], acc, p, h, _ => by cases h
  | q :: l, acc, p, h, hp => by
    unfold distL at h
    by_cases h0 : q.1.2 = 0
    · rw [if_pos h0] at h
      split at h
      · exact List.mem_cons_of_mem _ (distL_mem l _ p h hp)
      · rcases List.mem_cons.1 h with rfl | h
        · exact List.mem_cons_self ..
        · exact List.mem_cons_of_mem _ (distL_mem l _ p h hp)
    · rw [if_neg h0] at h
      rw [List.mem_singleton.1 h] at hp
      exact absurd hp h0
theorem distL_len : ∀ (l : List Pr) (acc : List (List V3)), (distL acc l).length ≤ l.length
  | [], acc => Nat.le_refl _
  | q :: l, acc => by
    unfold distL
    split
    · split
      · have := distL_len l acc; rw [List.length_cons]; omega
      · have := distL_len l (acc ++ [q.2]); simpa using this
    · simp
/-- among, whatever the other is -/
def amAll (is : Bool) (pa pb : List Pr) : List Pr := if errOf pb = 0 then amL is (pb.map Prod.snd) pa else [((RV.nil, errOf pb), [])]
theorem amAll_len (is : Bool) (pa pb : List Pr) : (amAll is pa pb).length ≤ pa.length + 1 := by
  unfold amAll
  split
  · have := amL_len is (pb.map Prod.snd) pa; omega
  · simp
theorem both_c (A B : Nat) (va vb : Value) (pa pb : List Pr) (Ra Rb : Nat → Prop) (w : World) (hA : A < w.heap.size) (hB : B < w.heap.size) (hca : w.cell? ⟨A, 0, none⟩ = some va) (hcb : w.cell? ⟨B, 0, none⟩ = some vb) (ha : ItC va pa Ra w) (hb : ItC vb pb Rb w) :
    ItC (.func (.func 68) #[] #[.pointer (some ⟨A, 0, none⟩), .pointer (some ⟨B, 0, none⟩)]) (cutP (pa ++ pb)) (fun j => j = A ∨ j = B ∨ Ra j ∨ Rb j) w := by
  refine ⟨?_, fun p hp h0 => ?_⟩
  · rw [cutP_fst, List.map_append]
    exact both_it A B va vb _ _ Ra Rb w hA hB hca hcb ha.it hb.it
  · rcases List.mem_append.1 (cutP_mem _ p hp) with h | h
    · obtain ⟨h1, h2, h3⟩ := ha.rows p h h0
      exact ⟨h1, h2, fun j hj => .inr (.inr (.inl (h3 j hj)))⟩
    · obtain ⟨h1, h2, h3⟩ := hb.rows p h h0
      exact ⟨h1, h2, fun j hj => .inr (.inr (.inr (h3 j hj)))⟩
theorem dist_c (A : Nat) (va : Value) (pa : List Pr) (Ra : Nat → Prop) (w : World) (hA : A < w.heap.size) (hca : w.cell? ⟨A, 0, none⟩ = some va) (ha : ItC va pa Ra w) (hla : pa.length ≤ 100000) :
    ItC (.func (.func 54) #[] #[.pointer (some ⟨A, 0, none⟩)]) (distL [] pa) (fun j => j = A ∨ Ra j) w := by
  refine ⟨⟨⟨54, _, rfl, enters_of Try.func54 (by kernel_rfl) rfl, ?_⟩, ?_⟩, fun p hp h0 => ?_⟩
  · intro n l J Jx X W hs hR hX hJ hJx hY h0
    have ha' := ha.later hs (fun j hj => (hR j (.inr hj)).2.2)
    obtain ⟨ga, la, rfl, ega, hqa⟩ := ha'.it.ex
    exact callsIn_wide.2 (callsIn_wide.1 (dist1_in 6 (Nat.le_refl _) l A ga la pa Ra J Jx X W hX hJ hJx (Nat.lt_of_lt_of_le hA hs) ((cell_of_block (hR A (.inl rfl)).2.2 0).trans hca) hla ega hqa (fun j hj => ⟨ha'.it.lt j hj, (hR j (.inr hj)).2.1⟩) ha'.rows (fun pre x X1 W1 p q r => yield_wide (hY pre x X1 W1 p q r)) h0))
  · rintro j (rfl | h)
    · exact hA
    · exact ha.it.lt j h
  · obtain ⟨h1, h2, h3⟩ := ha.rows p (distL_mem _ _ p hp h0) h0
    exact ⟨h1, h2, fun j hj => .inr (h3 j hj)⟩
theorem among_c (A B D : Nat) (is : Bool) (va vb : Value) (pa pb : List Pr) (Ra Rb : Nat → Prop) (w : World) (hA : A < w.heap.size) (hB : B < w.heap.size) (hD : D < w.heap.size) (hca : w.cell? ⟨A, 0, none⟩ = some vb) (hcb : w.cell? ⟨B, 0, none⟩ = some va) (hcd : w.cell? ⟨D, 0, none⟩ = some (.bool is))
    (ha : ItC va pa Ra w) (hb : ItC vb pb Rb w) (hlb : pb.length ≤ 100000) :
    ItC (.func (.func 69) #[] #[.pointer (some ⟨A, 0, none⟩), .pointer (some ⟨B, 0, none⟩), .pointer (some ⟨D, 0, none⟩)]) (amAll is pa pb) (fun j => j = A ∨ j = B ∨ j = D ∨ Ra j ∨ Rb j) w := by
  refine ⟨⟨⟨69, _, rfl, enters_of Try.func69 (by kernel_rfl) rfl, ?_⟩, ?_⟩, fun p hp h0 => ?_⟩
  · intro n l J Jx X W hs hR hX hJ hJx hY h0
    have ha' := ha.later hs (fun j hj => (hR j (.inr (.inr (.inr (.inl hj))))).2.2)
    have hb' := hb.later hs (fun j hj => (hR j (.inr (.inr (.inr (.inr hj))))).2.2)
    obtain ⟨ga, la, rfl, ega, hqa⟩ := ha'.it.ex
    have rA := hR A (.inl rfl)
    have rB := hR B (.inr (.inl rfl))
    have rD := hR D (.inr (.inr (.inl rfl)))
    by_cases he : errOf pb = 0
    · unfold amAll at hY ⊢
      rw [if_pos he] at hY ⊢
      exact callsIn_wide.2 (callsIn_wide.1 (among1_ok 6 (Nat.le_refl _) l A B D is ga la vb pa pb Ra Rb J Jx X W hX hJ hJx (Nat.lt_of_lt_of_le hA hs) ⟨Nat.lt_of_lt_of_le hB hs, rB.2.1⟩ ⟨Nat.lt_of_lt_of_le hD hs, rD.2.1⟩ ((cell_of_block rA.2.2 0).trans hca) ((cell_of_block rB.2.2 0).trans hcb) ((cell_of_block rD.2.2 0).trans hcd)
        ega hqa (fun j hj => ⟨ha'.it.lt j hj, (hR j (.inr (.inr (.inr (.inl hj))))).2.1⟩) ha'.rows hb' hlb he _ rfl (fun pre x X1 W1 p q r => yield_wide (hY pre x X1 W1 p q r)) h0))
    · unfold amAll at hY ⊢
      rw [if_neg he] at hY ⊢
      exact callsIn_wide.2 (callsIn_wide.1 (among1_err 6 (Nat.le_refl _) l A B D is ga la vb pa pb Ra Rb J Jx X W hX hJ hJx (Nat.lt_of_lt_of_le hA hs) ⟨Nat.lt_of_lt_of_le hB hs, rB.2.1⟩ ⟨Nat.lt_of_lt_of_le hD hs, rD.2.1⟩ ((cell_of_block rA.2.2 0).trans hca) ((cell_of_block rB.2.2 0).trans hcb) ((cell_of_block rD.2.2 0).trans hcd)
        ega hqa (fun j hj => ⟨ha'.it.lt j hj, (hR j (.inr (.inr (.inr (.inl hj))))).2.1⟩) ha'.rows hb' hlb he (fun pre x X1 W1 p q r => yield_wide (hY pre x X1 W1 p q r)) h0))
  · rintro j (rfl | rfl | rfl | h | h)
    · exact hA
    · exact hB
    · exact hD
    · exact ha.it.lt j h
    · exact hb.it.lt j h
  · unfold amAll at hp
    split at hp
    · obtain ⟨h1, h2, h3⟩ := ha.rows p (amL_mem _ _ _ p hp h0) h0
      exact ⟨h1, h2, fun j hj => .inr (.inr (.inr (.inl (h3 j hj))))⟩
    · rename_i he
      rw [List.mem_singleton.1 hp] at h0
      exact absurd h0 he
/-- a list's rows with their values -/
def prL : List RV → List (List V3) → List Pr
  | r :: rs, row :: rows => ((r, 0), row) :: prL rs rows
  | _, _ => []
theorem prL_fst : ∀ (rs : List RV) (rows : List (List V3)), rs.length = rows.length → (prL rs rows).map Prod.fst = rs.map fun r => (r, 0)
  | [], [], _ => rfl
  | r :: rs, row :: rows, h => by simp [prL, prL_fst rs rows (by simpa using h)]
theorem prL_snd : ∀ (rs : List RV) (rows : List (List V3)), rs.length = rows.length → (prL rs rows).map Prod.snd = rows
  | [], [], _ => rfl
  | r :: rs, row :: rows, h => by simp [prL, prL_snd rs rows (by simpa using h)]
theorem prL_mem {P : RV → List V3 → Prop} : ∀ (rs : List RV) (rows : List (List V3)), All2 P rs rows → ∀ p ∈ prL rs rows, p.1.2 = 0 ∧ P p.1.1 p.2
  | [], [], _, p, hp => by cases hp
  | r :: rs, row :: rows, h, p, hp => by
    rcases List.mem_cons.1 hp with rfl | hp
    · exact ⟨rfl, h.1⟩
    · exact prL_mem rs rows h.2 p hp
theorem list_c (Bs : Nat) (sv : Value) (rows : List (List V3)) (P : Nat → Prop) (w : World) (hBs : Bs < w.heap.size) (hP : ∀ j, P j → j < w.heap.size) (hc : w.cell? ⟨Bs, 0, none⟩ = some sv) (h : OwnB P w sv rows) (hl : rows.length ≤ 100000) :
    ∃ prs, prs.map Prod.snd = rows ∧ (∀ p ∈ prs, p.1.2 = 0) ∧ ItC (.func (.func 41) #[] #[.pointer (some ⟨Bs, 0, none⟩)]) prs (fun j => j = Bs ∨ P j) w := by
  rcases h with ⟨a0, c0, rfl, rfl⟩ | ⟨b, off, c, rs, rfl, hb, hb2, hcs, hr⟩
  · exact ⟨[], rfl, (fun p hp => by cases hp), list_it Bs _ [] P w hBs hP hc (.inl ⟨_, _, rfl, rfl⟩) (by simp), fun p hp => by cases hp⟩
  · refine ⟨prL rs rows, prL_snd rs rows hr.len, fun p hp => (prL_mem rs rows hr p hp).1, ?_, fun p hp _ => ?_⟩
    · rw [prL_fst rs rows hr.len]
      exact list_it Bs _ rs P w hBs hP hc (.inr ⟨b, off, c, rfl, hb, hcs⟩) (by rw [hr.len]; omega)
    · obtain ⟨h1, h2, h3⟩ := (prL_mem rs rows hr p hp).2
      exact ⟨h1, h2, fun j hj => .inr (h3 j hj)⟩
end Go.Proofs.Ytghpjlohoehdnaa.Sep
