/- The law's of: the rows of two lists, joined and collected; the reference's Join. No condition beyond those that each theorem names. -/
import Derived.Test.YtghpjlohoehdnaaSfG
namespace Go.Proofs.Ytghpjlohoehdnaa.Sep
open Go Go.RowKit Go.Shelf
set_option linter.unusedVariables false
set_option linter.unusedSimpArgs false
/-- a list of rows that lies in the world -/
abbrev Lst (W : World) (sv : Value) (rows : List (List V3)) : Prop := OwnB (fun j => j < W.heap.size) W sv rows
theorem OwnB.mono {P Q : Nat → Prop} {W : World} {sv : Value} {rows : List (List V3)} (h : ∀ j, P j → Q j) : OwnB P W sv rows → OwnB Q W sv rows
  | .inl h => .inl h
  | .inr ⟨b, off, c, rs, h1, h2, h3, h4, h5⟩ => .inr ⟨b, off, c, rs, h1, h b h2, h3, h4, h5.imp fun _ _ k => ⟨k.1, k.2.1, fun j hj => h j (k.2.2 j hj)⟩⟩
theorem Lst.below {W W' : World} {sv : Value} {rows : List (List V3)} (h : Lst W sv rows) (hb : Below W.heap.size W W') : Lst W' sv rows :=
  (OwnB.same hb.size (fun j hj => hb.block j hj) h).mono fun j hj => Nat.lt_of_lt_of_le hj hb.size
theorem Own1.lst {W : World} {sv : Value} {rows : List (List V3)} : Own1 W sv rows → Lst W sv rows
  | .inl h => .inl h
  | .inr ⟨b, off, c, rs, h1, h2, h3, h4⟩ => .inr ⟨b, off, c, rs, h1, h2, h2, h3, h4.imp fun _ _ k => ⟨k.1, k.2, fun j hj => k.1.blt j hj⟩⟩
def bad (how : Int) : Prop := how < 1 ∨ 4 < how
instance (how : Int) : Decidable (bad how) := by unfold bad; infer_instance
/-- the answer's error -/
def codeJ (how : Int) : Int := if bad how then 1 else 0
def rowsJ (how : Int) (a b : List (List V3)) : List (List V3) := if bad how then [] else refL how a b
/-- COLLECT behind JOIN -/
theorem collect_j (how : Int) (v : Value) (pa pb : List Pr) (R : Nat → Prop) (w : World) (h : ItC v (joinP how pa pb) R w) (ha : okP pa) (hb : okP pb) (hl : (joinP how pa pb).length ≤ 100000) :
    Calls Try.prog 19 #[v] w fun e W' => ∃ sv, e = .returned (.tuple #[sv, .int .i64 (codeJ how)]) ∧ Below w.heap.size w W' ∧ Lst W' sv (rowsJ how (pa.map Prod.snd) (pb.map Prod.snd)) := by
  refine (callsIn_wide.1 (collect_c 3 (Nat.le_refl _) v _ R w h hl)).mono ?_
  unfold codeJ rowsJ
  by_cases hbad : bad how
  · rw [if_pos hbad, if_pos hbad]
    have he : errOf (joinP how pa pb) = 1 := by rw [joinP_no hbad]; rfl
    rintro e W' ⟨hbl, ⟨h0, _⟩ | ⟨_, rfl⟩⟩
    · rw [he] at h0; cases h0
    · rw [he]; exact ⟨_, rfl, hbl, .inl ⟨_, _, rfl, rfl⟩⟩
  · rw [if_neg hbad, if_neg hbad]
    obtain ⟨e1, e2⟩ := joinP_ok hbad ha hb
    have he : errOf (joinP how pa pb) = 0 := errOf_zero _ e1
    rintro e W' ⟨hbl, ⟨_, sv, rfl, _, ho⟩ | ⟨h0, _⟩⟩
    · rw [e2] at ho; exact ⟨sv, rfl, hbl, ho.mono fun j hj => hj.2⟩
    · exact absurd he h0
theorem joinP_len (how : Int) (pa pb : List Pr) : (joinP how pa pb).length ≤ pa.length + pb.length + 1 := by
  unfold joinP
  have h1 := cutP_len (pa ++ pb)
  rw [List.length_append] at h1
  have h2 := distL_len (cutP (pa ++ pb)) []
  have h3 := distL_len (amAll true pa pb) []
  have h4 := distL_len (amAll false pa pb) []
  have h5 := amAll_len true pa pb
  have h6 := amAll_len false pa pb
  split
  · omega
  · split
    · omega
    · split
      · omega
      · split
        · omega
        · simp
set_option maxRecDepth 100000 in
set_option maxHeartbeats 1000000 in
/-- OF. -/
theorem of_ok (how : Int) (sa sb : Value) (ra rb : List (List V3)) (W : World) (ha : Lst W sa ra) (hb : Lst W sb rb) (hla : ra.length ≤ 20000) (hlb : rb.length ≤ 20000) :
    Calls Try.prog 13 #[.int .i64 how, sa, sb] W fun e W' => ∃ sv, e = .returned (.tuple #[sv, .int .i64 (codeJ how)]) ∧ Below W.heap.size W W' ∧ Lst W' sv (rowsJ how ra rb) := by
  obtain ⟨aa, na, ca, rfl⟩ := ha.shape
  obtain ⟨ab, nb, cb, rfl⟩ := hb.shape
  have b1 : Below W.heap.size W (W.alloc (.cells #[.slice aa na ca] 22)) := below_new _
  have b2 : Below W.heap.size W ((W.alloc (.cells #[.slice aa na ca] 22)).alloc (.cells #[.slice ab nb cb] 22)) := b1.alloc b1.size _
  have c0 := Boxed.new W 22 (.slice aa na ca)
  have c1 := Boxed.new (W.alloc (.cells #[.slice aa na ca] 22)) 22 (.slice ab nb cb)
  rw [World.size_alloc] at c1
  obtain ⟨pa, ea, oa, ia⟩ := list_c W.heap.size _ ra _ ((W.alloc (.cells #[.slice aa na ca] 22)).alloc (.cells #[.slice ab nb cb] 22)) (by simp; omega) (fun j hj => hj) ((c0.alloc _).cell) (ha.below b2) (by omega)
  obtain ⟨pb, eb, ob, ib⟩ := list_c (W.heap.size + 1) _ rb _ ((W.alloc (.cells #[.slice aa na ca] 22)).alloc (.cells #[.slice ab nb cb] 22)) (by simp) (fun j hj => hj) c1.cell (hb.below b2) (by omega)
  have la : pa.length = ra.length := by rw [← ea, List.length_map]
  have lb : pb.length = rb.length := by rw [← eb, List.length_map]
  have hj := join_ok how _ _ pa pb _ _ _ ia ib (by omega)
  have hjl := joinP_len how pa pb
  have hjl2 : (joinP how pa pb).length ≤ 100000 := by omega
  have hcol := fun v R w (h : ItC v (joinP how pa pb) R w) => collect_j how v pa pb R w h oa ob hjl2
  rw [ea, eb] at hcol
  clear la lb hjl ia ib c0 c1 ea eb
  go_enter Try.func13, Try.ntmps13
  go_wp2_with (first | (go_at_call 18; refine (callsIn_wide.1 (list_make 1 _ _ _ _)).mono ?_; rintro e w' ⟨rfl, rfl⟩) | (go_at_call 20; refine hj.mono ?_; rintro e w3 ⟨v, R', rfl, hb3, hit⟩) | (go_at_call 19; refine (hcol v R' w3 hit).mono ?_; rintro e w4 ⟨sv, rfl, hb4, hown⟩))
  refine bodyPost_ret (results_tmp2 rfl _ _ _) rfl ?_
  exact ⟨sv, rfl, below_step (below_step b2 hb3 b2.size) hb4 (below_step b2 hb3 b2.size).size, hown⟩
/-- THE REFERENCE's JOIN. -/
theorem refJoin_ok (how : Int) (sa sb : Value) (ra rb : List (List V3)) (W : World) (ha : Lst W sa ra) (hb : Lst W sb rb) (hla : ra.length ≤ 20000) (hlb : rb.length ≤ 20000) :
    Calls Try.prog 14 #[.int .i64 how, sa, sb] W fun e W' => ∃ sv, e = .returned (.tuple #[sv, .int .i64 (codeJ how)]) ∧ Below W.heap.size W W' ∧ Lst W' sv (rowsJ how ra rb) := by
  unfold codeJ rowsJ
  by_cases hbad : bad how
  · rw [if_pos hbad, if_pos hbad]
    obtain ⟨aa, na, ca, rfl⟩ := ha.shape
    obtain ⟨ab, nb, cb, rfl⟩ := hb.shape
    refine (ref_no how hbad aa ab na ca nb cb W).mono ?_
    rintro e W' ⟨rfl, hbl⟩
    exact ⟨_, rfl, hbl, .inl ⟨_, _, rfl, rfl⟩⟩
  · rw [if_neg hbad, if_neg hbad]
    by_cases h1 : how = 1
    · subst h1
      refine (ref_one sa sb ra rb W (by omega) (by omega) ha.own hb.own).mono ?_
      rintro e W' ⟨sv, rfl, ho, hbl⟩
      exact ⟨sv, rfl, hbl, ho.lst⟩
    obtain ⟨aa, na, ca, rfl⟩ := ha.shape
    obtain ⟨ab, nb, cb, rfl⟩ := hb.shape
    by_cases h2 : how = 2
    · subst h2
      refine (ref_2 aa ab na ca nb cb ra rb W (by omega) (by omega) ha.own hb.own).mono ?_
      rintro e W' ⟨sv, rfl, ho, hbl⟩
      exact ⟨sv, rfl, hbl, ho.lst⟩
    by_cases h3 : how = 3
    · subst h3
      refine (ref_3 aa ab na ca nb cb ra rb W (by omega) (by omega) ha.own hb.own).mono ?_
      rintro e W' ⟨sv, rfl, ho, hbl⟩
      exact ⟨sv, rfl, hbl, ho.lst⟩
    · obtain rfl : how = 4 := by unfold bad at hbad; omega
      refine (ref_4 aa ab na ca nb cb ra rb W (by omega) (by omega) ha.own hb.own).mono ?_
      rintro e W' ⟨sv, rfl, ho, hbl⟩
      exact ⟨sv, rfl, hbl, ho.lst⟩
end Go.Proofs.Ytghpjlohoehdnaa.Sep
