/- SetopEnds, walked. No condition beyond those that each theorem names. -/
import Derived.Test.YtghpjlohoehdnaaSfM0
import Derived.Test.YtghpjlohoehdnaaSfL
namespace Go.Proofs.Ytghpjlohoehdnaa.Sep
open Go Go.RowKit Go.Shelf
set_option linter.unusedVariables false
set_option linter.unusedSimpArgs false
/-- LIST, once more over the same rows -/
theorem list_n (a : Option Addr) (k c : Nat) (rows : List (List V3)) (W : World) (h : Lst W (.slice a k c) rows) (hl : rows.length ≤ 100000) :
    Calls Try.prog 18 #[.slice a k c] W fun e W' => ∃ prs R, e = .returned (.func (.func 41) #[] #[.pointer (some ⟨W.heap.size, 0, none⟩)]) ∧ prs.map Prod.snd = rows ∧ okP prs ∧ Below W.heap.size W W' ∧ ItC (.func (.func 41) #[] #[.pointer (some ⟨W.heap.size, 0, none⟩)]) prs R W' ∧ W' = W.alloc (.cells #[.slice a k c] 22) := by
  refine (callsIn_wide.1 (list_make 1 a k c W)).mono ?_
  rintro e W' ⟨rfl, rfl⟩
  have b1 : Below W.heap.size W (W.alloc (.cells #[.slice a k c] 22)) := below_new _
  obtain ⟨prs, e1, e2, it⟩ := list_c W.heap.size _ rows _ (W.alloc (.cells #[.slice a k c] 22)) (by simp) (fun j hj => hj) (Boxed.new W 22 (.slice a k c)).cell (h.below b1) hl
  exact ⟨prs, _, rfl, e1, e2, b1, it, rfl⟩
theorem bad_make (pa : List Pr) (Ra : Nat → Prop) (ga : FuncId) (la : Array Value) (W : World) (ha : ItC (.func (.func ga) #[] la) pa Ra W) (hz : okP pa) :
    Calls Try.prog 17 #[.func (.func ga) #[] la, .pointer none] W fun e W' => ∃ v R, e = .returned v ∧ Below W.heap.size W W' ∧ ItC v (badP pa) R W' := by
  refine (metered_make ga la W).mono ?_
  rintro e W' ⟨rfl, rfl⟩
  have c0 := Boxed.new W 62 (.pointer none)
  have c1 := Boxed.new (W.alloc (.cells #[.pointer none] 62)) 31 (.func (.func ga) #[] la)
  have c2 := Boxed.new ((W.alloc (.cells #[.pointer none] 62)).alloc (.cells #[.func (.func ga) #[] la] 31)) 71 (.func (.func 39) #[] #[.pointer (some ⟨W.heap.size, 0, none⟩)])
  simp only [World.size_alloc] at c1 c2
  have bl : Below W.heap.size W (((W.alloc (.cells #[.pointer none] 62)).alloc (.cells #[.func (.func ga) #[] la] 31)).alloc (.cells #[.func (.func 39) #[] #[.pointer (some ⟨W.heap.size, 0, none⟩)]] 71)) :=
    (((Below.refl _ W).alloc (Nat.le_refl _) _).alloc (by simp) _).alloc (by simp; omega) _
  exact ⟨_, _, rfl, bl, bad_c (W.heap.size + 1) (W.heap.size + 2) W.heap.size _ pa Ra _ (by simp) (by simp) (by simp; omega) ((c1.alloc _).cell) c2.cell (((c0.alloc _).alloc _).cell) (ha.below bl) hz⟩
theorem badP_eq {p q : List Pr} (h : p.map Prod.snd = q.map Prod.snd) : badP p = badP q := by
  cases p with
  | nil => cases q with
    | nil => rfl
    | cons _ _ => simp at h
  | cons _ _ => cases q with
    | nil => simp at h
    | cons _ _ => rfl
theorem collect_x (how : Int) (v : Value) (p q : List Pr) (rows : List (List V3)) (R : Nat → Prop) (w : World) (hp : p.map Prod.snd = rows) (hq : q.map Prod.snd = rows) (ho : okP p) (hl : rows.length ≤ 30) (h : ItC v (joinP how p (badP q)) R w) :
    Calls Try.prog 19 #[v] w fun e W' => ∃ a c, e = .returned (.tuple #[.slice a 0 c, .int .i64 (codeE how rows)]) ∧ Below w.heap.size w W' := by
  have hlen := joinP_len how p (badP q)
  have h1 : p.length = rows.length := by rw [← hp, List.length_map]
  have h2 := badP_len q
  rw [badP_eq (hq.trans hp.symm)] at h hlen h2
  obtain ⟨e1, _, e3, _⟩ := join_e how p ho
  rw [hp] at e1
  have := collect_z v _ R w h (by omega) e3
  rw [e1] at this
  exact this
theorem collect_y (how : Int) (v : Value) (p q : List Pr) (rows : List (List V3)) (R : Nat → Prop) (w : World) (hp : p.map Prod.snd = rows) (hq : q.map Prod.snd = rows) (ho : okP p) (hl : rows.length ≤ 30) (h : ItC v (joinP how (badP q) p) R w) :
    Calls Try.prog 19 #[v] w fun e W' => ∃ a c, e = .returned (.tuple #[.slice a 0 c, .int .i64 (codeE how rows)]) ∧ Below w.heap.size w W' := by
  have hlen := joinP_len how (badP q) p
  have h1 : p.length = rows.length := by rw [← hp, List.length_map]
  have h2 := badP_len q
  rw [badP_eq (hq.trans hp.symm)] at h hlen h2
  obtain ⟨_, e2, _, e4⟩ := join_e how p ho
  rw [hp] at e2
  have := collect_z v _ R w h (by omega) e4
  rw [e2] at this
  exact this
theorem len_snd {prs : List Pr} {rows : List (List V3)} (h : prs.map Prod.snd = rows) : prs.length = rows.length := by rw [← h, List.length_map]
set_option maxRecDepth 100000 in
set_option maxHeartbeats 8000000 in
theorem ends_ok (how : Int) (sa : Value) (ra : List (List V3)) (W : World) (ha : Raw W sa ra) :
    Calls Try.prog 5 #[.int .i64 how, sa] W fun e W' => e = .returned (.bool true) ∧ Below W.heap.size W W' := by
  have hla := light_ok sa ra W ha
  obtain ⟨aa, na, ca, rfl⟩ := ha.shp
  have HA := Aside0.mk ha
  clear ha
  go_enter Try.func5, Try.ntmps5
  go_upto_region 3 with (first
    | (go_at_call 11; refine hla.mono ?_; rintro e w' ⟨ta, rfl, hta, hwq⟩; subst w'; have HTA := Aside0.mk hta; clear hta hla; cases ta)
    | (go_at_call 12; refine (awake_ok _).mono ?_; rintro e w' ⟨rfl, hbw⟩))
  · refine bodyPost_ret (results_tmp rfl _ _ _) rfl ?_
    exact ⟨rfl, hbw⟩
  obtain ⟨la1, la2⟩ := HTA.out trivial
  have LA := Aside0.mk (HA.out.lst la2)
  have LN := Aside0.mk la1
  clear HA HTA la2 la1
  have h1 := list_n aa na ca ra W LA.out (by have := LN.out; omega)
  go_upto_region 4 with (first
    | (go_at_call 18; refine h1.mono ?_; rintro e w1 ⟨p1, R1, rfl, s1, o1, b1, i1, e1⟩; have H1 := Aside0.mk (And.intro s1 (And.intro o1 (And.intro b1 i1))); clear s1 o1 b1 i1 e1 h1)
    | (go_at_call 17; refine (bad_make p1 R1 41 _ w1 H1.out.2.2.2 H1.out.2.1).mono ?_; rintro e w2 ⟨vb, Rb, rfl, b2, ib⟩; have H2 := Aside0.mk (And.intro (below_step H1.out.2.2.1 b2 H1.out.2.2.1.size) ib); clear b2 ib))
  have h3 := list_n aa na ca ra w2 (LA.out.below H2.out.1) (by have := LN.out; omega)
  have hbl : ∀ l : List Pr, l.map Prod.snd = ra → l.length + (badP p1).length ≤ 90000 ∧ (badP p1).length + l.length ≤ 90000 := fun l hl => by
    have := LN.out
    have h1 := len_snd hl
    have h2 := badP_len p1
    omega
  go_upto_region 5 with (first
    | (go_at_call 18; refine h3.mono ?_; rintro e w3 ⟨p3, R3, rfl, s3, o3, b3, i3, e3⟩; have H3 := Aside0.mk (And.intro s3 (And.intro o3 (And.intro b3 i3))); clear s3 o3 b3 i3 e3 h3)
    | (go_at_call 20; refine (join_ok how _ _ p3 (badP p1) R3 Rb w3 H3.out.2.2.2 (H2.out.2.below H3.out.2.2.1) (hbl p3 H3.out.1).1).mono ?_; rintro e w4 ⟨v4, R4, rfl, b4, i4⟩; have H4 := Aside0.mk (And.intro b4 i4); clear b4 i4)
    | (go_at_call 19; refine (collect_x how v4 p3 p1 ra R4 w4 H3.out.1 H1.out.1 H3.out.2.1 LN.out H4.out.2).mono ?_; rintro e w5 ⟨xa, xc, rfl, b5⟩; have B5 := Aside0.mk (below_step (below_step (below_step H2.out.1 H3.out.2.2.1 H2.out.1.size) H4.out.1 (below_step H2.out.1 H3.out.2.2.1 H2.out.1.size).size) b5 (below_step (below_step H2.out.1 H3.out.2.2.1 H2.out.1.size) H4.out.1 (below_step H2.out.1 H3.out.2.2.1 H2.out.1.size).size).size); have C5 := Aside0.mk (below_step (below_step H3.out.2.2.1 H4.out.1 H3.out.2.2.1.size) b5 (below_step H3.out.2.2.1 H4.out.1 H3.out.2.2.1.size).size); clear b5))
  have h6 := list_n aa na ca ra w5 (LA.out.below B5.out) (by have := LN.out; omega)
  go_upto_region 6 with (first
    | (go_at_call 18; refine h6.mono ?_; rintro e w6 ⟨p6, R6, rfl, s6, o6, b6, i6, e6⟩; have H6 := Aside0.mk (And.intro s6 (And.intro o6 (And.intro b6 i6))); clear s6 o6 b6 i6 e6 h6)
    | (go_at_call 20; refine (join_ok how _ _ (badP p1) p6 Rb R6 w6 (H2.out.2.below (below_step C5.out H6.out.2.2.1 C5.out.size)) H6.out.2.2.2 (hbl p6 H6.out.1).2).mono ?_; rintro e w7 ⟨v7, R7, rfl, b7, i7⟩; have H7 := Aside0.mk (And.intro b7 i7); clear b7 i7)
    | (go_at_call 19; refine (collect_y how v7 p6 p1 ra R7 w7 H6.out.1 H1.out.1 H6.out.2.1 LN.out H7.out.2).mono ?_; rintro e w8 ⟨ya, yc, rfl, b8⟩; have B8 := Aside0.mk (below_step (below_step (below_step B5.out H6.out.2.2.1 B5.out.size) H7.out.1 (below_step B5.out H6.out.2.2.1 B5.out.size).size) b8 (below_step (below_step B5.out H6.out.2.2.1 B5.out.size) H7.out.1 (below_step B5.out H6.out.2.2.1 B5.out.size).size).size); clear b8))
  have h9 := join_nil how w8
  obtain ⟨z1, z2⟩ := join_z how
  have hzl : (joinP how [] []).length ≤ 100000 := Nat.le_trans (joinP_len how [] []) (by decide)
  have HZ := Aside0.mk (And.intro z1 (And.intro z2 hzl))
  clear z1 z2 hzl hbl
  go_upto_region 7 with (first
    | (go_at_call 20; refine h9.mono ?_; rintro e w9 ⟨v9, R9, rfl, b9, i9⟩; have H9 := Aside0.mk (And.intro b9 i9); clear b9 i9 h9)
    | (go_at_call 19; refine (collect_z v9 _ R9 w9 H9.out.2 HZ.out.2.2 HZ.out.2.1).mono ?_; rw [HZ.out.1]; rintro e wA ⟨za, zc, rfl, bA⟩; have BA := Aside0.mk (below_step (below_step B8.out H9.out.1 B8.out.size) bA (below_step B8.out H9.out.1 B8.out.size).size); clear bA))
  have hnl : na = ra.length := lst_len LA.out
  clear H1 H2 H3 H4 H6 H7 H9 B5 C5 B8 HZ
  by_cases hbad : bad how
  · have e1 : codeE how ra = 1 := if_pos hbad
    have e2 : codeJ how = 1 := if_pos hbad
    rw [e1, e2]
    clear e1 e2 hnl
    by_cases hl1 : how < 1
    · have hd1 : decide (how < 1) = true := by simpa using hl1
      clear hbad
      go_wp2_with (go_at_call 12; refine (awake_ok _).mono ?_; rintro e wD ⟨rfl, hbw⟩; have BD := Aside0.mk (below_step BA.out hbw BA.out.size); clear hbw)
      refine bodyPost_ret (results_tmp rfl _ _ _) rfl ?_
      exact ⟨rfl, BD.out⟩
    · have hd1 : decide (how < 1) = false := by simpa using hl1
      have h4 : 4 < how := by unfold bad at hbad; omega
      have hd4 : decide (4 < how) = true := by simpa using h4
      clear hbad
      go_wp2_with (go_at_call 12; refine (awake_ok _).mono ?_; rintro e wD ⟨rfl, hbw⟩; have BD := Aside0.mk (below_step BA.out hbw BA.out.size); clear hbw)
      refine bodyPost_ret (results_tmp rfl _ _ _) rfl ?_
      exact ⟨rfl, BD.out⟩
  · have e2 : codeJ how = 0 := if_neg hbad
    have hd1 : decide (how < 1) = false := by unfold bad at hbad; simp; omega
    have hd4 : decide (4 < how) = false := by unfold bad at hbad; simp; omega
    have e1 : codeE how ra = if ra = [] then 0 else 310 := if_neg hbad
    rw [e1, e2]
    clear e1 e2 hbad
    cases ra with
    | nil =>
      rw [if_pos rfl]
      simp only [List.length_nil] at hnl
      subst hnl
      go_wp2_with (go_at_call 12; refine (awake_ok _).mono ?_; rintro e wD ⟨rfl, hbw⟩; have BD := Aside0.mk (below_step BA.out hbw BA.out.size); clear hbw)
      refine bodyPost_ret (results_tmp rfl _ _ _) rfl ?_
      exact ⟨rfl, BD.out⟩
    | cons r l =>
      rw [if_neg (by simp)]
      have hn0 : 0 < na := by rw [hnl]; simp
      have hdn : decide (0 < na) = true := by simpa using hn0
      clear hnl
      go_wp2_with (go_at_call 12; refine (awake_ok _).mono ?_; rintro e wD ⟨rfl, hbw⟩; have BD := Aside0.mk (below_step BA.out hbw BA.out.size); clear hbw)
      refine bodyPost_ret (results_tmp rfl _ _ _) rfl ?_
      exact ⟨rfl, BD.out⟩
end Go.Proofs.Ytghpjlohoehdnaa.Sep
