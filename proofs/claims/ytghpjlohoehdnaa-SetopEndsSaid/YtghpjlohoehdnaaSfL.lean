/- SetopTogether, walked. No condition beyond those that each theorem names. -/
import Derived.Test.YtghpjlohoehdnaaSfL0
namespace Go.Proofs.Ytghpjlohoehdnaa.Sep
open Go Go.RowKit Go.Shelf
set_option linter.unusedVariables false
set_option linter.unusedSimpArgs false
theorem of_g (how : Int) (h : ¬ bad how) (sa sb : Value) (ra rb : List (List V3)) (W : World) (ha : Lst W sa ra) (hb : Lst W sb rb) (hla : ra.length ≤ 20000) (hlb : rb.length ≤ 20000) :
    Calls Try.prog 13 #[.int .i64 how, sa, sb] W fun e W' => ∃ a k c, e = .returned (.tuple #[.slice a k c, .int .i64 0]) ∧ Aside0 (k = (refL how ra rb).length) ∧ Below W.heap.size W W' ∧ Lst W' (.slice a k c) (refL how ra rb) := by
  refine (of_ok how sa sb ra rb W ha hb hla hlb).mono ?_
  rintro e W' ⟨sv, rfl, hbl, hl⟩
  have h1 : codeJ how = 0 := if_neg h
  have h2 : rowsJ how ra rb = refL how ra rb := if_neg h
  rw [h1]; rw [h2] at hl
  rcases hl with ⟨a, c, rfl, h3⟩ | ⟨b, off, c, rs, rfl, h3, h4, h5, h6⟩
  · exact ⟨a, 0, c, rfl, ⟨by rw [h3]; rfl⟩, hbl, .inl ⟨a, c, rfl, h3⟩⟩
  · exact ⟨_, _, _, rfl, ⟨h6.len⟩, hbl, .inr ⟨b, off, c, rs, rfl, h3, h4, h5, h6⟩⟩
theorem lst_len {W : World} {a : Option Addr} {k c : Nat} {rows : List (List V3)} (h : Lst W (.slice a k c) rows) : k = rows.length := by
  rcases h with ⟨a, c, h1, h2⟩ | ⟨b, off, c, rs, h1, _, _, _, h6⟩
  · injection h1 with _ h1 _; rw [h1, h2]; rfl
  · injection h1 with _ h1 _; rw [h1, h6.len]
theorem sum64 {a b c : Nat} (h : a + b = c) (hc : c ≤ 200) : wrap64 ((a : Int) + (b : Int)) = (c : Int) := by
  rw [← h]
  have : -9223372036854775808 ≤ ((a : Int) + b) ∧ ((a : Int) + b) ≤ 9223372036854775807 := by omega
  simp [wrap64]
  omega
theorem len60 (how : Int) {a b : List (List V3)} {n m : Nat} (ha : a.length ≤ n) (hb : b.length ≤ m) : (refL how a b).length ≤ n + m := Nat.le_trans (refL_len how a b) (Nat.add_le_add ha hb)
set_option maxRecDepth 100000 in
set_option maxHeartbeats 8000000 in
theorem together_ok (sa sb : Value) (ra rb : List (List V3)) (W : World) (ha : Raw W sa ra) (hb : Raw W sb rb) :
    Calls Try.prog 4 #[sa, sb] W fun e W' => e = .returned (.bool true) ∧ Below W.heap.size W W' := by
  have hla := light_ok sa ra W ha
  have hlb := light_ok sb rb W hb
  obtain ⟨aa, na, ca, rfl⟩ := ha.shp
  obtain ⟨ab, nb, cb, rfl⟩ := hb.shp
  have HA := Aside0.mk ha
  have HB := Aside0.mk hb
  clear ha hb
  go_enter Try.func4, Try.ntmps4
  go_upto_region 3 with (first
    | (go_at_call 11; refine hla.mono ?_; rintro e w' ⟨ta, rfl, hta, hwq⟩; subst w'; have HTA := Aside0.mk hta; clear hta hla; cases ta)
    | (go_at_call 11; refine hlb.mono ?_; rintro e w' ⟨tb, rfl, htb, hwq⟩; subst w'; have HTB := Aside0.mk htb; clear htb hlb; cases tb)
    | (go_at_call 12; refine (awake_ok _).mono ?_; rintro e w' ⟨rfl, hbw⟩))
  · refine bodyPost_ret (results_tmp rfl _ _ _) rfl ?_
    exact ⟨rfl, hbw⟩
  · refine bodyPost_ret (results_tmp rfl _ _ _) rfl ?_
    exact ⟨rfl, hbw⟩
  obtain ⟨la1, la2⟩ := HTA.out trivial
  obtain ⟨lb1, lb2⟩ := HTB.out trivial
  have LA := Aside0.mk (HA.out.lst la2)
  have LB := Aside0.mk (HB.out.lst lb2)
  have NL := Aside0.mk (show na + nb ≤ 60 ∧ na = ra.length ∧ nb = rb.length from ⟨by rw [lst_len LA.out, lst_len LB.out]; omega, lst_len LA.out, lst_len LB.out⟩)
  have LN := Aside0.mk (And.intro la1 lb1)
  clear HA HB HTA HTB la2 lb2 la1 lb1
  have h1 := of_g 2 (by decide) _ _ ra rb W LA.out LB.out (by have := LN.out; omega) (by have := LN.out; omega)
  go_upto_region 4 with (go_at_call 13; refine h1.mono ?_; rintro e w1 ⟨xa, xn, xc, rfl, nx, hb1, hx⟩)
  have H1 := Aside0.mk (And.intro nx (And.intro hb1 hx))
  clear nx hb1 hx h1
  have h2 := of_g 2 (by decide) _ _ rb ra w1 (LB.out.below H1.out.2.1) (LA.out.below H1.out.2.1) (by have := LN.out; omega) (by have := LN.out; omega)
  go_upto_region 5 with (go_at_call 13; refine h2.mono ?_; rintro e w2 ⟨ya, yn, yc, rfl, ny, hb2, hy⟩)
  have H2 := Aside0.mk (And.intro ny (And.intro (below_step H1.out.2.1 hb2 H1.out.2.1.size) (And.intro (H1.out.2.2.below hb2) hy)))
  clear ny hb2 hy h2
  have h3 := of_g 3 (by decide) _ _ ra rb w2 (LA.out.below H2.out.2.1) (LB.out.below H2.out.2.1) (by have := LN.out; omega) (by have := LN.out; omega)
  go_upto_region 6 with (go_at_call 13; refine h3.mono ?_; rintro e w3 ⟨ba, bn, bc, rfl, nbt, hb3, hbt⟩)
  have H3 := Aside0.mk (And.intro nbt (And.intro (below_step H2.out.2.1 hb3 H2.out.2.1.size) (And.intro (H2.out.2.2.1.below hb3) (And.intro (H2.out.2.2.2.below hb3) hbt))))
  clear nbt hb3 hbt h3
  have h4 := of_g 4 (by decide) _ _ ra rb w3 (LA.out.below H3.out.2.1) (LB.out.below H3.out.2.1) (by have := LN.out; omega) (by have := LN.out; omega)
  go_upto_region 7 with (go_at_call 13; refine h4.mono ?_; rintro e w4 ⟨da, dn, dc, rfl, nd, hb4, hd⟩)
  have H4 := Aside0.mk (And.intro nd (And.intro (below_step H3.out.2.1 hb4 H3.out.2.1.size) (And.intro (H3.out.2.2.1.below hb4) (And.intro (H3.out.2.2.2.1.below hb4) (And.intro (H3.out.2.2.2.2.below hb4) hd)))))
  clear nd hb4 hd h4
  have h5 := of_g 2 (by decide) _ _ _ _ w4 H4.out.2.2.2.2.1 H4.out.2.2.2.2.2 (Nat.le_trans (len60 3 LN.out.1 LN.out.2) (by decide)) (Nat.le_trans (len60 4 LN.out.1 LN.out.2) (by decide))
  go_upto_region 8 with (go_at_call 13; refine h5.mono ?_; rintro e w5 ⟨ga, gn, gc, rfl, ng, hb5, hg⟩)
  have H5 := Aside0.mk (And.intro ng (And.intro (below_step H4.out.2.1 hb5 H4.out.2.1.size) (And.intro (H4.out.2.2.1.below hb5) (And.intro (H4.out.2.2.2.1.below hb5) (And.intro (H4.out.2.2.2.2.1.below hb5) (And.intro (H4.out.2.2.2.2.2.below hb5) hg))))))
  clear ng hb5 hg h5
  have h6 := of_g 2 (by decide) _ (.slice none 0 0) ra [] w5 (LA.out.below H5.out.2.1) (.inl ⟨_, _, rfl, rfl⟩) (by have := LN.out; omega) (by decide)
  go_upto_region 9 with (go_at_call 13; refine h6.mono ?_; rintro e w6 ⟨oa, on, oc, rfl, no, hb6, ho⟩)
  have H6 := Aside0.mk (And.intro no (And.intro (below_step H5.out.2.1 hb6 H5.out.2.1.size) (And.intro (H5.out.2.2.1.below hb6) (And.intro (H5.out.2.2.2.1.below hb6) (And.intro (H5.out.2.2.2.2.1.below hb6) (And.intro (H5.out.2.2.2.2.2.2.below hb6) ho))))))
  clear no hb6 ho h6
  have h7 := of_g 1 (by decide) _ _ ra rb w6 (LA.out.below H6.out.2.1) (LB.out.below H6.out.2.1) (by have := LN.out; omega) (by have := LN.out; omega)
  go_upto_region 10 with (go_at_call 13; refine h7.mono ?_; rintro e w7 ⟨la, ln, lc, rfl, nl, hb7, hl⟩)
  have HB7 := Aside0.mk (below_step H6.out.2.1 hb7 H6.out.2.1.size)
  have X7 := Aside0.mk (H6.out.2.2.1.below hb7).own
  have Y7 := Aside0.mk (H6.out.2.2.2.1.below hb7).own
  have B7 := Aside0.mk (H6.out.2.2.2.2.1.below hb7).own
  have G7 := Aside0.mk (H6.out.2.2.2.2.2.1.below hb7).own
  have O7 := Aside0.mk (H6.out.2.2.2.2.2.2.below hb7).own
  have A7 := Aside0.mk hl.own
  have BB7 := Aside0.mk (LB.out.below HB7.out).own
  have hxy : (xn : Int) = (yn : Int) := by rw [H1.out.1.out, H2.out.1.out, plain_len]
  have hbd0 : bn + dn = on := by rw [H3.out.1.out, H4.out.1.out, H6.out.1.out]; exact plain_two ra rb
  have hbn : bn ≤ 60 := by rw [H3.out.1.out]; exact len60 3 LN.out.1 LN.out.2
  have hdn : dn ≤ 60 := by rw [H4.out.1.out]; exact len60 4 LN.out.1 LN.out.2
  have hln : na + nb = ln := by
    rw [NL.out.2.1, NL.out.2.2, nl.out]
    show ra.length + rb.length = (ra ++ rb).length
    rw [List.length_append]
  have hnab : na + nb ≤ 60 := NL.out.1
  clear nl hb7 hl
  have hbd : wrap64 ((bn : Int) + (dn : Int)) = (on : Int) := sum64 hbd0 (by omega)
  have hall : wrap64 ((na : Int) + (nb : Int)) = (ln : Int) := sum64 hln (by omega)
  have hlx : (refL 2 ra rb).length ≤ 100000 := Nat.le_trans (len60 2 LN.out.1 LN.out.2) (by decide)
  have hly : (refL 2 rb ra).length ≤ 100000 := Nat.le_trans (len60 2 LN.out.2 LN.out.1) (by decide)
  have hlb : (refL 3 ra rb).length ≤ 100000 := Nat.le_trans (len60 3 LN.out.1 LN.out.2) (by decide)
  have hlg : (refL 2 (refL 3 ra rb) (refL 4 ra rb)).length ≤ 100000 := Nat.le_trans (len60 2 (len60 3 LN.out.1 LN.out.2) (len60 4 LN.out.1 LN.out.2)) (by decide)
  have hlo : (refL 2 ra []).length ≤ 100000 := Nat.le_trans (len60 2 LN.out.1 (Nat.le_refl 0)) (by decide)
  have hla1 : (refL 1 ra rb).length ≤ 100000 := Nat.le_trans (len60 1 LN.out.1 LN.out.2) (by decide)
  have W1 := Aside0.mk (fun (w : World) (k : Still w7 w) => (w_xy ra rb) ▸ within_ok _ _ _ _ w hlx hly (X7.out.still k) (Y7.out.still k))
  have W2 := Aside0.mk (fun (w : World) (k : Still w7 w) => (w_again ra rb) ▸ within_ok _ _ _ _ w hlg hlo (G7.out.still k) (O7.out.still k))
  have W3 := Aside0.mk (fun (w : World) (k : Still w7 w) => (w_once ra rb) ▸ within_ok _ _ _ _ w hlo hlg (O7.out.still k) (G7.out.still k))
  have W4 := Aside0.mk (fun (w : World) (k : Still w7 w) => (w_both ra rb) ▸ within_ok _ _ _ _ w hlb (by have := LN.out.2; omega) (B7.out.still k) (BB7.out.still k))
  have W5 := Aside0.mk (fun (w : World) (k : Still w7 w) => (w_all ra rb) ▸ within_ok _ _ _ _ w hla1 hlx (A7.out.still k) (X7.out.still k))
  clear hlx hly hlb hlg hlo hla1 hbd0 hbn hdn hln hnab
  clear h7 H1 H2 H3 H4 H5 H6 X7 Y7 B7 G7 O7 A7 BB7 NL LN LA LB
  go_wp2_with (first
    | (go_at_call_of 16 (Value.slice ya yn yc); refine (W1.out w7 (Still.refl _)).mono ?_; rintro e w8 ⟨rfl, hs8⟩; have S8 := Aside0.mk hs8; clear hs8)
    | (go_at_call_of 16 (#[Value.slice ga gn gc, Value.slice oa on oc]); refine (W2.out w8 S8.out).mono ?_; rintro e w9 ⟨rfl, hs9⟩; have S9 := Aside0.mk (S8.out.trans hs9); clear hs9)
    | (go_at_call_of 16 (#[Value.slice oa on oc, Value.slice ga gn gc]); refine (W3.out w9 S9.out).mono ?_; rintro e wA ⟨rfl, hsA⟩; have SA := Aside0.mk (S9.out.trans hsA); clear hsA)
    | (go_at_call_of 16 (Value.slice ba bn bc); refine (W4.out wA SA.out).mono ?_; rintro e wB ⟨rfl, hsB⟩; have SB := Aside0.mk (SA.out.trans hsB); clear hsB)
    | (go_at_call_of 16 (Value.slice la ln lc); refine (W5.out wB SB.out).mono ?_; rintro e wC ⟨rfl, hsC⟩; have SC := Aside0.mk (SB.out.trans hsC); clear hsC)
    | (go_at_call 12; refine (awake_ok _).mono ?_; rintro e wD ⟨rfl, hbw⟩; have BD := Aside0.mk (below_step HB7.out (below_step SC.out.below hbw SC.out.below.size) HB7.out.size); clear hbw))
  refine bodyPost_ret (results_tmp rfl _ _ _) rfl ?_
  exact ⟨rfl, BD.out⟩
end Go.Proofs.Ytghpjlohoehdnaa.Sep
