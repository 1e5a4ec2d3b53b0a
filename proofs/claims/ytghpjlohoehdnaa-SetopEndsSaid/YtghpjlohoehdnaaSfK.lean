/- SetopJoins, walked. No condition beyond those that each theorem names. -/
import Derived.Test.YtghpjlohoehdnaaSfJ
namespace Go.Proofs.Ytghpjlohoehdnaa.Sep
open Go Go.RowKit Go.Shelf
set_option linter.unusedVariables false
set_option linter.unusedSimpArgs false
theorem all2_with {α β : Type} {P Q : α → β → Prop} : ∀ {l : List α} {m : List β}, All2 P l m → (∀ a b, b ∈ m → P a b → Q a b) → All2 Q l m
  | [], [], _, _ => trivial
  | a :: l, b :: m, ⟨h1, h2⟩, h => ⟨h a b (List.mem_cons_self ..) h1, all2_with h2 fun a' b' hb => h a' b' (List.mem_cons_of_mem _ hb)⟩
theorem Raw.lst {W : World} {sv : Value} {rows : List (List V3)} (h : Raw W sv rows) (hr : ∀ row ∈ rows, row.length ≤ 6) : Lst W sv rows := by
  rcases h with ⟨a, c, h1, h2⟩ | ⟨b, off, c, rs, h1, h2, h3, h4⟩
  · exact .inl ⟨a, c, h1, h2⟩
  · exact .inr ⟨b, off, c, rs, h1, h2, h2, h3, all2_with h4 fun q row hm hc => ⟨hc, by have := hr row hm; rw [← hc.len]; omega, fun j hj => hc.blt j hj⟩⟩
theorem Raw.shp {W : World} {sv : Value} {rows : List (List V3)} : Raw W sv rows → ∃ a k c, sv = .slice a k c
  | .inl ⟨_, _, h, _⟩ => ⟨_, _, _, h⟩
  | .inr ⟨b, off, c, rs, h1, _⟩ => ⟨_, _, _, h1⟩
theorem len_rowsJ (how : Int) (a b : List (List V3)) : (rowsJ how a b).length ≤ a.length + b.length := by
  unfold rowsJ
  split
  · simp
  · exact refL_len how a b
set_option maxRecDepth 100000 in
set_option maxHeartbeats 4000000 in
theorem joins_ok (how : Int) (sa sb : Value) (ra rb : List (List V3)) (W : World) (ha : Raw W sa ra) (hb : Raw W sb rb) :
    Calls Try.prog 3 #[.int .i64 how, sa, sb] W fun e W' => e = .returned (.bool true) ∧ Below W.heap.size W W' := by
  have hla := light_ok sa ra W ha
  have hlb := light_ok sb rb W hb
  obtain ⟨aa, na, ca, rfl⟩ := ha.shp
  obtain ⟨ab, nb, cb, rfl⟩ := hb.shp
  have HA := Aside0.mk ha
  have HB := Aside0.mk hb
  clear ha hb
  go_enter Try.func3, Try.ntmps3
  go_upto_region 3 with (first
    | (go_at_call 11; refine hla.mono ?_; rintro e w' ⟨ta, rfl, hta, hwq⟩; subst w'; have HTA := Aside0.mk hta; clear hta hla; cases ta)
    | (go_at_call 11; refine hlb.mono ?_; rintro e w' ⟨tb, rfl, htb, hwq⟩; subst w'; have HTB := Aside0.mk htb; clear htb hlb; cases tb)
    | (go_at_call 12; refine (awake_ok _).mono ?_; rintro e w' ⟨rfl, hbw⟩))
  · refine bodyPost_ret (results_tmp rfl _ _ _) rfl ?_
    exact ⟨rfl, hbw⟩
  · refine bodyPost_ret (results_tmp rfl _ _ _) rfl ?_
    exact ⟨rfl, hbw⟩
  obtain ⟨la1, la2⟩ := HTA.out trivial
  obtain ⟨lb1, lb2⟩ := HTB.out trivial
  have LA := Aside0.mk (HA.out.lst la2)
  have LB := Aside0.mk (HB.out.lst lb2)
  have hof := of_ok how _ _ ra rb W LA.out LB.out (by omega) (by omega)
  go_upto_region 4 with (go_at_call 13; refine hof.mono ?_; rintro e w1 ⟨sx, rfl, hb1, hx⟩)
  have href := refJoin_ok how _ _ ra rb w1 (LA.out.below hb1) (LB.out.below hb1) (by omega) (by omega)
  go_upto_region 5 with (go_at_call 14; refine href.mono ?_; rintro e w2 ⟨sy, rfl, hb2, hy⟩)
  have hlen := len_rowsJ how ra rb
  have hsame := sameRows_ok sx sy _ _ w2 (hx.below hb2).own hy.own (by omega)
  rw [eqRows_refl] at hsame
  have hb12 := below_step hb1 hb2 hb1.size
  obtain ⟨xa, xn, xc, rfl⟩ := hx.shape
  obtain ⟨ya, yn, yc, rfl⟩ := hy.shape
  clear hof href hx hy hb1 hb2 HA HB HTA HTB LA LB la2 lb2
  generalize codeJ how = cd
  go_wp2_with (first
    | (go_at_call 15; refine hsame.mono ?_; rintro e w3 ⟨rfl, hs3⟩; have HB3 := Aside0.mk (below_step hb12 hs3.below hb12.size); clear hs3 hsame)
    | (go_at_call 12; refine (awake_ok _).mono ?_; rintro e w4 ⟨rfl, hbw⟩; have HB4 := Aside0.mk (below_step HB3.out hbw HB3.out.size); clear hbw))
  refine bodyPost_ret (results_tmp rfl _ _ _) rfl ?_
  exact ⟨rfl, HB4.out⟩
end Go.Proofs.Ytghpjlohoehdnaa.Sep
