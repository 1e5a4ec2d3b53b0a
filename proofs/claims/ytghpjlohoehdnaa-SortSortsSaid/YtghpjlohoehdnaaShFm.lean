/- The law SortSorts, walked: for every list of rows, order and number it returns true. No condition. -/
import Derived.Test.YtghpjlohoehdnaaSmG
import Derived.Laws.BitsLemmas
namespace Go.Proofs.Ytghpjlohoehdnaa.Sep
open Go Go.RowKit Go.Shelf
set_option linter.unusedVariables false
set_option linter.unusedSimpArgs false
theorem mask7b (n : Int) : bits .and .i64 n 7 = n % 8 := by
  have key : (BitVec.ofInt 64 n &&& BitVec.ofInt 64 7).toNat = (n % ((2 ^ 64 : Nat) : Int)).toNat % 2 ^ 3 := by
    rw [BitVec.toNat_and, BitVec.toNat_ofInt, show (BitVec.ofInt 64 7).toNat = 2 ^ 3 - 1 by decide, Nat.and_two_pow_sub_one_eq_mod]
  have hd : ((2 ^ 3 : Nat) : Int) ∣ ((2 ^ 64 : Nat) : Int) := Int.natCast_dvd_natCast.2 (Nat.pow_dvd_pow 2 (by decide))
  have h3 : (((n % ((2 ^ 64 : Nat) : Int)).toNat % 2 ^ 3 : Nat) : Int) = n % ((2 ^ 3 : Nat) : Int) := by
    rw [Int.natCast_emod, Int.toNat_of_nonneg (Int.emod_nonneg _ (by decide)), Int.emod_emod_of_dvd _ hd]
  show IntKind.i64.wrap ((BitVec.ofInt 64 n &&& BitVec.ofInt 64 7).toNat : Nat) = n % ((2 ^ 3 : Nat) : Int)
  rw [key, h3, IntKind.wrap_i64]
  have h4 := Int.emod_nonneg n (show ((2 ^ 3 : Nat) : Int) ≠ 0 by decide)
  have h5 := Int.emod_lt_of_pos n (show (0 : Int) < ((2 ^ 3 : Nat) : Int) by decide)
  have h6 : ((2 ^ 3 : Nat) : Int) = 8 := by decide
  omega
theorem putP_flat2 {α : Type} {hand : Nat} (hh : 2 ≤ hand) {ins : List (List α)} {now : List α} (r : α) (hne : ∀ x ∈ ins, x ≠ []) :
    (putP hand ins now r).1.flatten ++ (putP hand ins now r).2 = ins.flatten ++ now ++ [r] := by
  unfold putP
  split
  · have h := laysR_props hh (ins ++ [now ++ [r]]).length (ins ++ [now ++ [r]]) (by
      intro x hx
      rcases List.mem_append.1 hx with hx | hx
      · exact hne x hx
      · rw [List.mem_singleton.1 hx]; simp)
    have e : (laysL hand (ins ++ [now ++ [r]])).flatten = (ins ++ [now ++ [r]]).flatten := h.2
    simp only [List.append_nil, e]
    simp
  · simp
theorem SR.facts {W : World} {S : Nat} {by_ : Order} {hand : Nat} {ins : List (List (List V3))} {now : List (List V3)} {k : Nat} {done : Bool} {X : Nat → Prop} (h : SR W S by_ hand ins now k done X) :
    (∀ r ∈ ins, r ≠ []) ∧ 2 ≤ hand ∧ ins.flatten.length + now.length = k ∧ X S ∧ W.cell? ⟨S, 1, none⟩ = some (.int .i64 hand) ∧ W.cell? ⟨S, 5, none⟩ = some (.bool done) := by
  obtain ⟨nowI, runsI, D, so, nv, rv, us, h1, e1, e2, e3, e4, e5, e6, e7⟩ := h
  exact ⟨e3, e6, e4, h1.xS, cell_of_cells h1.cells rfl, cell_of_cells h1.cells rfl⟩
theorem own1_below {W W' : World} {sv : Value} {rows : List (List V3)} (h : Own1 W sv rows) (hb : Below W.heap.size W W') : Own1 W' sv rows := by
  rcases h with ⟨a, c, h1, h2⟩ | ⟨b, off, c, rs, h1, h2, h3, h4⟩
  · exact .inl ⟨a, c, h1, h2⟩
  · exact .inr ⟨b, off, c, rs, h1, Nat.lt_of_lt_of_le h2 hb.size, fun j hj => (cell_of_block (hb.block b h2) _).trans (h3 j hj), h4.imp fun q row hq => ⟨hq.1.below hb, hq.2⟩⟩
/-- how far the rows have been put -/
structure PutI (W : World) (S : Nat) (by_ : Order) (hd : Nat) (ra : List (List V3)) (i : Nat) (w : World) : Prop where
  ex : ∃ ins now X, SR w S by_ hd ins now i false X ∧ (∀ j, X j → W.heap.size ≤ j) ∧ RunsI hd i ins now ∧ ins.flatten ++ now = ra.take i
  bel : Below W.heap.size W w
set_option maxRecDepth 100000 in
set_option maxHeartbeats 16000000 in
theorem sorts_ok (sa so : Value) (hand : Int) (ra : List (List V3)) (by_ : Order) (W : World) (ha : Raw W sa ra) (ho : RawO W so by_) (hw : (Lit.int .i64 hand).wf = true) :
    Calls Try.prog 8 #[sa, so, .int .i64 hand] W fun e W' => e = .returned (.bool true) ∧ Below W.heap.size W W' := by
  have hmx : Try.prog.follows .mixedOrders = true := by kernel_rfl
  have q37 : ∀ (w : World) (S : Nat), (binOp .eql 37 (.pointer (some ⟨S, 0, none⟩)) (.pointer none)).run Try.prog w = .ok (.bool false) w := fun w S => rfl
  have hla := light26_ok 60 (by decide) sa ra W ha
  obtain ⟨aa, na, ca, rfl⟩ := ha.shp
  obtain ⟨hO, ao, co, rfl⟩ := ho
  have HA := Aside0.mk ha
  obtain ⟨nb, hnb⟩ : ∃ nb, by_.length = nb := ⟨_, rfl⟩
  have HNB := Aside0.mk hnb
  have HO := Aside0.mk (show Ord W (.slice ao nb co) by_ from by rw [← hnb]; exact hO)
  rw [hnb]
  obtain ⟨hd, hhd, hh2, hh9⟩ : ∃ hd : Nat, wrap64 (2 + bits .and .i64 hand 7) = (hd : Int) ∧ 2 ≤ hd ∧ hd ≤ 9 := by
    rw [mask7b]
    have h1 := Int.emod_nonneg hand (show (8 : Int) ≠ 0 by decide)
    have h2 := Int.emod_lt_of_pos hand (show (0 : Int) < 8 by decide)
    refine ⟨(2 + hand % 8).toNat, ?_, by omega, by omega⟩
    unfold wrap64
    omega
  clear ha hO hnb hw
  by_cases h6 : 6 < nb
  · have hd1 : decide (6 < nb) = true := decide_eq_true h6
    have hd2 : decide ((6 : Int) < (nb : Int)) = true := decide_eq_true (by omega)
    clear hhd
    go_enter Try.func8, Try.ntmps8
    go_wp2_with (first
      | (go_at_call 26; refine hla.mono ?_; rintro e w' ⟨ta, rfl, hta, hwq⟩; subst w'; have HTA := Aside0.mk hta; clear hta hla; cases ta)
      | (go_at_call 25; refine (awake25_ok _).mono ?_; rintro e w' ⟨rfl, hbw⟩))
    all_goals
      refine bodyPost_ret (results_tmp rfl _ _ _) rfl ?_
      exact ⟨rfl, hbw⟩
  · have hd1 : decide (6 < nb) = false := decide_eq_false h6
    have hd2 : decide ((6 : Int) < (nb : Int)) = false := decide_eq_false (by omega)
    have hnb1 : nb ≤ 6 := by omega
    have HNew := Aside0.mk (new_sr (.slice ao nb co) by_ hd W HO.out (by rw [HNB.out]; omega) hh2 (by omega))
    go_enter Try.func8, Try.ntmps8
    go_upto_region 3 with (first
      | (go_at_call 26; refine hla.mono ?_; rintro e w' ⟨ta, rfl, hta, hwq⟩; subst w'; have HTA := Aside0.mk hta; clear hta hla; cases ta)
      | (go_at_call 25; refine (awake25_ok _).mono ?_; rintro e w' ⟨rfl, hbw⟩))
    · refine bodyPost_ret (results_tmp rfl _ _ _) rfl ?_
      exact ⟨rfl, hbw⟩
    obtain ⟨la1, la2⟩ := HTA.out trivial
    have LA := Aside0.mk (HA.out.lst la2)
    have hnl : na = ra.length := lst_len LA.out
    have HNL := Aside0.mk hnl
    have hn60 : na ≤ 60 := by omega
    clear HA HTA la2 la1 hnl h6 hd1 hd2
    go_upto_region 7 with (first | (go_at_call 21; refine HNew.out.mono ?_; rintro e w1 ⟨S, rfl, hS, hsr1, hb2⟩; have HI0 := Aside0.mk (show PutI W S by_ hd ra 0 w1 from ⟨⟨[], [], _, hsr1, fun j hj => hj.1, ⟨by rw [Nat.zero_div]; rfl, by rw [Nat.zero_mod]; rfl⟩, rfl⟩, hb2⟩); clear hsr1 hb2) | fail)
    clear HNew hhd
    go_wp2
    go_loopw [10] (fun v10 wr => ∃ i : Nat, i ≤ na ∧ v10 = .int .i64 (i : Int) ∧ Aside0 (PutI W S by_ hd ra i wr)) (fun v10 _ => na - (intOf v10).toNat)
    case atStart => exact ⟨0, Nat.zero_le _, rfl, HI0⟩
    case round =>
      obtain ⟨i, hin, rfl, HI⟩ := hrel
      obtain ⟨ins, now, X, hSR, hX, hRu, hfl⟩ := HI.out.ex
      have HP := Aside0.mk (And.intro hSR (And.intro hX (And.intro hRu hfl)))
      clear hSR hX hRu hfl HI0
      by_cases hlt : i < na
      · have hd1 : decide ((i : Int) < (na : Int)) = true := decide_eq_true (by omega)
        have hd2 : decide (i < na) = true := decide_eq_true hlt
        obtain ⟨b, off, q, row, hae, hb, hq, hrow, hcq, hqn⟩ := lst_at LA.out hlt
        subst hae
        have hq2 := (cell_of_block (HI.out.bel.block b hb) _).trans hq
        have HPut := Aside0.mk (put_ok S by_ hd ins now i X wr HP.out.1 (by omega) (fun h => stabOK_all _ _ (by have := HP.out.1.facts.2.2.1; omega)) q.a q.n q.c row (hcq.below HI.out.bel) hqn (fun j hj => by
          rintro rfl
          have := hcq.blt _ hj
          have := HP.out.2.1 _ HP.out.1.facts.2.2.2.1
          omega))
        have HRow := Aside0.mk hrow
        obtain ⟨qa, qn, qc⟩ := q
        dsimp only [RV.v] at hq2 HPut
        have hw9 : IntKind.i64.wrap ((i : Int) + 1) = (i : Int) + 1 := by rw [IntKind.wrap_i64]; omega
        clear hq hrow hcq hqn hb
        go_wp2_with (first
          | (go_at_call 22; refine HPut.out.mono ?_; rintro e w4 ⟨rfl, X4, hg4, hs4⟩; (obtain ⟨hq4, hX4⟩ := gr_below hg4 HP.out.2.1 HI.out.bel.size); have HS4 := Aside0.mk (And.intro hs4 (And.intro hX4 (below_step HI.out.bel hq4 (Nat.le_refl _)))); have H30 := Aside0.mk (runs30_ok S by_ hd _ _ (i + 1) false X4 w4 hs4 (by omega)); clear hg4 hs4 hq4 hX4)
          | (go_at_call 30; refine H30.out.mono ?_; rintro e w5 ⟨v5, rfl, hv5, hb5⟩; have H5 := Aside0.mk (And.intro hv5 hb5); clear hv5 hb5)
          | (go_at_call 31; refine (runs31_int (i + 1) hd _ w5 hh2 hh9 (by omega) (by simp)).mono ?_; rintro e w6 ⟨v6, rfl, hv6, hb6⟩; have H6 := Aside0.mk (And.intro hv6 hb6); clear hv6 hb6)
          | (go_at_call 29; refine (sameInts_ok v5 v6 (runsN hd ((i + 1) / hd)) w4.heap.size w5.heap.size w6 (by have h1 := (HP.out.2.2.1.step hh2 row).runs; have h2 := nums_below H5.out.1 H6.out.2; rw [h1] at h2; exact h2) H6.out.1 (Nat.le_trans (runsN_len hd hh2 _) (Nat.le_trans (Nat.div_le_self _ _) (by omega)))).mono ?_; rintro e w7 ⟨rfl, hb7⟩; have H7 := Aside0.mk hb7; clear hb7)
          | fail)
        go_roundw
        case rel =>
          have hb47 : Below w4.heap.size w4 w7 := below_step (below_step H5.out.2 H6.out.2 H5.out.2.size) H7.out (below_step H5.out.2 H6.out.2 H5.out.2.size).size
          refine ⟨i + 1, hlt, by simp, ⟨⟨⟨_, _, X4, HS4.out.1.below hb47, HS4.out.2.1, HP.out.2.2.1.step hh2 row, ?_⟩, below_step HS4.out.2.2 hb47 HS4.out.2.2.size⟩⟩⟩
          rw [putP_flat2 hh2 row HP.out.1.facts.1, HP.out.2.2.2, List.take_add_one, HRow.out]
          rfl
        case measure => simp [intOf] <;> omega
      · have hd1 : decide ((i : Int) < (na : Int)) = false := decide_eq_false (by omega)
        have hd2 : decide (i < na) = false := decide_eq_false hlt
        obtain rfl : na = i := by omega
        have hra : ins.flatten ++ now = ra := by rw [HP.out.2.2.2, HNL.out, List.take_length]
        obtain ⟨T, hT⟩ : ∃ T, stab (fun a b => cmpR a b by_) ra = T := ⟨_, rfl⟩
        have hTl : T.length = na := by rw [← hT, stab_len, ← HNL.out]
        have HTT := Aside0.mk (And.intro hra (And.intro hT hTl))
        have hS32 := sortedX aa na ca (.slice ao nb co) by_ ra wr (LA.out.below HI.out.bel) (by omega) (by rw [HNB.out]; omega) (HO.out.below HI.out.bel)
        rw [hT] at hS32
        have HS32 := Aside0.mk hS32
        have hnowl : now.length ≤ 1000 := by have := HP.out.1.facts.2.2.1; omega
        clear hra hT hTl hS32
        go_upto_region 13 with (go_at_call 32; refine HS32.out.mono ?_; rintro e w5 ⟨a5, c5, rs, rfl, hsx⟩; have HX := Aside0.mk hsx; clear hsx)
        have HWt := Aside0.mk (want_at HX.out.wl HP.out.1)
        have HR1 := Aside0.mk (rows_ok3 S by_ hd ins now na false X w5 (HP.out.1.below HX.out.wl.bel) (fun _ => stabOK_all _ _ hnowl))
        have HB5 := Aside0.mk (below_step HI.out.bel HX.out.wl.bel HI.out.bel.size)
        clear HS32
        go_upto_region 14 with (first
          | (go_at_call 24; refine HR1.out.mono ?_; rintro e w6 ⟨gf, lb, prs, R6, rfl, hg6, hs6, hit6, hp6, hz6, hR6, hfr6⟩; (obtain ⟨hq6, hX6⟩ := gr_below hg6 HP.out.2.1 HB5.out.size); have HB6 := Aside0.mk (below_step HB5.out hq6 (Nat.le_refl _)); have HC6 := Aside0.mk (callsIn_wide.1 (collect_c 3 (Nat.le_refl _) _ prs R6 w6 hit6 (by have := congrArg List.length hp6; rw [List.length_map, HTT.out.1, HTT.out.2.1, HTT.out.2.2] at this; omega))); have H6 := Aside0.mk (And.intro hs6 (And.intro hp6 (And.intro hz6 (And.intro hfr6 hg6.size)))); clear hg6 hs6 hit6 hp6 hz6 hR6 hfr6 hq6 hX6)
          | (go_at_call 19; refine HC6.out.mono ?_; rintro e w7 ⟨hb7, ⟨_, sv, rfl, _, hown⟩ | ⟨hx, _⟩⟩; rotate_left; exact absurd (errOf_zero _ H6.out.2.2.1) hx)
          | fail)
        have HO7 := Aside0.mk (show OwnB (fun j => w6.heap.size ≤ j ∧ j < w7.heap.size) w7 sv T ∧ OwnB (fun j => j ≠ S ∧ j < w5.heap.size) w7 (.slice a5 na c5) T from by
          rw [H6.out.2.1, HTT.out.1, HTT.out.2.1] at hown
          have hs6 := H6.out.2.2.2.2
          exact ⟨hown, OwnB.same (Nat.le_trans hs6 hb7.size) (fun j hj => (hb7.block j (by omega)).trans (H6.out.2.2.2.1 j hj.2 hj.1)) HWt.out⟩)
        have HB7 := Aside0.mk (below_step HB6.out hb7 HB6.out.size)
        have HS7 := Aside0.mk (And.intro (H6.out.1.below hb7) (And.intro H6.out.2.2.2.2 hb7.size))
        have HR2 := Aside0.mk (rows_ok3 S by_ hd ins now na true X w7 HS7.out.1 (fun _ => stabOK_all _ _ hnowl))
        clear hown hb7 HR1 HC6 H6 HWt HB6
        go_upto_region 15 with (first
          | (go_at_call 24; refine HR2.out.mono ?_; rintro e w8 ⟨gf2, lb2, prs2, R8, rfl, hg6, hs6, hit6, hp6, hz6, hR6, hfr6⟩; (obtain ⟨hq6, hX6⟩ := gr_below hg6 HP.out.2.1 HB7.out.size); have HB8 := Aside0.mk (below_step HB7.out hq6 (Nat.le_refl _)); have HC8 := Aside0.mk (callsIn_wide.1 (collect_c 3 (Nat.le_refl _) _ prs2 R8 w8 hit6 (by have := congrArg List.length hp6; rw [List.length_map, HTT.out.1, HTT.out.2.1, HTT.out.2.2] at this; omega))); have H8 := Aside0.mk (And.intro hs6 (And.intro hp6 (And.intro hz6 (And.intro hfr6 hg6.size)))); clear hg6 hs6 hit6 hp6 hz6 hR6 hfr6 hq6 hX6)
          | (go_at_call 19; refine HC8.out.mono ?_; rintro e w9 ⟨hb9, ⟨_, sv2, rfl, _, hown⟩ | ⟨hx, _⟩⟩; rotate_left; exact absurd (errOf_zero _ H8.out.2.2.1) hx)
          | fail)
        have HO9 := Aside0.mk (show Own1 w9 sv T ∧ Own1 w9 sv2 T ∧ Own1 w9 (.slice a5 na c5) T from by
          rw [H8.out.2.1, HTT.out.1, HTT.out.2.1] at hown
          have hs8 := H8.out.2.2.2.2
          have hSl := HS7.out.1.xlt S HS7.out.1.facts.2.2.2.1
          have hSl6 : S < w6.heap.size := by
            have h1 := HP.out.1.xlt S HP.out.1.facts.2.2.2.1
            have h2 := HX.out.wl.bel.size
            have h3 := HS7.out.2.1
            omega
          refine ⟨(OwnB.same (Nat.le_trans hs8 hb9.size) (fun j hj => (hb9.block j (by omega)).trans (H8.out.2.2.2.1 j hj.2 (by omega))) HO7.out.1).own, hown.own, (OwnB.same (Nat.le_trans hs8 hb9.size) (fun j hj => ?_) HO7.out.2).own⟩
          have h3 := HS7.out.2
          exact (hb9.block j (by omega)).trans (H8.out.2.2.2.1 j (by omega) hj.1))
        have HB9 := Aside0.mk (below_step HB8.out hb9 HB8.out.size)
        have HS9 := Aside0.mk (H8.out.1.below hb9)
        have h18 := list_n aa na ca ra w9 (LA.out.below HB9.out) (by rw [← HNL.out]; omega)
        clear hown hb9 HR2 HC8 H8 HO7 HS7 HB7 HB8
        go_upto_region 16 with (first
          | (go_at_call 18; refine h18.mono ?_; rintro e w10 ⟨p1, R1, rfl, s1, o1, b1, i1, e1⟩; have H10 := Aside0.mk (And.intro s1 (And.intro o1 (And.intro b1 i1))); have HT := Aside0.mk (sorted_c2 41 _ ao nb co by_ (p1.map cdOf) R1 w10 i1.m (prs_zero o1) (HO.out.below (below_step HB9.out b1 HB9.out.size)) (by rw [HNB.out]; omega) (by have := congrArg List.length s1; rw [List.length_map] at this; rw [List.length_map, this, ← HNL.out]; exact hn60)); clear s1 o1 b1 i1 e1 h18)
          | (go_at_call 33; refine HT.out.mono ?_; rintro e w11 ⟨R2, v2, rfl, b2, i2⟩; have H11 := Aside0.mk (And.intro b2 (callsIn_wide.1 (collect_m 3 (Nat.le_refl _) v2 _ _ R2 w11 i2 (by rw [show (sc by_ ((p1.map cdOf).map Prod.snd)).length = _ from List.length_map _, stab_len, prs_rows, H10.out.1, ← HNL.out]; omega)))); clear b2 i2 HT)
          | (go_at_call 19; refine H11.out.2.mono ?_; rintro e w12 ⟨b3, ⟨sv3, rs3, rfl, _, hown, hall⟩ | ⟨kk, cc, hx1, _, hx2, _⟩⟩; rotate_left; exact absurd (show cc.1 = 0 from by obtain ⟨r, _, rfl⟩ := List.mem_map.1 (List.mem_of_getElem? hx1); rfl) hx2; have H12 := Aside0.mk (And.intro b3 (And.intro hown hall)); clear b3 hown hall)
          | fail)
        have hb912 : Below w9.heap.size w9 w12 := below_step (below_step H10.out.2.2.1 H11.out.1 H10.out.2.2.1.size) H12.out.1.below (below_step H10.out.2.2.1 H11.out.1 H10.out.2.2.1.size).size
        have htop : (sc by_ ((p1.map cdOf).map Prod.snd)).map Prod.snd = T := by
          rw [prs_rows, H10.out.1]
          unfold sc
          rw [List.map_map, show (Prod.snd ∘ fun r : List V3 => ((0 : Int), r)) = id from rfl, List.map_id, HTT.out.2.1]
        have ho3 : Own1 w12 sv3 T := by
          rw [← htop]
          exact own1_rs (by rw [List.length_map]; exact H12.out.2.1) H12.out.2.2
        have HO12 := Aside0.mk (And.intro (own1_below HO9.out.1 hb912) (And.intro (own1_below HO9.out.2.1 hb912) (And.intro ho3 (own1_below HO9.out.2.2 hb912))))
        have HB12 := Aside0.mk (below_step HB9.out hb912 HB9.out.size)
        have HS12 := Aside0.mk (HS9.out.below hb912)
        have HSm := Aside0.mk (fun (v : Value) (w : World) (h1 : Own1 w v T) (h2 : Own1 w (.slice a5 na c5) T) => by have h := sameRows_ok v (.slice a5 na c5) T T w h1 h2 (by have := HTT.out.2.2; omega); rw [eqRows_refl] at h; exact h)
        clear hb912 htop ho3 H10 H11 H12 HO9 HB9 HS9
        go_wp2_with (first
          | (have _q := H14; go_at_call 15; refine (HSm.out sv3 _ (own1_below (own1_below HO12.out.2.2.1 H13.out) H14.out) (own1_below (own1_below HO12.out.2.2.2 H13.out) H14.out)).mono ?_; rintro e w15 ⟨rfl, hs15⟩; have H15 := Aside0.mk (below_step (below_step H13.out H14.out H13.out.size) hs15.below (below_step H13.out H14.out H13.out.size).size); have HP15 := Aside0.mk ((HS12.out.below H15.out).facts.2.2.2.2); clear hs15)
          | (have _q := H13; go_at_call 15; refine (HSm.out sv2 _ (own1_below HO12.out.2.1 H13.out) (own1_below HO12.out.2.2.2 H13.out)).mono ?_; rintro e w14 ⟨rfl, hs14⟩; have H14 := Aside0.mk hs14.below; clear hs14)
          | (go_at_call 15; refine (HSm.out sv _ HO12.out.1 HO12.out.2.2.2).mono ?_; rintro e w13 ⟨rfl, hs13⟩; have H13 := Aside0.mk hs13.below; clear hs13)
          | (go_at_call 22; refine (put_done S hd _ w15 HP15.out.1 HP15.out.2 (by omega)).mono ?_; rintro e w16 ⟨rfl, hb16⟩; have H16 := Aside0.mk hb16; clear hb16)
          | (go_at_call 25; refine (awake25_ok _).mono ?_; rintro e w17 ⟨rfl, hb17⟩; have H17 := Aside0.mk hb17; clear hb17)
          | fail)
        refine bodyPost_ret (results_tmp rfl _ _ _) rfl ?_
        have h15 := below_step HB12.out H15.out HB12.out.size
        have h16 := below_step h15 H16.out h15.size
        exact ⟨rfl, below_step h16 H17.out h16.size⟩
end Go.Proofs.Ytghpjlohoehdnaa.Sep
