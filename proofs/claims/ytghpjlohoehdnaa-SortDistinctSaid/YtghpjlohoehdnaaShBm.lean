/- SortDistinct, walked. No condition beyond those that each theorem names. -/
import Derived.Test.YtghpjlohoehdnaaSmD
import Derived.Test.YtghpjlohoehdnaaSmB
namespace Go.Proofs.Ytghpjlohoehdnaa.Sep
open Go Go.RowKit Go.Shelf
set_option linter.unusedVariables false
set_option linter.unusedSimpArgs false
/-- a row goes in, if it is not there -/
def ddS (w : List (List V3)) (r : List V3) : List (List V3) := if w.any fun s => eqRow s r then w else w ++ [r]
def ddL (rows : List (List V3)) : List (List V3) := rows.foldl ddS []
theorem ddL_succ {rows : List (List V3)} {i : Nat} {r : List V3} (h : rows[i]? = some r) : ddL (rows.take (i + 1)) = ddS (ddL (rows.take i)) r := by
  have e : rows.take (i + 1) = rows.take i ++ [r] := by rw [List.take_add_one, h]; rfl
  unfold ddL
  rw [e, List.foldl_append]
  rfl
theorem ddS_len (w : List (List V3)) (r : List V3) : (ddS w r).length ≤ w.length + 1 := by
  unfold ddS
  split
  · omega
  · simp
theorem dist_dd : ∀ (prs : List Pr) (acc : List (List V3)), (∀ p ∈ prs, p.1.2 = 0) → acc ++ (distL acc prs).map Prod.snd = (prs.map Prod.snd).foldl ddS acc
  | [], acc, _ => by simp [distL]
  | p :: l, acc, h => by
    have hp := h p (List.mem_cons_self ..)
    have hl : ∀ q ∈ l, q.1.2 = 0 := fun q hq => h q (List.mem_cons_of_mem _ hq)
    rw [distL, if_pos hp, List.map_cons, List.foldl_cons]
    by_cases hc : (acc.any fun s => eqRow s p.2) = true
    · rw [if_pos hc, dist_dd l acc hl]
      unfold ddS
      rw [if_pos hc]
    · rw [if_neg hc, List.map_cons]
      have := dist_dd l (acc ++ [p.2]) hl
      have e : ddS acc p.2 = acc ++ [p.2] := by unfold ddS; rw [if_neg hc]
      rw [e, ← this]
      simp
theorem dist_zero : ∀ (prs : List Pr) (acc : List (List V3)), (∀ p ∈ prs, p.1.2 = 0) → ∀ p ∈ distL acc prs, p.1.2 = 0
  | [], acc, _, p, hp => by cases hp
  | q :: l, acc, h, p, hp => by
    have hq := h q (List.mem_cons_self ..)
    have hl : ∀ q ∈ l, q.1.2 = 0 := fun q hq => h q (List.mem_cons_of_mem _ hq)
    rw [distL, if_pos hq] at hp
    split at hp
    · exact dist_zero l acc hl p hp
    · rcases List.mem_cons.1 hp with rfl | hp
      · exact hq
      · exact dist_zero l _ hl p hp
theorem any_take_succ {w : List (List V3)} {k : Nat} {s r : List V3} (h : w[k]? = some s) : ((w.take (k + 1)).any fun x => eqRow x r) = (((w.take k).any fun x => eqRow x r) || eqRow s r) := by
  have e : w.take (k + 1) = w.take k ++ [s] := by rw [List.take_add_one, h]; rfl
  rw [e, List.any_append]
  simp
/-- the law's list, as far as it has come: rows whose slices are handed on -/
structure WL (W w : World) (v : Value) (rs : List RV) (rows : List (List V3)) : Prop where
  own : w.ownsRow W.heap.size 48 1 v rs.length (rs.map RV.v)
  all : All2 (fun q row => Cont W q row ∧ q.n ≤ 1000) rs rows
  bel : Below W.heap.size W w
theorem WL.below {W w w' : World} {v : Value} {rs : List RV} {rows : List (List V3)} (h : WL W w v rs rows) (hb : Below w.heap.size w w') : WL W w' v rs rows :=
  ⟨ownsRow_same (fun j hj => hb.block j (own_ge h.own j hj).2) h.own, h.all, below_step h.bel hb h.bel.size⟩
theorem WL.own1 {W w : World} {v : Value} {rs : List RV} {rows : List (List V3)} (h : WL W w v rs rows) : Own1 w v rows :=
  own1_of_row rfl h.own (h.all.imp fun q row hq => ⟨hq.1.below h.bel, hq.2⟩)
theorem lst_at {W : World} {a : Option Addr} {n c : Nat} {rows : List (List V3)} (h : Lst W (.slice a n c) rows) {i : Nat} (hi : i < n) :
    ∃ b off q row, a = some ⟨b, off, none⟩ ∧ b < W.heap.size ∧ W.cell? ⟨b, off + i, none⟩ = some (RV.v q) ∧ rows[i]? = some row ∧ Cont W q row ∧ q.n ≤ 1000 := by
  rcases h with ⟨_, _, h, _⟩ | ⟨b, off, c', rs, h, h1, _, h3, h4⟩
  · injection h with _ h _
    omega
  · injection h with ha hn _
    have hl := h4.len
    have hir : i < rs.length := by omega
    obtain ⟨k1, k2, _⟩ := h4.get i _ _ (List.getElem?_eq_getElem hir) (List.getElem?_eq_getElem (by omega))
    refine ⟨b, off, rs[i], rows[i]'(by omega), ha, h1, ?_, List.getElem?_eq_getElem _, k1, k2⟩
    have := h3 i hir
    rw [List.getElem?_eq_getElem hir] at this
    exact this
theorem wl_at {W w : World} {a : Option Addr} {n c : Nat} {rs : List RV} {rows : List (List V3)} (h : WL W w (.slice a n c) rs rows) (hn : rs.length = n) {k : Nat} (hk : k < n) :
    ∃ g q row, a = some ⟨g, 0, none⟩ ∧ g < w.heap.size ∧ w.cell? ⟨g, k, none⟩ = some (RV.v q) ∧ rows[k]? = some row ∧ Cont W q row ∧ q.n ≤ 1000 := by
  rcases own_one h.own with ⟨e, h0, _⟩ | ⟨g, cap, e, h1, h2, h3, hc⟩
  · injection e with _ e _
    omega
  · injection e with e _ _
    have hl := h.all.len
    obtain ⟨k1, k2⟩ := h.all.get k _ _ (List.getElem?_eq_getElem (by omega)) (List.getElem?_eq_getElem (by omega))
    refine ⟨g, rs[k], rows[k]'(by omega), e, h2, hc k _ ?_, List.getElem?_eq_getElem _, k1, k2⟩
    rw [List.getElem?_map, List.getElem?_eq_getElem (by omega)]
    rfl
theorem held2x {W3 w : World} {a0 a1 : Addr} {u0 u1 : Value} (h0 : W3.cell? a0 = some u0) (h1 : W3.cell? a1 = some u1) (h : Below W3.heap.size W3 w) : w.cell? a0 = some u0 ∧ w.cell? a1 = some u1 ∧ Aside0 (Below W3.heap.size W3 w) :=
  ⟨(cell_of_block' (h.block a0.block (cell_lt h0))).trans h0, (cell_of_block' (h.block a1.block (cell_lt h1))).trans h1, ⟨h⟩⟩
set_option maxRecDepth 100000 in
set_option maxHeartbeats 8000000 in
/-- the law's own list, row by row: the outer loop's round, behind its look -/
theorem distinct_ok (sa : Value) (ra : List (List V3)) (W : World) (ha : Raw W sa ra) :
    Calls Try.prog 7 #[sa] W fun e W' => e = .returned (.bool true) ∧ Below W.heap.size W W' := by
  have hmx : Try.prog.follows .mixedOrders = true := by kernel_rfl
  obtain ⟨i0, hi, hz0, hz1, hz2⟩ := info_parts infoC49
  have hla := light26_ok 60 (by decide) sa ra W ha
  obtain ⟨aa, na, ca, rfl⟩ := ha.shp
  have HA := Aside0.mk ha
  clear ha
  go_enter Try.func7, Try.ntmps7
  go_upto_region 3 with (first
    | (go_at_call 26; refine hla.mono ?_; rintro e w' ⟨ta, rfl, hta, hwq⟩; subst w'; have HTA := Aside0.mk hta; clear hta hla; cases ta)
    | (go_at_call 25; refine (awake25_ok _).mono ?_; rintro e w' ⟨rfl, hbw⟩))
  · refine bodyPost_ret (results_tmp rfl _ _ _) rfl ?_
    exact ⟨rfl, hbw⟩
  obtain ⟨la1, la2⟩ := HTA.out trivial
  have LA := Aside0.mk (HA.out.lst la2)
  have LN := Aside0.mk la1
  have hnl : na = ra.length := lst_len LA.out
  have HNL := Aside0.mk hnl
  have hn60 : na ≤ 60 := by omega
  clear HA HTA la2 la1 hnl
  go_wp2
  go_loopw [3, 4] (fun v3 v4 wr => ∃ (i nw : Nat) (a3 : Option Addr) (c3 : Nat) (rs : List RV), i ≤ na ∧ nw ≤ i ∧ v4 = .int .i64 i ∧ v3 = .slice a3 nw c3 ∧ Aside0 (WL W wr (.slice a3 nw c3) rs (ddL (ra.take i)) ∧ rs.length = nw)) (fun _ v4 _ => na - (intOf v4).toNat)
  case atStart => exact ⟨0, 0, none, 0, [], Nat.zero_le _, Nat.le_refl _, rfl, rfl, ⟨⟨World.ownsRow_nil _ _ _ _, trivial, Below.refl _ _⟩, rfl⟩⟩
  case round =>
    obtain ⟨i, nw, a3, c3, rs, hin, hnw, rfl, rfl, HW⟩ := hrel
    by_cases hlt : i < na
    · have hd1 : decide ((i : Int) < (na : Int)) = true := by simpa using hlt
      have hd2 : decide (i < na) = true := by simpa using hlt
      obtain ⟨b, off, q, row, hae, hb, hq, hrow, hcq, hqn⟩ := lst_at LA.out hlt
      subst hae
      have hq2 := (cell_of_block (HW.out.1.bel.block b hb) _).trans hq
      have HQ := Aside0.mk (And.intro hrow (And.intro hcq hqn))
      have HRw := Aside0.mk hq
      have hwl : (ddL (ra.take i)).length = nw := by rw [← HW.out.1.all.len]; exact HW.out.2
      have HWl := Aside0.mk hwl
      obtain ⟨want, hwant⟩ : ∃ want, ddL (ra.take i) = want := ⟨_, rfl⟩
      have HWa := Aside0.mk hwant
      rw [hwant] at HW HWl
      clear hwant hwl hrow hcq hqn hq hb
      obtain ⟨qa, qn, qc⟩ := q
      dsimp only [RV.v] at hq2
      go_wp2
      go_loopw [5, 6] (fun v5 v6 w2 => ∃ (k : Nat) (t : Bool), k ≤ nw ∧ v6 = .int .i64 k ∧ v5 = .bool t ∧ Aside0 (Below wr.heap.size wr w2) ∧ Aside0 (t = (want.take k).any fun x => eqRow x row)) (fun _ v6 _ => nw - (intOf v6).toNat)
      case atStart => exact ⟨0, false, Nat.zero_le _, rfl, rfl, ⟨Below.refl _ _⟩, ⟨rfl⟩⟩
      case round =>
        obtain ⟨k, t, hk, rfl, rfl, HB, HT⟩ := hrel
        by_cases hkl : k < nw
        · have hd3 : decide ((k : Int) < (nw : Int)) = true := by simpa using hkl
          have hd4 : decide (k < nw) = true := by simpa using hkl
          obtain ⟨g, p, prow, hge, hg, hp, hprow, hcp, hpn⟩ := wl_at HW.out.1 HW.out.2 hkl
          subst hge
          have hp2 := (cell_of_block (HB.out.block g hg) _).trans hp
          have hq3 := (cell_of_block (HB.out.block b (cell_lt hq2)) _).trans hq2
          have HP := Aside0.mk (And.intro hprow (And.intro hcp hpn))
          have HTs := Aside0.mk (any_take_succ (r := row) hprow)
          clear hg hp hprow hcp hpn
          obtain ⟨pa, pn, pc⟩ := p
          dsimp only [RV.v] at hp2
          cases t with
          | true =>
            go_wp2
            go_quiet (fail)
            go_wp2
            go_roundw
            case rel => exact ⟨k + 1, true, hkl, by simp, rfl, ⟨below_drewN HB.out _⟩, ⟨by rw [HTs.out, ← HT.out]; rfl⟩⟩
            case measure => simp [intOf] <;> omega
          | false =>
            go_upto_region 11 with fail
            have HCC := Aside0.mk (fun (w : World) (h : Below wr.heap.size wr w) => And.intro (HP.out.2.1.below (below_step (below_step HW.out.1.bel HB.out HW.out.1.bel.size) h (below_step HW.out.1.bel HB.out HW.out.1.bel.size).size)) (HQ.out.2.1.below (below_step (below_step HW.out.1.bel HB.out HW.out.1.bel.size) h (below_step HW.out.1.bel HB.out HW.out.1.bel.size).size)))
            go_region_held3 (fun w' => w'.cell? ⟨g, k, none⟩ = some (.slice pa pn pc) ∧ w'.cell? ⟨b, off + i, none⟩ = some (.slice qa qn qc) ∧ Aside0 (Below wr.heap.size wr w'))
              (first | exact held2x hp2 hq3 (Still.drew wr).below | exact held2x hp2 hq3 HB4.out | fail)
              (first | (go_at_call 27; refine (same_ok ⟨pa, pn, pc⟩ ⟨qa, qn, qc⟩ prow row _ (HCC.out _ (Still.drew wr).below).1 (HCC.out _ (Still.drew wr).below).2 (by have := HP.out.2.2; dsimp only at this ⊢; omega)).mono ?_; rintro e w4 ⟨rfl, hs4⟩; have HB4 := Aside0.mk (below_step (Still.drew wr).below hs4.below (Nat.le_refl _)); clear hs4))
            obtain ⟨t2, ht2⟩ : ∃ t2, eqRow prow row = t2 := ⟨_, rfl⟩
            rw [ht2]
            have HT2 := Aside0.mk (show t2 = (want.take (k + 1)).any fun x => eqRow x row from by rw [HTs.out, ← HT.out, ht2]; rfl)
            clear ht2
            go_wp2
            go_roundw
            case rel => exact ⟨k + 1, t2, hkl, by simp, rfl, ⟨below_step HB.out HB4.out HB.out.size⟩, HT2⟩
            case measure => simp [intOf] <;> omega
        · obtain rfl : k = nw := by omega
          have HT3 := Aside0.mk (show t = want.any fun x => eqRow x row from by rw [HT.out, List.take_of_length_le (by rw [HWl.out]; exact Nat.le_refl _)])
          have HS := Aside0.mk (show ddL (ra.take (i + 1)) = ddS want row from by rw [ddL_succ HQ.out.1, HWa.out])
          have hq3 := (cell_of_block (HB.out.block b (cell_lt hq2)) _).trans hq2
          have HW2 := Aside0.mk (HW.out.1.below HB.out)
          cases t with
          | true =>
            have HS2 := Aside0.mk (show ddL (ra.take (i + 1)) = want from by rw [HS.out]; unfold ddS; rw [← HT3.out]; rfl)
            go_wp2
            go_roundw
            case rel => exact ⟨i + 1, k, a3, c3, rs, hlt, by omega, by simp, rfl, ⟨by rw [HS2.out]; exact ⟨HW2.out, HW.out.2⟩⟩⟩
            case measure => simp [intOf] <;> omega
          | false =>
            have HS2 := Aside0.mk (show ddL (ra.take (i + 1)) = want ++ [row] from by rw [HS.out]; unfold ddS; rw [← HT3.out]; rfl)
            have HOw := Aside0.mk (show wr.ownsRow W.heap.size 48 1 (.slice a3 k c3) k (rs.map RV.v) from by have := HW2.out.own; rw [HW.out.2] at this; exact this)
            have hWs := HW2.out.bel.size
            go_wp2_with (first
              | (at_builtin; refine wpList_append_lies _ rfl _ _ 22 rfl W.heap.size 48 i0 (.slice none 0 0) 1 24 Try.underlying22 hi hz0 hz1 hz2 rfl (by decide) (.slice a3 k c3) k (rs.map RV.v) rfl (HOw.out.alloc _) ⟨_, 0, none⟩ 1 1 [.slice qa qn qc] rfl rfl (cell_one_new _ _ _) (by simp [Value.oneCell']) (by decide) (by unfold maxLen; omega) (by omega) (by rw [World.size_alloc]; omega) _ rfl ?_; intro g9 cap9 w9 ho9 hgr9 hat9 hlt9)
              | fail)
            have HW9 : Aside0 (WL W w9 (.slice (some ⟨g9, 0, none⟩) (k + 1) cap9) (rs ++ [⟨qa, qn, qc⟩]) (want ++ [row])) := ⟨by
              have hl1 : (rs ++ [(⟨qa, qn, qc⟩ : RV)]).length = k + 1 := by rw [List.length_append, HW.out.2]; rfl
              refine ⟨?_, All2.snoc ⟨HQ.out.2.1, HQ.out.2.2⟩ HW2.out.all, ?_⟩
              · rw [hl1, List.map_append]
                exact ho9
              · exact (HW2.out.bel.alloc hWs _).grown hgr9 (by rw [World.size_alloc]; omega) (fun j hj => (own_ge HOw.out j hj).1)⟩
            clear ho9 hgr9 hat9 hlt9
            go_roundw
            case rel => exact ⟨i + 1, k + 1, some ⟨g9, 0, none⟩, cap9, rs ++ [⟨qa, qn, qc⟩], hlt, by omega, by simp, by simp, ⟨by rw [HS2.out]; exact ⟨HW9.out, by rw [List.length_append, HW.out.2]; rfl⟩⟩⟩
            case measure => simp [intOf] <;> omega
    · obtain rfl : i = na := by omega
      have HWf := Aside0.mk (show WL W wr (.slice a3 nw c3) rs (ddL ra) from by have := HW.out.1; rw [HNL.out, List.take_length] at this; exact this)
      have hd1 : decide ((i : Int) < (i : Int)) = false := by simp
      have h1 := list_n aa i ca ra wr (LA.out.below HWf.out.bel) (by have := LN.out; omega)
      have hw0 := HWf.out.bel.size
      clear HW
      go_upto_region 15 with (first
        | (go_at_call 18; refine h1.mono ?_; rintro e w1 ⟨p1, R1, rfl, s1, o1, b1, i1, e1⟩; have H1 := Aside0.mk (And.intro s1 (And.intro o1 (And.intro b1 i1))); clear s1 o1 b1 i1 e1 h1)
        | (go_at_call 28; refine (dist_make _ H1.out.2.2.2.fv w1).mono ?_; rintro e w2 ⟨rfl, e2⟩; (have b2 : Below w1.heap.size w1 w2 := (by rw [e2]; exact (Below.refl _ w1).alloc (Nat.le_refl _) _)); (have i2 := dist_c w1.heap.size _ p1 R1 w2 (by rw [e2]; simp) (by rw [e2]; exact (Boxed.new w1 31 _).cell) (H1.out.2.2.2.below b2) (by have := congrArg List.length H1.out.1; rw [List.length_map] at this; have := LN.out; omega)); have H2 := Aside0.mk (And.intro b2 (callsIn_wide.1 (collect_c 3 (Nat.le_refl _) _ _ _ w2 i2 (by have := distL_len p1 []; have := congrArg List.length H1.out.1; rw [List.length_map] at this; have := LN.out; omega)))); clear b2 i2 e2)
        | (go_at_call 19; refine H2.out.2.mono ?_; rintro e w3 ⟨b3, ⟨_, sv, rfl, _, hown⟩ | ⟨hx, _⟩⟩; rotate_left; exact absurd (errOf_zero _ (dist_zero p1 [] H1.out.2.1)) hx)
        | fail)
      have hdd : (distL [] p1).map Prod.snd = ddL ra := by
        have := dist_dd p1 [] H1.out.2.1
        rw [H1.out.1, List.nil_append] at this
        exact this
      rw [hdd] at hown
      have hb3 : Below wr.heap.size wr w3 := below_step (below_step H1.out.2.2.1 H2.out.1 H1.out.2.2.1.size) b3 (below_step H1.out.2.2.1 H2.out.1 H1.out.2.2.1.size).size
      have HSame := sameRows_ok sv (.slice a3 nw c3) (ddL ra) (ddL ra) w3 hown.own ((HWf.out.below hb3).own1) (by
        have h5 : (ddL ra).length ≤ 60 := by
          have h6 := distL_len p1 []
          have h7 := congrArg List.length hdd
          have h8 := congrArg List.length H1.out.1
          rw [List.length_map] at h7 h8
          have := LN.out
          omega
        omega)
      rw [eqRows_refl] at HSame
      have HB3 := Aside0.mk (below_step HWf.out.bel hb3 HWf.out.bel.size)
      clear hdd hown hb3 b3
      go_wp2_with (first
        | (go_at_call 15; refine HSame.mono ?_; rintro e w4 ⟨rfl, hs4⟩; have HB4 := Aside0.mk (below_step HB3.out hs4.below HB3.out.size); clear hs4)
        | (go_at_call 25; refine (awake25_ok _).mono ?_; rintro e w5 ⟨rfl, hb5⟩)
        | fail)
      refine bodyPost_ret (results_tmp rfl _ _ _) rfl ?_
      exact ⟨rfl, below_step HB4.out hb5 HB4.out.size⟩
end Go.Proofs.Ytghpjlohoehdnaa.Sep
