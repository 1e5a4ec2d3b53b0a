/- The law's own sort; sort.Top and what it calls, walked. No condition beyond those that each theorem names. -/
import Derived.Test.YtghpjlohoehdnaaSmD
import Derived.Test.YtghpjlohoehdnaaSmB
import Derived.Test.YtghpjlohoehdnaaSmE
import Derived.Laws.AppendOwnNone
import Derived.Deep.LoopGhost
import Derived.Shelf.Spec.SlicesInsertGrow
import Derived.Test.YtghpjlohoehdnaaSmC
/-! SortDistinct, walked. No condition beyond those that each theorem names. -/
namespace Go.Proofs.Ytghpjlohoehdnaa.Sep
open Go Go.RowKit Go.Shelf
set_option linter.unusedVariables false
set_option linter.unusedSimpArgs false
/-- a row goes in, if it is not there -/
def ddS (w : List (List V3)) (r : List V3) : List (List V3) := if w.any fun s => eqRow s r then w else w ++ [r]
def ddL (rows : List (List V3)) : List (List V3) := rows.foldl ddS []
theorem ddL_succ {rows : List (List V3)} {i : Nat} {r : List V3} (h : rows[i]? = some r) : ddL (rows.take (i + 1)) = ddS (ddL (rows.take i)) r := by
  have e : rows.take (i + 1) = rows.take i ++ [r] := by rw [List.take_add_one, h]; rfl
  unfold ddL
  rw [e, List.foldl_append]
  rfl
theorem ddS_len (w : List (List V3)) (r : List V3) : (ddS w r).length ≤ w.length + 1 := by
  unfold ddS
  split
  · omega
  · simp
theorem dist_dd : ∀ (prs : List Pr) (acc : List (List V3)), (∀ p ∈ prs, p.1.2 = 0) → acc ++ (distL acc prs).map Prod.snd = (prs.map Prod.snd).foldl ddS acc
  | [], acc, _ => by simp [distL]
  | p :: l, acc, h => by
    have hp := h p (List.mem_cons_self ..)
    have hl : ∀ q ∈ l, q.1.2 = 0 := fun q hq => h q (List.mem_cons_of_mem _ hq)
    rw [distL, if_pos hp, List.map_cons, List.foldl_cons]
    by_cases hc : (acc.any fun s => eqRow s p.2) = true
    · rw [if_pos hc, dist_dd l acc hl]
      unfold ddS
      rw [if_pos hc]
    · rw [if_neg hc, List.map_cons]
      have := dist_dd l (acc ++ [p.2]) hl
      have e : ddS acc p.2 = acc ++ [p.2] := by unfold ddS; rw [if_neg hc]
      rw [e, ← this]
      simp
theorem dist_zero : ∀ (prs : List Pr) (acc : List (List V3)), (∀ p ∈ prs, p.1.2 = 0) → ∀ p ∈ distL acc prs, p.1.2 = 0
  | [], acc, _, p, hp => by cases hp
  | q :: l, acc, h, p, hp => by
    have hq := h q (List.mem_cons_self ..)
    have hl : ∀ q ∈ l, q.1.2 = 0 := fun q hq => h q (List.mem_cons_of_mem _ hq)
    rw [distL, if_pos hq] at hp
    split at hp
    · exact dist_zero l acc hl p hp
    · rcases List.mem_cons.1 hp with rfl | hp
      · exact hq
      · exact dist_zero l _ hl p hp
theorem any_take_succ {w : List (List V3)} {k : Nat} {s r : List V3} (h : w[k]? = some s) : ((w.take (k + 1)).any fun x => eqRow x r) = (((w.take k).any fun x => eqRow x r) || eqRow s r) := by
  have e : w.take (k + 1) = w.take k ++ [s] := by rw [List.take_add_one, h]; rfl
  rw [e, List.any_append]
  simp
/-- the law's list, as far as it has come: rows whose slices are handed on -/
structure WL (W w : World) (v : Value) (rs : List RV) (rows : List (List V3)) : Prop where
  own : w.ownsRow W.heap.size 48 1 v rs.length (rs.map RV.v)
  all : All2 (fun q row => Cont W q row ∧ q.n ≤ 1000) rs rows
  bel : Below W.heap.size W w
theorem WL.below {W w w' : World} {v : Value} {rs : List RV} {rows : List (List V3)} (h : WL W w v rs rows) (hb : Below w.heap.size w w') : WL W w' v rs rows :=
  ⟨ownsRow_same (fun j hj => hb.block j (own_ge h.own j hj).2) h.own, h.all, below_step h.bel hb h.bel.size⟩
theorem WL.own1 {W w : World} {v : Value} {rs : List RV} {rows : List (List V3)} (h : WL W w v rs rows) : Own1 w v rows :=
  own1_of_row rfl h.own (h.all.imp fun q row hq => ⟨hq.1.below h.bel, hq.2⟩)
theorem lst_at {W : World} {a : Option Addr} {n c : Nat} {rows : List (List V3)} (h : Lst W (.slice a n c) rows) {i : Nat} (hi : i < n) :
    ∃ b off q row, a = some ⟨b, off, none⟩ ∧ b < W.heap.size ∧ W.cell? ⟨b, off + i, none⟩ = some (RV.v q) ∧ rows[i]? = some row ∧ Cont W q row ∧ q.n ≤ 1000 := by
  rcases h with ⟨_, _, h, _⟩ | ⟨b, off, c', rs, h, h1, _, h3, h4⟩
  · injection h with _ h _
    omega
  · injection h with ha hn _
    have hl := h4.len
    have hir : i < rs.length := by omega
    obtain ⟨k1, k2, _⟩ := h4.get i _ _ (List.getElem?_eq_getElem hir) (List.getElem?_eq_getElem (by omega))
    refine ⟨b, off, rs[i], rows[i]'(by omega), ha, h1, ?_, List.getElem?_eq_getElem _, k1, k2⟩
    have := h3 i hir
    rw [List.getElem?_eq_getElem hir] at this
    exact this
theorem wl_at {W w : World} {a : Option Addr} {n c : Nat} {rs : List RV} {rows : List (List V3)} (h : WL W w (.slice a n c) rs rows) (hn : rs.length = n) {k : Nat} (hk : k < n) :
    ∃ g q row, a = some ⟨g, 0, none⟩ ∧ g < w.heap.size ∧ w.cell? ⟨g, k, none⟩ = some (RV.v q) ∧ rows[k]? = some row ∧ Cont W q row ∧ q.n ≤ 1000 := by
  rcases own_one h.own with ⟨e, h0, _⟩ | ⟨g, cap, e, h1, h2, h3, hc⟩
  · injection e with _ e _
    omega
  · injection e with e _ _
    have hl := h.all.len
    obtain ⟨k1, k2⟩ := h.all.get k _ _ (List.getElem?_eq_getElem (by omega)) (List.getElem?_eq_getElem (by omega))
    refine ⟨g, rs[k], rows[k]'(by omega), e, h2, hc k _ ?_, List.getElem?_eq_getElem _, k1, k2⟩
    rw [List.getElem?_map, List.getElem?_eq_getElem (by omega)]
    rfl
theorem held2x {W3 w : World} {a0 a1 : Addr} {u0 u1 : Value} (h0 : W3.cell? a0 = some u0) (h1 : W3.cell? a1 = some u1) (h : Below W3.heap.size W3 w) : w.cell? a0 = some u0 ∧ w.cell? a1 = some u1 ∧ Aside0 (Below W3.heap.size W3 w) :=
  ⟨(cell_of_block' (h.block a0.block (cell_lt h0))).trans h0, (cell_of_block' (h.block a1.block (cell_lt h1))).trans h1, ⟨h⟩⟩
set_option maxRecDepth 100000 in
set_option maxHeartbeats 8000000 in
/-- the law's own list, row by row: the outer loop's round, behind its look -/
theorem distinct_ok (sa : Value) (ra : List (List V3)) (W : World) (ha : Raw W sa ra) :
    Calls Try.prog 7 #[sa] W fun e W' => e = .returned (.bool true) ∧ Below W.heap.size W W' := by
  have hmx : Try.prog.follows .mixedOrders = true := by kernel_rfl
  obtain ⟨i0, hi, hz0, hz1, hz2⟩ := info_parts infoC49
  have hla := light26_ok 60 (by decide) sa ra W ha
  obtain ⟨aa, na, ca, rfl⟩ := ha.shp
  have HA := Aside0.mk ha
  clear ha
  go_enter Try.func7, Try.ntmps7
  go_upto_region 3 with (first
    | (go_at_call 26; refine hla.mono ?_; rintro e w' ⟨ta, rfl, hta, hwq⟩; subst w'; have HTA := Aside0.mk hta; clear hta hla; cases ta)
    | (go_at_call 25; refine (awake25_ok _).mono ?_; rintro e w' ⟨rfl, hbw⟩))
  · refine bodyPost_ret (results_tmp rfl _ _ _) rfl ?_
    exact ⟨rfl, hbw⟩
  obtain ⟨la1, la2⟩ := HTA.out trivial
  have LA := Aside0.mk (HA.out.lst la2)
  have LN := Aside0.mk la1
  have hnl : na = ra.length := lst_len LA.out
  have HNL := Aside0.mk hnl
  have hn60 : na ≤ 60 := by omega
  clear HA HTA la2 la1 hnl
  go_wp2
  go_loopw [3, 4] (fun v3 v4 wr => ∃ (i nw : Nat) (a3 : Option Addr) (c3 : Nat) (rs : List RV), i ≤ na ∧ nw ≤ i ∧ v4 = .int .i64 i ∧ v3 = .slice a3 nw c3 ∧ Aside0 (WL W wr (.slice a3 nw c3) rs (ddL (ra.take i)) ∧ rs.length = nw)) (fun _ v4 _ => na - (intOf v4).toNat)
  case atStart => exact ⟨0, 0, none, 0, [], Nat.zero_le _, Nat.le_refl _, rfl, rfl, ⟨⟨World.ownsRow_nil _ _ _ _, trivial, Below.refl _ _⟩, rfl⟩⟩
  case round =>
    obtain ⟨i, nw, a3, c3, rs, hin, hnw, rfl, rfl, HW⟩ := hrel
    by_cases hlt : i < na
    · have hd1 : decide ((i : Int) < (na : Int)) = true := by simpa using hlt
      have hd2 : decide (i < na) = true := by simpa using hlt
      obtain ⟨b, off, q, row, hae, hb, hq, hrow, hcq, hqn⟩ := lst_at LA.out hlt
      subst hae
      have hq2 := (cell_of_block (HW.out.1.bel.block b hb) _).trans hq
      have HQ := Aside0.mk (And.intro hrow (And.intro hcq hqn))
      have HRw := Aside0.mk hq
      have hwl : (ddL (ra.take i)).length = nw := by rw [← HW.out.1.all.len]; exact HW.out.2
      have HWl := Aside0.mk hwl
      obtain ⟨want, hwant⟩ : ∃ want, ddL (ra.take i) = want := ⟨_, rfl⟩
      have HWa := Aside0.mk hwant
      rw [hwant] at HW HWl
      clear hwant hwl hrow hcq hqn hq hb
      obtain ⟨qa, qn, qc⟩ := q
      dsimp only [RV.v] at hq2
      go_wp2
      go_loopw [5, 6] (fun v5 v6 w2 => ∃ (k : Nat) (t : Bool), k ≤ nw ∧ v6 = .int .i64 k ∧ v5 = .bool t ∧ Aside0 (Below wr.heap.size wr w2) ∧ Aside0 (t = (want.take k).any fun x => eqRow x row)) (fun _ v6 _ => nw - (intOf v6).toNat)
      case atStart => exact ⟨0, false, Nat.zero_le _, rfl, rfl, ⟨Below.refl _ _⟩, ⟨rfl⟩⟩
      case round =>
        obtain ⟨k, t, hk, rfl, rfl, HB, HT⟩ := hrel
        by_cases hkl : k < nw
        · have hd3 : decide ((k : Int) < (nw : Int)) = true := by simpa using hkl
          have hd4 : decide (k < nw) = true := by simpa using hkl
          obtain ⟨g, p, prow, hge, hg, hp, hprow, hcp, hpn⟩ := wl_at HW.out.1 HW.out.2 hkl
          subst hge
          have hp2 := (cell_of_block (HB.out.block g hg) _).trans hp
          have hq3 := (cell_of_block (HB.out.block b (cell_lt hq2)) _).trans hq2
          have HP := Aside0.mk (And.intro hprow (And.intro hcp hpn))
          have HTs := Aside0.mk (any_take_succ (r := row) hprow)
          clear hg hp hprow hcp hpn
          obtain ⟨pa, pn, pc⟩ := p
          dsimp only [RV.v] at hp2
          cases t with
          | true =>
            go_wp2
            go_quiet (fail)
            go_wp2
            go_roundw
            case rel => exact ⟨k + 1, true, hkl, by simp, rfl, ⟨below_drewN HB.out _⟩, ⟨by rw [HTs.out, ← HT.out]; rfl⟩⟩
            case measure => simp [intOf] <;> omega
          | false =>
            go_upto_region 11 with fail
            have HCC := Aside0.mk (fun (w : World) (h : Below wr.heap.size wr w) => And.intro (HP.out.2.1.below (below_step (below_step HW.out.1.bel HB.out HW.out.1.bel.size) h (below_step HW.out.1.bel HB.out HW.out.1.bel.size).size)) (HQ.out.2.1.below (below_step (below_step HW.out.1.bel HB.out HW.out.1.bel.size) h (below_step HW.out.1.bel HB.out HW.out.1.bel.size).size)))
            go_region_held3 (fun w' => w'.cell? ⟨g, k, none⟩ = some (.slice pa pn pc) ∧ w'.cell? ⟨b, off + i, none⟩ = some (.slice qa qn qc) ∧ Aside0 (Below wr.heap.size wr w'))
              (first | exact held2x hp2 hq3 (Still.drew wr).below | exact held2x hp2 hq3 HB4.out | fail)
              (first | (go_at_call 27; refine (same_ok ⟨pa, pn, pc⟩ ⟨qa, qn, qc⟩ prow row _ (HCC.out _ (Still.drew wr).below).1 (HCC.out _ (Still.drew wr).below).2 (by have := HP.out.2.2; dsimp only at this ⊢; omega)).mono ?_; rintro e w4 ⟨rfl, hs4⟩; have HB4 := Aside0.mk (below_step (Still.drew wr).below hs4.below (Nat.le_refl _)); clear hs4))
            obtain ⟨t2, ht2⟩ : ∃ t2, eqRow prow row = t2 := ⟨_, rfl⟩
            rw [ht2]
            have HT2 := Aside0.mk (show t2 = (want.take (k + 1)).any fun x => eqRow x row from by rw [HTs.out, ← HT.out, ht2]; rfl)
            clear ht2
            go_wp2
            go_roundw
            case rel => exact ⟨k + 1, t2, hkl, by simp, rfl, ⟨below_step HB.out HB4.out HB.out.size⟩, HT2⟩
            case measure => simp [intOf] <;> omega
        · obtain rfl : k = nw := by omega
          have HT3 := Aside0.mk (show t = want.any fun x => eqRow x row from by rw [HT.out, List.take_of_length_le (by rw [HWl.out]; exact Nat.le_refl _)])
          have HS := Aside0.mk (show ddL (ra.take (i + 1)) = ddS want row from by rw [ddL_succ HQ.out.1, HWa.out])
          have hq3 := (cell_of_block (HB.out.block b (cell_lt hq2)) _).trans hq2
          have HW2 := Aside0.mk (HW.out.1.below HB.out)
          cases t with
          | true =>
            have HS2 := Aside0.mk (show ddL (ra.take (i + 1)) = want from by rw [HS.out]; unfold ddS; rw [← HT3.out]; rfl)
            go_wp2
            go_roundw
            case rel => exact ⟨i + 1, k, a3, c3, rs, hlt, by omega, by simp, rfl, ⟨by rw [HS2.out]; exact ⟨HW2.out, HW.out.2⟩⟩⟩
            case measure => simp [intOf] <;> omega
          | false =>
            have HS2 := Aside0.mk (show ddL (ra.take (i + 1)) = want ++ [row] from by rw [HS.out]; unfold ddS; rw [← HT3.out]; rfl)
            have HOw := Aside0.mk (show wr.ownsRow W.heap.size 48 1 (.slice a3 k c3) k (rs.map RV.v) from by have := HW2.out.own; rw [HW.out.2] at this; exact this)
            have hWs := HW2.out.bel.size
            go_wp2_with (first
              | (at_builtin; refine wpList_append_lies _ rfl _ _ 22 rfl W.heap.size 48 i0 (.slice none 0 0) 1 24 Try.underlying22 hi hz0 hz1 hz2 rfl (by decide) (.slice a3 k c3) k (rs.map RV.v) rfl (HOw.out.alloc _) ⟨_, 0, none⟩ 1 1 [.slice qa qn qc] rfl rfl (cell_one_new _ _ _) (by simp [Value.oneCell']) (by decide) (by unfold maxLen; omega) (by omega) (by rw [World.size_alloc]; omega) _ rfl ?_; intro g9 cap9 w9 ho9 hgr9 hat9 hlt9)
              | fail)
            have HW9 : Aside0 (WL W w9 (.slice (some ⟨g9, 0, none⟩) (k + 1) cap9) (rs ++ [⟨qa, qn, qc⟩]) (want ++ [row])) := ⟨by
              have hl1 : (rs ++ [(⟨qa, qn, qc⟩ : RV)]).length = k + 1 := by rw [List.length_append, HW.out.2]; rfl
              refine ⟨?_, All2.snoc ⟨HQ.out.2.1, HQ.out.2.2⟩ HW2.out.all, ?_⟩
              · rw [hl1, List.map_append]
                exact ho9
              · exact (HW2.out.bel.alloc hWs _).grown hgr9 (by rw [World.size_alloc]; omega) (fun j hj => (own_ge HOw.out j hj).1)⟩
            clear ho9 hgr9 hat9 hlt9
            go_roundw
            case rel => exact ⟨i + 1, k + 1, some ⟨g9, 0, none⟩, cap9, rs ++ [⟨qa, qn, qc⟩], hlt, by omega, by simp, by simp, ⟨by rw [HS2.out]; exact ⟨HW9.out, by rw [List.length_append, HW.out.2]; rfl⟩⟩⟩
            case measure => simp [intOf] <;> omega
    · obtain rfl : i = na := by omega
      have HWf := Aside0.mk (show WL W wr (.slice a3 nw c3) rs (ddL ra) from by have := HW.out.1; rw [HNL.out, List.take_length] at this; exact this)
      have hd1 : decide ((i : Int) < (i : Int)) = false := by simp
      have h1 := list_n aa i ca ra wr (LA.out.below HWf.out.bel) (by have := LN.out; omega)
      have hw0 := HWf.out.bel.size
      clear HW
      go_upto_region 15 with (first
        | (go_at_call 18; refine h1.mono ?_; rintro e w1 ⟨p1, R1, rfl, s1, o1, b1, i1, e1⟩; have H1 := Aside0.mk (And.intro s1 (And.intro o1 (And.intro b1 i1))); clear s1 o1 b1 i1 e1 h1)
        | (go_at_call 28; refine (dist_make _ H1.out.2.2.2.fv w1).mono ?_; rintro e w2 ⟨rfl, e2⟩; (have b2 : Below w1.heap.size w1 w2 := (by rw [e2]; exact (Below.refl _ w1).alloc (Nat.le_refl _) _)); (have i2 := dist_c w1.heap.size _ p1 R1 w2 (by rw [e2]; simp) (by rw [e2]; exact (Boxed.new w1 31 _).cell) (H1.out.2.2.2.below b2) (by have := congrArg List.length H1.out.1; rw [List.length_map] at this; have := LN.out; omega)); have H2 := Aside0.mk (And.intro b2 (callsIn_wide.1 (collect_c 3 (Nat.le_refl _) _ _ _ w2 i2 (by have := distL_len p1 []; have := congrArg List.length H1.out.1; rw [List.length_map] at this; have := LN.out; omega)))); clear b2 i2 e2)
        | (go_at_call 19; refine H2.out.2.mono ?_; rintro e w3 ⟨b3, ⟨_, sv, rfl, _, hown⟩ | ⟨hx, _⟩⟩; rotate_left; exact absurd (errOf_zero _ (dist_zero p1 [] H1.out.2.1)) hx)
        | fail)
      have hdd : (distL [] p1).map Prod.snd = ddL ra := by
        have := dist_dd p1 [] H1.out.2.1
        rw [H1.out.1, List.nil_append] at this
        exact this
      rw [hdd] at hown
      have hb3 : Below wr.heap.size wr w3 := below_step (below_step H1.out.2.2.1 H2.out.1 H1.out.2.2.1.size) b3 (below_step H1.out.2.2.1 H2.out.1 H1.out.2.2.1.size).size
      have HSame := sameRows_ok sv (.slice a3 nw c3) (ddL ra) (ddL ra) w3 hown.own ((HWf.out.below hb3).own1) (by
        have h5 : (ddL ra).length ≤ 60 := by
          have h6 := distL_len p1 []
          have h7 := congrArg List.length hdd
          have h8 := congrArg List.length H1.out.1
          rw [List.length_map] at h7 h8
          have := LN.out
          omega
        omega)
      rw [eqRows_refl] at HSame
      have HB3 := Aside0.mk (below_step HWf.out.bel hb3 HWf.out.bel.size)
      clear hdd hown hb3 b3
      go_wp2_with (first
        | (go_at_call 15; refine HSame.mono ?_; rintro e w4 ⟨rfl, hs4⟩; have HB4 := Aside0.mk (below_step HB3.out hs4.below HB3.out.size); clear hs4)
        | (go_at_call 25; refine (awake25_ok _).mono ?_; rintro e w5 ⟨rfl, hb5⟩)
        | fail)
      refine bodyPost_ret (results_tmp rfl _ _ _) rfl ?_
      exact ⟨rfl, below_step HB4.out hb5 HB4.out.size⟩
end Go.Proofs.Ytghpjlohoehdnaa.Sep

/-! The reference's comparison, walked. No condition beyond those that each theorem names. -/
namespace Go.Proofs.Ytghpjlohoehdnaa.Sep
open Go Go.RowKit Go.Shelf
set_option linter.unusedVariables false
set_option linter.unusedSimpArgs false
theorem keep_cell' {w w' : World} {a : Addr} {v : Value} (h : w.cell? a = some v) (hb : Below w.heap.size w w') : w'.cell? a = some v := (cell_of_block' (hb.block a.block (cell_lt h))).trans h
theorem res78 (N : Nat) (W : World) (v : V3) (tmps : Array Value) (h4 : tmps.getD 4 undef = .pointer (some ⟨N, 0, none⟩)) (hb : W.heap[N]? = some (vO v)) :
    (results Try.f78 tmps).run Try.prog W = .ok (.agg #[.int .i64 v.k, .int .i64 v.n, .string v.s]) W := by
  have hr : Try.f78.results = #[.cell 4 45] := rfl
  have x0 : W.cell? ⟨N, 0, none⟩ = some (.int .i64 v.k) := by unfold World.cell?; simp only [hb]; rfl
  have x1 : W.cell? ⟨N, 1, none⟩ = some (.int .i64 v.n) := by unfold World.cell?; simp only [hb]; rfl
  have x2 : W.cell? ⟨N, 2, none⟩ = some (.string v.s) := by unfold World.cell?; simp only [hb]; rfl
  have u := Try.underlying45
  simp only [results, hr]
  rw [Array.getD_eq_getD_getElem?] at h4
  simp [Sem.run_bind, Result.andThen, h4]
  go_simp
set_option maxRecDepth 100000 in
set_option maxHeartbeats 2000000 in
theorem atx_ok (ra : Option Addr) (rn rc : Nat) (row : List V3) (c : Int) (W : World) (h : Cont W ⟨ra, rn, rc⟩ row) (hn : rn ≤ 1000) :
    Calls Try.prog 78 #[.slice ra rn rc, .int .i64 c] W fun e W' => e = .returned (.agg #[.int .i64 (atR row c).k, .int .i64 (atR row c).n, .string (atR row c).s]) ∧ Below W.heap.size W W' := by
  have hl : row.length = rn := h.len
  unfold atR
  rw [hl]
  by_cases h1 : c < 0
  · rw [if_pos h1]
    have hd : decide (c < 0) = true := by simpa using h1
    clear h hl
    go_enter Try.func78, Try.ntmps78
    go_wp2
    refine bodyPost_ret (res78 W.heap.size _ zV _ rfl (World.alloc_heap_new W _)) rfl ?_
    exact ⟨rfl, below_new _⟩
  · rw [if_neg h1]
    have hd : decide (c < 0) = false := by simpa using h1
    by_cases h2 : (rn : Int) ≤ c
    · rw [if_pos h2]
      have hd2 : decide ((rn : Int) ≤ c) = true := by simpa using h2
      clear h hl
      go_enter Try.func78, Try.ntmps78
      go_wp2
      refine bodyPost_ret (res78 W.heap.size _ zV _ rfl (World.alloc_heap_new W _)) rfl ?_
      exact ⟨rfl, below_new _⟩
    · rw [if_neg h2]
      have hd2 : decide ((rn : Int) ≤ c) = false := by simpa using h2
      obtain ⟨k, rfl⟩ := Int.eq_ofNat_of_zero_le (show 0 ≤ c by omega)
      have hk : k < rn := by omega
      rw [Int.toNat_natCast]
      obtain ⟨v, hv⟩ : ∃ v, row[k]? = some v := ⟨row[k]'(by omega), List.getElem?_eq_getElem _⟩
      have hg : row.getD k zV = v := by rw [List.getD_eq_getElem?_getD, hv]; rfl
      rw [hg]
      rcases h with ⟨h, _⟩ | ⟨b, off, hae, _, hblt, hcs⟩
      · have : rn = 0 := h
        omega
      · replace hae : ra = some ⟨b, off, none⟩ := hae
        subst hae
        obtain ⟨f1, f2, f3⟩ := flat_at row k v hv
        have hc : ∀ (o : Obj) (a : Addr), a.block = b → (W.alloc o).cell? a = W.cell? a := fun o a ha => cell_of_block' (by rw [ha]; exact Below.heap_alloc W o b hblt)
        have x1 := fun o => (hc o ⟨b, _, none⟩ rfl).trans (hcs _ _ f1)
        have x2 := fun o => (hc o ⟨b, _, none⟩ rfl).trans (hcs _ _ f2)
        have x3 := fun o => (hc o ⟨b, _, none⟩ rfl).trans (hcs _ _ f3)
        rw [Nat.mul_comm 3 k] at x1 x2 x3
        simp only [← Nat.add_assoc] at x2 x3
        clear hv f1 f2 f3 hcs hc hg hl h1 h2
        go_enter Try.func78, Try.ntmps78
        go_wp2
        refine bodyPost_ret (res78 W.heap.size _ v _ rfl (World.alloc_heap_new W _)) rfl ?_
        exact ⟨rfl, below_new _⟩
theorem less_bytes : ∀ x y : List UInt8, Op.bytesLess x y = decide (Lib.compareBytes x y = -1)
  | [], [] => by simp [Op.bytesLess, Lib.compareBytes]
  | _ :: _, [] => by simp [Op.bytesLess, Lib.compareBytes]
  | [], _ :: _ => by simp [Op.bytesLess, Lib.compareBytes]
  | a :: x, b :: y => by
    rw [Op.bytesLess, Lib.compareBytes, less_bytes x y]
    by_cases h : a < b
    · simp [h]
    · by_cases h2 : b < a
      · have hne : a ≠ b := by rintro rfl; exact UInt8.lt_irrefl _ h2
        simp [h, h2, hne]
      · have he : a = b := UInt8.le_antisymm (UInt8.not_lt.1 h2) (UInt8.not_lt.1 h)
        simp [h, h2, he]
/-- the reference's less -/
def lessV (u v : V3) : Bool := if u.k ≠ v.k then decide (u.k < v.k) else if u.n ≠ v.n then decide (u.n < v.n) else decide (cmpB u.s v.s = -1)
set_option maxRecDepth 100000 in
set_option maxHeartbeats 4000000 in
theorem lessV_ok (u v : V3) (W : World) : Calls Try.prog 87 #[.agg #[.int .i64 u.k, .int .i64 u.n, .string u.s], .agg #[.int .i64 v.k, .int .i64 v.n, .string v.s]] W fun e W' => e = .returned (.bool (lessV u v)) ∧ Below W.heap.size W W' := by
  have hmx : Try.prog.follows .mixedOrders = true := by kernel_rfl
  have bA := (VBox.new W u).below (below_new (vO v))
  have bB := VBox.new (W.alloc (vO u)) v
  rw [World.size_alloc] at bB
  have hb2 : Below W.heap.size W ((W.alloc (vO u)).alloc (vO v)) := (below_new (W := W) (vO u)).alloc (below_new (W := W) (vO u)).size _
  by_cases h1 : u.k = v.k
  · have e1 : (u.k != v.k) = false := by simpa using h1
    by_cases h2 : u.n = v.n
    · have e2 : (u.n != v.n) = false := by simpa using h2
      have hL : lessV u v = decide (cmpB u.s v.s = -1) := by unfold lessV; rw [if_neg (by simpa using h1), if_neg (by simpa using h2)]
      rw [hL]
      clear h1 h2 hL
      go_enter Try.func87, Try.ntmps87
      go_upto_region 1 with fail
      change Code.wp _ _ _ _ ((W.alloc (vO u)).alloc (vO v))
      generalize (W.alloc (vO u)).alloc (vO v) = W2 at bA bB hb2 ⊢
      obtain ⟨a0, a1, a2⟩ := bA
      obtain ⟨b0, b1, b2⟩ := bB
      go_wp2
      refine bodyPost_ret (results_tmp rfl _ _ _) rfl ?_
      refine ⟨?_, hb2⟩
      show Ending.returned (.bool (Op.bytesLess u.s.toList v.s.toList)) = _
      rw [less_bytes, Lib.toList_data, Lib.toList_data]
      rfl
    · have e2 : (u.n != v.n) = true := by simpa using h2
      have hL : lessV u v = decide (u.n < v.n) := by unfold lessV; rw [if_neg (by simpa using h1), if_pos h2]
      rw [hL]
      clear h1 h2 hL
      go_enter Try.func87, Try.ntmps87
      go_upto_region 1 with fail
      change Code.wp _ _ _ _ ((W.alloc (vO u)).alloc (vO v))
      generalize (W.alloc (vO u)).alloc (vO v) = W2 at bA bB hb2 ⊢
      obtain ⟨a0, a1, a2⟩ := bA
      obtain ⟨b0, b1, b2⟩ := bB
      go_wp2
      go_ret
      exact ⟨rfl, hb2⟩
  · have e1 : (u.k != v.k) = true := by simpa using h1
    have hL : lessV u v = decide (u.k < v.k) := by unfold lessV; rw [if_pos h1]
    rw [hL]
    clear h1 hL
    go_enter Try.func87, Try.ntmps87
    go_upto_region 1 with fail
    change Code.wp _ _ _ _ ((W.alloc (vO u)).alloc (vO v))
    generalize (W.alloc (vO u)).alloc (vO v) = W2 at bA bB hb2 ⊢
    obtain ⟨a0, a1, a2⟩ := bA
    obtain ⟨b0, b1, b2⟩ := bB
    go_wp2
    go_ret
    exact ⟨rfl, hb2⟩
theorem less_cmp (u v : V3) : cmpV u v = if lessV u v then -1 else if lessV v u then 1 else 0 := by
  have hb := bytes_anti u.s.data.toList v.s.data.toList
  have hr := bytes_rng u.s.data.toList v.s.data.toList
  unfold cmpV or3 lessV cmpI cmpB
  by_cases h1 : u.k = v.k
  · by_cases h2 : u.n = v.n
    · rw [if_neg (by simp [h1]), if_neg (by simp [h2])]
      simp only [h1, h2, ne_eq, not_true_eq_false, if_false]
      rcases hr with h | h | h <;> simp [h, hb]
    · have h3 := Ne.symm h2
      simp only [h1, ne_eq, not_true_eq_false, if_false, h2, h3, not_false_eq_true, if_true, Int.lt_irrefl]
      by_cases h4 : u.n < v.n
      · simp [h4]
      · have h5 : v.n < u.n := by omega
        simp [h4, h5]
  · have h3 := Ne.symm h1
    simp only [h1, h3, ne_eq, not_false_eq_true, if_true]
    by_cases h4 : u.k < v.k
    · simp [h4]
    · have h5 : v.k < u.k := by omega
      simp [h4, h5]
set_option maxRecDepth 100000 in
set_option maxHeartbeats 4000000 in
theorem cmpX_ok (u v : V3) (W : World) : Calls Try.prog 77 #[.agg #[.int .i64 u.k, .int .i64 u.n, .string u.s], .agg #[.int .i64 v.k, .int .i64 v.n, .string v.s]] W fun e W' => e = .returned (.int .i64 (cmpV u v)) ∧ Below W.heap.size W W' := by
  have hmx : Try.prog.follows .mixedOrders = true := by kernel_rfl
  have bA := (VBox.new W u).below (below_new (vO v))
  have bB := VBox.new (W.alloc (vO u)) v
  rw [World.size_alloc] at bB
  have hb2 : Below W.heap.size W ((W.alloc (vO u)).alloc (vO v)) := (below_new (W := W) (vO u)).alloc (below_new (W := W) (vO u)).size _
  have hL := less_cmp u v
  go_enter Try.func77, Try.ntmps77
  go_upto_region 1 with fail
  change Code.wp _ _ _ _ ((W.alloc (vO u)).alloc (vO v))
  generalize (W.alloc (vO u)).alloc (vO v) = W2 at bA bB hb2 ⊢
  have HA := Aside0.mk (And.intro bA (And.intro bB hb2))
  clear bA bB hb2
  have hbA := HA.out.1
  have hbB := HA.out.2.1
  obtain ⟨a0, a1, a2⟩ := hbA
  obtain ⟨b0, b1, b2⟩ := hbB
  cases hl : lessV u v with
  | true =>
    rw [hl, if_pos rfl] at hL
    have HL := Aside0.mk hL
    clear hL
    go_wp2_with (go_at_call 87; refine (lessV_ok _ _ _).mono ?_; rw [hl]; rintro e w' ⟨rfl, hb3⟩; have HB := Aside0.mk (below_step HA.out.2.2 hb3 HA.out.2.2.size); clear hb3)
    refine bodyPost_ret (results_tmp rfl _ _ _) rfl ?_
    exact ⟨by rw [HL.out]; rfl, HB.out⟩
  | false =>
    rw [hl, if_neg (by decide)] at hL
    go_upto_region 3 with (go_at_call 87; refine (lessV_ok _ _ _).mono ?_; rw [hl]; rintro e w' ⟨rfl, hb3⟩; have HB := Aside0.mk (below_step HA.out.2.2 hb3 HA.out.2.2.size); replace a0 := keep_cell' a0 hb3; replace a1 := keep_cell' a1 hb3; replace a2 := keep_cell' a2 hb3; replace b0 := keep_cell' b0 hb3; replace b1 := keep_cell' b1 hb3; replace b2 := keep_cell' b2 hb3; clear hb3)
    cases hl2 : lessV v u with
    | true =>
      rw [hl2, if_pos rfl] at hL
      have HL := Aside0.mk hL
      clear hL hl
      go_wp2_with (go_at_call 87; refine (lessV_ok _ _ _).mono ?_; rw [hl2]; rintro e w4 ⟨rfl, hb3⟩; have HB := Aside0.mk (below_step HB.out hb3 HB.out.size); clear hb3)
      refine bodyPost_ret (results_tmp rfl _ _ _) rfl ?_
      exact ⟨by rw [HL.out]; rfl, HB.out⟩
    | false =>
      rw [hl2, if_neg (by decide)] at hL
      have HL := Aside0.mk hL
      clear hL hl
      go_wp2_with (go_at_call 87; refine (lessV_ok _ _ _).mono ?_; rw [hl2]; rintro e w4 ⟨rfl, hb3⟩; have HB := Aside0.mk (below_step HB.out hb3 HB.out.size); clear hb3)
      refine bodyPost_ret (results_tmp rfl _ _ _) rfl ?_
      exact ⟨by rw [HL.out]; rfl, HB.out⟩
end Go.Proofs.Ytghpjlohoehdnaa.Sep

/-! The reference's CompareRows, walked. No condition beyond those that each theorem names. -/
namespace Go.Proofs.Ytghpjlohoehdnaa.Sep
open Go Go.RowKit Go.Shelf
set_option linter.unusedVariables false
set_option linter.unusedSimpArgs false
theorem cmpV_rng (u v : V3) : cmpV u v = -1 ∨ cmpV u v = 0 ∨ cmpV u v = 1 := by
  rw [less_cmp]
  split
  · exact .inl rfl
  · split
    · exact .inr (.inr rfl)
    · exact .inr (.inl rfl)
theorem held2y {W3 w : World} {a0 a1 : Addr} {u0 u1 : Value} (h0 : W3.cell? a0 = some u0) (h1 : W3.cell? a1 = some u1) (h : Below W3.heap.size W3 w) : w.cell? a0 = some u0 ∧ w.cell? a1 = some u1 ∧ Aside0 (Below W3.heap.size W3 w) :=
  ⟨keep_cell' h0 h, keep_cell' h1 h, ⟨h⟩⟩
set_option maxHeartbeats 1000000 in
theorem cmpX_nil (aa ab ao : Option Addr) (na ca nb cb co : Nat) (W : World) :
    Calls Try.prog 58 #[.slice aa na ca, .slice ab nb cb, .slice ao 0 co] W fun e W' => e = .returned (.int .i64 0) ∧ Below W.heap.size W W' := by
  go_enter Try.func58, Try.ntmps58
  go_wp2
  go_loopw [7] (fun i wr => i = .int .i64 0 ∧ wr = W) (fun _ _ => 0)
  case atStart => exact ⟨rfl, rfl⟩
  case round =>
    obtain ⟨rfl, rfl⟩ := hrel
    go_wp2
    refine bodyPost_ret (results_tmp rfl _ _ _) rfl ?_
    exact ⟨rfl, Below.refl _ _⟩
set_option maxRecDepth 100000 in
set_option maxHeartbeats 8000000 in
theorem cmpX_some (aa ab : Option Addr) (na ca nb cb b off co : Nat) (ra rb : List V3) (by_ : Order) (W : World) (ha : Cont W ⟨aa, na, ca⟩ ra) (hb : Cont W ⟨ab, nb, cb⟩ rb) (hna : na ≤ 1000) (hnb : nb ≤ 1000) (hby : by_.length ≤ 1000)
    (hbl : b < W.heap.size) (ho : ∀ j p, by_[j]? = some p → W.cell? ⟨b, off + j * 2, none⟩ = some (.int .i64 p.1) ∧ W.cell? ⟨b, off + j * 2 + 1, none⟩ = some (.bool p.2)) :
    Calls Try.prog 58 #[.slice aa na ca, .slice ab nb cb, .slice (some ⟨b, off, none⟩) by_.length co] W fun e W' => e = .returned (.int .i64 (cmpR ra rb by_)) ∧ Below W.heap.size W W' := by
  have hmx : Try.prog.follows .mixedOrders = true := by kernel_rfl
  have HA := Aside0.mk (And.intro ha hb)
  have HO := Aside0.mk ho
  clear ha hb ho
  go_enter Try.func58, Try.ntmps58
  go_wp2
  go_loopw [7] (fun i wr => ∃ j : Nat, j ≤ by_.length ∧ i = .int .i64 j ∧ Aside0 (Below W.heap.size W wr) ∧ Aside0 (cmpR ra rb by_ = cmpR ra rb (by_.drop j))) (fun i _ => by_.length - (intOf i).toNat)
  case atStart => exact ⟨0, Nat.zero_le _, rfl, ⟨Below.refl _ _⟩, ⟨rfl⟩⟩
  case round =>
    obtain ⟨j, hj, rfl, HB, HE⟩ := hrel
    by_cases hlt : j < by_.length
    · obtain ⟨p, hp⟩ : ∃ p, by_[j]? = some p := ⟨by_[j], List.getElem?_eq_getElem hlt⟩
      have hd : by_.drop j = p :: by_.drop (j + 1) := by rw [List.drop_eq_getElem_cons hlt]; congr 1; exact Option.some.inj ((List.getElem?_eq_getElem hlt).symm.trans hp)
      obtain ⟨x0, x1⟩ := HO.out j p hp
      replace x0 := (cell_of_block (HB.out.block b hbl) _).trans x0
      replace x1 := (cell_of_block (HB.out.block b hbl) _).trans x1
      have HN := Aside0.mk (show cmpR ra rb by_ = if oneR ra rb p = 0 then cmpR ra rb (by_.drop (j + 1)) else if p.2 then wrap64 (-oneR ra rb p) else oneR ra rb p from by rw [HE.out, hd, cmpR])
      obtain ⟨pc, pd⟩ := p
      dsimp only at x0 x1
      have hdec : decide (j < by_.length) = true := decide_eq_true hlt
      clear hd hp
      go_upto_region 4 with fail
      have HY := Aside0.mk (And.intro x0 x1)
      have HC := Aside0.mk (fun (w : World) (k : Below wr.heap.size wr w) => And.intro (HA.out.1.below (below_step HB.out k HB.out.size)) (HA.out.2.below (below_step HB.out k HB.out.size)))
      clear x0 x1
      go_region_held3 (fun w' => w'.cell? ⟨b, off + j * 2, none⟩ = some (.int .i64 pc) ∧ w'.cell? ⟨b, off + j * 2 + 1, none⟩ = some (.bool pd) ∧ Aside0 (Below wr.heap.size wr w'))
        (first | assumption | exact held2y HY.out.1 HY.out.2 (Still.drew wr).below | exact held2y HY.out.1 HY.out.2 HB3.out | exact held2y HY.out.1 HY.out.2 HB4.out | exact held2y HY.out.1 HY.out.2 HB5.out | fail)
        (first
          | (go_at_call_of 78 (Value.slice aa na ca); refine (atx_ok aa na ca ra pc _ (HC.out _ (Still.drew wr).below).1 hna).mono ?_; rintro e w3 ⟨rfl, hb3⟩; have HB3 := Aside0.mk (below_step (Still.drew wr).below hb3 (Nat.le_refl _)); clear hb3)
          | (go_at_call_of 78 (Value.slice ab nb cb); refine (atx_ok ab nb cb rb pc _ (HC.out _ HB3.out).2 hnb).mono ?_; rintro e w4 ⟨rfl, hb4⟩; have HB4 := Aside0.mk (below_step HB3.out hb4 HB3.out.size); clear hb4)
          | (go_at_call 77; refine (cmpX_ok (atR ra pc) (atR rb pc) _).mono ?_; rintro e w5 ⟨rfl, hb5⟩; have HB5 := Aside0.mk (below_step HB4.out hb5 HB4.out.size); clear hb5))
      have HN2 := Aside0.mk (show cmpR ra rb by_ = if cmpV (atR ra pc) (atR rb pc) = 0 then cmpR ra rb (by_.drop (j + 1)) else if pd then wrap64 (-cmpV (atR ra pc) (atR rb pc)) else cmpV (atR ra pc) (atR rb pc) from HN.out)
      have HBF := Aside0.mk (below_step HB.out HB5.out HB.out.size)
      have c1 := keep_cell' HY.out.2 HB5.out
      have hrg := cmpV_rng (atR ra pc) (atR rb pc)
      obtain ⟨cv, hcv⟩ : ∃ cv, cmpV (atR ra pc) (atR rb pc) = cv := ⟨_, rfl⟩
      rw [hcv] at HN2 hrg ⊢
      clear hcv HN
      by_cases hz : cv = 0
      · subst hz
        clear hrg
        cases pd with
        | true =>
          go_wp2
          go_roundw
          case rel => exact ⟨j + 1, by omega, by simp, HBF, ⟨HN2.out.trans (if_pos rfl)⟩⟩
          case measure => simp [intOf]; omega
        | false =>
          go_wp2
          go_roundw
          case rel => exact ⟨j + 1, by omega, by simp, HBF, ⟨HN2.out.trans (if_pos rfl)⟩⟩
          case measure => simp [intOf]; omega
      · have HN3 := Aside0.mk (HN2.out.trans (if_neg hz))
        clear HN2
        obtain rfl | rfl : cv = -1 ∨ cv = 1 := by omega
        · clear hrg hz
          cases pd with
          | true =>
            have HN4 := Aside0.mk (show cmpR ra rb by_ = 1 from HN3.out.trans (by decide +kernel))
            clear HN3
            go_wp2
            refine bodyPost_ret (results_tmp rfl _ _ _) rfl ?_
            exact ⟨by rw [HN4.out]; rfl, HBF.out⟩
          | false =>
            go_wp2
            refine bodyPost_ret (results_tmp rfl _ _ _) rfl ?_
            exact ⟨by rw [HN3.out]; rfl, HBF.out⟩
        · clear hrg hz
          cases pd with
          | true =>
            have HN4 := Aside0.mk (show cmpR ra rb by_ = -1 from HN3.out.trans (by decide +kernel))
            clear HN3
            go_wp2
            refine bodyPost_ret (results_tmp rfl _ _ _) rfl ?_
            exact ⟨by rw [HN4.out]; rfl, HBF.out⟩
          | false =>
            go_wp2
            refine bodyPost_ret (results_tmp rfl _ _ _) rfl ?_
            exact ⟨by rw [HN3.out]; rfl, HBF.out⟩
    · obtain rfl : j = by_.length := by omega
      have HF := Aside0.mk (show cmpR ra rb by_ = 0 from by rw [HE.out, List.drop_length]; rfl)
      go_wp2
      refine bodyPost_ret (results_tmp rfl _ _ _) rfl ?_
      exact ⟨by rw [HF.out]; rfl, HB.out⟩
/-- THE REFERENCE's COMPAREROWS. -/
theorem cmpX_rows (aa ab : Option Addr) (na ca nb cb : Nat) (so : Value) (ra rb : List V3) (by_ : Order) (W : World) (ha : Cont W ⟨aa, na, ca⟩ ra) (hb : Cont W ⟨ab, nb, cb⟩ rb) (hna : na ≤ 1000) (hnb : nb ≤ 1000) (hby : by_.length ≤ 1000) (ho : Ord W so by_) :
    Calls Try.prog 58 #[.slice aa na ca, .slice ab nb cb, so] W fun e W' => e = .returned (.int .i64 (cmpR ra rb by_)) ∧ Below W.heap.size W W' := by
  rcases ho with ⟨a, c, rfl, rfl⟩ | ⟨b, off, c, rfl, h1, h2⟩
  · exact cmpX_nil aa ab a na ca nb cb c W
  · exact cmpX_some aa ab na ca nb cb b off c ra rb by_ W ha hb hna hnb hby h1 h2
end Go.Proofs.Ytghpjlohoehdnaa.Sep

/-! The law's own sort, walked. No condition beyond those that each theorem names. -/
namespace Go.Proofs.Ytghpjlohoehdnaa.Sep
open Go Go.RowKit Go.Shelf
set_option linter.unusedVariables false
set_option linter.unusedSimpArgs false
theorem insD_past {α : Type} (f : α → α → Int) (x : α) : ∀ (p q : List α), (∀ y ∈ p, f x y < 0) → insD f x (p ++ q) = p ++ insD f x q
  | [], q, _ => rfl
  | y :: p, q, h => by
    rw [List.cons_append, insD, if_pos (h y (List.mem_cons_self ..)), insD_past f x p q (fun z hz => h z (List.mem_cons_of_mem _ hz)), List.cons_append]
theorem ins_cut {α : Type} (f : α → α → Int) (x : α) (out : List α) (n : Nat) (hn : n ≤ out.length) (hgt : ∀ y ∈ out.drop n, f x y < 0) (hle : n = 0 ∨ ∃ y, out[n - 1]? = some y ∧ ¬ f x y < 0) :
    (insD f x out.reverse).reverse = out.take n ++ x :: out.drop n := by
  have e : out.reverse = (out.drop n).reverse ++ (out.take n).reverse := by rw [← List.reverse_append, List.take_append_drop]
  rw [e, insD_past f x _ _ (fun y hy => hgt y (List.mem_reverse.1 hy))]
  have e2 : insD f x (out.take n).reverse = x :: (out.take n).reverse := by
    rcases hle with rfl | ⟨y, hy, hf⟩
    · rw [List.take_zero]; rfl
    · cases n with
      | zero => rw [List.take_zero]; rfl
      | succ m =>
        have hy2 : out[m]? = some y := hy
        rw [List.take_add_one, hy2, Option.toList_some, List.reverse_append, List.reverse_singleton, List.singleton_append, insD, if_neg hf]
  rw [e2]
  simp
theorem stab_snoc (c : List V3 → List V3 → Int) (l : List (List V3)) (x : List V3) : stab c (l ++ [x]) = (insD c x (stab c l).reverse).reverse := by
  unfold stab insAll
  rw [List.foldl_append, List.reverse_reverse]
  rfl
/-- the law's sort: how far it has come -/
structure SXI (W w : World) (v : Value) (i : Nat) (rs : List RV) (rows : List (List V3)) : Prop where
  wl : WL W w v rs rows
  len : rs.length = i
theorem SXI.below {W w w' : World} {v : Value} {i : Nat} {rs : List RV} {rows : List (List V3)} (h : SXI W w v i rs rows) (hb : Below w.heap.size w w') : SXI W w' v i rs rows := ⟨h.wl.below hb, h.len⟩
theorem wpList_append_any {P : Program} {w : World} {ops : Array Oper} {rest : List Oper} {o : Oper} {a : Act} {Q : Exit → Act → World → Prop} (hgd : o.guard = none) (s x : Operand) (t : TypeId)
    (ho : o.op = .call { callee := .builtin .append, args := #[s, x], argTypes := #[t, t] })
    (base : Nat) (e : TypeId) (i : TypeInfo) (z : Value) (bytes : Nat) (ht : P.underlying t = some (.slice e)) (hi : P.info? e = some i) (hz : i.zero = some z)
    (hsize : i.size = 1) (hby : i.bytes = bytes) (hzs : z.cells.size = 1)
    (v : Value) (n : Nat) (xs : List Value) (hs : a.eval s = v) (hown : w.ownsRow base e 1 v n xs)
    (ad : Addr) (m c : Nat) (news : List Value) (hx : a.eval x = .slice (some ad) m c) (hl : news.length = m * 1) (hnews : ∀ j u, news[j]? = some u → w.cell? (ad.add j) = some u) (h1 : ∀ u ∈ news, u.oneCell' = true)
    (h63 : n + m ≤ maxLen) (hbytes : (n + m) * bytes ≤ 140737488355328) (hbase : base ≤ w.heap.size)
    (h : ∀ a' c' w', w'.ownsRow base e 1 (.slice a' (n + m) c') (n + m) (xs ++ news) → w.grownBy w' v.ownBlock → wpList P ops Q rest (a.put o.dst (.slice a' (n + m) c')) w') : wpList P ops Q (o :: rest) a w := by
  refine wpList_plain hgd fun _ hK => ?_
  obtain ⟨v', w', hr, h2, h3, _, h5⟩ := run_append_own_at (P := P) w base t o.type e i z 1 bytes ht hi hz hsize hby hzs (by decide) v n xs hown ad m c news hl hnews h1 h63 hbytes hbase
  obtain ⟨a', c', rfl⟩ := own_slice h2
  unfold Oper.wp execOp
  simp only [ho, resolve, invoke, builtin, Sem.run_bind, Sem.run_pure, Result.andThen_ok, List.map_toArray, List.map_cons, List.map_nil, hs, hx, hr]
  exact hK _ _ (h a' c' w' h2 h3)
end Go.Proofs.Ytghpjlohoehdnaa.Sep

/-! The law's own sort, walked. No condition beyond those that each theorem names. -/
namespace Go.Proofs.Ytghpjlohoehdnaa.Sep
open Go Go.RowKit Go.Shelf
set_option linter.unusedVariables false
set_option linter.unusedSimpArgs false
theorem own_cells {W w : World} {v : Value} {g i c : Nat} {rs : List RV} {N : Nat} (h : w.ownsRow N 48 1 (.slice (some ⟨g, 0, none⟩) i c) rs.length (rs.map RV.v)) : ∀ j u, (rs.map RV.v)[j]? = some u → w.cell? ⟨g, j, none⟩ = some u := by
  intro j u hu
  rcases own_one h with ⟨e, _⟩ | ⟨g2, cap, e, h1, h2, h3, hc⟩
  · cases e
  · injection e with e _ _
    injection e with e
    injection e with e _ _
    subst e
    exact hc j u hu
theorem All2.ins {α β : Type} {R : α → β → Prop} : ∀ (n : Nat) {l : List α} {m : List β} (h : All2 R l m) {x : α} {y : β} (hxy : R x y), All2 R (l.take n ++ [x] ++ l.drop n) (m.take n ++ y :: m.drop n)
  | 0, l, m, h, x, y, hxy => ⟨hxy, h⟩
  | n + 1, [], [], h, x, y, hxy => ⟨hxy, trivial⟩
  | n + 1, a :: l, b :: m, h, x, y, hxy => ⟨h.1, All2.ins n h.2 hxy⟩
theorem own_lower {w : World} {A B : Nat} {T : TypeId} {k : Nat} {v : Value} {n : Nat} {xs : List Value} (hle : A ≤ B) (h : w.ownsRow B T k v n xs) : w.ownsRow A T k v n xs :=
  ⟨h.1, h.2.imp id fun ⟨g, cap, cur, e, h1, r⟩ => ⟨g, cap, cur, e, Nat.le_trans hle h1, r⟩⟩
theorem one_v (l : List RV) : ∀ u ∈ l.map RV.v, u.oneCell' = true := by
  intro u hu
  obtain ⟨q, _, rfl⟩ := List.mem_map.1 hu
  rfl
set_option maxRecDepth 100000 in
set_option maxHeartbeats 8000000 in
theorem sortedX (aa : Option Addr) (na ca : Nat) (so : Value) (by_ : Order) (ra : List (List V3)) (W : World) (ha : Lst W (.slice aa na ca) ra) (hna : na ≤ 1000) (hby : by_.length ≤ 1000) (ho : Ord W so by_) :
    Calls Try.prog 32 #[.slice aa na ca, so] W fun e W' => ∃ a5 c5 rs, e = .returned (.slice a5 na c5) ∧ SXI W W' (.slice a5 na c5) na rs (stab (fun a b => cmpR a b by_) ra) := by
  have hmx : Try.prog.follows .mixedOrders = true := by kernel_rfl
  obtain ⟨i0, hi, hz0, hz1, hz2⟩ := info_parts infoC49
  have HNL := Aside0.mk (lst_len ha)
  have LA := Aside0.mk ha
  have HO := Aside0.mk ho
  clear ha ho
  go_enter Try.func32, Try.ntmps32
  go_wp2
  go_loopw [5, 6] (fun v5 v6 wr => ∃ (i : Nat) (a5 : Option Addr) (c5 : Nat) (rs : List RV), i ≤ na ∧ v6 = .int .i64 i ∧ v5 = .slice a5 i c5 ∧ Aside0 (SXI W wr (.slice a5 i c5) i rs (stab (fun a b => cmpR a b by_) (ra.take i)))) (fun _ v6 _ => na - (intOf v6).toNat)
  case atStart => exact ⟨0, none, 0, [], Nat.zero_le _, rfl, rfl, ⟨⟨World.ownsRow_nil _ _ _ _, trivial, Below.refl _ _⟩, rfl⟩⟩
  case round =>
    obtain ⟨i, a5, c5, rs, hin, rfl, rfl, HW⟩ := hrel
    by_cases hlt : i < na
    · have hd1 : decide ((i : Int) < (na : Int)) = true := by simpa using hlt
      have hd2 : decide (i < na) = true := by simpa using hlt
      obtain ⟨b, off, q, row, hae, hb, hq, hrow, hcq, hqn⟩ := lst_at LA.out hlt
      subst hae
      have hq2 := (cell_of_block (HW.out.wl.bel.block b hb) _).trans hq
      have HQ := Aside0.mk (And.intro hrow (And.intro hcq hqn))
      obtain ⟨out, hout⟩ : ∃ out, stab (fun a b => cmpR a b by_) (ra.take i) = out := ⟨_, rfl⟩
      have HOut := Aside0.mk hout
      rw [hout] at HW
      clear hout hrow hcq hqn hq hb
      obtain ⟨qa, qn, qc⟩ := q
      dsimp only [RV.v] at hq2
      go_wp2
      go_loopw [7] (fun v7 w2 => ∃ n : Nat, n ≤ i ∧ v7 = .int .i64 n ∧ Aside0 (Below wr.heap.size wr w2) ∧ Aside0 (∀ y ∈ out.drop n, cmpR row y by_ < 0)) (fun v7 _ => (intOf v7).toNat)
      case atStart => exact ⟨i, Nat.le_refl _, rfl, ⟨Below.refl _ _⟩, ⟨by have h := HW.out.wl.all.len; rw [HW.out.len] at h; rw [List.drop_of_length_le (by rw [← h]; exact Nat.le_refl _)]; intro y hy; cases hy⟩⟩
      case round =>
        obtain ⟨n, hn, rfl, HB, HT⟩ := hrel
        cases n with
        | zero =>
          have HE := Aside0.mk (ins_cut (fun a b => cmpR a b by_) row out 0 (Nat.zero_le _) HT.out (.inl rfl))
          go_wp2
          go_quiet (fail)
          have HZ := Aside0.mk (below_drewN HB.out nq)
          have HF := Aside0.mk (HW.out.below HZ.out)
          have hq4 := keep_cell' hq2 HZ.out
          have hsz := HF.out.wl.bel.size
          have hnl := HW.out.len
          generalize wr.drewN nq = w4 at HZ HF hq4 hsz ⊢
          rcases own_one HF.out.wl.own with ⟨e, _⟩ | ⟨g, cap, e, _, hgl, hcap, hgc⟩
          · injection e with e1 e2 e3
            subst e1 e3
            have hi0 : i = 0 := by omega
            subst hi0
            rw [Nat.add_zero] at hq4
            go_wp2_with (first
              | (at_builtin; refine wpList_append_any rfl _ _ 22 rfl w4.heap.size 48 i0 (.slice none 0 0) 24 Try.underlying22 hi hz0 hz1 hz2 rfl (.slice none 0 0) 0 [] rfl (World.ownsRow_nil _ _ _ _) ⟨_, 0, none⟩ 1 1 [.slice qa qn qc] rfl rfl (cell_one_new _ _ _) (by simp [Value.oneCell']) (by unfold maxLen; omega) (by omega) (by rw [World.size_alloc]; omega) ?_; intro a10 c10 w10 ho10 hgr10; obtain ⟨g10, cap10, hv, _, _⟩ := ho10.form (by omega); injection hv with hv1 hv2 hv3; subst hv1 hv3; simp only [Nat.zero_add, List.nil_append] at ho10 ⊢; have H10 := Aside0.mk (And.intro ho10 hgr10); clear ho10 hgr10)
              | (at_builtin; refine wpList_append_own_none rfl _ _ 22 rfl w4.heap.size 48 i0 1 Try.underlying22 hi (.slice (some ⟨g10, 0, none⟩) 1 c10) 1 _ rfl H10.out.1 rfl ?_)
              | fail)
            obtain ⟨ho10, hgr10⟩ := H10.out
            have hbelF : Below W.heap.size W w10 := (HF.out.wl.bel.alloc hsz (.cells #[.slice qa qn qc] 48)).grown hgr10 (by rw [World.size_alloc]; omega) (fun k hk => by simp [Value.ownBlock] at hk)
            have hSt : stab (fun a b => cmpR a b by_) (ra.take (0 + 1)) = out.take 0 ++ row :: out.drop 0 := by
              have e : ra.take (0 + 1) = ra.take 0 ++ [row] := by rw [List.take_add_one, HQ.out.1]; rfl
              rw [e, stab_snoc, HOut.out]
              exact HE.out
            have hrs : rs = [] := List.eq_nil_of_length_eq_zero hnl
            have hN : SXI W w10 (.slice (some ⟨g10, 0, none⟩) (0 + 1) c10) (0 + 1) (rs.take 0 ++ [⟨qa, qn, qc⟩] ++ rs.drop 0) (stab (fun a b => cmpR a b by_) (ra.take (0 + 1))) := by
              refine ⟨⟨?_, ?_, hbelF⟩, by rw [hrs]; rfl⟩
              · rw [hrs]
                exact own_lower hsz ho10
              · rw [hSt]
                exact All2.ins 0 HW.out.wl.all ⟨HQ.out.2.1, HQ.out.2.2⟩
            exact ⟨⟨0 + 1, some ⟨g10, 0, none⟩, c10, _, hlt, by simp, by simp, ⟨hN⟩⟩, by simp [intOf]; omega⟩
          · injection e with e1 e2 e3
            subst e1 e3
            have HG := Aside0.mk (And.intro hgl (And.intro hcap hgc))
            have HL := Aside0.mk hnl
            clear hgl hcap hgc e2 hnl
            have hcap2 := HG.out.2.1
            have hSt := Aside0.mk (show stab (fun a b => cmpR a b by_) (ra.take (i + 1)) = out.take 0 ++ row :: out.drop 0 from by
              have e : ra.take (i + 1) = ra.take i ++ [row] := by rw [List.take_add_one, HQ.out.1]; rfl
              rw [e, stab_snoc, HOut.out]
              exact HE.out)
            rw [show ((0 : Nat) : Int) = 0 from rfl]
            have hz5 : (0 : Int) ≤ (c5 : Int) := by omega
            by_cases hc0 : c5 = 0
            all_goals
              go_wp2_with (first
                | (at_builtin; refine wpList_append_any rfl _ _ 22 rfl w4.heap.size 48 i0 (.slice none 0 0) 24 Try.underlying22 hi hz0 hz1 hz2 rfl (.slice none 0 0) 0 [] rfl (World.ownsRow_nil _ _ _ _) ⟨_, 0, none⟩ 1 1 [.slice qa qn qc] rfl rfl (cell_one_new _ _ _) (by simp [Value.oneCell']) (by unfold maxLen; omega) (by omega) (by rw [World.size_alloc]; omega) ?_; intro a10 c10 w10 ho10 hgr10; obtain ⟨g10, cap10, hv, _, _⟩ := ho10.form (by omega); injection hv with hv1 hv2 hv3; subst hv1 hv3; simp only [Nat.zero_add, List.nil_append] at ho10 ⊢; have hs10 := hgr10.size; rw [World.size_alloc] at hs10; have H10 := Aside0.mk (And.intro ho10 hgr10); clear ho10 hgr10)
                | (at_builtin; refine wpList_append_any rfl _ _ 22 rfl w4.heap.size 48 i0 (.slice none 0 0) 24 Try.underlying22 hi hz0 hz1 hz2 rfl (.slice (some ⟨g10, 0, none⟩) 1 c10) 1 _ rfl H10.out.1 ⟨g, 0, none⟩ i _ (rs.map RV.v) rfl (by rw [List.length_map, HL.out]; omega) (fun j u hu => (congrArg w10.cell? (show (⟨g, 0, none⟩ : Addr).add j = ⟨g, j, none⟩ from by simp [Addr.add]; exact fun h => h.symm)).trans (((H10.out.2.cell_far ⟨g, j, none⟩ (by rw [World.size_alloc]; have := HG.out.1; show g < _; omega) (by simp [Value.ownBlock])).trans (cell_of_block' (Below.heap_alloc w4 _ g HG.out.1))).trans (HG.out.2.2 j u hu))) (one_v _) (by unfold maxLen; omega) (by omega) (by omega) ?_; intro a11 c11 w11 ho11 hgr11)
                | fail)
              rw [show 1 + i = i + 1 from Nat.add_comm 1 i] at ho11 ⊢
              have hbelF : Below W.heap.size W w11 := by
                have h10 := (HF.out.wl.bel.alloc hsz (.cells #[.slice qa qn qc] 48)).grown H10.out.2 (by rw [World.size_alloc]; omega) (fun k hk => by simp [Value.ownBlock] at hk)
                exact h10.grown hgr11 (by omega) (fun k hk => by have := (own_ge H10.out.1 k hk).1; omega)
              have hN : SXI W w11 (.slice a11 (i + 1) c11) (i + 1) (rs.take 0 ++ [⟨qa, qn, qc⟩] ++ rs.drop 0) (stab (fun a b => cmpR a b by_) (ra.take (i + 1))) := by
                have hl : (rs.take 0 ++ [(⟨qa, qn, qc⟩ : RV)] ++ rs.drop 0).length = i + 1 := by have := HL.out; simp; omega
                refine ⟨⟨?_, ?_, hbelF⟩, hl⟩
                · rw [hl]
                  exact own_lower hsz ho11
                · rw [hSt.out]
                  exact All2.ins 0 HW.out.wl.all ⟨HQ.out.2.1, HQ.out.2.2⟩
              exact ⟨⟨i + 1, a11, c11, _, hlt, by simp, rfl, ⟨hN⟩⟩, by simp [intOf]; omega⟩
        | succ m =>
          have hml : m < i := by omega
          obtain ⟨g, pv, prow, hge, hg, hp, hprow, hcp, hpn⟩ := wl_at HW.out.wl HW.out.len hml
          subst hge
          have hp2 := (cell_of_block (HB.out.block g hg) _).trans hp
          have hq3 := (cell_of_block (HB.out.block b (cell_lt hq2)) _).trans hq2
          have HP := Aside0.mk (And.intro hprow (And.intro hcp hpn))
          clear hg hp hprow hcp hpn
          obtain ⟨pa, pn, pc⟩ := pv
          dsimp only [RV.v] at hp2
          have hw : IntKind.i64.wrap (((m + 1 : Nat) : Int) - 1) = (m : Int) := by rw [IntKind.wrap_i64]; omega
          have hw2 : IntKind.i64.wrap ((m : Int) + 1 - 1) = (m : Int) := by rw [IntKind.wrap_i64]; omega
          have hd3 : decide ((0 : Int) < ((m + 1 : Nat) : Int)) = true := by simp
          have hd4 : decide ((0 : Int) < (m : Int) + 1) = true := decide_eq_true (by omega)
          have hw3 : IntKind.i64.wrap (m : Int) = (m : Int) := by rw [IntKind.wrap_i64]; omega
          have hd5 : decide (m < i) = true := decide_eq_true hml
          have hd6 : decide ((m : Int) < (i : Int)) = true := decide_eq_true (by omega)
          go_upto_region 6 with fail
          have HCC := Aside0.mk (fun (w : World) (h : Below wr.heap.size wr w) => And.intro (HP.out.2.1.below (below_step (below_step HW.out.wl.bel HB.out HW.out.wl.bel.size) h (below_step HW.out.wl.bel HB.out HW.out.wl.bel.size).size)) (And.intro (HQ.out.2.1.below (below_step (below_step HW.out.wl.bel HB.out HW.out.wl.bel.size) h (below_step HW.out.wl.bel HB.out HW.out.wl.bel.size).size)) (HO.out.below (below_step (below_step HW.out.wl.bel HB.out HW.out.wl.bel.size) h (below_step HW.out.wl.bel HB.out HW.out.wl.bel.size).size))))
          go_region_held3 (fun w' => w'.cell? ⟨g, m, none⟩ = some (.slice pa pn pc) ∧ w'.cell? ⟨b, off + i, none⟩ = some (.slice qa qn qc) ∧ Aside0 (Below wr.heap.size wr w'))
            (first | exact held2y hp2 hq3 (Still.drew wr).below | exact held2y hp2 hq3 HB4.out | fail)
            (first | (go_at_call 58; refine (cmpX_rows pa qa pn pc qn qc so prow row by_ _ (HCC.out _ (Still.drew wr).below).1 (HCC.out _ (Still.drew wr).below).2.1 HP.out.2.2 HQ.out.2.2 hby (HCC.out _ (Still.drew wr).below).2.2).mono ?_; rintro e w4 ⟨rfl, hb4⟩; have HB4 := Aside0.mk (below_step (Still.drew wr).below hb4 (Nat.le_refl _)); clear hb4))
          have hanti : cmpR row prow by_ = - cmpR prow row by_ := (cmpR_ord by_).anti prow row
          by_cases hgt : 0 < cmpR prow row by_
          · have hdg : decide (0 < cmpR prow row by_) = true := decide_eq_true hgt
            have HT2 := Aside0.mk (show ∀ y ∈ out.drop m, cmpR row y by_ < 0 from by
              have hml2 := (List.getElem?_eq_some_iff.1 HP.out.1)
              obtain ⟨h1, h2⟩ := hml2
              intro y hy
              rw [List.drop_eq_getElem_cons h1, h2] at hy
              rcases List.mem_cons.1 hy with rfl | hy
              · omega
              · exact HT.out y hy)
            clear hanti
            go_wp2
            go_roundw
            case rel => exact ⟨m, by omega, by simp, ⟨below_step HB.out HB4.out HB.out.size⟩, HT2⟩
            case measure => simp [intOf] <;> omega
          · have hdg : decide (0 < cmpR prow row by_) = false := decide_eq_false hgt
            have HE := Aside0.mk (ins_cut (fun a b => cmpR a b by_) row out (m + 1) (by have := (List.getElem?_eq_some_iff.1 HP.out.1).1; omega) HT.out (.inr ⟨prow, HP.out.1, by rw [hanti]; omega⟩))
            have HZ := Aside0.mk (below_step HB.out HB4.out HB.out.size)
            clear hanti
            have HF := Aside0.mk (HW.out.below HZ.out)
            have hq4 := keep_cell' hq2 HZ.out
            have HCs := Aside0.mk (own_cells (W := W) (v := .nilFunc) HF.out.wl.own)
            have hnl := HW.out.len
            have hsz := HF.out.wl.bel.size
            have hA1 : ((rs.take (m + 1)).map RV.v).length = (m + 1) * 1 := by simp; omega
            have hA2 : ∀ j u, ((rs.take (m + 1)).map RV.v)[j]? = some u → w4.cell? ((⟨g, 0, none⟩ : Addr).add j) = some u := by
              intro j u hu
              have hj : j < m + 1 := by
                have := (List.getElem?_eq_some_iff.1 hu).1
                simp at this
                omega
              rw [List.map_take, List.getElem?_take_of_lt hj] at hu
              rw [show (⟨g, 0, none⟩ : Addr).add j = ⟨g, j, none⟩ from by simp [Addr.add]; exact fun h => h.symm]
              exact HCs.out j u hu
            have hcap : i ≤ c5 := by
              rcases own_one HF.out.wl.own with ⟨e, _⟩ | ⟨g2, cap, e, _, _, h3, _⟩
              · cases e
              · injection e with _ _ e
                omega
            have hcap2 : m + 1 ≤ c5 := by omega
            have hgl : g < w4.heap.size := by
              rcases own_one HF.out.wl.own with ⟨e, _⟩ | ⟨g2, cap, e, _, h2, _, _⟩
              · cases e
              · injection e with e _ _
                injection e with e
                injection e with e _ _
                omega
            have HCs2 := Aside0.mk (show ∀ j u, ((rs.drop (m + 1)).map RV.v)[j]? = some u → w4.cell? ⟨g, m + 1 + j, none⟩ = some u from by
              intro j u hu
              rw [List.map_drop, List.getElem?_drop] at hu
              exact HCs.out _ u hu)
            have hA3 : 0 + (m + 1) ≤ maxLen := by unfold maxLen; omega
            have hA4 : (0 + (m + 1)) * 24 ≤ 140737488355328 := by omega
            have HAs := Aside0.mk (And.intro hA1 (And.intro hA2 (And.intro hA3 hA4)))
            clear hA1 hA2 hA3 hA4
            by_cases hc : c5 = m + 1
            · have hi2 : i = m + 1 := by omega
              subst hc
              subst hi2
              go_upto_region 9 with fail
              go_wp2_with (first
                | (at_builtin; refine wpList_append_any (by first | rfl | trace "gd") _ _ 22 (by first | rfl | trace "ho") w4.heap.size 48 i0 (.slice none 0 0) 24 Try.underlying22 hi hz0 hz1 hz2 rfl (.slice none 0 0) 0 [] (by first | rfl | trace "hs") (World.ownsRow_nil _ _ _ _) ⟨g, 0, none⟩ (m + 1) (m + 1) ((rs.take (m + 1)).map RV.v) (by first | rfl | trace "hx") HAs.out.1 HAs.out.2.1 (one_v _) HAs.out.2.2.1 HAs.out.2.2.2 (Nat.le_refl _) ?_; intro a9 c9 w9 ho9 hgr9; simp only [Nat.zero_add, List.nil_append] at ho9 ⊢; have hq9 := (hgr9.cell_far ⟨b, off + (m + 1), none⟩ (cell_lt hq4) (by simp [Value.ownBlock])).trans hq4; have H9 := Aside0.mk (And.intro ho9 hgr9); have hs9 := hgr9.size; clear ho9 hgr9)
                | (at_builtin; refine wpList_append_any rfl _ _ 22 rfl w4.heap.size 48 i0 (.slice none 0 0) 24 Try.underlying22 hi hz0 hz1 hz2 rfl (.slice a9 (m + 1) c9) (m + 1) ((rs.take (m + 1)).map RV.v) rfl (H9.out.1.alloc _) ⟨_, 0, none⟩ 1 1 [.slice qa qn qc] rfl rfl (cell_one_new _ _ _) (by simp [Value.oneCell']) (by unfold maxLen; omega) (by omega) (by rw [World.size_alloc]; omega) ?_; intro a10 c10 w10 ho10 hgr10; have hc10 : ∀ a : Addr, a.block < w4.heap.size → w10.cell? a = w4.cell? a := (fun a ha => (hgr10.cell_far a (by rw [World.size_alloc]; omega) (fun e => by have := (own_ge H9.out.1 _ e.symm).1; omega)).trans ((cell_of_block' (Below.heap_alloc w9 _ a.block (by omega))).trans (H9.out.2.cell_far a ha (by simp [Value.ownBlock])))); have hs10 := hgr10.size; rw [World.size_alloc] at hs10; have H10 := Aside0.mk (And.intro ho10 (And.intro hgr10 hc10)); clear ho10 hgr10 hc10)
                | (at_builtin; refine wpList_append_any rfl _ _ 22 rfl w4.heap.size 48 i0 (.slice none 0 0) 24 Try.underlying22 hi hz0 hz1 hz2 rfl (.slice a10 (m + 1 + 1) c10) (m + 1 + 1) _ rfl H10.out.1 ⟨g, 0, none⟩ 0 _ [] rfl rfl (fun j u hu => by simp at hu) (fun u hu => by cases hu) (by unfold maxLen; omega) (by omega) (by omega) ?_; intro a11 c11 w11 ho11 hgr11)
                | fail)
              rw [Nat.add_zero] at ho11
              have hdr : rs.drop (m + 1) = [] := List.drop_eq_nil_of_le (by rw [hnl]; exact Nat.le_refl _)
              have hbelF : Below W.heap.size W w11 := by
                have h9 := HF.out.wl.bel.grown H9.out.2 hsz (fun k hk => by simp [Value.ownBlock] at hk)
                have h10 := (h9.alloc (by omega) (.cells #[.slice qa qn qc] 48)).grown H10.out.2.1 (by rw [World.size_alloc]; omega) (fun k hk => by have := (own_ge H9.out.1 k hk).1; omega)
                exact h10.grown hgr11 (by omega) (fun k hk => by have := (own_ge H10.out.1 k hk).1; omega)
              have hSt : stab (fun a b => cmpR a b by_) (ra.take ((m + 1) + 1)) = out.take (m + 1) ++ row :: out.drop (m + 1) := by
                have e : ra.take ((m + 1) + 1) = ra.take (m + 1) ++ [row] := by rw [List.take_add_one, HQ.out.1]; rfl
                rw [e, stab_snoc, HOut.out]
                exact HE.out
              have hN : SXI W w11 (.slice a11 ((m + 1) + 1) c11) ((m + 1) + 1) (rs.take (m + 1) ++ [⟨qa, qn, qc⟩] ++ rs.drop (m + 1)) (stab (fun a b => cmpR a b by_) (ra.take ((m + 1) + 1))) := by
                have hl : (rs.take (m + 1) ++ [(⟨qa, qn, qc⟩ : RV)] ++ rs.drop (m + 1)).length = (m + 1) + 1 := by simp; omega
                refine ⟨⟨?_, ?_, hbelF⟩, hl⟩
                · rw [hl, List.map_append, List.map_append, hdr]
                  exact own_lower hsz ho11
                · rw [hSt]
                  exact All2.ins (m + 1) HW.out.wl.all ⟨HQ.out.2.1, HQ.out.2.2⟩
              exact ⟨⟨(m + 1) + 1, a11, c11, _, hlt, by simp, rfl, ⟨hN⟩⟩, by simp [intOf]; omega⟩
            go_upto_region 9 with fail
            go_wp2_with (first
              | (at_builtin; refine wpList_append_any (by first | rfl | trace "gd") _ _ 22 (by first | rfl | trace "ho") w4.heap.size 48 i0 (.slice none 0 0) 24 Try.underlying22 hi hz0 hz1 hz2 rfl (.slice none 0 0) 0 [] (by first | rfl | trace "hs") (World.ownsRow_nil _ _ _ _) ⟨g, 0, none⟩ (m + 1) c5 ((rs.take (m + 1)).map RV.v) (by first | rfl | trace "hx") HAs.out.1 HAs.out.2.1 (one_v _) HAs.out.2.2.1 HAs.out.2.2.2 (Nat.le_refl _) ?_; intro a9 c9 w9 ho9 hgr9; simp only [Nat.zero_add, List.nil_append] at ho9 ⊢; have hq9 := (hgr9.cell_far ⟨b, off + i, none⟩ (cell_lt hq4) (by simp [Value.ownBlock])).trans hq4; have H9 := Aside0.mk (And.intro ho9 hgr9); have hs9 := hgr9.size; clear ho9 hgr9)
              | (at_builtin; refine wpList_append_any rfl _ _ 22 rfl w4.heap.size 48 i0 (.slice none 0 0) 24 Try.underlying22 hi hz0 hz1 hz2 rfl (.slice a9 (m + 1) c9) (m + 1) ((rs.take (m + 1)).map RV.v) rfl (H9.out.1.alloc _) ⟨_, 0, none⟩ 1 1 [.slice qa qn qc] rfl rfl (cell_one_new _ _ _) (by simp [Value.oneCell']) (by unfold maxLen; omega) (by omega) (by rw [World.size_alloc]; omega) ?_; intro a10 c10 w10 ho10 hgr10; have hc10 : ∀ a : Addr, a.block < w4.heap.size → w10.cell? a = w4.cell? a := (fun a ha => (hgr10.cell_far a (by rw [World.size_alloc]; omega) (fun e => by have := (own_ge H9.out.1 _ e.symm).1; omega)).trans ((cell_of_block' (Below.heap_alloc w9 _ a.block (by omega))).trans (H9.out.2.cell_far a ha (by simp [Value.ownBlock])))); have hs10 := hgr10.size; rw [World.size_alloc] at hs10; have H10 := Aside0.mk (And.intro ho10 (And.intro hgr10 hc10)); clear ho10 hgr10 hc10)
              | (at_builtin; refine wpList_append_any rfl _ _ 22 rfl w4.heap.size 48 i0 (.slice none 0 0) 24 Try.underlying22 hi hz0 hz1 hz2 rfl (.slice a10 (m + 1 + 1) c10) (m + 1 + 1) _ rfl H10.out.1 ⟨g, m + 1, none⟩ (i - (m + 1)) _ ((rs.drop (m + 1)).map RV.v) rfl (by simp; omega) (fun j u hu => (congrArg w10.cell? (show (⟨g, m + 1, none⟩ : Addr).add j = ⟨g, m + 1 + j, none⟩ from by simp [Addr.add])).trans ((H10.out.2.2 ⟨g, m + 1 + j, none⟩ hgl).trans (HCs2.out j u hu))) (one_v _) (by unfold maxLen; omega) (by omega) (by omega) ?_; intro a11 c11 w11 ho11 hgr11)
              | fail)
            have hcnt : m + 1 + 1 + (i - (m + 1)) = i + 1 := by omega
            rw [hcnt] at ho11 ⊢
            have hbelF : Below W.heap.size W w11 := by
              have h9 := HF.out.wl.bel.grown H9.out.2 hsz (fun k hk => by simp [Value.ownBlock] at hk)
              have h10 := (h9.alloc (by omega) (.cells #[.slice qa qn qc] 48)).grown H10.out.2.1 (by rw [World.size_alloc]; omega) (fun k hk => by have := (own_ge H9.out.1 k hk).1; omega)
              exact h10.grown hgr11 (by omega) (fun k hk => by have := (own_ge H10.out.1 k hk).1; omega)
            have hSt : stab (fun a b => cmpR a b by_) (ra.take (i + 1)) = out.take (m + 1) ++ row :: out.drop (m + 1) := by
              have e : ra.take (i + 1) = ra.take i ++ [row] := by rw [List.take_add_one, HQ.out.1]; rfl
              rw [e, stab_snoc, HOut.out]
              exact HE.out
            have hN : SXI W w11 (.slice a11 (i + 1) c11) (i + 1) (rs.take (m + 1) ++ [⟨qa, qn, qc⟩] ++ rs.drop (m + 1)) (stab (fun a b => cmpR a b by_) (ra.take (i + 1))) := by
              have hl : (rs.take (m + 1) ++ [(⟨qa, qn, qc⟩ : RV)] ++ rs.drop (m + 1)).length = i + 1 := by simp; omega
              refine ⟨⟨?_, ?_, hbelF⟩, hl⟩
              · rw [hl, List.map_append, List.map_append]
                exact own_lower hsz ho11
              · rw [hSt]
                exact All2.ins (m + 1) HW.out.wl.all ⟨HQ.out.2.1, HQ.out.2.2⟩
            exact ⟨⟨i + 1, a11, c11, _, hlt, by simp, rfl, ⟨hN⟩⟩, by simp [intOf]; omega⟩
    · obtain rfl : i = na := by omega
      have HWf := Aside0.mk (show SXI W wr (.slice a5 i c5) i rs (stab (fun a b => cmpR a b by_) ra) from by have := HW.out; rw [HNL.out, List.take_length] at this; rw [HNL.out]; exact this)
      go_wp2
      refine bodyPost_ret (results_tmp rfl _ _ _) rfl ?_
      exact ⟨a5, c5, rs, rfl, HWf.out⟩
end Go.Proofs.Ytghpjlohoehdnaa.Sep

/-! slices.BinarySearchFunc as sort.Top calls it, walked. No condition beyond those that each theorem names. -/
namespace Go.Proofs.Ytghpjlohoehdnaa.Sep
open Go Go.RowKit Go.Shelf
set_option linter.unusedVariables false
set_option linter.unusedSimpArgs false
/-- Top's comparison: 1 where the first stands behind the second, else -1 -/
def cmpT (x : Int) : Int := if 0 < x then 1 else -1
set_option maxHeartbeats 1000000 in
theorem cmp63 (aa ab : Option Addr) (na ca nb cb Bo : Nat) (so : Value) (ra rb : List V3) (by_ : Order) (W : World) (ha : Cont W ⟨aa, na, ca⟩ ra) (hb : Cont W ⟨ab, nb, cb⟩ rb) (hna : na ≤ 1000) (hnb : nb ≤ 1000) (hby : by_.length ≤ 1000)
    (hbo : W.cell? ⟨Bo, 0, none⟩ = some so) (ho : Ord W so by_) :
    Calls Try.prog 63 #[.slice aa na ca, .slice ab nb cb, .pointer (some ⟨Bo, 0, none⟩)] W fun e W' => e = .returned (.int .i64 (cmpT (cmpR ra rb by_))) ∧ Below W.heap.size W W' := by
  have HC := Aside0.mk (cmpR_ok aa ab na ca nb cb so ra rb by_ W ha hb hna hnb hby ho)
  clear ha hb ho
  by_cases hgt : 0 < cmpR ra rb by_
  · have hd : decide (0 < cmpR ra rb by_) = true := decide_eq_true hgt
    have hT := Aside0.mk (show cmpT (cmpR ra rb by_) = 1 from if_pos hgt)
    go_enter Try.func63, Try.ntmps63
    go_wp2_with (go_at_call 64; refine HC.out.mono ?_; rintro e w' ⟨rfl, hb⟩; have HB := Aside0.mk hb; clear hb)
    refine bodyPost_ret (results_tmp rfl _ _ _) rfl ?_
    rw [hT.out]
    exact ⟨rfl, HB.out⟩
  · have hd : decide (0 < cmpR ra rb by_) = false := decide_eq_false hgt
    have hT := Aside0.mk (show cmpT (cmpR ra rb by_) = -1 from if_neg hgt)
    go_enter Try.func63, Try.ntmps63
    go_wp2_with (go_at_call 64; refine HC.out.mono ?_; rintro e w' ⟨rfl, hb⟩; have HB := Aside0.mk hb; clear hb)
    refine bodyPost_ret (results_tmp rfl _ _ _) rfl ?_
    rw [hT.out]
    exact ⟨rfl, HB.out⟩
/-- rows that lie one behind the other from a block's head on -/
def RowsAt (W : World) (a : Option Addr) (m : Nat) (rows : List (List V3)) : Prop :=
  ∀ j, j < m → ∃ g q row, a = some ⟨g, 0, none⟩ ∧ rows[j]? = some row ∧ W.cell? ⟨g, j, none⟩ = some (RV.v q) ∧ Cont W q row ∧ q.n ≤ 1000
theorem RowsAt.below {W W' : World} {a : Option Addr} {m : Nat} {rows : List (List V3)} (h : RowsAt W a m rows) (hb : Below W.heap.size W W') : RowsAt W' a m rows := fun j hj => by
  obtain ⟨g, q, row, h1, h2, h3, h4, h5⟩ := h j hj
  exact ⟨g, q, row, h1, h2, (cell_of_block (hb.block g (cell_lt h3)) _).trans h3, h4.below hb, h5⟩
/-- where the search has come to -/
structure BSI (rows : List (List V3)) (t : List V3) (by_ : Order) (lo hi : Nat) : Prop where
  low : ∀ j row, j < lo → rows[j]? = some row → cmpR row t by_ ≤ 0
  high : ∀ j row, hi ≤ j → rows[j]? = some row → 0 < cmpR row t by_
theorem bsi_high {rows : List (List V3)} {t row : List V3} {by_ : Order} {lo hi h : Nat} (hs : Srt (fun x y => cmpR x y by_) rows) (hby : by_.length ≤ 1000) (hI : BSI rows t by_ lo hi) (hr : rows[h]? = some row) (hg : 0 < cmpR row t by_) : BSI rows t by_ lo h := by
  refine ⟨hI.low, fun j r hj hq => ?_⟩
  obtain ⟨h1, rfl⟩ := List.getElem?_eq_some_iff.1 hr
  obtain ⟨h2, rfl⟩ := List.getElem?_eq_some_iff.1 hq
  rcases Nat.eq_or_lt_of_le hj with rfl | hlt
  · exact hg
  · have hc := cmpR_ord by_
    have h3 : cmpR rows[h] rows[j] by_ ≤ 0 := (List.pairwise_iff_getElem.1 hs) h j h1 h2 hlt
    have h4 := hc.trans rows[h] rows[j] t h3
    have h5 := hc.anti rows[h] rows[j]
    refine Int.not_le.1 fun h6 => ?_
    have := h4 h6
    have h7 : cmpR rows[h] t by_ ≤ 0 := this
    omega
theorem bsi_low {rows : List (List V3)} {t row : List V3} {by_ : Order} {lo hi h : Nat} (hs : Srt (fun x y => cmpR x y by_) rows) (hby : by_.length ≤ 1000) (hI : BSI rows t by_ lo hi) (hr : rows[h]? = some row) (hg : ¬ 0 < cmpR row t by_) : BSI rows t by_ (h + 1) hi := by
  refine ⟨fun j r hj hq => ?_, hI.high⟩
  obtain ⟨h1, rfl⟩ := List.getElem?_eq_some_iff.1 hr
  obtain ⟨h2, rfl⟩ := List.getElem?_eq_some_iff.1 hq
  rcases Nat.eq_or_lt_of_le (Nat.le_of_lt_succ hj) with rfl | hlt
  · omega
  · have hc := cmpR_ord by_
    have h3 : cmpR rows[j] rows[h] by_ ≤ 0 := (List.pairwise_iff_getElem.1 hs) j h h2 h1 hlt
    exact hc.trans rows[j] rows[h] t h3 (by show cmpR rows[h] t by_ ≤ 0; omega)
set_option maxRecDepth 100000 in
set_option maxHeartbeats 4000000 in
theorem bs_ok (a : Option Addr) (m c : Nat) (rows : List (List V3)) (ta : Option Addr) (tn tc : Nat) (trow : List V3) (by_ : Order) (so : Value) (Bo : Nat) (W : World) (hm : m ≤ 1000)
    (hl : rows.length = m) (hr : RowsAt W a m rows) (ht : Cont W ⟨ta, tn, tc⟩ trow) (htn : tn ≤ 1000) (hby : by_.length ≤ 1000) (hbo : W.cell? ⟨Bo, 0, none⟩ = some so) (ho : Ord W so by_)
    (hs : Srt (fun x y => cmpR x y by_) rows) :
    Calls Try.prog 62 #[.slice a m c, .slice ta tn tc, .func (.func 63) #[] #[.pointer (some ⟨Bo, 0, none⟩)]] W fun e W' => ∃ k : Nat, e = .returned (.tuple #[.int .i64 k, .bool false]) ∧ k ≤ m ∧ BSI rows trow by_ k k ∧ Below W.heap.size W W' := by
  have hmx : Try.prog.follows .mixedOrders = true := by kernel_rfl
  have HR := Aside0.mk (And.intro hr (And.intro hl (And.intro ht (And.intro hbo (And.intro ho hs)))))
  clear hr hl ht hbo ho hs
  go_enter Try.func62, Try.ntmps62
  go_wp2
  go_loopg [9, 10] m (fun kx s9 s10 wr => ∃ lo hi : Nat, s9 = .int .i64 lo ∧ s10 = .int .i64 hi ∧ lo ≤ hi ∧ hi ≤ m ∧ hi - lo ≤ kx ∧ Aside0 (Below W.heap.size W wr) ∧ Aside0 (BSI rows trow by_ lo hi))
  case atStart => exact ⟨0, m, rfl, rfl, Nat.zero_le _, Nat.le_refl _, by omega, ⟨Below.refl _ _⟩, ⟨⟨fun j row hj => absurd hj (Nat.not_lt_zero _), fun j row hj hq => by have := (List.getElem?_eq_some_iff.1 hq).1; have := HR.out.2.1; omega⟩⟩⟩
  case round =>
    obtain ⟨lo, hi, rfl, rfl, hlh, hin, hg, HB, HI⟩ := hrel
    by_cases hlt : lo < hi
    · obtain ⟨g, q, row, rfl, hrow, hc, hcq, hqn⟩ := (HR.out.1.below HB.out) ((lo + hi) / 2) (by omega)
      obtain ⟨qa, qn, qc⟩ := q
      dsimp only [RV.v] at hc
      have HQ := Aside0.mk (cmp63 qa ta qn qc tn tc Bo so row trow by_ wr hcq (HR.out.2.2.1.below HB.out) hqn htn hby ((cell_of_block (HB.out.block Bo (cell_lt HR.out.2.2.2.1)) _).trans HR.out.2.2.2.1) (HR.out.2.2.2.2.1.below HB.out))
      have HQ2 := Aside0.mk hrow
      clear hcq hrow hqn
      by_cases hgt : 0 < cmpR row trow by_
      · have hT := Aside0.mk (show cmpT (cmpR row trow by_) = 1 from if_pos hgt)
        have hgt := Aside0.mk hgt
        go_wp2_with (go_at_call 63; refine HQ.out.mono ?_; rintro e w' ⟨rfl, hb⟩; rw [hT.out]; have HB2 := Aside0.mk (below_step HB.out hb HB.out.size); clear hb)
        go_roundg ((lo + hi) / 2 - lo)
        case measure => omega
        case rel => exact ⟨lo, (lo + hi) / 2, rfl, by rw [show ((lo : Int) + (hi : Int)) / 2 = (((lo + hi) / 2 : Nat) : Int) by omega], by omega, by omega, Nat.le_refl _, HB2, ⟨bsi_high HR.out.2.2.2.2.2 hby HI.out HQ2.out hgt.out⟩⟩
      · have hT := Aside0.mk (show cmpT (cmpR row trow by_) = -1 from if_neg hgt)
        have hgt := Aside0.mk hgt
        go_wp2_with (go_at_call 63; refine HQ.out.mono ?_; rintro e w' ⟨rfl, hb⟩; rw [hT.out]; have HB2 := Aside0.mk (below_step HB.out hb HB.out.size); clear hb)
        go_roundg (hi - ((lo + hi) / 2 + 1))
        case measure => omega
        case rel => exact ⟨(lo + hi) / 2 + 1, hi, by rw [show ((lo : Int) + (hi : Int)) / 2 + 1 = (((lo + hi) / 2 + 1 : Nat) : Int) by omega], rfl, by omega, hin, Nat.le_refl _, HB2, ⟨bsi_low HR.out.2.2.2.2.2 hby HI.out HQ2.out (Int.not_lt.2 hgt.out)⟩⟩
    · obtain rfl : hi = lo := by omega
      by_cases hn : hi < m
      · obtain ⟨g, q, row, rfl, hrow, hc, hcq, hqn⟩ := (HR.out.1.below HB.out) hi hn
        obtain ⟨qa, qn, qc⟩ := q
        dsimp only [RV.v] at hc
        have HQ := Aside0.mk (cmp63 qa ta qn qc tn tc Bo so row trow by_ wr hcq (HR.out.2.2.1.below HB.out) hqn htn hby ((cell_of_block (HB.out.block Bo (cell_lt HR.out.2.2.2.1)) _).trans HR.out.2.2.2.1) (HR.out.2.2.2.2.1.below HB.out))
        clear hcq hrow hqn
        have hT := Aside0.mk (show cmpT (cmpR row trow by_) = 1 ∨ cmpT (cmpR row trow by_) = -1 from by unfold cmpT; split; exact .inl rfl; exact .inr rfl)
        generalize cmpT (cmpR row trow by_) = ct at HQ hT
        rcases hT.out with rfl | rfl
        · go_wp2_with (go_at_call 63; refine HQ.out.mono ?_; rintro e w' ⟨rfl, hb⟩; have HB2 := Aside0.mk (below_step HB.out hb HB.out.size); clear hb)
          go_ret2
          exact ⟨hi, rfl, hin, HI.out, HB2.out⟩
        · go_wp2_with (go_at_call 63; refine HQ.out.mono ?_; rintro e w' ⟨rfl, hb⟩; have HB2 := Aside0.mk (below_step HB.out hb HB.out.size); clear hb)
          go_ret2
          exact ⟨hi, rfl, hin, HI.out, HB2.out⟩
      · go_wp2
        go_ret2
        exact ⟨hi, rfl, hin, HI.out, HB.out⟩
end Go.Proofs.Ytghpjlohoehdnaa.Sep

/-! The first of rows in order: what one row more makes of them. No condition beyond those that each theorem names. -/
namespace Go.Proofs.Ytghpjlohoehdnaa.Sep
open Go Go.RowKit Go.Shelf
set_option linter.unusedVariables false
set_option linter.unusedSimpArgs false
theorem insD_stop {α : Type} (f : α → α → Int) (x : α) : ∀ (p q : List α), (∀ y, q.head? = some y → ¬ f x y < 0) → insD f x (p ++ q) = insD f x p ++ q
  | [], [], _ => rfl
  | [], y :: q, h => by
    show (if f x y < 0 then y :: insD f x q else x :: y :: q) = [x] ++ y :: q
    rw [if_neg (h y rfl)]
    rfl
  | y :: p, q, h => by
    rw [List.cons_append, insD, insD]
    by_cases hy : f x y < 0
    · rw [if_pos hy, if_pos hy, insD_stop f x p q h, List.cons_append]
    · rw [if_neg hy, if_neg hy]
      rfl
theorem top_keep (by_ : Order) (l : List (List V3)) (x : List V3) (n0 : Nat) (hn : n0 ≤ (stab (fun a b => cmpR a b by_) l).length)
    (hB : BSI ((stab (fun a b => cmpR a b by_) l).take n0) x by_ n0 n0) :
    (stab (fun a b => cmpR a b by_) (l ++ [x])).take n0 = (stab (fun a b => cmpR a b by_) l).take n0 := by
  have hc := cmpR_ord by_
  rw [stab_snoc]
  generalize stab (fun a b => cmpR a b by_) l = out at hB hn ⊢
  have e : out.reverse = (out.drop n0).reverse ++ (out.take n0).reverse := by rw [← List.reverse_append, List.take_append_drop]
  rw [e, insD_stop, List.reverse_append, List.reverse_reverse, List.take_append_of_le_length (by rw [List.length_take]; omega), List.take_of_length_le (by rw [List.length_take]; omega)]
  intro y hy
  cases n0 with
  | zero => simp at hy
  | succ m =>
    rw [List.head?_reverse, List.getLast?_eq_getElem?, List.length_take, show min (m + 1) out.length - 1 = m by omega] at hy
    have h1 := hB.low m y (by omega) hy
    have h2 : cmpR x y by_ = - cmpR y x by_ := hc.anti y x
    omega
theorem top_ins (by_ : Order) (l : List (List V3)) (x : List V3) (n0 k m : Nat) (hm : m = ((stab (fun a b => cmpR a b by_) l).take n0).length) (hk : k ≤ m) (hkn : k < n0)
    (hB : BSI ((stab (fun a b => cmpR a b by_) l).take n0) x by_ k k) :
    (stab (fun a b => cmpR a b by_) (l ++ [x])).take n0 =
      (((stab (fun a b => cmpR a b by_) l).take n0).take k ++ [x] ++ ((stab (fun a b => cmpR a b by_) l).take n0).drop k).take n0 := by
  have hc := cmpR_ord by_
  have hs := stab_srt hc l
  rw [stab_snoc]
  generalize stab (fun a b => cmpR a b by_) l = out at hB hs hm ⊢
  have hl : k ≤ out.length := by rw [List.length_take] at hm; omega
  have hcut := ins_cut (fun a b => cmpR a b by_) x out k hl ?_ ?_
  · rw [hcut]
    have e1 : (out.take n0).take k = out.take k := by rw [List.take_take]; congr 1; omega
    have e2 : (out.take n0).drop k = (out.drop k).take (n0 - k) := by rw [List.drop_take]
    rw [e1, e2, List.append_assoc, List.singleton_append]
    have e3 : (out.take k).length = k := by rw [List.length_take]; omega
    rw [List.take_append, List.take_append, e3]
    congr 1
    rw [show n0 - k = (n0 - k - 1) + 1 by omega, List.take_succ_cons, List.take_succ_cons, List.take_take]
    congr 2
    omega
  · intro y hy
    obtain ⟨j, hj, rfl⟩ := List.getElem_of_mem hy
    rw [List.getElem_drop]
    have hj2 : k + j < out.length := by rw [List.length_drop] at hj; omega
    by_cases hkm : k < m
    · have hkl : k < out.length := by omega
      have h1 := hB.high k out[k] (Nat.le_refl _) (by rw [List.getElem?_take_of_lt hkn]; exact List.getElem?_eq_getElem hkl)
      have h2 : cmpR x out[k] by_ = - cmpR out[k] x by_ := hc.anti out[k] x
      rcases Nat.eq_zero_or_pos j with rfl | hj0
      · simp only [Nat.add_zero]
        omega
      · have h3 : cmpR out[k] out[k + j] by_ ≤ 0 := (List.pairwise_iff_getElem.1 hs) k (k + j) hkl hj2 (by omega)
        have h5 : cmpR out[k] out[k + j] by_ ≤ 0 → cmpR out[k + j] x by_ ≤ 0 → cmpR out[k] x by_ ≤ 0 := hc.trans out[k] out[k + j] x
        have h6 : cmpR out[k + j] x by_ = - cmpR x out[k + j] by_ := hc.anti x out[k + j]
        omega
    · exfalso
      rw [List.length_take] at hm
      omega
  · cases k with
    | zero => exact .inl rfl
    | succ k =>
      refine .inr ⟨out[k], List.getElem?_eq_getElem (by omega), ?_⟩
      have h1 := hB.low k out[k] (by omega) (by rw [List.getElem?_take_of_lt (by omega)]; exact List.getElem?_eq_getElem (by omega))
      have h2 : cmpR x out[k] by_ = - cmpR out[k] x by_ := hc.anti out[k] x
      omega
end Go.Proofs.Ytghpjlohoehdnaa.Sep

/-! slices.Insert of one row into rows of the call's own, walked. No condition beyond those that each theorem names. -/
namespace Go.Proofs.Ytghpjlohoehdnaa.Sep
open Go Go.RowKit Go.Shelf Go.Lib
set_option linter.unusedVariables false
set_option linter.unusedSimpArgs false
theorem heap_set1 {g T : Nat} {W : World} {L : List Value} (o : Nat) (v : Value) (h : W.heap[g]? = some (.cells L.toArray T)) : (W.setCell ⟨g, o, none⟩ v).heap[g]? = some (.cells (L.set o v).toArray T) := by
  rw [set_cells h]
  simp
theorem heap_setMany {g T : Nat} : ∀ (vs : List Value) (o : Nat) (W : World) (L : List Value), W.heap[g]? = some (.cells L.toArray T) → o + vs.length ≤ L.length →
    (W.setCells g o vs).heap[g]? = some (.cells (L.take o ++ vs ++ L.drop (o + vs.length)).toArray T)
  | [], o, W, L, h, _ => by simpa [World.setCells] using h
  | v :: r, o, W, L, h, hl => by
    simp only [List.length_cons] at hl
    rw [World.setCells, heap_setMany r (o + 1) _ (L.set o v) (heap_set1 o v h) (by simp; omega)]
    have e1 : (L.set o v).take (o + 1) = L.take o ++ [v] := by
      rw [List.take_add_one, List.take_set_of_le (Nat.le_refl _), List.getElem?_set_self (by omega)]
      rfl
    have e2 : (L.set o v).drop (o + 1 + r.length) = L.drop (o + (r.length + 1)) := by
      rw [List.drop_set_of_lt (by omega)]
      congr 1
      omega
    rw [e1, e2, List.length_cons, List.append_assoc (L.take o), List.singleton_append]
theorem set_far {g : Nat} : ∀ (vs : List Value) (o : Nat) (W : World) (j : Nat), j ≠ g → (W.setCells g o vs).heap[j]? = W.heap[j]?
  | [], o, W, j, _ => rfl
  | v :: r, o, W, j, h => by rw [World.setCells, set_far r (o + 1) _ j h, Below.heap_setCell _ _ _ _ h]
theorem set_size {g : Nat} : ∀ (vs : List Value) (o : Nat) (W : World), (W.setCells g o vs).heap.size = W.heap.size
  | [], o, W => rfl
  | v :: r, o, W => by rw [World.setCells, set_size r (o + 1), size_setCell]
theorem tape_setMany {g : Nat} : ∀ (vs : List Value) (o : Nat) (W : World), (W.setCells g o vs).tape = W.tape
  | [], o, W => rfl
  | v :: r, o, W => by rw [World.setCells, tape_setMany r (o + 1)]; rfl
theorem os_setMany {g : Nat} : ∀ (vs : List Value) (o : Nat) (W : World), (W.setCells g o vs).os = W.os
  | [], o, W => rfl
  | v :: r, o, W => by rw [World.setCells, os_setMany r (o + 1)]; rfl
theorem out_setMany {g : Nat} : ∀ (vs : List Value) (o : Nat) (W : World), (W.setCells g o vs).output = W.output
  | [], o, W => rfl
  | v :: r, o, W => by rw [World.setCells, out_setMany r (o + 1)]; rfl
theorem set_grown {g : Nat} : ∀ (vs : List Value) (o : Nat) (W : World), W.grownBy (W.setCells g o vs) (some g)
  | vs, o, W => ⟨os_setMany vs o W, tape_setMany vs o W, out_setMany vs o W, Nat.le_of_eq (set_size vs o W).symm, fun k hk hne => set_far vs o W k (fun e => hne (by rw [e]))⟩
theorem grown_trans {A B C : World} {r : Option Nat} (h : A.grownBy B r) (k : B.grownBy C r) : A.grownBy C r :=
  ⟨k.os.trans h.os, k.tape.trans h.tape, k.output.trans h.output, Nat.le_trans h.size k.size, fun j hj hne => (k.block j (Nat.lt_of_lt_of_le hj h.size) hne).trans (h.block j hj hne)⟩
theorem wpList_append_any2 {P : Program} {w : World} {ops : Array Oper} {rest : List Oper} {o : Oper} {a : Act} {Q : Exit → Act → World → Prop} (hgd : o.guard = none) (s x : Operand) (t : TypeId)
    (ho : o.op = .call { callee := .builtin .append, args := #[s, x], argTypes := #[t, t] })
    (base : Nat) (e : TypeId) (i : TypeInfo) (z : Value) (bytes : Nat) (ht : P.underlying t = some (.slice e)) (hi : P.info? e = some i) (hz : i.zero = some z)
    (hsize : i.size = 1) (hby : i.bytes = bytes) (hzs : z.cells.size = 1)
    (v : Value) (n : Nat) (xs : List Value) (hs : a.eval s = v) (hown : w.ownsRow base e 1 v n xs)
    (ad : Addr) (m c : Nat) (news : List Value) (hx : a.eval x = .slice (some ad) m c) (hl : news.length = m * 1) (hnews : ∀ j u, news[j]? = some u → w.cell? (ad.add j) = some u) (h1 : ∀ u ∈ news, u.oneCell' = true)
    (h63 : n + m ≤ maxLen) (hbytes : (n + m) * bytes ≤ 140737488355328) (hbase : base ≤ w.heap.size)
    (h : ∀ a' c' w', w'.ownsRow base e 1 (.slice a' (n + m) c') (n + m) (xs ++ news) → w.grownBy w' v.ownBlock → (∀ j, (Value.slice a' (n + m) c').ownBlock = some j → v.ownBlock = some j ∨ w.heap.size ≤ j) → wpList P ops Q rest (a.put o.dst (.slice a' (n + m) c')) w') : wpList P ops Q (o :: rest) a w := by
  refine wpList_plain hgd fun _ hK => ?_
  obtain ⟨v', w', hr, h2, h3, _, h5⟩ := run_append_own_at (P := P) w base t o.type e i z 1 bytes ht hi hz hsize hby hzs (by decide) v n xs hown ad m c news hl hnews h1 h63 hbytes hbase
  obtain ⟨a', c', rfl⟩ := own_slice h2
  unfold Oper.wp execOp
  simp only [ho, resolve, invoke, builtin, Sem.run_bind, Sem.run_pure, Result.andThen_ok, List.map_toArray, List.map_cons, List.map_nil, hs, hx, hr]
  exact hK _ _ (h a' c' w' h2 h3 (fun j hj => by rcases h5 with h5 | h5; exact .inl (h5 ▸ hj); exact .inr (by rw [h5] at hj; injection hj with hj; omega)))
/-- what becomes of the rows: one more among them -/
def InsPost (N : Nat) (W : World) (v : Value) (n : Nat) (xs : List Value) (e : Ending) (W' : World) : Prop :=
  ∃ a c, e = .returned (.slice a (n + 1) c) ∧ W'.ownsRow N 48 1 (.slice a (n + 1) c) (n + 1) xs ∧ W.grownBy W' v.ownBlock ∧ ∀ j, (Value.slice a (n + 1) c).ownBlock = some j → v.ownBlock = some j ∨ W.heap.size ≤ j
set_option maxRecDepth 100000 in
set_option maxHeartbeats 2000000 in
theorem ins_end (N : Nat) (a : Option Addr) (n c vb : Nat) (cs : List Value) (x : Value) (W : World) (hn : n ≤ 1000) (hN : N ≤ W.heap.size) (ho : W.ownsRow N 48 1 (.slice a n c) n cs) (hx : W.cell? ⟨vb, 0, none⟩ = some x) (h1 : x.oneCell' = true) :
    Calls Try.prog 65 #[.slice a n c, .int .i64 n, .slice (some ⟨vb, 0, none⟩) 1 1] W (InsPost N W (.slice a n c) n (cs ++ [x])) := by
  obtain ⟨i0, hi, hz0, hz1, hz2⟩ := info_parts infoC49
  have HO := Aside0.mk ho
  have hxs : ∀ j u, ([x] : List Value)[j]? = some u → W.cell? ((⟨vb, 0, none⟩ : Addr).add j) = some u := by
    intro j u hj
    cases j with
    | zero => cases hj; exact hx
    | succ j => cases hj
  have HX := Aside0.mk hxs
  clear hxs hx
  rcases own_one ho with ⟨e, hl⟩ | ⟨g, cap, e, hg1, hg2, hcap, hc⟩
  · injection e with e1 e2 e3
    subst e1 e2 e3
    obtain ⟨_, rfl⟩ := hl
    clear ho
    go_enter Try.func65, Try.ntmps65
    go_wp2_with (at_builtin; refine wpList_append_any2 rfl _ _ 22 rfl N 48 i0 (.slice none 0 0) 24 Try.underlying22 hi hz0 hz1 hz2 rfl (.slice none 0 0) 0 [] rfl HO.out ⟨vb, 0, none⟩ 1 1 [x] rfl rfl HX.out (by simpa using h1) (by unfold maxLen; omega) (by omega) hN ?_; intro a9 c9 w9 ho9 hgr9 hat9; have H9 := Aside0.mk (And.intro ho9 (And.intro hgr9 hat9)); clear ho9 hgr9 hat9)
    go_ret
    exact ⟨a9, c9, rfl, H9.out.1, H9.out.2.1, H9.out.2.2⟩
  · injection e with e1 e2 e3
    subst e1 e3
    clear ho
    by_cases hcn : c = n
    all_goals
      go_enter Try.func65, Try.ntmps65
      go_wp2_with (at_builtin; refine wpList_append_any2 rfl _ _ 22 rfl N 48 i0 (.slice none 0 0) 24 Try.underlying22 hi hz0 hz1 hz2 rfl (.slice (some ⟨g, 0, none⟩) n c) n cs rfl HO.out ⟨vb, 0, none⟩ 1 1 [x] rfl rfl HX.out (by simpa using h1) (by unfold maxLen; omega) (by omega) hN ?_; intro a9 c9 w9 ho9 hgr9 hat9; have H9 := Aside0.mk (And.intro ho9 (And.intro hgr9 hat9)); clear ho9 hgr9 hat9)
      go_ret
      exact ⟨a9, c9, rfl, H9.out.1, H9.out.2.1, H9.out.2.2⟩
theorem ins_row {N g n c k : Nat} {cs : List Value} {x : Value} {W : World} (hk : k < n) (hroom : n + 1 ≤ c) (ho : W.ownsRow N 48 1 (.slice (some ⟨g, 0, none⟩) n c) n cs) {W' : World} (hW : W'.heap[g]? = W.heap[g]?) :
    ((W'.setCells g (k + 1) (cs.drop k)).setCells g k [x]).ownsRow N 48 1 (.slice (some ⟨g, 0, none⟩) (n + 1) c) (n + 1) (cs.take k ++ [x] ++ cs.drop k) := by
  obtain ⟨hl, h⟩ := ho
  rw [Nat.mul_one] at hl
  rcases h with ⟨e, _⟩ | ⟨g2, cap, cur, e, h1, h2, h3, h4, h5, h6⟩
  · cases e
  · injection e with e1 _ e3
    injection e1 with e1
    injection e1 with e1 _ _
    subst e1 e3
    rw [Nat.mul_one] at h5 h6
    have hcl : cur.toList.length = c := by simpa using h5
    have hb : W'.heap[g]? = some (.cells cur.toList.toArray 48) := by rw [hW, h2, Array.toArray_toList]
    have hdl : (cs.drop k).length = n - k := by rw [List.length_drop, hl]
    have q1 := heap_setMany (cs.drop k) (k + 1) W' cur.toList hb (by omega)
    have q2 := heap_setMany [x] k _ _ q1 (by simp; omega)
    have ht : cur.toList.take (k + 1) = cur.toList.take k ++ [cur.toList[k]'(by omega)] := by rw [List.take_add_one, List.getElem?_eq_getElem (by omega)]; rfl
    have htk : cur.toList.take k = cs.take k := by rw [← h6, List.take_take, Nat.min_eq_left (by omega)]
    have htl : (cur.toList.take k).length = k := by rw [List.length_take]; omega
    refine ⟨by simp; omega, .inr ⟨g, c, _, rfl, h1, q2, hroom, h4, ?_, ?_⟩⟩
    · simp
      omega
    · rw [Nat.mul_one, ht]
      have e1 : (cur.toList.take k ++ [cur.toList[k]'(by omega)] ++ cs.drop k ++ cur.toList.drop (k + 1 + (cs.drop k).length)).take k = cs.take k := by
        rw [List.append_assoc, List.append_assoc, List.take_left' htl, htk]
      have e2 : (cur.toList.take k ++ [cur.toList[k]'(by omega)] ++ cs.drop k ++ cur.toList.drop (k + 1 + (cs.drop k).length)).drop (k + [x].length) = cs.drop k ++ cur.toList.drop (k + 1 + (cs.drop k).length) := by
        rw [List.append_assoc (cur.toList.take k ++ [cur.toList[k]'(by omega)])]
        exact List.drop_left' (by simp; omega)
      show List.take (n + 1) (List.take k _ ++ [x] ++ List.drop (k + [x].length) _) = _
      rw [e1, e2, ← List.append_assoc]
      exact List.take_left' (by simp; omega)
theorem size48 (w : World) : (Go.sizeOf 48).run Try.prog w = .ok 1 w := by kernel_rfl
theorem info48s : (Try.prog.info? 48).map (·.size) = some 1 := by kernel_rfl
set_option maxRecDepth 100000 in
set_option maxHeartbeats 4000000 in
theorem ins_shift (N g n c k vb : Nat) (cs : List Value) (x : Value) (W : World) (hn : n ≤ 1000) (hk : k < n) (hroom : n + 1 ≤ c) (ho : W.ownsRow N 48 1 (.slice (some ⟨g, 0, none⟩) n c) n cs) (hx : Boxed W vb 48 x) (hvg : vb ≠ g) (h1 : x.oneCell' = true) (h1c : ∀ v ∈ cs, v.oneCell' = true) :
    Calls Try.prog 65 #[.slice (some ⟨g, 0, none⟩) n c, .int .i64 k, .slice (some ⟨vb, 0, none⟩) 1 1] W (InsPost N W (.slice (some ⟨g, 0, none⟩) n c) n (cs.take k ++ [x] ++ cs.drop k)) := by
  have hmx : Try.prog.follows .mixedOrders = true := by kernel_rfl
  have HRow := Aside0.mk (fun (W' : World) => ins_row (x := x) (W' := W') hk hroom ho)
  have hcl : cs.length = n := by have := ho.1; rwa [Nat.mul_one] at this
  obtain ⟨cur, h2, h5, h6, h3⟩ : ∃ cur, W.heap[g]? = some (.cells cur 48) ∧ cur.size = c ∧ cur.toList.take n = cs ∧ c ≤ maxLen := by
    rcases ho.2 with ⟨e, _⟩ | ⟨g2, cap, cur, e, h1, h2, h3, h4, h5, h6⟩
    · cases e
    · injection e with e1 _ e3
      injection e1 with e1
      injection e1 with e1 _ _
      subst e1 e3
      rw [Nat.mul_one] at h5 h6
      exact ⟨cur, h2, h5, h6, h4⟩
  unfold maxLen at h3
  have hsa : W.shape? vb = some (48, 1) := by unfold World.shape?; rw [show W.heap[vb]? = _ from hx]; rfl
  have hsb : W.shape? g = some (48, c) := by unfold World.shape?; rw [h2, ← h5]
  have hfa : W.frozen? ⟨vb, 0, none⟩ = false := frozen_of_cells hx 0
  have hfe : W.frozen? ⟨vb, 1, none⟩ = false := frozen_of_cells hx 1
  have hsp : ∀ j, j < n + 1 → (W.cell? ⟨g, j, none⟩).isSome = true := fun j hj => by
    rw [cell_of_cells h2 (Array.getElem?_eq_getElem (show j < cur.size by omega))]; rfl
  have hfz : ∀ j, W.frozen? ⟨g, j, none⟩ = false := fun j => frozen_of_cells h2 j
  have hcs : ∀ j v, cs[j]? = some v → W.cell? ⟨g, j, none⟩ = some v := fun j v hj => by
    refine cell_of_cells h2 ?_
    rw [← h6] at hj
    rw [List.getElem?_take] at hj
    split at hj
    · simpa using hj
    · cases hj
  have hov : ∀ lb cb, (callFunc 82 #[.slice (some ⟨vb, 0, none⟩) 1 1, .slice (some ⟨g, k + 1, none⟩) lb cb]).run Try.prog W = .ok (.value (.bool false)) W := fun lb cb => by
    rw [run_callFunc_extern Try.func82 (by kernel_rfl) (by kernel_rfl) (by kernel_rfl) (e := Extern.SlicesOverlaps.overlaps #[22, 22] #[4]) (by kernel_rfl),
      Lib.run_overlaps_apart W 22 4 48 Try.underlying22 1 size48 ⟨vb, 0, none⟩ ⟨g, k + 1, none⟩ 1 1 lb cb hvg 48 48 1 c hsa hsb (by omega) hfa hfe]
    rfl
  have hdl : (cs.drop k).length = n - k := by rw [List.length_drop, hcl]
  have hw1 : IntKind.i64.wrap ((k : Int) + 1) = (k : Int) + 1 := by rw [IntKind.wrap_i64]; omega
  have hb1 : (0 : Int) ≤ (k : Int) + 1 := by omega
  have hin : k ≤ n := by omega
  have htn : ((k : Int) + 1).toNat = k + 1 := by omega
  have hb2 : ¬ (c = k + 1) := by omega
  have hb3 : (k : Int) ≤ (n : Int) + 1 := by omega
  have hb4 : ¬ (c = k) := by omega
  have hz2 : ¬ ((k : Int) = (n : Int)) := by omega
  have hcp1 : ∀ ty dc sc, (Builtin.copy_ #[22, 22] ty #[.slice (some ⟨g, k + 1, none⟩) (n - k) dc, .slice (some ⟨g, k, none⟩) (n + 1 - k) sc]).run Try.prog W.drew = .ok (goInt (cs.drop k).length) (W.drew.setCells g (k + 1) (cs.drop k)) := fun ty dc sc =>
    run_copy_cells W.drew _ _ ty 48 g (k + 1) (n - k) dc ⟨g, k, none⟩ (n + 1 - k) sc (cs.drop k) Try.underlying22 info48s (by rw [hdl]; simp only [Nat.min_def]; split <;> omega)
      (fun j v hj => by rw [Addr.add_lit]; exact hcs (k + j) v (by rwa [List.getElem?_drop] at hj))
      (fun j hj => hsp (k + 1 + j) (by omega)) (fun j hj => hfz _) (fun v hv => h1c v (List.mem_of_mem_drop hv))
  obtain ⟨W1, hW1⟩ : ∃ W1, W1 = W.drew.setCells g (k + 1) (cs.drop k) := ⟨_, rfl⟩
  have hsp1 : ∀ j, j < n + 1 → (W1.cell? ⟨g, j, none⟩).isSome = true := fun j hj => by
    rw [hW1]
    exact isSome_setCells g (cs.drop k) (k + 1) W.drew (fun i hi => hsp (k + 1 + i) (by omega)) _ (hsp j hj)
  have hcp2 : ∀ (w : World), (∀ x, w.cell? x = W1.cell? x) → (∀ x, w.frozen? x = W1.frozen? x) → ∀ ty dc, (Builtin.copy_ #[22, 22] ty #[.slice (some ⟨g, k, none⟩) (n + 1 - k) dc, .slice (some ⟨vb, 0, none⟩) 1 1]).run Try.prog w = .ok (goInt 1) (w.setCells g k [x]) := fun w hWc hWf ty dc =>
    run_copy_cells w _ _ ty 48 g k (n + 1 - k) dc ⟨vb, 0, none⟩ 1 1 [x] Try.underlying22 info48s (by simp only [List.length_singleton, Nat.min_def]; split <;> omega)
      (fun j v hj => by
        cases j with
        | zero =>
          cases hj
          rw [Addr.add_lit, hWc, hW1, World.cell?_setCells_out g _ _ _ _ (fun h _ => absurd h hvg)]
          exact hx.cell
        | succ j => cases hj)
      (fun j hj => by simp at hj; subst hj; rw [hWc]; exact hsp1 _ (by omega)) (fun j hj => by rw [hWf, hW1, World.frozen?_setCells]; exact hfz _) (by simpa using h1)
  rw [← hW1] at hcp1
  have HE := Aside0.mk hW1
  have HC := Aside0.mk (And.intro hcp1 hcp2)
  clear hW1 hcp1 hcp2 hsp1 hcs hfz hsp h6 h2 hsa hsb hfa hfe h1c ho
  go_enter Try.func65, Try.ntmps65
  go_wp2_with (simp only [hov])
  go_region_law (refine step_copy_runI rfl _ _ 22 22 rfl (.slice (some ⟨g, k + 1, none⟩) (n - k) (c - (k + 1))) (.slice (some ⟨g, k, none⟩) (n + 1 - k) (c - k)) (by simp [Act.eval, Act.put]) (by simp [Act.eval, Act.put]) (HC.out.1 3 (c - (k + 1)) (c - k)) ?_)
  go_wp2_with (with_reducible refine wpList_copy_runI (P := Try.prog) _ rfl (.tmp 80) (.tmp 81) 22 22 rfl (.slice (some ⟨g, k, none⟩) (n + 1 - k) (c - k)) (.slice (some ⟨vb, 0, none⟩) 1 1) rfl rfl (HC.out.2 W1 (fun _ => rfl) (fun _ => rfl) 3 (c - k)) ?_)
  go_ret
  refine ⟨some ⟨g, 0, none⟩, c, rfl, ?_, ?_, fun j hj => .inl hj⟩
  · rw [HE.out]
    exact HRow.out W.drew rfl
  · rw [HE.out]
    have h := set_grown (g := g) (cs.drop k) (k + 1) W.drew
    exact grown_trans ⟨h.os, h.tape, h.output, h.size, h.block⟩ (set_grown (g := g) [x] k _)
set_option maxRecDepth 100000 in
set_option maxHeartbeats 4000000 in
theorem ins_grow (N g n c k vb : Nat) (cs : List Value) (x : Value) (W : World) (hn : n ≤ 1000) (hN : N ≤ W.heap.size) (hk : k < n) (hnc : n ≤ c) (hroom : c < n + 1) (ho : W.ownsRow N 48 1 (.slice (some ⟨g, 0, none⟩) n c) n cs) (hx : Boxed W vb 48 x) (h1 : x.oneCell' = true) (h1c : ∀ v ∈ cs, v.oneCell' = true) :
    Calls Try.prog 65 #[.slice (some ⟨g, 0, none⟩) n c, .int .i64 k, .slice (some ⟨vb, 0, none⟩) 1 1] W (InsPost N W (.slice (some ⟨g, 0, none⟩) n c) n (cs.take k ++ [x] ++ cs.drop k)) := by
  have hmx : Try.prog.follows .mixedOrders = true := by kernel_rfl
  obtain rfl : c = n := by omega
  obtain ⟨i0, hi0, hz0, hzs, hzb⟩ := info_parts infoC49
  have hcl : cs.length = c := by have := ho.1; rwa [Nat.mul_one] at this
  have hcs : ∀ j v, cs[j]? = some v → W.cell? ⟨g, j, none⟩ = some v := fun j v hj => by
    have := World.ownsRow.cells ho (g := g) rfl j v hj
    rwa [Addr.add_lit, Nat.zero_add] at this
  have hbw : g < W.heap.size := cell_lt (hcs 0 _ (List.getElem?_eq_getElem (by omega)))
  have hvw : vb < W.heap.size := cell_lt hx.cell
  have hkk : (c : Int) + 1 - (k : Int) = ((c + 1 - k : Nat) : Int) := by omega
  have hik : k + (c + 1 - k) = c + 1 := by omega
  have hold : (Builtin.firstCells i0.size k (.slice (some ⟨g, 0, none⟩) k c)).run Try.prog W.drew = .ok (cs.take k).toArray W.drew := by
    rw [hzs]
    exact run_firstCells_some W.drew 1 k ⟨g, 0, none⟩ k c (cs.take k) (by rw [List.length_take]; omega) (fun j v hj => by
      rw [Addr.add_lit, Nat.zero_add]
      rw [List.getElem?_take] at hj
      split at hj
      · exact hcs j v hj
      · cases hj)
  obtain ⟨G, hG⟩ : ∃ G, G = grownCap W (c + 1) c 48 := ⟨_, rfl⟩
  obtain ⟨ROW, hROW⟩ : ∃ ROW : Array Value, ROW = (cs.take k).toArray ++ Builtin.zeroCells (Value.slice none 0 0).cells (c + 1 - k) ++ Builtin.zeroCells (Value.slice none 0 0).cells (G - (c + 1)) := ⟨_, rfl⟩
  have hrz : ∀ ty, (Builtin.append_ #[22, 3] ty #[.slice (some ⟨g, 0, none⟩) k c, .int .i64 ((c : Int) + 1 - (k : Int))]).run Try.prog W =
      .ok (.slice (some ⟨W.heap.size, 0, none⟩) (c + 1) G) (W.drew.alloc (.cells ROW 48)) := fun ty => by
    have h := Lib.run_append_grow_zeros W 22 3 ty 48 i0 _ .i64 .i64 Try.underlying22 Try.underlying3 hi0 hz0 (some ⟨g, 0, none⟩) k c (cs.take k) hold (c + 1 - k) (by omega) (by omega) (by omega) (by omega) (by rw [hzb]; omega) (by rw [hzb, hik]; exact growslice_fits (by omega) (by omega))
    rw [hik] at h
    rw [hkk, hROW, hG]
    exact h
  have hGn : c + 1 ≤ G := by rw [hG]; exact grownCap_ge W _ _ _
  have hGm : G ≤ maxLen := by
    rw [hG]
    exact grownCap_le_maxLen W (c + 1) c 48 (by unfold maxLen; omega)
  have hG63 : G ≤ 9223372036854775807 := by unfold maxLen at hGm; omega
  have hRl : ROW.size = G := by
    rw [hROW]
    simp [Builtin.zeroCells, Value.cells]
    omega
  have hRt : ROW.toList.take k = cs.take k := by
    rw [hROW]
    simp only [Array.toList_append, List.append_assoc]
    exact List.take_left' (by rw [List.length_take]; omega)
  obtain ⟨W1, hW1⟩ : ∃ W1, W1 = W.drew.alloc (.cells ROW 48) := ⟨_, rfl⟩
  rw [← hW1] at hrz
  have hNw : W1.heap[W.heap.size]? = some (.cells ROW 48) := by rw [hW1]; exact World.alloc_heap_new W.drew _
  have hNc : ∀ j, j < c + 1 → (W1.cell? ⟨W.heap.size, j, none⟩).isSome = true := fun j hj => by
    rw [cell_of_cells hNw (Array.getElem?_eq_getElem (show j < ROW.size by omega))]; rfl
  have hNf : ∀ j, W1.frozen? ⟨W.heap.size, j, none⟩ = false := fun j => frozen_of_cells hNw j
  have hOb : ∀ j v, W.cell? ⟨g, j, none⟩ = some v → W1.cell? ⟨g, j, none⟩ = some v := fun j v h => by rw [hW1]; exact (cell_of_block (Below.heap_alloc W.drew _ g hbw) j).trans h
  have hOv : W1.cell? ⟨vb, 0, none⟩ = some x := by rw [hW1]; exact (cell_of_block (Below.heap_alloc W.drew _ vb hvw) 0).trans hx.cell
  have hcpA : ∀ (w : World), (∀ x, w.cell? x = W1.cell? x) → (∀ x, w.frozen? x = W1.frozen? x) → ∀ ty dc, (Builtin.copy_ #[22, 22] ty #[.slice (some ⟨W.heap.size, k, none⟩) (c + 1 - k) dc, .slice (some ⟨vb, 0, none⟩) 1 1]).run Try.prog w = .ok (goInt 1) (w.setCells W.heap.size k [x]) := fun w hWc hWf ty dc =>
    run_copy_cells w _ _ ty 48 W.heap.size k (c + 1 - k) dc ⟨vb, 0, none⟩ 1 1 [x] Try.underlying22 info48s (by simp only [List.length_singleton, Nat.min_def]; split <;> omega)
      (fun j v hj => by
        cases j with
        | zero =>
          cases hj
          rw [Addr.add_lit, hWc]
          exact hOv
        | succ j => cases hj)
      (fun j hj => by simp at hj; subst hj; rw [hWc]; exact hNc _ (by omega)) (fun j hj => by rw [hWf]; exact hNf _) (by simpa using h1)
  have hbN : g ≠ W.heap.size := by omega
  have hdl : (cs.drop k).length = c - k := by rw [List.length_drop, hcl]
  have hcpB : ∀ (w : World), (∀ y, w.cell? y = (W1.setCells W.heap.size k [x]).cell? y) → (∀ y, w.frozen? y = (W1.setCells W.heap.size k [x]).frozen? y) → ∀ ty dc sc, (Builtin.copy_ #[22, 22] ty #[.slice (some ⟨W.heap.size, k + 1, none⟩) (c - k) dc, .slice (some ⟨g, k, none⟩) (c - k) sc]).run Try.prog w = .ok (goInt (cs.drop k).length) (w.setCells W.heap.size (k + 1) (cs.drop k)) := fun w hWc hWf ty dc sc =>
    run_copy_cells w _ _ ty 48 W.heap.size (k + 1) (c - k) dc ⟨g, k, none⟩ (c - k) sc (cs.drop k) Try.underlying22 info48s (by rw [hdl]; simp only [Nat.min_def]; split <;> omega)
      (fun j v hj => by
        rw [Addr.add_lit, hWc, World.cell?_setCells_out _ _ _ _ _ (fun h _ => absurd h hbN)]
        exact hOb _ v (hcs (k + j) v (by rwa [List.getElem?_drop] at hj)))
      (fun j hj => by rw [hWc]; exact isSome_setCells _ [x] k _ (fun t ht => hNc _ (by simp at ht; omega)) _ (hNc _ (by omega)))
      (fun j hj => by rw [hWf, World.frozen?_setCells]; exact hNf _) (fun v hv => h1c v (List.mem_of_mem_drop hv))
  have hA := fun ty dc => hcpA W1 (fun _ => rfl) (fun _ => rfl) ty dc
  obtain ⟨W2, hW2⟩ : ∃ W2, W2 = W1.setCells W.heap.size k [x] := ⟨_, rfl⟩
  rw [← hW2] at hA hcpB
  have hB := fun ty dc sc => hcpB W2.drew (fun _ => rfl) (fun _ => rfl) ty dc sc
  obtain ⟨W3, hW3⟩ : ∃ W3, W3 = W2.drew.setCells W.heap.size (k + 1) (cs.drop k) := ⟨_, rfl⟩
  rw [← hW3] at hB
  have HF := Aside0.mk (show InsPost N W (.slice (some ⟨g, 0, none⟩) c c) c (cs.take k ++ [x] ++ cs.drop k) (.returned (.slice (some ⟨W.heap.size, 0, none⟩) (c + 1) G)) W3 from by
    have b1 : W1.heap[W.heap.size]? = some (.cells ROW.toList.toArray 48) := by rw [hNw, Array.toArray_toList]
    have hRl2 : ROW.toList.length = G := by simpa using hRl
    have q1 := heap_setMany [x] k W1 ROW.toList b1 (by simp; omega)
    rw [← hW2] at q1
    have q2 := heap_setMany (cs.drop k) (k + 1) W2.drew _ q1 (by simp; omega)
    rw [← hW3] at q2
    have htl : (cs.take k).length = k := by rw [List.length_take]; omega
    refine ⟨some ⟨W.heap.size, 0, none⟩, G, rfl, ⟨by simp; omega, .inr ⟨W.heap.size, G, _, rfl, hN, q2, hGn, hGm, by simp; omega, ?_⟩⟩, ?_, fun j hj => .inr (Nat.le_of_eq (Option.some.inj hj))⟩
    · rw [hRt]
      have e1 : (cs.take k ++ [x] ++ ROW.toList.drop (k + [x].length)).take (k + 1) = cs.take k ++ [x] := List.take_left' (by simp; omega)
      show List.take ((c + 1) * 1) (List.take (k + 1) (cs.take k ++ [x] ++ ROW.toList.drop (k + [x].length)) ++ cs.drop k ++ List.drop _ _) = _
      rw [e1]
      exact List.take_left' (by simp; omega)
    · have g1 : W.grownBy W1 none := by rw [hW1]; exact ⟨rfl, rfl, rfl, by simp, fun j hj _ => Below.heap_alloc W.drew _ j hj⟩
      have g2 := set_grown (g := W.heap.size) [x] k W1
      rw [← hW2] at g2
      have g3 := set_grown (g := W.heap.size) (cs.drop k) (k + 1) W2.drew
      rw [← hW3] at g3
      have hs1 := g1.size
      have hs2 := g2.size
      refine ⟨g3.os.trans (g2.os.trans g1.os), g3.tape.trans (g2.tape.trans g1.tape), g3.output.trans (g2.output.trans g1.output), Nat.le_trans g1.size (Nat.le_trans g2.size g3.size), fun j hj _ => ?_⟩
      have hne : some j ≠ some W.heap.size := fun e => by injection e with e; omega
      exact (g3.block j (by show j < W2.heap.size; omega) hne).trans ((g2.block j (by omega) hne).trans (g1.block j hj (by simp))))
  have hw1 : IntKind.i64.wrap ((k : Int) + 1) = (k : Int) + 1 := by rw [IntKind.wrap_i64]; omega
  have hb1 : (0 : Int) ≤ (k : Int) + 1 := by omega
  have htn : ((k : Int) + 1).toNat = k + 1 := by omega
  have hb3 : (k : Int) ≤ (c : Int) := by omega
  have hb5 : (k : Int) + 1 ≤ (c : Int) + 1 := by omega
  have hGi : ¬ (G = k) := by omega
  have hGim : ¬ (G = k + 1) := by omega
  have hci : ¬ (c = k) := by omega
  have hz2 : ¬ ((k : Int) = (c : Int)) := by omega
  clear hW1 hW2 hW3 hcpA hcpB hNc hNf hOb hOv hNw hRt hRl hROW hold hcs hkk hik hG h1c ho hx hGm hdl
  go_enter Try.func65, Try.ntmps65
  go_wp2_with (first
    | (at_builtin; refine Lib.wpList_append_run _ rfl _ _ _ _ rfl _ _ rfl rfl _ _ (hrz _) ?_)
    | (with_reducible refine wpList_copy_runI (P := Try.prog) _ rfl (.tmp 43) (.tmp 44) 22 22 rfl (.slice (some ⟨W.heap.size, k, none⟩) (c + 1 - k) (G - k)) (.slice (some ⟨vb, 0, none⟩) 1 1) rfl rfl (hA 3 (G - k)) ?_))
  go_region_law (refine step_copy_runI rfl _ _ 22 22 rfl (.slice (some ⟨W.heap.size, k + 1, none⟩) (c - k) (G - (k + 1))) (.slice (some ⟨g, k, none⟩) (c - k) (c - k)) (by simp [Act.eval, Act.put]) (by simp [Act.eval, Act.put]) (hB 3 (G - (k + 1)) (c - k)) ?_)
  go_wp2
  go_ret
  exact HF.out
/-- INSERT: one row more among the rows, at k. -/
theorem ins_ok (N : Nat) (a : Option Addr) (n c k vb : Nat) (cs : List Value) (x : Value) (W : World) (hn : n ≤ 1000) (hN : N ≤ W.heap.size) (hk : k ≤ n) (ho : W.ownsRow N 48 1 (.slice a n c) n cs) (hx : Boxed W vb 48 x)
    (hvg : (Value.slice a n c).ownBlock ≠ some vb) (h1 : x.oneCell' = true) (h1c : ∀ v ∈ cs, v.oneCell' = true) :
    Calls Try.prog 65 #[.slice a n c, .int .i64 k, .slice (some ⟨vb, 0, none⟩) 1 1] W (InsPost N W (.slice a n c) n (cs.take k ++ [x] ++ cs.drop k)) := by
  have hcl : cs.length = n := by have := ho.1; rwa [Nat.mul_one] at this
  rcases Nat.eq_or_lt_of_le hk with rfl | hlt
  · rw [List.take_of_length_le (by omega), List.drop_eq_nil_of_le (by omega), List.append_nil]
    exact ins_end N a k c vb cs x W hn hN ho hx.cell h1
  · rcases own_one ho with ⟨e, hl⟩ | ⟨g, cap, e, hg1, hg2, hcap, hc⟩
    · injection e with e1 e2 e3
      omega
    · injection e with e1 e2 e3
      subst e1
      by_cases hr : n + 1 ≤ c
      · exact ins_shift N g n c k vb cs x W hn hlt hr ho hx (fun e => hvg (by rw [e]; rfl)) h1 h1c
      · exact ins_grow N g n c k vb cs x W hn hN hlt (by omega) (by omega) ho hx h1 h1c
end Go.Proofs.Ytghpjlohoehdnaa.Sep

/-! sort.Top: the first of rows in order. No condition beyond those that each theorem names. -/
namespace Go.Proofs.Ytghpjlohoehdnaa.Sep
open Go Go.RowKit Go.Shelf
attribute [local go_sem] Oper.semAt_some
set_option linter.unusedVariables false
set_option linter.unusedSimpArgs false
/-- the rows at the head, of those that came -/
def topR (by_ : Order) (n0 : Nat) (rows : List (List V3)) : List (List V3) := (stab (fun a b => cmpR a b by_) rows).take n0
def tc (by_ : Order) (n0 : Nat) (rows : List (List V3)) : List Cd := (topR by_ n0 rows).map fun r => ((0 : Int), r)
/-- what best is -/
structure BestI (N : Nat) (rows : List (List V3)) (a : Option Addr) (c : Nat) (rs : List RV) (X : Nat → Prop) (W : World) : Prop where
  box : Boxed W (N + 2) 22 (.slice a rs.length c)
  own : W.ownsRow (N + 3) 48 1 (.slice a rs.length c) rs.length (rs.map RV.v)
  all : All2 (fun q row => Cont W q row ∧ q.n ≤ 1000 ∧ ∀ j, q.blk j → N + 3 ≤ j ∧ X j) rs rows
  mine : ∀ j, (Value.slice a rs.length c).ownBlock = some j → X j
  dis : ∀ q ∈ rs, ∀ j, q.blk j → (Value.slice a rs.length c).ownBlock ≠ some j
/-- how far Top has come -/
structure TI (N : Nat) (by_ : Order) (n0 : Nat) (cs : List Cd) (pre : List (RV × Int)) (X : Nat → Prop) (W : World) : Prop where
  ex : ∃ a c rs, BestI N (topR by_ n0 ((cs.map Prod.snd).take pre.length)) a c rs X W
  po : PreOk cs pre
  b0 : Boxed W N 31 .nilFunc
  b1 : Boxed W (N + 1) 25 (.int .i64 0)
  x0 : X N
  x1 : X (N + 1)
  x2 : X (N + 2)
  lo : ∀ j, X j → N ≤ j
  hi : ∀ j, X j → j < W.heap.size
theorem BestI.same {N : Nat} {rows : List (List V3)} {a : Option Addr} {c : Nat} {rs : List RV} {X : Nat → Prop} {W W' : World} (h : BestI N rows a c rs X W) (hx : X (N + 2)) (hs : W.heap.size ≤ W'.heap.size) (hb : ∀ j, X j → W'.heap[j]? = W.heap[j]?) : BestI N rows a c rs X W' :=
  ⟨boxed_same (hb _ hx) h.box, ownsRow_same (fun j hj => hb j (h.mine j hj)) h.own, h.all.imp fun q row hq => ⟨hq.1.same hs (fun j hj => hb j (hq.2.2 j hj).2), hq.2⟩, h.mine, h.dis⟩
theorem TI.stable {M : Nat → Prop} {N n0 n₀ : Nat} {by_ : Order} {cs : List Cd} : StableM M n₀ (TI N by_ n0 cs) := by
  intro pre X W W' h ha
  have hb : ∀ j, X j → W'.heap[j]? = W.heap[j]? := fun j hj => ha.block j (.inl hj)
  obtain ⟨a, c, rs, h1⟩ := h.ex
  exact ⟨⟨a, c, rs, h1.same h.x2 ha.size hb⟩, h.po, boxed_same (hb _ h.x0) h.b0, boxed_same (hb _ h.x1) h.b1, h.x0, h.x1, h.x2, h.lo, fun j hj => Nat.lt_of_lt_of_le (h.hi j hj) ha.size⟩
theorem BestI.rowsAt {N : Nat} {rows : List (List V3)} {a : Option Addr} {c : Nat} {rs : List RV} {X : Nat → Prop} {W : World} (h : BestI N rows a c rs X W) : RowsAt W a rs.length rows := by
  intro j hj
  rcases own_one h.own with ⟨e, hl⟩ | ⟨g, cap, e, hg1, hg2, hcap, hc⟩
  · injection e with e1 e2 e3
    omega
  · injection e with e1 e2 e3
    have hl := h.all.len
    obtain ⟨k1, k2, k3⟩ := h.all.get j _ _ (List.getElem?_eq_getElem hj) (List.getElem?_eq_getElem (by omega))
    exact ⟨g, rs[j], rows[j]'(by omega), e1, List.getElem?_eq_getElem _, hc j _ (by rw [List.getElem?_map, List.getElem?_eq_getElem hj]; rfl), k1, k2⟩
/-- behind Insert: one row more among the rows, all else as it was -/
structure TMid (N : Nat) (Wb : World) (bv : Value) (m kk : Nat) (rsv : List Value) (row : List V3) (r' : RV) (a' : Option Addr) (c' : Nat) (w : World) : Prop where
  own : w.ownsRow (N + 3) 48 1 (.slice a' (m + 1) c') (m + 1) (rsv.take kk ++ [r'.v] ++ rsv.drop kk)
  cont : Cont w r' row
  blk : ∀ j, r'.blk j → Wb.heap.size ≤ j
  len : r'.n = row.length
  os : w.os = Wb.os
  tape : w.tape = Wb.tape
  output : w.output = Wb.output
  size : Wb.heap.size ≤ w.heap.size
  block : ∀ j, j < Wb.heap.size → bv.ownBlock ≠ some j → w.heap[j]? = Wb.heap[j]?
  mine : ∀ j, (Value.slice a' (m + 1) c').ownBlock = some j → bv.ownBlock = some j ∨ Wb.heap.size ≤ j
  dis : ∀ j, r'.blk j → (Value.slice a' (m + 1) c').ownBlock ≠ some j
/-- behind the store -/
def TFin (N : Nat) (Wb : World) (bv : Value) (m kk : Nat) (rsv : List Value) (row : List V3) (w6 : World) : Prop :=
  ∃ (r' : RV) (a' : Option Addr) (c' : Nat) (w : World), TMid N Wb bv m kk rsv row r' a' c' w ∧ w6 = w.setCell ⟨N + 1 + 1, 0, none⟩ (.slice a' (m + 1) c')
theorem all2_mem {α β : Type} {P Q : α → β → Prop} : ∀ {l : List α} {m : List β}, All2 P l m → (∀ a ∈ l, ∀ b, P a b → Q a b) → All2 Q l m
  | [], [], _, _ => trivial
  | a :: l, b :: m, h, hq => ⟨hq a (List.mem_cons_self ..) b h.1, all2_mem h.2 fun x hx => hq x (List.mem_cons_of_mem _ hx)⟩
theorem own_prefix {w : World} {N T n m c : Nat} {a : Option Addr} {xs : List Value} (h : w.ownsRow N T 1 (.slice a n c) n xs) (hm : m ≤ n) : w.ownsRow N T 1 (.slice a m c) m (xs.take m) := by
  obtain ⟨hl, h⟩ := h
  refine ⟨by rw [List.length_take]; omega, ?_⟩
  rcases h with ⟨e, e2⟩ | ⟨g, cap, cur, e, h1, h2, h3, h4, h5, h6⟩
  · injection e with e1 e3 e4
    subst e1 e4
    obtain rfl : m = 0 := by omega
    exact .inl ⟨rfl, rfl⟩
  · injection e with e1 _ e3
    subst e1 e3
    exact .inr ⟨g, c, cur, rfl, h1, h2, by omega, h4, h5, by rw [← h6, List.take_take]; congr 1; omega⟩
theorem topR_len (by_ : Order) (n0 : Nat) (rows : List (List V3)) : (topR by_ n0 rows).length = min n0 rows.length := by
  unfold topR
  rw [List.length_take, stab_len]
theorem TI.keep {N n0 k : Nat} {by_ : Order} {cs : List Cd} {pre : List (RV × Int)} {x : RV × Int} {X : Nat → Prop} {W3 W4 : World} {a : Option Addr} {c : Nat} {rs : List RV} {row : List V3}
    (hI : TI N by_ n0 cs pre X W3) (hB : BestI N (topR by_ n0 ((cs.map Prod.snd).take pre.length)) a c rs X W3) (hpo : PreOk cs (pre ++ [x])) (hb : Below W3.heap.size W3 W4) (hrow : (cs.map Prod.snd)[pre.length]? = some row)
    (hk : k ≤ rs.length) (hkn : n0 ≤ k) (hbi : BSI (topR by_ n0 ((cs.map Prod.snd).take pre.length)) row by_ k k) :
    Gr X X W3.heap.size W3 W4 ∧ TI N by_ n0 cs (pre ++ [x]) X W4 := by
  have hl := hB.all.len
  rw [topR_len] at hl
  obtain rfl : k = n0 := by omega
  have e : topR by_ k ((cs.map Prod.snd).take (pre ++ [x]).length) = topR by_ k ((cs.map Prod.snd).take pre.length) := by
    rw [List.length_append, List.length_singleton, List.take_add_one, hrow]
    exact top_keep by_ _ row k (by rw [stab_len]; omega) hbi
  have hs := below_gr hI.hi hb
  have hbx : ∀ j, X j → W4.heap[j]? = W3.heap[j]? := fun j hj => hb.block j (hI.hi j hj)
  refine ⟨hs, ⟨⟨a, c, rs, by rw [e]; exact hB.same hI.x2 hb.size hbx⟩, hpo, boxed_same (hbx _ hI.x0) hI.b0, boxed_same (hbx _ hI.x1) hI.b1, hI.x0, hI.x1, hI.x2, hI.lo, fun j hj => Nat.lt_of_lt_of_le (hI.hi j hj) hb.size⟩⟩
theorem TI.add {N n0 k m2 K : Nat} {by_ : Order} {cs : List Cd} {pre : List (RV × Int)} {x : RV × Int} {X : Nat → Prop} {W3 W4 wm w6 : World} {a : Option Addr} {c c' g6 : Nat} {rs : List RV} {r' : RV} {row : List V3} {bv : Value}
    (hI : TI N by_ n0 cs pre X W3) (hB : BestI N (topR by_ n0 ((cs.map Prod.snd).take pre.length)) a c rs X W3) (hpo : PreOk cs (pre ++ [x])) (hb : Below W3.heap.size W3 W4) (hrow : (cs.map Prod.snd)[pre.length]? = some row) (hrl : row.length ≤ 1000)
    (hk : k ≤ rs.length) (hkn : k < n0) (hbi : BSI (topR by_ n0 ((cs.map Prod.snd).take pre.length)) row by_ k k) (hbv : Value.slice a rs.length c = bv) (hm2 : m2 = min n0 (rs.length + 1)) (hK : W3.heap.size = K)
    (hmid : TMid N W4 bv rs.length k (rs.map RV.v) row r' (some ⟨g6, 0, none⟩) c' wm) (hb6 : Boxed w6 (N + 2) 22 (.slice (some ⟨g6, 0, none⟩) (rs.length + 1) c')) (hfar : ∀ j, j ≠ N + 2 → w6.heap[j]? = wm.heap[j]?) (hsz6 : w6.heap.size = wm.heap.size)
    (hos6 : w6.os = W4.os ∧ w6.tape = W4.tape ∧ w6.output = W4.output) :
    Gr X (fun j => X j ∨ (K ≤ j ∧ j < wm.heap.size)) K W3 (w6.setCell ⟨N + 1 + 1, 0, none⟩ (.slice (some ⟨g6, 0, none⟩) m2 c')) ∧
      TI N by_ n0 cs (pre ++ [x]) (fun j => X j ∨ (K ≤ j ∧ j < wm.heap.size)) (w6.setCell ⟨N + 1 + 1, 0, none⟩ (.slice (some ⟨g6, 0, none⟩) m2 c')) := by
  subst hbv hK
  have hob := own_ge hB.own
  have hl := hB.all.len
  have hs3 := hI.hi _ hI.x2
  have hs4 := hb.size
  have hs5 := hmid.size
  have hbox7 : Boxed (w6.setCell ⟨N + 1 + 1, 0, none⟩ (.slice (some ⟨g6, 0, none⟩) m2 c')) (N + 2) 22 (.slice (some ⟨g6, 0, none⟩) m2 c') := hb6.set _
  have far7 : ∀ j, j ≠ N + 2 → (w6.setCell ⟨N + 1 + 1, 0, none⟩ (.slice (some ⟨g6, 0, none⟩) m2 c')).heap[j]? = wm.heap[j]? := fun j hj => (Below.heap_setCell _ _ _ j hj).trans (hfar j hj)
  have sz7 : (w6.setCell ⟨N + 1 + 1, 0, none⟩ (.slice (some ⟨g6, 0, none⟩) m2 c')).heap.size = wm.heap.size := (size_setCell _ _ _).trans hsz6
  have os7 : (w6.setCell ⟨N + 1 + 1, 0, none⟩ (.slice (some ⟨g6, 0, none⟩) m2 c')).os = W4.os ∧ (w6.setCell ⟨N + 1 + 1, 0, none⟩ (.slice (some ⟨g6, 0, none⟩) m2 c')).tape = W4.tape ∧ (w6.setCell ⟨N + 1 + 1, 0, none⟩ (.slice (some ⟨g6, 0, none⟩) m2 c')).output = W4.output := hos6
  generalize w6.setCell ⟨N + 1 + 1, 0, none⟩ (.slice (some ⟨g6, 0, none⟩) m2 c') = w7 at hbox7 far7 sz7 os7 ⊢
  have keep : ∀ j, j < W3.heap.size → j ≠ N + 2 → (Value.slice a rs.length c).ownBlock ≠ some j → w7.heap[j]? = W3.heap[j]? := fun j h1 h2 h3 => (far7 j h2).trans ((hmid.block j (by omega) h3).trans (hb.block j h1))
  have hg6 := own_ge hmid.own g6 rfl
  have hmine : X g6 ∨ (W3.heap.size ≤ g6 ∧ g6 < wm.heap.size) := by
    rcases hmid.mine g6 rfl with h | h
    · exact .inl (hB.mine _ h)
    · exact .inr ⟨by omega, hg6.2⟩
  have hrs : ((rs.take k ++ [r'] ++ rs.drop k).take n0).length = m2 := by
    rw [List.length_take, hm2]
    congr 1
    simp
    omega
  have etop : topR by_ n0 ((cs.map Prod.snd).take (pre ++ [x]).length) = ((topR by_ n0 ((cs.map Prod.snd).take pre.length)).take k ++ row :: (topR by_ n0 ((cs.map Prod.snd).take pre.length)).drop k).take n0 := by
    rw [List.length_append, List.length_singleton, List.take_add_one, hrow]
    have := top_ins by_ ((cs.map Prod.snd).take pre.length) row n0 k rs.length hl (by omega) hkn hbi
    rw [List.append_assoc, List.singleton_append] at this
    exact this
  refine ⟨⟨os7.1.trans hb.os, os7.2.1.trans hb.tape, os7.2.2.trans hb.output, by omega, fun j h1 h2 => keep j h1 (fun e => h2 (e ▸ hI.x2)) (fun e => h2 (hB.mine j e)), fun j hj => hj.imp id And.left, fun j hj => ?_⟩,
    ⟨⟨some ⟨g6, 0, none⟩, c', (rs.take k ++ [r'] ++ rs.drop k).take n0, ⟨by rw [hrs]; exact hbox7, ?_, ?_, ?_, ?_⟩⟩, hpo, boxed_same (keep N (by omega) (by omega) (fun e => by have := (hob _ e).1; omega)) hI.b0, boxed_same (keep (N + 1) (by omega) (by omega) (fun e => by have := (hob _ e).1; omega)) hI.b1, .inl hI.x0, .inl hI.x1, .inl hI.x2, ?_, ?_⟩⟩
  · rcases hj with h | h
    · have := hI.hi j h
      omega
    · omega
  · rw [hrs]
    have h1 := own_prefix hmid.own (m := m2) (by omega)
    have h2 : ((rs.map RV.v).take k ++ [r'.v] ++ (rs.map RV.v).drop k).take m2 = ((rs.take k ++ [r'] ++ rs.drop k).take n0).map RV.v := by
      rw [List.map_take, List.map_append, List.map_append, List.map_take, List.map_drop, List.map_singleton, hm2]
      rw [List.take_eq_take_iff]
      simp
      omega
    rw [h2] at h1
    refine ownsRow_same (fun j hj => ?_) h1
    have e2 : g6 = j := Option.some.inj hj
    exact far7 j (by have := hg6.1; omega)
  · rw [etop]
    refine all2_take n0 (All2.ins k (all2_mem hB.all ?_) ?_)
    · rintro q hq row' ⟨h1, h2, h3⟩
      refine ⟨h1.same (by omega) (fun j hj => keep j (hI.hi j (h3 j hj).2) (by have := (h3 j hj).1; omega) (hB.dis q hq j hj)), h2, fun j hj => ⟨(h3 j hj).1, .inl (h3 j hj).2⟩⟩
    · refine ⟨hmid.cont.same (by omega) (fun j hj => far7 j (by have := hmid.blk j hj; omega)), by rw [hmid.len]; exact hrl, fun j hj => ⟨by have := hmid.blk j hj; omega, .inr ⟨by have := hmid.blk j hj; omega, hmid.cont.blt j hj⟩⟩⟩
  · intro j hj
    rw [← Option.some.inj hj]
    exact hmine
  · intro q hq j hj e
    have e2 : g6 = j := Option.some.inj e
    subst e2
    have hq2 := List.mem_of_mem_take hq
    have hq3 : q ∈ rs ∨ q = r' := by
      rcases List.mem_append.1 hq2 with h | h
      · rcases List.mem_append.1 h with h | h
        · exact .inl (List.mem_of_mem_take h)
        · exact .inr (List.mem_singleton.1 h)
      · exact .inl (List.mem_of_mem_drop h)
    rcases hq3 with h | rfl
    · rcases hmid.mine g6 rfl with h1 | h1
      · exact hB.dis q h _ hj h1
      · obtain ⟨i, hi, rfl⟩ := List.getElem_of_mem h
        have h4 := (hB.all.get i _ _ (List.getElem?_eq_getElem hi) (List.getElem?_eq_getElem (by omega))).2.2 _ hj
        have := hI.hi _ h4.2
        omega
    · exact hmid.dis _ hj rfl
  · rintro j (h | h)
    · exact hI.lo j h
    · omega
  · rintro j (h | h)
    · have := hI.hi j h
      omega
    · omega
theorem tc_of {by_ : Order} {n0 : Nat} {rows : List (List V3)} {prs : List Pr} (h : prs.map Prod.snd = topR by_ n0 rows) (hz : ∀ p ∈ prs, p.1.2 = 0) : prs.map cdOf = tc by_ n0 rows := by
  unfold tc
  rw [← h, List.map_map]
  refine List.map_congr_left fun p hp => ?_
  show (p.1.2, p.2) = ((0 : Int), p.2)
  rw [hz p hp]
theorem BestI.ownB {N : Nat} {rows : List (List V3)} {a : Option Addr} {c : Nat} {rs : List RV} {X : Nat → Prop} {W : World} (h : BestI N rows a c rs X W) : OwnB (fun j => N + 3 ≤ j ∧ X j) W (.slice a rs.length c) rows := by
  rcases own_one h.own with ⟨e, hl⟩ | ⟨g, cap, e, hg1, hg2, hcap, hc⟩
  · injection e with e1 e2 e3
    refine .inl ⟨a, c, by rw [e2], ?_⟩
    have := h.all.len
    rw [e2] at this
    exact List.eq_nil_of_length_eq_zero this.symm
  · injection e with e1 e2 e3
    subst e1
    refine .inr ⟨g, 0, c, rs, rfl, ⟨hg1, h.mine g rfl⟩, hg2, fun j hj => ?_, h.all.imp fun q row hq => hq⟩
    rw [Nat.zero_add]
    exact hc j _ (by rw [List.getElem?_map, List.getElem?_eq_getElem hj]; rfl)
theorem list_p2 (P : Nat → Prop) (a : Option Addr) (k c : Nat) (rows : List (List V3)) (w : World) (h : OwnB P w (.slice a k c) rows) (hP : ∀ j, P j → j < w.heap.size) (hl : rows.length ≤ 100000) :
    Calls Try.prog 18 #[.slice a k c] w fun e w' => ∃ g la prs R, e = .returned (.func (.func g) #[] la) ∧ Below w.heap.size w w' ∧ prs.map Prod.snd = rows ∧ (∀ p ∈ prs, p.1.2 = 0) ∧ ItC (.func (.func g) #[] la) prs R w' ∧ ∀ j, R j → P j ∨ w.heap.size ≤ j := by
  refine (callsIn_wide.1 (list_make 1 a k c w)).mono ?_
  rintro e W' ⟨rfl, rfl⟩
  have b1 : Below w.heap.size w (w.alloc (.cells #[.slice a k c] 22)) := below_new _
  obtain ⟨prs, e1, e2, it⟩ := list_c w.heap.size _ rows P (w.alloc (.cells #[.slice a k c] 22)) (by simp) (fun j hj => Nat.lt_of_lt_of_le (hP j hj) b1.size) (Boxed.new w 22 (.slice a k c)).cell (OwnB.same b1.size (fun j hj => b1.block j (hP j hj)) h) hl
  exact ⟨41, _, prs, _, rfl, b1, e1, e2, it, fun j hj => hj.elim (fun h => .inr (by rw [h]; exact Nat.le_refl _)) .inl⟩
theorem ret61 {n D : Nat} {Φ : Ending → World → Prop} {tmps : Array Value} {W : World} {v : Value} {N : Nat} {e : Int} (hK : W.heap[D]? = some (.deferred (some []))) (h2 : tmps.getD 3 undef = .pointer (some ⟨N, 0, none⟩)) (h3 : tmps.getD 4 undef = .pointer (some ⟨N + 1, 0, none⟩))
    (b0 : Boxed W N 31 v) (b1 : Boxed W (N + 1) 25 (.int .i64 e)) (h : Φ (.returned (.tuple #[v, .int .i64 e])) (W.putObj D (.deferred none))) :
    bodyPostM Fence.wide n Try.prog Try.f61 Φ .ret { tmps := tmps, defers := [{ target := .collected D, args := #[] }] } W := by
  have n0 : N ≠ D := by rintro rfl; rw [show W.heap[N]? = _ from b0] at hK; cases hK
  have n1 : N + 1 ≠ D := by rintro rfl; rw [show W.heap[N + 1]? = _ from b1] at hK; cases hK
  refine ⟨by simp, .inl ⟨_, _, rfl, run_takeDeferred hK, ?_⟩⟩
  exact ⟨_, res61 N _ v e tmps h2 h3 (boxed_same (World.putObj_heap_other n0) b0) (boxed_same (World.putObj_heap_other n1) b1), h⟩
def TSt (L : List Value) (N : Nat) (Wb : World) (bv : Value) (m kk : Nat) (ra : Option Addr) (rn rc : Nat) (rsv : List Value) (row : List V3) (d : Nat → Bool) (a : Act) (w : World) : Prop :=
  ∃ x29 x30 x31 x32 x33 x34 : Value, a = { tmps := (L ++ [x29, x30, x31, x32, x33, x34, undef, undef, undef, undef, undef, undef, undef, undef]).toArray, defers := [] } ∧
    (d 0 = true → x29 = bv) ∧
    (d 1 = true → x30 = .int .i64 kk) ∧
    (d 2 = true → x31 = .slice ra rn rc) ∧
    (d 5 = false → Below Wb.heap.size Wb w) ∧
    (d 3 = true → d 4 = false → ∃ r' : RV, x32 = r'.v ∧ Cont w r' row ∧ (∀ j, r'.blk j → Wb.heap.size ≤ j) ∧ r'.n = row.length) ∧
    (d 4 = true → d 5 = false → ∃ (r' : RV) (g : Nat), x33 = .slice (some ⟨g, 0, none⟩) 1 1 ∧ Boxed w g 48 r'.v ∧ Wb.heap.size ≤ g ∧ Cont w r' row ∧ (∀ j, r'.blk j → Wb.heap.size ≤ j) ∧ r'.n = row.length) ∧
    (d 5 = true → d 6 = false → ∃ (r' : RV) (a' : Option Addr) (c' : Nat), x34 = .slice a' (m + 1) c' ∧ TMid N Wb bv m kk rsv row r' a' c' w) ∧
    (d 6 = true → TFin N Wb bv m kk rsv row w)
/-- what waits for what -/
def TCl (d : Nat → Bool) : Prop := (d 3 = true → d 2 = true) ∧ (d 4 = true → d 3 = true) ∧ (d 5 = true → (d 0 = true ∧ d 1 = true) ∧ d 4 = true) ∧ (d 6 = true → d 5 = true)
set_option maxRecDepth 100000 in
set_option maxHeartbeats 4000000 in
theorem top1_ok (Br Bo Bn : Nat) (so v : Value) (by_ : Order) (n : Int) (cs : List Cd) (R X0 : Nat → Prop) (w : World) (hit : ItM (fun _ => False) R v cs w) (hcr : w.cell? ⟨Br, 0, none⟩ = some v) (hco : w.cell? ⟨Bo, 0, none⟩ = some so) (hcn : w.cell? ⟨Bn, 0, none⟩ = some (.int .i64 n))
    (ho : Ord w so by_) (hby : by_.length ≤ 1000) (hlen : cs.length ≤ 60) (hz : ∀ c ∈ cs, c.1 = 0) (hX : ∀ j, X0 j → j < w.heap.size) (hn1 : -9223372036854775808 ≤ n) (hn2 : n ≤ 9223372036854775807) :
    Calls Try.prog 61 #[.pointer (some ⟨Br, 0, none⟩), .pointer (some ⟨Bo, 0, none⟩), .pointer (some ⟨Bn, 0, none⟩)] w (Made (fun _ => False) 0 (tc by_ n.toNat (cs.map Prod.snd)) X0 w) := by
  have hro : Fence.wide.round = none := rfl
  have hmx : Try.prog.follows .mixedOrders = true := by kernel_rfl
  obtain ⟨g, lb, rfl, eg, hq⟩ := hit.ex
  have hfn : ∀ (w : World) (g : FuncId) (lb : Array Value), (binOp .eql 31 (.func (.func g) #[] lb) .nilFunc).run Try.prog w = .ok (.bool false) w := fun _ _ _ => rfl
  have hmf : ∀ (fn : Fn) (first cap : Array Value) (w : World), (Instr.makeFunc fn first cap).run Try.prog w = .ok (.func fn first cap) w := fun _ _ _ _ => rfl
  have hb3 : Below w.heap.size w (((w.alloc (.cells #[.nilFunc] 31)).alloc (.cells #[.int .i64 0] 25)).alloc (.cells #[.slice none 0 0] 22)) := (((Below.refl _ w).alloc (Nat.le_refl _) _).alloc (by simp) _).alloc (by simp; omega) _
  have hsz3 : (((w.alloc (.cells #[.nilFunc] 31)).alloc (.cells #[.int .i64 0] 25)).alloc (.cells #[.slice none 0 0] 22)).heap.size = w.heap.size + 3 := by simp
  have bA := ((Boxed.new w 31 .nilFunc).alloc (.cells #[.int .i64 0] 25)).alloc (.cells #[.slice none 0 0] 22)
  have bB := (Boxed.new (w.alloc (.cells #[.nilFunc] 31)) 25 (.int .i64 0)).alloc (.cells #[.slice none 0 0] 22)
  have bC := Boxed.new ((w.alloc (.cells #[.nilFunc] 31)).alloc (.cells #[.int .i64 0] 25)) 22 (.slice none 0 0)
  rw [World.size_alloc] at bB
  rw [World.size_alloc, World.size_alloc] at bC
  have hcr3 := (cell_of_block (hb3.block Br (cell_lt hcr)) 0).trans hcr
  have HB := Aside0.mk hb3
  have HbA := Aside0.mk (And.intro bA (And.intro bB bC))
  have HW := Aside0.mk (And.intro hco (And.intro hcn ho))
  clear hb3 bA bB bC hco hcn ho hcr
  refine (callsIn_wide (n := 9)).1 ?_
  refine callsIn_of_wp_marks Try.func61 rfl trivial ?_ hro
  simp only [Try.ntmps61, List.size_toArray, List.length_cons, List.length_nil, Nat.reduceAdd, Nat.reduceSub, Array.replicate_succ, Array.replicate_zero, List.push_toArray, List.append_toArray, List.nil_append, List.cons_append]
  gi_upto_region 2 with fail
  generalize ((w.alloc (.cells #[.nilFunc] 31)).alloc (.cells #[.int .i64 0] 25)).alloc (.cells #[.slice none 0 0] 22) = w4 at HB HbA hsz3 hcr3 ⊢
  have hTI : TI w.heap.size by_ n.toNat cs [] (fun j => w.heap.size ≤ j ∧ j < w4.heap.size) w4 := by
    obtain ⟨bA, bB, bC⟩ := HbA.out
    refine ⟨⟨none, 0, [], bC, World.ownsRow_nil _ _ _ _, ?_, (fun j hj => by simp [Value.ownBlock] at hj), fun q hq => by cases hq⟩, (fun i y h => by simp at h), bA, bB, ⟨by omega, by omega⟩, ⟨by omega, by omega⟩, ⟨by omega, by omega⟩, fun j hj => hj.1, fun j hj => hj.2⟩
    have e : topR by_ n.toNat ((cs.map Prod.snd).take 0) = [] := by simp [topR, stab, insAll]
    rw [show ([] : List (RV × Int)).length = 0 from rfl, e]
    trivial
  have HTI := Aside0.mk hTI
  have HZ4 := Aside0.mk hsz3
  clear hTI HbA hsz3
  gi_wp2
  refine wpIn_rangeFunc_m (n := 9) (encs := enc) hro (by decide) (gf := g) (lb := lb) rfl trivial eg (hq 8) GC.anti (fun _ => rfl) (fun j => w.heap.size ≤ j ∧ j < w4.heap.size) HB.out.size
    (fun j hj => ⟨hit.lt j hj, fun h => by have := hit.lt j hj; omega, HB.out.block j (hit.lt j hj)⟩) (fun j hj => hj.elim) (fun j hj => hj.2)
    (TI w.heap.size by_ n.toNat cs) (fun _ _ _ _ => False) TI.stable (fun c _ _ _ _ h _ => h) HTI.out ?round ?done ?stop
  case round =>
    rintro lab pre ⟨⟨ra, rn, rc⟩, e⟩ X1 Wa hl ⟨cd, hcd, hce, hcc⟩ hI hg hXl hlt ⟨lr, hlr⟩
    have hcz : cd.1 = 0 := hz cd (List.mem_of_getElem? hcd)
    obtain rfl : e = 0 := by rw [show e = cd.1 from hce]; exact hcz
    obtain ⟨k1, k2, k3⟩ := hcc hcz
    have HG := Aside0.mk (And.intro hcd (And.intro hce (And.intro k1 (And.intro k2 (And.intro k3 (And.intro hlr (And.intro hI hg)))))))
    have HL := Aside0.mk (And.intro hl (And.intro hXl hlt))
    clear hcd hce hcc hlr hI hg hl hXl hlt k1 k2 k3 hcz
    gi_wp2
    try refine ⟨fun _ _ _ => trivial, Nat.le_refl _, trivial, trivial, trivial, ?_⟩
    intro W3 z1 z2 z3 z4 z5
    obtain ⟨hcd, hce, k1, k2, k3, hlr, hI, hg⟩ := HG.out
    obtain ⟨hl, hXl, hlt⟩ := HL.out
    try dsimp only at k1 k2 k3
    have hag3 : AgM (fun _ => False) X1 0 Wa W3 := ⟨z2, z3, z4, by omega, fun j hj => z5 j (by rintro rfl; rcases hj with h | h; exact hXl h; omega)⟩
    have hI3 := TI.stable _ _ _ _ hI hag3
    have hPO2 : PreOk cs (pre ++ [((⟨ra, rn, rc⟩ : RV), (0 : Int))]) := hI3.po.snoc ⟨cd, hcd, hce⟩
    have hpl : pre.length < cs.length := (List.getElem?_eq_some_iff.1 hcd).1
    have hC3 : Cont W3 ⟨ra, rn, rc⟩ cd.2 := k1.same (by omega) (fun j hj => z5 j (cont_ne k1 hlr j hj))
    have hbw : Below w.heap.size w W3 := by
      have hw4 := HB.out.size
      refine ⟨z2.trans (hg.os.trans HB.out.os), z3.trans (hg.tape.trans HB.out.tape), z4.trans (hg.output.trans HB.out.output), by have := hg.size; omega, fun j hj => ?_⟩
      rw [z5 j (by have := HZ4.out; omega), hg.block j (by omega) (fun h => by omega) (fun h => h), HB.out.block j hj]
    obtain ⟨a, c, rs, hB⟩ := hI3.ex
    have hcb := hB.box.cell
    have hcn3 := (cell_of_block (hbw.block Bn (cell_lt HW.out.2.1)) 0).trans HW.out.2.1
    have hm : rs.length ≤ 60 := by
      have h1 := hB.all.len
      rw [topR_len, List.length_take, List.length_map] at h1
      omega
    have hsrt : Srt (fun x y => cmpR x y by_) (topR by_ n.toNat ((cs.map Prod.snd).take pre.length)) := (stab_srt (cmpR_ord by_) _).sublist (List.take_sublist _ _)
    have hbs := bs_ok a rs.length c _ ra rn rc cd.2 by_ so Bo W3 (by omega) (by rw [← hB.all.len]) hB.rowsAt hC3 k2 hby ((cell_of_block (hbw.block Bo (cell_lt HW.out.1)) 0).trans HW.out.1) (HW.out.2.2.below hbw) hsrt
    have hbsI := CallsIn.inRound lab ((callsIn_wide (n := 9 - 1 - 1 - 1)).2 hbs)
    have HI3 := Aside0.mk (And.intro hI3 (And.intro hPO2 (And.intro hB (And.intro hC3 (And.intro k2 k3)))))
    have HZ := Aside0.mk (And.intro z1 (And.intro hl (And.intro hlt (And.intro hg (And.intro hbw hcd)))))
    clear hcd hce hlr hI hg hag3 hI3 hPO2 k1 k2 k3 hC3 hl hXl hlt z1 z2 z3 z4 z5 hB hbw hbs hsrt
    gi_upto_region 10 with (refine ⟨trivial, ?_⟩; gi_at_call 62; refine hbsI.mono ?_; rintro e4 W4 ⟨k, rfl, hk, hbi, hb4⟩)
    have hcb4 := (cell_of_block (hb4.block _ (cell_lt hcb)) 0).trans hcb
    have hcn4 := (cell_of_block (hb4.block _ (cell_lt hcn3)) 0).trans hcn3
    have HB4 := Aside0.mk (And.intro hb4 hbi)
    clear hb4 hbi hbsI hcb hcn3
    by_cases hkn : n ≤ (k : Int)
    · have hd1 : decide (n ≤ (k : Int)) = true := decide_eq_true hkn
      have HK := Aside0.mk hkn
      clear hkn
      have hrow : (cs.map Prod.snd)[pre.length]? = some cd.2 := by rw [List.getElem?_map, HZ.out.2.2.2.2.2]; rfl
      have hF := Aside0.mk (TI.keep HI3.out.1 HI3.out.2.2.1 HI3.out.2.1 HB4.out.1 hrow hk (by have := HK.out; omega) HB4.out.2)
      clear hrow
      gi_wp2
      obtain ⟨h1, h2⟩ := hF.out
      rw [HZ.out.1] at h1
      exact ⟨X1, h1, h2⟩
    · have hd1 : decide (n ≤ (k : Int)) = false := decide_eq_false hkn
      have HK := Aside0.mk hkn
      clear hkn
      gi_upto_region 11 with fail
      have hCw : Cont W4 ⟨ra, rn, rc⟩ cd.2 := HI3.out.2.2.2.1.below HB4.out.1
      have hown4 := ownsRow_same (fun j hj => HB4.out.1.block j (own_ge HI3.out.2.2.1.own j hj).2) HI3.out.2.2.1.own
      have hlo : ∀ (B : Nat) (u : Value), W4.cell? ⟨B, 0, none⟩ = some u → ∀ w, Below W4.heap.size W4 w → w.cell? ⟨B, 0, none⟩ = some u := fun B u hv w hb => (cell_of_block (hb.block B (cell_lt hv)) 0).trans hv
      have hN4 : w.heap.size + 3 ≤ W4.heap.size := by have h1 := HI3.out.1.hi _ HI3.out.1.x2; have h2 := HB4.out.1.size; omega
      have hbx4 : Boxed W4 (w.heap.size + 2) 22 (.slice a rs.length c) := boxed_same (HB4.out.1.block _ (HI3.out.1.hi _ HI3.out.1.x2)) HI3.out.2.2.1.box
      obtain ⟨bv, hbv⟩ : ∃ bv, Value.slice a rs.length c = bv := ⟨_, rfl⟩
      have hins : ∀ (w' : World) (r' : RV) (g : Nat), Below W4.heap.size W4 w' → Boxed w' g 48 r'.v → W4.heap.size ≤ g → Cont w' r' cd.2 → (∀ j, r'.blk j → W4.heap.size ≤ j) → r'.n = cd.2.length →
          Calls Try.prog 65 #[bv, .int .i64 k, .slice (some ⟨g, 0, none⟩) 1 1] w' fun e w6 => ∃ (a' : Option Addr) (c' : Nat), e = .returned (.slice a' (rs.length + 1) c') ∧ TMid w.heap.size W4 bv rs.length k (rs.map RV.v) cd.2 r' a' c' w6 := by
        intro w' r' g hb hg1 hg2 hr1 hr2 hr3
        have hs' := hb.size
        have ho' := ownsRow_same (fun j hj => hb.block j (own_ge hown4 j hj).2) hown4
        have hog : ∀ j, bv.ownBlock = some j → j < W4.heap.size := fun j hj => (own_ge hown4 j (by rw [hbv]; exact hj)).2
        rw [← hbv]
        refine (ins_ok (w.heap.size + 3) a rs.length c k g (rs.map RV.v) r'.v w' (by omega) (by omega) hk ho' hg1 (fun e => by have := hog g (by rw [← hbv]; exact e); omega) rfl (one_v rs)).mono ?_
        rintro e w6 ⟨a', c', rfl, h1, h2, h3⟩
        rw [hbv] at h2 h3 ⊢
        refine ⟨a', c', rfl, h1, hr1.same h2.size (fun j hj => h2.block j ?_ (fun e => ?_)), hr2, hr3, h2.os.trans hb.os, h2.tape.trans hb.tape, h2.output.trans hb.output, Nat.le_trans hb.size h2.size, fun j hj hne => (h2.block j (by omega) (fun e => hne e.symm)).trans (hb.block j hj), fun j hj => (h3 j hj).imp id (Nat.le_trans hs'), fun j hj e => ?_⟩
        · exact hr1.blt j hj
        · have := hog j e.symm
          have := hr2 j hj
          omega
        · have h5 := hr2 j hj
          have h6 := hr1.blt j hj
          rcases h3 j e with h | h
          · have := hog j h
            omega
          · omega
      rw [hbv] at hcb4
      have HBV := Aside0.mk hbv
      have hob : ∀ j, bv.ownBlock = some j → w.heap.size + 3 ≤ j := fun j hj => (own_ge hown4 j (by rw [hbv]; exact hj)).1
      clear hbv
      refine wpIn_region_inv hmx (by kernel_rfl) TCl ?hcl (TSt [Value.pointer (some { block := Br, off := 0 }), Value.pointer (some { block := Bo, off := 0 }),
          Value.pointer (some { block := Bn, off := 0 }), Value.pointer (some { block := w.heap.size, off := 0 }),
          Value.pointer (some { block := w.heap.size + 1, off := 0 }),
          Value.pointer (some { block := w.heap.size + 1 + 1, off := 0 }), Value.slice ra rn rc,
          Value.int IntKind.i64 0, Value.int IntKind.i64 ↑k, Value.bool false, Value.func (Fn.func g) #[] lb,
          Value.bool false, undef, Value.func (Fn.func g) #[] lb, Value.slice ra rn rc, Value.int IntKind.i64 0,
          Value.int IntKind.i64 0, Value.bool false, undef, Value.tuple #[Value.int IntKind.i64 ↑k, Value.bool false],
          Value.slice a rs.length c, Value.slice ra rn rc,
          Value.func (Fn.func 63) #[] #[Value.pointer (some { block := Bo, off := 0 })],
          Value.tuple #[Value.int IntKind.i64 ↑k, Value.bool false], Value.int IntKind.i64 ↑k, Value.bool false,
          Value.int IntKind.i64 ↑k, Value.int IntKind.i64 n, Value.bool false] w.heap.size W4 bv rs.length k ra rn rc (rs.map RV.v) cd.2) ?hst ?hops ?hend
      case hcl =>
        intro d h
        have mm : ∀ (i : Nat) (o : Oper) (e : Edge), _ → d i = true → e ∈ o.after → Region.binds .any e = true → d e.on = true := fun i o e ho hd he hb => h i o ho hd e he hb
        exact ⟨fun q => mm 3 _ ⟨2, .data⟩ rfl q (by simp) rfl, fun q => mm 4 _ ⟨3, .data⟩ rfl q (by simp) rfl, fun q => ⟨⟨mm 5 _ ⟨0, .data⟩ rfl q (by simp) rfl, mm 5 _ ⟨1, .data⟩ rfl q (by simp) rfl⟩, mm 5 _ ⟨4, .data⟩ rfl q (by simp) rfl⟩, fun q => mm 6 _ ⟨5, .data⟩ rfl q (by simp) rfl⟩
      case hst => exact ⟨undef, undef, undef, undef, undef, undef, rfl, nofun, nofun, nofun, fun _ => ⟨rfl, rfl, rfl, Nat.le_refl _, fun _ _ => rfl⟩, nofun, nofun, nofun, nofun⟩
      case hops =>
        refine ⟨?_, ?_, ?_, ?_, ?_, ?_, ?_, trivial⟩
        · rintro d a2 w2 hd hc hc2 ⟨x29, x30, x31, x32, x33, x34, rfl, h0, h1, h2, hw, h3, h4, h5, h6⟩ K hK
          have d5 : d 5 = false := by cases q : d 5 with | false => rfl | true => exact absurd (hc.2.2.1 q).1.1 (by rw [hd]; decide)
          have hcell := hlo _ _ hcb4 w2 (hw d5)
          refine if_intro (by rfl) ?_
          go_simp
          exact hK _ _ ⟨_, x30, x31, x32, x33, x34, rfl, fun _ => rfl, h1, h2, hw, h3, h4, h5, h6⟩
        · rintro d a2 w2 hd hc hc2 ⟨x29, x30, x31, x32, x33, x34, rfl, h0, h1, h2, hw, h3, h4, h5, h6⟩ K hK
          refine if_intro (by rfl) ?_
          go_simp
          exact hK _ _ ⟨x29, _, x31, x32, x33, x34, rfl, h0, fun _ => rfl, h2, hw, h3, h4, h5, h6⟩
        · rintro d a2 w2 hd hc hc2 ⟨x29, x30, x31, x32, x33, x34, rfl, h0, h1, h2, hw, h3, h4, h5, h6⟩ K hK
          refine if_intro (by rfl) ?_
          go_simp
          exact hK _ _ ⟨x29, x30, _, x32, x33, x34, rfl, h0, h1, fun _ => rfl, hw, h3, h4, h5, h6⟩
        · rintro d a2 w2 hd hc hc2 ⟨x29, x30, x31, x32, x33, x34, rfl, h0, h1, h2, hw, h3, h4, h5, h6⟩ K hK
          have d4 : d 4 = false := by cases q : d 4 with | false => rfl | true => exact absurd (hc.2.1 q) (by rw [hd]; decide)
          have d5 : d 5 = false := by cases q : d 5 with | false => rfl | true => exact absurd (hc.2.2.1 q).2 (by rw [d4]; decide)
          obtain rfl := h2 (hc2.1 rfl)
          have hlow := hw d5
          refine if_intro (by rfl) ?_
          go_simp
          refine ⟨trivial, ?_⟩
          refine (CallsIn.inRound _ (callsIn_wide.2 (clone_ok ⟨ra, rn, rc⟩ cd.2 w2 (hCw.below hlow) (by have := HI3.out.2.2.2.2.1; dsimp only; omega)))).mono ?_
          rintro e6 w6 ⟨r', rfl, hr1, hr2, hr3, hr4⟩
          exact hK _ _ ⟨x29, x30, _, _, x33, x34, rfl, h0, h1, h2, fun _ => below_step hlow hr4 hlow.size, fun _ _ => ⟨r', rfl, hr1, fun j hj => Nat.le_trans hlow.size (hr2 j hj), hr3⟩, fun q => absurd q (by change ¬ (d 4 = true); rw [d4]; decide), fun q => absurd q (by change ¬ (d 5 = true); rw [d5]; decide), fun q => absurd (hc.2.2.2 q) (by rw [d5]; decide)⟩
        · rintro d a2 w2 hd hc hc2 ⟨x29, x30, x31, x32, x33, x34, rfl, h0, h1, h2, hw, h3, h4, h5, h6⟩ K hK
          have d5 : d 5 = false := by cases q : d 5 with | false => rfl | true => exact absurd (hc.2.2.1 q).2 (by rw [hd]; decide)
          obtain ⟨⟨qa, qn, qc⟩, rfl, hr1, hr2, hr3⟩ := h3 (hc2.2.1 rfl) hd
          have hlow := hw d5
          dsimp only [RV.v]
          refine if_intro (by rfl) ?_
          go_simp
          exact hK _ _ ⟨x29, x30, x31, _, _, x34, rfl, h0, h1, h2, fun _ => hlow.alloc hlow.size _, fun _ q => Bool.noConfusion q, fun _ _ => ⟨⟨qa, qn, qc⟩, w2.heap.size, rfl, Boxed.new w2 48 (.slice qa qn qc), hlow.size, hr1.below (below_new _), hr2, hr3⟩, fun q => absurd q (by change ¬ (d 5 = true); rw [d5]; decide), fun q => absurd (hc.2.2.2 q) (by rw [d5]; decide)⟩
        · rintro d a2 w2 hd hc hc2 ⟨x29, x30, x31, x32, x33, x34, rfl, h0, h1, h2, hw, h3, h4, h5, h6⟩ K hK
          have d6 : d 6 = false := by cases q : d 6 with | false => rfl | true => exact absurd (hc.2.2.2 q) (by rw [hd]; decide)
          obtain ⟨⟨e0, e1⟩, e4⟩ := hc2.2.2.1 rfl
          obtain rfl := h0 e0
          obtain rfl := h1 e1
          obtain ⟨r', g', rfl, hg1, hg2, hr1, hr2, hr3⟩ := h4 e4 hd
          have hlow := hw hd
          refine if_intro (by rfl) ?_
          go_simp
          refine ⟨trivial, ?_⟩
          refine (CallsIn.inRound _ (callsIn_wide.2 (hins w2 r' g' hlow hg1 hg2 hr1 hr2 hr3))).mono ?_
          rintro e6 w6 ⟨a', c', rfl, hmid⟩
          exact hK _ _ ⟨_, _, x31, x32, _, _, rfl, h0, h1, h2, fun q => Bool.noConfusion q, fun _ q => absurd (show d 4 = false from q) (by rw [show d 4 = true from e4]; decide), fun _ q => Bool.noConfusion q, fun _ _ => ⟨r', a', c', rfl, hmid⟩, fun q => absurd q (by change ¬ (d 6 = true); rw [d6]; decide)⟩
        · rintro d a2 w2 hd hc hc2 ⟨x29, x30, x31, x32, x33, x34, rfl, h0, h1, h2, hw, h3, h4, h5, h6⟩ K hK
          have e5 : d 5 = true := hc2.2.2.2 rfl
          obtain ⟨r', a', c', rfl, hmid⟩ := h5 e5 hd
          have hbx := boxed_same (hmid.block (w.heap.size + 2) (by omega) (fun e => by have := hob _ e; omega)) hbx4
          have hc6 := hbx.cell
          have hf6 := hbx.frozen
          refine if_intro (by rfl) ?_
          go_simp
          exact hK _ _ ⟨x29, x30, x31, x32, x33, _, rfl, h0, h1, h2, fun q => absurd (show d 5 = false from q) (by rw [e5]; decide), fun _ q => absurd (show d 4 = false from q) (by rw [(hc.2.2.1 e5).2]; decide), fun _ q => absurd (show d 5 = false from q) (by rw [e5]; decide), fun _ q => Bool.noConfusion q, fun _ => ⟨r', a', c', w2, hmid, rfl⟩⟩
      case hend =>
        rintro d a2 w2 hall ⟨x29, x30, x31, x32, x33, x34, rfl, h0, h1, h2, hw, h3, h4, h5, h6⟩
        have hF := h6 (hall 6 (by decide))
        clear h0 h1 h2 hw h3 h4 h5 h6
        simp only [List.cons_append, List.nil_append]
        obtain ⟨r', a', c', wm, hmid, rfl⟩ := hF
        have hbm := boxed_same (hmid.block (w.heap.size + 2) (by omega) (fun e => by have := hob _ e; omega)) hbx4
        have hb6 : Boxed (wm.setCell ⟨w.heap.size + 1 + 1, 0, none⟩ (.slice a' (rs.length + 1) c')) (w.heap.size + 2) 22 (.slice a' (rs.length + 1) c') := hbm.set _
        have hBn : Bn < w.heap.size := cell_lt HW.out.2.1
        have hfar : ∀ j, j ≠ w.heap.size + 2 → (wm.setCell ⟨w.heap.size + 1 + 1, 0, none⟩ (.slice a' (rs.length + 1) c')).heap[j]? = wm.heap[j]? := fun j hj => Below.heap_setCell _ _ _ j (by show j ≠ w.heap.size + 1 + 1; omega)
        have hn6 := (cell_of_block ((hfar Bn (by omega)).trans (hmid.block Bn (by omega) (fun e => by have := hob _ e; omega))) 0).trans hcn4
        have hsz6 : (wm.setCell ⟨w.heap.size + 1 + 1, 0, none⟩ (.slice a' (rs.length + 1) c')).heap.size = wm.heap.size := size_setCell _ _ _
        have hos6 : (wm.setCell ⟨w.heap.size + 1 + 1, 0, none⟩ (.slice a' (rs.length + 1) c')).os = W4.os ∧ (wm.setCell ⟨w.heap.size + 1 + 1, 0, none⟩ (.slice a' (rs.length + 1) c')).tape = W4.tape ∧ (wm.setCell ⟨w.heap.size + 1 + 1, 0, none⟩ (.slice a' (rs.length + 1) c')).output = W4.output := ⟨hmid.os, hmid.tape, hmid.output⟩
        have H6 := Aside0.mk (And.intro hmid (And.intro hb6 (And.intro hfar (And.intro hsz6 hos6))))
        have hc6 := hb6.cell
        have hf6 := hb6.frozen
        obtain ⟨g6, cap6, hv6, _, _, hcap6, _⟩ : ∃ g cap, Value.slice a' (rs.length + 1) c' = .slice (some ⟨g, 0, none⟩) (rs.length + 1) cap ∧ w.heap.size + 3 ≤ g ∧ g < wm.heap.size ∧ rs.length + 1 ≤ cap ∧ True := by
          rcases own_one hmid.own with ⟨e, hl⟩ | ⟨g, cap, e, h1, h2, h3, _⟩
          · injection e with _ e _
            omega
          · exact ⟨g, cap, e, h1, h2, h3, trivial⟩
        injection hv6 with hv1 _ hv3
        subst hv1 hv3
        generalize hw6 : wm.setCell ⟨w.heap.size + 1 + 1, 0, none⟩ (.slice (some ⟨g6, 0, none⟩) (rs.length + 1) c') = w6 at H6 hn6 hc6 hf6 hb6 hfar hsz6 hos6 ⊢
        have hmin1 : (0 : Int) ≤ min n ((rs.length : Int) + 1) := by have := HK.out; omega
        have hmin2 : min n ((rs.length : Int) + 1) ≤ (c' : Int) := by omega
        clear hbm hmid hb6 hfar hsz6 hos6 hw6
        have hrow : (cs.map Prod.snd)[pre.length]? = some cd.2 := by rw [List.getElem?_map, HZ.out.2.2.2.2.2]; rfl
        have hm2 : (min n ((rs.length : Int) + 1)).toNat = min n.toNat (rs.length + 1) := by omega
        have hF := Aside0.mk (TI.add HI3.out.1 HI3.out.2.2.1 HI3.out.2.1 HB4.out.1 hrow (by rw [HI3.out.2.2.2.1.len]; exact HI3.out.2.2.2.2.1) hk (by have := HK.out; omega) HB4.out.2 HBV.out hm2 HZ.out.1 H6.out.1 H6.out.2.1 H6.out.2.2.1 H6.out.2.2.2.1 H6.out.2.2.2.2)
        clear hrow hm2
        gi_wp2
        exact ⟨_, hF.out.1, hF.out.2⟩
  case done =>
    rintro ys Xd Wd hfin hI hg hn hK
    have hfl : ys.length = cs.length := hfin
    obtain ⟨a, c, rs, hB⟩ := hI.ex
    rw [show (cs.map Prod.snd).take ys.length = cs.map Prod.snd from List.take_of_length_le (by rw [List.length_map, hfl]; exact Nat.le_refl _)] at hB
    have hL := (callsIn_wide (n := 8)).2 (list_p2 _ a rs.length c _ Wd hB.ownB (fun j hj => hI.hi j hj.2) (by rw [topR_len, List.length_map]; omega))
    have hcb := hB.box.cell
    have HD := Aside0.mk (And.intro hI (And.intro hg (And.intro hn hK)))
    have hc0 := hI.b0.cell
    have hf0 := hI.b0.frozen
    have hc1 := hI.b1.cell
    have hf1 := hI.b1.frozen
    clear hfin hI hg hn hK hB hcr3
    gi_wp2_with (refine ⟨trivial, ?_⟩; gi_at_call 18; refine hL.mono ?_; rintro e w5 ⟨gf, lbf, prs, R5, rfl, hb5, hp5, hz5, hit5, hR5⟩; have hb50 := boxed_same (hb5.block w.heap.size (HD.out.1.hi _ HD.out.1.x0)) HD.out.1.b0; have hb51 := boxed_same (hb5.block (w.heap.size + 1) (HD.out.1.hi _ HD.out.1.x1)) HD.out.1.b1; have hc50 := hb50.cell; have hf50 := hb50.frozen; have hc51 := hb51.cell; have hf51 := hb51.frozen; have H5 := Aside0.mk (And.intro hb5 (And.intro hit5 (And.intro hp5 (And.intro hz5 (And.intro hR5 (And.intro hb50 hb51)))))); clear hb5 hit5 hp5 hz5 hR5 hb50 hb51)
    obtain ⟨hI, hg, hn, hK⟩ := HD.out
    obtain ⟨hb5, hit5, hp5, hz5, hR5, hb50, hb51⟩ := H5.out
    have hd := hg.size
    have h5s := hb5.size
    have hBl := hI.hi _ hI.x0
    have hB1l := hI.hi _ hI.x1
    have hDl : w4.heap.size < Wd.heap.size := (Array.getElem?_eq_some_iff.1 hK).1
    have s6 : ∀ j, j ≠ w.heap.size → j ≠ w.heap.size + 1 → j ≠ w4.heap.size → (((w5.setCell ⟨w.heap.size, 0, none⟩ (.func (.func gf) #[] lbf)).setCell ⟨w.heap.size + 1, 0, none⟩ (.int .i64 0)).putObj w4.heap.size (.deferred none)).heap[j]? = w5.heap[j]? := fun j h1 h2 h3 =>
      (World.putObj_heap_other h3).trans ((Below.heap_setCell _ _ _ j h2).trans (Below.heap_setCell _ _ _ j h1))
    have sz6 : (((w5.setCell ⟨w.heap.size, 0, none⟩ (.func (.func gf) #[] lbf)).setCell ⟨w.heap.size + 1, 0, none⟩ (.int .i64 0)).putObj w4.heap.size (.deferred none)).heap.size = w5.heap.size := by rw [World.putObj_size, size_setCell, size_setCell]
    have hw4 := HB.out.size
    have hz4 := HZ4.out
    refine ret61 (N := w.heap.size) (e := 0) (v := .func (.func gf) #[] lbf) ?_ rfl rfl ?_ ?_ ⟨⟨hb5.os.trans (hg.os.trans HB.out.os), hb5.tape.trans (hg.tape.trans HB.out.tape), hb5.output.trans (hg.output.trans HB.out.output), by rw [sz6]; omega, ?_⟩, .inl ⟨rfl, _, R5, rfl, ?_, ?_⟩⟩
    · exact (Below.heap_setCell _ _ _ _ (by show w4.heap.size ≠ w.heap.size + 1; omega)).trans ((Below.heap_setCell _ _ _ _ (by show w4.heap.size ≠ w.heap.size; omega)).trans ((hb5.block _ hDl).trans hK))
    · exact (Below.heap_setCell _ ⟨w.heap.size + 1, 0, none⟩ _ w.heap.size (by show w.heap.size ≠ w.heap.size + 1; omega)).trans (hb50.set _)
    · exact Boxed.set _ ((Below.heap_setCell w5 ⟨w.heap.size, 0, none⟩ (.func (.func gf) #[] lbf) (w.heap.size + 1) (Nat.succ_ne_self _)).trans hb51)
    · intro j hj hm
      rw [s6 j (by omega) (by omega) (by omega), hb5.block j (by omega), hg.block j (by omega) (fun h => by omega) hm, HB.out.block j hj]
    · have hm := hit5.m
      rw [tc_of hp5 hz5] at hm
      refine hm.later (by rw [sz6]; exact Nat.le_refl _) (fun j hj => s6 j ?_ ?_ ?_) (fun j hj => hj.elim)
      · rintro rfl
        rcases hR5 _ hj with h | h
        · have := h.1; omega
        · omega
      · rintro rfl
        rcases hR5 _ hj with h | h
        · have := h.1; omega
        · omega
      · rintro rfl
        rcases hR5 _ hj with h | h
        · exact hn h.2
        · omega
    · intro j hj hx
      have := hX j hx
      rcases hR5 j hj with h | h
      · have := h.1; omega
      · omega
  case stop =>
    rintro c pre Xd Wd hf
    exact hf.elim
end Go.Proofs.Ytghpjlohoehdnaa.Sep

/-! How an order that is handed over lies. No condition beyond those that each theorem names. -/
namespace Go.Proofs.Ytghpjlohoehdnaa.Sep
open Go Go.ChangeShapes Go.WideShapes Go.ChangeAt Go.RowKit
set_option linter.unusedVariables false
set_option maxRecDepth 100000
/-- an order that is handed over -/
def RawO (W : World) (sv : Value) (by_ : Order) : Prop := Ord W sv by_ ∧ ∃ a c, sv = .slice a by_.length c
theorem cells44 {H : Type} {enc : TypeId × Value → H} {w : World} {base : Nat} {spare : Nat → Bool} {held : Bool} {fuel : Nat} {cs : List Value} {x : DataW H × List MemPlace} (h : DataW.trod enc Try.prog w base spare held fuel 41 cs = some x) :
    ∃ y : Int × Bool, cs = [.int .i64 y.1, .bool y.2] := by
  obtain ⟨y0, y1, n, _, hl, h0, h1⟩ := Go.ChangeShapes.trod_struct2 Try.underlying41 h
  have hC : Try.prog.cellsOf 41 = 2 := by kernel_rfl
  have hC3 : Try.prog.cellsOf 3 = 1 := by kernel_rfl
  have hC4 : Try.prog.cellsOf 4 = 1 := by kernel_rfl
  rw [hC] at hl
  match cs, hl with
  | [c0, c1], _ =>
    simp only [hC3, hC4, List.drop_zero, List.take_succ_cons, List.take_zero, List.drop_succ_cons] at h0 h1
    obtain ⟨a0, e0, _⟩ := DataW.trod_int Try.underlying3 h0
    obtain ⟨a1, e1, _⟩ := DataW.trod_bool Try.underlying4 h1
    simp only [List.cons.injEq, and_true] at e0 e1
    subst e0 e1
    exact ⟨⟨a0, a1⟩, rfl⟩
theorem open42' {H : Type} {enc : TypeId × Value → H} {w : World} {spare : Nat → Bool} {held : Bool} {fuel : Nat} {v : Value} {x : DataW H × List MemPlace} (h : DataW.trod enc Try.prog w 0 spare held fuel 42 [v] = some x) :
    ∃ by_, RawO w v by_ := by
  have hC : Try.prog.cellsOf 41 = 2 := by kernel_rfl
  rcases Go.Deep.open_slice Try.underlying42 h with ⟨hcs, _⟩ | ⟨a, len, cap, m, n, D, Pl, hcs, _, hl, hm, hmm, _, hel⟩
  · obtain rfl : v = .slice none 0 0 := by simpa using hcs
    exact ⟨[], .inl ⟨none, 0, rfl, rfl⟩, none, 0, rfl⟩
  · obtain rfl : v = .slice (some a) len cap := by simpa using hcs
    have hlm : len ≤ m := by rw [hmm]; split <;> omega
    by_cases h0 : len = 0
    · subst h0
      exact ⟨[], .inl ⟨some a, cap, rfl, rfl⟩, some a, cap, rfl⟩
    have each : ∀ i, i < len → ∃ y : Int × Bool, w.cells? 0 (a.add (i * 2)) 2 = some [.int .i64 y.1, .bool y.2] := by
      intro i hi
      obtain ⟨cs', h1, h2⟩ := hel i (by omega)
      obtain ⟨y, rfl⟩ := cells44 h2
      rw [hC] at h1
      exact ⟨y, h1⟩
    obtain ⟨f, hf⟩ : ∃ f : Nat → Int × Bool, ∀ i, i < len → w.cells? 0 (a.add (i * 2)) 2 = some [.int .i64 (f i).1, .bool (f i).2] :=
      ⟨fun i => if h : i < len then (each i h).choose else (0, false), fun i hi => by simp only [dif_pos hi]; exact (each i hi).choose_spec⟩
    have hcell : ∀ i r, i < len → r < 2 → w.cell? (a.add (i * 2 + r)) = ([.int .i64 (f i).1, .bool (f i).2] : List Value)[r]? := by
      intro i r hi hr
      obtain ⟨_, _, hc⟩ := World.cells?_some (hf i hi)
      rw [← Go.Deep.add_add]
      exact hc r hr
    have ha0 : a.spot = none := by
      have := hcell 0 0 (by omega) (by omega)
      exact spot_none (a := a) (v := .int .i64 (f 0).1) this
    obtain ⟨b, off, sp⟩ := a
    simp at ha0
    subst ha0
    refine ⟨(List.range len).map f, .inr ⟨b, off, cap, by simp, ?_, fun j p hj => ?_⟩, some ⟨b, off, none⟩, cap, by simp⟩
    · have := hcell 0 0 (by omega) (by omega)
      exact cell_lt' (v := .int .i64 (f 0).1) this
    · obtain ⟨hi1, hi2⟩ := List.getElem?_eq_some_iff.1 hj
      have hi : j < len := by simpa using hi1
      obtain rfl : f j = p := by simpa using hi2
      have c0 := hcell j 0 hi (by omega)
      have c1 := hcell j 1 hi (by omega)
      rw [Addr.add_lit] at c0 c1
      exact ⟨c0, c1⟩
/-- An order that is handed over. -/
theorem open42 {H : Type} {enc : TypeId × Value → H} {w : World} {v : Value} {d : DataW H} {p : List MemPlace} {r : Reach} {b0 : Nat} (hv : Value.okWide Try.prog w r b0 42 v) (h : DataW.Trod enc Try.prog w 0 (fun _ => true) true 42 v d p) :
    ∃ by_, RawO w v by_ := by
  obtain ⟨A, len, cap, rfl⟩ := okWide_slice Try.underlying42 hv
  obtain ⟨fuel, hf⟩ := h
  exact open42' hf
end Go.Proofs.Ytghpjlohoehdnaa.Sep
