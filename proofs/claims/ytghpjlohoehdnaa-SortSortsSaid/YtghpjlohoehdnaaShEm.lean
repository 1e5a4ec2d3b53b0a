/- The law SortTops, walked: for every list of rows, order and number it returns true. No condition. -/
import Derived.Test.YtghpjlohoehdnaaSmF
namespace Go.Proofs.Ytghpjlohoehdnaa.Sep
open Go Go.RowKit Go.Shelf
set_option linter.unusedVariables false
set_option linter.unusedSimpArgs false
theorem ord_same {W W' : World} {sv : Value} {by_ : Order} (hs : W.heap.size ≤ W'.heap.size) (hb : ∀ j, j < W.heap.size → W'.heap[j]? = W.heap[j]?) : Ord W sv by_ → Ord W' sv by_
  | .inl h => .inl h
  | .inr ⟨b, off, c, h1, h2, h3⟩ => .inr ⟨b, off, c, h1, Nat.lt_of_lt_of_le h2 hs, fun j p hp => ⟨(cell_of_block (hb b h2) _).trans (h3 j p hp).1, (cell_of_block (hb b h2) _).trans (h3 j p hp).2⟩⟩
theorem top_c (g : FuncId) (la : Array Value) (a : Option Addr) (k c : Nat) (n : Int) (by_ : Order) (cs : List Cd) (R : Nat → Prop) (w : World) (hit : ItM (fun _ => False) R (.func (.func g) #[] la) cs w) (hz : ∀ c ∈ cs, c.1 = 0)
    (ho : Ord w (.slice a k c) by_) (hby : by_.length ≤ 1000) (hlen : cs.length ≤ 60) (hn1 : -9223372036854775808 ≤ n) (hn2 : n ≤ 9223372036854775807) :
    Calls Try.prog 34 #[.func (.func g) #[] la, .slice a k c, .int .i64 n] w fun e w' => ∃ (R' : Nat → Prop) (v : Value), e = .returned v ∧ Below w.heap.size w w' ∧ ItM (fun _ => False) R' v (tc by_ n.toNat (cs.map Prod.snd)) w' := by
  refine (top_make g la a k c n w).mono ?_
  rintro e w' ⟨rfl, hW'⟩
  have c0 := (((Boxed.new w 31 (.func (.func g) #[] la)).alloc (.cells #[.slice a k c] 42)).alloc (.cells #[.int .i64 n] 3)).alloc (.cells #[.func (.func 61) #[] #[.pointer (some ⟨w.heap.size, 0, none⟩), .pointer (some ⟨w.heap.size + 1, 0, none⟩), .pointer (some ⟨w.heap.size + 2, 0, none⟩)]] 87)
  have c1 := ((Boxed.new (w.alloc (.cells #[.func (.func g) #[] la] 31)) 42 (.slice a k c)).alloc (.cells #[.int .i64 n] 3)).alloc (.cells #[.func (.func 61) #[] #[.pointer (some ⟨w.heap.size, 0, none⟩), .pointer (some ⟨w.heap.size + 1, 0, none⟩), .pointer (some ⟨w.heap.size + 2, 0, none⟩)]] 87)
  have c2 := (Boxed.new ((w.alloc (.cells #[.func (.func g) #[] la] 31)).alloc (.cells #[.slice a k c] 42)) 3 (.int .i64 n)).alloc (.cells #[.func (.func 61) #[] #[.pointer (some ⟨w.heap.size, 0, none⟩), .pointer (some ⟨w.heap.size + 1, 0, none⟩), .pointer (some ⟨w.heap.size + 2, 0, none⟩)]] 87)
  have c3 := Boxed.new (((w.alloc (.cells #[.func (.func g) #[] la] 31)).alloc (.cells #[.slice a k c] 42)).alloc (.cells #[.int .i64 n] 3)) 87 (.func (.func 61) #[] #[.pointer (some ⟨w.heap.size, 0, none⟩), .pointer (some ⟨w.heap.size + 1, 0, none⟩), .pointer (some ⟨w.heap.size + 2, 0, none⟩)])
  have hb : Below w.heap.size w ((((w.alloc (.cells #[.func (.func g) #[] la] 31)).alloc (.cells #[.slice a k c] 42)).alloc (.cells #[.int .i64 n] 3)).alloc (.cells #[.func (.func 61) #[] #[.pointer (some ⟨w.heap.size, 0, none⟩), .pointer (some ⟨w.heap.size + 1, 0, none⟩), .pointer (some ⟨w.heap.size + 2, 0, none⟩)]] 87)) :=
    ((((Below.refl _ w).alloc (Nat.le_refl _) _).alloc (by simp) _).alloc (by simp; omega) _).alloc (by simp; omega) _
  have hsz : ((((w.alloc (.cells #[.func (.func g) #[] la] 31)).alloc (.cells #[.slice a k c] 42)).alloc (.cells #[.int .i64 n] 3)).alloc (.cells #[.func (.func 61) #[] #[.pointer (some ⟨w.heap.size, 0, none⟩), .pointer (some ⟨w.heap.size + 1, 0, none⟩), .pointer (some ⟨w.heap.size + 2, 0, none⟩)]] 87)).heap.size = w.heap.size + 4 := by simp
  simp only [World.size_alloc] at c1 c2 c3
  rw [← hW'] at c0 c1 c2 c3 hb hsz
  refine ⟨fun j => j < w'.heap.size, _, rfl, hb, ?_⟩
  have hl := later_t (w.heap.size + 3) #[.pointer (some ⟨w.heap.size, 0, none⟩), .pointer (some ⟨w.heap.size + 1, 0, none⟩), .pointer (some ⟨w.heap.size + 2, 0, none⟩)] 0 (tc by_ n.toNat (cs.map Prod.snd)) (fun _ => False) (fun j => j < w'.heap.size) w' (by omega) (fun j hj => hj) (fun j hj => hj.elim) (fun j hj => hj.elim) c3.cell ?_
  · rwa [show lc 0 (tc by_ n.toNat (cs.map Prod.snd)) = tc by_ n.toNat (cs.map Prod.snd) from if_pos rfl] at hl
  · intro X W1 hs1 hb1 hx1 hX1
    have hbb : ∀ j, j < w'.heap.size → W1.heap[j]? = w'.heap[j]? := fun j hj => hb1 j (.inl hj)
    exact top1_ok w.heap.size (w.heap.size + 1) (w.heap.size + 2) (.slice a k c) (.func (.func g) #[] la) by_ n cs R X W1 (hit.later (Nat.le_trans hb.size hs1) (fun j hj => (hbb j (Nat.lt_of_lt_of_le (hit.lt j hj) hb.size)).trans (hb.block j (hit.lt j hj))) (fun j hj => hj.elim))
      ((cell_of_block (hbb _ (by omega)) 0).trans c0.cell) ((cell_of_block (hbb _ (by omega)) 0).trans c1.cell) ((cell_of_block (hbb _ (by omega)) 0).trans c2.cell) (ord_same hs1 hbb (ho.below hb)) hby hlen hz hX1 hn1 hn2
theorem WL.prefix {W w : World} {a : Option Addr} {n m c : Nat} {rs : List RV} {rows : List (List V3)} (h : WL W w (.slice a n c) rs rows) (hn : rs.length = n) (hm : m ≤ n) : WL W w (.slice a m c) (rs.take m) (rows.take m) := by
  have hl : (rs.take m).length = m := by rw [List.length_take]; omega
  refine ⟨?_, all2_take m h.all, h.bel⟩
  have h1 := h.own
  rw [hn] at h1
  rw [hl, List.map_take]
  exact own_prefix h1 hm
theorem wf_bounds {n : Int} (h : (Lit.int .i64 n).wf = true) : -9223372036854775808 ≤ n ∧ n ≤ 9223372036854775807 := by
  simp [Lit.wf] at h
  exact h
theorem prs_zero {prs : List Pr} (h : okP prs) : ∀ c ∈ prs.map cdOf, c.1 = 0 := by
  intro c hc
  obtain ⟨p, hp, rfl⟩ := List.mem_map.1 hc
  exact h p hp
theorem prs_rows (prs : List Pr) : (prs.map cdOf).map Prod.snd = prs.map Prod.snd := by
  rw [List.map_map]
  rfl
theorem own1_rs {w : World} {sv : Value} {N : Nat} {rs : List RV} {rows : List (List V3)} (ho : w.ownsRow N 48 1 sv rows.length (rs.map RV.v)) (hr : All2 (fun r row => Cont w r row ∧ r.n ≤ 1000 ∧ ∀ j, r.blk j → N ≤ j) rs rows) : Own1 w sv rows := by
  rw [← hr.len] at ho
  exact own1_of_row rfl ho (hr.imp fun q row hq => ⟨hq.1, hq.2.1⟩)
set_option maxRecDepth 100000 in
set_option maxHeartbeats 8000000 in
theorem tops_ok (sa so : Value) (n : Int) (ra : List (List V3)) (by_ : Order) (W : World) (ha : Raw W sa ra) (ho : RawO W so by_) (hw : (Lit.int .i64 n).wf = true) :
    Calls Try.prog 9 #[sa, so, .int .i64 n] W fun e W' => e = .returned (.bool true) ∧ Below W.heap.size W W' := by
  have hmx : Try.prog.follows .mixedOrders = true := by kernel_rfl
  have hla := light26_ok 60 (by decide) sa ra W ha
  obtain ⟨aa, na, ca, rfl⟩ := ha.shp
  obtain ⟨hO, ao, co, rfl⟩ := ho
  have hn : -9223372036854775808 ≤ n ∧ n ≤ 9223372036854775807 := wf_bounds hw
  have HA := Aside0.mk ha
  have HO := Aside0.mk hO
  have HN := Aside0.mk hn
  obtain ⟨nb, hnb⟩ : ∃ nb, by_.length = nb := ⟨_, rfl⟩
  have HNB := Aside0.mk hnb
  rw [hnb]
  clear ha hO hn hnb hw
  by_cases h6 : 6 < nb
  · have hd1 : decide (6 < nb) = true := decide_eq_true h6
    have hd2 : decide ((6 : Int) < (nb : Int)) = true := decide_eq_true (by omega)
    go_enter Try.func9, Try.ntmps9
    go_wp2_with (first
      | (go_at_call 26; refine hla.mono ?_; rintro e w' ⟨ta, rfl, hta, hwq⟩; subst w'; have HTA := Aside0.mk hta; clear hta hla; cases ta)
      | (go_at_call 25; refine (awake25_ok _).mono ?_; rintro e w' ⟨rfl, hbw⟩))
    all_goals
      refine bodyPost_ret (results_tmp rfl _ _ _) rfl ?_
      exact ⟨rfl, hbw⟩
  · have hd1 : decide (6 < nb) = false := decide_eq_false h6
    have hd2 : decide ((6 : Int) < (nb : Int)) = false := decide_eq_false (by omega)
    go_enter Try.func9, Try.ntmps9
    go_upto_region 3 with (first
      | (go_at_call 26; refine hla.mono ?_; rintro e w' ⟨ta, rfl, hta, hwq⟩; subst w'; have HTA := Aside0.mk hta; clear hta hla; cases ta)
      | (go_at_call 25; refine (awake25_ok _).mono ?_; rintro e w' ⟨rfl, hbw⟩))
    · refine bodyPost_ret (results_tmp rfl _ _ _) rfl ?_
      exact ⟨rfl, hbw⟩
    obtain ⟨la1, la2⟩ := HTA.out trivial
    have LA := Aside0.mk (HA.out.lst la2)
    have hnl : na = ra.length := lst_len LA.out
    have HNL := Aside0.mk hnl
    have hn60 : na ≤ 60 := by omega
    have hnb1 : nb ≤ 6 := by omega
    have HS := Aside0.mk (sortedX aa na ca (.slice ao nb co) by_ ra W LA.out (by omega) (by rw [HNB.out]; omega) (HNB.out ▸ HO.out))
    clear HA HTA la2 la1 hnl h6 hd1 hd2
    go_upto_region 4 with (go_at_call 32; refine HS.out.mono ?_; rintro e w1 ⟨a5, c5, rs, rfl, hsx⟩; have HX := Aside0.mk hsx; clear hsx)
    have hb1 := HX.out.wl.bel
    have h1 := list_n aa na ca ra w1 (LA.out.below hb1) (by rw [← HNL.out]; omega)
    have HB1 := Aside0.mk hb1
    clear HS hb1
    go_upto_region 5 with (first
      | (go_at_call 18; refine h1.mono ?_; rintro e w2 ⟨p1, R1, rfl, s1, o1, b1, i1, e1⟩; have H1 := Aside0.mk (And.intro s1 (And.intro o1 (And.intro b1 i1))); have HT := Aside0.mk (top_c 41 _ ao nb co n by_ (p1.map cdOf) R1 w2 i1.m (prs_zero o1) ((HNB.out ▸ HO.out : Ord W (.slice ao nb co) by_).below (below_step HB1.out b1 HB1.out.size)) (by rw [HNB.out]; omega) (by have := congrArg List.length s1; rw [List.length_map] at this; rw [List.length_map, this, ← HNL.out]; exact hn60) HN.out.1 HN.out.2); clear s1 o1 b1 i1 e1 h1)
      | (go_at_call 34; refine HT.out.mono ?_; rintro e w3 ⟨R2, v2, rfl, b2, i2⟩; have H2 := Aside0.mk (And.intro b2 (callsIn_wide.1 (collect_m 3 (Nat.le_refl _) v2 _ _ R2 w3 i2 (by rw [show (tc by_ n.toNat ((p1.map cdOf).map Prod.snd)).length = _ from List.length_map _, topR_len, prs_rows, H1.out.1, ← HNL.out]; omega)))); clear b2 i2 HT)
      | (go_at_call 19; refine H2.out.2.mono ?_; rintro e w4 ⟨b3, ⟨sv, rs2, rfl, _, hown, hall⟩ | ⟨kk, cc, hx1, _, hx2, _⟩⟩; rotate_left; exact absurd (show cc.1 = 0 from by obtain ⟨r, _, rfl⟩ := List.mem_map.1 (List.mem_of_getElem? hx1); rfl) hx2; have H3 := Aside0.mk (And.intro b3 (And.intro hown hall)); clear b3 hown hall)
      | fail)
    have hb24 : Below w1.heap.size w1 w4 := below_step (below_step H1.out.2.2.1 H2.out.1 H1.out.2.2.1.size) H3.out.1.below (below_step H1.out.2.2.1 H2.out.1 H1.out.2.2.1.size).size
    have hm0 : (max 0 (min n (na : Int))).toNat = min n.toNat na := by omega
    have hmx1 : (0 : Int) ≤ max 0 (min n (na : Int)) := by omega
    have hmx2 : max 0 (min n (na : Int)) ≤ (na : Int) := by omega
    obtain ⟨m5, hm5⟩ : ∃ m5 : Int, max 0 (min n (na : Int)) = m5 := ⟨_, rfl⟩
    have hsl : (stab (fun a b => cmpR a b by_) ra).length = na := by rw [stab_len, ← HNL.out]
    have htop : (tc by_ n.toNat ((p1.map cdOf).map Prod.snd)).map Prod.snd = (stab (fun a b => cmpR a b by_) ra).take m5.toNat := by
      rw [prs_rows, H1.out.1]
      unfold tc topR
      rw [List.map_map, show (Prod.snd ∘ fun r : List V3 => ((0 : Int), r)) = id from rfl, List.map_id, ← hm5, hm0, List.take_eq_take_iff, hsl]
      omega
    have hown1 : Own1 w4 sv ((stab (fun a b => cmpR a b by_) ra).take m5.toNat) := by
      rw [← htop]
      exact own1_rs (by rw [List.length_map]; exact H3.out.2.1) H3.out.2.2
    have hown2 : Own1 w4 (.slice a5 m5.toNat c5) ((stab (fun a b => cmpR a b by_) ra).take m5.toNat) := ((HX.out.wl.below hb24).prefix HX.out.len (by omega)).own1
    have HSame := sameRows_ok sv (.slice a5 m5.toNat c5) _ _ w4 hown1 hown2 (by rw [List.length_take]; omega)
    rw [eqRows_refl] at HSame
    have HS2 := Aside0.mk HSame
    have HB4 := Aside0.mk (below_step HB1.out hb24 HB1.out.size)
    have hcc : na ≤ c5 := by
      rcases own_one HX.out.wl.own with ⟨e, hl⟩ | ⟨g, cap, e, hg1, hg2, hcap, hc⟩
      · injection e with e1 e2 e3
        omega
      · injection e with e1 e2 e3
        omega
    have hshp : a5 = none ∧ na = 0 ∧ c5 = 0 ∨ ∃ g, a5 = some ⟨g, 0, none⟩ := by
      rcases own_one HX.out.wl.own with ⟨e, hl⟩ | ⟨g, cap, e, hg1, hg2, hcap, hc⟩
      · injection e with e1 e2 e3
        exact .inl ⟨e1, e2, e3⟩
      · injection e with e1 e2 e3
        exact .inr ⟨g, e1⟩
    have hmx3 : m5 ≤ (c5 : Int) := by omega
    have hmx4 : (0 : Int) ≤ m5 := by omega
    clear hb24 hm0 hmx1 hmx2 hsl htop hown1 hown2 HSame H3 H2 H1 HX
    rcases hshp with ⟨rfl, rfl, rfl⟩ | ⟨g, rfl⟩
    · have hz0 : max (0 : Int) (min n 0) = 0 := by omega
      obtain rfl : m5 = 0 := by omega
      rw [show (0 : Int).toNat = 0 from rfl] at HS2
      clear hm5
      go_wp2_with (first
        | (go_at_call 15; refine HS2.out.mono ?_; rintro e w5 ⟨rfl, hs4⟩; have HB5 := Aside0.mk (below_step HB4.out hs4.below HB4.out.size); clear hs4)
        | (go_at_call 25; refine (awake25_ok _).mono ?_; rintro e w6 ⟨rfl, hb6⟩)
        | fail)
      refine bodyPost_ret (results_tmp rfl _ _ _) rfl ?_
      exact ⟨rfl, below_step HB5.out hb6 HB5.out.size⟩
    · go_wp2_with (first
        | (go_at_call 15; refine HS2.out.mono ?_; rintro e w5 ⟨rfl, hs4⟩; have HB5 := Aside0.mk (below_step HB4.out hs4.below HB4.out.size); clear hs4)
        | (go_at_call 25; refine (awake25_ok _).mono ?_; rintro e w6 ⟨rfl, hb6⟩)
        | fail)
      refine bodyPost_ret (results_tmp rfl _ _ _) rfl ?_
      exact ⟨rfl, below_step HB5.out hb6 HB5.out.size⟩
end Go.Proofs.Ytghpjlohoehdnaa.Sep
