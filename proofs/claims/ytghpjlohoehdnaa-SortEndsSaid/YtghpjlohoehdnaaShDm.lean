/- SortEnds, walked. No condition beyond those that each theorem names. -/
import Derived.Test.YtghpjlohoehdnaaSmE
import Derived.Test.YtghpjlohoehdnaaSmB
import Derived.Test.YtghpjlohoehdnaaSmD
namespace Go.Proofs.Ytghpjlohoehdnaa.Sep
open Go Go.RowKit Go.Shelf
attribute [local go_sem] Oper.semAt_some
set_option linter.unusedVariables false
set_option linter.unusedSimpArgs false
theorem Raw.below {W W' : World} {sv : Value} {rows : List (List V3)} (hb : Below W.heap.size W W') : Raw W sv rows → Raw W' sv rows
  | .inl h => .inl h
  | .inr ⟨b, off, c, rs, h1, h2, h3, h4⟩ => .inr ⟨b, off, c, rs, h1, Nat.lt_of_lt_of_le h2 hb.size, fun j hj => (cell_of_block' (hb.block b h2)).trans (h3 j hj), h4.imp fun _ _ k => k.below hb⟩
theorem list_p (P : Nat → Prop) (a : Option Addr) (k c : Nat) (rows : List (List V3)) (w : World) (h : OwnB P w (.slice a k c) rows) (hP : ∀ j, P j → j < w.heap.size) (hl : rows.length ≤ 100000) :
    Calls Try.prog 18 #[.slice a k c] w fun e w' => ∃ g la prs R, e = .returned (.func (.func g) #[] la) ∧ Below w.heap.size w w' ∧ prs.map Prod.snd = rows ∧ (∀ p ∈ prs, p.1.2 = 0) ∧ ItC (.func (.func g) #[] la) prs R w' ∧ ∀ j, R j → P j ∨ w.heap.size ≤ j := by
  refine (callsIn_wide.1 (list_make 1 a k c w)).mono ?_
  rintro e W' ⟨rfl, rfl⟩
  have b1 : Below w.heap.size w (w.alloc (.cells #[.slice a k c] 22)) := below_new _
  obtain ⟨prs, e1, e2, it⟩ := list_c w.heap.size _ rows P (w.alloc (.cells #[.slice a k c] 22)) (by simp) (fun j hj => Nat.lt_of_lt_of_le (hP j hj) b1.size) (Boxed.new w 22 (.slice a k c)).cell (OwnB.same b1.size (fun j hj => b1.block j (hP j hj)) h) hl
  exact ⟨41, _, prs, _, rfl, b1, e1, e2, it, fun j hj => hj.elim (fun h => .inr (by rw [h]; exact Nat.le_refl _)) .inl⟩
theorem rows_notb (p : Option Addr) (w : World) (H : Calls Try.prog 47 #[.pointer p] w fun e w' => e = .returned (.bool false) ∧ w' = w) :
    Calls Try.prog 24 #[.pointer p] w fun e w' => ∃ g la R, e = .returned (.func (.func g) #[] la) ∧ Below w.heap.size w w' ∧ ItM (fun _ => False) R (.func (.func g) #[] la) [] w' := by
  refine (rows_not p w H).mono ?_
  rintro e W' ⟨rfl, rfl⟩
  have b1 : Below w.heap.size w (w.alloc (.cells #[.slice none 0 0] 22)) := below_new _
  obtain ⟨prs, e1, e2, it⟩ := list_c w.heap.size (.slice none 0 0) [] (fun _ => False) (w.alloc (.cells #[.slice none 0 0] 22)) (by simp) (fun j hj => hj.elim) (Boxed.new w 22 (.slice none 0 0)).cell (.inl ⟨none, 0, rfl, rfl⟩) (by simp)
  cases List.map_eq_nil_iff.1 e1
  exact ⟨41, _, _, rfl, b1, it.m⟩
theorem keep_cell {w w' : World} {a : Addr} {v : Value} (h : w.cell? a = some v) (hb : Below w.heap.size w w') : w'.cell? a = some v := (cell_of_block' (hb.block a.block (cell_lt h))).trans h
theorem res10 (N : Nat) (W : World) (b : Bool) (tmps : Array Value) (h2 : tmps.getD 4 undef = .pointer (some ⟨N, 0, none⟩))
    (b0 : Boxed W N 4 (.bool b)) : (results Try.f10 tmps).run Try.prog W = .ok (.bool b) W := by
  have hr : Try.f10.results = #[.cell 4 4] := rfl
  have c0 := b0.cell
  have f0 := b0.frozen
  simp only [results, hr]
  rw [Array.getD_eq_getD_getElem?] at h2
  simp [Sem.run_bind, Result.andThen, h2]
  go_simp
/-- New, whatever is asked for -/
theorem new_any (most : Int) (w : World) : Calls Try.prog 21 #[.slice none 0 0, .int .i64 most] w fun e w' => Below w.heap.size w w' ∧
    ((2 ≤ most ∧ most ≤ 65536 ∧ ∃ S, e = .returned (.tuple #[.pointer (some ⟨S, 0, none⟩), .int .i64 0])) ∨ ((most < 2 ∨ 65536 < most) ∧ e = .returned (.tuple #[.pointer none, .int .i64 1]))) := by
  by_cases h : most < 2 ∨ 65536 < most
  · refine (new_err _ most w h).mono ?_
    rintro e w' ⟨rfl, rfl⟩
    exact ⟨Below.refl _ _, .inr ⟨h, rfl⟩⟩
  · obtain ⟨k, rfl⟩ : ∃ k : Nat, most = (k : Int) := ⟨most.toNat, by omega⟩
    refine (new_sr (.slice none 0 0) [] k w (.inl ⟨none, 0, rfl, rfl⟩) (by simp) (by omega) (by omega)).mono ?_
    rintro e w' ⟨S, rfl, _, _, hb⟩
    exact ⟨hb, .inl ⟨by omega, by omega, S, rfl⟩⟩
/-- the law's counters, and the answer's cell -/
structure KI (N P : Nat) (pre : List (RV × Int)) (X : Nat → Prop) (W : World) : Prop where
  x0 : X N
  x1 : X P
  x2 : X (P + 1)
  b0 : Boxed W N 4 (.bool false)
  b1 : Boxed W P 3 (.int .i64 pre.length)
  b2 : Boxed W (P + 1) 25 (.int .i64 (if pre = [] then 0 else 310))
  hi : ∀ j, X j → j < W.heap.size
theorem KI.stable {M : Nat → Prop} {N P n₀ : Nat} : StableM M n₀ (KI N P) := by
  intro pre X W W' h ha
  exact ⟨h.x0, h.x1, h.x2, boxed_same (ha.block _ (.inl h.x0)) h.b0, boxed_same (ha.block _ (.inl h.x1)) h.b1, boxed_same (ha.block _ (.inl h.x2)) h.b2, fun j hj => Nat.lt_of_lt_of_le (h.hi j hj) ha.size⟩
theorem KI.one {N P s : Nat} {X : Nat → Prop} {W : World} (h : KI N P [] X W) (hN : N < P) (hs : W.heap.size = s) :
    ∃ X', Gr X X' s W ((W.setCell ⟨P, 0, none⟩ (.int .i64 1)).setCell ⟨P + 1, 0, none⟩ (.int .i64 310)) ∧ KI N P [(⟨none, 0, 0⟩, 310)] X' ((W.setCell ⟨P, 0, none⟩ (.int .i64 1)).setCell ⟨P + 1, 0, none⟩ (.int .i64 310)) := by
  have g1 := gr_set h.hi (a := ⟨P, 0, none⟩) (.int .i64 1) h.x1
  have g2 := gr_set (W := W.setCell ⟨P, 0, none⟩ (.int .i64 1)) (fun j hj => by rw [size_setCell]; exact h.hi j hj) (a := ⟨P + 1, 0, none⟩) (.int .i64 310) h.x2
  have g3 := g1.trans g2 (by rw [size_setCell]; exact Nat.le_refl _)
  rw [hs] at g3
  refine ⟨X, g3, h.x0, h.x1, h.x2, ?_, ?_, ?_, fun j hj => by rw [size_setCell, size_setCell]; exact h.hi j hj⟩
  · exact (Below.heap_setCell _ _ _ N (by show N ≠ P + 1; omega)).trans ((Below.heap_setCell _ _ _ N (by show N ≠ P; omega)).trans h.b0)
  · exact (Below.heap_setCell _ ⟨P + 1, 0, none⟩ _ P (by show P ≠ P + 1; omega)).trans (h.b1.set _)
  · exact Boxed.set _ ((Below.heap_setCell W ⟨P, 0, none⟩ (.int .i64 1) (P + 1) (Nat.succ_ne_self _)).trans h.b2)
set_option maxRecDepth 100000 in
set_option maxHeartbeats 8000000 in
theorem sends_ok (sa : Value) (most : Int) (ra : List (List V3)) (W : World) (ha : Raw W sa ra) :
    Calls Try.prog 10 #[sa, .int .i64 most] W fun e W' => e = .returned (.bool true) ∧ Below W.heap.size W W' := by
  have hro : Fence.wide.round = none := rfl
  have hmx : Try.prog.follows .mixedOrders = true := by kernel_rfl
  have hb1 : Below W.heap.size W (W.alloc (.cells #[.bool false] 4)) := below_new _
  have hs1 : (W.alloc (.cells #[.bool false] 4)).heap.size = W.heap.size + 1 := by simp
  have b1 := Boxed.new W 4 (.bool false)
  have hla := (callsIn_wide (n := 8)).2 (light26_ok 20 (by decide) sa ra _ (Raw.below hb1 ha))
  obtain ⟨aa, na, ca, rfl⟩ := ha.shp
  refine (callsIn_wide (n := 9)).1 ?_
  refine callsIn_of_wp_marks Try.func10 rfl trivial ?_ hro
  simp only [Try.ntmps10, List.size_toArray, List.length_cons, List.length_nil, Nat.reduceAdd, Nat.reduceSub, Array.replicate_succ, Array.replicate_zero, List.push_toArray, List.append_toArray, List.nil_append, List.cons_append]
  have HA := Aside0.mk ha
  clear ha
  gi_upto_region 1 with fail
  generalize W.alloc (.cells #[.bool false] 4) = w1 at *
  gi_upto_region 3 with (first
    | (refine ⟨trivial, ?_⟩; gi_at_call 26; refine hla.mono ?_; rintro e w' ⟨ta, rfl, hta, hwq⟩; subst w'; have HTA := Aside0.mk hta; clear hta hla; cases ta)
    | (refine ⟨trivial, ?_⟩; gi_at_call 25; refine (callsIn_wide.2 (awake25_ok _)).mono ?_; rintro e w2 ⟨rfl, hb2⟩; have hz25 := boxed_same (hb2.block _ (by omega)) b1; have c25 := hz25.cell; have f25 := hz25.frozen; have HB2 := Aside0.mk hb2; clear hb2))
  · have hb2 := below_step hb1 HB2.out hb1.size
    exact ⟨_, res10 _ _ true _ rfl (hz25.set _), rfl, hb2.setCell (Nat.le_refl _) _⟩
  have q37 : ∀ (w : World) (S : Nat), (binOp .neq 37 (.pointer (some ⟨S, 0, none⟩)) (.pointer none)).run Try.prog w = .ok (.bool true) w := fun w S => rfl
  have q37n : ∀ (w : World), (binOp .neq 37 (.pointer none) (.pointer none)).run Try.prog w = .ok (.bool false) w := fun w => rfl
  have hNew := (callsIn_wide (n := 8)).2 (new_any most w1)
  obtain ⟨hl20, hl6⟩ := HTA.out trivial
  have hLst := HA.out.lst hl6
  have hnl : na = ra.length := lst_len hLst
  subst hnl
  have HX := Aside0.mk hLst
  have H1 := Aside0.mk (And.intro hb1 (And.intro hs1 b1))
  have hw : IntKind.i64.wrap ((ra.length : Int) - 1) = (ra.length : Int) - 1 := by rw [IntKind.wrap_i64]; omega
  have hmax : max 0 ((ra.length : Int) - 1) = ((ra.length - 1 : Nat) : Int) := by omega
  clear hb1 hs1 b1 HA HTA hLst
  gi_upto_region 4 with (refine ⟨trivial, ?_⟩; gi_at_call 21; refine hNew.mono ?_; rintro e w2 ⟨hb2, ⟨hm1, hm2, S, rfl⟩ | ⟨hm | hm, rfl⟩⟩ <;> have HB2 := Aside0.mk hb2 <;> clear hb2)
  · have d1 : decide (2 ≤ most) = true := by simpa using hm1
    have d2 : decide (most ≤ 65536) = true := by simpa using hm2
    gi_upto_region 8 with fail
    have hb3 : Below W.heap.size W ((w2.alloc (.cells #[.int .i64 0] 3)).alloc (.cells #[.int .i64 0] 25)) := ((below_step H1.out.1 HB2.out H1.out.1.size).alloc (Nat.le_trans H1.out.1.size HB2.out.size) _).alloc (by have := H1.out.1.size; have := HB2.out.size; simp; omega) _
    have hz1 := H1.out.2.1
    have hz2 := HB2.out.size
    have b4 := ((boxed_same (HB2.out.block W.heap.size (by omega)) H1.out.2.2).alloc (.cells #[.int .i64 0] 3)).alloc (.cells #[.int .i64 0] 25)
    have bn := (Boxed.new w2 3 (.int .i64 0)).alloc (.cells #[.int .i64 0] 25)
    have bw := Boxed.new (w2.alloc (.cells #[.int .i64 0] 3)) 25 (.int .i64 0)
    have hs3 : ((w2.alloc (.cells #[.int .i64 0] 3)).alloc (.cells #[.int .i64 0] 25)).heap.size = w2.heap.size + 2 := by simp
    rw [World.size_alloc] at bw
    have hNP : W.heap.size < w2.heap.size := by omega
    generalize (w2.alloc (.cells #[.int .i64 0] 3)).alloc (.cells #[.int .i64 0] 25) = w3 at hb3 b4 bn bw hs3 ⊢
    generalize w2.heap.size = P1 at bn bw hs3 hNP ⊢
    have H3 := Aside0.mk (And.intro hb3 (And.intro b4 (And.intro bn bw)))
    have hO3 : OwnB (fun j => j < W.heap.size) w3 (.slice aa ra.length ca) ra := OwnB.same hb3.size (fun j hj => hb3.block j hj) HX.out
    have hL18 := (callsIn_wide (n := 8)).2 (list_p _ aa ra.length ca ra w3 hO3 (fun j hj => Nat.lt_of_lt_of_le hj hb3.size) (by omega))
    clear hO3 hb3 b4 bn bw hz1 hz2 H1 HB2 hNew q37 q37n
    gi_upto_region 9 with (first
      | (refine ⟨trivial, ?_⟩; gi_at_call 18; refine hL18.mono ?_; rintro e w4 ⟨g4, la4, prs, R4, rfl, hb4, hp4, hz4, hit4, hR4⟩; have H4 := Aside0.mk (And.intro hb4 (And.intro hp4 (And.intro hz4 (And.intro hit4 hR4)))); clear hb4 hp4 hz4 hit4 hR4)
      | (refine ⟨trivial, ?_⟩; gi_at_call 35; refine (callsIn_wide.2 (meter_c _ (ra.length - 1) _ hmax)).mono ?_; rintro e w5 ⟨rfl, hb5, hlt5, hm5⟩; have H5 := Aside0.mk (And.intro hb5 (And.intro hlt5 hm5)); clear hb5 hlt5 hm5)
      | (refine ⟨trivial, ?_⟩; gi_at_call 17; refine (callsIn_wide.2 (metered_c _ _ prs R4 w4.heap.size (ra.length - 1) (by omega) _ (H4.out.2.2.2.1.below H5.out.1) H4.out.2.2.1 H5.out.2.2 (fun j hj => by have := H4.out.2.2.2.1.it.lt j hj; omega))).mono ?_; rintro e w6 ⟨g6, lb6, R6, rfl, hb6, hit6, hn6, hR6⟩; have H6 := Aside0.mk (And.intro hb6 (And.intro hit6 (And.intro hn6 hR6))); clear hb6 hit6 hn6 hR6)
      | (refine ⟨trivial, ?_⟩; gi_at_call 33; refine (callsIn_wide.2 (ends_c _ _ ra (ra.length - 1) (fun j => j = w4.heap.size) R6 _ (by have h := H6.out.2.1; rw [H4.out.2.1] at h; exact h) (fun j hj hr => H6.out.2.2.1 j hr hj) (by omega) rfl)).mono ?_; rintro e w7 ⟨lb7, R7, rfl, hb7, hit7, hR7⟩))
    have HB7 := Aside0.mk hb7
    clear hb7
    have hsA := H4.out.1.size
    have hsB := H5.out.1.size
    have hsC := H6.out.1.size
    have hsD := HB7.out.size
    have hsE := H5.out.2.1
    have hbA : Below w3.heap.size w3 w7 := below_step (below_step (below_step H4.out.1 H5.out.1 hsA) H6.out.1 (by omega)) HB7.out (by omega)
    have hKI0 : KI W.heap.size P1 [] (fun j => j = W.heap.size ∨ j = P1 ∨ j = P1 + 1) w7 := by
      obtain ⟨k1, k2, k3, k4⟩ := H3.out
      refine ⟨.inl rfl, .inr (.inl rfl), .inr (.inr rfl), boxed_same (hbA.block _ (by omega)) k2, boxed_same (hbA.block _ (by omega)) k3, boxed_same (hbA.block _ (by omega)) k4, ?_⟩
      rintro j (rfl | rfl | rfl) <;> omega
    have hRX : ∀ j, R7 j → ¬ (j = W.heap.size ∨ j = P1 ∨ j = P1 + 1) := by
      intro j hj
      have h : j < W.heap.size ∨ w3.heap.size ≤ j := by
        rcases hR7 j hj with h | h
        · rcases H6.out.2.2.2 j h with h | h
          · rcases H4.out.2.2.2.2 j h with h | h
            · exact .inl h
            · exact .inr h
          · right; omega
        · right; omega
      rintro (rfl | rfl | rfl) <;> omega
    have HK := Aside0.mk hKI0
    have HBA := Aside0.mk hbA
    have hMlt : w4.heap.size < w7.heap.size := by omega
    have hMX : ¬ (w4.heap.size = W.heap.size ∨ w4.heap.size = P1 ∨ w4.heap.size = P1 + 1) := by omega
    clear hKI0 hbA hR7 hsA hsB hsC hsD hsE
    refine wpIn_rangeFunc_m (n := 9) (encs := enc) hro (by decide) (gf := 79) (lb := lb7) rfl trivial (enters_of Try.func79 (by kernel_rfl) rfl) (hit7.ex 8) GE.anti (fun _ => rfl) (fun j => j = W.heap.size ∨ j = P1 ∨ j = P1 + 1) (Nat.le_refl _)
      (fun j hj => ⟨hit7.lt j hj, hRX j hj, rfl⟩) (fun j hj => ⟨hit7.ml j hj, (by rw [hj]; exact hMX), rfl⟩) HK.out.hi
      (KI W.heap.size P1) (fun _ _ _ _ => False) KI.stable (fun c => fun _ _ _ _ h _ => h) HK.out ?round ?done ?stop
    case round =>
      rintro lab pre ⟨⟨xa, xn, xc⟩, e⟩ X1 Wa hl ⟨hne, rfl, hx⟩ hI hg hXl hlt ⟨lr, hlr⟩
      obtain ⟨rfl, rfl, rfl, rfl⟩ : xa = none ∧ xn = 0 ∧ xc = 0 ∧ e = 310 := by
        have h : (xa = none ∧ xn = 0 ∧ xc = 0) ∧ e = 310 := by simpa [RV.nil] using hx
        exact ⟨h.1.1, h.1.2.1, h.1.2.2, h.2⟩
      have HG := Aside0.mk (And.intro hI hg)
      have HL := Aside0.mk (And.intro hl (And.intro hXl hlt))
      clear hI hg hl hXl hlt hx hlr
      gi_wp2
      try refine ⟨fun _ _ _ => trivial, Nat.le_refl _, trivial, trivial, trivial, ?_⟩
      intro W3 z1 z2 z3 z4 z5
      obtain ⟨hI, hg⟩ := HG.out
      obtain ⟨hl, hXl, hlt⟩ := HL.out
      have hag3 : AgM (fun j => j = w4.heap.size) X1 0 Wa W3 := ⟨z2, z3, z4, by omega, fun j hj => z5 j (by rintro rfl; rcases hj with h | h; exact hXl h; omega)⟩
      have hI3 := KI.stable _ _ _ _ hI hag3
      have c1 := hI3.b1.cell
      have f1 := hI3.b1.frozen
      have c2 := hI3.b2.cell
      have f2 := hI3.b2.frozen
      have HI := Aside0.mk (And.intro hI3 z1)
      clear hI hg hl hXl hlt hag3 hI3 z1 z2 z3 z4 z5
      gi_wp2
      exact HI.out.1.one hNP HI.out.2
    case done =>
      rintro ys Xd Wd hfin hI hg hn hK
      have hWd : Below W.heap.size W Wd := by
        have h3 := H3.out.1
        have hA := HBA.out
        have h3s := h3.size
        have hAs := hA.size
        refine ⟨hg.os.trans (hA.os.trans h3.os), hg.tape.trans (hA.tape.trans h3.tape), hg.output.trans (hA.output.trans h3.output), by have := hg.size; omega, fun j hj => ?_⟩
        rw [hg.block j (by omega) (by rintro (h | h | h) <;> omega) (by have := H4.out.1.size; omega), hA.block j (by omega), h3.block j hj]
      have hDW : W.heap.size < w7.heap.size := by have := H3.out.1.size; have := HBA.out.size; omega
      have HD := Aside0.mk (And.intro hWd (And.intro hI.b0 (And.intro hK (And.intro hDW hI.hi))))
      have HXN := Aside0.mk hI.x0
      have hc1 := hI.b1.cell
      have hc2 := hI.b2.cell
      have hfl : ys.length = if ra = [] then 0 else 1 := hfin
      clear HK HBA hMlt hMX hWd hDW hn hK hg hit7 hRX hfin H4 H5 H6 H3 hL18 hw hmax
      by_cases hra : ra = []
      · rw [if_pos hra] at hfl
        have hys : ys = [] := List.eq_nil_of_length_eq_zero hfl
        subst hys
        have e0 : decide (0 < ra.length) = false := by rw [hra]; rfl
        have e3 : ¬ 0 < ra.length := by rw [hra]; decide
        have e1 : Wd.cell? ⟨P1, 0, none⟩ = some (.int .i64 0) := hc1
        have e2 : Wd.cell? ⟨P1 + 1, 0, none⟩ = some (.int .i64 0) := hc2
        clear hI hc1 hc2 hfl hra
        gi_upto_region 17 with fail
        have HB := Aside0.mk (Below.refl Wd.heap.size Wd)
        clear e1 e2 e0 e3 HX HB7 hs3
        gi_upto_region 20 with (first
          | (refine ⟨trivial, ?_⟩; gi_at_call 33; refine (callsIn_wide.2 (nil_sorted _)).mono ?_; rintro e wa ⟨gq, laq, Rq, rfl, hb, hit⟩; have HQ := Aside0.mk hit; have HB := Aside0.mk (below_step HB.out hb HB.out.size); clear hb hit)
          | (refine ⟨trivial, ?_⟩; gi_at_call 34; refine (callsIn_wide.2 (nil_top _ _)).mono ?_; rintro e wa ⟨gq, laq, Rq, rfl, hb, hit⟩; have HQ := Aside0.mk hit; have HB := Aside0.mk (below_step HB.out hb HB.out.size); clear hb hit)
          | (refine ⟨trivial, ?_⟩; gi_at_call 28; refine (callsIn_wide.2 (nil_dist _)).mono ?_; rintro e wa ⟨gq, laq, Rq, rfl, hb, hit⟩; have HQ := Aside0.mk hit; have HB := Aside0.mk (below_step HB.out hb HB.out.size); clear hb hit)
          | (refine ⟨trivial, ?_⟩; gi_at_call 19; refine (callsIn_wide.2 (collect_zero _ _ _ HQ.out)).mono ?_; rintro e wa ⟨aq, cq, rfl, hb⟩; have HB := Aside0.mk (below_step HB.out hb HB.out.size); clear hb HQ))
        gi_wp2
        refine wpIn_loop_rounds 3 ?_
        have cz := World.alloc_heap_new wa (.cells #[.slice none 0 0, .int .i64 0, .slice none 0 0, .slice none 0 0, .int .i64 0, .bool false] 66)
        have cs := World.alloc_heap_new (wa.alloc (.cells #[.slice none 0 0, .int .i64 0, .slice none 0 0, .slice none 0 0, .int .i64 0, .bool false] 66)) (.cells #[.pointer none, .pointer (some ⟨wa.heap.size, 0, none⟩)] 37)
        have cz := (Below.heap_alloc (wa.alloc (.cells #[.slice none 0 0, .int .i64 0, .slice none 0 0, .slice none 0 0, .int .i64 0, .bool false] 66)) (.cells #[.pointer none, .pointer (some ⟨wa.heap.size, 0, none⟩)] 37) wa.heap.size (by simp)).trans cz
        rw [World.size_alloc] at cs
        have HB := Aside0.mk ((HB.out.alloc HB.out.size (.cells #[.slice none 0 0, .int .i64 0, .slice none 0 0, .slice none 0 0, .int .i64 0, .bool false] 66)).alloc (by have := HB.out.size; simp; omega) (.cells #[.pointer none, .pointer (some ⟨wa.heap.size, 0, none⟩)] 37))
        generalize (wa.alloc (.cells #[.slice none 0 0, .int .i64 0, .slice none 0 0, .slice none 0 0, .int .i64 0, .bool false] 66)).alloc (.cells #[.pointer none, .pointer (some ⟨wa.heap.size, 0, none⟩)] 37) = wl at cz cs HB ⊢
        have s0 : wl.cell? ⟨wa.heap.size + 1, 0, none⟩ = some (.pointer none) := by simp [World.cell?, cs]
        have s1 : wl.cell? ⟨wa.heap.size + 1, 1, none⟩ = some (.pointer (some ⟨wa.heap.size, 0, none⟩)) := by simp [World.cell?, cs]
        have sz : wl.cell? ⟨wa.heap.size, 1, none⟩ = some (.int .i64 0) := by simp [World.cell?, cz]
        clear cz cs
        generalize wa.heap.size = Z at s0 s1 sz ⊢
        rw [roundsIn_succ]
        gi_wp2_with (first
          | (refine ⟨trivial, ?_⟩; gi_at_call 24; refine (callsIn_wide.2 (rows_notb none _ (given_nil _))).mono ?_; rintro e wb ⟨gq, laq, Rq, rfl, hb, hit⟩; have HQ := Aside0.mk hit; have HB := Aside0.mk (below_step HB.out hb HB.out.size); replace s0 := keep_cell s0 hb; replace s1 := keep_cell s1 hb; replace sz := keep_cell sz hb; clear hb hit)
          | (refine ⟨trivial, ?_⟩; gi_at_call 19; refine (callsIn_wide.2 (collect_zero _ _ _ HQ.out)).mono ?_; rintro e wb ⟨aq, cq, rfl, hb⟩; have HB := Aside0.mk (below_step HB.out hb HB.out.size); replace s0 := keep_cell s0 hb; replace s1 := keep_cell s1 hb; replace sz := keep_cell sz hb; clear hb HQ)
          | (refine ⟨trivial, ?_⟩; gi_at_call 22; refine (callsIn_wide.2 (put_not none _ (given_nil _) _ _ _)).mono ?_; rintro e wb ⟨rfl, hwe⟩; cases hwe)
          | (refine ⟨trivial, ?_⟩; gi_at_call 30; refine (callsIn_wide.2 (runs_not none _ (given_nil _))).mono ?_; rintro e wb ⟨rfl, hwe⟩; cases hwe))
        rw [roundsIn_succ]
        gi_wp2_with (first
          | (refine ⟨trivial, ?_⟩; gi_at_call 24; refine (callsIn_wide.2 (rows_notb (some ⟨Z, 0, none⟩) _ (given_zero Z _ sz))).mono ?_; rintro e wb ⟨gq, laq, Rq, rfl, hb, hit⟩; have HQ := Aside0.mk hit; have HB := Aside0.mk (below_step HB.out hb HB.out.size); replace s0 := keep_cell s0 hb; replace s1 := keep_cell s1 hb; replace sz := keep_cell sz hb; clear hb hit)
          | (refine ⟨trivial, ?_⟩; gi_at_call 19; refine (callsIn_wide.2 (collect_zero _ _ _ HQ.out)).mono ?_; rintro e wb ⟨aq, cq, rfl, hb⟩; have HB := Aside0.mk (below_step HB.out hb HB.out.size); replace s0 := keep_cell s0 hb; replace s1 := keep_cell s1 hb; replace sz := keep_cell sz hb; clear hb HQ)
          | (refine ⟨trivial, ?_⟩; gi_at_call 22; refine (callsIn_wide.2 (put_not (some ⟨Z, 0, none⟩) _ (given_zero Z _ sz) _ _ _)).mono ?_; rintro e wb ⟨rfl, hwe⟩; cases hwe)
          | (refine ⟨trivial, ?_⟩; gi_at_call 30; refine (callsIn_wide.2 (runs_not (some ⟨Z, 0, none⟩) _ (given_zero Z _ sz))).mono ?_; rintro e wb ⟨rfl, hwe⟩; cases hwe))
        rw [roundsIn_succ]
        gi_upto_region 27 with fail
        have hzN := boxed_same (HB.out.block W.heap.size (HD.out.2.2.2.2 _ HXN.out)) HD.out.2.1
        gi_wp2_with (refine ⟨trivial, ?_⟩; gi_at_call 25; refine (callsIn_wide.2 (awake25_ok _)).mono ?_; rintro e wc ⟨rfl, hb⟩; have hzc := boxed_same (hb.block _ hzN.lt) hzN; have c25 := hzc.cell; have f25 := hzc.frozen; have HC := Aside0.mk (And.intro (below_step HB.out hb HB.out.size) hzc); clear hb hzc)
        have hc := HC.out.1
        have hWb := HD.out.1
        have hKd := HD.out.2.2.1
        have hDW := HD.out.2.2.2.1
        have hB2 := (below_step hWb hc hWb.size).setCell (p := ⟨W.heap.size, 0, none⟩) (Nat.le_refl _) (.bool true)
        have hK2 : (wc.setCell ⟨W.heap.size, 0, none⟩ (.bool true)).heap[w7.heap.size]? = some (.deferred (some [])) := (Below.heap_setCell _ _ _ _ (by show w7.heap.size ≠ W.heap.size; omega)).trans ((hc.block _ (Array.getElem?_eq_some_iff.1 hKd).1).trans hKd)
        refine ⟨by simp, .inl ⟨_, _, rfl, run_takeDeferred hK2, ?_⟩⟩
        refine ⟨_, res10 W.heap.size _ true _ rfl (boxed_same (World.putObj_heap_other (by omega)) (HC.out.2.set _)), rfl, hB2.os, hB2.tape, hB2.output, by rw [World.putObj_size]; exact hB2.size, fun j hj => (World.putObj_heap_other (by omega)).trans (hB2.block j hj)⟩
      · rw [if_neg hra] at hfl
        have hyn : ys ≠ [] := by rintro rfl; cases hfl
        have e3 : 0 < ra.length := List.length_pos_iff.2 hra
        have e0 : decide (0 < ra.length) = true := decide_eq_true e3
        have e1 : Wd.cell? ⟨P1, 0, none⟩ = some (.int .i64 1) := by rw [hc1, hfl]; rfl
        have e2 : Wd.cell? ⟨P1 + 1, 0, none⟩ = some (.int .i64 310) := by rw [hc2, if_neg hyn]
        clear hI hc1 hc2 hfl hra hyn
        gi_upto_region 17 with fail
        have HB := Aside0.mk (Below.refl Wd.heap.size Wd)
        clear e1 e2 e0 e3 HX HB7 hs3
        gi_upto_region 20 with (first
          | (refine ⟨trivial, ?_⟩; gi_at_call 33; refine (callsIn_wide.2 (nil_sorted _)).mono ?_; rintro e wa ⟨gq, laq, Rq, rfl, hb, hit⟩; have HQ := Aside0.mk hit; have HB := Aside0.mk (below_step HB.out hb HB.out.size); clear hb hit)
          | (refine ⟨trivial, ?_⟩; gi_at_call 34; refine (callsIn_wide.2 (nil_top _ _)).mono ?_; rintro e wa ⟨gq, laq, Rq, rfl, hb, hit⟩; have HQ := Aside0.mk hit; have HB := Aside0.mk (below_step HB.out hb HB.out.size); clear hb hit)
          | (refine ⟨trivial, ?_⟩; gi_at_call 28; refine (callsIn_wide.2 (nil_dist _)).mono ?_; rintro e wa ⟨gq, laq, Rq, rfl, hb, hit⟩; have HQ := Aside0.mk hit; have HB := Aside0.mk (below_step HB.out hb HB.out.size); clear hb hit)
          | (refine ⟨trivial, ?_⟩; gi_at_call 19; refine (callsIn_wide.2 (collect_zero _ _ _ HQ.out)).mono ?_; rintro e wa ⟨aq, cq, rfl, hb⟩; have HB := Aside0.mk (below_step HB.out hb HB.out.size); clear hb HQ))
        gi_wp2
        refine wpIn_loop_rounds 3 ?_
        have cz := World.alloc_heap_new wa (.cells #[.slice none 0 0, .int .i64 0, .slice none 0 0, .slice none 0 0, .int .i64 0, .bool false] 66)
        have cs := World.alloc_heap_new (wa.alloc (.cells #[.slice none 0 0, .int .i64 0, .slice none 0 0, .slice none 0 0, .int .i64 0, .bool false] 66)) (.cells #[.pointer none, .pointer (some ⟨wa.heap.size, 0, none⟩)] 37)
        have cz := (Below.heap_alloc (wa.alloc (.cells #[.slice none 0 0, .int .i64 0, .slice none 0 0, .slice none 0 0, .int .i64 0, .bool false] 66)) (.cells #[.pointer none, .pointer (some ⟨wa.heap.size, 0, none⟩)] 37) wa.heap.size (by simp)).trans cz
        rw [World.size_alloc] at cs
        have HB := Aside0.mk ((HB.out.alloc HB.out.size (.cells #[.slice none 0 0, .int .i64 0, .slice none 0 0, .slice none 0 0, .int .i64 0, .bool false] 66)).alloc (by have := HB.out.size; simp; omega) (.cells #[.pointer none, .pointer (some ⟨wa.heap.size, 0, none⟩)] 37))
        generalize (wa.alloc (.cells #[.slice none 0 0, .int .i64 0, .slice none 0 0, .slice none 0 0, .int .i64 0, .bool false] 66)).alloc (.cells #[.pointer none, .pointer (some ⟨wa.heap.size, 0, none⟩)] 37) = wl at cz cs HB ⊢
        have s0 : wl.cell? ⟨wa.heap.size + 1, 0, none⟩ = some (.pointer none) := by simp [World.cell?, cs]
        have s1 : wl.cell? ⟨wa.heap.size + 1, 1, none⟩ = some (.pointer (some ⟨wa.heap.size, 0, none⟩)) := by simp [World.cell?, cs]
        have sz : wl.cell? ⟨wa.heap.size, 1, none⟩ = some (.int .i64 0) := by simp [World.cell?, cz]
        clear cz cs
        generalize wa.heap.size = Z at s0 s1 sz ⊢
        rw [roundsIn_succ]
        gi_wp2_with (first
          | (refine ⟨trivial, ?_⟩; gi_at_call 24; refine (callsIn_wide.2 (rows_notb none _ (given_nil _))).mono ?_; rintro e wb ⟨gq, laq, Rq, rfl, hb, hit⟩; have HQ := Aside0.mk hit; have HB := Aside0.mk (below_step HB.out hb HB.out.size); replace s0 := keep_cell s0 hb; replace s1 := keep_cell s1 hb; replace sz := keep_cell sz hb; clear hb hit)
          | (refine ⟨trivial, ?_⟩; gi_at_call 19; refine (callsIn_wide.2 (collect_zero _ _ _ HQ.out)).mono ?_; rintro e wb ⟨aq, cq, rfl, hb⟩; have HB := Aside0.mk (below_step HB.out hb HB.out.size); replace s0 := keep_cell s0 hb; replace s1 := keep_cell s1 hb; replace sz := keep_cell sz hb; clear hb HQ)
          | (refine ⟨trivial, ?_⟩; gi_at_call 22; refine (callsIn_wide.2 (put_not none _ (given_nil _) _ _ _)).mono ?_; rintro e wb ⟨rfl, hwe⟩; cases hwe)
          | (refine ⟨trivial, ?_⟩; gi_at_call 30; refine (callsIn_wide.2 (runs_not none _ (given_nil _))).mono ?_; rintro e wb ⟨rfl, hwe⟩; cases hwe))
        rw [roundsIn_succ]
        gi_wp2_with (first
          | (refine ⟨trivial, ?_⟩; gi_at_call 24; refine (callsIn_wide.2 (rows_notb (some ⟨Z, 0, none⟩) _ (given_zero Z _ sz))).mono ?_; rintro e wb ⟨gq, laq, Rq, rfl, hb, hit⟩; have HQ := Aside0.mk hit; have HB := Aside0.mk (below_step HB.out hb HB.out.size); replace s0 := keep_cell s0 hb; replace s1 := keep_cell s1 hb; replace sz := keep_cell sz hb; clear hb hit)
          | (refine ⟨trivial, ?_⟩; gi_at_call 19; refine (callsIn_wide.2 (collect_zero _ _ _ HQ.out)).mono ?_; rintro e wb ⟨aq, cq, rfl, hb⟩; have HB := Aside0.mk (below_step HB.out hb HB.out.size); replace s0 := keep_cell s0 hb; replace s1 := keep_cell s1 hb; replace sz := keep_cell sz hb; clear hb HQ)
          | (refine ⟨trivial, ?_⟩; gi_at_call 22; refine (callsIn_wide.2 (put_not (some ⟨Z, 0, none⟩) _ (given_zero Z _ sz) _ _ _)).mono ?_; rintro e wb ⟨rfl, hwe⟩; cases hwe)
          | (refine ⟨trivial, ?_⟩; gi_at_call 30; refine (callsIn_wide.2 (runs_not (some ⟨Z, 0, none⟩) _ (given_zero Z _ sz))).mono ?_; rintro e wb ⟨rfl, hwe⟩; cases hwe))
        rw [roundsIn_succ]
        gi_upto_region 27 with fail
        have hzN := boxed_same (HB.out.block W.heap.size (HD.out.2.2.2.2 _ HXN.out)) HD.out.2.1
        gi_wp2_with (refine ⟨trivial, ?_⟩; gi_at_call 25; refine (callsIn_wide.2 (awake25_ok _)).mono ?_; rintro e wc ⟨rfl, hb⟩; have hzc := boxed_same (hb.block _ hzN.lt) hzN; have c25 := hzc.cell; have f25 := hzc.frozen; have HC := Aside0.mk (And.intro (below_step HB.out hb HB.out.size) hzc); clear hb hzc)
        have hc := HC.out.1
        have hWb := HD.out.1
        have hKd := HD.out.2.2.1
        have hDW := HD.out.2.2.2.1
        have hB2 := (below_step hWb hc hWb.size).setCell (p := ⟨W.heap.size, 0, none⟩) (Nat.le_refl _) (.bool true)
        have hK2 : (wc.setCell ⟨W.heap.size, 0, none⟩ (.bool true)).heap[w7.heap.size]? = some (.deferred (some [])) := (Below.heap_setCell _ _ _ _ (by show w7.heap.size ≠ W.heap.size; omega)).trans ((hc.block _ (Array.getElem?_eq_some_iff.1 hKd).1).trans hKd)
        refine ⟨by simp, .inl ⟨_, _, rfl, run_takeDeferred hK2, ?_⟩⟩
        refine ⟨_, res10 W.heap.size _ true _ rfl (boxed_same (World.putObj_heap_other (by omega)) (HC.out.2.set _)), rfl, hB2.os, hB2.tape, hB2.output, by rw [World.putObj_size]; exact hB2.size, fun j hj => (World.putObj_heap_other (by omega)).trans (hB2.block j hj)⟩
    case stop =>
      rintro c pre Xd Wd h hg hn hK
      exact h.elim
  · have d1 : decide (2 ≤ most) = false := by simp; omega
    gi_upto_region 8 with fail
    have hb3 : Below W.heap.size W ((w2.alloc (.cells #[.int .i64 0] 3)).alloc (.cells #[.int .i64 0] 25)) := ((below_step H1.out.1 HB2.out H1.out.1.size).alloc (Nat.le_trans H1.out.1.size HB2.out.size) _).alloc (by have := H1.out.1.size; have := HB2.out.size; simp; omega) _
    have hz1 := H1.out.2.1
    have hz2 := HB2.out.size
    have b4 := ((boxed_same (HB2.out.block W.heap.size (by omega)) H1.out.2.2).alloc (.cells #[.int .i64 0] 3)).alloc (.cells #[.int .i64 0] 25)
    have bn := (Boxed.new w2 3 (.int .i64 0)).alloc (.cells #[.int .i64 0] 25)
    have bw := Boxed.new (w2.alloc (.cells #[.int .i64 0] 3)) 25 (.int .i64 0)
    have hs3 : ((w2.alloc (.cells #[.int .i64 0] 3)).alloc (.cells #[.int .i64 0] 25)).heap.size = w2.heap.size + 2 := by simp
    rw [World.size_alloc] at bw
    have hNP : W.heap.size < w2.heap.size := by omega
    generalize (w2.alloc (.cells #[.int .i64 0] 3)).alloc (.cells #[.int .i64 0] 25) = w3 at hb3 b4 bn bw hs3 ⊢
    generalize w2.heap.size = P1 at bn bw hs3 hNP ⊢
    have H3 := Aside0.mk (And.intro hb3 (And.intro b4 (And.intro bn bw)))
    have hO3 : OwnB (fun j => j < W.heap.size) w3 (.slice aa ra.length ca) ra := OwnB.same hb3.size (fun j hj => hb3.block j hj) HX.out
    have hL18 := (callsIn_wide (n := 8)).2 (list_p _ aa ra.length ca ra w3 hO3 (fun j hj => Nat.lt_of_lt_of_le hj hb3.size) (by omega))
    clear hO3 hb3 b4 bn bw hz1 hz2 H1 HB2 hNew q37 q37n
    gi_upto_region 9 with (first
      | (refine ⟨trivial, ?_⟩; gi_at_call 18; refine hL18.mono ?_; rintro e w4 ⟨g4, la4, prs, R4, rfl, hb4, hp4, hz4, hit4, hR4⟩; have H4 := Aside0.mk (And.intro hb4 (And.intro hp4 (And.intro hz4 (And.intro hit4 hR4)))); clear hb4 hp4 hz4 hit4 hR4)
      | (refine ⟨trivial, ?_⟩; gi_at_call 35; refine (callsIn_wide.2 (meter_c _ (ra.length - 1) _ hmax)).mono ?_; rintro e w5 ⟨rfl, hb5, hlt5, hm5⟩; have H5 := Aside0.mk (And.intro hb5 (And.intro hlt5 hm5)); clear hb5 hlt5 hm5)
      | (refine ⟨trivial, ?_⟩; gi_at_call 17; refine (callsIn_wide.2 (metered_c _ _ prs R4 w4.heap.size (ra.length - 1) (by omega) _ (H4.out.2.2.2.1.below H5.out.1) H4.out.2.2.1 H5.out.2.2 (fun j hj => by have := H4.out.2.2.2.1.it.lt j hj; omega))).mono ?_; rintro e w6 ⟨g6, lb6, R6, rfl, hb6, hit6, hn6, hR6⟩; have H6 := Aside0.mk (And.intro hb6 (And.intro hit6 (And.intro hn6 hR6))); clear hb6 hit6 hn6 hR6)
      | (refine ⟨trivial, ?_⟩; gi_at_call 33; refine (callsIn_wide.2 (ends_c _ _ ra (ra.length - 1) (fun j => j = w4.heap.size) R6 _ (by have h := H6.out.2.1; rw [H4.out.2.1] at h; exact h) (fun j hj hr => H6.out.2.2.1 j hr hj) (by omega) rfl)).mono ?_; rintro e w7 ⟨lb7, R7, rfl, hb7, hit7, hR7⟩))
    have HB7 := Aside0.mk hb7
    clear hb7
    have hsA := H4.out.1.size
    have hsB := H5.out.1.size
    have hsC := H6.out.1.size
    have hsD := HB7.out.size
    have hsE := H5.out.2.1
    have hbA : Below w3.heap.size w3 w7 := below_step (below_step (below_step H4.out.1 H5.out.1 hsA) H6.out.1 (by omega)) HB7.out (by omega)
    have hKI0 : KI W.heap.size P1 [] (fun j => j = W.heap.size ∨ j = P1 ∨ j = P1 + 1) w7 := by
      obtain ⟨k1, k2, k3, k4⟩ := H3.out
      refine ⟨.inl rfl, .inr (.inl rfl), .inr (.inr rfl), boxed_same (hbA.block _ (by omega)) k2, boxed_same (hbA.block _ (by omega)) k3, boxed_same (hbA.block _ (by omega)) k4, ?_⟩
      rintro j (rfl | rfl | rfl) <;> omega
    have hRX : ∀ j, R7 j → ¬ (j = W.heap.size ∨ j = P1 ∨ j = P1 + 1) := by
      intro j hj
      have h : j < W.heap.size ∨ w3.heap.size ≤ j := by
        rcases hR7 j hj with h | h
        · rcases H6.out.2.2.2 j h with h | h
          · rcases H4.out.2.2.2.2 j h with h | h
            · exact .inl h
            · exact .inr h
          · right; omega
        · right; omega
      rintro (rfl | rfl | rfl) <;> omega
    have HK := Aside0.mk hKI0
    have HBA := Aside0.mk hbA
    have hMlt : w4.heap.size < w7.heap.size := by omega
    have hMX : ¬ (w4.heap.size = W.heap.size ∨ w4.heap.size = P1 ∨ w4.heap.size = P1 + 1) := by omega
    clear hKI0 hbA hR7 hsA hsB hsC hsD hsE
    refine wpIn_rangeFunc_m (n := 9) (encs := enc) hro (by decide) (gf := 79) (lb := lb7) rfl trivial (enters_of Try.func79 (by kernel_rfl) rfl) (hit7.ex 8) GE.anti (fun _ => rfl) (fun j => j = W.heap.size ∨ j = P1 ∨ j = P1 + 1) (Nat.le_refl _)
      (fun j hj => ⟨hit7.lt j hj, hRX j hj, rfl⟩) (fun j hj => ⟨hit7.ml j hj, (by rw [hj]; exact hMX), rfl⟩) HK.out.hi
      (KI W.heap.size P1) (fun _ _ _ _ => False) KI.stable (fun c => fun _ _ _ _ h _ => h) HK.out ?round ?done ?stop
    case round =>
      rintro lab pre ⟨⟨xa, xn, xc⟩, e⟩ X1 Wa hl ⟨hne, rfl, hx⟩ hI hg hXl hlt ⟨lr, hlr⟩
      obtain ⟨rfl, rfl, rfl, rfl⟩ : xa = none ∧ xn = 0 ∧ xc = 0 ∧ e = 310 := by
        have h : (xa = none ∧ xn = 0 ∧ xc = 0) ∧ e = 310 := by simpa [RV.nil] using hx
        exact ⟨h.1.1, h.1.2.1, h.1.2.2, h.2⟩
      have HG := Aside0.mk (And.intro hI hg)
      have HL := Aside0.mk (And.intro hl (And.intro hXl hlt))
      clear hI hg hl hXl hlt hx hlr
      gi_wp2
      try refine ⟨fun _ _ _ => trivial, Nat.le_refl _, trivial, trivial, trivial, ?_⟩
      intro W3 z1 z2 z3 z4 z5
      obtain ⟨hI, hg⟩ := HG.out
      obtain ⟨hl, hXl, hlt⟩ := HL.out
      have hag3 : AgM (fun j => j = w4.heap.size) X1 0 Wa W3 := ⟨z2, z3, z4, by omega, fun j hj => z5 j (by rintro rfl; rcases hj with h | h; exact hXl h; omega)⟩
      have hI3 := KI.stable _ _ _ _ hI hag3
      have c1 := hI3.b1.cell
      have f1 := hI3.b1.frozen
      have c2 := hI3.b2.cell
      have f2 := hI3.b2.frozen
      have HI := Aside0.mk (And.intro hI3 z1)
      clear hI hg hl hXl hlt hag3 hI3 z1 z2 z3 z4 z5
      gi_wp2
      exact HI.out.1.one hNP HI.out.2
    case done =>
      rintro ys Xd Wd hfin hI hg hn hK
      have hWd : Below W.heap.size W Wd := by
        have h3 := H3.out.1
        have hA := HBA.out
        have h3s := h3.size
        have hAs := hA.size
        refine ⟨hg.os.trans (hA.os.trans h3.os), hg.tape.trans (hA.tape.trans h3.tape), hg.output.trans (hA.output.trans h3.output), by have := hg.size; omega, fun j hj => ?_⟩
        rw [hg.block j (by omega) (by rintro (h | h | h) <;> omega) (by have := H4.out.1.size; omega), hA.block j (by omega), h3.block j hj]
      have hDW : W.heap.size < w7.heap.size := by have := H3.out.1.size; have := HBA.out.size; omega
      have HD := Aside0.mk (And.intro hWd (And.intro hI.b0 (And.intro hK (And.intro hDW hI.hi))))
      have HXN := Aside0.mk hI.x0
      have hc1 := hI.b1.cell
      have hc2 := hI.b2.cell
      have hfl : ys.length = if ra = [] then 0 else 1 := hfin
      clear HK HBA hMlt hMX hWd hDW hn hK hg hit7 hRX hfin H4 H5 H6 H3 hL18 hw hmax
      by_cases hra : ra = []
      · rw [if_pos hra] at hfl
        have hys : ys = [] := List.eq_nil_of_length_eq_zero hfl
        subst hys
        have e0 : decide (0 < ra.length) = false := by rw [hra]; rfl
        have e3 : ¬ 0 < ra.length := by rw [hra]; decide
        have e1 : Wd.cell? ⟨P1, 0, none⟩ = some (.int .i64 0) := hc1
        have e2 : Wd.cell? ⟨P1 + 1, 0, none⟩ = some (.int .i64 0) := hc2
        clear hI hc1 hc2 hfl hra
        gi_upto_region 17 with fail
        have HB := Aside0.mk (Below.refl Wd.heap.size Wd)
        clear e1 e2 e0 e3 HX HB7 hs3
        gi_upto_region 20 with (first
          | (refine ⟨trivial, ?_⟩; gi_at_call 33; refine (callsIn_wide.2 (nil_sorted _)).mono ?_; rintro e wa ⟨gq, laq, Rq, rfl, hb, hit⟩; have HQ := Aside0.mk hit; have HB := Aside0.mk (below_step HB.out hb HB.out.size); clear hb hit)
          | (refine ⟨trivial, ?_⟩; gi_at_call 34; refine (callsIn_wide.2 (nil_top _ _)).mono ?_; rintro e wa ⟨gq, laq, Rq, rfl, hb, hit⟩; have HQ := Aside0.mk hit; have HB := Aside0.mk (below_step HB.out hb HB.out.size); clear hb hit)
          | (refine ⟨trivial, ?_⟩; gi_at_call 28; refine (callsIn_wide.2 (nil_dist _)).mono ?_; rintro e wa ⟨gq, laq, Rq, rfl, hb, hit⟩; have HQ := Aside0.mk hit; have HB := Aside0.mk (below_step HB.out hb HB.out.size); clear hb hit)
          | (refine ⟨trivial, ?_⟩; gi_at_call 19; refine (callsIn_wide.2 (collect_zero _ _ _ HQ.out)).mono ?_; rintro e wa ⟨aq, cq, rfl, hb⟩; have HB := Aside0.mk (below_step HB.out hb HB.out.size); clear hb HQ))
        gi_wp2
        refine wpIn_loop_rounds 3 ?_
        have cz := World.alloc_heap_new wa (.cells #[.slice none 0 0, .int .i64 0, .slice none 0 0, .slice none 0 0, .int .i64 0, .bool false] 66)
        have cs := World.alloc_heap_new (wa.alloc (.cells #[.slice none 0 0, .int .i64 0, .slice none 0 0, .slice none 0 0, .int .i64 0, .bool false] 66)) (.cells #[.pointer none, .pointer (some ⟨wa.heap.size, 0, none⟩)] 37)
        have cz := (Below.heap_alloc (wa.alloc (.cells #[.slice none 0 0, .int .i64 0, .slice none 0 0, .slice none 0 0, .int .i64 0, .bool false] 66)) (.cells #[.pointer none, .pointer (some ⟨wa.heap.size, 0, none⟩)] 37) wa.heap.size (by simp)).trans cz
        rw [World.size_alloc] at cs
        have HB := Aside0.mk ((HB.out.alloc HB.out.size (.cells #[.slice none 0 0, .int .i64 0, .slice none 0 0, .slice none 0 0, .int .i64 0, .bool false] 66)).alloc (by have := HB.out.size; simp; omega) (.cells #[.pointer none, .pointer (some ⟨wa.heap.size, 0, none⟩)] 37))
        generalize (wa.alloc (.cells #[.slice none 0 0, .int .i64 0, .slice none 0 0, .slice none 0 0, .int .i64 0, .bool false] 66)).alloc (.cells #[.pointer none, .pointer (some ⟨wa.heap.size, 0, none⟩)] 37) = wl at cz cs HB ⊢
        have s0 : wl.cell? ⟨wa.heap.size + 1, 0, none⟩ = some (.pointer none) := by simp [World.cell?, cs]
        have s1 : wl.cell? ⟨wa.heap.size + 1, 1, none⟩ = some (.pointer (some ⟨wa.heap.size, 0, none⟩)) := by simp [World.cell?, cs]
        have sz : wl.cell? ⟨wa.heap.size, 1, none⟩ = some (.int .i64 0) := by simp [World.cell?, cz]
        clear cz cs
        generalize wa.heap.size = Z at s0 s1 sz ⊢
        rw [roundsIn_succ]
        gi_wp2_with (first
          | (refine ⟨trivial, ?_⟩; gi_at_call 24; refine (callsIn_wide.2 (rows_notb none _ (given_nil _))).mono ?_; rintro e wb ⟨gq, laq, Rq, rfl, hb, hit⟩; have HQ := Aside0.mk hit; have HB := Aside0.mk (below_step HB.out hb HB.out.size); replace s0 := keep_cell s0 hb; replace s1 := keep_cell s1 hb; replace sz := keep_cell sz hb; clear hb hit)
          | (refine ⟨trivial, ?_⟩; gi_at_call 19; refine (callsIn_wide.2 (collect_zero _ _ _ HQ.out)).mono ?_; rintro e wb ⟨aq, cq, rfl, hb⟩; have HB := Aside0.mk (below_step HB.out hb HB.out.size); replace s0 := keep_cell s0 hb; replace s1 := keep_cell s1 hb; replace sz := keep_cell sz hb; clear hb HQ)
          | (refine ⟨trivial, ?_⟩; gi_at_call 22; refine (callsIn_wide.2 (put_not none _ (given_nil _) _ _ _)).mono ?_; rintro e wb ⟨rfl, hwe⟩; cases hwe)
          | (refine ⟨trivial, ?_⟩; gi_at_call 30; refine (callsIn_wide.2 (runs_not none _ (given_nil _))).mono ?_; rintro e wb ⟨rfl, hwe⟩; cases hwe))
        rw [roundsIn_succ]
        gi_wp2_with (first
          | (refine ⟨trivial, ?_⟩; gi_at_call 24; refine (callsIn_wide.2 (rows_notb (some ⟨Z, 0, none⟩) _ (given_zero Z _ sz))).mono ?_; rintro e wb ⟨gq, laq, Rq, rfl, hb, hit⟩; have HQ := Aside0.mk hit; have HB := Aside0.mk (below_step HB.out hb HB.out.size); replace s0 := keep_cell s0 hb; replace s1 := keep_cell s1 hb; replace sz := keep_cell sz hb; clear hb hit)
          | (refine ⟨trivial, ?_⟩; gi_at_call 19; refine (callsIn_wide.2 (collect_zero _ _ _ HQ.out)).mono ?_; rintro e wb ⟨aq, cq, rfl, hb⟩; have HB := Aside0.mk (below_step HB.out hb HB.out.size); replace s0 := keep_cell s0 hb; replace s1 := keep_cell s1 hb; replace sz := keep_cell sz hb; clear hb HQ)
          | (refine ⟨trivial, ?_⟩; gi_at_call 22; refine (callsIn_wide.2 (put_not (some ⟨Z, 0, none⟩) _ (given_zero Z _ sz) _ _ _)).mono ?_; rintro e wb ⟨rfl, hwe⟩; cases hwe)
          | (refine ⟨trivial, ?_⟩; gi_at_call 30; refine (callsIn_wide.2 (runs_not (some ⟨Z, 0, none⟩) _ (given_zero Z _ sz))).mono ?_; rintro e wb ⟨rfl, hwe⟩; cases hwe))
        rw [roundsIn_succ]
        gi_upto_region 27 with fail
        have hzN := boxed_same (HB.out.block W.heap.size (HD.out.2.2.2.2 _ HXN.out)) HD.out.2.1
        gi_wp2_with (refine ⟨trivial, ?_⟩; gi_at_call 25; refine (callsIn_wide.2 (awake25_ok _)).mono ?_; rintro e wc ⟨rfl, hb⟩; have hzc := boxed_same (hb.block _ hzN.lt) hzN; have c25 := hzc.cell; have f25 := hzc.frozen; have HC := Aside0.mk (And.intro (below_step HB.out hb HB.out.size) hzc); clear hb hzc)
        have hc := HC.out.1
        have hWb := HD.out.1
        have hKd := HD.out.2.2.1
        have hDW := HD.out.2.2.2.1
        have hB2 := (below_step hWb hc hWb.size).setCell (p := ⟨W.heap.size, 0, none⟩) (Nat.le_refl _) (.bool true)
        have hK2 : (wc.setCell ⟨W.heap.size, 0, none⟩ (.bool true)).heap[w7.heap.size]? = some (.deferred (some [])) := (Below.heap_setCell _ _ _ _ (by show w7.heap.size ≠ W.heap.size; omega)).trans ((hc.block _ (Array.getElem?_eq_some_iff.1 hKd).1).trans hKd)
        refine ⟨by simp, .inl ⟨_, _, rfl, run_takeDeferred hK2, ?_⟩⟩
        refine ⟨_, res10 W.heap.size _ true _ rfl (boxed_same (World.putObj_heap_other (by omega)) (HC.out.2.set _)), rfl, hB2.os, hB2.tape, hB2.output, by rw [World.putObj_size]; exact hB2.size, fun j hj => (World.putObj_heap_other (by omega)).trans (hB2.block j hj)⟩
      · rw [if_neg hra] at hfl
        have hyn : ys ≠ [] := by rintro rfl; cases hfl
        have e3 : 0 < ra.length := List.length_pos_iff.2 hra
        have e0 : decide (0 < ra.length) = true := decide_eq_true e3
        have e1 : Wd.cell? ⟨P1, 0, none⟩ = some (.int .i64 1) := by rw [hc1, hfl]; rfl
        have e2 : Wd.cell? ⟨P1 + 1, 0, none⟩ = some (.int .i64 310) := by rw [hc2, if_neg hyn]
        clear hI hc1 hc2 hfl hra hyn
        gi_upto_region 17 with fail
        have HB := Aside0.mk (Below.refl Wd.heap.size Wd)
        clear e1 e2 e0 e3 HX HB7 hs3
        gi_upto_region 20 with (first
          | (refine ⟨trivial, ?_⟩; gi_at_call 33; refine (callsIn_wide.2 (nil_sorted _)).mono ?_; rintro e wa ⟨gq, laq, Rq, rfl, hb, hit⟩; have HQ := Aside0.mk hit; have HB := Aside0.mk (below_step HB.out hb HB.out.size); clear hb hit)
          | (refine ⟨trivial, ?_⟩; gi_at_call 34; refine (callsIn_wide.2 (nil_top _ _)).mono ?_; rintro e wa ⟨gq, laq, Rq, rfl, hb, hit⟩; have HQ := Aside0.mk hit; have HB := Aside0.mk (below_step HB.out hb HB.out.size); clear hb hit)
          | (refine ⟨trivial, ?_⟩; gi_at_call 28; refine (callsIn_wide.2 (nil_dist _)).mono ?_; rintro e wa ⟨gq, laq, Rq, rfl, hb, hit⟩; have HQ := Aside0.mk hit; have HB := Aside0.mk (below_step HB.out hb HB.out.size); clear hb hit)
          | (refine ⟨trivial, ?_⟩; gi_at_call 19; refine (callsIn_wide.2 (collect_zero _ _ _ HQ.out)).mono ?_; rintro e wa ⟨aq, cq, rfl, hb⟩; have HB := Aside0.mk (below_step HB.out hb HB.out.size); clear hb HQ))
        gi_wp2
        refine wpIn_loop_rounds 3 ?_
        have cz := World.alloc_heap_new wa (.cells #[.slice none 0 0, .int .i64 0, .slice none 0 0, .slice none 0 0, .int .i64 0, .bool false] 66)
        have cs := World.alloc_heap_new (wa.alloc (.cells #[.slice none 0 0, .int .i64 0, .slice none 0 0, .slice none 0 0, .int .i64 0, .bool false] 66)) (.cells #[.pointer none, .pointer (some ⟨wa.heap.size, 0, none⟩)] 37)
        have cz := (Below.heap_alloc (wa.alloc (.cells #[.slice none 0 0, .int .i64 0, .slice none 0 0, .slice none 0 0, .int .i64 0, .bool false] 66)) (.cells #[.pointer none, .pointer (some ⟨wa.heap.size, 0, none⟩)] 37) wa.heap.size (by simp)).trans cz
        rw [World.size_alloc] at cs
        have HB := Aside0.mk ((HB.out.alloc HB.out.size (.cells #[.slice none 0 0, .int .i64 0, .slice none 0 0, .slice none 0 0, .int .i64 0, .bool false] 66)).alloc (by have := HB.out.size; simp; omega) (.cells #[.pointer none, .pointer (some ⟨wa.heap.size, 0, none⟩)] 37))
        generalize (wa.alloc (.cells #[.slice none 0 0, .int .i64 0, .slice none 0 0, .slice none 0 0, .int .i64 0, .bool false] 66)).alloc (.cells #[.pointer none, .pointer (some ⟨wa.heap.size, 0, none⟩)] 37) = wl at cz cs HB ⊢
        have s0 : wl.cell? ⟨wa.heap.size + 1, 0, none⟩ = some (.pointer none) := by simp [World.cell?, cs]
        have s1 : wl.cell? ⟨wa.heap.size + 1, 1, none⟩ = some (.pointer (some ⟨wa.heap.size, 0, none⟩)) := by simp [World.cell?, cs]
        have sz : wl.cell? ⟨wa.heap.size, 1, none⟩ = some (.int .i64 0) := by simp [World.cell?, cz]
        clear cz cs
        generalize wa.heap.size = Z at s0 s1 sz ⊢
        rw [roundsIn_succ]
        gi_wp2_with (first
          | (refine ⟨trivial, ?_⟩; gi_at_call 24; refine (callsIn_wide.2 (rows_notb none _ (given_nil _))).mono ?_; rintro e wb ⟨gq, laq, Rq, rfl, hb, hit⟩; have HQ := Aside0.mk hit; have HB := Aside0.mk (below_step HB.out hb HB.out.size); replace s0 := keep_cell s0 hb; replace s1 := keep_cell s1 hb; replace sz := keep_cell sz hb; clear hb hit)
          | (refine ⟨trivial, ?_⟩; gi_at_call 19; refine (callsIn_wide.2 (collect_zero _ _ _ HQ.out)).mono ?_; rintro e wb ⟨aq, cq, rfl, hb⟩; have HB := Aside0.mk (below_step HB.out hb HB.out.size); replace s0 := keep_cell s0 hb; replace s1 := keep_cell s1 hb; replace sz := keep_cell sz hb; clear hb HQ)
          | (refine ⟨trivial, ?_⟩; gi_at_call 22; refine (callsIn_wide.2 (put_not none _ (given_nil _) _ _ _)).mono ?_; rintro e wb ⟨rfl, hwe⟩; cases hwe)
          | (refine ⟨trivial, ?_⟩; gi_at_call 30; refine (callsIn_wide.2 (runs_not none _ (given_nil _))).mono ?_; rintro e wb ⟨rfl, hwe⟩; cases hwe))
        rw [roundsIn_succ]
        gi_wp2_with (first
          | (refine ⟨trivial, ?_⟩; gi_at_call 24; refine (callsIn_wide.2 (rows_notb (some ⟨Z, 0, none⟩) _ (given_zero Z _ sz))).mono ?_; rintro e wb ⟨gq, laq, Rq, rfl, hb, hit⟩; have HQ := Aside0.mk hit; have HB := Aside0.mk (below_step HB.out hb HB.out.size); replace s0 := keep_cell s0 hb; replace s1 := keep_cell s1 hb; replace sz := keep_cell sz hb; clear hb hit)
          | (refine ⟨trivial, ?_⟩; gi_at_call 19; refine (callsIn_wide.2 (collect_zero _ _ _ HQ.out)).mono ?_; rintro e wb ⟨aq, cq, rfl, hb⟩; have HB := Aside0.mk (below_step HB.out hb HB.out.size); replace s0 := keep_cell s0 hb; replace s1 := keep_cell s1 hb; replace sz := keep_cell sz hb; clear hb HQ)
          | (refine ⟨trivial, ?_⟩; gi_at_call 22; refine (callsIn_wide.2 (put_not (some ⟨Z, 0, none⟩) _ (given_zero Z _ sz) _ _ _)).mono ?_; rintro e wb ⟨rfl, hwe⟩; cases hwe)
          | (refine ⟨trivial, ?_⟩; gi_at_call 30; refine (callsIn_wide.2 (runs_not (some ⟨Z, 0, none⟩) _ (given_zero Z _ sz))).mono ?_; rintro e wb ⟨rfl, hwe⟩; cases hwe))
        rw [roundsIn_succ]
        gi_upto_region 27 with fail
        have hzN := boxed_same (HB.out.block W.heap.size (HD.out.2.2.2.2 _ HXN.out)) HD.out.2.1
        gi_wp2_with (refine ⟨trivial, ?_⟩; gi_at_call 25; refine (callsIn_wide.2 (awake25_ok _)).mono ?_; rintro e wc ⟨rfl, hb⟩; have hzc := boxed_same (hb.block _ hzN.lt) hzN; have c25 := hzc.cell; have f25 := hzc.frozen; have HC := Aside0.mk (And.intro (below_step HB.out hb HB.out.size) hzc); clear hb hzc)
        have hc := HC.out.1
        have hWb := HD.out.1
        have hKd := HD.out.2.2.1
        have hDW := HD.out.2.2.2.1
        have hB2 := (below_step hWb hc hWb.size).setCell (p := ⟨W.heap.size, 0, none⟩) (Nat.le_refl _) (.bool true)
        have hK2 : (wc.setCell ⟨W.heap.size, 0, none⟩ (.bool true)).heap[w7.heap.size]? = some (.deferred (some [])) := (Below.heap_setCell _ _ _ _ (by show w7.heap.size ≠ W.heap.size; omega)).trans ((hc.block _ (Array.getElem?_eq_some_iff.1 hKd).1).trans hKd)
        refine ⟨by simp, .inl ⟨_, _, rfl, run_takeDeferred hK2, ?_⟩⟩
        refine ⟨_, res10 W.heap.size _ true _ rfl (boxed_same (World.putObj_heap_other (by omega)) (HC.out.2.set _)), rfl, hB2.os, hB2.tape, hB2.output, by rw [World.putObj_size]; exact hB2.size, fun j hj => (World.putObj_heap_other (by omega)).trans (hB2.block j hj)⟩
    case stop =>
      rintro c pre Xd Wd h hg hn hK
      exact h.elim
  · have d1 : decide (2 ≤ most) = true := by simp; omega
    have d2 : decide (most ≤ 65536) = false := by simp; omega
    gi_upto_region 8 with fail
    have hb3 : Below W.heap.size W ((w2.alloc (.cells #[.int .i64 0] 3)).alloc (.cells #[.int .i64 0] 25)) := ((below_step H1.out.1 HB2.out H1.out.1.size).alloc (Nat.le_trans H1.out.1.size HB2.out.size) _).alloc (by have := H1.out.1.size; have := HB2.out.size; simp; omega) _
    have hz1 := H1.out.2.1
    have hz2 := HB2.out.size
    have b4 := ((boxed_same (HB2.out.block W.heap.size (by omega)) H1.out.2.2).alloc (.cells #[.int .i64 0] 3)).alloc (.cells #[.int .i64 0] 25)
    have bn := (Boxed.new w2 3 (.int .i64 0)).alloc (.cells #[.int .i64 0] 25)
    have bw := Boxed.new (w2.alloc (.cells #[.int .i64 0] 3)) 25 (.int .i64 0)
    have hs3 : ((w2.alloc (.cells #[.int .i64 0] 3)).alloc (.cells #[.int .i64 0] 25)).heap.size = w2.heap.size + 2 := by simp
    rw [World.size_alloc] at bw
    have hNP : W.heap.size < w2.heap.size := by omega
    generalize (w2.alloc (.cells #[.int .i64 0] 3)).alloc (.cells #[.int .i64 0] 25) = w3 at hb3 b4 bn bw hs3 ⊢
    generalize w2.heap.size = P1 at bn bw hs3 hNP ⊢
    have H3 := Aside0.mk (And.intro hb3 (And.intro b4 (And.intro bn bw)))
    have hO3 : OwnB (fun j => j < W.heap.size) w3 (.slice aa ra.length ca) ra := OwnB.same hb3.size (fun j hj => hb3.block j hj) HX.out
    have hL18 := (callsIn_wide (n := 8)).2 (list_p _ aa ra.length ca ra w3 hO3 (fun j hj => Nat.lt_of_lt_of_le hj hb3.size) (by omega))
    clear hO3 hb3 b4 bn bw hz1 hz2 H1 HB2 hNew q37 q37n
    gi_upto_region 9 with (first
      | (refine ⟨trivial, ?_⟩; gi_at_call 18; refine hL18.mono ?_; rintro e w4 ⟨g4, la4, prs, R4, rfl, hb4, hp4, hz4, hit4, hR4⟩; have H4 := Aside0.mk (And.intro hb4 (And.intro hp4 (And.intro hz4 (And.intro hit4 hR4)))); clear hb4 hp4 hz4 hit4 hR4)
      | (refine ⟨trivial, ?_⟩; gi_at_call 35; refine (callsIn_wide.2 (meter_c _ (ra.length - 1) _ hmax)).mono ?_; rintro e w5 ⟨rfl, hb5, hlt5, hm5⟩; have H5 := Aside0.mk (And.intro hb5 (And.intro hlt5 hm5)); clear hb5 hlt5 hm5)
      | (refine ⟨trivial, ?_⟩; gi_at_call 17; refine (callsIn_wide.2 (metered_c _ _ prs R4 w4.heap.size (ra.length - 1) (by omega) _ (H4.out.2.2.2.1.below H5.out.1) H4.out.2.2.1 H5.out.2.2 (fun j hj => by have := H4.out.2.2.2.1.it.lt j hj; omega))).mono ?_; rintro e w6 ⟨g6, lb6, R6, rfl, hb6, hit6, hn6, hR6⟩; have H6 := Aside0.mk (And.intro hb6 (And.intro hit6 (And.intro hn6 hR6))); clear hb6 hit6 hn6 hR6)
      | (refine ⟨trivial, ?_⟩; gi_at_call 33; refine (callsIn_wide.2 (ends_c _ _ ra (ra.length - 1) (fun j => j = w4.heap.size) R6 _ (by have h := H6.out.2.1; rw [H4.out.2.1] at h; exact h) (fun j hj hr => H6.out.2.2.1 j hr hj) (by omega) rfl)).mono ?_; rintro e w7 ⟨lb7, R7, rfl, hb7, hit7, hR7⟩))
    have HB7 := Aside0.mk hb7
    clear hb7
    have hsA := H4.out.1.size
    have hsB := H5.out.1.size
    have hsC := H6.out.1.size
    have hsD := HB7.out.size
    have hsE := H5.out.2.1
    have hbA : Below w3.heap.size w3 w7 := below_step (below_step (below_step H4.out.1 H5.out.1 hsA) H6.out.1 (by omega)) HB7.out (by omega)
    have hKI0 : KI W.heap.size P1 [] (fun j => j = W.heap.size ∨ j = P1 ∨ j = P1 + 1) w7 := by
      obtain ⟨k1, k2, k3, k4⟩ := H3.out
      refine ⟨.inl rfl, .inr (.inl rfl), .inr (.inr rfl), boxed_same (hbA.block _ (by omega)) k2, boxed_same (hbA.block _ (by omega)) k3, boxed_same (hbA.block _ (by omega)) k4, ?_⟩
      rintro j (rfl | rfl | rfl) <;> omega
    have hRX : ∀ j, R7 j → ¬ (j = W.heap.size ∨ j = P1 ∨ j = P1 + 1) := by
      intro j hj
      have h : j < W.heap.size ∨ w3.heap.size ≤ j := by
        rcases hR7 j hj with h | h
        · rcases H6.out.2.2.2 j h with h | h
          · rcases H4.out.2.2.2.2 j h with h | h
            · exact .inl h
            · exact .inr h
          · right; omega
        · right; omega
      rintro (rfl | rfl | rfl) <;> omega
    have HK := Aside0.mk hKI0
    have HBA := Aside0.mk hbA
    have hMlt : w4.heap.size < w7.heap.size := by omega
    have hMX : ¬ (w4.heap.size = W.heap.size ∨ w4.heap.size = P1 ∨ w4.heap.size = P1 + 1) := by omega
    clear hKI0 hbA hR7 hsA hsB hsC hsD hsE
    refine wpIn_rangeFunc_m (n := 9) (encs := enc) hro (by decide) (gf := 79) (lb := lb7) rfl trivial (enters_of Try.func79 (by kernel_rfl) rfl) (hit7.ex 8) GE.anti (fun _ => rfl) (fun j => j = W.heap.size ∨ j = P1 ∨ j = P1 + 1) (Nat.le_refl _)
      (fun j hj => ⟨hit7.lt j hj, hRX j hj, rfl⟩) (fun j hj => ⟨hit7.ml j hj, (by rw [hj]; exact hMX), rfl⟩) HK.out.hi
      (KI W.heap.size P1) (fun _ _ _ _ => False) KI.stable (fun c => fun _ _ _ _ h _ => h) HK.out ?round ?done ?stop
    case round =>
      rintro lab pre ⟨⟨xa, xn, xc⟩, e⟩ X1 Wa hl ⟨hne, rfl, hx⟩ hI hg hXl hlt ⟨lr, hlr⟩
      obtain ⟨rfl, rfl, rfl, rfl⟩ : xa = none ∧ xn = 0 ∧ xc = 0 ∧ e = 310 := by
        have h : (xa = none ∧ xn = 0 ∧ xc = 0) ∧ e = 310 := by simpa [RV.nil] using hx
        exact ⟨h.1.1, h.1.2.1, h.1.2.2, h.2⟩
      have HG := Aside0.mk (And.intro hI hg)
      have HL := Aside0.mk (And.intro hl (And.intro hXl hlt))
      clear hI hg hl hXl hlt hx hlr
      gi_wp2
      try refine ⟨fun _ _ _ => trivial, Nat.le_refl _, trivial, trivial, trivial, ?_⟩
      intro W3 z1 z2 z3 z4 z5
      obtain ⟨hI, hg⟩ := HG.out
      obtain ⟨hl, hXl, hlt⟩ := HL.out
      have hag3 : AgM (fun j => j = w4.heap.size) X1 0 Wa W3 := ⟨z2, z3, z4, by omega, fun j hj => z5 j (by rintro rfl; rcases hj with h | h; exact hXl h; omega)⟩
      have hI3 := KI.stable _ _ _ _ hI hag3
      have c1 := hI3.b1.cell
      have f1 := hI3.b1.frozen
      have c2 := hI3.b2.cell
      have f2 := hI3.b2.frozen
      have HI := Aside0.mk (And.intro hI3 z1)
      clear hI hg hl hXl hlt hag3 hI3 z1 z2 z3 z4 z5
      gi_wp2
      exact HI.out.1.one hNP HI.out.2
    case done =>
      rintro ys Xd Wd hfin hI hg hn hK
      have hWd : Below W.heap.size W Wd := by
        have h3 := H3.out.1
        have hA := HBA.out
        have h3s := h3.size
        have hAs := hA.size
        refine ⟨hg.os.trans (hA.os.trans h3.os), hg.tape.trans (hA.tape.trans h3.tape), hg.output.trans (hA.output.trans h3.output), by have := hg.size; omega, fun j hj => ?_⟩
        rw [hg.block j (by omega) (by rintro (h | h | h) <;> omega) (by have := H4.out.1.size; omega), hA.block j (by omega), h3.block j hj]
      have hDW : W.heap.size < w7.heap.size := by have := H3.out.1.size; have := HBA.out.size; omega
      have HD := Aside0.mk (And.intro hWd (And.intro hI.b0 (And.intro hK (And.intro hDW hI.hi))))
      have HXN := Aside0.mk hI.x0
      have hc1 := hI.b1.cell
      have hc2 := hI.b2.cell
      have hfl : ys.length = if ra = [] then 0 else 1 := hfin
      clear HK HBA hMlt hMX hWd hDW hn hK hg hit7 hRX hfin H4 H5 H6 H3 hL18 hw hmax
      by_cases hra : ra = []
      · rw [if_pos hra] at hfl
        have hys : ys = [] := List.eq_nil_of_length_eq_zero hfl
        subst hys
        have e0 : decide (0 < ra.length) = false := by rw [hra]; rfl
        have e3 : ¬ 0 < ra.length := by rw [hra]; decide
        have e1 : Wd.cell? ⟨P1, 0, none⟩ = some (.int .i64 0) := hc1
        have e2 : Wd.cell? ⟨P1 + 1, 0, none⟩ = some (.int .i64 0) := hc2
        clear hI hc1 hc2 hfl hra
        gi_upto_region 17 with fail
        have HB := Aside0.mk (Below.refl Wd.heap.size Wd)
        clear e1 e2 e0 e3 HX HB7 hs3
        gi_upto_region 20 with (first
          | (refine ⟨trivial, ?_⟩; gi_at_call 33; refine (callsIn_wide.2 (nil_sorted _)).mono ?_; rintro e wa ⟨gq, laq, Rq, rfl, hb, hit⟩; have HQ := Aside0.mk hit; have HB := Aside0.mk (below_step HB.out hb HB.out.size); clear hb hit)
          | (refine ⟨trivial, ?_⟩; gi_at_call 34; refine (callsIn_wide.2 (nil_top _ _)).mono ?_; rintro e wa ⟨gq, laq, Rq, rfl, hb, hit⟩; have HQ := Aside0.mk hit; have HB := Aside0.mk (below_step HB.out hb HB.out.size); clear hb hit)
          | (refine ⟨trivial, ?_⟩; gi_at_call 28; refine (callsIn_wide.2 (nil_dist _)).mono ?_; rintro e wa ⟨gq, laq, Rq, rfl, hb, hit⟩; have HQ := Aside0.mk hit; have HB := Aside0.mk (below_step HB.out hb HB.out.size); clear hb hit)
          | (refine ⟨trivial, ?_⟩; gi_at_call 19; refine (callsIn_wide.2 (collect_zero _ _ _ HQ.out)).mono ?_; rintro e wa ⟨aq, cq, rfl, hb⟩; have HB := Aside0.mk (below_step HB.out hb HB.out.size); clear hb HQ))
        gi_wp2
        refine wpIn_loop_rounds 3 ?_
        have cz := World.alloc_heap_new wa (.cells #[.slice none 0 0, .int .i64 0, .slice none 0 0, .slice none 0 0, .int .i64 0, .bool false] 66)
        have cs := World.alloc_heap_new (wa.alloc (.cells #[.slice none 0 0, .int .i64 0, .slice none 0 0, .slice none 0 0, .int .i64 0, .bool false] 66)) (.cells #[.pointer none, .pointer (some ⟨wa.heap.size, 0, none⟩)] 37)
        have cz := (Below.heap_alloc (wa.alloc (.cells #[.slice none 0 0, .int .i64 0, .slice none 0 0, .slice none 0 0, .int .i64 0, .bool false] 66)) (.cells #[.pointer none, .pointer (some ⟨wa.heap.size, 0, none⟩)] 37) wa.heap.size (by simp)).trans cz
        rw [World.size_alloc] at cs
        have HB := Aside0.mk ((HB.out.alloc HB.out.size (.cells #[.slice none 0 0, .int .i64 0, .slice none 0 0, .slice none 0 0, .int .i64 0, .bool false] 66)).alloc (by have := HB.out.size; simp; omega) (.cells #[.pointer none, .pointer (some ⟨wa.heap.size, 0, none⟩)] 37))
        generalize (wa.alloc (.cells #[.slice none 0 0, .int .i64 0, .slice none 0 0, .slice none 0 0, .int .i64 0, .bool false] 66)).alloc (.cells #[.pointer none, .pointer (some ⟨wa.heap.size, 0, none⟩)] 37) = wl at cz cs HB ⊢
        have s0 : wl.cell? ⟨wa.heap.size + 1, 0, none⟩ = some (.pointer none) := by simp [World.cell?, cs]
        have s1 : wl.cell? ⟨wa.heap.size + 1, 1, none⟩ = some (.pointer (some ⟨wa.heap.size, 0, none⟩)) := by simp [World.cell?, cs]
        have sz : wl.cell? ⟨wa.heap.size, 1, none⟩ = some (.int .i64 0) := by simp [World.cell?, cz]
        clear cz cs
        generalize wa.heap.size = Z at s0 s1 sz ⊢
        rw [roundsIn_succ]
        gi_wp2_with (first
          | (refine ⟨trivial, ?_⟩; gi_at_call 24; refine (callsIn_wide.2 (rows_notb none _ (given_nil _))).mono ?_; rintro e wb ⟨gq, laq, Rq, rfl, hb, hit⟩; have HQ := Aside0.mk hit; have HB := Aside0.mk (below_step HB.out hb HB.out.size); replace s0 := keep_cell s0 hb; replace s1 := keep_cell s1 hb; replace sz := keep_cell sz hb; clear hb hit)
          | (refine ⟨trivial, ?_⟩; gi_at_call 19; refine (callsIn_wide.2 (collect_zero _ _ _ HQ.out)).mono ?_; rintro e wb ⟨aq, cq, rfl, hb⟩; have HB := Aside0.mk (below_step HB.out hb HB.out.size); replace s0 := keep_cell s0 hb; replace s1 := keep_cell s1 hb; replace sz := keep_cell sz hb; clear hb HQ)
          | (refine ⟨trivial, ?_⟩; gi_at_call 22; refine (callsIn_wide.2 (put_not none _ (given_nil _) _ _ _)).mono ?_; rintro e wb ⟨rfl, hwe⟩; cases hwe)
          | (refine ⟨trivial, ?_⟩; gi_at_call 30; refine (callsIn_wide.2 (runs_not none _ (given_nil _))).mono ?_; rintro e wb ⟨rfl, hwe⟩; cases hwe))
        rw [roundsIn_succ]
        gi_wp2_with (first
          | (refine ⟨trivial, ?_⟩; gi_at_call 24; refine (callsIn_wide.2 (rows_notb (some ⟨Z, 0, none⟩) _ (given_zero Z _ sz))).mono ?_; rintro e wb ⟨gq, laq, Rq, rfl, hb, hit⟩; have HQ := Aside0.mk hit; have HB := Aside0.mk (below_step HB.out hb HB.out.size); replace s0 := keep_cell s0 hb; replace s1 := keep_cell s1 hb; replace sz := keep_cell sz hb; clear hb hit)
          | (refine ⟨trivial, ?_⟩; gi_at_call 19; refine (callsIn_wide.2 (collect_zero _ _ _ HQ.out)).mono ?_; rintro e wb ⟨aq, cq, rfl, hb⟩; have HB := Aside0.mk (below_step HB.out hb HB.out.size); replace s0 := keep_cell s0 hb; replace s1 := keep_cell s1 hb; replace sz := keep_cell sz hb; clear hb HQ)
          | (refine ⟨trivial, ?_⟩; gi_at_call 22; refine (callsIn_wide.2 (put_not (some ⟨Z, 0, none⟩) _ (given_zero Z _ sz) _ _ _)).mono ?_; rintro e wb ⟨rfl, hwe⟩; cases hwe)
          | (refine ⟨trivial, ?_⟩; gi_at_call 30; refine (callsIn_wide.2 (runs_not (some ⟨Z, 0, none⟩) _ (given_zero Z _ sz))).mono ?_; rintro e wb ⟨rfl, hwe⟩; cases hwe))
        rw [roundsIn_succ]
        gi_upto_region 27 with fail
        have hzN := boxed_same (HB.out.block W.heap.size (HD.out.2.2.2.2 _ HXN.out)) HD.out.2.1
        gi_wp2_with (refine ⟨trivial, ?_⟩; gi_at_call 25; refine (callsIn_wide.2 (awake25_ok _)).mono ?_; rintro e wc ⟨rfl, hb⟩; have hzc := boxed_same (hb.block _ hzN.lt) hzN; have c25 := hzc.cell; have f25 := hzc.frozen; have HC := Aside0.mk (And.intro (below_step HB.out hb HB.out.size) hzc); clear hb hzc)
        have hc := HC.out.1
        have hWb := HD.out.1
        have hKd := HD.out.2.2.1
        have hDW := HD.out.2.2.2.1
        have hB2 := (below_step hWb hc hWb.size).setCell (p := ⟨W.heap.size, 0, none⟩) (Nat.le_refl _) (.bool true)
        have hK2 : (wc.setCell ⟨W.heap.size, 0, none⟩ (.bool true)).heap[w7.heap.size]? = some (.deferred (some [])) := (Below.heap_setCell _ _ _ _ (by show w7.heap.size ≠ W.heap.size; omega)).trans ((hc.block _ (Array.getElem?_eq_some_iff.1 hKd).1).trans hKd)
        refine ⟨by simp, .inl ⟨_, _, rfl, run_takeDeferred hK2, ?_⟩⟩
        refine ⟨_, res10 W.heap.size _ true _ rfl (boxed_same (World.putObj_heap_other (by omega)) (HC.out.2.set _)), rfl, hB2.os, hB2.tape, hB2.output, by rw [World.putObj_size]; exact hB2.size, fun j hj => (World.putObj_heap_other (by omega)).trans (hB2.block j hj)⟩
      · rw [if_neg hra] at hfl
        have hyn : ys ≠ [] := by rintro rfl; cases hfl
        have e3 : 0 < ra.length := List.length_pos_iff.2 hra
        have e0 : decide (0 < ra.length) = true := decide_eq_true e3
        have e1 : Wd.cell? ⟨P1, 0, none⟩ = some (.int .i64 1) := by rw [hc1, hfl]; rfl
        have e2 : Wd.cell? ⟨P1 + 1, 0, none⟩ = some (.int .i64 310) := by rw [hc2, if_neg hyn]
        clear hI hc1 hc2 hfl hra hyn
        gi_upto_region 17 with fail
        have HB := Aside0.mk (Below.refl Wd.heap.size Wd)
        clear e1 e2 e0 e3 HX HB7 hs3
        gi_upto_region 20 with (first
          | (refine ⟨trivial, ?_⟩; gi_at_call 33; refine (callsIn_wide.2 (nil_sorted _)).mono ?_; rintro e wa ⟨gq, laq, Rq, rfl, hb, hit⟩; have HQ := Aside0.mk hit; have HB := Aside0.mk (below_step HB.out hb HB.out.size); clear hb hit)
          | (refine ⟨trivial, ?_⟩; gi_at_call 34; refine (callsIn_wide.2 (nil_top _ _)).mono ?_; rintro e wa ⟨gq, laq, Rq, rfl, hb, hit⟩; have HQ := Aside0.mk hit; have HB := Aside0.mk (below_step HB.out hb HB.out.size); clear hb hit)
          | (refine ⟨trivial, ?_⟩; gi_at_call 28; refine (callsIn_wide.2 (nil_dist _)).mono ?_; rintro e wa ⟨gq, laq, Rq, rfl, hb, hit⟩; have HQ := Aside0.mk hit; have HB := Aside0.mk (below_step HB.out hb HB.out.size); clear hb hit)
          | (refine ⟨trivial, ?_⟩; gi_at_call 19; refine (callsIn_wide.2 (collect_zero _ _ _ HQ.out)).mono ?_; rintro e wa ⟨aq, cq, rfl, hb⟩; have HB := Aside0.mk (below_step HB.out hb HB.out.size); clear hb HQ))
        gi_wp2
        refine wpIn_loop_rounds 3 ?_
        have cz := World.alloc_heap_new wa (.cells #[.slice none 0 0, .int .i64 0, .slice none 0 0, .slice none 0 0, .int .i64 0, .bool false] 66)
        have cs := World.alloc_heap_new (wa.alloc (.cells #[.slice none 0 0, .int .i64 0, .slice none 0 0, .slice none 0 0, .int .i64 0, .bool false] 66)) (.cells #[.pointer none, .pointer (some ⟨wa.heap.size, 0, none⟩)] 37)
        have cz := (Below.heap_alloc (wa.alloc (.cells #[.slice none 0 0, .int .i64 0, .slice none 0 0, .slice none 0 0, .int .i64 0, .bool false] 66)) (.cells #[.pointer none, .pointer (some ⟨wa.heap.size, 0, none⟩)] 37) wa.heap.size (by simp)).trans cz
        rw [World.size_alloc] at cs
        have HB := Aside0.mk ((HB.out.alloc HB.out.size (.cells #[.slice none 0 0, .int .i64 0, .slice none 0 0, .slice none 0 0, .int .i64 0, .bool false] 66)).alloc (by have := HB.out.size; simp; omega) (.cells #[.pointer none, .pointer (some ⟨wa.heap.size, 0, none⟩)] 37))
        generalize (wa.alloc (.cells #[.slice none 0 0, .int .i64 0, .slice none 0 0, .slice none 0 0, .int .i64 0, .bool false] 66)).alloc (.cells #[.pointer none, .pointer (some ⟨wa.heap.size, 0, none⟩)] 37) = wl at cz cs HB ⊢
        have s0 : wl.cell? ⟨wa.heap.size + 1, 0, none⟩ = some (.pointer none) := by simp [World.cell?, cs]
        have s1 : wl.cell? ⟨wa.heap.size + 1, 1, none⟩ = some (.pointer (some ⟨wa.heap.size, 0, none⟩)) := by simp [World.cell?, cs]
        have sz : wl.cell? ⟨wa.heap.size, 1, none⟩ = some (.int .i64 0) := by simp [World.cell?, cz]
        clear cz cs
        generalize wa.heap.size = Z at s0 s1 sz ⊢
        rw [roundsIn_succ]
        gi_wp2_with (first
          | (refine ⟨trivial, ?_⟩; gi_at_call 24; refine (callsIn_wide.2 (rows_notb none _ (given_nil _))).mono ?_; rintro e wb ⟨gq, laq, Rq, rfl, hb, hit⟩; have HQ := Aside0.mk hit; have HB := Aside0.mk (below_step HB.out hb HB.out.size); replace s0 := keep_cell s0 hb; replace s1 := keep_cell s1 hb; replace sz := keep_cell sz hb; clear hb hit)
          | (refine ⟨trivial, ?_⟩; gi_at_call 19; refine (callsIn_wide.2 (collect_zero _ _ _ HQ.out)).mono ?_; rintro e wb ⟨aq, cq, rfl, hb⟩; have HB := Aside0.mk (below_step HB.out hb HB.out.size); replace s0 := keep_cell s0 hb; replace s1 := keep_cell s1 hb; replace sz := keep_cell sz hb; clear hb HQ)
          | (refine ⟨trivial, ?_⟩; gi_at_call 22; refine (callsIn_wide.2 (put_not none _ (given_nil _) _ _ _)).mono ?_; rintro e wb ⟨rfl, hwe⟩; cases hwe)
          | (refine ⟨trivial, ?_⟩; gi_at_call 30; refine (callsIn_wide.2 (runs_not none _ (given_nil _))).mono ?_; rintro e wb ⟨rfl, hwe⟩; cases hwe))
        rw [roundsIn_succ]
        gi_wp2_with (first
          | (refine ⟨trivial, ?_⟩; gi_at_call 24; refine (callsIn_wide.2 (rows_notb (some ⟨Z, 0, none⟩) _ (given_zero Z _ sz))).mono ?_; rintro e wb ⟨gq, laq, Rq, rfl, hb, hit⟩; have HQ := Aside0.mk hit; have HB := Aside0.mk (below_step HB.out hb HB.out.size); replace s0 := keep_cell s0 hb; replace s1 := keep_cell s1 hb; replace sz := keep_cell sz hb; clear hb hit)
          | (refine ⟨trivial, ?_⟩; gi_at_call 19; refine (callsIn_wide.2 (collect_zero _ _ _ HQ.out)).mono ?_; rintro e wb ⟨aq, cq, rfl, hb⟩; have HB := Aside0.mk (below_step HB.out hb HB.out.size); replace s0 := keep_cell s0 hb; replace s1 := keep_cell s1 hb; replace sz := keep_cell sz hb; clear hb HQ)
          | (refine ⟨trivial, ?_⟩; gi_at_call 22; refine (callsIn_wide.2 (put_not (some ⟨Z, 0, none⟩) _ (given_zero Z _ sz) _ _ _)).mono ?_; rintro e wb ⟨rfl, hwe⟩; cases hwe)
          | (refine ⟨trivial, ?_⟩; gi_at_call 30; refine (callsIn_wide.2 (runs_not (some ⟨Z, 0, none⟩) _ (given_zero Z _ sz))).mono ?_; rintro e wb ⟨rfl, hwe⟩; cases hwe))
        rw [roundsIn_succ]
        gi_upto_region 27 with fail
        have hzN := boxed_same (HB.out.block W.heap.size (HD.out.2.2.2.2 _ HXN.out)) HD.out.2.1
        gi_wp2_with (refine ⟨trivial, ?_⟩; gi_at_call 25; refine (callsIn_wide.2 (awake25_ok _)).mono ?_; rintro e wc ⟨rfl, hb⟩; have hzc := boxed_same (hb.block _ hzN.lt) hzN; have c25 := hzc.cell; have f25 := hzc.frozen; have HC := Aside0.mk (And.intro (below_step HB.out hb HB.out.size) hzc); clear hb hzc)
        have hc := HC.out.1
        have hWb := HD.out.1
        have hKd := HD.out.2.2.1
        have hDW := HD.out.2.2.2.1
        have hB2 := (below_step hWb hc hWb.size).setCell (p := ⟨W.heap.size, 0, none⟩) (Nat.le_refl _) (.bool true)
        have hK2 : (wc.setCell ⟨W.heap.size, 0, none⟩ (.bool true)).heap[w7.heap.size]? = some (.deferred (some [])) := (Below.heap_setCell _ _ _ _ (by show w7.heap.size ≠ W.heap.size; omega)).trans ((hc.block _ (Array.getElem?_eq_some_iff.1 hKd).1).trans hKd)
        refine ⟨by simp, .inl ⟨_, _, rfl, run_takeDeferred hK2, ?_⟩⟩
        refine ⟨_, res10 W.heap.size _ true _ rfl (boxed_same (World.putObj_heap_other (by omega)) (HC.out.2.set _)), rfl, hB2.os, hB2.tape, hB2.output, by rw [World.putObj_size]; exact hB2.size, fun j hj => (World.putObj_heap_other (by omega)).trans (hB2.block j hj)⟩
    case stop =>
      rintro c pre Xd Wd h hg hn hK
      exact h.elim
end Go.Proofs.Ytghpjlohoehdnaa.Sep
