/- Whatever calls are made, a page has the document's cells and bytes (PagePlays): walked, it answers true. Condition: the list lies as it is read. -/
import Derived.Test.YtinbppcfdmbclaaPageDoes
import Derived.Test.YtinbppcfdmbclaaOpensA
namespace Go.Proofs.Ytinbppcfdmbclaa.Pg
open Go.RowKit Go.Proofs.YtinbppcfdmbclaaW.PrintWords Go.Proofs.YtinbppcfdmbclaaW.PrintLast Go.Proofs.YtinbppcfdmbclaaW.PrintMore
set_option linter.unusedVariables false
set_option linter.unusedSimpArgs false
/-- what holds at each round's head of PagePlays -/
structure PSt (w wr : World) (g b7 : Nat) (kd : UInt8) (u : Value) (L : List S66) : Prop where
  pg : PGL wr g kd L
  blk : wr.heap[b7]? = some (.cells #[.int .i64 (kd.toNat : Int), u] 27 (0, 0))
  row : Kd.R k66 66 wr w.heap.size (fun _ => True) u L
  bel : Below w.heap.size w wr
theorem PSt.below {w wr w1 : World} {g b7 : Nat} {kd : UInt8} {u : Value} {L : List S66} (h : PSt w wr g b7 kd u L) (hb : Below wr.heap.size wr w1) : PSt w w1 g b7 kd u L :=
  ⟨h.pg.below hb, (hb.block b7 (Array.getElem?_eq_some_iff.1 h.blk).1).trans h.blk, Kd.R_below h.row hb, below_step h.bel hb⟩
theorem AL.below {w w1 : World} {A : Option Addr} {l : List S52} (h : AL w A l) (hb : Below w.heap.size w w1) : AL w1 A l := by
  intro i hi
  obtain ⟨ad, h1, h2, h3, h4, h5⟩ := h i hi
  have hc : ∀ {a : Addr} {v : Value}, w.cell? a = some v → w1.cell? a = some v := fun h => (hb.cell (World.block_lt_of_cell? w _ h)).trans h
  exact ⟨ad, h1, hc h2, hc h3, hc h4, hc h5⟩
/-- the cells that the drawn region reads -/
def HeldP (w' : World) (b7 : Nat) (k : Int) (u : Value) (a0 a1 a2 a3 : Addr) (x : S52) : Prop :=
  w'.cell? ⟨b7, 0, none⟩ = some (.int .i64 k) ∧ w'.cell? ⟨b7, 1, none⟩ = some u ∧ w'.cell? a0 = some (.int .i64 x.f0) ∧ w'.cell? a1 = some (.int .i64 x.f1) ∧ w'.cell? a2 = some (.string x.f2) ∧ w'.cell? a3 = some (.string x.f3) ∧ Aside0 True
set_option maxRecDepth 100000 in
set_option maxHeartbeats 4000000 in
theorem Plays_none (w : World) (kind : Int) (A : Option Addr) (n c : Nat) (hk : kind < 1 ∨ 255 < kind) : Calls Try.prog 7 #[.int .i64 kind, .slice A n c] w fun e w' => e = .returned (.bool true) ∧ Below w.heap.size w w' := by
  have HK := Aside0.mk hk
  have HR := Aside0.mk (show quaysideref12_New.f kind = some (0, [], 1) from by
    unfold quaysideref12_New.f
    by_cases h : kind < 1
    · rw [if_pos h]
    · rw [if_neg h, if_pos (by omega)])
  clear hk
  go_enter Try.func7, Try.ntmps7
  go_wp2_with fail
  refine (New_bad _ kind HK.out).mono ?_; rintro e w1 ⟨rfl, rfl⟩
  go_wp2_with fail
  refine (quaysideref12_New.calls kind 0 [] 1 w1 HR.out).mono ?_; rintro e w2 ⟨v2, rfl, ho2, hb2⟩
  have HB := Aside0.mk (below_alloc hb2 (.cells #[.int .i64 0, v2] 27))
  obtain ⟨Av, cv, hv2⟩ := Kd.R_slice ho2
  subst hv2
  clear hb2 ho2
  go_wp2_with fail
  by_cases hn : 0 < n
  · have d1 : decide ((0 : Int) < (n : Int)) = true := decide_eq_true (by omega)
    have d2 : decide (0 < n) = true := decide_eq_true hn
    clear hn
    refine wp_loop_rounds 1 ?_
    rw [rounds_succ]
    go_wp2_with fail
    refine (awake_ok _).mono ?_; rintro e wZ ⟨rfl, hbZ⟩
    go_wp2_with fail
    go_ret
    exact ⟨rfl, below_step HB.out hbZ⟩
  · have d1 : decide ((0 : Int) < (n : Int)) = false := decide_eq_false (by omega)
    have d2 : decide (0 < n) = false := decide_eq_false hn
    clear hn
    refine wp_loop_rounds 1 ?_
    rw [rounds_succ]
    go_wp2_with fail
    refine (awake_ok _).mono ?_; rintro e wZ ⟨rfl, hbZ⟩
    go_wp2_with fail
    go_ret
    exact ⟨rfl, below_step HB.out hbZ⟩
theorem PGL.set {W : World} {g : Nat} {kd : UInt8} {L : List S66} (h : PGL W g kd L) (a : Addr) (v : Value) (hne : g ≠ a.block) : PGL (W.setCell a v) g kd L :=
  ⟨⟨(Below.heap_setCell _ a v g hne).trans h.pg.blk, h.pg.len⟩, h.cells⟩
theorem heldP {wr w' : World} {g b7 : Nat} {k : Int} {u : Value} {a0 : Addr} {x : S52} (hb7 : wr.heap[b7]? = some (.cells #[.int .i64 k, u] 27 (0, 0))) (h0 : wr.cell? a0 = some (.int .i64 x.f0)) (h1 : wr.cell? ⟨a0.block, a0.off + 1, none⟩ = some (.int .i64 x.f1)) (h2 : wr.cell? ⟨a0.block, a0.off + 2, none⟩ = some (.string x.f2)) (h3 : wr.cell? ⟨a0.block, a0.off + 3, none⟩ = some (.string x.f3)) (hne : b7 ≠ g ∧ a0.block ≠ g) (hb : BelX g wr w') :
    w'.cell? ⟨b7, 0, none⟩ = some (.int .i64 k) ∧ w'.cell? ⟨b7, 1, none⟩ = some u ∧ w'.cell? a0 = some (.int .i64 x.f0) ∧ w'.cell? ⟨a0.block, a0.off + 1, none⟩ = some (.int .i64 x.f1) ∧ w'.cell? ⟨a0.block, a0.off + 2, none⟩ = some (.string x.f2) ∧ w'.cell? ⟨a0.block, a0.off + 3, none⟩ = some (.string x.f3) ∧ Aside0 True := by
  have e := hb.blk hb7 hne.1
  exact ⟨(blk_cell e 0).trans rfl, (blk_cell e 1).trans rfl, hb.cell h0 hne.2, hb.cell h1 hne.2, hb.cell h2 hne.2, hb.cell h3 hne.2, ⟨trivial⟩⟩
set_option maxRecDepth 100000 in
set_option maxHeartbeats 4000000 in
theorem Plays_some (w : World) (kn : Nat) (A : Option Addr) (c : Nat) (l : List S52) (hk1 : 1 ≤ kn) (hk2 : kn ≤ 255) (hl : AL w A l) (hlen : l.length ≤ 9223372036854775807) : Calls Try.prog 7 #[.int .i64 (kn : Int), .slice A l.length c] w fun e w' => e = .returned (.bool true) ∧ Below w.heap.size w w' := by
  have HK := Aside0.mk (And.intro hk1 hk2)
  have HR := Aside0.mk (show quaysideref12_New.f (kn : Int) = some ((kn : Int), [], 0) from by
    unfold quaysideref12_New.f
    rw [if_neg (by omega), if_neg (by omega)])
  have HL := Aside0.mk hl
  obtain ⟨kd, hkd⟩ : ∃ kd : UInt8, kd = by_ kn := ⟨_, rfl⟩
  have hkn : (kn : Int) = (kd.toNat : Int) := by rw [hkd, by_at kn (by omega)]
  have HN0 := Aside0.mk (show kd ≠ 0 from fun e => by rw [e] at hkn; simp at hkn; omega)
  have HNew := Aside0.mk (New_ok w kn hk1 hk2)
  rw [← hkd] at HNew
  rw [hkn] at HNew HR ⊢
  clear hk1 hk2 hl hkd hkn HK
  go_enter Try.func7, Try.ntmps7
  go_wp2_with fail
  refine HNew.out.mono ?_; rintro e w1 ⟨g, rfl, hg, hp1, hb1⟩
  have H1 := Aside0.mk hp1
  have B1 := Aside0.mk hb1
  have HG := Aside0.mk hg
  clear hp1 hb1 hg HNew
  go_wp2_with fail
  refine (quaysideref12_New.calls _ _ _ _ w1 HR.out).mono ?_; rintro e w2 ⟨v2, rfl, ho2, hb2⟩
  obtain ⟨Av, cv, hv2⟩ := Kd.R_slice ho2
  subst hv2
  have hba := below_alloc hb2 (.cells #[.int .i64 (kd.toNat : Int), .slice Av ([] : List S66).length cv] 27)
  have HM0 := Aside0.mk (show PSt w (w2.alloc (.cells #[.int .i64 (kd.toNat : Int), .slice Av ([] : List S66).length cv] 27)) g w2.heap.size kd (.slice Av ([] : List S66).length cv) [] from
    ⟨H1.out.below hba, heap_alloc_new _ _, Kd.R_alloc (Kd.R_lower ho2 B1.out.size) _, below_step B1.out hba⟩)
  have HB7 := Aside0.mk (show w.heap.size ≤ w2.heap.size ∧ g ≠ w2.heap.size from by
    have h1 := (H1.out.below hb2).pg.lt
    have h2 := B1.out.size
    have h3 := hb2.size
    omega)
  clear hb2 ho2 hba H1 B1 HR
  go_wp2_with fail
  generalize hW : w2.alloc (.cells #[.int .i64 (kd.toNat : Int), .slice Av ([] : List S66).length cv] 27) = W0 at *
  clear hW
  generalize w2.heap.size = b7 at *
  go_loopw [9] (fun v9 wr => ∃ (i : Nat) (Aq : Option Addr) (cq : Nat) (L : List S66), v9 = .int .i64 (i : Int) ∧ Aside0 (i ≤ l.length) ∧ Aside0 (PSt w wr g b7 kd (.slice Aq L.length cq) L)) (fun v _ => l.length - (Lib.intOf v).toNat)
  case atStart => exact ⟨0, Av, cv, [], rfl, ⟨by omega⟩, HM0⟩
  case round =>
    clear HM0
    obtain ⟨i, Aq, cq, L, rfl, hI, HM⟩ := hrel
    have hIo := hI.out
    by_cases hlt : i < l.length
    · have d1 : decide ((i : Int) < (l.length : Int)) = true := decide_eq_true (by omega)
      have d2 : decide (i < l.length) = true := decide_eq_true hlt
      by_cases h60 : i < 60
      · have d3 : decide ((i : Int) < 60) = true := decide_eq_true (by omega)
        have d4 : decide (i < 60) = true := decide_eq_true h60
        obtain ⟨ad, hA, hw0, hw1, hw2, hw3⟩ := HL.out.below HM.out.bel i hlt
        obtain ⟨ad', hA', hwo⟩ : ∃ ad, A = some ad ∧ w.cell? (ad.add (i * 4)) = some (.int .i64 (l[i]).f0) := by
          obtain ⟨ad, h1, h2, _⟩ := HL.out i hlt
          exact ⟨ad, h1, h2⟩
        rw [show ad' = ad from by rw [hA] at hA'; exact (Option.some.inj hA').symm] at hwo
        clear hA' ad'
        obtain ⟨x, hx⟩ : ∃ x, l[i] = x := ⟨_, rfl⟩
        rw [hx] at hw0 hw1 hw2 hw3 hwo
        clear hx
        have HI := Aside0.mk (And.intro hlt h60)
        have hu52 := Try.underlying52
        have h3 : (i < l.length) = True := eq_true hlt
        have h4 : ((i : Int) < (l.length : Int)) = True := eq_true (by omega)
        clear hlt h60 hIo hI
        subst hA
        by_cases hb1 : x.f2.size > 200
        · have e1 : decide ((200 : Int) < (x.f2.size : Int)) = true := decide_eq_true (by omega)
          have e2 : decide (200 < x.f2.size) = true := decide_eq_true hb1
          go_wp2_with fail
          refine (awake_ok _).mono ?_; rintro e wZ ⟨rfl, hbZ⟩
          go_wp2_with fail
          go_ret
          exact ⟨rfl, below_step HM.out.bel hbZ⟩
        · have e1 : decide ((200 : Int) < (x.f2.size : Int)) = false := decide_eq_false (by omega)
          have e2 : decide (200 < x.f2.size) = false := decide_eq_false hb1
          by_cases hb2 : x.f3.size > 200
          · have e3 : decide ((200 : Int) < (x.f3.size : Int)) = true := decide_eq_true (by omega)
            have e4 : decide (200 < x.f3.size) = true := decide_eq_true hb2
            go_wp2_with fail
            refine (awake_ok _).mono ?_; rintro e wZ ⟨rfl, hbZ⟩
            go_wp2_with fail
            go_ret
            exact ⟨rfl, below_step HM.out.bel hbZ⟩
          · have e3 : decide ((200 : Int) < (x.f3.size : Int)) = false := decide_eq_false (by omega)
            have e4 : decide (200 < x.f3.size) = false := decide_eq_false hb2
            clear hb1 hb2
            go_wp2_with fail
            have HNe := Aside0.mk (show b7 ≠ g ∧ (ad.add (i * 4)).block ≠ g from ⟨fun e => HB7.out.2 e.symm, by
              have h1 := World.block_lt_of_cell? w _ hwo
              have h2 := HG.out
              omega⟩)
            have HD := Aside0.mk (fun (W : World) (hW : Below wr.heap.size wr W) => Does_ok (w0 := w) HN0.out (HM.out.below hW).pg (HM.out.below hW).bel HG.out (HM.out.below hW).row x.f0 x.f1 x.f2 x.f3)
            go_cut [10, 11] from 32 to 81 (fun v10 v11 wc => ∃ (b10 : Nat) (A8 : Option Addr) (c8 : Nat) (L8 : List S66), v10 = .pointer (some ⟨b10, 0, none⟩) ∧ v11 = .bool true ∧ Aside0 (wc.heap[b10]? = some (.cells #[.int .i64 (kd.toNat : Int), .slice A8 L8.length c8] 27 (0, 0)) ∧ wr.heap.size ≤ b10 ∧ PGL wc g kd L8 ∧ Kd.R k66 66 wc w.heap.size (fun _ => True) (.slice A8 L8.length c8) L8 ∧ BelX g wr wc))
            case first =>
              go_region_held3 (fun w' => w'.cell? ⟨b7, 0, none⟩ = some (.int .i64 (kd.toNat : Int)) ∧ w'.cell? ⟨b7, 1, none⟩ = some (.slice Aq L.length cq) ∧ w'.cell? (ad.add (i * 4)) = some (.int .i64 x.f0) ∧ w'.cell? ⟨(ad.add (i * 4)).block, (ad.add (i * 4)).off + 1, none⟩ = some (.int .i64 x.f1) ∧ w'.cell? ⟨(ad.add (i * 4)).block, (ad.add (i * 4)).off + 2, none⟩ = some (.string x.f2) ∧ w'.cell? ⟨(ad.add (i * 4)).block, (ad.add (i * 4)).off + 3, none⟩ = some (.string x.f3) ∧ Aside0 True)
                (first | exact heldP HM.out.blk hw0 hw1 hw2 hw3 HNe.out (BelX.refl _ _) | exact heldP HM.out.blk hw0 hw1 hw2 hw3 HNe.out (BelX.of_below (below_drew1 (Below.refl _ _))) | exact heldP HM.out.blk hw0 hw1 hw2 hw3 HNe.out (BelX.of_below (below_drew1 (below_alloc (Below.refl _ _) _))) | exact heldP HM.out.blk hw0 hw1 hw2 hw3 HNe.out (BelX.of_below (below_alloc (below_drew1 (Below.refl _ _)) _)) | exact heldP HM.out.blk hw0 hw1 hw2 hw3 HNe.out (by assumption) | exact heldP HM.out.blk hw0 hw1 hw2 hw3 HNe.out ((by assumption : BelX g wr _).trans (BelX.of_below (below_alloc (Below.refl _ _) _))) | exact heldP HM.out.blk hw0 hw1 hw2 hw3 HNe.out (BelX.setNew (by assumption) _ _ (Nat.le_refl _)) | exact heldP HM.out.blk hw0 hw1 hw2 hw3 HNe.out (BelX.setNew (BelX.setNew (by assumption) _ _ (Nat.le_refl _)) _ _ (Nat.le_refl _)) | fail)
                (first
                  | (go_simp; go_at_call 25; refine (HD.out _ (below_drew1 (Below.refl _ _))).mono ?_; rintro e w8 ⟨v1, L8, rfl, hp8, ho8, hx8⟩; obtain ⟨A8, c8, hv8⟩ := Kd.R_slice ho8; subst hv8; have hxx8 := (BelX.of_below (g := g) (below_drew1 (Below.refl wr.heap.size wr))).trans hx8; go_simp)
                  | (go_simp; go_at_call 25; refine (HD.out _ (below_drew1 (below_alloc (Below.refl _ _) _))).mono ?_; rintro e w8 ⟨v1, L8, rfl, hp8, ho8, hx8⟩; obtain ⟨A8, c8, hv8⟩ := Kd.R_slice ho8; subst hv8; have hxx8 := (BelX.of_below (g := g) (below_drew1 (below_alloc (Below.refl wr.heap.size wr) _))).trans hx8; have hblk8 : w8.heap[wr.heap.size]? = some (.cells #[.int .i64 0, .slice none 0 0] 27 (0, 0)) := hx8.blk (heap_alloc_new _ _) (by have := HM.out.pg.pg.lt; omega); have hcA := blk_cell hblk8 0; have hcB := blk_cell hblk8 1; have hfA := blk_frozen hblk8 0; have hfB := blk_frozen hblk8 1; go_simp)
                  | fail)
              · go_wp2_with fail
                go_meet
                case rel => exact ⟨_, A8, c8, L8, rfl, rfl, ⟨heap_alloc_new _ _, hxx8.size, hp8.below (below_alloc (Below.refl _ _) _), Kd.R_alloc ho8 _, hxx8.trans (BelX.of_below (below_alloc (Below.refl _ _) _))⟩⟩
              · go_wp2_with fail
                go_meet
                case rel => exact ⟨_, A8, c8, L8, rfl, rfl, ⟨blk_put (blk_put hblk8 0 _ rfl) 1 _ rfl, Nat.le_refl _, (hp8.set ⟨wr.heap.size, 0, none⟩ _ (Nat.ne_of_lt HM.out.pg.pg.lt)).set ⟨wr.heap.size, 1, none⟩ _ (Nat.ne_of_lt HM.out.pg.pg.lt), Kd.R_set (Kd.R_set ho8 hblk8 ht27 0 _) (blk_put hblk8 0 _ rfl) ht27 1 _, (hxx8.setNew ⟨wr.heap.size, 0, none⟩ _ (Nat.le_refl _)).setNew ⟨wr.heap.size, 1, none⟩ _ (Nat.le_refl _)⟩⟩
            case rest =>
              obtain ⟨b10, A8, c8, L8, rfl, rfl, HC⟩ := hcut
              have HN7 := Aside0.mk (show g < wr.heap.size ∧ b7 < wr.heap.size from ⟨HM.out.pg.pg.lt, (Array.getElem?_eq_some_iff.1 HM.out.blk).1⟩)
              have HM8 := Aside0.mk (show PGL wc g kd L8 ∧ wc.heap[b7]? = some (.cells #[.int .i64 (kd.toNat : Int), .slice Aq L.length cq] 27 (0, 0)) ∧ Kd.R k66 66 wc w.heap.size (fun _ => True) (.slice A8 L8.length c8) L8 ∧ Below w.heap.size w wc ∧ wc.heap[b10]? = some (.cells #[.int .i64 (kd.toNat : Int), .slice A8 L8.length c8] 27 (0, 0)) from
                ⟨HC.out.2.2.1, HC.out.2.2.2.2.blk HM.out.blk HNe.out.1, HC.out.2.2.2.1, BelX.below HM.out.bel HM.out.bel.size HG.out HC.out.2.2.2.2, HC.out.1⟩)
              have HB10 := Aside0.mk (show b7 ≠ b10 ∧ g ≠ b10 from ⟨by have := HN7.out; have := HC.out.2.1; omega, by have := HN7.out; have := HC.out.2.1; omega⟩)
              clear HC HM HD hw0 hw1 hw2 hw3 e1 e2 e3 e4
              have hc0 := (blk_cell HM8.out.2.2.2.2 0).trans rfl
              have hc1 := (blk_cell HM8.out.2.2.2.2 1).trans rfl
              go_wp2_with fail
              have hR8 := Kd.R_reads' HM8.out.2.2.1
              refine (Same_L HM8.out.1 hR8.2.2 hR8.2.1).mono ?_; rintro e w9 ⟨rfl, hb9⟩
              have HM9 := Aside0.mk (show PGL w9 g kd L8 ∧ w9.heap[b7]? = some (.cells #[.int .i64 (kd.toNat : Int), .slice Aq L.length cq] 27 (0, 0)) ∧ Kd.R k66 66 w9 w.heap.size (fun _ => True) (.slice A8 L8.length c8) L8 ∧ Below w.heap.size w w9 ∧ w9.heap[b10]? = some (.cells #[.int .i64 (kd.toNat : Int), .slice A8 L8.length c8] 27 (0, 0)) from
                ⟨HM8.out.1.below hb9, (hb9.block _ (Array.getElem?_eq_some_iff.1 HM8.out.2.1).1).trans HM8.out.2.1, Kd.R_below HM8.out.2.2.1 hb9, below_step HM8.out.2.2.2.1 hb9, (hb9.block _ (Array.getElem?_eq_some_iff.1 HM8.out.2.2.2.2).1).trans HM8.out.2.2.2.2⟩)
              clear hR8 hb9 HM8 hc0 hc1
              have hc0 := (blk_cell HM9.out.2.2.2.2 0).trans rfl
              have hc1 := (blk_cell HM9.out.2.2.2.2 1).trans rfl
              have hd0 := (blk_cell HM9.out.2.1 0).trans rfl
              have hd1 := (blk_cell HM9.out.2.1 1).trans rfl
              have hf0 := blk_frozen HM9.out.2.1 0
              have hf1 := blk_frozen HM9.out.2.1 1
              have HS := Aside0.mk (show PSt w ((w9.setCell ⟨b7, 0, none⟩ (.int .i64 (kd.toNat : Int))).setCell ⟨b7, 1, none⟩ (.slice A8 L8.length c8)) g b7 kd (.slice A8 L8.length c8) L8 from
                ⟨(HM9.out.1.set ⟨b7, 0, none⟩ _ HB7.out.2).set ⟨b7, 1, none⟩ _ HB7.out.2, blk_put (blk_put HM9.out.2.1 0 _ rfl) 1 _ rfl, Kd.R_set (Kd.R_set HM9.out.2.2.1 HM9.out.2.1 ht27 0 _) (blk_put HM9.out.2.1 0 _ rfl) ht27 1 _, below_set (below_set HM9.out.2.2.2.1 HB7.out.1) HB7.out.1⟩)
              clear HM9
              go_wp2
              have q1 : wrap64 ((i : Int) + 1) = ((i + 1 : Nat) : Int) := by have := HI.out; rw [w64s _ (by omega) (by omega)]; omega
              go_roundw
              case rel => exact ⟨i + 1, A8, c8, L8, by rw [q1], ⟨by have := HI.out; omega⟩, HS⟩
              case measure => rw [q1]; exact up_lt _ _ _ rfl HI.out.1
      · have d3 : decide ((i : Int) < 60) = false := decide_eq_false (by omega)
        have d4 : decide (i < 60) = false := decide_eq_false h60
        clear hlt h60
        go_wp2_with fail
        refine (awake_ok _).mono ?_; rintro e wZ ⟨rfl, hbZ⟩
        go_wp2_with fail
        go_ret
        exact ⟨rfl, below_step HM.out.bel hbZ⟩
    · have d1 : decide ((i : Int) < (l.length : Int)) = false := decide_eq_false (by omega)
      have d2 : decide (i < l.length) = false := decide_eq_false hlt
      clear hlt
      go_wp2_with fail
      refine (awake_ok _).mono ?_; rintro e wZ ⟨rfl, hbZ⟩
      go_wp2_with fail
      go_ret
      exact ⟨rfl, below_step HM.out.bel hbZ⟩
theorem Plays_ok (w : World) (kind : Int) (A : Option Addr) (c : Nat) (l : List S52) (hl : AL w A l) (hlen : l.length ≤ 9223372036854775807) : Calls Try.prog 7 #[.int .i64 kind, .slice A l.length c] w fun e w' => e = .returned (.bool true) ∧ Below w.heap.size w w' := by
  by_cases hk : kind < 1 ∨ 255 < kind
  · exact Plays_none w kind A l.length c hk
  · obtain ⟨kn, rfl⟩ : ∃ kn : Nat, kind = (kn : Int) := ⟨kind.toNat, by omega⟩
    exact Plays_some w kn A c l (by omega) (by omega) hl hlen
end Go.Proofs.Ytinbppcfdmbclaa.Pg
