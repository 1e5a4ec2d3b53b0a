/- A page of cells that have room, and the reference's (made): walked. Condition: few cells, of few bytes. -/
import Derived.Test.YtinbppcfdmbclaaPureRef
import Derived.Test.YtinbppcfdmbclaaPgz2
import Derived.Deep.LoopGhost
import Derived.Deep.CutRange
namespace Go.Proofs.Ytinbppcfdmbclaa.Pg
open Go.RowKit Go.Proofs.YtinbppcfdmbclaaW.PrintWords Go.Proofs.YtinbppcfdmbclaaW.PrintLast Go.Proofs.YtinbppcfdmbclaaW.PrintMore
set_option linter.unusedVariables false
set_option linter.unusedSimpArgs false
theorem R_belX {w w1 : World} {base g : Nat} {ok : Nat → Prop} {v : Value} {xs : List S66} {b : List UInt8} (h : Kd.R k66 66 w base ok v xs) (hp : PG w g b) (hb : BelX g w w1) : Kd.R k66 66 w1 base ok v xs := by
  have h2 := Kd.R_types h hp.blk (fun q hq => by
    have : q ∈ [66] := hq
    simp at this; omega)
  exact Kd.R_mono (Kd.R_step h2 (fun k hk hlt => hb.block k hlt hk.2)) (fun k hk => hk.1)
theorem below_kept {B : Nat} {w0 w w1 : World} (h : Below B w0 w) (h1 : Below B w0 w1) (hk : Kept w w1 (fun _ => False)) : Below w.heap.size w w1 :=
  ⟨h1.os.trans h.os.symm, h1.tape.trans h.tape.symm, h1.output.trans h.output.symm, hk.1, fun i hi => hk.2 i hi (fun f => f)⟩
/-- the reference's Put, in plain words -/
theorem rput_L {w0 w : World} {kind : Int} {u : Value} {L : List S66} (hB : Below w0.heap.size w0 w) (ho : Kd.R k66 66 w w0.heap.size (fun _ => True) u L) (hf : Fits L) (key value : ByteArray) :
    Calls Try.prog 30 #[.agg #[.int .i64 kind, u], .string key, .string value] w fun e w' => ∃ v1 : Value, e = .returned (.tuple #[.agg #[.int .i64 kind, v1], .int .i64 (putR L key value).1]) ∧ Kd.R k66 66 w' w0.heap.size (fun _ => True) v1 (putR L key value).2 ∧ ((putR L key value).1 ≠ 0 → v1 = u) ∧ Below w.heap.size w w' := by
  refine (rput_strong 400 kind (fun _ => False) (fun _ => True) u L key value kind (putR L key value).2 (putR L key value).1 w0 w hB ho (rput_f kind L key value 400 hf (by omega))).mono ?_
  rintro e w' ⟨v1, h1, h2, h3, h4, h5⟩
  have hb := below_kept hB h4 h5
  refine ⟨v1, h1, ?_, h3, hb⟩
  by_cases h0 : (putR L key value).1 = 0
  · exact Kd.R_mono (h2 h0) (fun _ _ => trivial)
  · have e2 : (putR L key value).2 = L := by
      unfold putR at h0 ⊢
      split
      · split
        · rename_i a b; rw [if_pos a, if_pos b] at h0; exact absurd rfl h0
        · rfl
      · rfl
    rw [h3 h0, e2]
    exact Kd.R_below ho hb
theorem ht27 : ∀ q, q ∈ 66 :: k66.E → q ≠ 27 := by
  intro q hq
  have : q ∈ [66] := hq
  simp at this; omega
theorem BelX.cell {g : Nat} {w w' : World} (hb : BelX g w w') {a : Addr} {v : Value} (h : w.cell? a = some v) (hne : a.block ≠ g) : w'.cell? a = some v := by
  have hlt := World.block_lt_of_cell? w _ h
  unfold World.cell? at h ⊢
  rw [hb.block _ hlt hne]; exact h
theorem putR_same {L : List S66} {key value : ByteArray} (h : (putR L key value).1 ≠ 0) : (putR L key value).2 = L := by
  unfold putR at h ⊢
  split
  · split
    · rename_i a b; rw [if_pos a, if_pos b] at h; exact absurd rfl h
    · rfl
  · rfl
/-- what holds at each round's head of 'made' -/
structure MSt (w wr : World) (g b7 : Nat) (vq : Value) (L : List S66) : Prop where
  pg : PGL wr g (by_ 7) L
  blk : wr.heap[b7]? = some (.cells #[.int .i64 7, vq] 27 (0, 0))
  row : Kd.R k66 66 wr w.heap.size (fun _ => True) vq L
  bel : Below w.heap.size w wr
  res : wr.heap[w.heap.size]? = some (.cells #[.int .i64 0, .slice none 0 0] 27 (0, 0))
theorem MSt.below {w wr w1 : World} {g b7 : Nat} {vq : Value} {L : List S66} (h : MSt w wr g b7 vq L) (hb : Below wr.heap.size wr w1) : MSt w w1 g b7 vq L :=
  ⟨h.pg.below hb, (hb.block b7 (Array.getElem?_eq_some_iff.1 h.blk).1).trans h.blk, Kd.R_below h.row hb, below_step h.bel hb, (hb.block _ (Array.getElem?_eq_some_iff.1 h.res).1).trans h.res⟩
theorem putR_fits {L : List S66} (h : Cells L) (key value : ByteArray) : Cells (putR L key value).2 := by
  unfold putR
  split
  · split
    · rename_i a b; exact ins_cells h key value a b
    · exact h
  · exact h
theorem heldM {wr w' : World} {b7 : Nat} {vq x0 x1 : Value} {a0 a1 : Addr} (hb7 : wr.heap[b7]? = some (.cells #[.int .i64 7, vq] 27 (0, 0))) (h0 : wr.cell? a0 = some x0) (h1 : wr.cell? a1 = some x1) (hb : Below wr.heap.size wr w') :
    w'.cell? ⟨b7, 0, none⟩ = some (.int .i64 7) ∧ w'.cell? ⟨b7, 1, none⟩ = some vq ∧ w'.cell? a0 = some x0 ∧ w'.cell? a1 = some x1 ∧ Aside0 (Below wr.heap.size wr w') := by
  have e := (hb.block b7 (Array.getElem?_eq_some_iff.1 hb7).1).trans hb7
  have hcs : ∀ {a : Addr} {v : Value}, wr.cell? a = some v → w'.cell? a = some v := fun h => (hb.cell (World.block_lt_of_cell? wr _ h)).trans h
  exact ⟨(blk_cell e 0).trans rfl, (blk_cell e 1).trans rfl, hcs h0, hcs h1, ⟨hb⟩⟩
set_option maxRecDepth 100000 in
set_option maxHeartbeats 4000000 in
theorem made_ok (w : World) (A : Option Addr) (c : Nat) (l : List S66) (hr : Kd.C k66 w A l.length l) (hc : l.length ≤ c) (hl : l.length ≤ 40) :
    Calls Try.prog 11 #[.slice A l.length c] w fun e w' => ∃ g vq L, e = .returned (.tuple #[.pointer (some ⟨g, 0, none⟩), .agg #[.int .i64 7, vq], .bool true]) ∧ w.heap.size ≤ g ∧ PGL w' g (by_ 7) L ∧ Kd.R k66 66 w' w.heap.size (fun _ => True) vq L ∧ Below w.heap.size w w' := by
  have HR := Aside0.mk hr
  clear hr
  go_enter Try.func11, Try.ntmps11
  go_wp2_with fail
  refine (New_ok _ 7 (by omega) (by omega)).mono ?_; rintro e w1 ⟨g, rfl, hg, hp1, hb1⟩
  have H1 := Aside0.mk hp1
  have B1 := Aside0.mk (Below.trans ((Below.refl w.heap.size w).alloc (Nat.le_refl _) _) (hb1.mono (by simp)))
  have HG := Aside0.mk (show w.heap.size + 1 ≤ g from by simpa using hg)
  have R1 := Aside0.mk (show w1.heap[w.heap.size]? = some (.cells #[.int .i64 0, .slice none 0 0] 27 (0, 0)) from (hb1.block _ (by simp)).trans (heap_alloc_new _ _))
  clear hp1 hb1 hg
  go_wp2_with fail
  refine (quaysideref12_New.calls 7 7 [] 0 w1 (by rfl)).mono ?_; rintro e w2 ⟨v2, rfl, ho2, hb2⟩
  have H2 := Aside0.mk (H1.out.below hb2)
  have B2 := Aside0.mk (below_step B1.out hb2)
  have O2 := Aside0.mk (Kd.R_lower ho2 B1.out.size)
  have R2 := Aside0.mk ((hb2.block _ (Array.getElem?_eq_some_iff.1 R1.out).1).trans R1.out)
  clear ho2 hb2 H1 B1
  obtain ⟨Av, cv, hv2⟩ := Kd.R_slice O2.out
  subst hv2
  go_wp2_with fail
  have HM0 := Aside0.mk (show MSt w (w2.alloc (.cells #[.int .i64 7, .slice Av 0 cv] 27)) g w2.heap.size (.slice Av 0 cv) [] from
    ⟨H2.out.below (below_alloc (Below.refl _ _) _), heap_alloc_new _ _, Kd.R_alloc O2.out _, below_alloc B2.out _, ((below_alloc (Below.refl w2.heap.size w2) _).block _ (Array.getElem?_eq_some_iff.1 R2.out).1).trans R2.out⟩)
  have HB7 := Aside0.mk (show w.heap.size ≤ w2.heap.size ∧ g ≠ w2.heap.size ∧ w.heap.size ≠ w2.heap.size ∧ g ≠ w.heap.size from by
    have h1 := H2.out.pg.lt
    have h2 := (Array.getElem?_eq_some_iff.1 R2.out).1
    have h3 := HG.out
    omega)
  clear H2 B2 O2 R1 R2
  generalize hW : w2.alloc (.cells #[.int .i64 7, .slice Av 0 cv] 27) = W0 at *
  clear hW
  generalize w2.heap.size = b7 at *
  go_loopg [9, 10] l.length (fun n v9 v10 wr => ∃ (i : Nat) (Aq : Option Addr) (cq : Nat) (L : List S66), v9 = .bool true ∧ v10 = .int .i64 (i : Int) ∧ Aside0 (n + i = l.length) ∧ Aside0 (MSt w wr g b7 (.slice Aq L.length cq) L))
  case atStart => exact ⟨0, Av, cv, [], rfl, rfl, ⟨by omega⟩, HM0⟩
  case round =>
    clear HM0
    obtain ⟨i, Aq, cq, L, rfl, rfl, hI, HM⟩ := hrel
    have hIo := hI.out
    by_cases hlt : i < l.length
    · have d1 : decide ((i : Int) < (l.length : Int)) = true := decide_eq_true (by omega)
      have d2 : decide (i < l.length) = true := decide_eq_true hlt
      have d3 : decide ((i : Int) < 40) = true := decide_eq_true (by omega)
      have d4 : decide (i < 40) = true := decide_eq_true (by omega)
      obtain ⟨ad, hA, hw0, hw1⟩ := at_T66 HR.out (i : Int) (by omega) (by omega)
      rw [rd66 l i hlt] at hw0 hw1
      simp only [Int.toNat_natCast] at hw0 hw1
      have hc0 := (HM.out.bel.cell (World.block_lt_of_cell? w _ hw0)).trans hw0
      have hc1 := (HM.out.bel.cell (World.block_lt_of_cell? w _ hw1)).trans hw1
      have HAd := Aside0.mk (show (ad.add (i * 2)).block ≠ g from by
        have h1 := World.block_lt_of_cell? w _ hw0
        have h2 := HG.out
        omega)
      clear hw0 hw1
      obtain ⟨x, hx⟩ : ∃ x, l[i] = x := ⟨_, rfl⟩
      rw [hx] at hc0 hc1
      have HCC := Aside0.mk (And.intro hc0 hc1)
      have HI := Aside0.mk hlt
      have hu66 := Try.underlying66
      have h3 : (i < l.length) = True := eq_true hlt
      have h4 : ((i : Int) < (l.length : Int)) = True := eq_true (by omega)
      clear hx hc0 hc1
      subst hA
      go_wp2_with fail
      have RP := Aside0.mk (fun (W : World) (hW : Below wr.heap.size wr W) => rput_L (w0 := w) (kind := 7) (HM.out.below hW).bel (HM.out.below hW).row HM.out.pg.cells.fits x.f0 x.f1)
      obtain ⟨R, hR⟩ : ∃ R, putR L x.f0 x.f1 = R := ⟨_, rfl⟩
      have HRR := Aside0.mk hR
      rw [hR] at RP
      clear hR
      go_cut [11, 12] from 31 to 75 (fun v11 v12 wc => ∃ (b11 : Nat) (A8 : Option Addr) (c8 : Nat), v11 = .pointer (some ⟨b11, 0, none⟩) ∧ v12 = .int .i64 R.1 ∧ Aside0 (wc.heap[b11]? = some (.cells #[.int .i64 7, .slice A8 R.2.length c8] 27 (0, 0)) ∧ wr.heap.size ≤ b11 ∧ Kd.R k66 66 wc w.heap.size (fun _ => True) (.slice A8 R.2.length c8) R.2 ∧ Below wr.heap.size wr wc))
      case first =>
        go_region_held3 (fun w' => w'.cell? ⟨b7, 0, none⟩ = some (.int .i64 7) ∧ w'.cell? ⟨b7, 1, none⟩ = some (.slice Aq L.length cq) ∧ w'.cell? (ad.add (i * 2)) = some (.string x.f0) ∧ w'.cell? ⟨(ad.add (i * 2)).block, (ad.add (i * 2)).off + 1, none⟩ = some (.string x.f1) ∧ Aside0 (Below wr.heap.size wr w'))
          (first | exact heldM HM.out.blk HCC.out.1 HCC.out.2 (below_drew1 (Below.refl _ _)) | exact heldM HM.out.blk HCC.out.1 HCC.out.2 (by assumption) | exact heldM HM.out.blk HCC.out.1 HCC.out.2 (below_alloc (by assumption) _) | exact heldM HM.out.blk HCC.out.1 HCC.out.2 (below_drew1 (below_alloc (Below.refl _ _) _)) | exact heldM HM.out.blk HCC.out.1 HCC.out.2 (below_set (by assumption) (Nat.le_refl _)) | exact heldM HM.out.blk HCC.out.1 HCC.out.2 (below_set (below_set (by assumption) (Nat.le_refl _)) (Nat.le_refl _)) | fail)
          (first | (go_simp; go_at_call 30; refine (RP.out _ (below_drew1 (Below.refl _ _))).mono ?_; rintro e w8 ⟨v1, rfl, ho8, hne8, hb8⟩; obtain ⟨A8, c8, hv8⟩ := Kd.R_slice ho8; subst hv8; have hbb8 := below_step (below_drew1 (Below.refl wr.heap.size wr)) hb8; go_simp) | (go_simp; go_at_call 30; refine (RP.out _ (below_drew1 (below_alloc (Below.refl _ _) _))).mono ?_; rintro e w8 ⟨v1, rfl, ho8, hne8, hb8⟩; obtain ⟨A8, c8, hv8⟩ := Kd.R_slice ho8; subst hv8; have hbb8 := below_step (below_drew1 (below_alloc (Below.refl wr.heap.size wr) _)) hb8; have hblk8 : w8.heap[wr.heap.size]? = some (.cells #[.int .i64 0, .slice none 0 0] 27 (0, 0)) := (hb8.block _ (by simp)).trans (heap_alloc_new _ _); have hcA := blk_cell hblk8 0; have hcB := blk_cell hblk8 1; have hfA := blk_frozen hblk8 0; have hfB := blk_frozen hblk8 1; go_simp) | fail)
        · go_wp2_with fail
          go_meet
          case rel => exact ⟨_, A8, c8, rfl, rfl, ⟨heap_alloc_new _ _, hbb8.size, Kd.R_alloc ho8 _, below_alloc hbb8 _⟩⟩
        · go_wp2_with fail
          go_meet
          case rel => exact ⟨_, A8, c8, rfl, rfl, ⟨blk_put (blk_put hblk8 0 _ rfl) 1 _ rfl, Nat.le_refl _, Kd.R_set (Kd.R_set ho8 hblk8 ht27 0 _) (blk_put hblk8 0 _ rfl) ht27 1 _, below_set (below_set hbb8 (Nat.le_refl _)) (Nat.le_refl _)⟩⟩
      case rest =>
        obtain ⟨b11, A8, c8, rfl, rfl, HC⟩ := hcut
        obtain ⟨hc11, hle11, hrow11, hbel11⟩ := HC.out
        have HMc := Aside0.mk (HM.out.below hbel11)
        have hB11 := Aside0.mk (show g ≠ b11 ∧ b7 ≠ b11 ∧ w.heap.size ≤ b11 from by
          have h1 := HM.out.pg.pg.lt
          have h2 := (Array.getElem?_eq_some_iff.1 HM.out.blk).1
          have h3 := HM.out.bel.size
          omega)
        have hcs : ∀ {a : Addr} {v : Value}, wr.cell? a = some v → wc.cell? a = some v := fun h => (hbel11.cell (World.block_lt_of_cell? wr _ h)).trans h
        have hx0 := hcs HCC.out.1
        have hx1 := hcs HCC.out.2
        have HCC2 := Aside0.mk (And.intro hx0 hx1)
        clear hcs hx0 hx1 hc11 hle11 hrow11 hbel11 HM RP HCC
        have hc0 := HCC2.out.1
        have hc1 := HCC2.out.2
        have HPut := Aside0.mk (show Calls Try.prog 18 #[.pointer (some ⟨g, 0, none⟩), .string x.f0, .string x.f1] wc.drew fun e w' => e = .returned (.int .i64 R.1) ∧ PGL w' g (by_ 7) R.2 ∧ BelX g wc w' from by
          have := Put_any (HMc.out.pg.below (below_drew1 (Below.refl _ _))) x.f0 x.f1
          rw [HRR.out] at this
          exact this.mono fun e w' ⟨h1, h2, h3⟩ => ⟨h1, h2, (BelX.of_below (below_drew1 (Below.refl _ _))).trans h3⟩)
        go_wp2_with fail
        go_region_held3 (fun w' => w'.cell? (ad.add (i * 2)) = some (.string x.f0) ∧ w'.cell? ⟨(ad.add (i * 2)).block, (ad.add (i * 2)).off + 1, none⟩ = some (.string x.f1) ∧ Aside0 True) (first | exact ⟨HCC2.out.1, HCC2.out.2, ⟨trivial⟩⟩ | exact ⟨(by assumption : BelX g wc _).cell HCC2.out.1 HAd.out, (by assumption : BelX g wc _).cell HCC2.out.2 HAd.out, ⟨trivial⟩⟩ | fail) (first | (go_simp; go_at_call 18; refine HPut.out.mono ?_; rintro e w10 ⟨rfl, hp10, hb10⟩; go_simp) | fail)
        have hg7 := HB7.out
        have hg11 := hB11.out
        have hP7 := (hb10.block b7 (Array.getElem?_eq_some_iff.1 HMc.out.blk).1 (fun e => hg7.2.1 e.symm)).trans HMc.out.blk
        have hP11 := (hb10.block b11 (Array.getElem?_eq_some_iff.1 HC.out.1).1 (fun e => hg11.1 e.symm)).trans HC.out.1
        have hrow11 := R_belX HC.out.2.2.1 HMc.out.pg.pg hb10
        have hrowq := R_belX HMc.out.row HMc.out.pg.pg hb10
        have hbel := BelX.below HMc.out.bel HMc.out.bel.size (by have := HG.out; omega) hb10
        have hres := (hb10.block w.heap.size (Array.getElem?_eq_some_iff.1 HMc.out.res).1 (fun e => hg7.2.2.2 e.symm)).trans HMc.out.res
        have HQ := Aside0.mk (show R.1 ≠ 0 → R.2 = L from fun h => by have e := HRR.out; rw [← e] at h ⊢; exact putR_same h)
        have HP10 := Aside0.mk hp10
        have HI1 := Aside0.mk (show gk - 1 + (i + 1) = l.length ∧ gk - 1 < gk from by have h1 := hI.out; have h2 := HI.out; omega)
        by_cases h0 : R.1 = 0
        · have e0 : (R.1 == 0) = true := by rw [h0]; rfl
          have HN := Aside0.mk (show MSt w ((w10.setCell ⟨b7, 0, none⟩ (.int .i64 7)).setCell ⟨b7, 1, none⟩ (.slice A8 R.2.length c8)) g b7 (.slice A8 R.2.length c8) R.2 from by
            have hA := blk_put hP7 0 (.int .i64 7) rfl
            have hB := blk_put hA 1 (.slice A8 R.2.length c8) rfl
            refine ⟨⟨?_, hp10.cells⟩, hB, Kd.R_set (Kd.R_set hrow11 hP7 ht27 0 _) hA ht27 1 _, below_set (below_set hbel hg7.1) hg7.1, ?_⟩
            · exact ⟨(Below.heap_setCell _ ⟨b7, 1, none⟩ _ g hg7.2.1).trans ((Below.heap_setCell _ ⟨b7, 0, none⟩ _ g hg7.2.1).trans hp10.pg.blk), hp10.pg.len⟩
            · exact (Below.heap_setCell _ ⟨b7, 1, none⟩ _ _ hg7.2.2.1).trans ((Below.heap_setCell _ ⟨b7, 0, none⟩ _ _ hg7.2.2.1).trans hres))
          have hcz0 : w10.cell? ⟨b11, 0, none⟩ = some (.int .i64 7) := (blk_cell hP11 0).trans rfl
          have hcz1 : w10.cell? ⟨b11, 1, none⟩ = some (.slice A8 R.2.length c8) := (blk_cell hP11 1).trans rfl
          have hcy0 : w10.cell? ⟨b7, 0, none⟩ = some (.int .i64 7) := (blk_cell hP7 0).trans rfl
          have hcy1 : w10.cell? ⟨b7, 1, none⟩ = some (.slice Aq L.length cq) := (blk_cell hP7 1).trans rfl
          have hu27 := Try.underlying27
          have hfz0 := blk_frozen hP7 0
          have hfz1 := blk_frozen hP7 1
          clear hP7 hP11 hrow11 hrowq hbel hres hp10 hb10 HC HMc hB11 HPut HRR hg7 hg11
          go_wp2
          have q1 : (i : Int) + 1 = ((i + 1 : Nat) : Int) := by omega
          go_roundg (gk - 1)
          case rel => exact ⟨i + 1, A8, c8, R.2, rfl, by rw [q1], ⟨HI1.out.1⟩, HN⟩
          case measure => exact HI1.out.2
        · have e0 : (R.1 == 0) = false := beq_eq_false_iff_ne.2 h0
          have HN := Aside0.mk (show MSt w w10 g b7 (.slice Aq L.length cq) L from ⟨by rw [← HQ.out h0]; exact hp10, hP7, hrowq, hbel, hres⟩)
          clear hP7 hP11 hrow11 hrowq hbel hres hp10 hb10 HC HMc hB11 HPut HRR hg7 hg11 HP10 h0
          go_wp2
          have q1 : (i : Int) + 1 = ((i + 1 : Nat) : Int) := by omega
          go_roundg (gk - 1)
          case rel => exact ⟨i + 1, Aq, cq, L, rfl, by rw [q1], ⟨HI1.out.1⟩, HN⟩
          case measure => exact HI1.out.2
    · have d1 : decide ((i : Int) < (l.length : Int)) = false := decide_eq_false (by omega)
      have d2 : decide (i < l.length) = false := decide_eq_false hlt
      have hP7 := HM.out.blk
      have hPr := HM.out.res
      have hcy0 : wr.cell? ⟨b7, 0, none⟩ = some (.int .i64 7) := (blk_cell hP7 0).trans rfl
      have hcy1 : wr.cell? ⟨b7, 1, none⟩ = some (.slice Aq L.length cq) := (blk_cell hP7 1).trans rfl
      have hcr0 : wr.cell? ⟨w.heap.size, 0, none⟩ = some (.int .i64 0) := (blk_cell hPr 0).trans rfl
      have hcr1 : wr.cell? ⟨w.heap.size, 1, none⟩ = some (.slice none 0 0) := (blk_cell hPr 1).trans rfl
      have hfr0 := blk_frozen hPr 0
      have hfr1 := blk_frozen hPr 1
      have hu27 := Try.underlying27
      have HP7 := Aside0.mk hP7
      have HPr := Aside0.mk hPr
      clear hlt hIo hP7 hPr
      go_wp2_with fail
      go_region
      all_goals go_wp2
      have hA := blk_put HPr.out 0 (.int .i64 7) rfl
      have hB := blk_put hA 1 (.slice Aq L.length cq) rfl
      have hg7 := HB7.out
      have hm := HM.out
      refine bodyPost_ret (results_list (rs := [.tmp 2, .cell 3 27, .tmp 4]) rfl (by simp) (.tmp (.cell w.heap.size 27 _ (0, 0) _ rfl hB Try.underlying27 rfl (by kernel_rfl) (.tmp .nil)))) rfl ⟨g, .slice Aq L.length cq, L, rfl, by have := HG.out; omega, ⟨⟨?_, hm.pg.pg.len⟩, hm.pg.cells⟩, ?_, ?_⟩
      · exact (Below.heap_setCell _ ⟨w.heap.size, 1, none⟩ _ g hg7.2.2.2).trans ((Below.heap_setCell _ ⟨w.heap.size, 0, none⟩ _ g hg7.2.2.2).trans hm.pg.pg.blk)
      · exact Kd.R_drew (Kd.R_set (Kd.R_set hm.row HPr.out ht27 0 _) hA ht27 1 _)
      · exact below_drew1 (below_set (below_set hm.bel (Nat.le_refl _)) (Nat.le_refl _))
end Go.Proofs.Ytinbppcfdmbclaa.Pg
