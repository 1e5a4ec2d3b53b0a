/- A page is the document's: `same`, walked. No condition beyond those that each theorem names. -/
import Derived.Test.YtinbppcfdmbclaaPureBytes
import Derived.Test.YtinbppcfdmbclaaPureRFree
namespace Go.Proofs.Ytinbppcfdmbclaa.Pg
open Go.RowKit Go.Proofs.YtinbppcfdmbclaaW.PrintWords Go.Proofs.YtinbppcfdmbclaaW.PrintLast Go.Proofs.YtinbppcfdmbclaaW.PrintMore
set_option linter.unusedVariables false
set_option linter.unusedSimpArgs false
theorem Free_S {w : World} {g : Nat} {kind : UInt8} {L : List S66} (h : PGL w g kind L) : Calls Try.prog 17 #[.pointer (some ⟨g, 0, none⟩)] w fun e w' => e = .returned (.int .i64 (max 0 (248 - 2 * (L.length : Int) - (total L : Int) - 2))) ∧ Below w.heap.size w w' := by
  have := Free_pg h.pg
  rwa [roomB, enc_len _ _ h.cells.fits, enc_used _ _ h.cells.fits] at this
theorem bel_any {B : Nat} {w a : World} (h : Below B w a) : Below B w a.drew := below_drew1 h
theorem heldQ {W0 w' : World} {b : Nat} {x y : Value} (hb7 : W0.heap[b]? = some (.cells #[x, y] 27 (0, 0))) (hb : Below W0.heap.size W0 w') :
    w'.cell? ⟨b, 0, none⟩ = some x ∧ w'.cell? ⟨b, 1, none⟩ = some y ∧ Aside0 (Below W0.heap.size W0 w') := by
  have e := (hb.block b (Array.getElem?_eq_some_iff.1 hb7).1).trans hb7
  exact ⟨(blk_cell e 0).trans rfl, (blk_cell e 1).trans rfl, ⟨hb⟩⟩
/-- what `same` asks of the two, each at any later world -/
structure SameC (W0 : World) (g : Nat) (kind : UInt8) (L : List S66) (Av : Option Addr) (cv : Nat) (fr : Int) (s : ByteArray) : Prop where
  kd : ∀ W, Below W0.heap.size W0 W → Calls Try.prog 27 #[.pointer (some ⟨g, 0, none⟩)] W fun e w' => e = .returned (.int .i64 (kind.toNat : Int)) ∧ w' = W
  ln : ∀ W, Below W0.heap.size W0 W → Calls Try.prog 21 #[.pointer (some ⟨g, 0, none⟩)] W fun e w' => e = .returned (.int .i64 (L.length : Int)) ∧ w' = W
  fre : ∀ W, Below W0.heap.size W0 W → Calls Try.prog 17 #[.pointer (some ⟨g, 0, none⟩)] W fun e w' => e = .returned (.int .i64 fr) ∧ Below W0.heap.size W0 w'
  rfr : ∀ W, Below W0.heap.size W0 W → Calls Try.prog 40 #[.agg #[.int .i64 (kind.toNat : Int), .slice Av L.length cv]] W fun e w' => e = .returned (.int .i64 fr) ∧ Below W0.heap.size W0 w'
  byt : ∀ W, Below W0.heap.size W0 W → Calls Try.prog 12 #[.pointer (some ⟨g, 0, none⟩)] W fun e w' => e = .returned (.string s) ∧ Below W0.heap.size W0 w'
  rby : ∀ W, Below W0.heap.size W0 W → Calls Try.prog 39 #[.agg #[.int .i64 (kind.toNat : Int), .slice Av L.length cv]] W fun e w' => e = .returned (.string s) ∧ Below W0.heap.size W0 w'
theorem Kd.C_below66 {w w' : World} {A : Option Addr} {n : Nat} {xs : List S66} (h : Kd.C k66 w A n xs) (hb : Below w.heap.size w w') : Kd.C k66 w' A n xs := Kd.C_below h hb
theorem SameC.mk' {w W0 : World} {g : Nat} {kind : UInt8} {L : List S66} {Av : Option Addr} {cv : Nat} (h : PGL w g kind L) (hv : Kd.C k66 w Av L.length L) (hc : L.length ≤ cv) (hW : Below w.heap.size w W0) :
    SameC W0 g kind L Av cv (max 0 (248 - 2 * (L.length : Int) - (total L : Int) - 2)) (bytesR (encB kind L)) := by
  have h0 := h.below hW
  have hv0 : Kd.C k66 W0 Av L.length L := Kd.C_below66 hv hW
  refine ⟨fun W hb => Kind_L (h0.below hb), fun W hb => Len_L (h0.below hb), fun W hb => (Free_S (h0.below hb)).mono fun e w' ⟨a, b⟩ => ⟨a, below_step hb b⟩, fun W hb => ?_, fun W hb => (Bytes_pg (h0.below hb).pg).mono fun e w' ⟨a, b⟩ => ⟨a, below_step hb b⟩, fun W hb => ?_⟩
  · exact (quaysideref12_Free.calls 400 _ Av cv L _ W (Kd.C_below66 hv0 hb) hc (rfree_f _ L h.cells.fits 400 (by omega))).mono fun e w' ⟨a, b⟩ => ⟨a, below_step hb b⟩
  · exact (quaysideref12_Bytes.calls 5000 _ Av cv L _ W (Kd.C_below66 hv0 hb) hc (rbytes_f kind L h.cells.fits 5000 (by omega))).mono fun e w' ⟨a, b⟩ => ⟨a, below_step hb b⟩
set_option maxRecDepth 100000 in
set_option maxHeartbeats 4000000 in
theorem Same_L {w : World} {g : Nat} {kind : UInt8} {L : List S66} {Av : Option Addr} {cv : Nat} (h : PGL w g kind L) (hv : Kd.C k66 w Av L.length L) (hc : L.length ≤ cv) :
    Calls Try.prog 15 #[.pointer (some ⟨g, 0, none⟩), .agg #[.int .i64 (kind.toNat : Int), .slice Av L.length cv]] w fun e w' => e = .returned (.bool true) ∧ Below w.heap.size w w' := by
  have hsh := h.short
  have HB0 := Aside0.mk (below_alloc (Below.refl w.heap.size w) (.cells #[.int .i64 (kind.toNat : Int), .slice Av L.length cv] 27))
  have HS := Aside0.mk (SameC.mk' h hv hc HB0.out)
  have HP0 := Aside0.mk (h.below HB0.out)
  have HV0 := Aside0.mk (Kd.C_below66 hv HB0.out)
  have HQ := Aside0.mk (heap_alloc_new w (.cells #[.int .i64 (kind.toNat : Int), .slice Av L.length cv] 27))
  clear h hv hc
  obtain ⟨fr, hfr⟩ : ∃ fr, max 0 (248 - 2 * (L.length : Int) - (total L : Int) - 2) = fr := ⟨_, rfl⟩
  obtain ⟨s, hs⟩ : ∃ s, bytesR (encB kind L) = s := ⟨_, rfl⟩
  rw [hfr, hs] at HS
  clear hfr hs
  go_enter Try.func15, Try.ntmps15
  go_wp2_with fail
  generalize hW : w.alloc (.cells #[.int .i64 (kind.toNat : Int), .slice Av L.length cv] 27) = W0 at *
  clear hW
  generalize hb : w.heap.size = b at *
  have HBW := Aside0.mk hb
  clear hb
  go_region_held3 (fun w' => w'.cell? ⟨b, 0, none⟩ = some (.int .i64 (kind.toNat : Int)) ∧ w'.cell? ⟨b, 1, none⟩ = some (.slice Av L.length cv) ∧ Aside0 (Below W0.heap.size W0 w'))
    (first | exact heldQ HQ.out (Below.refl _ _) | exact heldQ HQ.out (below_drew1 (Below.refl _ _)) | exact heldQ HQ.out (by assumption) | exact heldQ HQ.out (below_drew1 (by assumption)) | fail)
    (first
      | (go_simp; go_at_call 27; refine (HS.out.kd _ (by first | exact Below.refl _ _ | exact below_drew1 (Below.refl _ _) | assumption | exact below_drew1 (by assumption))).mono ?_; rintro e w8 ⟨rfl, rfl⟩; go_simp)
      | (go_simp; go_at_call 21; refine (HS.out.ln _ (by first | exact Below.refl _ _ | exact below_drew1 (Below.refl _ _) | assumption | exact below_drew1 (by assumption))).mono ?_; rintro e w8 ⟨rfl, rfl⟩; go_simp)
      | (go_simp; go_at_call 17; refine (HS.out.fre _ (by first | exact Below.refl _ _ | exact below_drew1 (Below.refl _ _) | assumption | exact below_drew1 (by assumption))).mono ?_; rintro e w8 ⟨rfl, hb8⟩; go_simp)
      | (go_simp; go_at_call 40; refine (HS.out.rfr _ (by first | exact Below.refl _ _ | exact below_drew1 (Below.refl _ _) | assumption | exact below_drew1 (by assumption))).mono ?_; rintro e w8 ⟨rfl, hb8⟩; go_simp)
      | (go_simp; go_at_call 12; refine (HS.out.byt _ (by first | exact Below.refl _ _ | exact below_drew1 (Below.refl _ _) | assumption | exact below_drew1 (by assumption))).mono ?_; rintro e w8 ⟨rfl, hb8⟩; go_simp)
      | (go_simp; go_at_call 39; refine (HS.out.rby _ (by first | exact Below.refl _ _ | exact below_drew1 (Below.refl _ _) | assumption | exact below_drew1 (by assumption))).mono ?_; rintro e w8 ⟨rfl, hb8⟩; go_simp)
      | fail)
  have HW8 := Aside0.mk hb8
  clear hb8 HS
  go_wp2_with fail
  go_loopw [5] (fun v wr => ∃ i : Nat, v = .int .i64 (i : Int) ∧ Aside0 (i ≤ L.length) ∧ Aside0 (Below W0.heap.size W0 wr)) (fun v _ => L.length - (Lib.intOf v).toNat)
  case atStart => exact ⟨0, rfl, ⟨by omega⟩, HW8⟩
  case round =>
    clear HW8
    obtain ⟨i, rfl, hI, HB⟩ := hrel
    have hIo := hI.out
    have hq := heldQ HQ.out HB.out
    have hq0 := hq.1
    have hq1 := hq.2.1
    clear hq
    by_cases hlt : i < L.length
    · have d1 : decide ((i : Int) < (L.length : Int)) = true := decide_eq_true (by omega)
      have d2 : decide (i < L.length) = true := decide_eq_true hlt
      obtain ⟨x, hx⟩ : ∃ x, L[i] = x := ⟨_, rfl⟩
      have HX := Aside0.mk (show ∃ h : i < L.length, L[i] = x from ⟨hlt, hx⟩)
      have HAt := Aside0.mk (At_cell (HP0.out.below HB.out) i hlt)
      rw [hx] at HAt
      clear hx
      have HV := Aside0.mk (Kd.C_below66 HV0.out HB.out)
      have HLT := Aside0.mk hlt
      have h4 : ((i : Int) < (L.length : Int)) = True := eq_true (by omega)
      clear hlt hIo hI
      go_wp2_with fail
      refine HAt.out.mono ?_; rintro e w9 ⟨rfl, hb9⟩
      have hlt := HLT.out
      have HB9 := Aside0.mk (below_step HB.out hb9)
      obtain ⟨ad, hA, hw0, hw1⟩ := at_T66 (Kd.C_below66 HV.out hb9) (i : Int) (by omega) (by omega)
      rw [rd66 L i hlt, HX.out.2] at hw0 hw1
      simp only [Int.toNat_natCast] at hw0 hw1
      have hq := heldQ HQ.out HB9.out
      have hq0' := hq.1
      have hq1' := hq.2.1
      clear hq HAt HV hq0 hq1 hb9 HB
      have hu66 := Try.underlying66
      have h3 : (i < L.length) = True := eq_true hlt
      clear hlt
      subst hA
      go_wp2_with fail
      have q1 : wrap64 ((i : Int) + 1) = ((i + 1 : Nat) : Int) := by have := HLT.out; rw [w64s _ (by omega) (by omega)]; omega
      go_roundw
      case rel => exact ⟨i + 1, by rw [q1], ⟨by have := HLT.out; omega⟩, HB9⟩
      case measure => rw [q1]; exact up_lt _ _ _ rfl HLT.out
    · have d1 : decide ((i : Int) < (L.length : Int)) = false := decide_eq_false (by omega)
      have d2 : decide (i < L.length) = false := decide_eq_false hlt
      clear hlt
      go_wp2_with fail
      go_ret
      have h0 := HB0.out
      have h1 := HBW.out
      subst h1
      exact ⟨rfl, below_step h0 HB.out⟩
end Go.Proofs.Ytinbppcfdmbclaa.Pg
