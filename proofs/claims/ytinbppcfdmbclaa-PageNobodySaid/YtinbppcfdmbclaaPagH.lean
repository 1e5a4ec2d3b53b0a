/- A cell is taken out of a page: walked. No condition beyond those that each theorem names. -/
import Derived.Test.YtinbppcfdmbclaaPagG
namespace Go.Proofs.Ytinbppcfdmbclaa.Pg
open Go.RowKit Go.Proofs.YtinbppcfdmbclaaW.PrintWords Go.Proofs.YtinbppcfdmbclaaW.PrintLast Go.Proofs.YtinbppcfdmbclaaW.PrintMore
set_option linter.unusedVariables false
set_option linter.unusedSimpArgs false
/-- the bytes with a cell of n bytes taken out at place k: before the head is set -/
def closeB1 (b : List UInt8) (n last fr : Nat) : List UInt8 := splice (splice b (last + n) ((b.drop last).take (fr - last))) last (List.replicate n 0)
def closeB (b : List UInt8) (k n last fr lb : Nat) : List UInt8 :=
  splice (closeB1 b n last fr) (8 + 2 * k) (((closeB1 b n last fr).drop (8 + 2 * (k + 1))).take (8 + 2 * lb - (8 + 2 * (k + 1))))
set_option maxHeartbeats 4000000 in
theorem closes_pg {w : World} {g : Nat} {b : List UInt8} (h : PG w g b) (k n last fr e lb u : Nat) (S : Nat → List UInt8) (hlb : at_ b 1 = lb) (hk : k < lb) (hlb2 : 2 * lb + 8 ≤ 256)
    (hlast : fromB b ((lb : Int) - 1) = last) (hfr : fromB b (k : Int) = fr) (he : fromB b ((k : Int) - 1) = e) (hn : fr + n = e) (hn2 : n < 256) (hle : last ≤ fr) (h8 : 8 ≤ last)
    (hc1 : at_ (closeB1 b n last fr) 1 = lb) (ho1 : at_ (closeB b k n last fr lb) 1 = lb) (hu : usedB (closeB b k n last fr lb) = u) (hun : n ≤ u)
    (hS0 : S 0 = splice (setsB (closeB b k n last fr lb) (lb - 1) (u - n)) (8 + 2 * (lb - 1)) (List.replicate 2 0)) (hs1 : at_ (setsB (closeB b k n last fr lb) (lb - 1) (u - n)) 1 = lb - 1) (hS1 : ∀ m, m ≤ lb - 1 - k → at_ (S m) 1 = lb - 1)
    (hS2 : ∀ m, m < lb - 1 - k → at_ (S m) (8 + 2 * (k + m)) + n < 256 ∧ (S m).set (8 + 2 * (k + m)) (by_ (at_ (S m) (8 + 2 * (k + m)) + n)) = S (m + 1)) :
    Calls Try.prog 41 #[.pointer (some ⟨g, 0, none⟩), .int .i64 (k : Int)] w fun e w' => e = .returned (.tuple #[]) ∧ PG w' g (S (lb - 1 - k)) ∧ BelX g w w' := by
  have H := Aside0.mk h
  have HLB := Aside0.mk hlb
  have hel : e ≤ 256 := by have := fromB_le b ((k : Int) - 1); omega
  have HL := Aside0.mk (show (Calls Try.prog 21 #[.pointer (some ⟨g, 0, none⟩)] w fun e w' => e = .returned (.int .i64 (lb : Int)) ∧ w' = w) from by have := Len_pg h; rwa [hlb] at this)
  have HF1 := Aside0.mk (show (Calls Try.prog 36 #[.pointer (some ⟨g, 0, none⟩), .int .i64 ((lb : Int) - 1)] w fun e w' => e = .returned (.int .i64 (last : Int)) ∧ w' = w) from by have := from_any h ((lb : Int) - 1) (by omega); rwa [hlast] at this)
  have HF2 := Aside0.mk (show (Calls Try.prog 36 #[.pointer (some ⟨g, 0, none⟩), .int .i64 (k : Int)] w fun e w' => e = .returned (.int .i64 (fr : Int)) ∧ w' = w) from by have := from_any h (k : Int) (by omega); rwa [hfr] at this)
  have HF3 := Aside0.mk (show (Calls Try.prog 36 #[.pointer (some ⟨g, 0, none⟩), .int .i64 ((k : Int) - 1)] w fun x w' => x = .returned (.int .i64 (e : Int)) ∧ w' = w) from by have := from_any h ((k : Int) - 1) (by omega); rwa [he] at this)
  obtain ⟨d, hd⟩ : ∃ d, last + n = d := ⟨_, rfl⟩
  obtain ⟨A1, n1, d1, hn1', hs1', hA1⟩ := sl_l g d (by omega)
  obtain ⟨A2, n2, d2, hn2', hs2', hv2, hA2⟩ := sl g last fr hle (by omega)
  clear hv2
  obtain ⟨A3, n3, d3, hn3', hs3', hv3, hA3⟩ := sl g last d (by omega) (by omega)
  clear hv3
  obtain ⟨w1, hcp1, hp1, hb1⟩ := copy_pg (w := w.drew) h.drew A1 A2 d last fr n1 d1 n2 d2 hn2' hA1 hA2 hle (by omega) (by omega) (by omega)
  obtain ⟨w2, hcp2, hp2, hb2⟩ := clear_pg hp1 A3 last n3 d3 hA3 (by omega) 0
  have eb2 : splice (splice b d ((b.drop last).take (fr - last))) last (List.replicate n3 0) = closeB1 b n last fr := by rw [closeB1, hd, show n3 = n from by omega]
  rw [eb2] at hp2
  have BX2 := Aside0.mk (((BelX.refl g w).drew.trans hb1).trans hb2)
  have PB2 := Aside0.mk hp2
  have HS := Aside0.mk (And.intro hS0 (And.intro hS1 (And.intro hS2 hs1)))
  have HC := Aside0.mk (And.intro hc1 (And.intro ho1 (And.intro hu hun)))
  have HK := Aside0.mk (show k < lb ∧ 2 * lb + 8 ≤ 256 from ⟨hk, hlb2⟩)
  have HN := Aside0.mk (show fr + n = e ∧ last + n = d ∧ d ≤ 256 from by omega)
  have c1 : wrap64 ((lb : Int) - 1) = (lb : Int) - 1 := w64s _ (by omega) (by omega)
  have c2 : wrap64 ((k : Int) - 1) = (k : Int) - 1 := w64s _ (by omega) (by omega)
  have c3 : wrap64 ((e : Int) - (fr : Int)) = (n : Int) := (w64s _ (by omega) (by omega)).trans (by omega)
  have c4 : wrap64 ((last : Int) + (n : Int)) = (d : Int) := (w64s _ (by omega) (by omega)).trans (by omega)
  have c3' : IntKind.i64.wrap ((e : Int) - (fr : Int)) = (n : Int) := (i64_w _).trans c3
  have c4' : IntKind.i64.wrap ((last : Int) + (n : Int)) = (d : Int) := (i64_w _).trans c4
  clear h hlb hlast he hd hfr hn hn2 hle h8 hA1 hA2 hA3 hp1 hb1 hp2 hb2 eb2 hn1' hn2' hn3' hS0 hS1 hS2 hs1 hc1 ho1 hu hun hk hlb2 hel
  go_enter Try.func41, Try.ntmps41
  go_wp2_with fail
  refine HL.out.mono ?_; rintro e w' ⟨rfl, rfl⟩
  go_wp2_with fail
  refine HF1.out.mono ?_; rintro e w' ⟨rfl, rfl⟩
  go_wp2_with fail
  refine HF2.out.mono ?_; rintro e w' ⟨rfl, rfl⟩
  go_wp2_with fail
  refine HF3.out.mono ?_; rintro e w' ⟨rfl, rfl⟩
  go_wp2_with fail
  go_region_held3 (fun w' => True) (trivial) (fail)
  all_goals (go_wp2_with fail)
  clear hs1' hs2' hs3' hcp1 hcp2 HL HF1 HF2 HF3 c2 c3 c4 c3' c4' H
  obtain ⟨b1, hb1⟩ : ∃ b1, closeB1 b n last fr = b1 := ⟨_, rfl⟩
  have E1 := Aside0.mk hb1
  rw [hb1] at PB2
  have hl1 : at_ b1 1 = lb := by rw [← hb1]; exact HC.out.1
  clear hb1
  have HL1 := Aside0.mk (show (Calls Try.prog 21 #[.pointer (some ⟨g, 0, none⟩)] w2.drew fun e w' => e = .returned (.int .i64 (lb : Int)) ∧ w' = w2.drew) from by have := Len_pg PB2.out.drew; rwa [hl1] at this)
  obtain ⟨j0, hj0⟩ : ∃ j, 8 + 2 * k = j := ⟨_, rfl⟩
  obtain ⟨j1, hj1⟩ : ∃ j, 8 + 2 * (k + 1) = j := ⟨_, rfl⟩
  obtain ⟨j2, hj2⟩ : ∃ j, 8 + 2 * lb = j := ⟨_, rfl⟩
  have KK := HK.out
  obtain ⟨A4, n4, d4, hn4', hs4, hA4⟩ := sl_l g j0 (by omega)
  obtain ⟨A5, n5, d5, hn5', hs5, hv5, hA5⟩ := sl g j1 j2 (by omega) (by omega)
  clear hv5
  obtain ⟨w3, hc3, hp3, hb3⟩ := copy_pg (w := w2.drew) PB2.out.drew A4 A5 j0 j1 j2 n4 d4 n5 d5 hn5' hA4 hA5 (by omega) (by omega) (by omega) (by omega)
  have P3 := Aside0.mk (And.intro hp3 hb3)
  have g1 : IntKind.i64.wrap ((k : Int) + 1) = (k : Int) + 1 := i64s _ (by omega) (by omega)
  have g2 : IntKind.i64.wrap (2 * ((k : Int) + 1)) = 2 * ((k : Int) + 1) := i64s _ (by omega) (by omega)
  have g3 : IntKind.i64.wrap (8 + 2 * ((k : Int) + 1)) = (j1 : Int) := (i64s _ (by omega) (by omega)).trans (by omega)
  have g4 : IntKind.i64.wrap (2 * (k : Int)) = 2 * (k : Int) := i64s _ (by omega) (by omega)
  have g5 : IntKind.i64.wrap (8 + 2 * (k : Int)) = (j0 : Int) := (i64s _ (by omega) (by omega)).trans (by omega)
  have g6 : IntKind.i64.wrap (2 * (lb : Int)) = 2 * (lb : Int) := i64s _ (by omega) (by omega)
  have g7 : IntKind.i64.wrap (8 + 2 * (lb : Int)) = (j2 : Int) := (i64s _ (by omega) (by omega)).trans (by omega)
  have HJ := Aside0.mk (And.intro hj0 (And.intro hj1 hj2))
  clear KK hp3 hb3 hA4 hA5 hn4' hn5' hj0 hj1 hj2
  go_region_held3 (fun w' => True) (trivial) (first | (go_simp; go_at_call 21; refine HL1.out.mono ?_; rintro e w' ⟨rfl, rfl⟩; go_simp))
  all_goals (go_wp2_with fail)
  clear g1 g2 g3 g4 g5 g6 g7
  have e2 : splice b1 j0 ((b1.drop j1).take (j2 - j1)) = closeB b k n last fr lb := by
    rw [← E1.out, closeB, HJ.out.1, HJ.out.2.1, HJ.out.2.2]
  obtain ⟨b2, hb2⟩ : ∃ b2, closeB b k n last fr lb = b2 := ⟨_, rfl⟩
  have B2 := Aside0.mk hb2
  have PB3 := Aside0.mk (show PG w3 g b2 from by have := P3.out.1; rwa [e2, hb2] at this)
  have BX3 := Aside0.mk (BX2.out.trans ((BelX.refl g w2).drew.trans P3.out.2))
  have HL2 := Aside0.mk (show Calls Try.prog 21 #[.pointer (some ⟨g, 0, none⟩)] w3 fun e w' => e = .returned (.int .i64 (lb : Int)) ∧ w' = w3 from by have := Len_pg PB3.out; rwa [← hb2, HC.out.2.1] at this)
  have HU2 := Aside0.mk (show Calls Try.prog 34 #[.pointer (some ⟨g, 0, none⟩)] w3 fun e w' => e = .returned (.int .i64 (u : Int)) ∧ Below w3.heap.size w3 w' from by have := used_pg PB3.out; rwa [← hb2, HC.out.2.2.1] at this)
  have hu2 : u < 65536 := by rw [← HC.out.2.2.1]; exact usedB_lt _
  clear hb2 e2 hs4 hs5 hc3 P3 E1 PB2 BX2 HL1 HJ
  refine HL2.out.mono ?_; rintro e w4 ⟨rfl, rfl⟩
  go_wp2_with fail
  refine HU2.out.mono ?_; rintro e w5 ⟨rfl, hb4⟩
  have PB4 := Aside0.mk (PB3.out.below hb4)
  have BX4 := Aside0.mk (BX3.out.trans (BelX.of_below hb4))
  clear hb4 PB3 HL2 HU2 BX3
  have hnu := HC.out.2.2.2
  have hk1 := HK.out
  go_wp2_with fail
  refine (show Calls Try.prog 51 #[.pointer (some ⟨g, 0, none⟩), .int .i64 ((lb : Int) - 1), .int .i64 ((u : Int) - (n : Int))] w5 fun e w' => e = .returned (.tuple #[]) ∧ PG w' g (setsB b2 (lb - 1) (u - n)) ∧ BelX g w5 w' from by
    have := sets_pg PB4.out (lb - 1) (u - n) (by omega) (by omega)
    rwa [show ((lb - 1 : Nat) : Int) = (lb : Int) - 1 from by omega, show ((u - n : Nat) : Int) = (u : Int) - (n : Int) from by omega] at this).mono ?_; rintro e w6 ⟨rfl, hp5, hb5⟩
  obtain ⟨l1, hl1'⟩ : ∃ l1, lb - 1 = l1 := ⟨_, rfl⟩
  have hS1b := HS.out.2.2.2
  rw [B2.out, hl1'] at hS1b
  rw [hl1'] at hp5
  have PB5 := Aside0.mk hp5
  have BX5 := Aside0.mk (BX4.out.trans hb5)
  have HL5 := Aside0.mk (show Calls Try.prog 21 #[.pointer (some ⟨g, 0, none⟩)] w6.drew fun e w' => e = .returned (.int .i64 (l1 : Int)) ∧ w' = w6.drew from by have := Len_pg hp5.drew; rwa [hS1b] at this)
  obtain ⟨i0, hi0⟩ : ∃ j, 8 + 2 * l1 = j := ⟨_, rfl⟩
  obtain ⟨i1, hi1⟩ : ∃ j, 8 + 2 * (l1 + 1) = j := ⟨_, rfl⟩
  obtain ⟨A6, n6, d6, hn6', hs6, hv6, hA6⟩ := sl g i0 i1 (by omega) (by omega)
  clear hv6
  obtain ⟨w7, hc7, hp7, hb7⟩ := clear_pg hp5.drew A6 i0 n6 d6 hA6 (by omega) 0
  have e7 : splice (setsB b2 l1 (u - n)) i0 (List.replicate n6 0) = S 0 := by
    rw [HS.out.1, B2.out, hl1', hi0, show n6 = 2 from by omega]
  have PB7 := Aside0.mk (show PG w7 g (S 0) from by rwa [e7] at hp7)
  have BX7 := Aside0.mk (BX5.out.trans ((BelX.refl g w6).drew.trans hb7))
  have HL1' := Aside0.mk hl1'
  have g1 : IntKind.i64.wrap ((l1 : Int) + 1) = (l1 : Int) + 1 := i64s _ (by omega) (by omega)
  have g2 : IntKind.i64.wrap (2 * ((l1 : Int) + 1)) = 2 * ((l1 : Int) + 1) := i64s _ (by omega) (by omega)
  have g3 : IntKind.i64.wrap (8 + 2 * ((l1 : Int) + 1)) = (i1 : Int) := (i64s _ (by omega) (by omega)).trans (by omega)
  have g4 : IntKind.i64.wrap (2 * (l1 : Int)) = 2 * (l1 : Int) := i64s _ (by omega) (by omega)
  have g5 : IntKind.i64.wrap (8 + 2 * (l1 : Int)) = (i0 : Int) := (i64s _ (by omega) (by omega)).trans (by omega)
  clear hp5 hb5 PB5 BX5 PB4 BX4 hp7 hb7 e7 hi0 hi1 hA6 hn6' hl1' hS1b
  go_wp2_with fail
  go_region_held3 (fun w' => True) (trivial) (first | (go_simp; go_at_call 21; refine HL5.out.mono ?_; rintro e w' ⟨rfl, rfl⟩; go_simp))
  all_goals (go_wp2_with fail)
  clear g1 g2 g3 g4 g5 hs6 hc7 HL5
  go_loopw [7] (fun v7 wr => ∃ m : Nat, v7 = .int .i64 ((k + m : Nat) : Int) ∧ Aside0 (m ≤ lb - 1 - k) ∧ Aside0 (PG wr g (S m)) ∧ Aside0 (BelX g w' wr)) (fun v7 _ => lb - (Lib.intOf v7).toNat)
  case atStart => exact ⟨0, by simp, ⟨by omega⟩, PB7, BX7⟩
  case round =>
    obtain ⟨m, rfl, hM, HP, HB⟩ := hrel
    have HLm := Aside0.mk (show Calls Try.prog 21 #[.pointer (some ⟨g, 0, none⟩)] wr fun e w' => e = .returned (.int .i64 (l1 : Int)) ∧ w' = wr from by have := Len_pg HP.out; rwa [HS.out.2.1 m hM.out, HL1'.out] at this)
    obtain ⟨i, hi⟩ : ∃ i, k + m = i := ⟨_, rfl⟩
    rw [hi]
    have hll := HL1'.out
    by_cases hlt : m < lb - 1 - k
    · have d1 : decide ((i : Int) < (l1 : Int)) = true := decide_eq_true (by omega)
      have d2 : decide (i < l1) = true := decide_eq_true (by omega)
      obtain ⟨hS1, hS2⟩ := HS.out.2.2.1 m hlt
      obtain ⟨j, hj⟩ : ∃ j, 8 + 2 * i = j := ⟨_, rfl⟩
      rw [hi, hj] at hS1 hS2
      have hcell := HP.out.cell j (by omega)
      have hfr := HP.out.frozen j
      have hlt2 := at_lt (S m) j
      have hS1' := Aside0.mk hS1
      have HS2 := Aside0.mk hS2
      have HJ := Aside0.mk (show j < 256 ∧ i < 1000 ∧ n < 256 from by omega)
      have HM := Aside0.mk (show k + (m + 1) = i + 1 ∧ i < lb from by omega)
      have HLT := Aside0.mk hlt
      have h3 : (j < 256) = True := eq_true (by omega)
      have h4 : ((j : Int) < 256) = True := eq_true (by omega)
      have g1 : IntKind.i64.wrap (2 * (i : Int)) = 2 * (i : Int) := i64s _ (by omega) (by omega)
      have g2 : IntKind.i64.wrap (8 + 2 * (i : Int)) = (j : Int) := (i64s _ (by omega) (by omega)).trans (by omega)
      have g3 : IntKind.u8.wrap (n : Int) = (n : Int) := (wr8 _).trans (by omega)
      clear hS2 hi hj hlt hS1 hll
      go_wp2_with fail
      refine HLm.out.mono ?_; rintro e w8 ⟨rfl, rfl⟩
      go_wp2_with fail
      go_region
      all_goals go_wp2
      have hstep : PG ((w8.setCell ⟨g, j, none⟩ (.int .u8 (IntKind.u8.wrap ((at_ (S m) j : Int) + (n : Int))))).drew) g (S (m + 1)) := by
        have e := hS1'.out
        rw [wr8, show ((at_ (S m) j : Int) + (n : Int)) % 256 = (((by_ (at_ (S m) j + n)).toNat : Nat) : Int) from by rw [by_nat]; omega, ← HS2.out]
        exact (HP.out.set j HJ.out.1 _).drew
      have hbx : BelX g w' ((w8.setCell ⟨g, j, none⟩ (.int .u8 (IntKind.u8.wrap ((at_ (S m) j : Int) + (n : Int))))).drew) := HB.out.trans (((BelX.refl g w8).set j _).drew)
      have q : wrap64 ((i : Int) + 1) = ((k + (m + 1) : Nat) : Int) := by have h1 := HM.out.1; have h2 := HJ.out.2.1; rw [w64s _ (by omega) (by omega)]; omega
      go_roundw
      case rel => exact ⟨m + 1, by rw [q], ⟨by have := HLT.out; omega⟩, ⟨hstep⟩, ⟨hbx⟩⟩
      case measure => rw [q]; exact up_lt _ _ _ HM.out.1 HM.out.2
    · obtain rfl : m = lb - 1 - k := by have := hM.out; omega
      have d1 : decide ((i : Int) < (l1 : Int)) = false := decide_eq_false (by omega)
      have d2 : decide (i < l1) = false := decide_eq_false (by omega)
      clear hi hlt hll
      go_wp2_with (go_at_call 21; refine HLm.out.mono ?_; rintro e w' ⟨rfl, rfl⟩)
      exact bodyPost_end (v := .tuple #[]) (results_none rfl _ _ _) rfl ⟨rfl, HP.out, HB.out⟩
end Go.Proofs.Ytinbppcfdmbclaa.Pg
