/- Room for a cell is made in a page, and a cell is taken out: walked. No condition beyond those that each theorem names. -/
import Derived.Test.YtinbppcfdmbclaaPagE
import Derived.Test.YtinbppcfdmbclaaPagF
namespace Go.Proofs.Ytinbppcfdmbclaa.Pg
open Go.RowKit Go.Proofs.YtinbppcfdmbclaaW.PrintWords Go.Proofs.YtinbppcfdmbclaaW.PrintLast Go.Proofs.YtinbppcfdmbclaaW.PrintMore
set_option linter.unusedVariables false
set_option linter.unusedSimpArgs false
theorem prun_l {w : World} (l : Nat) (g : Nat) (h1 : l ≤ 256) : (Instr.sliceAt 56 (.pointer (some ⟨g, 0, none⟩)) (some (.int .i64 (l : Int))) none none).run Try.prog w = .ok (.slice (some (if 256 = l then ⟨g, 0, none⟩ else ⟨g, l, none⟩)) (256 - l) (256 - l)) w := by
  have ha : Try.prog.arrayLen 56 = 256 := by kernel_rfl
  have hs : (sizeOf (Try.prog.elem 56)).run Try.prog w = .ok 1 w := by
    rw [show Try.prog.elem 56 = 5 from by kernel_rfl]
    obtain ⟨i0, hi, -⟩ := Option.map_eq_some_iff.1 info5
    rw [run_sizeOf (P := Try.prog) w hi, show Try.prog.cellsOf 5 = 1 from by kernel_rfl]
  rw [run_sliceAt_array_l (P := Try.prog) w 56 ⟨g, 0, none⟩ (by kernel_rfl) .i64 (l : Int) (by omega) (by rw [ha]; omega), hs]
  simp [Result.andThen, slicedAt, ha, Addr.add]
  by_cases h0 : l = 0
  · subst h0; simp
  · rw [if_neg h0]
/-- a page's array from a place on -/
theorem sl_l (g l : Nat) (h1 : l ≤ 256) : ∃ (A : Addr) (n c : Nat), n = 256 - l ∧ (∀ w, (Instr.sliceAt 56 (.pointer (some ⟨g, 0, none⟩)) (some (.int .i64 (l : Int))) none none).run Try.prog w = .ok (.slice (some A) n c) w) ∧ (0 < n → A = ⟨g, l, none⟩) :=
  ⟨_, _, _, rfl, fun w => prun_l l g h1, fun hn => by rw [if_neg (by omega)]⟩
theorem w64s (x : Int) (h0 : -1000000 ≤ x) (h1 : x ≤ 1000000) : wrap64 x = x := by unfold wrap64; omega
theorem i64s (x : Int) (h0 : -1000000 ≤ x) (h1 : x ≤ 1000000) : IntKind.i64.wrap x = x := (i64_w _).trans (w64s x h0 h1)
theorem up_lt (l1 i j : Nat) (h : j = i + 1) (h2 : i < l1) : l1 - (Lib.intOf (.int .i64 (j : Int))).toNat < l1 - (Lib.intOf (.int .i64 (i : Int))).toNat := by
  show l1 - ((j : Int)).toNat < l1 - ((i : Int)).toNat
  omega
theorem at_splice_low (b cs : List UInt8) (o i : Nat) (h : i < o) (ho : o ≤ b.length) : at_ (splice b o cs) i = at_ b i := by
  unfold splice
  rw [at_append_l _ _ _ (by rw [List.length_take]; omega)]
  simp [at_, List.getD_eq_getElem?_getD, List.getElem?_take, h]
/-- the bytes with room made for a cell of n bytes at place k: before the head is set -/
def openB (b : List UInt8) (k n last e lb : Nat) : List UInt8 :=
  splice (splice b (last - n) ((b.drop last).take (e - last))) (8 + 2 * (k + 1)) (((splice b (last - n) ((b.drop last).take (e - last))).drop (8 + 2 * k)).take (8 + 2 * lb - (8 + 2 * k)))
set_option maxHeartbeats 4000000 in
theorem opens_pg {w : World} {g : Nat} {b : List UInt8} (h : PG w g b) (k n last e lb u : Nat) (S : Nat → List UInt8) (hlb : at_ b 1 = lb) (hk : k ≤ lb) (hlb2 : 2 * lb + 10 ≤ 256)
    (hlast : fromB b ((lb : Int) - 1) = last) (he : fromB b ((k : Int) - 1) = e) (hn1 : n + 8 ≤ last) (hn2 : n < 256) (hle : last ≤ e)
    (ho1 : at_ (openB b k n last e lb) 1 = lb) (hu : usedB (openB b k n last e lb) = u) (hun : u + n < 65536)
    (hS0 : S 0 = setsB (openB b k n last e lb) (lb + 1) (u + n)) (hS1 : ∀ m, m ≤ lb - k → at_ (S m) 1 = lb + 1)
    (hS2 : ∀ m, m < lb - k → n ≤ at_ (S m) (8 + 2 * (k + 1 + m)) ∧ (S m).set (8 + 2 * (k + 1 + m)) (by_ (at_ (S m) (8 + 2 * (k + 1 + m)) - n)) = S (m + 1)) :
    Calls Try.prog 42 #[.pointer (some ⟨g, 0, none⟩), .int .i64 (k : Int), .int .i64 (n : Int)] w fun e w' => e = .returned (.tuple #[]) ∧ PG w' g (S (lb - k)) ∧ BelX g w w' := by
  have H := Aside0.mk h
  have HLB := Aside0.mk hlb
  have hel : e ≤ 256 := by have := fromB_le b ((k : Int) - 1); omega
  have HL := Aside0.mk (show (Calls Try.prog 21 #[.pointer (some ⟨g, 0, none⟩)] w fun e w' => e = .returned (.int .i64 (lb : Int)) ∧ w' = w) from by have := Len_pg h; rwa [hlb] at this)
  have HF1 := Aside0.mk (show (Calls Try.prog 36 #[.pointer (some ⟨g, 0, none⟩), .int .i64 ((lb : Int) - 1)] w fun e w' => e = .returned (.int .i64 (last : Int)) ∧ w' = w) from by have := from_any h ((lb : Int) - 1) (by omega); rwa [hlast] at this)
  have HF2 := Aside0.mk (show (Calls Try.prog 36 #[.pointer (some ⟨g, 0, none⟩), .int .i64 ((k : Int) - 1)] w fun x w' => x = .returned (.int .i64 (e : Int)) ∧ w' = w) from by have := from_any h ((k : Int) - 1) (by omega); rwa [he] at this)
  have c1 : wrap64 ((lb : Int) - 1) = (lb : Int) - 1 := by unfold wrap64; omega
  have c2 : wrap64 ((k : Int) - 1) = (k : Int) - 1 := by unfold wrap64; omega
  obtain ⟨d, hd⟩ : ∃ d, last - n = d := ⟨_, rfl⟩
  have c3 : wrap64 ((last : Int) - (n : Int)) = (d : Int) := by unfold wrap64; omega
  have c3' : IntKind.i64.wrap ((last : Int) - (n : Int)) = (d : Int) := (i64_w _).trans c3
  obtain ⟨A1, n1, d1, hn1', hs1, hA1⟩ := sl_l g d (by omega)
  obtain ⟨A2, n2, d2, hn2', hs2, hv2, hA2⟩ := sl g last e hle hel
  clear hv2
  obtain ⟨w1, hc1, hp1, hb1⟩ := copy_pg (w := w.drew) h.drew A1 A2 d last e n1 d1 n2 d2 hn2' hA1 hA2 hle hel (by omega) (by omega)
  have P1 := Aside0.mk (And.intro hp1 hb1)
  have hb01 := Aside0.mk (show d = last - n from hd.symm)
  have J := Aside0.mk (And.intro hn1' hn2')
  have HS := Aside0.mk (And.intro hS0 (And.intro hS1 hS2))
  have HO := Aside0.mk (And.intro ho1 (And.intro hu hun))
  have HK := Aside0.mk (And.intro hk (And.intro hlb2 (And.intro hle hel)))
  clear h hlb hlast he hd hA1 hA2 hp1 hb1 hn1' hn2' hS0 hS1 hS2 ho1 hu hun
  go_enter Try.func42, Try.ntmps42
  go_wp2_with fail
  refine HL.out.mono ?_; rintro e w' ⟨rfl, rfl⟩
  go_wp2_with fail
  refine HF1.out.mono ?_; rintro e w' ⟨rfl, rfl⟩
  go_wp2_with fail
  refine HF2.out.mono ?_; rintro e w' ⟨rfl, rfl⟩
  go_wp2_with fail
  go_region_held3 (fun w' => True) (trivial) (fail)
  all_goals (go_wp2_with fail)
  have PB := P1.out.1
  obtain ⟨b1, hb1⟩ : ∃ b1, splice b d ((b.drop last).take (e - last)) = b1 := ⟨_, rfl⟩
  have hl1 : at_ b1 1 = lb := by
    have q1 := hb01.out
    have q2 := H.out.len
    rw [← hb1, at_splice_low b _ d 1 (by omega) (by omega)]; exact HLB.out
  rw [hb1] at PB
  have E1 := Aside0.mk hb1
  clear hb1
  have PB1 := Aside0.mk PB
  have HL1 := Aside0.mk (show (Calls Try.prog 21 #[.pointer (some ⟨g, 0, none⟩)] w1.drew fun e w' => e = .returned (.int .i64 (lb : Int)) ∧ w' = w1.drew) from by have := Len_pg PB.drew; rwa [hl1] at this)
  obtain ⟨j0, hj0⟩ : ∃ j, 8 + 2 * (k + 1) = j := ⟨_, rfl⟩
  obtain ⟨j1, hj1⟩ : ∃ j, 8 + 2 * k = j := ⟨_, rfl⟩
  obtain ⟨j2, hj2⟩ : ∃ j, 8 + 2 * lb = j := ⟨_, rfl⟩
  have KK := HK.out
  have g1 : IntKind.i64.wrap ((k : Int) + 1) = (k : Int) + 1 := i64s _ (by omega) (by omega)
  have g2 : IntKind.i64.wrap (2 * ((k : Int) + 1)) = 2 * ((k : Int) + 1) := i64s _ (by omega) (by omega)
  have g3 : IntKind.i64.wrap (8 + 2 * ((k : Int) + 1)) = (j0 : Int) := (i64s _ (by omega) (by omega)).trans (by omega)
  have g4 : IntKind.i64.wrap (2 * (k : Int)) = 2 * (k : Int) := i64s _ (by omega) (by omega)
  have g5 : IntKind.i64.wrap (8 + 2 * (k : Int)) = (j1 : Int) := (i64s _ (by omega) (by omega)).trans (by omega)
  have g6 : IntKind.i64.wrap (2 * (lb : Int)) = 2 * (lb : Int) := i64s _ (by omega) (by omega)
  have g7 : IntKind.i64.wrap (8 + 2 * (lb : Int)) = (j2 : Int) := (i64s _ (by omega) (by omega)).trans (by omega)
  obtain ⟨A3, n3, d3, hn3', hs3, hA3⟩ := sl_l g j0 (by omega)
  obtain ⟨A4, n4, d4, hn4', hs4, hv4, hA4⟩ := sl g j1 j2 (by omega) (by omega)
  clear hv4
  obtain ⟨w2, hc2, hp2, hb2⟩ := copy_pg (w := w1.drew) PB.drew A3 A4 j0 j1 j2 n3 d3 n4 d4 hn4' hA3 hA4 (by omega) (by omega) (by omega) (by omega)
  have P2 := Aside0.mk (And.intro hp2 hb2)
  have HJ := Aside0.mk (And.intro hj0 (And.intro hj1 hj2))
  clear KK PB hp2 hb2 hA3 hA4 hn3' hn4' hj0 hj1 hj2 hs1 hs2 hc1
  go_region_held3 (fun w' => True) (trivial) (first | (go_simp; go_at_call 21; refine HL1.out.mono ?_; rintro e w' ⟨rfl, rfl⟩; go_simp))
  all_goals (go_wp2_with fail)
  have e2 : splice b1 j0 ((b1.drop j1).take (j2 - j1)) = openB b k n last e lb := by
    rw [← E1.out, hb01.out, openB, HJ.out.1, HJ.out.2.1, HJ.out.2.2]
  obtain ⟨b2, hb2⟩ : ∃ b2, openB b k n last e lb = b2 := ⟨_, rfl⟩
  have B2 := Aside0.mk hb2
  have PB2 := Aside0.mk (show PG w2 g b2 from by have := P2.out.1; rwa [e2, hb2] at this)
  have BX2 := Aside0.mk (((BelX.refl g w').drew.trans P1.out.2).trans ((BelX.refl g w1).drew.trans P2.out.2))
  have HL2 := Aside0.mk (show Calls Try.prog 21 #[.pointer (some ⟨g, 0, none⟩)] w2 fun e w' => e = .returned (.int .i64 (lb : Int)) ∧ w' = w2 from by have := Len_pg PB2.out; rwa [← hb2, HO.out.1] at this)
  have HU2 := Aside0.mk (show Calls Try.prog 34 #[.pointer (some ⟨g, 0, none⟩)] w2 fun e w' => e = .returned (.int .i64 (u : Int)) ∧ Below w2.heap.size w2 w' from by have := used_pg PB2.out; rwa [← hb2, HO.out.2.1] at this)
  clear hb2 e2 hs3 hs4 hc2 P1 P2 E1 PB1 HL1 HL HF1 HF2 HJ
  refine HL2.out.mono ?_; rintro e w3 ⟨rfl, rfl⟩
  go_wp2_with fail
  refine HU2.out.mono ?_; rintro e w4 ⟨rfl, hb4⟩
  have PB4 := Aside0.mk (PB2.out.below hb4)
  have BX4 := Aside0.mk (BX2.out.trans (BelX.of_below hb4))
  clear hb4 PB2 HL2 HU2 BX2
  have hu2 := HO.out.2.2
  go_wp2_with fail
  refine (show Calls Try.prog 51 #[.pointer (some ⟨g, 0, none⟩), .int .i64 ((lb : Int) + 1), .int .i64 ((u : Int) + (n : Int))] w4 fun e w' => e = .returned (.tuple #[]) ∧ PG w' g (setsB b2 (lb + 1) (u + n)) ∧ BelX g w4 w' from by
    have := sets_pg PB4.out (lb + 1) (u + n) (by omega) HO.out.2.2
    rwa [show ((lb + 1 : Nat) : Int) = (lb : Int) + 1 from by omega, show ((u + n : Nat) : Int) = (u : Int) + (n : Int) from by omega] at this).mono ?_; rintro e w5 ⟨rfl, hp5, hb5⟩
  have PB5 := Aside0.mk (show PG w5 g (S 0) from by rw [HS.out.1, B2.out]; exact hp5)
  have BX5 := Aside0.mk (BX4.out.trans hb5)
  clear hp5 hb5 PB4 BX4
  go_wp2
  go_loopw [8] (fun v8 wr => ∃ m : Nat, v8 = .int .i64 ((k + 1 + m : Nat) : Int) ∧ Aside0 (m ≤ lb - k) ∧ Aside0 (PG wr g (S m)) ∧ Aside0 (BelX g w' wr)) (fun v8 _ => (lb + 1) - (Lib.intOf v8).toNat)
  case atStart => exact ⟨0, by simp, ⟨by omega⟩, PB5, BX5⟩
  case round =>
    obtain ⟨m, rfl, hM, HP, HB⟩ := hrel
    have HLm := Aside0.mk (show Calls Try.prog 21 #[.pointer (some ⟨g, 0, none⟩)] wr fun e w' => e = .returned (.int .i64 ((lb + 1 : Nat) : Int)) ∧ w' = wr from by have := Len_pg HP.out; rwa [HS.out.2.1 m hM.out] at this)
    obtain ⟨i, hi⟩ : ∃ i, k + 1 + m = i := ⟨_, rfl⟩
    obtain ⟨l1, hl1⟩ : ∃ l1, lb + 1 = l1 := ⟨_, rfl⟩
    rw [hl1] at HLm ⊢
    rw [hi]
    by_cases hlt : m < lb - k
    · have d1 : decide ((i : Int) < (l1 : Int)) = true := decide_eq_true (by omega)
      have d2 : decide (i < l1) = true := decide_eq_true (by omega)
      obtain ⟨hS1, hS2⟩ := HS.out.2.2 m hlt
      obtain ⟨j, hj⟩ : ∃ j, 8 + 2 * i = j := ⟨_, rfl⟩
      rw [hi, hj] at hS1 hS2
      have hcell := HP.out.cell j (by omega)
      have hfr := HP.out.frozen j
      have hlt2 := at_lt (S m) j
      have g1 : IntKind.i64.wrap (2 * (i : Int)) = 2 * (i : Int) := i64s _ (by omega) (by omega)
      have g2 : IntKind.i64.wrap (8 + 2 * (i : Int)) = (j : Int) := (i64s _ (by omega) (by omega)).trans (by omega)
      have h3 : (j < 256) = True := eq_true (by omega)
      have h4 : ((j : Int) < 256) = True := eq_true (by omega)
      have g3 : IntKind.u8.wrap (n : Int) = (n : Int) := by rw [wr8]; omega
      have hS1' := Aside0.mk hS1
      have HS2 := Aside0.mk hS2
      have HJ := Aside0.mk (show j < 256 ∧ i < 1000 from by omega)
      have HM := Aside0.mk (show k + 1 + (m + 1) = i + 1 ∧ i < l1 from by omega)
      have HI := Aside0.mk (And.intro hi (And.intro hl1 hj))
      have HLT := Aside0.mk hlt
      clear hS2 hi hl1 hj hlt hS1
      go_wp2_with fail
      refine HLm.out.mono ?_; rintro e w6 ⟨rfl, rfl⟩
      go_wp2_with fail
      go_region
      all_goals go_wp2
      have hstep : PG ((w6.setCell ⟨g, j, none⟩ (.int .u8 (IntKind.u8.wrap ((at_ (S m) j : Int) - (n : Int))))).drew) g (S (m + 1)) := by
        have e := hS1'.out
        rw [wr8, show ((at_ (S m) j : Int) - (n : Int)) % 256 = (((by_ (at_ (S m) j - n)).toNat : Nat) : Int) from by rw [by_nat]; omega, ← HS2.out]
        exact (HP.out.set j HJ.out.1 _).drew
      have hbx : BelX g w' ((w6.setCell ⟨g, j, none⟩ (.int .u8 (IntKind.u8.wrap ((at_ (S m) j : Int) - (n : Int))))).drew) := HB.out.trans (((BelX.refl g w6).set j _).drew)
      have q : wrap64 ((i : Int) + 1) = ((k + 1 + (m + 1) : Nat) : Int) := by have h1 := HI.out.1; have h2 := HJ.out.2; rw [w64s _ (by omega) (by omega)]; omega
      go_roundw
      case rel => exact ⟨m + 1, by rw [q], ⟨by have := HLT.out; omega⟩, ⟨hstep⟩, ⟨hbx⟩⟩
      case measure => rw [q]; exact up_lt _ _ _ HM.out.1 HM.out.2
    · obtain rfl : m = lb - k := by have := hM.out; omega
      have d1 : decide ((i : Int) < (l1 : Int)) = false := decide_eq_false (by omega)
      have d2 : decide (i < l1) = false := decide_eq_false (by omega)
      clear hi hl1 hlt
      go_wp2_with (go_at_call 21; refine HLm.out.mono ?_; rintro e w' ⟨rfl, rfl⟩)
      exact bodyPost_end (v := .tuple #[]) (results_none rfl _ _ _) rfl ⟨rfl, HP.out, HB.out⟩
end Go.Proofs.Ytinbppcfdmbclaa.Pg
