/- What must come of a page whatever the arguments are (awake), walked: it answers true. No condition. -/
import Derived.Test.YtinbppcfdmbclaaPagS
namespace Go.Proofs.Ytinbppcfdmbclaa.Pg
open Go.RowKit Go.Proofs.YtinbppcfdmbclaaW.PrintWords Go.Proofs.YtinbppcfdmbclaaW.PrintLast Go.Proofs.YtinbppcfdmbclaaW.PrintMore
set_option linter.unusedVariables false
set_option linter.unusedSimpArgs false
def aA : ByteArray := ⟨#[97]⟩
def aB : ByteArray := ⟨#[98]⟩
def a1 : ByteArray := ⟨#[49]⟩
def a2 : ByteArray := ⟨#[50]⟩
theorem aw1 : putR [] aB a1 = (0, [⟨aB, a1⟩]) := by kernel_rfl
theorem aw2 : putR [⟨aB, a1⟩] aA a2 = (0, [⟨aA, a2⟩, ⟨aB, a1⟩]) := by kernel_rfl
theorem aw3 : fN [⟨aA, a2⟩, ⟨aB, a1⟩] aB = 1 := by kernel_rfl
theorem aw4 : there [⟨aA, a2⟩, ⟨aB, a1⟩] aB = true := by kernel_rfl
theorem aw5 : dropR [⟨aA, a2⟩, ⟨aB, a1⟩] aB = (0, [⟨aA, a2⟩]) := by kernel_rfl
theorem one_ne : by_ 1 ≠ 0 := by decide
set_option maxRecDepth 100000 in
set_option maxHeartbeats 4000000 in
theorem awake_ok (w : World) : Calls Try.prog 10 #[] w fun e w' => e = .returned (.bool true) ∧ Below w.heap.size w w' := by
  have HN := Aside0.mk (New_ok w 1 (by omega) (by omega))
  go_enter Try.func10, Try.ntmps10
  go_wp2_with fail
  refine HN.out.mono ?_; rintro e w1 ⟨g, rfl, hg, hp1, hb1⟩
  have H1 := Aside0.mk hp1
  have B1 := Aside0.mk hb1
  have HG := Aside0.mk hg
  clear hp1 hb1 hg HN
  go_wp2_with fail
  refine (show Calls Try.prog 18 #[.pointer (some ⟨g, 0, none⟩), .string ⟨#[98]⟩, .string ⟨#[49]⟩] w1 fun e w' => e = .returned (.int .i64 0) ∧ PGL w' g (by_ 1) [⟨aB, a1⟩] ∧ BelX g w1 w' from by have := Put_any H1.out aB a1; rw [aw1] at this; exact this).mono ?_; rintro e w2 ⟨rfl, hp2, hb2⟩
  have H2 := Aside0.mk hp2
  have B2 := Aside0.mk (BelX.below B1.out (Nat.le_trans HG.out (Nat.le_of_lt H1.out.pg.lt)) HG.out hb2)
  clear hp2 hb2 H1 B1
  go_wp2_with fail
  refine (show Calls Try.prog 18 #[.pointer (some ⟨g, 0, none⟩), .string ⟨#[97]⟩, .string ⟨#[50]⟩] w2 fun e w' => e = .returned (.int .i64 0) ∧ PGL w' g (by_ 1) [⟨aA, a2⟩, ⟨aB, a1⟩] ∧ BelX g w2 w' from by have := Put_any H2.out aA a2; rw [aw2] at this; exact this).mono ?_; rintro e w3 ⟨rfl, hp3, hb3⟩
  have H3 := Aside0.mk hp3
  have B3 := Aside0.mk (BelX.below B2.out (Nat.le_trans HG.out (Nat.le_of_lt H2.out.pg.lt)) HG.out hb3)
  clear hp3 hb3 H2 B2
  go_wp2_with fail
  refine (show Calls Try.prog 19 #[.pointer (some ⟨g, 0, none⟩), .int .i64 0] w3 fun e w' => e = .returned (.tuple #[.string ⟨#[97]⟩, .string ⟨#[50]⟩]) ∧ Below w3.heap.size w3 w' from At_first H3.out).mono ?_; rintro e w4 ⟨rfl, hb4⟩
  have H4 := Aside0.mk (H3.out.below hb4)
  have B4 := Aside0.mk (below_step B3.out hb4)
  clear hb4 H3 B3
  go_wp2_with fail
  obtain ⟨s, hs⟩ : ∃ s, bytesR (encB (by_ 1) [⟨aA, a2⟩, ⟨aB, a1⟩]) = s := ⟨_, rfl⟩
  have HS := Aside0.mk hs
  have hsz : s.size = 256 := by rw [← hs]; exact bytesR_size _ H4.out.pg.len
  refine (show Calls Try.prog 12 #[.pointer (some ⟨g, 0, none⟩)] w4 fun e w' => e = .returned (.string s) ∧ Below w4.heap.size w4 w' from by have := Bytes_pg H4.out.pg; rwa [hs] at this).mono ?_; rintro e w5 ⟨rfl, hb5⟩
  have H5 := Aside0.mk (H4.out.below hb5)
  have B5 := Aside0.mk (below_step B4.out hb5)
  clear hb5 H4 B4 hs
  go_wp2_with fail
  refine (Read_yes (by_ 1) _ one_ne H5.out.cells s HS.out.symm).mono ?_; rintro e w6 ⟨g2, rfl, hg2, hp6, hb6⟩
  have H6 := Aside0.mk (And.intro (H5.out.below hb6) hp6)
  have B6 := Aside0.mk (below_step B5.out hb6)
  have HG2 := Aside0.mk (show g2 ≠ g from by have := H5.out.pg.lt; omega)
  clear hg2 hp6 hb6 H5 B5
  go_wp2_with fail
  refine (Len_L H6.out.2).mono ?_; rintro e wA ⟨rfl, rfl⟩
  go_wp2_with fail
  refine (show Calls Try.prog 12 #[.pointer (some ⟨g, 0, none⟩)] wA fun e w' => e = .returned (.string s) ∧ Below wA.heap.size wA w' from by have := Bytes_pg H6.out.1.pg; rwa [HS.out] at this).mono ?_; rintro e w7 ⟨rfl, hb7⟩
  have H7 := Aside0.mk (And.intro (H6.out.1.below hb7) (H6.out.2.below hb7))
  have B7 := Aside0.mk (below_step B6.out hb7)
  clear hb7 H6 B6
  go_wp2_with fail
  refine (show Calls Try.prog 26 #[.pointer (some ⟨g2, 0, none⟩), .string ⟨#[98]⟩] w7 fun e w' => e = .returned (.tuple #[.int .i64 1, .bool true]) ∧ Below w7.heap.size w7 w' from by have := Find_pg H7.out.2 aB; rw [aw3, aw4] at this; exact this).mono ?_; rintro e w8 ⟨rfl, hb8⟩
  have H8 := Aside0.mk (And.intro (H7.out.1.below hb8) (H7.out.2.below hb8))
  have B8 := Aside0.mk (below_step B7.out hb8)
  clear hb8 H7 B7
  go_wp2_with fail
  refine (show Calls Try.prog 20 #[.pointer (some ⟨g, 0, none⟩), .string ⟨#[98]⟩] w8 fun e w' => e = .returned (.int .i64 0) ∧ PGL w' g (by_ 1) [⟨aA, a2⟩] ∧ BelX g w8 w' from by have := Drop_any H8.out.1 aB; rw [aw5] at this; exact this).mono ?_; rintro e w9 ⟨rfl, hp9, hb9⟩
  have H9 := Aside0.mk (And.intro hp9 (H8.out.2.belX hb9 HG2.out))
  have B9 := Aside0.mk (BelX.below B8.out (Nat.le_trans HG.out (Nat.le_of_lt H8.out.1.pg.lt)) HG.out hb9)
  clear hp9 hb9 H8 B8
  go_wp2_with fail
  refine (Len_L H9.out.1).mono ?_; rintro e wB ⟨rfl, rfl⟩
  go_wp2_with fail
  refine (Len_L H9.out.2).mono ?_; rintro e wC ⟨rfl, rfl⟩
  go_wp2_with fail
  refine (Kind_L H9.out.2).mono ?_; rintro e wD ⟨rfl, rfl⟩
  go_wp2_with fail
  go_ret
  exact ⟨rfl, B9.out⟩
end Go.Proofs.Ytinbppcfdmbclaa.Pg
