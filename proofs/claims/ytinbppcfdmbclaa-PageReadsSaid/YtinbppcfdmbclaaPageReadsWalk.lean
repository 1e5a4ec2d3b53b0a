/- The page of any bytes, or that there is none (PageReads): walked, it answers true. No condition. -/
import Derived.Test.YtinbppcfdmbclaaPageSame
import Derived.Test.YtinbppcfdmbclaaPageReadNo
namespace Go.Proofs.Ytinbppcfdmbclaa.Pg
open Go.RowKit Go.Proofs.YtinbppcfdmbclaaW.PrintWords Go.Proofs.YtinbppcfdmbclaaW.PrintLast Go.Proofs.YtinbppcfdmbclaaW.PrintMore
set_option linter.unusedVariables false
set_option linter.unusedSimpArgs false
set_option maxRecDepth 100000 in
set_option maxHeartbeats 1000000 in
theorem Reads_ok (w : World) (s : ByteArray) : Calls Try.prog 4 #[.string s] w fun e w' => e = .returned (.bool true) ∧ Below w.heap.size w w' := by
  by_cases hs : s.size ≤ 300
  · have d0 : decide ((s.size : Int) > 300) = false := decide_eq_false (by omega)
    have d0' : decide (300 < (s.size : Int)) = false := decide_eq_false (by omega)
    have d0'' : decide (300 < s.size) = false := decide_eq_false (by omega)
    by_cases hr : readP s
    · obtain ⟨kind, L, hk, hc, hse⟩ := hr
      have HRR := Aside0.mk (rread_yes kind L hk hc 7000 (by omega))
      rw [← hse] at HRR
      have HSE := Aside0.mk (And.intro hk (And.intro hc hse))
      clear hk hc hse
      go_enter Try.func4, Try.ntmps4
      go_wp2_with fail
      refine (Read_yes kind L HSE.out.1 HSE.out.2.1 s HSE.out.2.2).mono ?_; rintro e w1 ⟨g, rfl, hg, hp1, hb1⟩
      have H1 := Aside0.mk hp1
      have B1 := Aside0.mk hb1
      clear hp1 hb1 hg
      go_wp2_with fail
      refine (quaysideref12_Read.calls 7000 s _ _ _ w1 HRR.out).mono ?_; rintro e w2 ⟨v2, rfl, ho2, hb2⟩
      obtain ⟨Av, cv, hv⟩ := Kd.R_slice ho2
      subst hv
      have H2 := Aside0.mk (H1.out.below hb2)
      have B2 := Aside0.mk (below_step B1.out hb2)
      have O2 := Aside0.mk (Kd.R_reads' ho2)
      clear hb2 ho2 H1 B1 HRR
      go_wp2_with fail
      have hB3 := below_alloc (Below.refl w2.heap.size w2) (.cells #[.int .i64 (kind.toNat : Int), .slice Av L.length cv] 27)
      have H3 := Aside0.mk (H2.out.below hB3)
      have B3 := Aside0.mk (below_step B2.out hB3)
      have O3 := Aside0.mk (Kd.C_below66 O2.out.2.2 hB3)
      have HC := Aside0.mk O2.out.2.1
      clear hB3 H2 B2 O2
      refine (Same_L H3.out O3.out HC.out).mono ?_; rintro e w4 ⟨rfl, hb4⟩
      have H4 := Aside0.mk (H3.out.below hb4)
      have B4 := Aside0.mk (below_step B3.out hb4)
      clear hb4 H3 B3 O3 HC
      go_wp2_with fail
      refine (show Calls Try.prog 12 #[.pointer (some ⟨g, 0, none⟩)] w4 fun e w' => e = .returned (.string s) ∧ Below w4.heap.size w4 w' from by have := Bytes_pg H4.out.pg; rwa [← HSE.out.2.2] at this).mono ?_; rintro e w5 ⟨rfl, hb5⟩
      have B5 := Aside0.mk (below_step B4.out hb5)
      clear hb5 H4 B4
      go_wp2_with fail
      refine (awake_ok _).mono ?_; rintro e wZ ⟨rfl, hbZ⟩
      go_wp2_with fail
      go_ret
      exact ⟨rfl, below_step B5.out hbZ⟩
    · have HRR := Aside0.mk (rread_no s hr 7000 (by omega))
      have HN := Aside0.mk hr
      clear hr
      go_enter Try.func4, Try.ntmps4
      go_wp2_with fail
      refine (Read_no s HN.out).mono ?_; rintro e w1 ⟨rfl, hb1⟩
      have B1 := Aside0.mk hb1
      clear hb1
      go_wp2_with fail
      refine (quaysideref12_Read.calls 7000 s _ _ _ w1 HRR.out).mono ?_; rintro e w2 ⟨v2, rfl, ho2, hb2⟩
      obtain ⟨Av, cv, hv⟩ := Kd.R_slice ho2
      subst hv
      have B2 := Aside0.mk (below_step B1.out hb2)
      clear hb2 ho2 B1 HRR
      go_wp2_with fail
      have hB3 := below_alloc (Below.refl w2.heap.size w2) (.cells #[.int .i64 0, .slice Av ([] : List S66).length cv] 27)
      have B3 := Aside0.mk (below_step B2.out hB3)
      clear hB3 B2
      refine (awake_ok _).mono ?_; rintro e wZ ⟨rfl, hbZ⟩
      go_wp2_with fail
      go_ret
      exact ⟨rfl, below_step B3.out hbZ⟩
  · have d0 : decide ((s.size : Int) > 300) = true := decide_eq_true (by omega)
    have d0' : decide (300 < (s.size : Int)) = true := decide_eq_true (by omega)
    have d0'' : decide (300 < s.size) = true := decide_eq_true (by omega)
    go_enter Try.func4, Try.ntmps4
    go_wp2_with fail
    refine (awake_ok _).mono ?_; rintro e wZ ⟨rfl, hbZ⟩
    go_wp2_with fail
    go_ret
    exact ⟨rfl, hbZ⟩
end Go.Proofs.Ytinbppcfdmbclaa.Pg
