/- Bytes that are no page's: Read, walked, answers that there is none. No condition beyond those that each theorem names. -/
import Derived.Test.YtinbppcfdmbclaaPureRead
namespace Go.Proofs.Ytinbppcfdmbclaa.Pg
open Go.RowKit Go.Proofs.YtinbppcfdmbclaaW.PrintWords Go.Proofs.YtinbppcfdmbclaaW.PrintLast Go.Proofs.YtinbppcfdmbclaaW.PrintMore
set_option linter.unusedVariables false
set_option linter.unusedSimpArgs false
set_option maxHeartbeats 1000000 in
theorem Read_size {w : World} (s : ByteArray) (hs : s.size ≠ 256) : Calls Try.prog 13 #[.string s] w fun e w' => e = .returned (.tuple #[.pointer none, .int .i64 120]) ∧ Below w.heap.size w w' := by
  have d0 : ((s.size : Int) != 256) = true := by simp; omega
  have d0' : ((s.size : Int) == 256) = false := by simp; omega
  go_enter Try.func13, Try.ntmps13
  go_wp2_with fail
  exact bodyPost_ret (results_tmp2 rfl _ _ _) rfl ⟨rfl, Below.refl _ _⟩
set_option maxHeartbeats 1000000 in
theorem Read_zero {w : World} (s : ByteArray) (hs : s.size = 256) (h0 : (((s[0]'(by omega)).toNat : Int) == 0) = true) : Calls Try.prog 13 #[.string s] w fun e w' => e = .returned (.tuple #[.pointer none, .int .i64 120]) ∧ Below w.heap.size w w' := by
  go_enter Try.func13, Try.ntmps13
  go_wp2_with fail
  exact bodyPost_ret (results_tmp2 rfl _ _ _) rfl ⟨rfl, Below.refl _ _⟩
set_option maxRecDepth 100000 in
set_option maxHeartbeats 2000000 in
theorem Read_bad {w : World} (s : ByteArray) (hsz : s.size = 256) (hs0 : (((s[0]'(by omega)).toNat : Int) == 0) = false) (hno : ¬ readP s) : Calls Try.prog 13 #[.string s] w fun e w' => e = .returned (.tuple #[.pointer none, .int .i64 120]) ∧ Below w.heap.size w w' := by
  have h00 : s.data.toList.getD 0 0 ≠ 0 := by
    intro e
    have : s.data.toList.getD 0 0 = s[0]'(by omega) := by
      have hl : s.data.toList.length = 256 := by rw [sz, hsz]
      rw [List.getD_eq_getElem?_getD, List.getElem?_eq_getElem (by omega)]
      rfl
    rw [this] at e
    rw [e] at hs0
    cases hs0
  have HNo := Aside0.mk (And.intro h00 hno)
  have hz := zero58_run w
  have hzs : (zero58.size < 257) = False := eq_false (by rw [zero58_size]; omega)
  have hst := zero58_set
  have hP := made58_pg w
  obtain ⟨w2, hcp, hp2, hb2⟩ := copy_str_pg hP ⟨w.heap.size, 0, none⟩ 0 256 256 s (fun _ => rfl) hsz (by omega)
  rw [splice_all _ _ (by rw [List.length_replicate, sz, hsz])] at hp2
  obtain ⟨w3, hcl3, hp3, hb3⟩ := clear_pg hp2 ⟨w.heap.size, 4, none⟩ 4 4 252 (fun _ => rfl) (by omega) 0
  obtain ⟨b, hbb⟩ : ∃ b, clearS s.data.toList = b := ⟨_, rfl⟩
  have HBb := Aside0.mk hbb
  have HP3 := Aside0.mk (show PG w3 w.heap.size b from by rw [← hbb]; exact hp3)
  have HB3 := Aside0.mk (BelX.below ((Below.refl _ _).alloc (Nat.le_refl _) _) (by simp) (Nat.le_refl _) (hb2.trans hb3))
  have HLen := Aside0.mk HP3.out.len
  have hul := usedB_lt b
  have hNl := at_lt b 1
  obtain ⟨u, hu⟩ : ∃ u, usedB b = u := ⟨_, rfl⟩
  obtain ⟨N, hN⟩ : ∃ N, at_ b 1 = N := ⟨_, rfl⟩
  have hroom : roomB b = 248 - 2 * (N : Int) - (u : Int) := by rw [roomB, hu, hN]
  have HE := Aside0.mk (show usedB b = u ∧ at_ b 1 = N ∧ roomB b = 248 - 2 * (N : Int) - (u : Int) from ⟨hu, hN, hroom⟩)
  rw [hu] at hul
  rw [hN] at hNl
  clear hP hp2 hb2 hp3 hb3 hbb hu hN hroom h00 hno
  by_cases hbs : bytesR b = s
  · have HBs := Aside0.mk hbs
    have HBy := Aside0.mk (show Calls Try.prog 12 #[.pointer (some ⟨w.heap.size, 0, none⟩)] w3 fun e w' => e = .returned (.string s) ∧ Below w3.heap.size w3 w' from by have := Bytes_pg HP3.out; rwa [hbs] at this)
    have HUs := Aside0.mk (show ∀ W, PG W w.heap.size b → Calls Try.prog 34 #[.pointer (some ⟨w.heap.size, 0, none⟩)] W fun e w' => e = .returned (.int .i64 (u : Int)) ∧ Below W.heap.size W w' from fun W h => by have := used_pg h; rwa [HE.out.1] at this)
    have HLs := Aside0.mk (show ∀ W, PG W w.heap.size b → Calls Try.prog 21 #[.pointer (some ⟨w.heap.size, 0, none⟩)] W fun e w' => e = .returned (.int .i64 (N : Int)) ∧ w' = W from fun W h => by have := Len_pg h; rwa [HE.out.2.1] at this)
    have HRs := Aside0.mk (show ∀ W, PG W w.heap.size b → Calls Try.prog 35 #[.pointer (some ⟨w.heap.size, 0, none⟩)] W fun e w' => e = .returned (.int .i64 (248 - 2 * (N : Int) - (u : Int))) ∧ Below W.heap.size W w' from fun W h => by have := room_pg h; rwa [HE.out.2.2] at this)
    clear hbs
    by_cases hu : u ≤ 256
    · have du : decide (256 < (u : Int)) = false := decide_eq_false (by omega)
      have du' : decide (256 < u) = false := decide_eq_false (by omega)
      by_cases hr : 2 * N + u ≤ 248
      · have dr : decide (248 - 2 * (N : Int) - (u : Int) < 0) = false := decide_eq_false (by omega)
        obtain ⟨f1, hf1⟩ : ∃ f1, fromB b ((N : Int) - 1) = f1 := ⟨_, rfl⟩
        have HF1 := Aside0.mk (show ∀ W, PG W w.heap.size b → Calls Try.prog 36 #[.pointer (some ⟨w.heap.size, 0, none⟩), .int .i64 ((N : Int) - 1)] W fun e w' => e = .returned (.int .i64 (f1 : Int)) ∧ w' = W from fun W h => by have := from_any h ((N : Int) - 1) (by omega); rwa [hf1] at this)
        have HFr := Aside0.mk hf1
        clear hf1
        by_cases hfu : f1 = 256 - u
        all_goals
          first
            | (have dF : ((f1 : Int) != 256 - (u : Int)) = false := by simp; omega
               have dF' : ((f1 : Int) == 256 - (u : Int)) = true := by simp; omega)
            | (have dF : ((f1 : Int) != 256 - (u : Int)) = true := by simp; omega
               have dF' : ((f1 : Int) == 256 - (u : Int)) = false := by simp; omega)
          have HFU := Aside0.mk hfu
          clear hfu
          go_enter Try.func13, Try.ntmps13
          go_wp2_with fail
          refine HBy.out.mono ?_; rintro e w4 ⟨rfl, hb4⟩
          have HP4 := Aside0.mk (HP3.out.below hb4)
          have HB4 := Aside0.mk (below_step HB3.out hb4)
          clear hb4 HP3 HB3 HBy
          go_wp2_with fail
          refine (HUs.out _ HP4.out).mono ?_; rintro e w5 ⟨rfl, hb5⟩
          have HP5 := Aside0.mk (HP4.out.below hb5)
          have HB5 := Aside0.mk (below_step HB4.out hb5)
          clear hb5 HP4 HB4
          go_wp2_with fail
          refine (HRs.out _ HP5.out).mono ?_; rintro e w6 ⟨rfl, hb6⟩
          have HP6 := Aside0.mk (HP5.out.below hb6)
          have HB6 := Aside0.mk (below_step HB5.out hb6)
          clear hb6 HP5 HB5
          go_wp2_with fail
          refine (HLs.out _ HP6.out).mono ?_; rintro e w6a ⟨rfl, rfl⟩
          go_wp2_with fail
          refine (HLs.out _ HP6.out).mono ?_; rintro e w6b ⟨rfl, rfl⟩
          go_wp2_with fail
          refine (HF1.out _ HP6.out).mono ?_; rintro e w6c ⟨rfl, rfl⟩
          go_wp2_with fail
          refine (HUs.out _ HP6.out).mono ?_; rintro e w7 ⟨rfl, hb7⟩
          have HP7 := Aside0.mk (HP6.out.below hb7)
          have HB7 := Aside0.mk (below_step HB6.out hb7)
          clear hb7 HP6 HB6
          go_wp2_with fail
        · clear du du' dr hcp hcl3 hs0 hz hzs hst dF dF'
          go_loopw [6] (fun v wr => ∃ k : Nat, v = .int .i64 (k : Int) ∧ Aside0 (8 + 2 * N ≤ k ∧ k ≤ 256 - u) ∧ Aside0 (∀ j, 8 + 2 * N ≤ j → j < k → at_ b j = 0) ∧ Aside0 (PG wr w.heap.size b) ∧ Aside0 (Below w.heap.size w wr)) (fun v _ => 256 - (Lib.intOf v).toNat)
          case atStart => exact ⟨8 + 2 * N, by rw [show ((8 + 2 * N : Nat) : Int) = 8 + 2 * (N : Int) from by omega], ⟨by omega⟩, ⟨fun j a c => by omega⟩, HP7, HB7⟩
          case round =>
            clear HP7 HB7
            obtain ⟨k, rfl, hM, HZ, HA, HB⟩ := hrel
            have hM1 := hM.out
            by_cases hlt : k < 256 - u
            · have d1 : decide ((k : Int) < 256 - (u : Int)) = true := decide_eq_true (by omega)
              have HI := Aside0.mk (show k < 256 ∧ k < 256 - u from by omega)
              have h3 : (k < 256) = True := eq_true (by omega)
              have h4 : ((k : Int) < 256) = True := eq_true (by omega)
              have hkb : k ≤ 255 := by omega
              obtain ⟨z, hzz⟩ : ∃ z, at_ b k = z := ⟨_, rfl⟩
              have HZZ := Aside0.mk hzz
              by_cases hz0 : z = 0
              · have d2 : ((z : Int) == 0) = true := by rw [hz0]; rfl
                have d3 : ((z : Int) != 0) = false := by rw [hz0]; rfl
                have HZ2 := Aside0.mk (show ∀ j, 8 + 2 * N ≤ j → j < k + 1 → at_ b j = 0 from fun j a c => by
                  by_cases h : j = k
                  · subst h; rw [HZZ.out, hz0]
                  · exact HZ.out j a (by omega))
                clear hlt hM1 hzz hz0
                go_wp2_with fail
                refine (HUs.out _ HA.out).mono ?_; rintro e w8 ⟨rfl, hb8⟩
                have HA8 := Aside0.mk (HA.out.below hb8)
                have HB8 := Aside0.mk (below_step HB.out hb8)
                have hcell := HA8.out.cell k HI.out.1
                rw [HZZ.out] at hcell
                clear hb8 HA HB
                go_wp2
                have q : (k : Int) + 1 = ((k + 1 : Nat) : Int) := by omega
                go_roundw
                case rel => exact ⟨k + 1, by rw [q], ⟨by have h1 := HI.out; have h2 := hM.out; omega⟩, HZ2, HA8, HB8⟩
                case measure => rw [q]; exact up_lt _ _ _ rfl HI.out.1
              · have d2 : ((z : Int) == 0) = false := beq_eq_false_iff_ne.2 (by omega)
                have d3 : ((z : Int) != 0) = true := by simp; omega
                have d4 : (z == 0) = false := beq_eq_false_iff_ne.2 hz0
                clear hlt hM1 hzz
                go_wp2_with fail
                refine (HUs.out _ HA.out).mono ?_; rintro e w8 ⟨rfl, hb8⟩
                have HA8 := Aside0.mk (HA.out.below hb8)
                have HB8 := Aside0.mk (below_step HB.out hb8)
                have hcell := HA8.out.cell k HI.out.1
                rw [HZZ.out] at hcell
                clear hb8 HA HB
                go_wp2
                exact bodyPost_ret (results_tmp2 rfl _ _ _) rfl ⟨rfl, HB8.out⟩
            · have hk : k = 256 - u := by omega
              have d1 : decide ((k : Int) < 256 - (u : Int)) = false := decide_eq_false (by omega)
              have HZ3 := Aside0.mk (show ∀ j, 8 + 2 * N ≤ j → j < 256 - u → at_ b j = 0 from fun j a c => HZ.out j a (by omega))
              clear hlt hM1 hk HZ
              go_wp2_with fail
              refine (HUs.out _ HA.out).mono ?_; rintro e w8 ⟨rfl, hb8⟩
              have HA8 := Aside0.mk (HA.out.below hb8)
              have HB8 := Aside0.mk (below_step HB.out hb8)
              clear hb8 HA HB
              go_wp2_with fail
              refine (HLs.out _ HA8.out).mono ?_; rintro e w9 ⟨rfl, rfl⟩
              go_wp2_with fail
              clear hM d1
              go_loopw [7, 78] (fun v7 v78 wr => ∃ L : List S66, v78 = .int .i64 (L.length : Int) ∧ v7 = .string (lastK L) ∧ Aside0 (L.length ≤ N) ∧ Aside0 (RSt b L) ∧ Aside0 (PG wr w.heap.size b) ∧ Aside0 (Below w.heap.size w wr)) (fun _ v _ => N - (Lib.intOf v).toNat)
              case atStart => exact ⟨[], rfl, rfl, ⟨by simp⟩, ⟨RSt.nil HLen.out⟩, HA8, HB8⟩
              case round =>
                clear HA8 HB8
                obtain ⟨L, rfl, rfl, hM, HS, HA, HB⟩ := hrel
                have hMo := hM.out
                obtain ⟨kk, hkk⟩ : ∃ kk, L.length = kk := ⟨_, rfl⟩
                have HKK := Aside0.mk hkk
                by_cases hlt : kk < N
                · have hlt' : kk < N := hlt
                  have d1 : decide ((kk : Int) < (N : Int)) = true := decide_eq_true (by omega)
                  have d2 : decide (kk < N) = true := decide_eq_true hlt
                  have hkb : kk ≤ 123 := by omega
                  obtain ⟨f, hf⟩ : ∃ f, fromB b (kk : Int) = f := ⟨_, rfl⟩
                  obtain ⟨en, hen⟩ : ∃ en, fromB b ((kk : Int) - 1) = en := ⟨_, rfl⟩
                  obtain ⟨kl, hkl⟩ : ∃ kl, at_ b (9 + 2 * kk) = kl := ⟨_, rfl⟩
                  have hfl := fromB_le b (kk : Int)
                  have hel := fromB_le b ((kk : Int) - 1)
                  have hkll := at_lt b (9 + 2 * kk)
                  rw [hf] at hfl
                  rw [hen] at hel
                  rw [hkl] at hkll
                  have HF := Aside0.mk (show Calls Try.prog 36 #[.pointer (some ⟨w.heap.size, 0, none⟩), .int .i64 (kk : Int)] wr fun x w' => x = .returned (.int .i64 (f : Int)) ∧ w' = wr from by have := from_any HA.out (kk : Int) (by omega); rwa [hf] at this)
                  have HE2 := Aside0.mk (show Calls Try.prog 36 #[.pointer (some ⟨w.heap.size, 0, none⟩), .int .i64 ((kk : Int) - 1)] wr fun x w' => x = .returned (.int .i64 (en : Int)) ∧ w' = wr from by have := from_any HA.out ((kk : Int) - 1) (by omega); rwa [hen] at this)
                  have HK := Aside0.mk (show Calls Try.prog 37 #[.pointer (some ⟨w.heap.size, 0, none⟩), .int .i64 (kk : Int)] wr fun x w' => x = .returned (.int .i64 (kl : Int)) ∧ w' = wr from by have := keyed_pg HA.out (kk : Int) (9 + 2 * kk) (by omega) (by omega) (by omega); rwa [hkl] at this)
                  have HFE := Aside0.mk (And.intro hf (And.intro hen hkl))
                  rw [hkk]
                  clear hf hen hkl hkk hMo
                  by_cases hA : en ≤ f
                  · have dA : decide ((en : Int) ≤ (f : Int)) = true := decide_eq_true (by omega)
                    have dA' : decide (en ≤ f) = true := decide_eq_true hA
                    go_wp2_with fail
                    refine HF.out.mono ?_; rintro e wA ⟨rfl, rfl⟩
                    go_wp2_with fail
                    refine HE2.out.mono ?_; rintro e wB ⟨rfl, rfl⟩
                    go_wp2_with fail
                    refine HK.out.mono ?_; rintro e wC ⟨rfl, rfl⟩
                    go_wp2_with fail
                    exact bodyPost_ret (results_tmp2 rfl _ _ _) rfl ⟨rfl, HB.out⟩
                  · have dA : decide ((en : Int) ≤ (f : Int)) = false := decide_eq_false (by omega)
                    have dA' : decide (en ≤ f) = false := decide_eq_false hA
                    by_cases hB : f < 8 + 2 * N
                    · have dB : decide ((f : Int) < 8 + 2 * (N : Int)) = true := decide_eq_true (by omega)
                      go_wp2_with fail
                      refine HF.out.mono ?_; rintro e wA ⟨rfl, rfl⟩
                      go_wp2_with fail
                      refine HE2.out.mono ?_; rintro e wB ⟨rfl, rfl⟩
                      go_wp2_with fail
                      refine HK.out.mono ?_; rintro e wC ⟨rfl, rfl⟩
                      go_wp2_with fail
                      exact bodyPost_ret (results_tmp2 rfl _ _ _) rfl ⟨rfl, HB.out⟩
                    · have dB : decide ((f : Int) < 8 + 2 * (N : Int)) = false := decide_eq_false (by omega)
                      by_cases hC : en - f < kl
                      · have dC : decide ((en : Int) - (f : Int) < (kl : Int)) = true := decide_eq_true (by omega)
                        go_wp2_with fail
                        refine HF.out.mono ?_; rintro e wA ⟨rfl, rfl⟩
                        go_wp2_with fail
                        refine HE2.out.mono ?_; rintro e wB ⟨rfl, rfl⟩
                        go_wp2_with fail
                        refine HK.out.mono ?_; rintro e wC ⟨rfl, rfl⟩
                        go_wp2_with fail
                        exact bodyPost_ret (results_tmp2 rfl _ _ _) rfl ⟨rfl, HB.out⟩
                      · have dC : decide ((en : Int) - (f : Int) < (kl : Int)) = false := decide_eq_false (by omega)
                        obtain ⟨sa, hsa⟩ : ∃ sa, cut b f (f + kl) = sa := ⟨_, rfl⟩
                        obtain ⟨sv, hsv⟩ : ∃ sv, cut b (f + kl) en = sv := ⟨_, rfl⟩
                        have HAt := Aside0.mk (show Calls Try.prog 19 #[.pointer (some ⟨w.heap.size, 0, none⟩), .int .i64 (kk : Int)] wr fun x w' => x = .returned (.tuple #[.string sa, .string sv]) ∧ Below wr.heap.size wr w' from by
                          have h := At_pg HA.out kk (9 + 2 * kk) (by rw [HE.out.2.1]; exact hlt) (by omega) rfl (by rw [HFE.out.1, HFE.out.2.1, HFE.out.2.2]; omega) (by rw [HFE.out.1]; omega)
                          rw [HFE.out.1, HFE.out.2.1, HFE.out.2.2, hsa, hsv] at h
                          exact h)
                        have HSn := Aside0.mk (show mayB sa sv = true → (L ≠ [] → Op.bytesLess (lastK L).toList sa.toList = true) → RSt b (L ++ [⟨sa, sv⟩]) from by
                          have hk := HKK.out
                          rw [← hsa, ← hsv]
                          exact fun h1 h2 => HS.out.snoc HLen.out f en kl (by omega) (by rw [hk]; exact HFE.out.1) (by rw [hk]; exact HFE.out.2.1) (by rw [hk]; exact HFE.out.2.2) (by omega) (by omega) (by omega) h1 h2)
                        clear hsa hsv
                        cases hm : mayB sa sv with
                        | false =>
                          have HMy := Aside0.mk hm
                          clear hm
                          go_wp2_with fail
                          refine HF.out.mono ?_; rintro e wA ⟨rfl, rfl⟩
                          go_wp2_with fail
                          refine HE2.out.mono ?_; rintro e wB ⟨rfl, rfl⟩
                          go_wp2_with fail
                          refine HK.out.mono ?_; rintro e wC ⟨rfl, rfl⟩
                          go_wp2_with fail
                          refine HAt.out.mono ?_; rintro e w10 ⟨rfl, hb10⟩
                          have HB10 := Aside0.mk (below_step HB.out hb10)
                          clear hb10 HA HB HF HE2 HK HAt
                          go_wp2_with fail
                          refine (page_cell.calls sa sv false _ (by rw [cell_f, HMy.out])).mono ?_; rintro e w11 ⟨rfl, ⟨nd, rfl⟩⟩
                          go_wp2_with fail
                          exact bodyPost_ret (results_tmp2 rfl _ _ _) rfl ⟨rfl, pw_below_drewN HB10.out nd⟩
                        | true =>
                          have HMy := Aside0.mk hm
                          have HSm := Aside0.mk (HSn.out hm)
                          clear hm HSn
                          obtain ⟨la, hla⟩ : ∃ la, lastK L = la := ⟨_, rfl⟩
                          have HLa := Aside0.mk hla
                          rw [hla] at HSm
                          rw [hla]
                          clear hla
                          by_cases hbad : kk ≠ 0 ∧ Op.bytesLess la.toList sa.toList = false
                          · have dK : decide (0 < kk) = true := decide_eq_true (by omega)
                            have dK' : decide (0 < (kk : Int)) = true := decide_eq_true (by omega)
                            have hbd := hbad.2
                            by_cases heq : sa.toList = la.toList
                            all_goals
                              first
                                | (have dq : (sa.toList == la.toList) = true := beq_iff_eq.2 heq)
                                | (have dq : (sa.toList == la.toList) = false := beq_eq_false_iff_ne.2 heq
                                   have dl : Op.bytesLess sa.toList la.toList = true := less_total hbd (fun e => heq e.symm))
                              clear heq hbad
                              go_wp2_with fail
                              refine HF.out.mono ?_; rintro e wA ⟨rfl, rfl⟩
                              go_wp2_with fail
                              refine HE2.out.mono ?_; rintro e wB ⟨rfl, rfl⟩
                              go_wp2_with fail
                              refine HK.out.mono ?_; rintro e wC ⟨rfl, rfl⟩
                              go_wp2_with fail
                              refine HAt.out.mono ?_; rintro e w10 ⟨rfl, hb10⟩
                              have HB10 := Aside0.mk (below_step HB.out hb10)
                              clear hb10 HA HB HF HE2 HK HAt
                              go_wp2_with fail
                              refine (page_cell.calls sa sv true _ (by rw [cell_f, HMy.out])).mono ?_; rintro e w11 ⟨rfl, ⟨nd, rfl⟩⟩
                              go_wp2_with fail
                              exact bodyPost_ret (results_tmp2 rfl _ _ _) rfl ⟨rfl, pw_below_drewN HB10.out nd⟩
                          · have HR2 := Aside0.mk (show RSt b (L ++ [⟨sa, sv⟩]) from HSm.out (fun hne => by
                              have hk : kk ≠ 0 := fun e => hne (List.eq_nil_of_length_eq_zero (by rw [HKK.out, e]))
                              cases hh : Op.bytesLess la.toList sa.toList with
                              | true => rfl
                              | false => exact absurd ⟨hk, hh⟩ hbad))
                            by_cases h0 : kk = 0
                            all_goals
                              first
                                | (have dK : decide (0 < kk) = false := decide_eq_false (by omega)
                                   have dK' : decide (0 < (kk : Int)) = false := decide_eq_false (by omega)
                                   clear hbad)
                                | (have dK : decide (0 < kk) = true := decide_eq_true (by omega)
                                   have dK' : decide (0 < (kk : Int)) = true := decide_eq_true (by omega)
                                   have hgood : Op.bytesLess la.toList sa.toList = true := by
                                     cases hh : Op.bytesLess la.toList sa.toList with
                                     | true => rfl
                                     | false => exact absurd ⟨h0, hh⟩ hbad
                                   have hord1 := less_asymm hgood
                                   have hord2 : (sa.toList == la.toList) = false := beq_eq_false_iff_ne.2 (fun e => by rw [e, less_irrefl] at hgood; cases hgood)
                                   clear hgood hbad)
                              clear h0
                              go_wp2_with fail
                              refine HF.out.mono ?_; rintro e wA ⟨rfl, rfl⟩
                              go_wp2_with fail
                              refine HE2.out.mono ?_; rintro e wB ⟨rfl, rfl⟩
                              go_wp2_with fail
                              refine HK.out.mono ?_; rintro e wC ⟨rfl, rfl⟩
                              go_wp2_with fail
                              refine HAt.out.mono ?_; rintro e w10 ⟨rfl, hb10⟩
                              have HA10 := Aside0.mk (HA.out.below hb10)
                              have HB10 := Aside0.mk (below_step HB.out hb10)
                              clear hb10 HA HB HF HE2 HK HAt
                              go_wp2_with fail
                              refine (page_cell.calls sa sv true _ (by rw [cell_f, HMy.out])).mono ?_; rintro e w11 ⟨rfl, ⟨nd, rfl⟩⟩
                              have HA11 := Aside0.mk (HA10.out.below (pw_below_drewN (Below.refl _ _) nd))
                              have HB11 := Aside0.mk (pw_below_drewN HB10.out nd)
                              clear HA10 HB10
                              go_wp2
                              have HLn := Aside0.mk (show (L ++ [(⟨sa, sv⟩ : S66)]).length = kk + 1 from by rw [List.length_append, HKK.out]; rfl)
                              have q : (kk : Int) + 1 = (((L ++ [(⟨sa, sv⟩ : S66)]).length : Nat) : Int) := by rw [HLn.out]; omega
                              go_roundw
                              case rel => exact ⟨L ++ [⟨sa, sv⟩], by rw [q], by rw [lastK_snoc], ⟨by rw [HLn.out]; exact hlt'⟩, HR2, HA11, HB11⟩
                              case measure => rw [q]; exact up_lt _ _ _ HLn.out hlt'
                · have hkN : kk = N := by omega
                  exfalso
                  have h1 := HE.out
                  have h2 := HNo.out
                  have h3 := HFr.out
                  have h4 := HS.out
                  have hk := HKK.out
                  have h5 := h4.from_
                  have hfu := HFU.out
                  rw [hk, hkN, h3] at h5
                  rw [← HBb.out] at h4 h1
                  have htt := h4.tot
                  have hll : L.length = N := by rw [hk, hkN]
                  have hzz : ∀ j, 8 + 2 * L.length ≤ j → j < 256 - usedB (clearS s.data.toList) → at_ (clearS s.data.toList) j = 0 := by
                    intro j p q
                    rw [hll] at p
                    rw [h1.1] at q
                    rw [HBb.out]
                    exact HZ3.out j p q
                  exact h2.2 (read_all hsz h2.1 (by rw [HBb.out]; exact HBs.out) L h4 (by rw [h1.2.1, hll]) (by rw [h1.1]; omega) (by rw [h1.1]; exact hu) (by rw [h1.1, hll]; exact hr) hzz)
        · exact bodyPost_ret (results_tmp2 rfl _ _ _) rfl ⟨rfl, HB7.out⟩
      · have dr : decide (248 - 2 * (N : Int) - (u : Int) < 0) = true := decide_eq_true (by omega)
        go_enter Try.func13, Try.ntmps13
        go_wp2_with fail
        refine HBy.out.mono ?_; rintro e w4 ⟨rfl, hb4⟩
        have HP4 := Aside0.mk (HP3.out.below hb4)
        have HB4 := Aside0.mk (below_step HB3.out hb4)
        clear hb4 HP3 HB3 HBy
        go_wp2_with fail
        refine (HUs.out _ HP4.out).mono ?_; rintro e w5 ⟨rfl, hb5⟩
        have HP5 := Aside0.mk (HP4.out.below hb5)
        have HB5 := Aside0.mk (below_step HB4.out hb5)
        clear hb5 HP4 HB4
        go_wp2_with fail
        refine (HRs.out _ HP5.out).mono ?_; rintro e w6 ⟨rfl, hb6⟩
        have HB6 := Aside0.mk (below_step HB5.out hb6)
        clear hb6 HP5 HB5
        go_wp2_with fail
        exact bodyPost_ret (results_tmp2 rfl _ _ _) rfl ⟨rfl, HB6.out⟩
    · have du : decide (256 < (u : Int)) = true := decide_eq_true (by omega)
      have du' : decide (256 < u) = true := decide_eq_true (by omega)
      go_enter Try.func13, Try.ntmps13
      go_wp2_with fail
      refine HBy.out.mono ?_; rintro e w4 ⟨rfl, hb4⟩
      have HP4 := Aside0.mk (HP3.out.below hb4)
      have HB4 := Aside0.mk (below_step HB3.out hb4)
      clear hb4 HP3 HB3 HBy
      go_wp2_with fail
      refine (HUs.out _ HP4.out).mono ?_; rintro e w5 ⟨rfl, hb5⟩
      have HB5 := Aside0.mk (below_step HB4.out hb5)
      clear hb5 HP4 HB4
      go_wp2_with fail
      exact bodyPost_ret (results_tmp2 rfl _ _ _) rfl ⟨rfl, HB5.out⟩
  · obtain ⟨s1, hs1⟩ : ∃ s1, bytesR b = s1 := ⟨_, rfl⟩
    rw [hs1] at hbs
    have HBy := Aside0.mk (show Calls Try.prog 12 #[.pointer (some ⟨w.heap.size, 0, none⟩)] w3 fun e w' => e = .returned (.string s1) ∧ Below w3.heap.size w3 w' from by have := Bytes_pg HP3.out; rwa [hs1] at this)
    have f0 : (s1.toList == s.toList) = false := beq_eq_false_iff_ne.2 (fun e => hbs (ba_ext (by rw [← ba_list, ← ba_list]; exact e)))
    have f1 : decide (s1 = s) = false := decide_eq_false hbs
    clear hs1 hbs
    go_enter Try.func13, Try.ntmps13
    go_wp2_with fail
    refine HBy.out.mono ?_; rintro e w4 ⟨rfl, hb4⟩
    have HB4 := Aside0.mk (below_step HB3.out hb4)
    clear hb4 HP3 HB3 HBy
    go_wp2_with fail
    exact bodyPost_ret (results_tmp2 rfl _ _ _) rfl ⟨rfl, HB4.out⟩
theorem Read_no {w : World} (s : ByteArray) (hno : ¬ readP s) : Calls Try.prog 13 #[.string s] w fun e w' => e = .returned (.tuple #[.pointer none, .int .i64 120]) ∧ Below w.heap.size w w' := by
  by_cases hs : s.size = 256
  · cases h0 : (((s[0]'(by omega)).toNat : Int) == 0) with
    | true => exact Read_zero s hs h0
    | false => exact Read_bad s hs h0 hno
  · exact Read_size s hs
end Go.Proofs.Ytinbppcfdmbclaa.Pg
