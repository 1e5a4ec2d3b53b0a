/- A page takes cells till there is no room (PageFull): walked, it answers true. Condition: the arguments are numbers of 64 bits. -/
import Derived.Test.YtinbppcfdmbclaaPureFull
namespace Go.Proofs.Ytinbppcfdmbclaa.Pg
open Go.RowKit Go.Proofs.YtinbppcfdmbclaaW.PrintWords Go.Proofs.YtinbppcfdmbclaaW.PrintLast Go.Proofs.YtinbppcfdmbclaaW.PrintMore
set_option linter.unusedVariables false
set_option linter.unusedSimpArgs false
theorem Free_L {w : World} {g : Nat} {kind : UInt8} {L : List S66} (h : PGL w g kind L) : Calls Try.prog 17 #[.pointer (some ⟨g, 0, none⟩)] w fun e w' => e = .returned (.int .i64 (max 0 (248 - 2 * (L.length : Int) - (total L : Int) - 2))) ∧ Below w.heap.size w w' := by
  have := Free_pg h.pg
  rwa [roomB, enc_len _ _ h.cells.fits, enc_used _ _ h.cells.fits] at this
theorem and_mask127 (a : Int) : ∃ k : Nat, Go.bits .and .i64 a 127 = (k : Int) ∧ k ≤ 127 := by
  have e : Go.bits .and .i64 a 127 = a % 128 := Aid.and_mask a 7 (by decide)
  exact ⟨(a % 128).toNat, by rw [e]; omega, by omega⟩
theorem and_mask255 (a : Int) : ∃ k : Nat, Go.bits .and .i64 a 255 = (k : Int) ∧ k ≤ 255 := by
  have e : Go.bits .and .i64 a 255 = a % 256 := Aid.and_mask a 8 (by decide)
  exact ⟨(a % 256).toNat, by rw [e]; omega, by omega⟩
set_option maxRecDepth 100000 in
set_option maxHeartbeats 4000000 in
theorem Full_ok (w : World) (size many : Int) (w0 : (Lit.int .i64 size).wf = true) (w1 : (Lit.int .i64 many).wf = true) : Calls Try.prog 5 #[.int .i64 size, .int .i64 many] w fun e w' => e = .returned (.bool true) ∧ Below w.heap.size w w' := by
  obtain ⟨sk, hsk, hsk2⟩ := and_mask255 size
  obtain ⟨mk, hmk, hmk2⟩ := and_mask127 many
  obtain ⟨n, hn⟩ : ∃ n : Nat, 3 + sk % 97 = n := ⟨_, rfl⟩
  have hn3 : 3 ≤ n ∧ n ≤ 99 := by omega
  have q0 : (3 : Int) + (sk : Int) % 97 = (n : Int) := by omega
  clear w0 w1
  go_enter Try.func5, Try.ntmps5
  go_wp2_with fail
  refine (New_ok _ 2 (by omega) (by omega)).mono ?_; rintro e w1 ⟨g, rfl, hg, hp1, hb1⟩
  have H1 := Aside0.mk hp1
  have B1 := Aside0.mk hb1
  have HG := Aside0.mk hg
  clear hp1 hb1 hg
  go_wp2_with fail
  have HN2 := Aside0.mk (show 0 ≤ (n : Int) - 2 ∧ ((n : Int) - 2).toNat * 1 ≤ 281474976710656 from by omega)
  have HN3 := Aside0.mk hn3
  go_loopw [8, 9] (fun v8 v9 wr => ∃ (m r i : Nat), v8 = .int .i64 (r : Int) ∧ v9 = .int .i64 (i : Int) ∧ Aside0 ((n + 2) * m + r = 248 ∧ m ≤ i ∧ i ≤ mk ∧ (m = i ∨ r < n + 2)) ∧ Aside0 (PGL wr g (by_ 2) (LF n m)) ∧ Aside0 (Below w.heap.size w wr)) (fun _ v _ => mk - (Lib.intOf v).toNat)
  case atStart => exact ⟨0, 248, 0, rfl, rfl, ⟨by omega⟩, H1, B1⟩
  case round =>
    clear H1 B1
    obtain ⟨m, r, i, rfl, rfl, hM, HA, HB⟩ := hrel
    have hMo := hM.out
    have hr248 : r ≤ 248 := by omega
    by_cases hlt : i < mk
    · have d1 : decide ((i : Int) < (mk : Int)) = true := decide_eq_true (by omega)
      have d2 : decide (i < mk) = true := decide_eq_true hlt
      have HP := Aside0.mk (LF_put n m i hn3.1 hn3.2 hMo.2.1 (by omega))
      have HR := Aside0.mk (show 248 - 2 * ((LF n m).length : Int) - (total (LF n m) : Int) = (r : Int) from by
        rw [LF_length, LF_total n (by omega)]
        have := hMo.1
        rw [Nat.add_mul] at this
        omega)
      have HI := Aside0.mk (show i < mk ∧ (mk : Int) = mk from ⟨hlt, rfl⟩)
      have hi127 : i ≤ 127 := by omega
      clear hMo hlt
      by_cases hroom : n + 2 ≤ r
      all_goals
        first
          | (have e1 : decide ((n : Int) + 2 ≤ (r : Int)) = true := decide_eq_true (by omega)
             have e2 : (decide ((n : Int) + 2 ≤ (r : Int)) : Bool) = true := decide_eq_true (by omega)
             have HC := Aside0.mk (show (n + 2) * (m + 1) ≤ 248 ∧ m = i ∧ (n + 2) * (m + 1) + (r - (n + 2)) = 248 from by have h := hM.out; rw [Nat.mul_succ]; omega)
             have HPut := Aside0.mk (show putR (LF n m) (keyF i) (valF n) = (0, LF n (m + 1)) from by rw [HP.out, if_pos HC.out.1, LF_succ, HC.out.2.1])
             have q2 : ((r : Int) - (n : Int)) - 2 = ((r - (n + 2) : Nat) : Int) := by omega)
          | (have e1 : decide ((n : Int) + 2 ≤ (r : Int)) = false := decide_eq_false (by omega)
             have HC := Aside0.mk (show ¬ (n + 2) * (m + 1) ≤ 248 from by have h := hM.out; rw [Nat.mul_succ]; omega)
             have HPut := Aside0.mk (show putR (LF n m) (keyF i) (valF n) = (2, LF n m) from by rw [HP.out, if_neg HC.out])
             have HFull := Aside0.mk hroom)
        clear HP
        go_wp2_with (first | ((with_reducible refine gate_dst (N := 37) rfl ?_); refine Kd.R_lit (Kd.int .u8) _ 5 ?hg (N := 37) ?hd (xs := ([107, (i : Int)] : List Int)) (inner := [.int .u8 107, .int .u8 ((i : Int))]) (ok := fun _ => True) (okp := fun _ => True) ?hr ?hp (fun _ hk => hk) trivial (Below.refl _ _) (Nat.le_refl _) (by simp) ?_; (case hd => rfl); (case hg => rfl); (case hr => first | (go_simp; done) | (go_simp; rfl)); (case hp => exact (Reps.one (show Kd.M (Kd.int .u8) _ _ _ 107 [.int .u8 107] from rfl) (Reps.one (show Kd.M (Kd.int .u8) _ _ _ ((i : Int)) [.int .u8 ((i : Int))] from rfl) (Reps.none _ _)))); intro v1 w3 ho3 hb3 hg_ hnew_; clear hg_ hnew_; have H3 := Aside0.mk (HA.out.below hb3); have HB3 := Aside0.mk (below_step HB.out hb3); have hcv := own_string (P := Try.prog) Try.underlying30 Try.underlying5 Try.underlying9 (Kd.own_of_R ho3); clear HA HB hb3 ho3))
        refine (Free_L H3.out).mono ?_; rintro e w4 ⟨rfl, hb4⟩
        have H4 := Aside0.mk (H3.out.below hb4)
        have HB4 := Aside0.mk (below_step HB3.out hb4)
        clear hb4 H3 HB3
        rw [HR.out]
        go_wp2_with (first | ((with_reducible refine gate_dst (N := 45) rfl ?_); refine Kd.R_make (Kd.int .u8) _ 5 rfl (N := 45) rfl 30 _ _ rfl ((n : Int) - 2) rfl rfl Try.underlying30 (.int .u8 0) 1 info5 rfl (by decide) (by omega) 0 (ok := fun _ => True) (okp := fun _ => True) rfl (fun _ hk => hk) trivial HN2.out.1 HN2.out.2 (Below.refl _ _) (Nat.le_refl _) ?_; intro v2 w5 ho5 hb5 hg_ hnew_; clear hg_ hnew_; have H5 := Aside0.mk (H4.out.below hb5); have HB5 := Aside0.mk (below_step HB4.out hb5); have hcv2 := own_string (P := Try.prog) Try.underlying30 Try.underlying5 Try.underlying9 (Kd.own_of_R ho5); clear H4 HB4 hb5 ho5))
        refine (show Calls Try.prog 18 #[.pointer (some ⟨g, 0, none⟩), .string (strOfNums [107, (i : Int)]), .string (strOfNums (List.replicate (n - 2) 0))] w5 fun e w' => e = .returned (.int .i64 (putR (LF n m) (keyF i) (valF n)).1) ∧ PGL w' g (by_ 2) (putR (LF n m) (keyF i) (valF n)).2 ∧ BelX g w5 w' from Put_any H5.out _ _).mono ?_; rintro e w6 ⟨rfl, hp6, hb6⟩
        have H6 := Aside0.mk hp6
        have HB6 := Aside0.mk (BelX.below HB5.out (Nat.le_trans HG.out (Nat.le_of_lt H5.out.pg.lt)) HG.out hb6)
        clear hp6 hb6 H5 HB5
        rw [HPut.out] at H6
        rw [HPut.out]
        clear HR HPut
      · go_wp2
        have q1 : (i : Int) + 1 = ((i + 1 : Nat) : Int) := by omega
        go_roundw
        case rel => exact ⟨m + 1, r - (n + 2), i + 1, by rw [← q2], by rw [q1], ⟨by have h := HC.out; have h2 := HI.out.1; refine ⟨h.2.2, ?_, ?_, ?_⟩ <;> omega⟩, H6, HB6⟩
        case measure => rw [q1]; exact up_lt _ _ _ rfl HI.out.1
      · go_wp2
        have q1 : (i : Int) + 1 = ((i + 1 : Nat) : Int) := by omega
        go_roundw
        case rel => exact ⟨m, r, i + 1, rfl, by rw [q1], ⟨by have h := hM.out; have h2 := HI.out.1; have h3 := HFull.out; refine ⟨h.1, ?_, ?_, ?_⟩ <;> omega⟩, H6, HB6⟩
        case measure => rw [q1]; exact up_lt _ _ _ rfl HI.out.1
    · have d1 : decide ((i : Int) < (mk : Int)) = false := decide_eq_false (by omega)
      have d2 : decide (i < mk) = false := decide_eq_false hlt
      clear hMo hlt
      go_wp2_with fail
      refine (At_first HA.out).mono ?_; rintro e w3 ⟨rfl, hb3⟩
      have H3 := Aside0.mk (HA.out.below hb3)
      have B3 := Aside0.mk (below_step HB.out hb3)
      clear hb3 HA HB
      cases m with
      | zero =>
        have e0 : firstK (LF n 0) = ⟨#[]⟩ := rfl
        rw [e0]
        go_wp2_with fail
        refine (awake_ok _).mono ?_; rintro e w4 ⟨rfl, hb4⟩
        go_wp2_with fail
        go_ret
        exact ⟨rfl, below_step B3.out hb4⟩
      | succ m' =>
        have e0 : firstK (LF n (m' + 1)) = keyF 0 := by rw [LF_cons]; rfl
        have HD1 := Aside0.mk (LF_drop n m')
        have HD2 := Aside0.mk (TF_drop n m')
        rw [e0]
        obtain ⟨s0, hs0⟩ : ∃ s0, keyF 0 = s0 := ⟨_, rfl⟩
        have hz1 : s0.toList.isEmpty = false := by rw [← hs0, keyF_list 0 (by omega)]; rfl
        have hz2 : (!s0.toList.isEmpty) = true := by rw [hz1]; rfl
        rw [hs0] at HD1 HD2
        rw [hs0]
        have HT := Aside0.mk (show 248 - 2 * ((TF n m').length : Int) - (total (TF n m') : Int) - 2 = (r : Int) + (n : Int) from by
          rw [TF_length, TF_total n m' (by have := HN3.out; omega)]
          have := hM.out.1
          rw [Nat.mul_succ, Nat.add_mul] at this
          omega)
        clear hs0 e0
        go_wp2_with fail
        refine (show Calls Try.prog 20 #[.pointer (some ⟨g, 0, none⟩), .string s0] w3 fun e w' => e = .returned (.int .i64 0) ∧ PGL w' g (by_ 2) (TF n m') ∧ BelX g w3 w' from by have := Drop_any H3.out s0; rw [HD1.out] at this; exact this).mono ?_; rintro e w4 ⟨rfl, hp4, hb4⟩
        have H4 := Aside0.mk hp4
        have B4 := Aside0.mk (BelX.below B3.out (Nat.le_trans HG.out (Nat.le_of_lt H3.out.pg.lt)) HG.out hb4)
        clear hp4 hb4 H3 B3
        go_wp2_with fail
        refine (show Calls Try.prog 20 #[.pointer (some ⟨g, 0, none⟩), .string s0] w4 fun e w' => e = .returned (.int .i64 3) ∧ PGL w' g (by_ 2) (TF n m') ∧ BelX g w4 w' from by have := Drop_any H4.out s0; rw [HD2.out] at this; exact this).mono ?_; rintro e w5 ⟨rfl, hp5, hb5⟩
        have H5 := Aside0.mk hp5
        have B5 := Aside0.mk (BelX.below B4.out (Nat.le_trans HG.out (Nat.le_of_lt H4.out.pg.lt)) HG.out hb5)
        clear hp5 hb5 H4 B4
        go_wp2_with fail
        refine (Free_L H5.out).mono ?_; rintro e w6 ⟨rfl, hb6⟩
        have B6 := Aside0.mk (below_step B5.out hb6)
        clear hb6 B5 H5
        rw [HT.out]
        go_wp2_with fail
        refine (awake_ok _).mono ?_; rintro e w7 ⟨rfl, hb7⟩
        go_wp2_with fail
        go_ret
        exact ⟨rfl, below_step B6.out hb7⟩
end Go.Proofs.Ytinbppcfdmbclaa.Pg
