/- A page that nobody made answers nothing, and copies go their own way (PageNobody): walked, it answers true. No condition. -/
import Derived.Test.YtinbppcfdmbclaaPagU
namespace Go.Proofs.Ytinbppcfdmbclaa.Pg
open Go.RowKit Go.Proofs.YtinbppcfdmbclaaW.PrintWords Go.Proofs.YtinbppcfdmbclaaW.PrintLast Go.Proofs.YtinbppcfdmbclaaW.PrintMore
set_option linter.unusedVariables false
set_option linter.unusedSimpArgs false
theorem zero58_cell : zero58[256]? = some (.bool false) := by
  have h : ∀ l : List UInt8, l.length = 256 → (l.map u8 ++ [Value.bool false]).toArray[256]? = some (.bool false) := fun l hl => by
    simp [hl]
  exact h _ List.length_replicate
theorem put_first (key value : ByteArray) : putR [] key value = if mayB key value = true then (0, [⟨key, value⟩]) else (1, []) := by
  unfold putR
  by_cases h : mayB key value = true
  · have hf : Fits (insL [] key value) := by
      have := of_decide_eq_true h
      show 2 * 1 + (key.size + value.size + 0) ≤ 248
      omega
    rw [if_pos h, if_pos h, if_pos hf]; rfl
  · rw [if_neg h, if_neg h]
set_option maxRecDepth 100000 in
set_option maxHeartbeats 4000000 in
theorem Nobody_ok (w : World) (key value : ByteArray) (k : Int) : Calls Try.prog 8 #[.string key, .string value, .int .i64 k] w fun e w' => e = .returned (.bool true) ∧ Below w.heap.size w w' := by
  by_cases h1 : key.size ≤ 80 ∧ value.size ≤ 20
  · obtain ⟨h1, h2⟩ := h1
    have d1 : decide (80 < (key.size : Int)) = false := decide_eq_false (by omega)
    have d1' : decide (80 < key.size) = false := decide_eq_false (by omega)
    have d2 : decide (20 < (value.size : Int)) = false := decide_eq_false (by omega)
    have d2' : decide (20 < value.size) = false := decide_eq_false (by omega)
    have hz := zero58_run w
    have HNg := Aside0.mk (fun (o : Obj) => NG.zero (show ((w.alloc (.cells zero58 58)).alloc o).cell? ⟨w.heap.size, 256, none⟩ = some (.bool false) from by
      rw [cell_of_row _ _ _ zero58 58 (0, 0) (heap_alloc2_old _ _ _)]; exact zero58_cell))
    have HB0 := Aside0.mk (fun (o : Obj) => show Below w.heap.size w ((w.alloc (.cells zero58 58)).alloc o) from ((Below.refl _ _).alloc (Nat.le_refl _) _).alloc (by simp) _)
    have HMay := Aside0.mk (put_first key value)
    cases hm : mayB key value with
    | false =>
      rw [hm] at HMay
      have HM := Aside0.mk hm
      clear hm
      go_enter Try.func8, Try.ntmps8
      go_wp2
      refine wp_loop_rounds 3 ?_
      rw [rounds_succ]
      go_wp2_with (first | (go_at_call 19; ((with_reducible refine (At_no (NG.nil _) _).mono ?_); rintro e w' ⟨rfl, rfl⟩)) | (go_at_call 26; ((with_reducible refine (Find_no (NG.nil _) _).mono ?_); rintro e w' ⟨rfl, rfl⟩)) | (go_at_call 22; ((with_reducible refine (Split_no (NG.nil _) _).mono ?_); rintro e w' ⟨rfl, rfl⟩)) | (go_at_call 12; ((with_reducible refine (Bytes_no (NG.nil _)).mono ?_); rintro e w' ⟨rfl, rfl⟩)) | (go_at_call 27; ((with_reducible refine (Kind_no (NG.nil _)).mono ?_); rintro e w' ⟨rfl, rfl⟩)) | (go_at_call 21; ((with_reducible refine (Len_no (NG.nil _)).mono ?_); rintro e w' ⟨rfl, rfl⟩)) | (go_at_call 17; ((with_reducible refine (Free_no (NG.nil _)).mono ?_); rintro e w' ⟨rfl, rfl⟩)) | (go_at_call 18; ((with_reducible refine (Put_no (NG.nil _) _ _).mono ?_); rintro e w' ⟨rfl, rfl⟩)) | (go_at_call 20; ((with_reducible refine (Drop_no (NG.nil _) _).mono ?_); rintro e w' ⟨rfl, rfl⟩)) | (go_at_call 23; ((with_reducible refine (Join_no (NG.nil _)).mono ?_); rintro e w' ⟨rfl, rfl⟩)) | (go_at_call 28; ((with_reducible refine (Copy_no (NG.nil _)).mono ?_); rintro e w' ⟨rfl, rfl⟩)))
      rw [rounds_succ]
      go_wp2_with (first | (go_at_call 19; ((with_reducible refine (At_no (HNg.out _) _).mono ?_); rintro e w' ⟨rfl, rfl⟩)) | (go_at_call 26; ((with_reducible refine (Find_no (HNg.out _) _).mono ?_); rintro e w' ⟨rfl, rfl⟩)) | (go_at_call 22; ((with_reducible refine (Split_no (HNg.out _) _).mono ?_); rintro e w' ⟨rfl, rfl⟩)) | (go_at_call 12; ((with_reducible refine (Bytes_no (HNg.out _)).mono ?_); rintro e w' ⟨rfl, rfl⟩)) | (go_at_call 27; ((with_reducible refine (Kind_no (HNg.out _)).mono ?_); rintro e w' ⟨rfl, rfl⟩)) | (go_at_call 21; ((with_reducible refine (Len_no (HNg.out _)).mono ?_); rintro e w' ⟨rfl, rfl⟩)) | (go_at_call 17; ((with_reducible refine (Free_no (HNg.out _)).mono ?_); rintro e w' ⟨rfl, rfl⟩)) | (go_at_call 18; ((with_reducible refine (Put_no (HNg.out _) _ _).mono ?_); rintro e w' ⟨rfl, rfl⟩)) | (go_at_call 20; ((with_reducible refine (Drop_no (HNg.out _) _).mono ?_); rintro e w' ⟨rfl, rfl⟩)) | (go_at_call 23; ((with_reducible refine (Join_no (HNg.out _)).mono ?_); rintro e w' ⟨rfl, rfl⟩)) | (go_at_call 28; ((with_reducible refine (Copy_no (HNg.out _)).mono ?_); rintro e w' ⟨rfl, rfl⟩)))
      rw [rounds_succ]
      go_wp2_with fail
      refine (New_ok _ 3 (by omega) (by omega)).mono ?_; rintro e w1 ⟨g, rfl, hg, hp1, hb1⟩
      have H1 := Aside0.mk hp1
      have B1 := Aside0.mk (Below.trans (HB0.out _) (hb1.mono (by simp; omega)))
      have HG := Aside0.mk (show w.heap.size ≤ g from by simp at hg; omega)
      clear hp1 hb1 hg HNg HB0
      go_wp2_with fail
      refine (Join_nil H1.out).mono ?_; rintro e w2 ⟨rfl, rfl⟩
      go_wp2_with fail
      refine (Copy_L H1.out).mono ?_; rintro e w3 ⟨g2, rfl, hg2, hp3, hb3⟩
      have H3 := Aside0.mk (And.intro (H1.out.below hb3) hp3)
      have HG2 := Aside0.mk (show g2 ≠ g from by have := H1.out.pg.lt; omega)
      have B3 := Aside0.mk (below_step B1.out hb3)
      clear hp3 hb3 hg2 H1 B1
      go_wp2_with fail
      refine (show Calls Try.prog 18 #[.pointer (some ⟨g, 0, none⟩), .string key, .string value] w3 fun e w' => e = .returned (.int .i64 1) ∧ PGL w' g (by_ 3) [] ∧ BelX g w3 w' from by have := Put_any H3.out.1 key value; rw [HMay.out] at this; exact this).mono ?_; rintro e w4 ⟨rfl, hp4, hb4⟩
      have H4 := Aside0.mk (And.intro hp4 (H3.out.2.belX hb4 HG2.out))
      have B4 := Aside0.mk (BelX.below B3.out (Nat.le_trans HG.out (Nat.le_of_lt H3.out.1.pg.lt)) HG.out hb4)
      clear hp4 hb4 H3 B3
      go_wp2_with fail
      refine (quaysideref12_May.calls key value false _ (by rw [may_f, HM.out])).mono ?_; rintro e w5 ⟨rfl, ⟨nd, rfl⟩⟩
      have H5 := Aside0.mk (And.intro (H4.out.1.drewN nd) (H4.out.2.drewN nd))
      have B5 := Aside0.mk (pw_below_drewN B4.out nd)
      clear H4 B4
      go_wp2_with fail
      refine (Len_L H5.out.2).mono ?_; rintro e wA ⟨rfl, rfl⟩
      go_wp2_with fail
      refine (awake_ok _).mono ?_; rintro e w6 ⟨rfl, hb6⟩
      have B6 := Aside0.mk (below_step B5.out hb6)
      clear hb6 B5 H5
      go_wp2_with fail
      go_ret
      exact ⟨rfl, B6.out⟩
    | true =>
      rw [hm] at HMay
      have HM := Aside0.mk hm
      clear hm
      go_enter Try.func8, Try.ntmps8
      go_wp2
      refine wp_loop_rounds 3 ?_
      rw [rounds_succ]
      go_wp2_with (first | (go_at_call 19; ((with_reducible refine (At_no (NG.nil _) _).mono ?_); rintro e w' ⟨rfl, rfl⟩)) | (go_at_call 26; ((with_reducible refine (Find_no (NG.nil _) _).mono ?_); rintro e w' ⟨rfl, rfl⟩)) | (go_at_call 22; ((with_reducible refine (Split_no (NG.nil _) _).mono ?_); rintro e w' ⟨rfl, rfl⟩)) | (go_at_call 12; ((with_reducible refine (Bytes_no (NG.nil _)).mono ?_); rintro e w' ⟨rfl, rfl⟩)) | (go_at_call 27; ((with_reducible refine (Kind_no (NG.nil _)).mono ?_); rintro e w' ⟨rfl, rfl⟩)) | (go_at_call 21; ((with_reducible refine (Len_no (NG.nil _)).mono ?_); rintro e w' ⟨rfl, rfl⟩)) | (go_at_call 17; ((with_reducible refine (Free_no (NG.nil _)).mono ?_); rintro e w' ⟨rfl, rfl⟩)) | (go_at_call 18; ((with_reducible refine (Put_no (NG.nil _) _ _).mono ?_); rintro e w' ⟨rfl, rfl⟩)) | (go_at_call 20; ((with_reducible refine (Drop_no (NG.nil _) _).mono ?_); rintro e w' ⟨rfl, rfl⟩)) | (go_at_call 23; ((with_reducible refine (Join_no (NG.nil _)).mono ?_); rintro e w' ⟨rfl, rfl⟩)) | (go_at_call 28; ((with_reducible refine (Copy_no (NG.nil _)).mono ?_); rintro e w' ⟨rfl, rfl⟩)))
      rw [rounds_succ]
      go_wp2_with (first | (go_at_call 19; ((with_reducible refine (At_no (HNg.out _) _).mono ?_); rintro e w' ⟨rfl, rfl⟩)) | (go_at_call 26; ((with_reducible refine (Find_no (HNg.out _) _).mono ?_); rintro e w' ⟨rfl, rfl⟩)) | (go_at_call 22; ((with_reducible refine (Split_no (HNg.out _) _).mono ?_); rintro e w' ⟨rfl, rfl⟩)) | (go_at_call 12; ((with_reducible refine (Bytes_no (HNg.out _)).mono ?_); rintro e w' ⟨rfl, rfl⟩)) | (go_at_call 27; ((with_reducible refine (Kind_no (HNg.out _)).mono ?_); rintro e w' ⟨rfl, rfl⟩)) | (go_at_call 21; ((with_reducible refine (Len_no (HNg.out _)).mono ?_); rintro e w' ⟨rfl, rfl⟩)) | (go_at_call 17; ((with_reducible refine (Free_no (HNg.out _)).mono ?_); rintro e w' ⟨rfl, rfl⟩)) | (go_at_call 18; ((with_reducible refine (Put_no (HNg.out _) _ _).mono ?_); rintro e w' ⟨rfl, rfl⟩)) | (go_at_call 20; ((with_reducible refine (Drop_no (HNg.out _) _).mono ?_); rintro e w' ⟨rfl, rfl⟩)) | (go_at_call 23; ((with_reducible refine (Join_no (HNg.out _)).mono ?_); rintro e w' ⟨rfl, rfl⟩)) | (go_at_call 28; ((with_reducible refine (Copy_no (HNg.out _)).mono ?_); rintro e w' ⟨rfl, rfl⟩)))
      rw [rounds_succ]
      go_wp2_with fail
      refine (New_ok _ 3 (by omega) (by omega)).mono ?_; rintro e w1 ⟨g, rfl, hg, hp1, hb1⟩
      have H1 := Aside0.mk hp1
      have B1 := Aside0.mk (Below.trans (HB0.out _) (hb1.mono (by simp; omega)))
      have HG := Aside0.mk (show w.heap.size ≤ g from by simp at hg; omega)
      clear hp1 hb1 hg HNg HB0
      go_wp2_with fail
      refine (Join_nil H1.out).mono ?_; rintro e w2 ⟨rfl, rfl⟩
      go_wp2_with fail
      refine (Copy_L H1.out).mono ?_; rintro e w3 ⟨g2, rfl, hg2, hp3, hb3⟩
      have H3 := Aside0.mk (And.intro (H1.out.below hb3) hp3)
      have HG2 := Aside0.mk (show g2 ≠ g from by have := H1.out.pg.lt; omega)
      have B3 := Aside0.mk (below_step B1.out hb3)
      clear hp3 hb3 hg2 H1 B1
      go_wp2_with fail
      refine (show Calls Try.prog 18 #[.pointer (some ⟨g, 0, none⟩), .string key, .string value] w3 fun e w' => e = .returned (.int .i64 0) ∧ PGL w' g (by_ 3) [⟨key, value⟩] ∧ BelX g w3 w' from by have := Put_any H3.out.1 key value; rw [HMay.out] at this; exact this).mono ?_; rintro e w4 ⟨rfl, hp4, hb4⟩
      have H4 := Aside0.mk (And.intro hp4 (H3.out.2.belX hb4 HG2.out))
      have B4 := Aside0.mk (BelX.below B3.out (Nat.le_trans HG.out (Nat.le_of_lt H3.out.1.pg.lt)) HG.out hb4)
      clear hp4 hb4 H3 B3
      go_wp2_with fail
      refine (quaysideref12_May.calls key value true _ (by rw [may_f, HM.out])).mono ?_; rintro e w5 ⟨rfl, ⟨nd, rfl⟩⟩
      have H5 := Aside0.mk (And.intro (H4.out.1.drewN nd) (H4.out.2.drewN nd))
      have B5 := Aside0.mk (pw_below_drewN B4.out nd)
      clear H4 B4
      go_wp2_with fail
      refine (Len_L H5.out.2).mono ?_; rintro e wA ⟨rfl, rfl⟩
      go_wp2_with fail
      refine (Len_L H5.out.1).mono ?_; rintro e wB ⟨rfl, rfl⟩
      go_wp2_with fail
      refine (awake_ok _).mono ?_; rintro e w6 ⟨rfl, hb6⟩
      have B6 := Aside0.mk (below_step B5.out hb6)
      clear hb6 B5 H5
      go_wp2_with fail
      go_ret
      exact ⟨rfl, B6.out⟩
  · by_cases h2 : 80 < key.size
    · have d1 : decide (80 < (key.size : Int)) = true := decide_eq_true (by omega)
      have d1' : decide (80 < key.size) = true := decide_eq_true (by omega)
      clear h1
      go_enter Try.func8, Try.ntmps8
      go_wp2_with fail
      refine (awake_ok _).mono ?_; rintro e w6 ⟨rfl, hb6⟩
      go_wp2_with fail
      go_ret
      exact ⟨rfl, hb6⟩
    · have d1 : decide (80 < (key.size : Int)) = false := decide_eq_false (by omega)
      have d1' : decide (80 < key.size) = false := decide_eq_false (by omega)
      have d2 : decide (20 < (value.size : Int)) = true := decide_eq_true (by omega)
      have d2' : decide (20 < value.size) = true := decide_eq_true (by omega)
      clear h1
      go_enter Try.func8, Try.ntmps8
      go_wp2_with fail
      refine (awake_ok _).mono ?_; rintro e w6 ⟨rfl, hb6⟩
      go_wp2_with fail
      go_ret
      exact ⟨rfl, hb6⟩
end Go.Proofs.Ytinbppcfdmbclaa.Pg
