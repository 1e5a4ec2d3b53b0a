/- A page's Put, walked: the cells that it leaves. No condition beyond those that each theorem names. -/
import Derived.Test.YtinbppcfdmbclaaPagK
namespace Go.Proofs.Ytinbppcfdmbclaa.Pg
open Go.RowKit Go.Proofs.YtinbppcfdmbclaaW.PrintWords Go.Proofs.YtinbppcfdmbclaaW.PrintLast Go.Proofs.YtinbppcfdmbclaaW.PrintMore
set_option linter.unusedVariables false
set_option linter.unusedSimpArgs false
theorem BelX.drewN {g : Nat} {a b : World} (h : BelX g a b) (n : Nat) : BelX g a (b.drewN n) := h.trans (BelX.of_below (pw_below_drewN (Below.refl _ _) n))
theorem PGL.drewN {w : World} {g : Nat} {kind : UInt8} {L : List S66} (h : PGL w g kind L) (n : Nat) : PGL (w.drewN n) g kind L := h.below (pw_below_drewN (Below.refl _ _) n)
set_option maxHeartbeats 4000000 in
theorem Put_arg {w : World} {g : Nat} {kind : UInt8} {L : List S66} (h : PGL w g kind L) (key value : ByteArray) (hm : mayB key value = false) : Calls Try.prog 18 #[.pointer (some ⟨g, 0, none⟩), .string key, .string value] w fun e w' => e = .returned (.int .i64 1) ∧ Below w.heap.size w w' := by
  have HG := Aside0.mk (given_pg h.pg)
  have HC := Aside0.mk (page_cell.calls key value false w (by rw [cell_f, hm]))
  clear h hm
  go_enter Try.func18, Try.ntmps18
  go_wp2_with fail
  refine HG.out.mono ?_; rintro e w' ⟨rfl, rfl⟩
  go_wp2_with fail
  refine HC.out.mono ?_; rintro e w' ⟨rfl, ⟨nd, rfl⟩⟩
  go_wp2_with fail
  go_ret
  exact ⟨rfl, pw_below_drewN (Below.refl _ _) _⟩
theorem room_L {w : World} {g : Nat} {kind : UInt8} {L : List S66} (h : PGL w g kind L) : Calls Try.prog 35 #[.pointer (some ⟨g, 0, none⟩)] w fun e w' => e = .returned (.int .i64 (248 - 2 * (L.length : Int) - (total L : Int))) ∧ Below w.heap.size w w' := by
  have := room_pg h.pg
  rwa [roomB, enc_len _ _ h.cells.fits, enc_used _ _ h.cells.fits] at this
set_option maxHeartbeats 4000000 in
theorem Put_full {w : World} {g : Nat} {kind : UInt8} {L : List S66} (h : PGL w g kind L) (key value : ByteArray) (hm : mayB key value = true) (hf : ¬ Fits (insL L key value)) : Calls Try.prog 18 #[.pointer (some ⟨g, 0, none⟩), .string key, .string value] w fun e w' => e = .returned (.int .i64 2) ∧ Below w.heap.size w w' := by
  have HG := Aside0.mk (given_pg h.pg)
  have HC := Aside0.mk (page_cell.calls key value true w (by rw [cell_f, hm]))
  have H := Aside0.mk h
  have hfit := h.cells.fits
  unfold Fits at hfit
  have hkv := of_decide_eq_true hm
  have hi1 : (insL L key value).length = (aheadL L key).length + (behindL L key).length + 1 := by rw [insL, List.length_append, List.length_cons]; omega
  have hi2 : total (insL L key value) = total (aheadL L key) + total (behindL L key) + (key.size + value.size) := by rw [insL, total_append, total]; show _ + (key.size + value.size + _) = _; omega
  unfold Fits at hf
  clear h hm
  cases ht : there L key with
  | false =>
    have e0 := parts_not ht
    have e1 := congrArg List.length e0
    have e2 := congrArg total e0
    rw [List.length_append] at e1
    rw [total_append] at e2
    have hfull : ¬ 2 + ((key.size : Int) + (value.size : Int)) ≤ 248 - 2 * (L.length : Int) - (total L : Int) := by omega
    have hd : decide (2 + ((key.size : Int) + (value.size : Int)) > 248 - 2 * (L.length : Int) - (total L : Int)) = true := decide_eq_true (by omega)
    have hd' : decide (248 - 2 * (L.length : Int) - (total L : Int) < 2 + ((key.size : Int) + (value.size : Int))) = true := decide_eq_true (by omega)
    clear e0 hi1 hi2 e1 e2 hf
    go_enter Try.func18, Try.ntmps18
    go_wp2_with fail
    refine HG.out.mono ?_; rintro e w' ⟨rfl, rfl⟩
    go_wp2_with fail
    refine HC.out.mono ?_; rintro e w1 ⟨rfl, ⟨nd, rfl⟩⟩
    have H1 := Aside0.mk (H.out.drewN nd)
    go_wp2_with fail
    refine (show Calls Try.prog 26 #[.pointer (some ⟨g, 0, none⟩), .string key] (w'.drewN nd) fun e w'' => e = .returned (.tuple #[.int .i64 (fN L key : Int), .bool false]) ∧ Below (w'.drewN nd).heap.size (w'.drewN nd) w'' from by have := Find_pg H1.out key; rwa [ht] at this).mono ?_; rintro e w2 ⟨rfl, hb2⟩
    have H2 := Aside0.mk (H1.out.below hb2)
    have HB2 := Aside0.mk (below_step (pw_below_drewN (Below.refl w'.heap.size w') nd) hb2)
    clear hb2 H1
    go_wp2_with fail
    refine (room_L H2.out).mono ?_; rintro e w3 ⟨rfl, hb3⟩
    have HB3 := Aside0.mk (below_step HB2.out hb3)
    clear hb3 HB2
    go_wp2_with fail
    go_ret
    exact ⟨rfl, HB3.out⟩
  | true =>
    obtain ⟨c, hc, e0, hget⟩ := parts_there ht
    have e1 := congrArg List.length e0
    have e2 := congrArg total e0
    rw [List.length_append, List.length_cons] at e1
    rw [total_append, total, cz, hc] at e2
    obtain ⟨hlt, hgk⟩ := List.getElem?_eq_some_iff.1 hget
    have hd' : decide (248 - 2 * (L.length : Int) - (total L : Int) + (2 + (key.size : Int) + (c.f1.size : Int)) < 2 + ((key.size : Int) + (value.size : Int))) = true := decide_eq_true (by omega)
    have HT := Aside0.mk (And.intro hgk hc)
    have hb1 : total L ≤ 248 := by omega
    have hb2 : c.f1.size ≤ 248 := by omega
    clear e0 hi1 hi2 e1 e2 hf hget hgk hc
    go_enter Try.func18, Try.ntmps18
    go_wp2_with fail
    refine HG.out.mono ?_; rintro e w' ⟨rfl, rfl⟩
    go_wp2_with fail
    refine HC.out.mono ?_; rintro e w1 ⟨rfl, ⟨nd, rfl⟩⟩
    have H1 := Aside0.mk (H.out.drewN nd)
    go_wp2_with fail
    refine (show Calls Try.prog 26 #[.pointer (some ⟨g, 0, none⟩), .string key] (w'.drewN nd) fun e w'' => e = .returned (.tuple #[.int .i64 (fN L key : Int), .bool true]) ∧ Below (w'.drewN nd).heap.size (w'.drewN nd) w'' from by have := Find_pg H1.out key; rwa [ht] at this).mono ?_; rintro e w2 ⟨rfl, hb2⟩
    have H2 := Aside0.mk (H1.out.below hb2)
    have HB2 := Aside0.mk (below_step (pw_below_drewN (Below.refl w'.heap.size w') nd) hb2)
    clear hb2 H1
    go_wp2_with fail
    refine (room_L H2.out).mono ?_; rintro e w3 ⟨rfl, hb3⟩
    have H3 := Aside0.mk (H2.out.below hb3)
    have HB3 := Aside0.mk (below_step HB2.out hb3)
    clear hb3 HB2 H2
    go_wp2_with fail
    refine (At_cell H3.out _ hlt).mono ?_; rintro e w4 ⟨rfl, hb4⟩
    have HB4 := Aside0.mk (below_step HB3.out hb4)
    clear hb4 HB3
    rw [HT.out.1, HT.out.2]
    go_wp2_with fail
    go_ret
    exact ⟨rfl, HB4.out⟩
end Go.Proofs.Ytinbppcfdmbclaa.Pg
