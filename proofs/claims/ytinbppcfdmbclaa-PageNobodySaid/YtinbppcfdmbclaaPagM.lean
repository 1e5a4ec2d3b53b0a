/- A page's Put where there is room, walked: the cells that it leaves. No condition beyond those that each theorem names. -/
import Derived.Test.YtinbppcfdmbclaaPagL
namespace Go.Proofs.Ytinbppcfdmbclaa.Pg
open Go.RowKit Go.Proofs.YtinbppcfdmbclaaW.PrintWords Go.Proofs.YtinbppcfdmbclaaW.PrintLast Go.Proofs.YtinbppcfdmbclaaW.PrintMore
set_option linter.unusedVariables false
set_option linter.unusedSimpArgs false
theorem app_data (a b : ByteArray) : (a ++ b).data.toList = a.data.toList ++ b.data.toList := by simp
/-- the cells ahead are cells -/
theorem ahead_cells {L : List S66} (h : Cells L) (key : ByteArray) : Cells (aheadL L key) := by
  refine ⟨?_, fun c hc => h.each c (List.mem_of_mem_take hc), h.asc.sublist (List.take_sublist _ _)⟩
  have hf := h.fits
  unfold Fits at hf ⊢
  have h1 := total_take_le L (fN L key)
  have h2 : (L.take (fN L key)).length ≤ L.length := List.length_take_le' _ _
  unfold aheadL; omega
set_option maxHeartbeats 4000000 in
theorem Put_ok {w : World} {g : Nat} {kind : UInt8} {L : List S66} (h : PGL w g kind L) (key value : ByteArray) (hm : mayB key value = true) (hf : Fits (insL L key value)) : Calls Try.prog 18 #[.pointer (some ⟨g, 0, none⟩), .string key, .string value] w fun e w' => e = .returned (.int .i64 0) ∧ PGL w' g kind (insL L key value) ∧ BelX g w w' := by
  have HG := Aside0.mk (given_pg h.pg)
  have HC := Aside0.mk (page_cell.calls key value true w (by rw [cell_f, hm]))
  have H := Aside0.mk h
  have hfit := h.cells.fits
  unfold Fits at hfit
  have hkv := of_decide_eq_true hm
  have hi1 : (insL L key value).length = (aheadL L key).length + (behindL L key).length + 1 := by rw [insL, List.length_append, List.length_cons]; omega
  have hi2 : total (insL L key value) = total (aheadL L key) + total (behindL L key) + (key.size + value.size) := by rw [insL, total_append, total]; show _ + (key.size + value.size + _) = _; omega
  have HF := Aside0.mk (ins_cells h.cells key value hm hf)
  have HA := Aside0.mk (ahead_cells h.cells key)
  unfold Fits at hf
  rw [hi1, hi2] at hf
  have hal := ahead_len L key
  obtain ⟨A, hA⟩ : ∃ A, aheadL L key = A := ⟨_, rfl⟩
  obtain ⟨B, hB⟩ : ∃ B, behindL L key = B := ⟨_, rfl⟩
  have hins : insL L key value = A ++ ⟨key, value⟩ :: B := by rw [insL, hA, hB]
  rw [hins] at HF ⊢
  rw [hA] at HA hf hal
  rw [hB] at hf
  obtain ⟨n, hn⟩ : ∃ n, key.size + value.size = n := ⟨_, rfl⟩
  rw [hn] at hf hkv
  have hk8 : key.size ≤ 80 ∧ value.size ≤ 100 := by omega
  -- the tail of the walk, from 'opens' on
  have T : ∀ w0, PGL w0 g kind (A ++ B) → BelX g w w0 → True := fun _ _ _ => trivial
  clear h hm hins T
  cases ht : there L key with
  | false =>
    have e0 := parts_not ht
    rw [hA, hB] at e0
    have e1 := congrArg List.length e0
    have e2 := congrArg total e0
    rw [List.length_append] at e1
    rw [total_append] at e2
    have hd' : decide (248 - 2 * (L.length : Int) - (total L : Int) < 2 + ((key.size : Int) + (value.size : Int))) = false := decide_eq_false (by omega)
    have E0 := Aside0.mk e0
    have HK := Aside0.mk (And.intro hkv (And.intro hn (And.intro hal hf)))
    have hq : wrap64 ((fN L key : Int) - 1) = (fN L key : Int) - 1 := w64s _ (by omega) (by omega)
    clear e0 hi1 hi2 e1 e2 hA hB hal hf hn
    go_enter Try.func18, Try.ntmps18
    go_wp2_with fail
    refine HG.out.mono ?_; rintro e w' ⟨rfl, rfl⟩
    go_wp2_with fail
    refine HC.out.mono ?_; rintro e w1 ⟨rfl, ⟨nd, rfl⟩⟩
    have H1 := Aside0.mk (H.out.drewN nd)
    go_wp2_with fail
    refine (show Calls Try.prog 26 #[.pointer (some ⟨g, 0, none⟩), .string key] (w'.drewN nd) fun e w'' => e = .returned (.tuple #[.int .i64 (fN L key : Int), .bool false]) ∧ Below (w'.drewN nd).heap.size (w'.drewN nd) w'' from by have := Find_pg H1.out key; rwa [ht] at this).mono ?_; rintro e w2 ⟨rfl, hb2⟩
    have H2 := Aside0.mk (H1.out.below hb2)
    have HX2 := Aside0.mk (((BelX.refl g w').drewN nd).trans (BelX.of_below hb2))
    clear hb2 H1
    go_wp2_with fail
    refine (room_L H2.out).mono ?_; rintro e w3 ⟨rfl, hb3⟩
    have H3 := Aside0.mk (show PGL w3 g kind (A ++ B) from by have := H2.out.below hb3; rwa [E0.out] at this)
    have HX3 := Aside0.mk (HX2.out.trans (BelX.of_below hb3))
    clear hb3 HX2 H2
    go_wp2_with fail
    have HO := Aside0.mk (show Calls Try.prog 42 #[.pointer (some ⟨g, 0, none⟩), .int .i64 (fN L key : Int), .int .i64 ((key.size : Int) + (value.size : Int))] w3 fun e w' => e = .returned (.tuple #[]) ∧ ∃ X Y, X.length = n ∧ Y.length = 2 ∧ PG w' g (opened kind A B n X Y) ∧ BelX g w3 w' from by
      have := opens_L A B n H3.out (by have := HK.out; omega) (by have := HK.out; omega)
      rwa [HK.out.2.2.1, show (n : Int) = (key.size : Int) + (value.size : Int) from by have := HK.out; omega] at this)
    refine HO.out.mono ?_; rintro e w4 ⟨rfl, X, Y, hX, hY, hp4, hb4⟩
    have P4 := Aside0.mk hp4
    have XY := Aside0.mk (And.intro hX hY)
    have HX4 := Aside0.mk (HX3.out.trans hb4)
    clear hX hY hb4 HX3 H3 HO
    obtain ⟨e4, he4⟩ : ∃ e4, 256 - total A = e4 := ⟨_, rfl⟩
    have HFr := Aside0.mk (show Calls Try.prog 36 #[.pointer (some ⟨g, 0, none⟩), .int .i64 ((fN L key : Int) - 1)] w4 fun e w' => e = .returned (.int .i64 (e4 : Int)) ∧ w' = w4 from by
      have := from_any hp4 ((fN L key : Int) - 1) (by have := HK.out; omega)
      have e := opened_from kind A B n X Y HA.out
      rw [HK.out.2.2.1] at e
      rwa [e, he4] at this)
    obtain ⟨d4, hd4⟩ : ∃ d4, e4 - n = d4 := ⟨_, rfl⟩
    have HPt := Aside0.mk (show Calls Try.prog 43 #[.pointer (some ⟨g, 0, none⟩), .int .i64 (fN L key : Int), .int .i64 (d4 : Int), .int .i64 (key.size : Int)] w4 fun e w' => e = .returned (.tuple #[]) ∧ PG w' g (pointsB (opened kind A B n X Y) (8 + 2 * A.length) d4 key.size) ∧ BelX g w4 w' from
      points_pg hp4 (fN L key : Int) (8 + 2 * A.length) d4 key.size (by omega) (by have := HK.out; omega) (by have := HK.out; omega))
    obtain ⟨A1, n1, c1, hn1, hs1, hv1, hA1⟩ := sl g d4 e4 (by omega) (by omega)
    clear hv1
    have HE := Aside0.mk (show e4 ≤ 256 ∧ n ≤ e4 ∧ d4 + n = e4 ∧ n1 = n ∧ d4 = 256 - total A - n from by have := HK.out; omega)
    have HA1 := Aside0.mk hA1
    have HSz := Aside0.mk (show (key ++ value).size = n1 ∧ d4 + n1 ≤ 256 from by rw [ByteArray.size_append]; have := HE.out; have := HK.out; omega)
    have HFl := Aside0.mk (show 2 * (A.length + B.length + 1) + (total A + total B + (key.size + value.size)) ≤ 248 from by have := HK.out; omega)
    have q1 : (e4 : Int) - ((key.size : Int) + (value.size : Int)) = (d4 : Int) := by have := HE.out; have := HK.out; omega
    have hle4 : n ≤ e4 ∧ e4 ≤ 256 := ⟨HE.out.2.1, HE.out.1⟩
    clear hp4 he4 hd4 hn1 hA1
    go_wp2_with fail
    refine HFr.out.mono ?_; rintro e w5 ⟨rfl, rfl⟩
    go_wp2_with fail
    refine HPt.out.mono ?_; rintro e w6 ⟨rfl, hp6, hb6⟩
    have HX6 := Aside0.mk (HX4.out.trans hb6)
    obtain ⟨w7, hc7, hp7, hb7⟩ := copy_str_pg hp6 A1 d4 n1 c1 (key ++ value) HA1.out HSz.out.1 HSz.out.2
    have HR := Aside0.mk (show PGL w7 g kind (A ++ ⟨key, value⟩ :: B) from by
      refine ⟨?_, HF.out⟩
      have e := opened_fill kind A B ⟨key, value⟩ X Y (by rw [XY.out.1]; exact HK.out.2.1.symm) XY.out.2 HFl.out
      rw [show cz ⟨key, value⟩ = n from HK.out.2.1, ← HE.out.2.2.2.2] at e
      rw [app_data] at hp7
      rw [← e]; exact hp7)
    have HX7 := Aside0.mk (HX6.out.trans hb7)
    clear hp6 hb6 hp7 hb7 HX6 HX4 P4 HFr HPt
    go_wp2_with fail
    go_ret
    exact ⟨rfl, HR.out, HX7.out⟩
  | true =>
    obtain ⟨c, hc, e0, hget⟩ := parts_there ht
    rw [hA, hB] at e0
    have e1 := congrArg List.length e0
    have e2 := congrArg total e0
    rw [List.length_append, List.length_cons] at e1
    rw [total_append, total, cz, hc] at e2
    obtain ⟨hlt, hgk⟩ := List.getElem?_eq_some_iff.1 hget
    have hd' : decide (248 - 2 * (L.length : Int) - (total L : Int) + (2 + (key.size : Int) + (c.f1.size : Int)) < 2 + ((key.size : Int) + (value.size : Int))) = false := decide_eq_false (by omega)
    have HT := Aside0.mk (And.intro hgk hc)
    have hb1 : total L ≤ 248 := by omega
    have hb2 : c.f1.size ≤ 248 := by omega
    have E0 := Aside0.mk e0
    have HK := Aside0.mk (And.intro hkv (And.intro hn (And.intro hal hf)))
    have hq : wrap64 ((fN L key : Int) - 1) = (fN L key : Int) - 1 := w64s _ (by omega) (by omega)
    clear e0 hi1 hi2 e1 e2 hf hget hgk hc hA hB hal hn
    go_enter Try.func18, Try.ntmps18
    go_wp2_with fail
    refine HG.out.mono ?_; rintro e w' ⟨rfl, rfl⟩
    go_wp2_with fail
    refine HC.out.mono ?_; rintro e w1 ⟨rfl, ⟨nd, rfl⟩⟩
    have H1 := Aside0.mk (H.out.drewN nd)
    go_wp2_with fail
    refine (show Calls Try.prog 26 #[.pointer (some ⟨g, 0, none⟩), .string key] (w'.drewN nd) fun e w'' => e = .returned (.tuple #[.int .i64 (fN L key : Int), .bool true]) ∧ Below (w'.drewN nd).heap.size (w'.drewN nd) w'' from by have := Find_pg H1.out key; rwa [ht] at this).mono ?_; rintro e w2 ⟨rfl, hb2⟩
    have H2 := Aside0.mk (H1.out.below hb2)
    have HX2 := Aside0.mk (((BelX.refl g w').drewN nd).trans (BelX.of_below hb2))
    clear hb2 H1
    go_wp2_with fail
    refine (room_L H2.out).mono ?_; rintro e w2a ⟨rfl, hb3⟩
    have H2a := Aside0.mk (H2.out.below hb3)
    have HX2a := Aside0.mk (HX2.out.trans (BelX.of_below hb3))
    clear hb3 HX2 H2
    go_wp2_with fail
    refine (At_cell H2a.out _ hlt).mono ?_; rintro e w2b ⟨rfl, hb4⟩
    have H2b := Aside0.mk (show PGL w2b g kind (A ++ c :: B) from by have := H2a.out.below hb4; rwa [E0.out] at this)
    have HX2b := Aside0.mk (HX2a.out.trans (BelX.of_below hb4))
    clear hb4 HX2a H2a
    rw [HT.out.1, HT.out.2]
    go_wp2_with fail
    refine (show Calls Try.prog 41 #[.pointer (some ⟨g, 0, none⟩), .int .i64 (fN L key : Int)] w2b fun e w' => e = .returned (.tuple #[]) ∧ PGL w' g kind (A ++ B) ∧ BelX g w2b w' from by have := closes_L A B c H2b.out; rwa [HK.out.2.2.1] at this).mono ?_; rintro e w3 ⟨rfl, hp3, hb3⟩
    have H3 := Aside0.mk hp3
    have HX3 := Aside0.mk (HX2b.out.trans hb3)
    clear hp3 hb3 HX2b H2b
    go_wp2_with fail
    have HO := Aside0.mk (show Calls Try.prog 42 #[.pointer (some ⟨g, 0, none⟩), .int .i64 (fN L key : Int), .int .i64 ((key.size : Int) + (value.size : Int))] w3 fun e w' => e = .returned (.tuple #[]) ∧ ∃ X Y, X.length = n ∧ Y.length = 2 ∧ PG w' g (opened kind A B n X Y) ∧ BelX g w3 w' from by
      have := opens_L A B n H3.out (by have := HK.out; omega) (by have := HK.out; omega)
      rwa [HK.out.2.2.1, show (n : Int) = (key.size : Int) + (value.size : Int) from by have := HK.out; omega] at this)
    refine HO.out.mono ?_; rintro e w4 ⟨rfl, X, Y, hX, hY, hp4, hb4⟩
    have P4 := Aside0.mk hp4
    have XY := Aside0.mk (And.intro hX hY)
    have HX4 := Aside0.mk (HX3.out.trans hb4)
    clear hX hY hb4 HX3 H3 HO
    obtain ⟨e4, he4⟩ : ∃ e4, 256 - total A = e4 := ⟨_, rfl⟩
    have HFr := Aside0.mk (show Calls Try.prog 36 #[.pointer (some ⟨g, 0, none⟩), .int .i64 ((fN L key : Int) - 1)] w4 fun e w' => e = .returned (.int .i64 (e4 : Int)) ∧ w' = w4 from by
      have := from_any hp4 ((fN L key : Int) - 1) (by have := HK.out; omega)
      have e := opened_from kind A B n X Y HA.out
      rw [HK.out.2.2.1] at e
      rwa [e, he4] at this)
    obtain ⟨d4, hd4⟩ : ∃ d4, e4 - n = d4 := ⟨_, rfl⟩
    have HPt := Aside0.mk (show Calls Try.prog 43 #[.pointer (some ⟨g, 0, none⟩), .int .i64 (fN L key : Int), .int .i64 (d4 : Int), .int .i64 (key.size : Int)] w4 fun e w' => e = .returned (.tuple #[]) ∧ PG w' g (pointsB (opened kind A B n X Y) (8 + 2 * A.length) d4 key.size) ∧ BelX g w4 w' from
      points_pg hp4 (fN L key : Int) (8 + 2 * A.length) d4 key.size (by omega) (by have := HK.out; omega) (by have := HK.out; omega))
    obtain ⟨A1, n1, c1, hn1, hs1, hv1, hA1⟩ := sl g d4 e4 (by omega) (by omega)
    clear hv1
    have HE := Aside0.mk (show e4 ≤ 256 ∧ n ≤ e4 ∧ d4 + n = e4 ∧ n1 = n ∧ d4 = 256 - total A - n from by have := HK.out; omega)
    have HA1 := Aside0.mk hA1
    have HSz := Aside0.mk (show (key ++ value).size = n1 ∧ d4 + n1 ≤ 256 from by rw [ByteArray.size_append]; have := HE.out; have := HK.out; omega)
    have HFl := Aside0.mk (show 2 * (A.length + B.length + 1) + (total A + total B + (key.size + value.size)) ≤ 248 from by have := HK.out; omega)
    have q1 : (e4 : Int) - ((key.size : Int) + (value.size : Int)) = (d4 : Int) := by have := HE.out; have := HK.out; omega
    have hle4 : n ≤ e4 ∧ e4 ≤ 256 := ⟨HE.out.2.1, HE.out.1⟩
    clear hp4 he4 hd4 hn1 hA1
    go_wp2_with fail
    refine HFr.out.mono ?_; rintro e w5 ⟨rfl, rfl⟩
    go_wp2_with fail
    refine HPt.out.mono ?_; rintro e w6 ⟨rfl, hp6, hb6⟩
    have HX6 := Aside0.mk (HX4.out.trans hb6)
    obtain ⟨w7, hc7, hp7, hb7⟩ := copy_str_pg hp6 A1 d4 n1 c1 (key ++ value) HA1.out HSz.out.1 HSz.out.2
    have HR := Aside0.mk (show PGL w7 g kind (A ++ ⟨key, value⟩ :: B) from by
      refine ⟨?_, HF.out⟩
      have e := opened_fill kind A B ⟨key, value⟩ X Y (by rw [XY.out.1]; exact HK.out.2.1.symm) XY.out.2 HFl.out
      rw [show cz ⟨key, value⟩ = n from HK.out.2.1, ← HE.out.2.2.2.2] at e
      rw [app_data] at hp7
      rw [← e]; exact hp7)
    have HX7 := Aside0.mk (HX6.out.trans hb7)
    clear hp6 hb6 hp7 hb7 HX6 HX4 P4 HFr HPt
    go_wp2_with fail
    go_ret
    exact ⟨rfl, HR.out, HX7.out⟩
end Go.Proofs.Ytinbppcfdmbclaa.Pg
