/- A page's New, Drop and Copy, walked. No condition beyond those that each theorem names. -/
import Derived.Test.YtinbppcfdmbclaaPagM
namespace Go.Proofs.Ytinbppcfdmbclaa.Pg
open Go.RowKit Go.Proofs.YtinbppcfdmbclaaW.PrintWords Go.Proofs.YtinbppcfdmbclaaW.PrintLast Go.Proofs.YtinbppcfdmbclaaW.PrintMore
set_option linter.unusedVariables false
set_option linter.unusedSimpArgs false
instance (L : List S66) : Decidable (Fits L) := inferInstanceAs (Decidable (_ ≤ _))
/-- what Put answers, and the cells that it leaves -/
def putR (L : List S66) (key value : ByteArray) : Int × List S66 := if mayB key value = true then (if Fits (insL L key value) then (0, insL L key value) else (2, L)) else (1, L)
theorem Put_any {w : World} {g : Nat} {kind : UInt8} {L : List S66} (h : PGL w g kind L) (key value : ByteArray) : Calls Try.prog 18 #[.pointer (some ⟨g, 0, none⟩), .string key, .string value] w fun e w' => e = .returned (.int .i64 (putR L key value).1) ∧ PGL w' g kind (putR L key value).2 ∧ BelX g w w' := by
  unfold putR
  by_cases hm : mayB key value = true
  · rw [if_pos hm]
    by_cases hf : Fits (insL L key value)
    · rw [if_pos hf]; exact Put_ok h key value hm hf
    · rw [if_neg hf]; exact (Put_full h key value hm hf).mono fun e w' ⟨h1, h2⟩ => ⟨h1, h.below h2, BelX.of_below h2⟩
  · rw [if_neg hm]; exact (Put_arg h key value (by simpa using hm)).mono fun e w' ⟨h1, h2⟩ => ⟨h1, h.below h2, BelX.of_below h2⟩
/-- what Drop answers, and the cells that it leaves -/
def dropR (L : List S66) (key : ByteArray) : Int × List S66 := if there L key = true then (0, aheadL L key ++ behindL L key) else (3, L)
set_option maxHeartbeats 4000000 in
theorem Drop_any {w : World} {g : Nat} {kind : UInt8} {L : List S66} (h : PGL w g kind L) (key : ByteArray) : Calls Try.prog 20 #[.pointer (some ⟨g, 0, none⟩), .string key] w fun e w' => e = .returned (.int .i64 (dropR L key).1) ∧ PGL w' g kind (dropR L key).2 ∧ BelX g w w' := by
  have HG := Aside0.mk (given_pg h.pg)
  have H := Aside0.mk h
  clear h
  cases ht : there L key with
  | false =>
    have HF := Aside0.mk (show Calls Try.prog 26 #[.pointer (some ⟨g, 0, none⟩), .string key] w fun e w' => e = .returned (.tuple #[.int .i64 (fN L key : Int), .bool false]) ∧ Below w.heap.size w w' from by have := Find_pg H.out key; rwa [ht] at this)
    have HD := Aside0.mk (show dropR L key = (3, L) from by rw [dropR, if_neg (by simp [ht])])
    clear ht
    go_enter Try.func20, Try.ntmps20
    go_wp2_with fail
    refine HG.out.mono ?_; rintro e w' ⟨rfl, rfl⟩
    go_wp2_with fail
    refine HF.out.mono ?_; rintro e w2 ⟨rfl, hb2⟩
    have HB := Aside0.mk hb2
    clear hb2
    go_wp2_with fail
    go_ret
    exact ⟨by rw [HD.out]; rfl, by rw [HD.out]; exact H.out.below HB.out, BelX.of_below HB.out⟩
  | true =>
    have HF := Aside0.mk (show Calls Try.prog 26 #[.pointer (some ⟨g, 0, none⟩), .string key] w fun e w' => e = .returned (.tuple #[.int .i64 (fN L key : Int), .bool true]) ∧ Below w.heap.size w w' from by have := Find_pg H.out key; rwa [ht] at this)
    have HD := Aside0.mk (show dropR L key = (0, aheadL L key ++ behindL L key) from by rw [dropR, if_pos ht])
    have HT := Aside0.mk ht
    clear ht
    go_enter Try.func20, Try.ntmps20
    go_wp2_with fail
    refine HG.out.mono ?_; rintro e w' ⟨rfl, rfl⟩
    go_wp2_with fail
    refine HF.out.mono ?_; rintro e w2 ⟨rfl, hb2⟩
    have HB := Aside0.mk hb2
    clear hb2
    go_wp2_with fail
    refine (show Calls Try.prog 41 #[.pointer (some ⟨g, 0, none⟩), .int .i64 (fN L key : Int)] w2 fun e w' => e = .returned (.tuple #[]) ∧ PGL w' g kind (aheadL L key ++ behindL L key) ∧ BelX g w2 w' from by
      obtain ⟨c, -, e0, -⟩ := parts_there HT.out
      have h2 := H.out.below HB.out
      rw [e0] at h2
      have := closes_L _ _ c h2
      rwa [ahead_len] at this).mono ?_; rintro e w3 ⟨rfl, hp3, hb3⟩
    have HP := Aside0.mk (And.intro hp3 hb3)
    clear hp3 hb3
    go_wp2_with fail
    go_ret
    exact ⟨by rw [HD.out]; rfl, by rw [HD.out]; exact HP.out.1, (BelX.of_below HB.out).trans HP.out.2⟩
set_option maxHeartbeats 4000000 in
theorem New_bad (w : World) (kind : Int) (hk : kind < 1 ∨ 255 < kind) : Calls Try.prog 16 #[.int .i64 kind] w fun e w' => e = .returned (.tuple #[.pointer none, .int .i64 1]) ∧ w' = w := by
  by_cases h0 : kind < 1
  · have c0 : decide (kind < 1) = true := decide_eq_true h0
    go_enter Try.func16, Try.ntmps16
    go_wp2
    exact bodyPost_ret (results_tmp2 rfl _ _ _) rfl ⟨rfl, rfl⟩
  · have c0 : decide (kind < 1) = false := decide_eq_false h0
    have c1 : decide (255 < kind) = true := decide_eq_true (by omega)
    have c2 : decide (kind > 255) = true := decide_eq_true (by omega)
    go_enter Try.func16, Try.ntmps16
    go_wp2
    exact bodyPost_ret (results_tmp2 rfl _ _ _) rfl ⟨rfl, rfl⟩
/-- a page's cells before it is made -/
def zero58 : Array Value := ((List.replicate 256 (0 : UInt8)).map u8 ++ [Value.bool false]).toArray
def made58 : Array Value := (pgL (List.replicate 256 0)).toArray
theorem zero58_run (w : World) : (zeroValue 58).run Try.prog w = .ok (.agg zero58) w := by kernel_rfl
theorem pgz_size (l : List UInt8) (hl : l.length = 256) (v : Value) : (l.map u8 ++ [v]).toArray.size = 257 := by simp [hl]
theorem zero58_size : zero58.size = 257 := pgz_size _ List.length_replicate _
theorem pgz_set (l : List UInt8) (hl : l.length = 256) (v v' : Value) : (l.map u8 ++ [v]).toArray.setIfInBounds 256 v' = (l.map u8 ++ [v']).toArray := by
  rw [List.setIfInBounds_toArray, List.set_append_right _ _ (by simp [hl])]
  simp [hl]
theorem zero58_set : zero58.setIfInBounds 256 (.bool true) = made58 := pgz_set _ List.length_replicate _ _
theorem pg_alloc (w : World) (l : List UInt8) (hl : l.length = 256) : PG (w.alloc (.cells (pgL l).toArray 58)) w.heap.size l := ⟨by rw [heap_alloc_new], hl⟩
theorem pgl_set0 (l : List UInt8) (hl : l.length = 256) (x : UInt8) : (pgL l).toArray.setIfInBounds 0 (u8 x) = (pgL (l.set 0 x)).toArray := by
  rw [List.setIfInBounds_toArray, pgL, List.set_append_left _ _ (by simp [hl]), pgL, List.map_set]
theorem made58_pg (w : World) : PG (w.alloc (.cells made58 58)) w.heap.size (List.replicate 256 0) := pg_alloc w _ List.length_replicate
theorem enc_nil (kind : UInt8) : (List.replicate 256 (0 : UInt8)).set 0 kind = encB kind [] := by kernel_rfl
theorem made58_set (w : World) (kind : UInt8) : PG (w.alloc (.cells (made58.setIfInBounds 0 (u8 kind)) 58)) w.heap.size (encB kind []) := by
  rw [made58, pgl_set0 _ List.length_replicate, enc_nil]
  exact pg_alloc w _ (encB_length kind [] (by show 0 ≤ 248; omega))
theorem cells_nil : Cells [] := ⟨by show 0 ≤ 248; omega, fun _ h => by simp at h, List.Pairwise.nil⟩
set_option maxRecDepth 100000 in
set_option maxHeartbeats 4000000 in
theorem New_ok (w : World) (kind : Nat) (h1 : 1 ≤ kind) (h2 : kind ≤ 255) : Calls Try.prog 16 #[.int .i64 (kind : Int)] w fun e w' => ∃ g, e = .returned (.tuple #[.pointer (some ⟨g, 0, none⟩), .int .i64 0]) ∧ w.heap.size ≤ g ∧ PGL w' g (by_ kind) [] ∧ Below w.heap.size w w' := by
  have c0 : decide ((kind : Int) < 1) = false := decide_eq_false (by omega)
  have c1 : decide (255 < (kind : Int)) = false := decide_eq_false (by omega)
  have c2 : decide ((kind : Int) > 255) = false := decide_eq_false (by omega)
  have hz := zero58_run w
  have hs : (zero58.size < 257) = False := eq_false (by rw [zero58_size]; omega)
  have hst := zero58_set
  have HP := Aside0.mk (made58_pg w)
  have HR := Aside0.mk (show PGL (w.alloc (.cells (made58.setIfInBounds 0 (.int .u8 ((kind : Int) % 256))) 58)) w.heap.size (by_ kind) [] from by
    refine ⟨?_, cells_nil⟩
    rw [← by_nat]
    exact made58_set w (by_ kind))
  have HB := Aside0.mk (show Below w.heap.size w (w.alloc (.cells (made58.setIfInBounds 0 (.int .u8 ((kind : Int) % 256))) 58)) from (Below.refl _ _).alloc (Nat.le_refl _) _)
  have hcl := HP.out.cell 0 (by omega)
  have hfr := HP.out.frozen 0
  have hw8 : IntKind.u8.wrap (kind : Int) = (kind : Int) % 256 := wr8 _
  clear h1 h2
  go_enter Try.func16, Try.ntmps16
  go_wp2
  exact bodyPost_ret (results_tmp2 rfl _ _ _) rfl ⟨_, rfl, Nat.le_refl _, HR.out, HB.out⟩
end Go.Proofs.Ytinbppcfdmbclaa.Pg
