/- Small functions of a page, walked: what they read of a page's bytes. No condition beyond those that each theorem names. -/
import Derived.Test.YtinbppcfdmbclaaPgx0
import Derived.Laws.BitsLemmas
namespace Go.Proofs.Ytinbppcfdmbclaa.Pg
open Go.RowKit Go.Proofs.YtinbppcfdmbclaaW.PrintWords Go.Proofs.YtinbppcfdmbclaaW.PrintLast Go.Proofs.YtinbppcfdmbclaaW.PrintMore
set_option linter.unusedVariables false
set_option linter.unusedSimpArgs false
def u8 (x : UInt8) : Value := .int .u8 (x.toNat : Int)
/-- a page's cells: its bytes, and that it was made -/
def pgL (b : List UInt8) : List Value := b.map u8 ++ [.bool true]
/-- a page of such bytes lies in a block of its own -/
structure PG (w : World) (g : Nat) (b : List UInt8) : Prop where
  blk : w.heap[g]? = some (.cells (pgL b).toArray 58 (0, 0))
  len : b.length = 256
/-- all lies as it lay but one block -/
structure BelX (g : Nat) (w w' : World) : Prop where
  os : w'.os = w.os
  tape : w'.tape = w.tape
  output : w'.output = w.output
  size : w.heap.size ≤ w'.heap.size
  block : ∀ k, k < w.heap.size → k ≠ g → w'.heap[k]? = w.heap[k]?
theorem BelX.refl (g : Nat) (w : World) : BelX g w w := ⟨rfl, rfl, rfl, Nat.le_refl _, fun _ _ _ => rfl⟩
theorem BelX.trans {g : Nat} {a b c : World} (h : BelX g a b) (k : BelX g b c) : BelX g a c :=
  ⟨k.os.trans h.os, k.tape.trans h.tape, k.output.trans h.output, Nat.le_trans h.size k.size, fun i hi hg => (k.block i (Nat.lt_of_lt_of_le hi h.size) hg).trans (h.block i hi hg)⟩
theorem BelX.of_below {g : Nat} {a b : World} (h : Below a.heap.size a b) : BelX g a b := ⟨h.os, h.tape, h.output, h.size, fun i hi _ => h.block i hi⟩
theorem BelX.below {g B : Nat} {w0 a b : World} (h : Below B w0 a) (hB : B ≤ a.heap.size) (hg : B ≤ g) (k : BelX g a b) : Below B w0 b :=
  h.trans ⟨k.os, k.tape, k.output, k.size, fun i hi => k.block i (by omega) (by omega)⟩
theorem BelX.set {g : Nat} {a b : World} (h : BelX g a b) (i : Nat) (v : Value) : BelX g a (b.setCell ⟨g, i, none⟩ v) :=
  ⟨h.os, h.tape, h.output, by simpa [World.setCell] using h.size, fun k hk hg => (Below.heap_setCell b ⟨g, i, none⟩ v k hg).trans (h.block k hk hg)⟩
def at_ (b : List UInt8) (i : Nat) : Nat := (b.getD i 0).toNat
theorem at_lt (b : List UInt8) (i : Nat) : at_ b i < 256 := by unfold at_; exact (b.getD i 0).toNat_lt
theorem PG.cell {w : World} {g : Nat} {b : List UInt8} (h : PG w g b) (i : Nat) (hi : i < 256) : w.cell? ⟨g, i, none⟩ = some (.int .u8 (at_ b i : Int)) := by
  have hl := h.len
  simp only [World.cell?, h.blk]
  simp [pgL, at_, u8, List.getElem?_append, hl, hi, List.getD_eq_getElem?_getD]
theorem PG.made {w : World} {g : Nat} {b : List UInt8} (h : PG w g b) : w.cell? ⟨g, 256, none⟩ = some (.bool true) := by
  have hl := h.len
  simp only [World.cell?, h.blk]
  simp [pgL, List.getElem?_append, hl]
theorem PG.lt {w : World} {g : Nat} {b : List UInt8} (h : PG w g b) : g < w.heap.size := (Array.getElem?_eq_some_iff.1 h.blk).1
theorem PG.below {w w' : World} {g : Nat} {b : List UInt8} (h : PG w g b) (k : Below w.heap.size w w') : PG w' g b := ⟨(k.block g h.lt).trans h.blk, h.len⟩
theorem PG.belX {w w' : World} {g g' : Nat} {b : List UInt8} (h : PG w g b) (k : BelX g' w w') (hne : g ≠ g') : PG w' g b := ⟨(k.block g h.lt hne).trans h.blk, h.len⟩
theorem PG.drew {w : World} {g : Nat} {b : List UInt8} (h : PG w g b) : PG w.drew g b := ⟨h.blk, h.len⟩
theorem BelX.drew {g : Nat} {a b : World} (h : BelX g a b) : BelX g a b.drew := ⟨h.os, h.tape, h.output, h.size, h.block⟩
theorem PG.set {w : World} {g : Nat} {b : List UInt8} (h : PG w g b) (i : Nat) (hi : i < 256) (x : UInt8) : PG (w.setCell ⟨g, i, none⟩ (.int .u8 (x.toNat : Int))) g (b.set i x) := by
  have hl := h.len
  refine ⟨blk_put h.blk i _ ?_, by simp [h.len]⟩
  rw [List.setIfInBounds_toArray]
  congr 1
  rw [pgL, List.set_append, if_pos (by simp [hl, hi]), ← show u8 x = .int .u8 (x.toNat : Int) from rfl, pgL, List.map_set]
theorem PG.frozen {w : World} {g : Nat} {b : List UInt8} (h : PG w g b) (i : Nat) : w.frozen? ⟨g, i, none⟩ = false := blk_frozen h.blk i
set_option maxHeartbeats 4000000 in
theorem given_nil (w : World) : Calls Try.prog 31 #[.pointer none] w fun e w' => e = .returned (.bool false) ∧ w' = w := by
  go_enter Try.func31, Try.ntmps31
  go_wp2
  go_ret
  exact ⟨rfl, rfl⟩
set_option maxHeartbeats 4000000 in
theorem given_pg {w : World} {g : Nat} {b : List UInt8} (h : PG w g b) : Calls Try.prog 31 #[.pointer (some ⟨g, 0, none⟩)] w fun e w' => e = .returned (.bool true) ∧ w' = w := by
  have hm := h.made
  clear h
  go_enter Try.func31, Try.ntmps31
  go_wp2
  go_ret
  exact ⟨rfl, rfl⟩
set_option maxHeartbeats 4000000 in
theorem Kind_pg {w : World} {g : Nat} {b : List UInt8} (h : PG w g b) : Calls Try.prog 27 #[.pointer (some ⟨g, 0, none⟩)] w fun e w' => e = .returned (.int .i64 (at_ b 0 : Int)) ∧ w' = w := by
  have hm := h.cell 0 (by omega)
  have hr := at_lt b 0
  have H := Aside0.mk h
  clear h
  go_enter Try.func27, Try.ntmps27
  go_wp2_with (go_at_call 31; refine (given_pg H.out).mono ?_; rintro e w' ⟨rfl, rfl⟩)
  go_ret
  exact ⟨rfl, rfl⟩
set_option maxHeartbeats 4000000 in
theorem Kind_nil (w : World) : Calls Try.prog 27 #[.pointer none] w fun e w' => e = .returned (.int .i64 0) ∧ w' = w := by
  go_enter Try.func27, Try.ntmps27
  go_wp2_with (go_at_call 31; refine (given_nil _).mono ?_; rintro e w' ⟨rfl, rfl⟩)
  go_ret
  exact ⟨rfl, rfl⟩
set_option maxHeartbeats 4000000 in
theorem Len_pg {w : World} {g : Nat} {b : List UInt8} (h : PG w g b) : Calls Try.prog 21 #[.pointer (some ⟨g, 0, none⟩)] w fun e w' => e = .returned (.int .i64 (at_ b 1 : Int)) ∧ w' = w := by
  have hm := h.cell 1 (by omega)
  have hr := at_lt b 1
  have H := Aside0.mk h
  clear h
  go_enter Try.func21, Try.ntmps21
  go_wp2_with (go_at_call 31; refine (given_pg H.out).mono ?_; rintro e w' ⟨rfl, rfl⟩)
  go_ret
  exact ⟨rfl, rfl⟩
set_option maxHeartbeats 4000000 in
theorem Len_nil (w : World) : Calls Try.prog 21 #[.pointer none] w fun e w' => e = .returned (.int .i64 0) ∧ w' = w := by
  go_enter Try.func21, Try.ntmps21
  go_wp2_with (go_at_call 31; refine (given_nil _).mono ?_; rintro e w' ⟨rfl, rfl⟩)
  go_ret
  exact ⟨rfl, rfl⟩
def usedB (b : List UInt8) : Nat := at_ b 2 + 256 * at_ b 3
theorem or_bytes (x y : Nat) (hx : x < 256) (hy : y < 256) : Go.bits .or .i64 (x : Int) ((y : Int) * 256) = ((x + 256 * y : Nat) : Int) := by
  rw [show ((y : Int) * 256) = ((y * 256 : Nat) : Int) from by omega]
  rw [(bits_nat .i64 63 (by decide) (fun n h0 h1 => by rw [IntKind.wrap_i64]; omega) x (y * 256) (by omega) (by omega)).2]
  rw [Nat.or_comm, show y * 256 = 2 ^ 8 * y from by omega, ← Nat.two_pow_add_eq_or_of_lt (show x < 2 ^ 8 from hx) y]
  omega
theorem i64_nat (n : Nat) (h : n < 65536) : IntKind.i64.wrap (n : Int) = n := by rw [IntKind.wrap_i64]; omega
set_option maxHeartbeats 4000000 in
theorem used_pg {w : World} {g : Nat} {b : List UInt8} (h : PG w g b) : Calls Try.prog 34 #[.pointer (some ⟨g, 0, none⟩)] w fun e w' => e = .returned (.int .i64 (usedB b : Int)) ∧ Below w.heap.size w w' := by
  have h2 := h.cell 2 (by omega)
  have h3 := h.cell 3 (by omega)
  have hr2 := at_lt b 2
  have hr3 := at_lt b 3
  have H := Aside0.mk h
  clear h
  have HC := Aside0.mk (And.intro h2 h3)
  clear h2 h3
  go_enter Try.func34, Try.ntmps34
  go_wp2
  go_region_held3 (fun w' => w'.cell? ⟨g, 2, none⟩ = some (.int .u8 (at_ b 2 : Int)) ∧ w'.cell? ⟨g, 3, none⟩ = some (.int .u8 (at_ b 3 : Int)) ∧ Aside0 (Below w.heap.size w w'))
    (first | exact ⟨HC.out.1, HC.out.2, ⟨Below.drew (Below.refl _ _)⟩⟩ | fail) (fail)
  all_goals
    go_wp2
    go_ret
    refine ⟨?_, Below.drew (Below.refl _ _)⟩
    show Ending.returned (Value.int .i64 _) = _
    rw [i64_nat _ (by omega), i64_nat _ (by omega), show (at_ b 3 : Int) * 256 = ((at_ b 3 * 256 : Nat) : Int) from by omega, i64_nat _ (by omega), show ((at_ b 3 * 256 : Nat) : Int) = (at_ b 3 : Int) * 256 from by omega, or_bytes _ _ hr2 hr3]
    rfl
set_option maxHeartbeats 4000000 in
theorem from_neg {w : World} {g : Nat} (k : Int) (hk : k < 0) : Calls Try.prog 36 #[.pointer (some ⟨g, 0, none⟩), .int .i64 k] w fun e w' => e = .returned (.int .i64 256) ∧ w' = w := by
  have h0 : decide (k < 0) = true := decide_eq_true hk
  go_enter Try.func36, Try.ntmps36
  go_wp2
  go_ret
  exact ⟨rfl, rfl⟩
set_option maxHeartbeats 4000000 in
theorem from_pg {w : World} {g : Nat} {b : List UInt8} (h : PG w g b) (k : Int) (j : Nat) (hk : 0 ≤ k) (hj : 8 + 2 * k = (j : Int)) (hj2 : j < 256) : Calls Try.prog 36 #[.pointer (some ⟨g, 0, none⟩), .int .i64 k] w fun e w' => e = .returned (.int .i64 (at_ b j : Int)) ∧ w' = w := by
  have hm := h.cell j hj2
  have hr := at_lt b j
  have h0 : decide (k < 0) = false := decide_eq_false (by omega)
  have h1 : wrap64 (2 * k) = 2 * k := by unfold wrap64; omega
  have h2 : wrap64 (8 + 2 * k) = (j : Int) := by unfold wrap64; omega
  have h3 : (j < 256) = True := eq_true hj2
  have h4 : ((j : Int) < 256) = True := eq_true (by omega)
  have H := Aside0.mk h
  clear h hj hk hj2
  go_enter Try.func36, Try.ntmps36
  go_wp2
  go_ret
  exact ⟨rfl, rfl⟩
set_option maxHeartbeats 4000000 in
theorem keyed_pg {w : World} {g : Nat} {b : List UInt8} (h : PG w g b) (k : Int) (j : Nat) (hk : 0 ≤ k) (hj : 9 + 2 * k = (j : Int)) (hj2 : j < 256) : Calls Try.prog 37 #[.pointer (some ⟨g, 0, none⟩), .int .i64 k] w fun e w' => e = .returned (.int .i64 (at_ b j : Int)) ∧ w' = w := by
  have hm := h.cell j hj2
  have hr := at_lt b j
  have h1 : wrap64 (2 * k) = 2 * k := by unfold wrap64; omega
  obtain ⟨j0, hj0⟩ : ∃ j0 : Nat, 8 + 2 * k = (j0 : Int) := ⟨(8 + 2 * k).toNat, by omega⟩
  have h2 : wrap64 (8 + 2 * k) = (j0 : Int) := by unfold wrap64; omega
  have h5 : wrap64 ((j0 : Int) + 1) = (j : Int) := by unfold wrap64; omega
  have h3 : (j < 256) = True := eq_true hj2
  have h4 : ((j : Int) < 256) = True := eq_true (by omega)
  have H := Aside0.mk h
  clear h hj hk hj2 hj0
  go_enter Try.func37, Try.ntmps37
  go_wp2
  go_ret
  exact ⟨rfl, rfl⟩
def roomB (b : List UInt8) : Int := 248 - 2 * (at_ b 1 : Int) - (usedB b : Int)
theorem usedB_lt (b : List UInt8) : usedB b < 65536 := by have := at_lt b 2; have := at_lt b 3; unfold usedB; omega
set_option maxHeartbeats 4000000 in
theorem room_pg {w : World} {g : Nat} {b : List UInt8} (h : PG w g b) : Calls Try.prog 35 #[.pointer (some ⟨g, 0, none⟩)] w fun e w' => e = .returned (.int .i64 (roomB b)) ∧ Below w.heap.size w w' := by
  have hl := at_lt b 1
  have hu := usedB_lt b
  have h1 : wrap64 (2 * (at_ b 1 : Int)) = 2 * (at_ b 1 : Int) := by unfold wrap64; omega
  have h2 : wrap64 (248 - 2 * (at_ b 1 : Int)) = 248 - 2 * (at_ b 1 : Int) := by unfold wrap64; omega
  have h3 : wrap64 (248 - 2 * (at_ b 1 : Int) - (usedB b : Int)) = roomB b := by unfold wrap64 roomB; omega
  have H := Aside0.mk h
  clear h
  go_enter Try.func35, Try.ntmps35
  go_wp2_with fail
  refine (Len_pg H.out).mono ?_; rintro e w' ⟨rfl, rfl⟩
  go_wp2_with fail
  refine (used_pg H.out).mono ?_; rintro e w2 ⟨rfl, hb⟩
  go_wp2
  go_ret
  exact ⟨rfl, hb⟩
set_option maxHeartbeats 4000000 in
theorem Free_pg {w : World} {g : Nat} {b : List UInt8} (h : PG w g b) : Calls Try.prog 17 #[.pointer (some ⟨g, 0, none⟩)] w fun e w' => e = .returned (.int .i64 (max 0 (roomB b - 2))) ∧ Below w.heap.size w w' := by
  have hl := at_lt b 1
  have hu := usedB_lt b
  have h1 : wrap64 (roomB b - 2) = roomB b - 2 := by unfold wrap64 roomB; omega
  have H := Aside0.mk h
  clear h
  go_enter Try.func17, Try.ntmps17
  go_wp2_with fail
  refine (given_pg H.out).mono ?_; rintro e w' ⟨rfl, rfl⟩
  go_wp2_with fail
  refine (room_pg H.out).mono ?_; rintro e w2 ⟨rfl, hb⟩
  go_wp2
  go_ret
  exact ⟨rfl, hb⟩
set_option maxHeartbeats 4000000 in
theorem Free_nil (w : World) : Calls Try.prog 17 #[.pointer none] w fun e w' => e = .returned (.int .i64 0) ∧ w' = w := by
  go_enter Try.func17, Try.ntmps17
  go_wp2_with (go_at_call 31; refine (given_nil _).mono ?_; rintro e w' ⟨rfl, rfl⟩)
  go_ret
  exact ⟨rfl, rfl⟩
/-- the byte of a number -/
def by_ (n : Nat) : UInt8 := UInt8.ofNat n
theorem by_nat (n : Nat) : ((by_ n).toNat : Int) = (n : Int) % 256 := by simp [by_]
theorem wr8 (n : Int) : IntKind.u8.wrap n = n % 256 := IntKind.wrap_u8 n
def setsB (b : List UInt8) (n used : Nat) : List UInt8 := ((b.set 1 (by_ n)).set 2 (by_ used)).set 3 (by_ (used / 256))
set_option maxHeartbeats 4000000 in
theorem sets_pg {w : World} {g : Nat} {b : List UInt8} (h : PG w g b) (n used : Nat) (hn : n < 65536) (hu : used < 65536) : Calls Try.prog 51 #[.pointer (some ⟨g, 0, none⟩), .int .i64 (n : Int), .int .i64 (used : Int)] w fun e w' => e = .returned (.tuple #[]) ∧ PG w' g (setsB b n used) ∧ BelX g w w' := by
  have H := Aside0.mk h
  have hc1 := h.cell 1 (by omega)
  have hc2 := h.cell 2 (by omega)
  have hc3 := h.cell 3 (by omega)
  have hf1 := h.frozen 1
  have hf2 := h.frozen 2
  have hf3 := h.frozen 3
  clear h
  go_enter Try.func51, Try.ntmps51
  go_wp2
  go_region_held3 (fun w' => True) (trivial) (fail)
  all_goals
    go_wp2
    refine bodyPost_end (v := .tuple #[]) (results_none rfl _ _ _) rfl ⟨rfl, ?_, ?_⟩
    · rw [wr8, wr8, wr8, ← by_nat, ← by_nat, show (used : Int) / 256 = ((used / 256 : Nat) : Int) from by omega, ← by_nat]
      exact (((H.out.set 1 (by omega) _).set 2 (by omega) _).set 3 (by omega) _).drew
    · exact ((((BelX.refl g w).set 1 _).set 2 _).set 3 _).drew
def pointsB (b : List UInt8) (j fr key : Nat) : List UInt8 := (b.set j (by_ fr)).set (j + 1) (by_ key)
set_option maxHeartbeats 4000000 in
theorem points_pg {w : World} {g : Nat} {b : List UInt8} (h : PG w g b) (k : Int) (j fr key : Nat) (hk : 0 ≤ k) (hj : 8 + 2 * k = (j : Int)) (hj2 : j + 1 < 256) : Calls Try.prog 43 #[.pointer (some ⟨g, 0, none⟩), .int .i64 k, .int .i64 (fr : Int), .int .i64 (key : Int)] w fun e w' => e = .returned (.tuple #[]) ∧ PG w' g (pointsB b j fr key) ∧ BelX g w w' := by
  have H := Aside0.mk h
  have hc1 := h.cell j (by omega)
  have hc2 := h.cell (j + 1) (by omega)
  have hf1 := h.frozen j
  have hf2 := h.frozen (j + 1)
  have h1 : wrap64 (2 * k) = 2 * k := by unfold wrap64; omega
  have h2 : wrap64 (8 + 2 * k) = (j : Int) := by unfold wrap64; omega
  obtain ⟨j1, hj1⟩ : ∃ j1, j + 1 = j1 := ⟨_, rfl⟩
  have h5 : wrap64 ((j : Int) + 1) = (j1 : Int) := by unfold wrap64; omega
  have g1 : IntKind.i64.wrap (2 * k) = 2 * k := (i64_w _).trans h1
  have g2 : IntKind.i64.wrap (8 + 2 * k) = (j : Int) := (i64_w _).trans h2
  have g5 : IntKind.i64.wrap ((j : Int) + 1) = (j1 : Int) := (i64_w _).trans h5
  have h3 : (j < 256) = True := eq_true (by omega)
  have h4 : ((j : Int) < 256) = True := eq_true (by omega)
  have h6 : (j1 < 256) = True := eq_true (by omega)
  have h7 : ((j1 : Int) < 256) = True := eq_true (by omega)
  have J := Aside0.mk (show j < 256 ∧ j1 < 256 from by omega)
  have e1 : (j1 = j) = False := eq_false (by omega)
  have e2 : (j = j1) = False := eq_false (by omega)
  rw [pointsB, hj1]
  rw [hj1] at hc2 hf2
  clear h hj hk hj2 hj1
  go_enter Try.func43, Try.ntmps43
  go_wp2
  go_region_held3 (fun w' => True) (trivial) (fail)
  all_goals
    go_wp2
    refine bodyPost_end (v := .tuple #[]) (results_none rfl _ _ _) rfl ⟨rfl, ?_, ?_⟩
    · rw [wr8, wr8, ← by_nat, ← by_nat]
      exact ((H.out.set j J.out.1 _).set j1 J.out.2 _).drew
    · exact (((BelX.refl g w).set j _).set j1 _).drew
end Go.Proofs.Ytinbppcfdmbclaa.Pg
