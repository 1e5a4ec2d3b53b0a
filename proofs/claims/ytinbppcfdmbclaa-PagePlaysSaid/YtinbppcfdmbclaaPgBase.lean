/- Pages, walked and told in plain words: the functions of a page, and what becomes of its bytes. No condition beyond those that each theorem names. -/
import Derived.Test.YtinbppcfdmbclaaPgx0
import Derived.Laws.BitsLemmas
import Derived.Laws.BytesArg
import Derived.Lib.Bytealg
import Derived.Laws.CopyOwn
import Derived.Lib.BufferWrite
import Derived.Lib.SliceRun
import Derived.Test.YtinbppcfdmbclaaPgx1
import Derived.Laws.Rows
import Derived.Test.YtinbppcfdmbclaaCrcFns
import Derived.Deep.MidRow
import Derived.Deep.LoopGhost
import Derived.WalkLawsBesides
/-! Small functions of a page, walked: what they read of a page's bytes. No condition beyond those that each theorem names. -/
namespace Go.Proofs.Ytinbppcfdmbclaa.Pg
open Go.RowKit Go.Proofs.YtinbppcfdmbclaaW.PrintWords Go.Proofs.YtinbppcfdmbclaaW.PrintLast Go.Proofs.YtinbppcfdmbclaaW.PrintMore
set_option linter.unusedVariables false
set_option linter.unusedSimpArgs false
def u8 (x : UInt8) : Value := .int .u8 (x.toNat : Int)
/-- a page's cells: its bytes, and that it was made -/
def pgL (b : List UInt8) : List Value := b.map u8 ++ [.bool true]
/-- a page of such bytes lies in a block of its own -/
structure PG (w : World) (g : Nat) (b : List UInt8) : Prop where
  blk : w.heap[g]? = some (.cells (pgL b).toArray 58 (0, 0))
  len : b.length = 256
/-- all lies as it lay but one block -/
structure BelX (g : Nat) (w w' : World) : Prop where
  os : w'.os = w.os
  tape : w'.tape = w.tape
  output : w'.output = w.output
  size : w.heap.size ≤ w'.heap.size
  block : ∀ k, k < w.heap.size → k ≠ g → w'.heap[k]? = w.heap[k]?
theorem BelX.refl (g : Nat) (w : World) : BelX g w w := ⟨rfl, rfl, rfl, Nat.le_refl _, fun _ _ _ => rfl⟩
theorem BelX.trans {g : Nat} {a b c : World} (h : BelX g a b) (k : BelX g b c) : BelX g a c :=
  ⟨k.os.trans h.os, k.tape.trans h.tape, k.output.trans h.output, Nat.le_trans h.size k.size, fun i hi hg => (k.block i (Nat.lt_of_lt_of_le hi h.size) hg).trans (h.block i hi hg)⟩
theorem BelX.of_below {g : Nat} {a b : World} (h : Below a.heap.size a b) : BelX g a b := ⟨h.os, h.tape, h.output, h.size, fun i hi _ => h.block i hi⟩
theorem BelX.below {g B : Nat} {w0 a b : World} (h : Below B w0 a) (hB : B ≤ a.heap.size) (hg : B ≤ g) (k : BelX g a b) : Below B w0 b :=
  h.trans ⟨k.os, k.tape, k.output, k.size, fun i hi => k.block i (by omega) (by omega)⟩
theorem BelX.set {g : Nat} {a b : World} (h : BelX g a b) (i : Nat) (v : Value) : BelX g a (b.setCell ⟨g, i, none⟩ v) :=
  ⟨h.os, h.tape, h.output, by simpa [World.setCell] using h.size, fun k hk hg => (Below.heap_setCell b ⟨g, i, none⟩ v k hg).trans (h.block k hk hg)⟩
def at_ (b : List UInt8) (i : Nat) : Nat := (b.getD i 0).toNat
theorem at_lt (b : List UInt8) (i : Nat) : at_ b i < 256 := by unfold at_; exact (b.getD i 0).toNat_lt
theorem PG.cell {w : World} {g : Nat} {b : List UInt8} (h : PG w g b) (i : Nat) (hi : i < 256) : w.cell? ⟨g, i, none⟩ = some (.int .u8 (at_ b i : Int)) := by
  have hl := h.len
  simp only [World.cell?, h.blk]
  simp [pgL, at_, u8, List.getElem?_append, hl, hi, List.getD_eq_getElem?_getD]
theorem PG.made {w : World} {g : Nat} {b : List UInt8} (h : PG w g b) : w.cell? ⟨g, 256, none⟩ = some (.bool true) := by
  have hl := h.len
  simp only [World.cell?, h.blk]
  simp [pgL, List.getElem?_append, hl]
theorem PG.lt {w : World} {g : Nat} {b : List UInt8} (h : PG w g b) : g < w.heap.size := (Array.getElem?_eq_some_iff.1 h.blk).1
theorem PG.below {w w' : World} {g : Nat} {b : List UInt8} (h : PG w g b) (k : Below w.heap.size w w') : PG w' g b := ⟨(k.block g h.lt).trans h.blk, h.len⟩
theorem PG.belX {w w' : World} {g g' : Nat} {b : List UInt8} (h : PG w g b) (k : BelX g' w w') (hne : g ≠ g') : PG w' g b := ⟨(k.block g h.lt hne).trans h.blk, h.len⟩
theorem PG.drew {w : World} {g : Nat} {b : List UInt8} (h : PG w g b) : PG w.drew g b := ⟨h.blk, h.len⟩
theorem BelX.drew {g : Nat} {a b : World} (h : BelX g a b) : BelX g a b.drew := ⟨h.os, h.tape, h.output, h.size, h.block⟩
theorem PG.set {w : World} {g : Nat} {b : List UInt8} (h : PG w g b) (i : Nat) (hi : i < 256) (x : UInt8) : PG (w.setCell ⟨g, i, none⟩ (.int .u8 (x.toNat : Int))) g (b.set i x) := by
  have hl := h.len
  refine ⟨blk_put h.blk i _ ?_, by simp [h.len]⟩
  rw [List.setIfInBounds_toArray]
  congr 1
  rw [pgL, List.set_append, if_pos (by simp [hl, hi]), ← show u8 x = .int .u8 (x.toNat : Int) from rfl, pgL, List.map_set]
theorem PG.frozen {w : World} {g : Nat} {b : List UInt8} (h : PG w g b) (i : Nat) : w.frozen? ⟨g, i, none⟩ = false := blk_frozen h.blk i
set_option maxHeartbeats 4000000 in
theorem given_nil (w : World) : Calls Try.prog 31 #[.pointer none] w fun e w' => e = .returned (.bool false) ∧ w' = w := by
  go_enter Try.func31, Try.ntmps31
  go_wp2
  go_ret
  exact ⟨rfl, rfl⟩
set_option maxHeartbeats 4000000 in
theorem given_pg {w : World} {g : Nat} {b : List UInt8} (h : PG w g b) : Calls Try.prog 31 #[.pointer (some ⟨g, 0, none⟩)] w fun e w' => e = .returned (.bool true) ∧ w' = w := by
  have hm := h.made
  clear h
  go_enter Try.func31, Try.ntmps31
  go_wp2
  go_ret
  exact ⟨rfl, rfl⟩
set_option maxHeartbeats 4000000 in
theorem Kind_pg {w : World} {g : Nat} {b : List UInt8} (h : PG w g b) : Calls Try.prog 27 #[.pointer (some ⟨g, 0, none⟩)] w fun e w' => e = .returned (.int .i64 (at_ b 0 : Int)) ∧ w' = w := by
  have hm := h.cell 0 (by omega)
  have hr := at_lt b 0
  have H := Aside0.mk h
  clear h
  go_enter Try.func27, Try.ntmps27
  go_wp2_with (go_at_call 31; refine (given_pg H.out).mono ?_; rintro e w' ⟨rfl, rfl⟩)
  go_ret
  exact ⟨rfl, rfl⟩
set_option maxHeartbeats 4000000 in
theorem Kind_nil (w : World) : Calls Try.prog 27 #[.pointer none] w fun e w' => e = .returned (.int .i64 0) ∧ w' = w := by
  go_enter Try.func27, Try.ntmps27
  go_wp2_with (go_at_call 31; refine (given_nil _).mono ?_; rintro e w' ⟨rfl, rfl⟩)
  go_ret
  exact ⟨rfl, rfl⟩
set_option maxHeartbeats 4000000 in
theorem Len_pg {w : World} {g : Nat} {b : List UInt8} (h : PG w g b) : Calls Try.prog 21 #[.pointer (some ⟨g, 0, none⟩)] w fun e w' => e = .returned (.int .i64 (at_ b 1 : Int)) ∧ w' = w := by
  have hm := h.cell 1 (by omega)
  have hr := at_lt b 1
  have H := Aside0.mk h
  clear h
  go_enter Try.func21, Try.ntmps21
  go_wp2_with (go_at_call 31; refine (given_pg H.out).mono ?_; rintro e w' ⟨rfl, rfl⟩)
  go_ret
  exact ⟨rfl, rfl⟩
set_option maxHeartbeats 4000000 in
theorem Len_nil (w : World) : Calls Try.prog 21 #[.pointer none] w fun e w' => e = .returned (.int .i64 0) ∧ w' = w := by
  go_enter Try.func21, Try.ntmps21
  go_wp2_with (go_at_call 31; refine (given_nil _).mono ?_; rintro e w' ⟨rfl, rfl⟩)
  go_ret
  exact ⟨rfl, rfl⟩
def usedB (b : List UInt8) : Nat := at_ b 2 + 256 * at_ b 3
theorem or_bytes (x y : Nat) (hx : x < 256) (hy : y < 256) : Go.bits .or .i64 (x : Int) ((y : Int) * 256) = ((x + 256 * y : Nat) : Int) := by
  rw [show ((y : Int) * 256) = ((y * 256 : Nat) : Int) from by omega]
  rw [(bits_nat .i64 63 (by decide) (fun n h0 h1 => by rw [IntKind.wrap_i64]; omega) x (y * 256) (by omega) (by omega)).2]
  rw [Nat.or_comm, show y * 256 = 2 ^ 8 * y from by omega, ← Nat.two_pow_add_eq_or_of_lt (show x < 2 ^ 8 from hx) y]
  omega
theorem i64_nat (n : Nat) (h : n < 65536) : IntKind.i64.wrap (n : Int) = n := by rw [IntKind.wrap_i64]; omega
set_option maxHeartbeats 4000000 in
theorem used_pg {w : World} {g : Nat} {b : List UInt8} (h : PG w g b) : Calls Try.prog 34 #[.pointer (some ⟨g, 0, none⟩)] w fun e w' => e = .returned (.int .i64 (usedB b : Int)) ∧ Below w.heap.size w w' := by
  have h2 := h.cell 2 (by omega)
  have h3 := h.cell 3 (by omega)
  have hr2 := at_lt b 2
  have hr3 := at_lt b 3
  have H := Aside0.mk h
  clear h
  have HC := Aside0.mk (And.intro h2 h3)
  clear h2 h3
  go_enter Try.func34, Try.ntmps34
  go_wp2
  go_region_held3 (fun w' => w'.cell? ⟨g, 2, none⟩ = some (.int .u8 (at_ b 2 : Int)) ∧ w'.cell? ⟨g, 3, none⟩ = some (.int .u8 (at_ b 3 : Int)) ∧ Aside0 (Below w.heap.size w w'))
    (first | exact ⟨HC.out.1, HC.out.2, ⟨Below.drew (Below.refl _ _)⟩⟩ | fail) (fail)
  all_goals
    go_wp2
    go_ret
    refine ⟨?_, Below.drew (Below.refl _ _)⟩
    show Ending.returned (Value.int .i64 _) = _
    rw [i64_nat _ (by omega), i64_nat _ (by omega), show (at_ b 3 : Int) * 256 = ((at_ b 3 * 256 : Nat) : Int) from by omega, i64_nat _ (by omega), show ((at_ b 3 * 256 : Nat) : Int) = (at_ b 3 : Int) * 256 from by omega, or_bytes _ _ hr2 hr3]
    rfl
set_option maxHeartbeats 4000000 in
theorem from_neg {w : World} {g : Nat} (k : Int) (hk : k < 0) : Calls Try.prog 36 #[.pointer (some ⟨g, 0, none⟩), .int .i64 k] w fun e w' => e = .returned (.int .i64 256) ∧ w' = w := by
  have h0 : decide (k < 0) = true := decide_eq_true hk
  go_enter Try.func36, Try.ntmps36
  go_wp2
  go_ret
  exact ⟨rfl, rfl⟩
set_option maxHeartbeats 4000000 in
theorem from_pg {w : World} {g : Nat} {b : List UInt8} (h : PG w g b) (k : Int) (j : Nat) (hk : 0 ≤ k) (hj : 8 + 2 * k = (j : Int)) (hj2 : j < 256) : Calls Try.prog 36 #[.pointer (some ⟨g, 0, none⟩), .int .i64 k] w fun e w' => e = .returned (.int .i64 (at_ b j : Int)) ∧ w' = w := by
  have hm := h.cell j hj2
  have hr := at_lt b j
  have h0 : decide (k < 0) = false := decide_eq_false (by omega)
  have h1 : wrap64 (2 * k) = 2 * k := by unfold wrap64; omega
  have h2 : wrap64 (8 + 2 * k) = (j : Int) := by unfold wrap64; omega
  have h3 : (j < 256) = True := eq_true hj2
  have h4 : ((j : Int) < 256) = True := eq_true (by omega)
  have H := Aside0.mk h
  clear h hj hk hj2
  go_enter Try.func36, Try.ntmps36
  go_wp2
  go_ret
  exact ⟨rfl, rfl⟩
set_option maxHeartbeats 4000000 in
theorem keyed_pg {w : World} {g : Nat} {b : List UInt8} (h : PG w g b) (k : Int) (j : Nat) (hk : 0 ≤ k) (hj : 9 + 2 * k = (j : Int)) (hj2 : j < 256) : Calls Try.prog 37 #[.pointer (some ⟨g, 0, none⟩), .int .i64 k] w fun e w' => e = .returned (.int .i64 (at_ b j : Int)) ∧ w' = w := by
  have hm := h.cell j hj2
  have hr := at_lt b j
  have h1 : wrap64 (2 * k) = 2 * k := by unfold wrap64; omega
  obtain ⟨j0, hj0⟩ : ∃ j0 : Nat, 8 + 2 * k = (j0 : Int) := ⟨(8 + 2 * k).toNat, by omega⟩
  have h2 : wrap64 (8 + 2 * k) = (j0 : Int) := by unfold wrap64; omega
  have h5 : wrap64 ((j0 : Int) + 1) = (j : Int) := by unfold wrap64; omega
  have h3 : (j < 256) = True := eq_true hj2
  have h4 : ((j : Int) < 256) = True := eq_true (by omega)
  have H := Aside0.mk h
  clear h hj hk hj2 hj0
  go_enter Try.func37, Try.ntmps37
  go_wp2
  go_ret
  exact ⟨rfl, rfl⟩
def roomB (b : List UInt8) : Int := 248 - 2 * (at_ b 1 : Int) - (usedB b : Int)
theorem usedB_lt (b : List UInt8) : usedB b < 65536 := by have := at_lt b 2; have := at_lt b 3; unfold usedB; omega
set_option maxHeartbeats 4000000 in
theorem room_pg {w : World} {g : Nat} {b : List UInt8} (h : PG w g b) : Calls Try.prog 35 #[.pointer (some ⟨g, 0, none⟩)] w fun e w' => e = .returned (.int .i64 (roomB b)) ∧ Below w.heap.size w w' := by
  have hl := at_lt b 1
  have hu := usedB_lt b
  have h1 : wrap64 (2 * (at_ b 1 : Int)) = 2 * (at_ b 1 : Int) := by unfold wrap64; omega
  have h2 : wrap64 (248 - 2 * (at_ b 1 : Int)) = 248 - 2 * (at_ b 1 : Int) := by unfold wrap64; omega
  have h3 : wrap64 (248 - 2 * (at_ b 1 : Int) - (usedB b : Int)) = roomB b := by unfold wrap64 roomB; omega
  have H := Aside0.mk h
  clear h
  go_enter Try.func35, Try.ntmps35
  go_wp2_with fail
  refine (Len_pg H.out).mono ?_; rintro e w' ⟨rfl, rfl⟩
  go_wp2_with fail
  refine (used_pg H.out).mono ?_; rintro e w2 ⟨rfl, hb⟩
  go_wp2
  go_ret
  exact ⟨rfl, hb⟩
set_option maxHeartbeats 4000000 in
theorem Free_pg {w : World} {g : Nat} {b : List UInt8} (h : PG w g b) : Calls Try.prog 17 #[.pointer (some ⟨g, 0, none⟩)] w fun e w' => e = .returned (.int .i64 (max 0 (roomB b - 2))) ∧ Below w.heap.size w w' := by
  have hl := at_lt b 1
  have hu := usedB_lt b
  have h1 : wrap64 (roomB b - 2) = roomB b - 2 := by unfold wrap64 roomB; omega
  have H := Aside0.mk h
  clear h
  go_enter Try.func17, Try.ntmps17
  go_wp2_with fail
  refine (given_pg H.out).mono ?_; rintro e w' ⟨rfl, rfl⟩
  go_wp2_with fail
  refine (room_pg H.out).mono ?_; rintro e w2 ⟨rfl, hb⟩
  go_wp2
  go_ret
  exact ⟨rfl, hb⟩
set_option maxHeartbeats 4000000 in
theorem Free_nil (w : World) : Calls Try.prog 17 #[.pointer none] w fun e w' => e = .returned (.int .i64 0) ∧ w' = w := by
  go_enter Try.func17, Try.ntmps17
  go_wp2_with (go_at_call 31; refine (given_nil _).mono ?_; rintro e w' ⟨rfl, rfl⟩)
  go_ret
  exact ⟨rfl, rfl⟩
/-- the byte of a number -/
def by_ (n : Nat) : UInt8 := UInt8.ofNat n
theorem by_nat (n : Nat) : ((by_ n).toNat : Int) = (n : Int) % 256 := by simp [by_]
theorem wr8 (n : Int) : IntKind.u8.wrap n = n % 256 := IntKind.wrap_u8 n
def setsB (b : List UInt8) (n used : Nat) : List UInt8 := ((b.set 1 (by_ n)).set 2 (by_ used)).set 3 (by_ (used / 256))
set_option maxHeartbeats 4000000 in
theorem sets_pg {w : World} {g : Nat} {b : List UInt8} (h : PG w g b) (n used : Nat) (hn : n < 65536) (hu : used < 65536) : Calls Try.prog 51 #[.pointer (some ⟨g, 0, none⟩), .int .i64 (n : Int), .int .i64 (used : Int)] w fun e w' => e = .returned (.tuple #[]) ∧ PG w' g (setsB b n used) ∧ BelX g w w' := by
  have H := Aside0.mk h
  have hc1 := h.cell 1 (by omega)
  have hc2 := h.cell 2 (by omega)
  have hc3 := h.cell 3 (by omega)
  have hf1 := h.frozen 1
  have hf2 := h.frozen 2
  have hf3 := h.frozen 3
  clear h
  go_enter Try.func51, Try.ntmps51
  go_wp2
  go_region_held3 (fun w' => True) (trivial) (fail)
  all_goals
    go_wp2
    refine bodyPost_end (v := .tuple #[]) (results_none rfl _ _ _) rfl ⟨rfl, ?_, ?_⟩
    · rw [wr8, wr8, wr8, ← by_nat, ← by_nat, show (used : Int) / 256 = ((used / 256 : Nat) : Int) from by omega, ← by_nat]
      exact (((H.out.set 1 (by omega) _).set 2 (by omega) _).set 3 (by omega) _).drew
    · exact ((((BelX.refl g w).set 1 _).set 2 _).set 3 _).drew
def pointsB (b : List UInt8) (j fr key : Nat) : List UInt8 := (b.set j (by_ fr)).set (j + 1) (by_ key)
set_option maxHeartbeats 4000000 in
theorem points_pg {w : World} {g : Nat} {b : List UInt8} (h : PG w g b) (k : Int) (j fr key : Nat) (hk : 0 ≤ k) (hj : 8 + 2 * k = (j : Int)) (hj2 : j + 1 < 256) : Calls Try.prog 43 #[.pointer (some ⟨g, 0, none⟩), .int .i64 k, .int .i64 (fr : Int), .int .i64 (key : Int)] w fun e w' => e = .returned (.tuple #[]) ∧ PG w' g (pointsB b j fr key) ∧ BelX g w w' := by
  have H := Aside0.mk h
  have hc1 := h.cell j (by omega)
  have hc2 := h.cell (j + 1) (by omega)
  have hf1 := h.frozen j
  have hf2 := h.frozen (j + 1)
  have h1 : wrap64 (2 * k) = 2 * k := by unfold wrap64; omega
  have h2 : wrap64 (8 + 2 * k) = (j : Int) := by unfold wrap64; omega
  obtain ⟨j1, hj1⟩ : ∃ j1, j + 1 = j1 := ⟨_, rfl⟩
  have h5 : wrap64 ((j : Int) + 1) = (j1 : Int) := by unfold wrap64; omega
  have g1 : IntKind.i64.wrap (2 * k) = 2 * k := (i64_w _).trans h1
  have g2 : IntKind.i64.wrap (8 + 2 * k) = (j : Int) := (i64_w _).trans h2
  have g5 : IntKind.i64.wrap ((j : Int) + 1) = (j1 : Int) := (i64_w _).trans h5
  have h3 : (j < 256) = True := eq_true (by omega)
  have h4 : ((j : Int) < 256) = True := eq_true (by omega)
  have h6 : (j1 < 256) = True := eq_true (by omega)
  have h7 : ((j1 : Int) < 256) = True := eq_true (by omega)
  have J := Aside0.mk (show j < 256 ∧ j1 < 256 from by omega)
  have e1 : (j1 = j) = False := eq_false (by omega)
  have e2 : (j = j1) = False := eq_false (by omega)
  rw [pointsB, hj1]
  rw [hj1] at hc2 hf2
  clear h hj hk hj2 hj1
  go_enter Try.func43, Try.ntmps43
  go_wp2
  go_region_held3 (fun w' => True) (trivial) (fail)
  all_goals
    go_wp2
    refine bodyPost_end (v := .tuple #[]) (results_none rfl _ _ _) rfl ⟨rfl, ?_, ?_⟩
    · rw [wr8, wr8, ← by_nat, ← by_nat]
      exact ((H.out.set j J.out.1 _).set j1 J.out.2 _).drew
    · exact (((BelX.refl g w).set j _).set j1 _).drew
end Go.Proofs.Ytinbppcfdmbclaa.Pg

/-! A page's cells, read and found, walked. No condition beyond those that each theorem names. -/
namespace Go.Proofs.Ytinbppcfdmbclaa.Pg
open Go.RowKit Go.Proofs.YtinbppcfdmbclaaW.PrintWords Go.Proofs.YtinbppcfdmbclaaW.PrintLast Go.Proofs.YtinbppcfdmbclaaW.PrintMore
set_option linter.unusedVariables false
set_option linter.unusedSimpArgs false
/-- where the cell at a place begins; ahead of the first one: the end -/
def fromB (b : List UInt8) (k : Int) : Nat := if k < 0 then 256 else at_ b (8 + 2 * k.toNat)
theorem fromB_le (b : List UInt8) (k : Int) : fromB b k ≤ 256 := by
  unfold fromB; split
  · omega
  · have := at_lt b (8 + 2 * k.toNat); omega
theorem from_any {w : World} {g : Nat} {b : List UInt8} (h : PG w g b) (k : Int) (hk : k < 124) : Calls Try.prog 36 #[.pointer (some ⟨g, 0, none⟩), .int .i64 k] w fun e w' => e = .returned (.int .i64 (fromB b k : Int)) ∧ w' = w := by
  by_cases h0 : k < 0
  · have := from_neg (w := w) (g := g) k h0
    rwa [show (fromB b k : Int) = 256 from by unfold fromB; rw [if_pos h0]; rfl]
  · have := from_pg h k (8 + 2 * k.toNat) (by omega) (by omega) (by omega)
    rwa [show (fromB b k : Int) = (at_ b (8 + 2 * k.toNat) : Int) from by unfold fromB; rw [if_neg h0]]
/-- the bytes from a place to another one, as a text -/
def cut (b : List UInt8) (l h : Nat) : ByteArray := ⟨((b.drop l).take (h - l)).toArray⟩
theorem strOfNums_u8 (b : List UInt8) : strOfNums (b.map fun x => (x.toNat : Int)) = ⟨b.toArray⟩ := by
  unfold strOfNums
  congr 2
  rw [List.map_map]
  conv => rhs; rw [← List.map_id b]
  exact List.map_congr_left fun x _ => by simp
theorem conv_pg {w : World} {g : Nat} {b : List UInt8} (h : PG w g b) (l hh c : Nat) (h1 : l ≤ hh) (h2 : hh ≤ 256) : (convert 30 9 (.slice (some ⟨g, l, none⟩) (hh - l) c)).run Try.prog w = .ok (.string (cut b l hh)) w := by
  have := run_convert_bytes_arg (P := Try.prog) w 30 5 Try.underlying30 Try.underlying5 g l (hh - l) c (((b.drop l).take (hh - l)).map fun x => (x.toNat : Int)) (by simp [h.len]; omega) (fun i hi => ?_) 9 Try.underlying9
  · rw [this, strOfNums_u8]; rfl
  · rw [h.cell (l + i) (by omega)]
    congr 2
    have hl := h.len
    have e1 : i < ((b.drop l).take (hh - l)).length := by simp [hl]; omega
    simp only [List.getD_eq_getElem?_getD, List.getElem?_map, List.getElem?_eq_getElem e1, Option.map_some, Option.getD_some, at_]
    simp [List.getElem?_eq_getElem (show l + i < b.length from by omega)]
theorem conv_0 {w : World} (g c : Nat) : (convert 30 9 (.slice (some ⟨g, 0, none⟩) 0 c)).run Try.prog w = .ok (.string ⟨#[]⟩) w := by
  have := run_convert_bytes_arg (P := Try.prog) w 30 5 Try.underlying30 Try.underlying5 g 0 0 c [] rfl (fun i hi => absurd hi (by omega)) 9 Try.underlying9
  exact this
theorem cut_nil (b : List UInt8) (l : Nat) : cut b l l = ⟨#[]⟩ := by simp [cut]
theorem prun {w : World} (l h : Nat) (g : Nat) (h1 : l ≤ h) (h2 : h ≤ 256) : (Instr.sliceAt 56 (.pointer (some ⟨g, 0, none⟩)) (some (.int .i64 (l : Int))) (some (.int .i64 (h : Int))) none).run Try.prog w = .ok (.slice (some (if 256 = l then ⟨g, 0, none⟩ else ⟨g, l, none⟩)) (h - l) (256 - l)) w := by
  have ha : Try.prog.arrayLen 56 = 256 := by kernel_rfl
  have hs : (sizeOf (Try.prog.elem 56)).run Try.prog w = .ok 1 w := by
    rw [show Try.prog.elem 56 = 5 from by kernel_rfl]
    obtain ⟨i0, hi, -⟩ := Option.map_eq_some_iff.1 info5
    rw [run_sizeOf (P := Try.prog) w hi, show Try.prog.cellsOf 5 = 1 from by kernel_rfl]
  rw [run_sliceAt_array_lh (P := Try.prog) w 56 ⟨g, 0, none⟩ (by kernel_rfl) .i64 .i64 (l : Int) (h : Int) (by omega) (by omega) (by rw [ha]; omega), hs]
  simp [Result.andThen, slicedAt, ha, Addr.add]
  by_cases h0 : l = 0
  · subst h0; simp
  · rw [if_neg h0]
/-- a part of a page's array -/
theorem sl (g l h : Nat) (h1 : l ≤ h) (h2 : h ≤ 256) : ∃ (A : Addr) (n c : Nat), n = h - l ∧ (∀ w, (Instr.sliceAt 56 (.pointer (some ⟨g, 0, none⟩)) (some (.int .i64 (l : Int))) (some (.int .i64 (h : Int))) none).run Try.prog w = .ok (.slice (some A) n c) w) ∧
    (∀ w b, PG w g b → (convert 30 9 (.slice (some A) n c)).run Try.prog w = .ok (.string (cut b l h)) w) ∧ (0 < n → A = ⟨g, l, none⟩) := by
  refine ⟨_, _, _, rfl, fun w => prun l h g h1 h2, fun w b hp => ?_, fun hn => ?_⟩
  · split
    · obtain rfl : l = 256 := by omega
      obtain rfl : h = 256 := by omega
      rw [cut_nil]; exact conv_0 g 0
    · exact conv_pg hp l h _ h1 h2
  · rw [if_neg (by omega)]
set_option maxHeartbeats 4000000 in
theorem At_out {w : World} {g : Nat} {b : List UInt8} (h : PG w g b) (k : Int) (hk : k < 0 ∨ (at_ b 1 : Int) ≤ k) : Calls Try.prog 19 #[.pointer (some ⟨g, 0, none⟩), .int .i64 k] w fun e w' => e = .returned (.tuple #[.string ⟨#[]⟩, .string ⟨#[]⟩]) ∧ w' = w := by
  have H := Aside0.mk h
  clear h
  by_cases h0 : k < 0
  · have c0 : decide (k < 0) = true := decide_eq_true h0
    clear hk
    go_enter Try.func19, Try.ntmps19
    go_wp2_with (go_at_call 21; refine (Len_pg H.out).mono ?_; rintro e w' ⟨rfl, rfl⟩)
    exact bodyPost_ret (results_tmp2 rfl _ _ _) rfl ⟨rfl, rfl⟩
  · have c0 : decide (k < 0) = false := decide_eq_false h0
    have c1 : decide ((at_ b 1 : Int) ≤ k) = true := decide_eq_true (by omega)
    clear hk h0
    go_enter Try.func19, Try.ntmps19
    go_wp2_with (go_at_call 21; refine (Len_pg H.out).mono ?_; rintro e w' ⟨rfl, rfl⟩)
    exact bodyPost_ret (results_tmp2 rfl _ _ _) rfl ⟨rfl, rfl⟩
set_option maxHeartbeats 4000000 in
theorem At_nil (w : World) (k : Int) : Calls Try.prog 19 #[.pointer none, .int .i64 k] w fun e w' => e = .returned (.tuple #[.string ⟨#[]⟩, .string ⟨#[]⟩]) ∧ w' = w := by
  by_cases h0 : k < 0
  · have c0 : decide (k < 0) = true := decide_eq_true h0
    go_enter Try.func19, Try.ntmps19
    go_wp2_with (go_at_call 21; refine (Len_nil _).mono ?_; rintro e w' ⟨rfl, rfl⟩)
    exact bodyPost_ret (results_tmp2 rfl _ _ _) rfl ⟨rfl, rfl⟩
  · have c0 : decide (k < 0) = false := decide_eq_false h0
    have c1 : decide (0 ≤ k) = true := decide_eq_true (by omega)
    clear h0
    go_enter Try.func19, Try.ntmps19
    go_wp2_with (go_at_call 21; refine (Len_nil _).mono ?_; rintro e w' ⟨rfl, rfl⟩)
    exact bodyPost_ret (results_tmp2 rfl _ _ _) rfl ⟨rfl, rfl⟩
set_option maxHeartbeats 4000000 in
theorem At_pg {w : World} {g : Nat} {b : List UInt8} (h : PG w g b) (k j : Nat) (hk : k < at_ b 1) (hk2 : k < 124) (hj : 9 + 2 * k = j) (hm : fromB b k + at_ b j ≤ fromB b (k - 1 : Int)) (hf : fromB b k < 256) : Calls Try.prog 19 #[.pointer (some ⟨g, 0, none⟩), .int .i64 (k : Int)] w fun e w' => e = .returned (.tuple #[.string (cut b (fromB b k) (fromB b k + at_ b j)), .string (cut b (fromB b k + at_ b j) (fromB b (k - 1 : Int)))]) ∧ Below w.heap.size w w' := by
  have c0 : decide ((k : Int) < 0) = false := decide_eq_false (by omega)
  have c1 : decide ((at_ b 1 : Int) ≤ (k : Int)) = false := decide_eq_false (by omega)
  have c1' : decide (at_ b 1 ≤ k) = false := decide_eq_false (by omega)
  have c2 : wrap64 ((k : Int) - 1) = (k : Int) - 1 := by unfold wrap64; omega
  have hF := Aside0.mk (from_any h (k : Int) (by omega))
  have hE := Aside0.mk (from_any h ((k : Int) - 1) (by omega))
  have hK := Aside0.mk (keyed_pg h (k : Int) j (by omega) (by omega) (by omega))
  have he := fromB_le b ((k : Int) - 1)
  have H := Aside0.mk h
  generalize fromB b (k : Int) = f at *
  generalize at_ b j = kl at *
  generalize fromB b ((k : Int) - 1) = e at *
  obtain ⟨m, hmm⟩ : ∃ m, f + kl = m := ⟨_, rfl⟩
  rw [hmm] at hm ⊢
  have c3 : wrap64 ((f : Int) + (kl : Int)) = (m : Int) := by unfold wrap64; omega
  obtain ⟨A1, n1, d1, -, hs1, hv1, -⟩ := sl g f m (by omega) (by omega)
  obtain ⟨A2, n2, d2, -, hs2, hv2, -⟩ := sl g m e (by omega) (by omega)
  have HV := Aside0.mk (And.intro (hv1 w.drew b H.out.drew) (hv2 w.drew b H.out.drew))
  clear hv1 hv2
  clear h hk hk2 hj hmm
  go_enter Try.func19, Try.ntmps19
  go_wp2_with fail
  refine (Len_pg H.out).mono ?_; rintro e w' ⟨rfl, rfl⟩
  go_wp2_with fail
  refine hF.out.mono ?_; rintro e w' ⟨rfl, rfl⟩
  go_wp2_with fail
  refine hE.out.mono ?_; rintro e w' ⟨rfl, rfl⟩
  go_wp2_with fail
  refine hK.out.mono ?_; rintro e w' ⟨rfl, rfl⟩
  clear hF hE hK
  go_wp2
  go_region_held3 (fun w' => (convert 30 9 (.slice (some A1) n1 d1)).run Try.prog w' = .ok (.string (cut b f m)) w' ∧ (convert 30 9 (.slice (some A2) n2 d2)).run Try.prog w' = .ok (.string (cut b m e)) w') (first | exact HV.out | fail) (fail)
  all_goals
    go_wp2
    exact bodyPost_ret (results_tmp2 rfl _ _ _) rfl ⟨rfl, Below.drew (Below.refl _ _)⟩
end Go.Proofs.Ytinbppcfdmbclaa.Pg

/-! The bytes that a page of cells has, by definition; what a page's small functions read of them. No condition beyond those that each theorem names. -/
namespace Go.Proofs.Ytinbppcfdmbclaa.Pg
open Go.RowKit Go.Proofs.YtinbppcfdmbclaaW.PrintWords Go.Proofs.YtinbppcfdmbclaaW.PrintLast Go.Proofs.YtinbppcfdmbclaaW.PrintMore
set_option linter.unusedVariables false
theorem cB_zero : ∀ a b : List UInt8, Lib.compareBytes a b = 0 ↔ a = b
  | [], [] => by simp [Lib.compareBytes]
  | [], _ :: _ => by simp [Lib.compareBytes]
  | _ :: _, [] => by simp [Lib.compareBytes]
  | a :: x, b :: y => by
    simp only [Lib.compareBytes]
    by_cases c1 : a < b
    · rw [if_pos c1]
      have : a ≠ b := fun e => by subst e; exact absurd c1 (UInt8.lt_irrefl a)
      simp [this]
    · by_cases c2 : b < a
      · rw [if_neg c1, if_pos c2]
        have : a ≠ b := fun e => by subst e; exact absurd c2 (UInt8.lt_irrefl a)
        simp [this]
      · rw [if_neg c1, if_neg c2, cB_zero x y]
        have : a = b := by
          rw [UInt8.lt_iff_toNat_lt] at c1 c2
          rw [← UInt8.toNat_inj]; omega
        simp [this]
theorem cB_less : ∀ a b : List UInt8, Lib.compareBytes a b = if Op.bytesLess a b = true then -1 else if Op.bytesLess b a = true then 1 else 0
  | [], [] => rfl
  | [], _ :: _ => rfl
  | _ :: _, [] => rfl
  | a :: x, b :: y => by
    simp only [Lib.compareBytes, Op.bytesLess]
    by_cases c1 : a < b
    · simp [c1]
    · by_cases c2 : b < a
      · have : a ≠ b := fun e => by subst e; exact absurd c2 (UInt8.lt_irrefl a)
        simp [c1, c2, this]
      · have : a = b := by
          rw [UInt8.lt_iff_toNat_lt] at c1 c2
          rw [← UInt8.toNat_inj]; omega
        subst this
        rw [if_neg c1, if_neg c1, cB_less x y]
        simp [c1]
theorem cB_trans : ∀ a b c : List UInt8, Lib.compareBytes a b = -1 → Lib.compareBytes b c = -1 → Lib.compareBytes a c = -1
  | _, [], [], _, h => by simp [Lib.compareBytes] at h
  | _, _ :: _, [], _, h => by simp [Lib.compareBytes] at h
  | [], [], _ :: _, h, _ => by simp [Lib.compareBytes] at h
  | _ :: _, [], _ :: _, h, _ => by simp [Lib.compareBytes] at h
  | [], _ :: _, _ :: _, _, _ => rfl
  | a :: x, b :: y, c :: z, h1, h2 => by
    simp only [Lib.compareBytes] at *
    have key : ∀ p q : UInt8, ¬ p < q → ¬ q < p → p = q := fun p q h h' => by
      rw [UInt8.lt_iff_toNat_lt] at h h'
      rw [← UInt8.toNat_inj]; omega
    by_cases c1 : a < b
    · by_cases c2 : b < c
      · rw [if_pos (UInt8.lt_trans c1 c2)]
      · rw [if_neg c2] at h2
        by_cases c3 : c < b
        · rw [if_pos c3] at h2; cases h2
        · obtain rfl := key b c c2 c3
          rw [if_pos c1]
    · rw [if_neg c1] at h1
      by_cases c2 : b < a
      · rw [if_pos c2] at h1; cases h1
      · rw [if_neg c2] at h1
        obtain rfl := key a b c1 c2
        by_cases c3 : a < c
        · rw [if_pos c3]
        · rw [if_neg c3] at h2 ⊢
          by_cases c4 : c < a
          · rw [if_pos c4] at h2; cases h2
          · rw [if_neg c4] at h2 ⊢
            exact cB_trans x y z h1 h2
theorem cB_three (a b : List UInt8) : Lib.compareBytes a b = -1 ∨ Lib.compareBytes a b = 0 ∨ Lib.compareBytes a b = 1 := by
  rw [cB_less]; split <;> (try split) <;> simp
theorem less_irrefl (a : List UInt8) : Op.bytesLess a a = false := by
  have h := (cB_zero a a).2 rfl
  rw [cB_less] at h
  by_cases h1 : Op.bytesLess a a = true
  · rw [if_pos h1] at h; cases h
  · simpa using h1
theorem less_trans {a b c : List UInt8} (h1 : Op.bytesLess a b = true) (h2 : Op.bytesLess b c = true) : Op.bytesLess a c = true := by
  have e1 : Lib.compareBytes a b = -1 := by rw [cB_less, if_pos h1]
  have e2 : Lib.compareBytes b c = -1 := by rw [cB_less, if_pos h2]
  have e3 := cB_trans a b c e1 e2
  rw [cB_less] at e3
  by_cases h : Op.bytesLess a c = true
  · exact h
  · rw [if_neg h] at e3; split at e3 <;> cases e3
theorem less_asymm {a b : List UInt8} (h1 : Op.bytesLess a b = true) : Op.bytesLess b a = false := by
  by_cases h : Op.bytesLess b a = true
  · have := less_trans h1 h
    rw [less_irrefl] at this; cases this
  · simpa using h
theorem less_total {a b : List UInt8} (h1 : Op.bytesLess a b = false) (hne : a ≠ b) : Op.bytesLess b a = true := by
  by_cases h : Op.bytesLess b a = true
  · exact h
  · exfalso; apply hne
    rw [← cB_zero, cB_less, if_neg (by simp [h1]), if_neg h]
theorem ba_list (a : ByteArray) : a.toList = a.data.toList := ByteArray.toList_eq a
theorem ba_ext {a b : ByteArray} (h : a.data.toList = b.data.toList) : a = b := by
  cases a; cases b; simp at h; subst h; rfl
/-- how many bytes a cell has -/
def cz (c : S66) : Nat := c.f0.size + c.f1.size
def cellB (c : S66) : List UInt8 := c.f0.data.toList ++ c.f1.data.toList
theorem sz (a : ByteArray) : a.data.toList.length = a.size := by rw [Array.length_toList]; rfl
theorem cellB_length (c : S66) : (cellB c).length = cz c := by rw [cellB, List.length_append, sz, sz]; rfl
/-- how many bytes all cells have -/
def total : List S66 → Nat
  | [] => 0
  | c :: t => cz c + total t
/-- the cells' bytes: the last cell first -/
def cellsB : List S66 → List UInt8
  | [] => []
  | c :: t => cellsB t ++ cellB c
theorem cellsB_length : ∀ L : List S66, (cellsB L).length = total L
  | [] => rfl
  | c :: t => by rw [cellsB, List.length_append, cellB_length, cellsB_length t, total]; omega
/-- where each cell begins, and how long its key is -/
def dirB (at' : Nat) : List S66 → List UInt8
  | [] => []
  | c :: t => by_ (at' - cz c) :: by_ c.f0.size :: dirB (at' - cz c) t
theorem dirB_length : ∀ (L : List S66) (a : Nat), (dirB a L).length = 2 * L.length
  | [], _ => rfl
  | c :: t, a => by rw [dirB]; simp only [List.length_cons, dirB_length t]; omega
def headB (kind : UInt8) (L : List S66) : List UInt8 := [kind, by_ L.length, by_ (total L), by_ (total L / 256), 0, 0, 0, 0]
/-- the bytes of a page of such cells, but for the sum -/
def encB (kind : UInt8) (L : List S66) : List UInt8 := headB kind L ++ (dirB 256 L ++ (List.replicate (248 - 2 * L.length - total L) 0 ++ cellsB L))
/-- is there room for such cells? -/
def Fits (L : List S66) : Prop := 2 * L.length + total L ≤ 248
theorem encB_length (kind : UInt8) (L : List S66) (h : Fits L) : (encB kind L).length = 256 := by
  unfold Fits at h
  simp only [encB, headB, List.length_append, List.length_cons, List.length_nil, dirB_length, cellsB_length, List.length_replicate]; omega
theorem total_append : ∀ A B : List S66, total (A ++ B) = total A + total B
  | [], B => by simp [total]
  | c :: t, B => by rw [List.cons_append, total, total, total_append t B]; omega
theorem cellsB_append : ∀ A B : List S66, cellsB (A ++ B) = cellsB B ++ cellsB A
  | [], B => by simp [cellsB]
  | c :: t, B => by rw [List.cons_append, cellsB, cellsB, cellsB_append t B]; simp
theorem dirB_append : ∀ (A B : List S66) (a : Nat), dirB a (A ++ B) = dirB a A ++ dirB (a - total A) B
  | [], B, a => by simp [dirB, total]
  | c :: t, B, a => by
    rw [List.cons_append, dirB, dirB, dirB_append t B, total]
    simp only [List.cons_append]
    rw [show a - cz c - total t = a - (cz c + total t) from by omega]
theorem total_take_le (L : List S66) (k : Nat) : total (L.take k) ≤ total L := by
  conv => rhs; rw [← List.take_append_drop k L, total_append]
  omega
theorem at_cons (x : UInt8) (b : List UInt8) (i : Nat) : at_ (x :: b) (i + 1) = at_ b i := by simp [at_]
theorem at_append_r (a b : List UInt8) (i : Nat) : at_ (a ++ b) (a.length + i) = at_ b i := by
  simp only [at_, List.getD_eq_getElem?_getD]
  rw [List.getElem?_append_right (by omega), Nat.add_sub_cancel_left]
theorem at_append_l (a b : List UInt8) (i : Nat) (h : i < a.length) : at_ (a ++ b) i = at_ a i := by
  simp [at_, List.getD_eq_getElem?_getD, List.getElem?_append, h]
theorem by_at (n : Nat) (h : n < 256) : (by_ n).toNat = n := by simp [by_]; omega
theorem enc_kind (kind : UInt8) (L : List S66) : at_ (encB kind L) 0 = kind.toNat := by simp [at_, encB, headB]
theorem enc_len (kind : UInt8) (L : List S66) (h : Fits L) : at_ (encB kind L) 1 = L.length := by
  unfold Fits at h
  rw [show at_ (encB kind L) 1 = (by_ L.length).toNat from by simp [at_, encB, headB], by_at _ (by omega)]
theorem enc_used (kind : UInt8) (L : List S66) (h : Fits L) : usedB (encB kind L) = total L := by
  unfold Fits at h
  rw [usedB, show at_ (encB kind L) 2 = (by_ (total L)).toNat from by simp [at_, encB, headB], show at_ (encB kind L) 3 = (by_ (total L / 256)).toNat from by simp [at_, encB, headB], by_at _ (by omega), by_at _ (by omega)]
  omega
theorem dir_at : ∀ (L : List S66) (a k : Nat) (h : k < L.length), total L ≤ a → a ≤ 256 → (∀ c ∈ L, 1 ≤ cz c ∧ c.f0.size < 256) → at_ (dirB a L) (2 * k) = a - total (L.take (k + 1)) ∧ at_ (dirB a L) (2 * k + 1) = L[k].f0.size
  | [], a, k, h, _, _, _ => absurd h (by simp)
  | c :: t, a, 0, h, h1, h2, h3 => by
    have := h3 c (by simp)
    rw [total] at h1
    refine ⟨?_, ?_⟩
    · rw [dirB, show at_ (by_ (a - cz c) :: by_ c.f0.size :: dirB (a - cz c) t) (2 * 0) = (by_ (a - cz c)).toNat from rfl, by_at _ (by omega)]
      simp [total]
    · rw [dirB, show at_ (by_ (a - cz c) :: by_ c.f0.size :: dirB (a - cz c) t) (2 * 0 + 1) = (by_ c.f0.size).toNat from rfl, by_at _ (by omega)]
      rfl
  | c :: t, a, k + 1, h, h1, h2, h3 => by
    rw [total] at h1
    obtain ⟨e1, e2⟩ := dir_at t (a - cz c) k (by simpa using h) (by omega) (by omega) (fun x hx => h3 x (by simp [hx]))
    rw [dirB]
    refine ⟨?_, ?_⟩
    · rw [show 2 * (k + 1) = 2 * k + 1 + 1 from by omega, at_cons, at_cons, e1, List.take_succ_cons, total]; omega
    · rw [show 2 * (k + 1) + 1 = 2 * k + 1 + 1 + 1 from by omega, at_cons, at_cons, e2]; rfl
/-- the cells that a page may have -/
structure Cells (L : List S66) : Prop where
  fits : Fits L
  each : ∀ c ∈ L, 1 ≤ c.f0.size ∧ c.f0.size ≤ 80 ∧ c.f0.size + c.f1.size ≤ 100
  asc : L.Pairwise fun c d => Op.bytesLess c.f0.toList d.f0.toList = true
theorem Cells.le {L : List S66} (h : Cells L) : L.length ≤ total L := by
  have : ∀ M : List S66, (∀ c ∈ M, 1 ≤ c.f0.size) → M.length ≤ total M := by
    intro M
    induction M with
    | nil => intro; simp [total]
    | cons c t ih => intro hM; have := ih (fun x hx => hM x (by simp [hx])); have := hM c (by simp); simp only [List.length_cons, total, cz]; omega
  exact this L fun c hc => (h.each c hc).1
theorem enc_from (kind : UInt8) (L : List S66) (h : Cells L) (k : Nat) (hk : k < L.length) : at_ (encB kind L) (8 + 2 * k) = 256 - total (L.take (k + 1)) ∧ at_ (encB kind L) (9 + 2 * k) = L[k].f0.size := by
  have hf := h.fits
  unfold Fits at hf
  obtain ⟨e1, e2⟩ := dir_at L 256 k hk (by omega) (by omega) (fun c hc => by have := h.each c hc; unfold cz; omega)
  have hd := dirB_length L 256
  refine ⟨?_, ?_⟩
  · rw [encB, show 8 + 2 * k = (headB kind L).length + 2 * k from rfl, at_append_r, at_append_l _ _ _ (by omega), e1]
  · rw [encB, show 9 + 2 * k = (headB kind L).length + (2 * k + 1) from by simp [headB]; omega, at_append_r, at_append_l _ _ _ (by omega), e2]
theorem enc_fromB (kind : UInt8) (L : List S66) (h : Cells L) (k : Nat) (hk : k ≤ L.length) : fromB (encB kind L) ((k : Int) - 1) = 256 - total (L.take k) := by
  unfold fromB
  split
  · obtain rfl : k = 0 := by omega
    simp [total]
  · obtain ⟨j, rfl⟩ : ∃ j, k = j + 1 := ⟨k - 1, by omega⟩
    rw [show (((j + 1 : Nat) : Int) - 1).toNat = j from by omega, (enc_from kind L h j (by omega)).1]
theorem enc_fromB' (kind : UInt8) (L : List S66) (h : Cells L) (k : Nat) (hk : k < L.length) : fromB (encB kind L) (k : Int) = 256 - total (L.take (k + 1)) := by
  have := enc_fromB kind L h (k + 1) (by omega)
  rwa [show (((k + 1 : Nat) : Int) - 1) = (k : Int) from by omega] at this
theorem total_take_succ (L : List S66) (k : Nat) (hk : k < L.length) : total (L.take (k + 1)) = total (L.take k) + cz L[k] := by
  rw [List.take_succ_eq_append_getElem hk, total_append]; simp [total]
/-- the last bytes of a page -/
theorem enc_drop (kind : UInt8) (L : List S66) (h : Cells L) (k : Nat) (hk : k ≤ L.length) : (encB kind L).drop (256 - total (L.take k)) = cellsB (L.take k) := by
  have hl := encB_length kind L h.fits
  have h1 : total (L.take k) ≤ total L := total_take_le L k
  have hf := h.fits
  unfold Fits at hf
  have e : encB kind L = (headB kind L ++ (dirB 256 L ++ (List.replicate (248 - 2 * L.length - total L) 0 ++ cellsB (L.drop k)))) ++ cellsB (L.take k) := by
    conv => lhs; rw [encB]
    rw [show cellsB L = cellsB (L.drop k) ++ cellsB (L.take k) from by rw [← cellsB_append, List.take_append_drop]]
    simp
  rw [e, List.drop_append, List.drop_eq_nil_of_le, List.nil_append]
  · have hh := congrArg List.length e
    rw [hl, List.length_append, cellsB_length] at hh
    rw [show 256 - total (L.take k) - _ = 0 from by omega, List.drop_zero]
  · have hh := congrArg List.length e
    rw [hl, List.length_append, cellsB_length] at hh
    omega
theorem enc_cell (kind : UInt8) (L : List S66) (h : Cells L) (k : Nat) (hk : k < L.length) : cut (encB kind L) (256 - total (L.take (k + 1))) (256 - total (L.take (k + 1)) + L[k].f0.size) = L[k].f0 ∧ cut (encB kind L) (256 - total (L.take (k + 1)) + L[k].f0.size) (256 - total (L.take k)) = L[k].f1 := by
  have hd := enc_drop kind L h (k + 1) (by omega)
  have ht := total_take_succ L k hk
  have hle := total_take_le L (k + 1)
  have hf := h.fits
  unfold Fits at hf
  have e : cellsB (L.take (k + 1)) = L[k].f0.data.toList ++ (L[k].f1.data.toList ++ cellsB (L.take k)) := by
    rw [List.take_succ_eq_append_getElem hk, cellsB_append]; simp [cellsB, cellB]
  have s0 : L[k].f0.size = L[k].f0.data.toList.length := (sz _).symm
  have s1 : L[k].f1.size = L[k].f1.data.toList.length := (sz _).symm
  refine ⟨ba_ext ?_, ba_ext ?_⟩
  · show ((encB kind L).drop _).take _ = _
    rw [hd, e, show 256 - total (L.take (k + 1)) + L[k].f0.size - (256 - total (L.take (k + 1))) = L[k].f0.data.toList.length from by omega, List.take_left]
  · show ((encB kind L).drop _).take _ = _
    rw [← List.drop_drop, hd, e, s0, List.drop_left, show 256 - total (L.take k) - (256 - total (L.take (k + 1)) + L[k].f0.data.toList.length) = L[k].f1.data.toList.length from by unfold cz at ht; omega, List.take_left]
/-- A page of such cells. -/
structure PGL (w : World) (g : Nat) (kind : UInt8) (L : List S66) : Prop where
  pg : PG w g (encB kind L)
  cells : Cells L
theorem At_cell {w : World} {g : Nat} {kind : UInt8} {L : List S66} (h : PGL w g kind L) (k : Nat) (hk : k < L.length) : Calls Try.prog 19 #[.pointer (some ⟨g, 0, none⟩), .int .i64 (k : Int)] w fun e w' => e = .returned (.tuple #[.string L[k].f0, .string L[k].f1]) ∧ Below w.heap.size w w' := by
  have hf := h.cells.fits
  unfold Fits at hf
  have e1 := enc_fromB' kind L h.cells k hk
  have e2 := enc_fromB kind L h.cells k (by omega)
  have e3 := (enc_from kind L h.cells k hk).2
  have e4 := enc_cell kind L h.cells k hk
  have ht := total_take_succ L k hk
  have hle := total_take_le L (k + 1)
  have h1 := h.cells.each L[k] (List.getElem_mem hk)
  have := At_pg h.pg k (9 + 2 * k) (by rw [enc_len _ _ h.cells.fits]; exact hk) (by omega) rfl (by rw [e1, e2, e3]; unfold cz at ht; omega) (by rw [e1]; unfold cz at ht; omega)
  rw [e1, e2, e3, e4.1, e4.2] at this
  exact this
theorem At_none {w : World} {g : Nat} {kind : UInt8} {L : List S66} (h : PGL w g kind L) (k : Int) (hk : k < 0 ∨ (L.length : Int) ≤ k) : Calls Try.prog 19 #[.pointer (some ⟨g, 0, none⟩), .int .i64 k] w fun e w' => e = .returned (.tuple #[.string ⟨#[]⟩, .string ⟨#[]⟩]) ∧ w' = w :=
  At_out h.pg k (by rw [enc_len _ _ h.cells.fits]; exact hk)
end Go.Proofs.Ytinbppcfdmbclaa.Pg

/-! A page's Find, walked: the place of a key among the cells. No condition beyond those that each theorem names. -/
namespace Go.Proofs.Ytinbppcfdmbclaa.Pg
open Go.RowKit Go.Proofs.YtinbppcfdmbclaaW.PrintWords Go.Proofs.YtinbppcfdmbclaaW.PrintLast Go.Proofs.YtinbppcfdmbclaaW.PrintMore
set_option linter.unusedVariables false
set_option linter.unusedSimpArgs false
/-- how many cells have a lesser key -/
def fN : List S66 → ByteArray → Nat
  | [], _ => 0
  | c :: t, key => if Op.bytesLess c.f0.toList key.toList = true then fN t key + 1 else 0
/-- is there a cell of that key? -/
def there (L : List S66) (key : ByteArray) : Bool := match L[fN L key]? with
  | some c => c.f0.toList == key.toList
  | none => false
theorem fN_le : ∀ (L : List S66) (key : ByteArray), fN L key ≤ L.length
  | [], _ => by simp [fN]
  | c :: t, key => by unfold fN; split <;> simp [fN_le t key]
theorem fN_eq : ∀ (L : List S66) (key : ByteArray) (k : Nat), k ≤ L.length → (∀ i (h : i < L.length), i < k → Op.bytesLess L[i].f0.toList key.toList = true) → (∀ h : k < L.length, Op.bytesLess L[k].f0.toList key.toList = false) → fN L key = k
  | [], key, k, hk, _, _ => by simp at hk; subst hk; rfl
  | c :: t, key, 0, hk, h1, h2 => by
    have := h2 (by simp)
    simp only [List.getElem_cons_zero] at this
    rw [fN, this]; rfl
  | c :: t, key, k + 1, hk, h1, h2 => by
    have e0 := h1 0 (by simp) (by omega)
    simp only [List.getElem_cons_zero] at e0
    rw [fN, if_pos e0, fN_eq t key k (by simpa using hk) (fun i h hi => by have := h1 (i + 1) (by simp; omega) (by omega); simpa using this) (fun h => by have := h2 (by simp; omega); simpa using this)]
theorem asc_lt {L : List S66} (h : L.Pairwise fun c d => Op.bytesLess c.f0.toList d.f0.toList = true) (i j : Nat) (hi : i < L.length) (hj : j < L.length) (hij : i < j) : Op.bytesLess L[i].f0.toList L[j].f0.toList = true :=
  List.pairwise_iff_getElem.1 h i j hi hj hij
theorem PGL.below {w w' : World} {g : Nat} {kind : UInt8} {L : List S66} (h : PGL w g kind L) (k : Below w.heap.size w w') : PGL w' g kind L := ⟨h.pg.below k, h.cells⟩
set_option maxHeartbeats 4000000 in
theorem Find_pg {w : World} {g : Nat} {kind : UInt8} {L : List S66} (h : PGL w g kind L) (key : ByteArray) : Calls Try.prog 26 #[.pointer (some ⟨g, 0, none⟩), .string key] w fun e w' => e = .returned (.tuple #[.int .i64 (fN L key : Int), .bool (there L key)]) ∧ Below w.heap.size w w' := by
  have HL := Aside0.mk (show (Calls Try.prog 21 #[.pointer (some ⟨g, 0, none⟩)] w fun e w' => e = .returned (.int .i64 (L.length : Int)) ∧ w' = w) from by have := Len_pg h.pg; rwa [enc_len _ _ h.cells.fits] at this)
  have H := Aside0.mk h
  have HN : Aside0 (L.length ≤ 124) := ⟨by have := h.cells.fits; unfold Fits at this; omega⟩
  clear h
  go_enter Try.func26, Try.ntmps26
  go_wp2_with fail
  refine HL.out.mono ?_; rintro e w' ⟨rfl, rfl⟩
  clear HL
  go_wp2
  go_loopw [6, 7] (fun v6 v7 wr => ∃ lo hi : Nat, v6 = .int .i64 lo ∧ v7 = .int .i64 hi ∧ Aside0 (lo ≤ hi ∧ hi ≤ L.length ∧ (∀ i (h : i < L.length), i < lo → Op.bytesLess L[i].f0.toList key.toList = true) ∧ (∀ i (h : i < L.length), hi ≤ i → Op.bytesLess key.toList L[i].f0.toList = true)) ∧ Aside0 (Below w'.heap.size w' wr)) (fun v6 v7 _ => (Lib.intOf v7).toNat - (Lib.intOf v6).toNat)
  case atStart => exact ⟨0, L.length, rfl, rfl, ⟨by omega, by omega, fun i h hi => by omega, fun i h hi => by omega⟩, ⟨Below.refl _ _⟩⟩
  case round =>
    obtain ⟨lo, hi, rfl, rfl, hI, HB⟩ := hrel
    by_cases hlt : lo < hi
    · have d0 : decide ((lo : Int) < (hi : Int)) = true := decide_eq_true (by omega)
      have d1 : decide (lo < hi) = true := decide_eq_true hlt
      obtain ⟨mid, hmid⟩ : ∃ mid : Nat, (lo + hi) / 2 = mid := ⟨_, rfl⟩
      have hm1 : Aside0 (lo ≤ mid ∧ mid < hi ∧ mid < L.length) := ⟨by have := hI.out; omega⟩
      have e1 : wrap64 ((lo : Int) + (hi : Int)) = ((lo + hi : Nat) : Int) := by have := hI.out.2.1; have := HN.out; unfold wrap64; omega
      have e2 : ((lo : Int) + (hi : Int)) / 2 = (mid : Int) := by omega
      have e3 : Int.tdiv ((lo : Int) + (hi : Int)) 2 = (mid : Int) := by rw [Int.tdiv_eq_ediv_of_nonneg (by omega)]; omega
      have e4 : wrap64 (mid : Int) = (mid : Int) := by have := hm1.out; have := HN.out; unfold wrap64; omega
      have e5 : wrap64 ((mid : Int) + 1) = ((mid + 1 : Nat) : Int) := by have := hm1.out; have := HN.out; unfold wrap64; omega
      clear hmid hlt
      go_wp2_with fail
      with_reducible refine (At_cell (H.out.below HB.out) mid hm1.out.2.2).mono ?_; rintro e w2 ⟨rfl, hb⟩
      have HB2 := Aside0.mk (below_step HB.out hb)
      clear hb HB
      obtain ⟨c, hc⟩ : ∃ c, L[mid]'hm1.out.2.2 = c := ⟨_, rfl⟩
      rw [hc]
      have HC := Aside0.mk hc
      clear hc
      by_cases ce : c.f0.toList = key.toList
      · have f0 : (c.f0.toList == key.toList) = true := beq_iff_eq.2 ce
        have f1 : decide (c.f0 = key) = true := decide_eq_true (ba_ext (by rw [← ba_list, ← ba_list]; exact ce))
        have HR : Aside0 (fN L key = mid ∧ there L key = true) := ⟨by
          have hA := H.out.cells.asc
          have e1 : fN L key = mid := fN_eq L key mid (by have := hm1.out; omega) (fun i h hi => by have := asc_lt hA i mid h hm1.out.2.2 hi; rw [HC.out, ce] at this; exact this) (fun h => by rw [HC.out, ce]; exact less_irrefl _)
          refine ⟨e1, ?_⟩
          unfold there; rw [e1, List.getElem?_eq_getElem hm1.out.2.2, HC.out]; exact f0⟩
        clear ce
        go_wp2
        exact bodyPost_ret (results_tmp2 rfl _ _ _) rfl ⟨by rw [HR.out.1, HR.out.2]; rfl, HB2.out⟩
      · have f0 : (c.f0.toList == key.toList) = false := beq_eq_false_iff_ne.2 ce
        have f1 : decide (c.f0 = key) = false := decide_eq_false (fun e => ce (by rw [e]))
        by_cases cl : Op.bytesLess c.f0.toList key.toList = true
        · have HR : Aside0 (∀ i (h : i < L.length), i < mid + 1 → Op.bytesLess L[i].f0.toList key.toList = true) := ⟨fun i h hi => by
            by_cases hi2 : i = mid
            · subst hi2; rw [HC.out]; exact cl
            · have := asc_lt H.out.cells.asc i mid h hm1.out.2.2 (by omega); rw [HC.out] at this; exact less_trans this cl⟩
          clear ce
          go_wp2
          go_roundw
          case rel => exact ⟨mid + 1, hi, by rw [e5], rfl, ⟨by have := hm1.out; omega, hI.out.2.1, HR.out, hI.out.2.2.2⟩, ⟨HB2.out⟩⟩
          case measure => have := hm1.out; rw [e5]; simp [Lib.intOf]; omega
        · have cl' : Op.bytesLess c.f0.toList key.toList = false := by simpa using cl
          have HR : Aside0 (∀ i (h : i < L.length), mid ≤ i → Op.bytesLess key.toList L[i].f0.toList = true) := ⟨fun i h hi => by
            have h1 := less_total cl' ce
            by_cases hi2 : i = mid
            · subst hi2; rw [HC.out]; exact h1
            · have := asc_lt H.out.cells.asc mid i hm1.out.2.2 h (by omega); rw [HC.out] at this; exact less_trans h1 this⟩
          clear ce cl
          go_wp2
          go_roundw
          case rel => exact ⟨lo, mid, rfl, rfl, ⟨hm1.out.1, by have := hm1.out; omega, hI.out.2.2.1, HR.out⟩, ⟨HB2.out⟩⟩
          case measure => have := hm1.out; simp [Lib.intOf]; omega
    · obtain rfl : lo = hi := by have := hI.out; omega
      have d0 : decide ((lo : Int) < (lo : Int)) = false := decide_eq_false (by omega)
      have HR : Aside0 (fN L key = lo ∧ there L key = false) := ⟨by
        obtain ⟨_, h2, h3, h4⟩ := hI.out
        have e1 : fN L key = lo := fN_eq L key lo h2 h3 (fun h => less_asymm (h4 lo h (Nat.le_refl _)))
        refine ⟨e1, ?_⟩
        unfold there
        rw [e1]
        by_cases hl : lo < L.length
        · rw [List.getElem?_eq_getElem hl]
          have := h4 lo hl (Nat.le_refl _)
          refine beq_eq_false_iff_ne.2 (fun e => ?_)
          rw [e, less_irrefl] at this; cases this
        · rw [List.getElem?_eq_none (by omega)]⟩
      clear hlt
      go_wp2
      exact bodyPost_ret (results_tmp2 rfl _ _ _) rfl ⟨by rw [HR.out.1, HR.out.2]; rfl, HB.out⟩
end Go.Proofs.Ytinbppcfdmbclaa.Pg

/-! Parts of a page's array, copied over and cleared. No condition beyond those that each theorem names. -/
namespace Go.Proofs.Ytinbppcfdmbclaa.Pg
open Go.RowKit Go.Proofs.YtinbppcfdmbclaaW.PrintWords Go.Proofs.YtinbppcfdmbclaaW.PrintLast Go.Proofs.YtinbppcfdmbclaaW.PrintMore
set_option linter.unusedVariables false
set_option linter.unusedSimpArgs false
theorem splice_len {b cs : List UInt8} {o : Nat} (hb : b.length = 256) (h : o + cs.length ≤ 256) : (splice b o cs).length = 256 := by rw [length_splice _ _ _ (by omega), hb]
theorem PG.row {w : World} {g : Nat} {b : List UInt8} (h : PG w g b) (o : Nat) (cs : List UInt8) (hl : o + cs.length ≤ 256) : PG (w.setRow g ((pgL b).toArray.toList.take o ++ cs.map u8 ++ (pgL b).toArray.toList.drop (o + cs.length)).toArray) g (splice b o cs) := by
  refine ⟨?_, splice_len h.len hl⟩
  rw [setRow_heap w g _ _ 58 (0, 0) h.blk]
  congr 3
  have hb := h.len
  simp only [pgL, splice, List.map_append, List.map_take, List.map_drop]
  rw [List.take_append_of_le_length (by simp; omega), List.drop_append_of_le_length (by simp; omega)]
  simp
theorem BelX.row {g : Nat} {a b : World} (h : BelX g a b) (cs : Array Value) : BelX g a (b.setRow g cs) :=
  ⟨h.os, h.tape, h.output, by simpa [World.setRow] using h.size, fun k hk hg => (setRow_other b g k cs hg).trans (h.block k hk hg)⟩
theorem u8_one (l : List UInt8) : ∀ v ∈ l.map u8, v.oneCell' = true := by
  intro v hv
  obtain ⟨b, _, rfl⟩ := List.mem_map.1 hv
  rfl
theorem PG.part {w : World} {g : Nat} {b : List UInt8} (h : PG w g b) (s e : Nat) (he : e ≤ 256) : ∀ (j : Nat) (v : Value), (((b.drop s).take (e - s)).map u8)[j]? = some v → w.cell? ((⟨g, s, none⟩ : Addr).add j) = some v := by
  intro j v hj
  have hb := h.len
  obtain ⟨hl, hv⟩ := List.getElem?_eq_some_iff.1 hj
  have hl' : j < e - s ∧ j < 256 - s := by simp at hl; omega
  rw [show (⟨g, s, none⟩ : Addr).add j = ⟨g, s + j, none⟩ from by unfold Addr.add; split <;> simp_all, h.cell (s + j) (by omega), ← hv]
  simp only [List.getElem_map, u8, List.getElem_take, List.getElem_drop, at_, List.getD_eq_getElem?_getD]
  rw [List.getElem?_eq_getElem (by omega)]; rfl
/-- 'copy(b[d:], b[s:e])' -/
theorem copy_pg {w : World} {g : Nat} {b : List UInt8} (h : PG w g b) (A B : Addr) (d s e nd cd ns cs : Nat) (hns : ns = e - s) (hA : 0 < nd → A = ⟨g, d, none⟩) (hB : 0 < ns → B = ⟨g, s, none⟩) (hse : s ≤ e) (he : e ≤ 256) (hle : ns ≤ nd) (hd : d + ns ≤ 256) :
    ∃ w', (Builtin.copy_ #[30, 30] 3 #[.slice (some A) nd cd, .slice (some B) ns cs]).run Try.prog w = .ok (.int .i64 (ns : Int)) w' ∧ PG w' g (splice b d ((b.drop s).take (e - s))) ∧ BelX g w w' := by
  have hb := h.len
  have hlen : ((b.drop s).take (e - s)).length = ns := by simp; omega
  have hs5 : (Try.prog.info? 5).map (·.size) = some 1 := by
    obtain ⟨i0, hi, hz⟩ := Option.map_eq_some_iff.1 info5
    simp only [Prod.mk.injEq] at hz
    rw [hi, Option.map_some, hz.2.1]
  by_cases h0 : ns = 0
  · refine ⟨w, ?_, ?_, BelX.refl _ _⟩
    · rw [run_copy_none (P := Try.prog) w 30 30 3 5 (some A) (some B) nd cd ns cs Try.underlying30 hs5 (by rw [h0]; exact Nat.zero_min _), h0]; rfl
    · have : (b.drop s).take (e - s) = [] := List.eq_nil_of_length_eq_zero (by omega)
      rw [this]
      have : splice b d [] = b := by simp [splice]
      rwa [this]
  · obtain rfl := hA (by omega)
    obtain rfl := hB (by omega)
    have hrun := run_copy_row (P := Try.prog) w 30 30 3 5 g d nd cd ⟨g, s, none⟩ ns cs _ 58 (((b.drop s).take (e - s)).map u8) Try.underlying30 hs5 h.blk (by rw [List.length_map, hlen]; exact (Nat.min_eq_left hle).symm) (h.part s e he) (by simp [pgL, hb]; omega) (u8_one _)
    have hrow := h.row d ((b.drop s).take (e - s)) (by omega)
    rw [List.length_map, hlen] at hrun
    rw [hlen] at hrow
    exact ⟨_, hrun, hrow, (BelX.refl g w).row _⟩
/-- 'clear(b[l:h])' -/
theorem clear_pg {w : World} {g : Nat} {b : List UInt8} (h : PG w g b) (A : Addr) (l n c : Nat) (hA : 0 < n → A = ⟨g, l, none⟩) (hl : l + n ≤ 256) (ty : TypeId) :
    ∃ w', (Builtin.clear_ #[30] ty #[.slice (some A) n c]).run Try.prog w = .ok (.tuple #[]) w' ∧ PG w' g (splice b l (List.replicate n 0)) ∧ BelX g w w' := by
  have hb := h.len
  cases n with
  | zero =>
    refine ⟨w, ?_, ?_, BelX.refl _ _⟩
    · simp [Builtin.clear_, run_underlying Try.underlying30]
    · have : splice b l (List.replicate 0 0) = b := by simp [splice]
      rwa [this]
  | succ m =>
    obtain rfl := hA (by omega)
    have hzc : (Builtin.zeroCells (Value.int .u8 0).cells (m + 1)).toList = (List.replicate (m + 1) (0 : UInt8)).map u8 := by
      rw [show (Value.int .u8 0).cells = #[.int .u8 0] from rfl, List.map_replicate, show u8 0 = .int .u8 0 from rfl]
      simp [Builtin.zeroCells]
      apply List.ext_getElem
      · simp
      · intro i h1 h2
        simp [Nat.mod_one]
    have hst := run_storeCells_at Try.prog g l 58 ((List.replicate (m + 1) (0 : UInt8)).map u8) 0 _ w h.blk (by simp [pgL, hb]; omega) (u8_one _)
    simp only [Nat.add_zero] at hst
    refine ⟨_, ?_, ?_, (BelX.refl g w).row ((pgL b).toArray.toList.take l ++ (List.replicate (m + 1) (0 : UInt8)).map u8 ++ (pgL b).toArray.toList.drop (l + ((List.replicate (m + 1) (0 : UInt8)).map u8).length)).toArray⟩
    · simp only [Builtin.clear_, Sem.run_bind, Sem.run_pure, Result.andThen_ok, run_underlying Try.underlying30, List.getElem?_toArray, List.getElem?_cons_zero]
      rw [Try.zeroValue5]
      simp only [Result.andThen_ok, hzc, hst]
    · have := h.row l (List.replicate (m + 1) 0) (by simp; omega)
      rw [List.length_map]; exact this
/-- 'copy(b[l:h], s)', the text as long as the part -/
theorem copy_str_pg {w : World} {g : Nat} {b : List UInt8} (h : PG w g b) (A : Addr) (d n c : Nat) (s : ByteArray) (hA : 0 < n → A = ⟨g, d, none⟩) (hn : s.size = n) (hd : d + n ≤ 256) :
    ∃ w', (Builtin.copy_ #[30, 9] 3 #[.slice (some A) n c, .string s]).run Try.prog w = .ok (.int .i64 (n : Int)) w' ∧ PG w' g (splice b d s.data.toList) ∧ BelX g w w' := by
  have hb := h.len
  have hs5 : (Try.prog.info? 5).map (·.size) = some 1 := by
    obtain ⟨i0, hi, hz⟩ := Option.map_eq_some_iff.1 info5
    simp only [Prod.mk.injEq] at hz
    rw [hi, Option.map_some, hz.2.1]
  have hsz : s.data.toList.length = n := by rw [Array.length_toList]; exact hn
  by_cases h0 : n = 0
  · refine ⟨w, ?_, ?_, BelX.refl _ _⟩
    · rw [Lib.run_copy_empty_string (P := Try.prog) w 30 9 3 5 (some A) n c s Try.underlying30 (by rw [hs5]; rfl) (by omega), h0]; rfl
    · have : s.data.toList = [] := List.eq_nil_of_length_eq_zero (by omega)
      rw [this]
      have : splice b d [] = b := by simp [splice]
      rwa [this]
  · obtain rfl := hA (by omega)
    have hrun := Lib.run_copy_row_string (P := Try.prog) w 30 9 3 5 g d n c s _ 58 Try.underlying30 hs5 h.blk (by omega) (by simp [pgL, hb]; omega)
    have hrow := h.row d s.data.toList (by omega)
    rw [hsz] at hrow
    rw [hn] at hrun
    exact ⟨_, hrun, hrow, (BelX.refl g w).row _⟩
end Go.Proofs.Ytinbppcfdmbclaa.Pg

/-! What happens to a page's bytes when room for a cell is made, and when a cell is taken out: plain law. No condition beyond those that each theorem names. -/
namespace Go.Proofs.Ytinbppcfdmbclaa.Pg
open Go.RowKit
set_option linter.unusedVariables false
set_option linter.unusedSimpArgs false
theorem splice_mid {P Q R Q' : List UInt8} {o : Nat} (hP : P.length = o) (hQ : Q.length = Q'.length) : splice (P ++ (Q ++ R)) o Q' = P ++ (Q' ++ R) := by
  subst hP
  unfold splice
  rw [List.take_left, ← hQ, ← List.drop_drop, List.drop_left, List.drop_left]
theorem drop_take_mid {P Q R : List UInt8} {o n : Nat} (hP : P.length = o) (hQ : Q.length = n) : ((P ++ (Q ++ R)).drop o).take n = Q := by
  subst hP; subst hQ
  rw [List.drop_left, List.take_left]
/-- the directory half turned: the first cells' places count from another end -/
def halfB (P R : List UInt8) (a a' : Nat) (B : List S66) (m : Nat) : List UInt8 := P ++ (dirB a' (B.take m) ++ (dirB (a - total (B.take m)) (B.drop m) ++ R))
theorem halfB_zero (P R : List UInt8) (a a' : Nat) (B : List S66) : halfB P R a a' B 0 = P ++ (dirB a B ++ R) := by simp [halfB, dirB, total]
theorem halfB_all (P R : List UInt8) (a a' : Nat) (B : List S66) : halfB P R a a' B B.length = P ++ (dirB a' B ++ R) := by simp [halfB, dirB, total]
theorem halfB_low (P R : List UInt8) (a a' : Nat) (B : List S66) (m i : Nat) (hi : i < P.length) : at_ (halfB P R a a' B m) i = at_ P i := at_append_l _ _ _ hi
theorem halfB_at (P R : List UInt8) (a a' : Nat) (B : List S66) (m : Nat) (hm : m < B.length) (ha : a ≤ 256) (hc : 1 ≤ cz B[m]) (ht : total B ≤ a) : at_ (halfB P R a a' B m) (P.length + 2 * m) = a - total (B.take (m + 1)) := by
  have h1 := total_take_succ B m hm
  have hd := dirB_length (B.take m) a'
  have h2 := total_take_le B (m + 1)
  rw [List.length_take, Nat.min_eq_left (by omega)] at hd
  rw [halfB, at_append_r, ← hd, show (dirB a' (B.take m)).length = (dirB a' (B.take m)).length + 0 from rfl, at_append_r, List.drop_eq_getElem_cons hm, dirB]
  rw [show at_ (by_ (a - total (B.take m) - cz B[m]) :: by_ B[m].f0.size :: dirB (a - total (B.take m) - cz B[m]) (B.drop (m + 1)) ++ R) 0 = (by_ (a - total (B.take m) - cz B[m])).toNat from rfl, by_at _ (by omega)]
  omega
theorem set_append_r (A B : List UInt8) (i : Nat) (x : UInt8) : (A ++ B).set (A.length + i) x = A ++ B.set i x := by
  rw [List.set_append, if_neg (by omega), Nat.add_sub_cancel_left]
theorem halfB_step (P R : List UInt8) (a a' : Nat) (B : List S66) (m : Nat) (hm : m < B.length) : (halfB P R a a' B m).set (P.length + 2 * m) (by_ (a' - total (B.take (m + 1)))) = halfB P R a a' B (m + 1) := by
  have h1 := total_take_succ B m hm
  have hd := dirB_length (B.take m) a'
  rw [List.length_take, Nat.min_eq_left (by omega)] at hd
  rw [halfB, set_append_r, ← hd, show (dirB a' (B.take m)).length = (dirB a' (B.take m)).length + 0 from rfl, set_append_r, List.drop_eq_getElem_cons hm, dirB, halfB, List.take_succ_eq_append_getElem hm, dirB_append, total_append]
  simp only [dirB, total, List.cons_append, List.set_cons_zero, List.append_assoc, List.nil_append, Nat.add_zero]
  rw [show a' - (total (B.take m) + cz B[m]) = a' - total (B.take m) - cz B[m] from by omega, show a - (total (B.take m) + cz B[m]) = a - total (B.take m) - cz B[m] from by omega]
theorem setsB_head (kind : UInt8) (x y z : UInt8) (r : List UInt8) (n u : Nat) : setsB (kind :: x :: y :: z :: r) n u = kind :: by_ n :: by_ u :: by_ (u / 256) :: r := by
  simp [setsB]
theorem enc_parts (kind : UInt8) (A B : List S66) : encB kind (A ++ B) = headB kind (A ++ B) ++ (dirB 256 A ++ (dirB (256 - total A) B ++ (List.replicate (248 - 2 * (A.length + B.length) - (total A + total B)) 0 ++ (cellsB B ++ cellsB A)))) := by
  rw [encB, dirB_append, cellsB_append, List.length_append, total_append, List.append_assoc]
end Go.Proofs.Ytinbppcfdmbclaa.Pg

/-! Room for a cell is made in a page, and a cell is taken out: walked. No condition beyond those that each theorem names. -/
namespace Go.Proofs.Ytinbppcfdmbclaa.Pg
open Go.RowKit Go.Proofs.YtinbppcfdmbclaaW.PrintWords Go.Proofs.YtinbppcfdmbclaaW.PrintLast Go.Proofs.YtinbppcfdmbclaaW.PrintMore
set_option linter.unusedVariables false
set_option linter.unusedSimpArgs false
theorem prun_l {w : World} (l : Nat) (g : Nat) (h1 : l ≤ 256) : (Instr.sliceAt 56 (.pointer (some ⟨g, 0, none⟩)) (some (.int .i64 (l : Int))) none none).run Try.prog w = .ok (.slice (some (if 256 = l then ⟨g, 0, none⟩ else ⟨g, l, none⟩)) (256 - l) (256 - l)) w := by
  have ha : Try.prog.arrayLen 56 = 256 := by kernel_rfl
  have hs : (sizeOf (Try.prog.elem 56)).run Try.prog w = .ok 1 w := by
    rw [show Try.prog.elem 56 = 5 from by kernel_rfl]
    obtain ⟨i0, hi, -⟩ := Option.map_eq_some_iff.1 info5
    rw [run_sizeOf (P := Try.prog) w hi, show Try.prog.cellsOf 5 = 1 from by kernel_rfl]
  rw [run_sliceAt_array_l (P := Try.prog) w 56 ⟨g, 0, none⟩ (by kernel_rfl) .i64 (l : Int) (by omega) (by rw [ha]; omega), hs]
  simp [Result.andThen, slicedAt, ha, Addr.add]
  by_cases h0 : l = 0
  · subst h0; simp
  · rw [if_neg h0]
/-- a page's array from a place on -/
theorem sl_l (g l : Nat) (h1 : l ≤ 256) : ∃ (A : Addr) (n c : Nat), n = 256 - l ∧ (∀ w, (Instr.sliceAt 56 (.pointer (some ⟨g, 0, none⟩)) (some (.int .i64 (l : Int))) none none).run Try.prog w = .ok (.slice (some A) n c) w) ∧ (0 < n → A = ⟨g, l, none⟩) :=
  ⟨_, _, _, rfl, fun w => prun_l l g h1, fun hn => by rw [if_neg (by omega)]⟩
theorem w64s (x : Int) (h0 : -1000000 ≤ x) (h1 : x ≤ 1000000) : wrap64 x = x := by unfold wrap64; omega
theorem i64s (x : Int) (h0 : -1000000 ≤ x) (h1 : x ≤ 1000000) : IntKind.i64.wrap x = x := (i64_w _).trans (w64s x h0 h1)
theorem up_lt (l1 i j : Nat) (h : j = i + 1) (h2 : i < l1) : l1 - (Lib.intOf (.int .i64 (j : Int))).toNat < l1 - (Lib.intOf (.int .i64 (i : Int))).toNat := by
  show l1 - ((j : Int)).toNat < l1 - ((i : Int)).toNat
  omega
theorem at_splice_low (b cs : List UInt8) (o i : Nat) (h : i < o) (ho : o ≤ b.length) : at_ (splice b o cs) i = at_ b i := by
  unfold splice
  rw [at_append_l _ _ _ (by rw [List.length_take]; omega)]
  simp [at_, List.getD_eq_getElem?_getD, List.getElem?_take, h]
/-- the bytes with room made for a cell of n bytes at place k: before the head is set -/
def openB (b : List UInt8) (k n last e lb : Nat) : List UInt8 :=
  splice (splice b (last - n) ((b.drop last).take (e - last))) (8 + 2 * (k + 1)) (((splice b (last - n) ((b.drop last).take (e - last))).drop (8 + 2 * k)).take (8 + 2 * lb - (8 + 2 * k)))
set_option maxHeartbeats 4000000 in
theorem opens_pg {w : World} {g : Nat} {b : List UInt8} (h : PG w g b) (k n last e lb u : Nat) (S : Nat → List UInt8) (hlb : at_ b 1 = lb) (hk : k ≤ lb) (hlb2 : 2 * lb + 10 ≤ 256)
    (hlast : fromB b ((lb : Int) - 1) = last) (he : fromB b ((k : Int) - 1) = e) (hn1 : n + 8 ≤ last) (hn2 : n < 256) (hle : last ≤ e)
    (ho1 : at_ (openB b k n last e lb) 1 = lb) (hu : usedB (openB b k n last e lb) = u) (hun : u + n < 65536)
    (hS0 : S 0 = setsB (openB b k n last e lb) (lb + 1) (u + n)) (hS1 : ∀ m, m ≤ lb - k → at_ (S m) 1 = lb + 1)
    (hS2 : ∀ m, m < lb - k → n ≤ at_ (S m) (8 + 2 * (k + 1 + m)) ∧ (S m).set (8 + 2 * (k + 1 + m)) (by_ (at_ (S m) (8 + 2 * (k + 1 + m)) - n)) = S (m + 1)) :
    Calls Try.prog 42 #[.pointer (some ⟨g, 0, none⟩), .int .i64 (k : Int), .int .i64 (n : Int)] w fun e w' => e = .returned (.tuple #[]) ∧ PG w' g (S (lb - k)) ∧ BelX g w w' := by
  have H := Aside0.mk h
  have HLB := Aside0.mk hlb
  have hel : e ≤ 256 := by have := fromB_le b ((k : Int) - 1); omega
  have HL := Aside0.mk (show (Calls Try.prog 21 #[.pointer (some ⟨g, 0, none⟩)] w fun e w' => e = .returned (.int .i64 (lb : Int)) ∧ w' = w) from by have := Len_pg h; rwa [hlb] at this)
  have HF1 := Aside0.mk (show (Calls Try.prog 36 #[.pointer (some ⟨g, 0, none⟩), .int .i64 ((lb : Int) - 1)] w fun e w' => e = .returned (.int .i64 (last : Int)) ∧ w' = w) from by have := from_any h ((lb : Int) - 1) (by omega); rwa [hlast] at this)
  have HF2 := Aside0.mk (show (Calls Try.prog 36 #[.pointer (some ⟨g, 0, none⟩), .int .i64 ((k : Int) - 1)] w fun x w' => x = .returned (.int .i64 (e : Int)) ∧ w' = w) from by have := from_any h ((k : Int) - 1) (by omega); rwa [he] at this)
  have c1 : wrap64 ((lb : Int) - 1) = (lb : Int) - 1 := by unfold wrap64; omega
  have c2 : wrap64 ((k : Int) - 1) = (k : Int) - 1 := by unfold wrap64; omega
  obtain ⟨d, hd⟩ : ∃ d, last - n = d := ⟨_, rfl⟩
  have c3 : wrap64 ((last : Int) - (n : Int)) = (d : Int) := by unfold wrap64; omega
  have c3' : IntKind.i64.wrap ((last : Int) - (n : Int)) = (d : Int) := (i64_w _).trans c3
  obtain ⟨A1, n1, d1, hn1', hs1, hA1⟩ := sl_l g d (by omega)
  obtain ⟨A2, n2, d2, hn2', hs2, hv2, hA2⟩ := sl g last e hle hel
  clear hv2
  obtain ⟨w1, hc1, hp1, hb1⟩ := copy_pg (w := w.drew) h.drew A1 A2 d last e n1 d1 n2 d2 hn2' hA1 hA2 hle hel (by omega) (by omega)
  have P1 := Aside0.mk (And.intro hp1 hb1)
  have hb01 := Aside0.mk (show d = last - n from hd.symm)
  have J := Aside0.mk (And.intro hn1' hn2')
  have HS := Aside0.mk (And.intro hS0 (And.intro hS1 hS2))
  have HO := Aside0.mk (And.intro ho1 (And.intro hu hun))
  have HK := Aside0.mk (And.intro hk (And.intro hlb2 (And.intro hle hel)))
  clear h hlb hlast he hd hA1 hA2 hp1 hb1 hn1' hn2' hS0 hS1 hS2 ho1 hu hun
  go_enter Try.func42, Try.ntmps42
  go_wp2_with fail
  refine HL.out.mono ?_; rintro e w' ⟨rfl, rfl⟩
  go_wp2_with fail
  refine HF1.out.mono ?_; rintro e w' ⟨rfl, rfl⟩
  go_wp2_with fail
  refine HF2.out.mono ?_; rintro e w' ⟨rfl, rfl⟩
  go_wp2_with fail
  go_region_held3 (fun w' => True) (trivial) (fail)
  all_goals (go_wp2_with fail)
  have PB := P1.out.1
  obtain ⟨b1, hb1⟩ : ∃ b1, splice b d ((b.drop last).take (e - last)) = b1 := ⟨_, rfl⟩
  have hl1 : at_ b1 1 = lb := by
    have q1 := hb01.out
    have q2 := H.out.len
    rw [← hb1, at_splice_low b _ d 1 (by omega) (by omega)]; exact HLB.out
  rw [hb1] at PB
  have E1 := Aside0.mk hb1
  clear hb1
  have PB1 := Aside0.mk PB
  have HL1 := Aside0.mk (show (Calls Try.prog 21 #[.pointer (some ⟨g, 0, none⟩)] w1.drew fun e w' => e = .returned (.int .i64 (lb : Int)) ∧ w' = w1.drew) from by have := Len_pg PB.drew; rwa [hl1] at this)
  obtain ⟨j0, hj0⟩ : ∃ j, 8 + 2 * (k + 1) = j := ⟨_, rfl⟩
  obtain ⟨j1, hj1⟩ : ∃ j, 8 + 2 * k = j := ⟨_, rfl⟩
  obtain ⟨j2, hj2⟩ : ∃ j, 8 + 2 * lb = j := ⟨_, rfl⟩
  have KK := HK.out
  have g1 : IntKind.i64.wrap ((k : Int) + 1) = (k : Int) + 1 := i64s _ (by omega) (by omega)
  have g2 : IntKind.i64.wrap (2 * ((k : Int) + 1)) = 2 * ((k : Int) + 1) := i64s _ (by omega) (by omega)
  have g3 : IntKind.i64.wrap (8 + 2 * ((k : Int) + 1)) = (j0 : Int) := (i64s _ (by omega) (by omega)).trans (by omega)
  have g4 : IntKind.i64.wrap (2 * (k : Int)) = 2 * (k : Int) := i64s _ (by omega) (by omega)
  have g5 : IntKind.i64.wrap (8 + 2 * (k : Int)) = (j1 : Int) := (i64s _ (by omega) (by omega)).trans (by omega)
  have g6 : IntKind.i64.wrap (2 * (lb : Int)) = 2 * (lb : Int) := i64s _ (by omega) (by omega)
  have g7 : IntKind.i64.wrap (8 + 2 * (lb : Int)) = (j2 : Int) := (i64s _ (by omega) (by omega)).trans (by omega)
  obtain ⟨A3, n3, d3, hn3', hs3, hA3⟩ := sl_l g j0 (by omega)
  obtain ⟨A4, n4, d4, hn4', hs4, hv4, hA4⟩ := sl g j1 j2 (by omega) (by omega)
  clear hv4
  obtain ⟨w2, hc2, hp2, hb2⟩ := copy_pg (w := w1.drew) PB.drew A3 A4 j0 j1 j2 n3 d3 n4 d4 hn4' hA3 hA4 (by omega) (by omega) (by omega) (by omega)
  have P2 := Aside0.mk (And.intro hp2 hb2)
  have HJ := Aside0.mk (And.intro hj0 (And.intro hj1 hj2))
  clear KK PB hp2 hb2 hA3 hA4 hn3' hn4' hj0 hj1 hj2 hs1 hs2 hc1
  go_region_held3 (fun w' => True) (trivial) (first | (go_simp; go_at_call 21; refine HL1.out.mono ?_; rintro e w' ⟨rfl, rfl⟩; go_simp))
  all_goals (go_wp2_with fail)
  have e2 : splice b1 j0 ((b1.drop j1).take (j2 - j1)) = openB b k n last e lb := by
    rw [← E1.out, hb01.out, openB, HJ.out.1, HJ.out.2.1, HJ.out.2.2]
  obtain ⟨b2, hb2⟩ : ∃ b2, openB b k n last e lb = b2 := ⟨_, rfl⟩
  have B2 := Aside0.mk hb2
  have PB2 := Aside0.mk (show PG w2 g b2 from by have := P2.out.1; rwa [e2, hb2] at this)
  have BX2 := Aside0.mk (((BelX.refl g w').drew.trans P1.out.2).trans ((BelX.refl g w1).drew.trans P2.out.2))
  have HL2 := Aside0.mk (show Calls Try.prog 21 #[.pointer (some ⟨g, 0, none⟩)] w2 fun e w' => e = .returned (.int .i64 (lb : Int)) ∧ w' = w2 from by have := Len_pg PB2.out; rwa [← hb2, HO.out.1] at this)
  have HU2 := Aside0.mk (show Calls Try.prog 34 #[.pointer (some ⟨g, 0, none⟩)] w2 fun e w' => e = .returned (.int .i64 (u : Int)) ∧ Below w2.heap.size w2 w' from by have := used_pg PB2.out; rwa [← hb2, HO.out.2.1] at this)
  clear hb2 e2 hs3 hs4 hc2 P1 P2 E1 PB1 HL1 HL HF1 HF2 HJ
  refine HL2.out.mono ?_; rintro e w3 ⟨rfl, rfl⟩
  go_wp2_with fail
  refine HU2.out.mono ?_; rintro e w4 ⟨rfl, hb4⟩
  have PB4 := Aside0.mk (PB2.out.below hb4)
  have BX4 := Aside0.mk (BX2.out.trans (BelX.of_below hb4))
  clear hb4 PB2 HL2 HU2 BX2
  have hu2 := HO.out.2.2
  go_wp2_with fail
  refine (show Calls Try.prog 51 #[.pointer (some ⟨g, 0, none⟩), .int .i64 ((lb : Int) + 1), .int .i64 ((u : Int) + (n : Int))] w4 fun e w' => e = .returned (.tuple #[]) ∧ PG w' g (setsB b2 (lb + 1) (u + n)) ∧ BelX g w4 w' from by
    have := sets_pg PB4.out (lb + 1) (u + n) (by omega) HO.out.2.2
    rwa [show ((lb + 1 : Nat) : Int) = (lb : Int) + 1 from by omega, show ((u + n : Nat) : Int) = (u : Int) + (n : Int) from by omega] at this).mono ?_; rintro e w5 ⟨rfl, hp5, hb5⟩
  have PB5 := Aside0.mk (show PG w5 g (S 0) from by rw [HS.out.1, B2.out]; exact hp5)
  have BX5 := Aside0.mk (BX4.out.trans hb5)
  clear hp5 hb5 PB4 BX4
  go_wp2
  go_loopw [8] (fun v8 wr => ∃ m : Nat, v8 = .int .i64 ((k + 1 + m : Nat) : Int) ∧ Aside0 (m ≤ lb - k) ∧ Aside0 (PG wr g (S m)) ∧ Aside0 (BelX g w' wr)) (fun v8 _ => (lb + 1) - (Lib.intOf v8).toNat)
  case atStart => exact ⟨0, by simp, ⟨by omega⟩, PB5, BX5⟩
  case round =>
    obtain ⟨m, rfl, hM, HP, HB⟩ := hrel
    have HLm := Aside0.mk (show Calls Try.prog 21 #[.pointer (some ⟨g, 0, none⟩)] wr fun e w' => e = .returned (.int .i64 ((lb + 1 : Nat) : Int)) ∧ w' = wr from by have := Len_pg HP.out; rwa [HS.out.2.1 m hM.out] at this)
    obtain ⟨i, hi⟩ : ∃ i, k + 1 + m = i := ⟨_, rfl⟩
    obtain ⟨l1, hl1⟩ : ∃ l1, lb + 1 = l1 := ⟨_, rfl⟩
    rw [hl1] at HLm ⊢
    rw [hi]
    by_cases hlt : m < lb - k
    · have d1 : decide ((i : Int) < (l1 : Int)) = true := decide_eq_true (by omega)
      have d2 : decide (i < l1) = true := decide_eq_true (by omega)
      obtain ⟨hS1, hS2⟩ := HS.out.2.2 m hlt
      obtain ⟨j, hj⟩ : ∃ j, 8 + 2 * i = j := ⟨_, rfl⟩
      rw [hi, hj] at hS1 hS2
      have hcell := HP.out.cell j (by omega)
      have hfr := HP.out.frozen j
      have hlt2 := at_lt (S m) j
      have g1 : IntKind.i64.wrap (2 * (i : Int)) = 2 * (i : Int) := i64s _ (by omega) (by omega)
      have g2 : IntKind.i64.wrap (8 + 2 * (i : Int)) = (j : Int) := (i64s _ (by omega) (by omega)).trans (by omega)
      have h3 : (j < 256) = True := eq_true (by omega)
      have h4 : ((j : Int) < 256) = True := eq_true (by omega)
      have g3 : IntKind.u8.wrap (n : Int) = (n : Int) := by rw [wr8]; omega
      have hS1' := Aside0.mk hS1
      have HS2 := Aside0.mk hS2
      have HJ := Aside0.mk (show j < 256 ∧ i < 1000 from by omega)
      have HM := Aside0.mk (show k + 1 + (m + 1) = i + 1 ∧ i < l1 from by omega)
      have HI := Aside0.mk (And.intro hi (And.intro hl1 hj))
      have HLT := Aside0.mk hlt
      clear hS2 hi hl1 hj hlt hS1
      go_wp2_with fail
      refine HLm.out.mono ?_; rintro e w6 ⟨rfl, rfl⟩
      go_wp2_with fail
      go_region
      all_goals go_wp2
      have hstep : PG ((w6.setCell ⟨g, j, none⟩ (.int .u8 (IntKind.u8.wrap ((at_ (S m) j : Int) - (n : Int))))).drew) g (S (m + 1)) := by
        have e := hS1'.out
        rw [wr8, show ((at_ (S m) j : Int) - (n : Int)) % 256 = (((by_ (at_ (S m) j - n)).toNat : Nat) : Int) from by rw [by_nat]; omega, ← HS2.out]
        exact (HP.out.set j HJ.out.1 _).drew
      have hbx : BelX g w' ((w6.setCell ⟨g, j, none⟩ (.int .u8 (IntKind.u8.wrap ((at_ (S m) j : Int) - (n : Int))))).drew) := HB.out.trans (((BelX.refl g w6).set j _).drew)
      have q : wrap64 ((i : Int) + 1) = ((k + 1 + (m + 1) : Nat) : Int) := by have h1 := HI.out.1; have h2 := HJ.out.2; rw [w64s _ (by omega) (by omega)]; omega
      go_roundw
      case rel => exact ⟨m + 1, by rw [q], ⟨by have := HLT.out; omega⟩, ⟨hstep⟩, ⟨hbx⟩⟩
      case measure => rw [q]; exact up_lt _ _ _ HM.out.1 HM.out.2
    · obtain rfl : m = lb - k := by have := hM.out; omega
      have d1 : decide ((i : Int) < (l1 : Int)) = false := decide_eq_false (by omega)
      have d2 : decide (i < l1) = false := decide_eq_false (by omega)
      clear hi hl1 hlt
      go_wp2_with (go_at_call 21; refine HLm.out.mono ?_; rintro e w' ⟨rfl, rfl⟩)
      exact bodyPost_end (v := .tuple #[]) (results_none rfl _ _ _) rfl ⟨rfl, HP.out, HB.out⟩
end Go.Proofs.Ytinbppcfdmbclaa.Pg

/-! A cell is taken out of a page: walked. No condition beyond those that each theorem names. -/
namespace Go.Proofs.Ytinbppcfdmbclaa.Pg
open Go.RowKit Go.Proofs.YtinbppcfdmbclaaW.PrintWords Go.Proofs.YtinbppcfdmbclaaW.PrintLast Go.Proofs.YtinbppcfdmbclaaW.PrintMore
set_option linter.unusedVariables false
set_option linter.unusedSimpArgs false
/-- the bytes with a cell of n bytes taken out at place k: before the head is set -/
def closeB1 (b : List UInt8) (n last fr : Nat) : List UInt8 := splice (splice b (last + n) ((b.drop last).take (fr - last))) last (List.replicate n 0)
def closeB (b : List UInt8) (k n last fr lb : Nat) : List UInt8 :=
  splice (closeB1 b n last fr) (8 + 2 * k) (((closeB1 b n last fr).drop (8 + 2 * (k + 1))).take (8 + 2 * lb - (8 + 2 * (k + 1))))
set_option maxHeartbeats 4000000 in
theorem closes_pg {w : World} {g : Nat} {b : List UInt8} (h : PG w g b) (k n last fr e lb u : Nat) (S : Nat → List UInt8) (hlb : at_ b 1 = lb) (hk : k < lb) (hlb2 : 2 * lb + 8 ≤ 256)
    (hlast : fromB b ((lb : Int) - 1) = last) (hfr : fromB b (k : Int) = fr) (he : fromB b ((k : Int) - 1) = e) (hn : fr + n = e) (hn2 : n < 256) (hle : last ≤ fr) (h8 : 8 ≤ last)
    (hc1 : at_ (closeB1 b n last fr) 1 = lb) (ho1 : at_ (closeB b k n last fr lb) 1 = lb) (hu : usedB (closeB b k n last fr lb) = u) (hun : n ≤ u)
    (hS0 : S 0 = splice (setsB (closeB b k n last fr lb) (lb - 1) (u - n)) (8 + 2 * (lb - 1)) (List.replicate 2 0)) (hs1 : at_ (setsB (closeB b k n last fr lb) (lb - 1) (u - n)) 1 = lb - 1) (hS1 : ∀ m, m ≤ lb - 1 - k → at_ (S m) 1 = lb - 1)
    (hS2 : ∀ m, m < lb - 1 - k → at_ (S m) (8 + 2 * (k + m)) + n < 256 ∧ (S m).set (8 + 2 * (k + m)) (by_ (at_ (S m) (8 + 2 * (k + m)) + n)) = S (m + 1)) :
    Calls Try.prog 41 #[.pointer (some ⟨g, 0, none⟩), .int .i64 (k : Int)] w fun e w' => e = .returned (.tuple #[]) ∧ PG w' g (S (lb - 1 - k)) ∧ BelX g w w' := by
  have H := Aside0.mk h
  have HLB := Aside0.mk hlb
  have hel : e ≤ 256 := by have := fromB_le b ((k : Int) - 1); omega
  have HL := Aside0.mk (show (Calls Try.prog 21 #[.pointer (some ⟨g, 0, none⟩)] w fun e w' => e = .returned (.int .i64 (lb : Int)) ∧ w' = w) from by have := Len_pg h; rwa [hlb] at this)
  have HF1 := Aside0.mk (show (Calls Try.prog 36 #[.pointer (some ⟨g, 0, none⟩), .int .i64 ((lb : Int) - 1)] w fun e w' => e = .returned (.int .i64 (last : Int)) ∧ w' = w) from by have := from_any h ((lb : Int) - 1) (by omega); rwa [hlast] at this)
  have HF2 := Aside0.mk (show (Calls Try.prog 36 #[.pointer (some ⟨g, 0, none⟩), .int .i64 (k : Int)] w fun e w' => e = .returned (.int .i64 (fr : Int)) ∧ w' = w) from by have := from_any h (k : Int) (by omega); rwa [hfr] at this)
  have HF3 := Aside0.mk (show (Calls Try.prog 36 #[.pointer (some ⟨g, 0, none⟩), .int .i64 ((k : Int) - 1)] w fun x w' => x = .returned (.int .i64 (e : Int)) ∧ w' = w) from by have := from_any h ((k : Int) - 1) (by omega); rwa [he] at this)
  obtain ⟨d, hd⟩ : ∃ d, last + n = d := ⟨_, rfl⟩
  obtain ⟨A1, n1, d1, hn1', hs1', hA1⟩ := sl_l g d (by omega)
  obtain ⟨A2, n2, d2, hn2', hs2', hv2, hA2⟩ := sl g last fr hle (by omega)
  clear hv2
  obtain ⟨A3, n3, d3, hn3', hs3', hv3, hA3⟩ := sl g last d (by omega) (by omega)
  clear hv3
  obtain ⟨w1, hcp1, hp1, hb1⟩ := copy_pg (w := w.drew) h.drew A1 A2 d last fr n1 d1 n2 d2 hn2' hA1 hA2 hle (by omega) (by omega) (by omega)
  obtain ⟨w2, hcp2, hp2, hb2⟩ := clear_pg hp1 A3 last n3 d3 hA3 (by omega) 0
  have eb2 : splice (splice b d ((b.drop last).take (fr - last))) last (List.replicate n3 0) = closeB1 b n last fr := by rw [closeB1, hd, show n3 = n from by omega]
  rw [eb2] at hp2
  have BX2 := Aside0.mk (((BelX.refl g w).drew.trans hb1).trans hb2)
  have PB2 := Aside0.mk hp2
  have HS := Aside0.mk (And.intro hS0 (And.intro hS1 (And.intro hS2 hs1)))
  have HC := Aside0.mk (And.intro hc1 (And.intro ho1 (And.intro hu hun)))
  have HK := Aside0.mk (show k < lb ∧ 2 * lb + 8 ≤ 256 from ⟨hk, hlb2⟩)
  have HN := Aside0.mk (show fr + n = e ∧ last + n = d ∧ d ≤ 256 from by omega)
  have c1 : wrap64 ((lb : Int) - 1) = (lb : Int) - 1 := w64s _ (by omega) (by omega)
  have c2 : wrap64 ((k : Int) - 1) = (k : Int) - 1 := w64s _ (by omega) (by omega)
  have c3 : wrap64 ((e : Int) - (fr : Int)) = (n : Int) := (w64s _ (by omega) (by omega)).trans (by omega)
  have c4 : wrap64 ((last : Int) + (n : Int)) = (d : Int) := (w64s _ (by omega) (by omega)).trans (by omega)
  have c3' : IntKind.i64.wrap ((e : Int) - (fr : Int)) = (n : Int) := (i64_w _).trans c3
  have c4' : IntKind.i64.wrap ((last : Int) + (n : Int)) = (d : Int) := (i64_w _).trans c4
  clear h hlb hlast he hd hfr hn hn2 hle h8 hA1 hA2 hA3 hp1 hb1 hp2 hb2 eb2 hn1' hn2' hn3' hS0 hS1 hS2 hs1 hc1 ho1 hu hun hk hlb2 hel
  go_enter Try.func41, Try.ntmps41
  go_wp2_with fail
  refine HL.out.mono ?_; rintro e w' ⟨rfl, rfl⟩
  go_wp2_with fail
  refine HF1.out.mono ?_; rintro e w' ⟨rfl, rfl⟩
  go_wp2_with fail
  refine HF2.out.mono ?_; rintro e w' ⟨rfl, rfl⟩
  go_wp2_with fail
  refine HF3.out.mono ?_; rintro e w' ⟨rfl, rfl⟩
  go_wp2_with fail
  go_region_held3 (fun w' => True) (trivial) (fail)
  all_goals (go_wp2_with fail)
  clear hs1' hs2' hs3' hcp1 hcp2 HL HF1 HF2 HF3 c2 c3 c4 c3' c4' H
  obtain ⟨b1, hb1⟩ : ∃ b1, closeB1 b n last fr = b1 := ⟨_, rfl⟩
  have E1 := Aside0.mk hb1
  rw [hb1] at PB2
  have hl1 : at_ b1 1 = lb := by rw [← hb1]; exact HC.out.1
  clear hb1
  have HL1 := Aside0.mk (show (Calls Try.prog 21 #[.pointer (some ⟨g, 0, none⟩)] w2.drew fun e w' => e = .returned (.int .i64 (lb : Int)) ∧ w' = w2.drew) from by have := Len_pg PB2.out.drew; rwa [hl1] at this)
  obtain ⟨j0, hj0⟩ : ∃ j, 8 + 2 * k = j := ⟨_, rfl⟩
  obtain ⟨j1, hj1⟩ : ∃ j, 8 + 2 * (k + 1) = j := ⟨_, rfl⟩
  obtain ⟨j2, hj2⟩ : ∃ j, 8 + 2 * lb = j := ⟨_, rfl⟩
  have KK := HK.out
  obtain ⟨A4, n4, d4, hn4', hs4, hA4⟩ := sl_l g j0 (by omega)
  obtain ⟨A5, n5, d5, hn5', hs5, hv5, hA5⟩ := sl g j1 j2 (by omega) (by omega)
  clear hv5
  obtain ⟨w3, hc3, hp3, hb3⟩ := copy_pg (w := w2.drew) PB2.out.drew A4 A5 j0 j1 j2 n4 d4 n5 d5 hn5' hA4 hA5 (by omega) (by omega) (by omega) (by omega)
  have P3 := Aside0.mk (And.intro hp3 hb3)
  have g1 : IntKind.i64.wrap ((k : Int) + 1) = (k : Int) + 1 := i64s _ (by omega) (by omega)
  have g2 : IntKind.i64.wrap (2 * ((k : Int) + 1)) = 2 * ((k : Int) + 1) := i64s _ (by omega) (by omega)
  have g3 : IntKind.i64.wrap (8 + 2 * ((k : Int) + 1)) = (j1 : Int) := (i64s _ (by omega) (by omega)).trans (by omega)
  have g4 : IntKind.i64.wrap (2 * (k : Int)) = 2 * (k : Int) := i64s _ (by omega) (by omega)
  have g5 : IntKind.i64.wrap (8 + 2 * (k : Int)) = (j0 : Int) := (i64s _ (by omega) (by omega)).trans (by omega)
  have g6 : IntKind.i64.wrap (2 * (lb : Int)) = 2 * (lb : Int) := i64s _ (by omega) (by omega)
  have g7 : IntKind.i64.wrap (8 + 2 * (lb : Int)) = (j2 : Int) := (i64s _ (by omega) (by omega)).trans (by omega)
  have HJ := Aside0.mk (And.intro hj0 (And.intro hj1 hj2))
  clear KK hp3 hb3 hA4 hA5 hn4' hn5' hj0 hj1 hj2
  go_region_held3 (fun w' => True) (trivial) (first | (go_simp; go_at_call 21; refine HL1.out.mono ?_; rintro e w' ⟨rfl, rfl⟩; go_simp))
  all_goals (go_wp2_with fail)
  clear g1 g2 g3 g4 g5 g6 g7
  have e2 : splice b1 j0 ((b1.drop j1).take (j2 - j1)) = closeB b k n last fr lb := by
    rw [← E1.out, closeB, HJ.out.1, HJ.out.2.1, HJ.out.2.2]
  obtain ⟨b2, hb2⟩ : ∃ b2, closeB b k n last fr lb = b2 := ⟨_, rfl⟩
  have B2 := Aside0.mk hb2
  have PB3 := Aside0.mk (show PG w3 g b2 from by have := P3.out.1; rwa [e2, hb2] at this)
  have BX3 := Aside0.mk (BX2.out.trans ((BelX.refl g w2).drew.trans P3.out.2))
  have HL2 := Aside0.mk (show Calls Try.prog 21 #[.pointer (some ⟨g, 0, none⟩)] w3 fun e w' => e = .returned (.int .i64 (lb : Int)) ∧ w' = w3 from by have := Len_pg PB3.out; rwa [← hb2, HC.out.2.1] at this)
  have HU2 := Aside0.mk (show Calls Try.prog 34 #[.pointer (some ⟨g, 0, none⟩)] w3 fun e w' => e = .returned (.int .i64 (u : Int)) ∧ Below w3.heap.size w3 w' from by have := used_pg PB3.out; rwa [← hb2, HC.out.2.2.1] at this)
  have hu2 : u < 65536 := by rw [← HC.out.2.2.1]; exact usedB_lt _
  clear hb2 e2 hs4 hs5 hc3 P3 E1 PB2 BX2 HL1 HJ
  refine HL2.out.mono ?_; rintro e w4 ⟨rfl, rfl⟩
  go_wp2_with fail
  refine HU2.out.mono ?_; rintro e w5 ⟨rfl, hb4⟩
  have PB4 := Aside0.mk (PB3.out.below hb4)
  have BX4 := Aside0.mk (BX3.out.trans (BelX.of_below hb4))
  clear hb4 PB3 HL2 HU2 BX3
  have hnu := HC.out.2.2.2
  have hk1 := HK.out
  go_wp2_with fail
  refine (show Calls Try.prog 51 #[.pointer (some ⟨g, 0, none⟩), .int .i64 ((lb : Int) - 1), .int .i64 ((u : Int) - (n : Int))] w5 fun e w' => e = .returned (.tuple #[]) ∧ PG w' g (setsB b2 (lb - 1) (u - n)) ∧ BelX g w5 w' from by
    have := sets_pg PB4.out (lb - 1) (u - n) (by omega) (by omega)
    rwa [show ((lb - 1 : Nat) : Int) = (lb : Int) - 1 from by omega, show ((u - n : Nat) : Int) = (u : Int) - (n : Int) from by omega] at this).mono ?_; rintro e w6 ⟨rfl, hp5, hb5⟩
  obtain ⟨l1, hl1'⟩ : ∃ l1, lb - 1 = l1 := ⟨_, rfl⟩
  have hS1b := HS.out.2.2.2
  rw [B2.out, hl1'] at hS1b
  rw [hl1'] at hp5
  have PB5 := Aside0.mk hp5
  have BX5 := Aside0.mk (BX4.out.trans hb5)
  have HL5 := Aside0.mk (show Calls Try.prog 21 #[.pointer (some ⟨g, 0, none⟩)] w6.drew fun e w' => e = .returned (.int .i64 (l1 : Int)) ∧ w' = w6.drew from by have := Len_pg hp5.drew; rwa [hS1b] at this)
  obtain ⟨i0, hi0⟩ : ∃ j, 8 + 2 * l1 = j := ⟨_, rfl⟩
  obtain ⟨i1, hi1⟩ : ∃ j, 8 + 2 * (l1 + 1) = j := ⟨_, rfl⟩
  obtain ⟨A6, n6, d6, hn6', hs6, hv6, hA6⟩ := sl g i0 i1 (by omega) (by omega)
  clear hv6
  obtain ⟨w7, hc7, hp7, hb7⟩ := clear_pg hp5.drew A6 i0 n6 d6 hA6 (by omega) 0
  have e7 : splice (setsB b2 l1 (u - n)) i0 (List.replicate n6 0) = S 0 := by
    rw [HS.out.1, B2.out, hl1', hi0, show n6 = 2 from by omega]
  have PB7 := Aside0.mk (show PG w7 g (S 0) from by rwa [e7] at hp7)
  have BX7 := Aside0.mk (BX5.out.trans ((BelX.refl g w6).drew.trans hb7))
  have HL1' := Aside0.mk hl1'
  have g1 : IntKind.i64.wrap ((l1 : Int) + 1) = (l1 : Int) + 1 := i64s _ (by omega) (by omega)
  have g2 : IntKind.i64.wrap (2 * ((l1 : Int) + 1)) = 2 * ((l1 : Int) + 1) := i64s _ (by omega) (by omega)
  have g3 : IntKind.i64.wrap (8 + 2 * ((l1 : Int) + 1)) = (i1 : Int) := (i64s _ (by omega) (by omega)).trans (by omega)
  have g4 : IntKind.i64.wrap (2 * (l1 : Int)) = 2 * (l1 : Int) := i64s _ (by omega) (by omega)
  have g5 : IntKind.i64.wrap (8 + 2 * (l1 : Int)) = (i0 : Int) := (i64s _ (by omega) (by omega)).trans (by omega)
  clear hp5 hb5 PB5 BX5 PB4 BX4 hp7 hb7 e7 hi0 hi1 hA6 hn6' hl1' hS1b
  go_wp2_with fail
  go_region_held3 (fun w' => True) (trivial) (first | (go_simp; go_at_call 21; refine HL5.out.mono ?_; rintro e w' ⟨rfl, rfl⟩; go_simp))
  all_goals (go_wp2_with fail)
  clear g1 g2 g3 g4 g5 hs6 hc7 HL5
  go_loopw [7] (fun v7 wr => ∃ m : Nat, v7 = .int .i64 ((k + m : Nat) : Int) ∧ Aside0 (m ≤ lb - 1 - k) ∧ Aside0 (PG wr g (S m)) ∧ Aside0 (BelX g w' wr)) (fun v7 _ => lb - (Lib.intOf v7).toNat)
  case atStart => exact ⟨0, by simp, ⟨by omega⟩, PB7, BX7⟩
  case round =>
    obtain ⟨m, rfl, hM, HP, HB⟩ := hrel
    have HLm := Aside0.mk (show Calls Try.prog 21 #[.pointer (some ⟨g, 0, none⟩)] wr fun e w' => e = .returned (.int .i64 (l1 : Int)) ∧ w' = wr from by have := Len_pg HP.out; rwa [HS.out.2.1 m hM.out, HL1'.out] at this)
    obtain ⟨i, hi⟩ : ∃ i, k + m = i := ⟨_, rfl⟩
    rw [hi]
    have hll := HL1'.out
    by_cases hlt : m < lb - 1 - k
    · have d1 : decide ((i : Int) < (l1 : Int)) = true := decide_eq_true (by omega)
      have d2 : decide (i < l1) = true := decide_eq_true (by omega)
      obtain ⟨hS1, hS2⟩ := HS.out.2.2.1 m hlt
      obtain ⟨j, hj⟩ : ∃ j, 8 + 2 * i = j := ⟨_, rfl⟩
      rw [hi, hj] at hS1 hS2
      have hcell := HP.out.cell j (by omega)
      have hfr := HP.out.frozen j
      have hlt2 := at_lt (S m) j
      have hS1' := Aside0.mk hS1
      have HS2 := Aside0.mk hS2
      have HJ := Aside0.mk (show j < 256 ∧ i < 1000 ∧ n < 256 from by omega)
      have HM := Aside0.mk (show k + (m + 1) = i + 1 ∧ i < lb from by omega)
      have HLT := Aside0.mk hlt
      have h3 : (j < 256) = True := eq_true (by omega)
      have h4 : ((j : Int) < 256) = True := eq_true (by omega)
      have g1 : IntKind.i64.wrap (2 * (i : Int)) = 2 * (i : Int) := i64s _ (by omega) (by omega)
      have g2 : IntKind.i64.wrap (8 + 2 * (i : Int)) = (j : Int) := (i64s _ (by omega) (by omega)).trans (by omega)
      have g3 : IntKind.u8.wrap (n : Int) = (n : Int) := (wr8 _).trans (by omega)
      clear hS2 hi hj hlt hS1 hll
      go_wp2_with fail
      refine HLm.out.mono ?_; rintro e w8 ⟨rfl, rfl⟩
      go_wp2_with fail
      go_region
      all_goals go_wp2
      have hstep : PG ((w8.setCell ⟨g, j, none⟩ (.int .u8 (IntKind.u8.wrap ((at_ (S m) j : Int) + (n : Int))))).drew) g (S (m + 1)) := by
        have e := hS1'.out
        rw [wr8, show ((at_ (S m) j : Int) + (n : Int)) % 256 = (((by_ (at_ (S m) j + n)).toNat : Nat) : Int) from by rw [by_nat]; omega, ← HS2.out]
        exact (HP.out.set j HJ.out.1 _).drew
      have hbx : BelX g w' ((w8.setCell ⟨g, j, none⟩ (.int .u8 (IntKind.u8.wrap ((at_ (S m) j : Int) + (n : Int))))).drew) := HB.out.trans (((BelX.refl g w8).set j _).drew)
      have q : wrap64 ((i : Int) + 1) = ((k + (m + 1) : Nat) : Int) := by have h1 := HM.out.1; have h2 := HJ.out.2.1; rw [w64s _ (by omega) (by omega)]; omega
      go_roundw
      case rel => exact ⟨m + 1, by rw [q], ⟨by have := HLT.out; omega⟩, ⟨hstep⟩, ⟨hbx⟩⟩
      case measure => rw [q]; exact up_lt _ _ _ HM.out.1 HM.out.2
    · obtain rfl : m = lb - 1 - k := by have := hM.out; omega
      have d1 : decide ((i : Int) < (l1 : Int)) = false := decide_eq_false (by omega)
      have d2 : decide (i < l1) = false := decide_eq_false (by omega)
      clear hi hlt hll
      go_wp2_with (go_at_call 21; refine HLm.out.mono ?_; rintro e w' ⟨rfl, rfl⟩)
      exact bodyPost_end (v := .tuple #[]) (results_none rfl _ _ _) rfl ⟨rfl, HP.out, HB.out⟩
end Go.Proofs.Ytinbppcfdmbclaa.Pg

/-! A cell is taken out of a page's cells, and room is made for one: what the bytes become. No condition beyond those that each theorem names. -/
namespace Go.Proofs.Ytinbppcfdmbclaa.Pg
open Go.RowKit
set_option linter.unusedVariables false
set_option linter.unusedSimpArgs false
theorem splice_at {b P Q R Q' : List UInt8} {o : Nat} (hb : b = P ++ (Q ++ R)) (hP : P.length = o) (hQ : Q.length = Q'.length) : splice b o Q' = P ++ (Q' ++ R) := by
  rw [hb]; exact splice_mid hP hQ
theorem part_at {b P Q R : List UInt8} {o n : Nat} (hb : b = P ++ (Q ++ R)) (hP : P.length = o) (hQ : Q.length = n) : (b.drop o).take n = Q := by
  rw [hb]; exact drop_take_mid hP hQ
theorem rep3 (a b c d : Nat) (X : List UInt8) (h : d = a + (b + c)) : List.replicate a (0 : UInt8) ++ (List.replicate b 0 ++ (List.replicate c 0 ++ X)) = List.replicate d 0 ++ X := by
  subst h
  rw [← List.append_assoc (List.replicate b 0), List.replicate_append_replicate, ← List.append_assoc, List.replicate_append_replicate]
theorem headB_length (kind : UInt8) (L : List S66) : (headB kind L).length = 8 := rfl
theorem used_head (kind x y z : UInt8) (r : List UInt8) : usedB (kind :: x :: y :: z :: r) = y.toNat + 256 * z.toNat := by simp [usedB, at_]
theorem len_head (kind x : UInt8) (r : List UInt8) : at_ (kind :: x :: r) 1 = x.toNat := by simp [at_]
theorem used_headB (kind : UInt8) (L : List S66) (r : List UInt8) (h : total L < 65536) : usedB (headB kind L ++ r) = total L := by
  rw [headB, List.cons_append, List.cons_append, List.cons_append, List.cons_append, used_head, by_at _ (show total L / 256 < 256 by omega)]
  simp [by_]; omega
theorem len_headB (kind : UInt8) (L : List S66) (r : List UInt8) (h : L.length < 256) : at_ (headB kind L ++ r) 1 = L.length := by
  rw [headB, List.cons_append, List.cons_append, len_head, by_at _ h]
theorem sets_headB (kind : UInt8) (L M : List S66) (r : List UInt8) (n u : Nat) (hn : n = M.length) (hu : u = total M) : setsB (headB kind L ++ r) n u = headB kind M ++ r := by
  subst hn; subst hu
  simp [headB, setsB]
theorem closes_L {w : World} {g : Nat} {kind : UInt8} (A B : List S66) (c : S66) (h : PGL w g kind (A ++ c :: B)) : Calls Try.prog 41 #[.pointer (some ⟨g, 0, none⟩), .int .i64 (A.length : Int)] w fun e w' => e = .returned (.tuple #[]) ∧ PGL w' g kind (A ++ B) ∧ BelX g w w' := by
  have hf := h.cells.fits
  have hla : (A ++ c :: B).length = A.length + 1 + B.length := by simp; omega
  have hta : total (A ++ c :: B) = total A + (cz c + total B) := by rw [total_append, total]
  have hlb : (A ++ B).length = A.length + B.length := by simp
  have htb : total (A ++ B) = total A + total B := total_append A B
  have hcz : 1 ≤ cz c ∧ cz c ≤ 100 := by have := h.cells.each c (by simp); unfold cz; omega
  have hcb : ∀ x ∈ B, 1 ≤ cz x := fun x hx => by have := h.cells.each x (by simp [hx]); unfold cz; omega
  have hcells : Cells (A ++ B) := by
    refine ⟨by unfold Fits at hf ⊢; omega, fun x hx => h.cells.each x (by simp at hx ⊢; rcases hx with h | h <;> simp [h]), ?_⟩
    exact h.cells.asc.sublist (List.Sublist.append_left (List.sublist_cons_self c B) A)
  unfold Fits at hf
  have ek := enc_fromB kind _ h.cells A.length (by omega)
  have ek' := enc_fromB' kind _ h.cells A.length (by omega)
  have el := enc_fromB' kind _ h.cells (A.length + B.length) (by omega)
  rw [show A ++ c :: B = (A ++ [c]) ++ B from by simp] at ek'
  rw [List.take_left' rfl] at ek
  rw [List.take_left' (by simp), total_append] at ek'
  rw [List.take_of_length_le (by omega)] at el
  simp only [total] at ek'
  have hdl := dirB_length A 256
  have hbl := dirB_length B (256 - total A - cz c)
  have hcl := cellsB_length B
  have hca := cellsB_length A
  have hcc := cellB_length c
  -- the bytes
  have hb := enc_parts kind A (c :: B)
  have hb0 : encB kind (A ++ c :: B) = headB kind (A ++ c :: B) ++ (dirB 256 A ++ ([by_ (256 - total A - cz c), by_ c.f0.size] ++ (dirB (256 - total A - cz c) B ++ (List.replicate (248 - 2 * (A.length + 1 + B.length) - (total A + (cz c + total B))) 0 ++ ((cellsB B ++ cellB c) ++ cellsB A))))) := by
    rw [hb]; simp only [dirB, cellsB, total, List.length_cons, List.cons_append, List.nil_append, List.append_assoc]
    rw [show A.length + (B.length + 1) = A.length + 1 + B.length from by omega]
  clear hb
  obtain ⟨z, hz⟩ : ∃ z, 248 - 2 * (A.length + 1 + B.length) - (total A + (cz c + total B)) = z := ⟨_, rfl⟩
  rw [hz] at hb0
  have hP : (headB kind (A ++ c :: B) ++ (dirB 256 A ++ ([by_ (256 - total A - cz c), by_ c.f0.size] ++ (dirB (256 - total A - cz c) B ++ List.replicate z 0)))).length = 256 - total (A ++ c :: B) := by
    simp only [List.length_append, headB_length, hdl, hbl, List.length_cons, List.length_nil, List.length_replicate]; omega
  have hb1 : encB kind (A ++ c :: B) = (headB kind (A ++ c :: B) ++ (dirB 256 A ++ ([by_ (256 - total A - cz c), by_ c.f0.size] ++ (dirB (256 - total A - cz c) B ++ List.replicate z 0)))) ++ (cellsB B ++ (cellB c ++ cellsB A)) := by
    rw [hb0]; simp only [List.append_assoc]
  have p1 := part_at (n := 256 - total A - cz c - (256 - total (A ++ c :: B))) hb1 hP (by omega)
  have hb2 : encB kind (A ++ c :: B) = ((headB kind (A ++ c :: B) ++ (dirB 256 A ++ ([by_ (256 - total A - cz c), by_ c.f0.size] ++ (dirB (256 - total A - cz c) B ++ List.replicate z 0)))) ++ (cellsB B ++ cellB c).take (cz c)) ++ ((cellsB B ++ cellB c).drop (cz c) ++ cellsB A) := by
    rw [hb1]
    conv => rhs; rw [List.append_assoc]; arg 2; rw [← List.append_assoc, List.take_append_drop]
    simp only [List.append_assoc]
  have q1 := splice_at (o := 256 - total (A ++ c :: B) + cz c) (Q' := cellsB B) hb2 (by rw [List.length_append, hP, List.length_take, List.length_append]; omega) (by rw [List.length_drop, List.length_append]; omega)
  rw [List.append_assoc] at q1
  have q2 := splice_at (o := 256 - total (A ++ c :: B)) (Q' := List.replicate (cz c) 0) q1 hP (by rw [List.length_take, List.length_append, List.length_replicate]; omega)
  have Q2 : closeB1 (encB kind (A ++ c :: B)) (cz c) (256 - total (A ++ c :: B)) (256 - total A - cz c) = headB kind (A ++ c :: B) ++ (dirB 256 A ++ ([by_ (256 - total A - cz c), by_ c.f0.size] ++ (dirB (256 - total A - cz c) B ++ (List.replicate z 0 ++ (List.replicate (cz c) 0 ++ (cellsB B ++ cellsB A)))))) := by
    rw [closeB1, p1, q2]; simp only [List.append_assoc]
  obtain ⟨R, hR⟩ : ∃ R, List.replicate z 0 ++ (List.replicate (cz c) 0 ++ (cellsB B ++ cellsB A)) = R := ⟨_, rfl⟩
  rw [hR] at Q2
  have Q3 : closeB1 (encB kind (A ++ c :: B)) (cz c) (256 - total (A ++ c :: B)) (256 - total A - cz c) = (headB kind (A ++ c :: B) ++ (dirB 256 A ++ [by_ (256 - total A - cz c), by_ c.f0.size])) ++ (dirB (256 - total A - cz c) B ++ R) := by
    rw [Q2]; simp only [List.append_assoc]
  have p3 := part_at (o := 8 + 2 * (A.length + 1)) (n := 8 + 2 * (A.length + 1 + B.length) - (8 + 2 * (A.length + 1))) Q3 (by simp only [List.length_append, headB_length, hdl, List.length_cons, List.length_nil]; omega) (by omega)
  have Q4 : closeB1 (encB kind (A ++ c :: B)) (cz c) (256 - total (A ++ c :: B)) (256 - total A - cz c) = (headB kind (A ++ c :: B) ++ dirB 256 A) ++ (([by_ (256 - total A - cz c), by_ c.f0.size] ++ dirB (256 - total A - cz c) B).take (2 * B.length) ++ (([by_ (256 - total A - cz c), by_ c.f0.size] ++ dirB (256 - total A - cz c) B).drop (2 * B.length) ++ R)) := by
    rw [Q2]
    conv => rhs; arg 2; rw [← List.append_assoc, List.take_append_drop]
    simp only [List.append_assoc]
  have q5 := splice_at (o := 8 + 2 * A.length) (Q' := dirB (256 - total A - cz c) B) Q4 (by rw [List.length_append, headB_length, hdl]) (by rw [List.length_take, List.length_append, hbl]; simp only [List.length_cons, List.length_nil]; omega)
  obtain ⟨Y, hY⟩ : ∃ Y, ([by_ (256 - total A - cz c), by_ c.f0.size] ++ dirB (256 - total A - cz c) B).drop (2 * B.length) = Y := ⟨_, rfl⟩
  have hYl : Y.length = 2 := by rw [← hY, List.length_drop, List.length_append, hbl]; simp
  rw [hY] at q5
  have Q5 : closeB (encB kind (A ++ c :: B)) A.length (cz c) (256 - total (A ++ c :: B)) (256 - total A - cz c) (A.length + 1 + B.length) = headB kind (A ++ c :: B) ++ (dirB 256 A ++ (dirB (256 - total A - cz c) B ++ (Y ++ R))) := by
    rw [closeB, p3, q5]; simp only [List.append_assoc]
  have Q6 := sets_headB kind (A ++ c :: B) (A ++ B) (dirB 256 A ++ (dirB (256 - total A - cz c) B ++ (Y ++ R))) (A.length + 1 + B.length - 1) (total (A ++ c :: B) - cz c) (by omega) (by omega)
  rw [← Q5] at Q6
  have Q7 : setsB (closeB (encB kind (A ++ c :: B)) A.length (cz c) (256 - total (A ++ c :: B)) (256 - total A - cz c) (A.length + 1 + B.length)) (A.length + 1 + B.length - 1) (total (A ++ c :: B) - cz c) = (headB kind (A ++ B) ++ (dirB 256 A ++ dirB (256 - total A - cz c) B)) ++ (Y ++ R) := by
    rw [Q6]; simp only [List.append_assoc]
  have q8 := splice_at (o := 8 + 2 * (A.length + 1 + B.length - 1)) (Q' := List.replicate 2 0) Q7 (by simp only [List.length_append, headB_length, hdl, hbl]; omega) (by rw [hYl, List.length_replicate])
  have hPl : (headB kind (A ++ B) ++ dirB 256 A).length = 8 + 2 * A.length := by rw [List.length_append, headB_length, hdl]
  have hfin := halfB_all (headB kind (A ++ B) ++ dirB 256 A) (List.replicate 2 0 ++ R) (256 - total A - cz c) (256 - total A) B
  have henc : halfB (headB kind (A ++ B) ++ dirB 256 A) (List.replicate 2 0 ++ R) (256 - total A - cz c) (256 - total A) B B.length = encB kind (A ++ B) := by
    rw [hfin, enc_parts, ← hR]
    simp only [List.append_assoc]
    rw [rep3 2 z (cz c) (248 - 2 * (A.length + B.length) - (total A + total B)) _ (by omega)]
  have hmain := closes_pg h.pg A.length (cz c) (256 - total (A ++ c :: B)) (256 - total A - cz c) (256 - total A) (A.length + 1 + B.length) (total (A ++ c :: B)) (halfB (headB kind (A ++ B) ++ dirB 256 A) (List.replicate 2 0 ++ R) (256 - total A - cz c) (256 - total A) B)
    (by rw [enc_len _ _ h.cells.fits, hla]) (by omega) (by omega)
    (by rw [← el]; exact congrArg _ (by omega)) (by rw [show A ++ c :: B = (A ++ [c]) ++ B from by simp, ek']; omega) ek (by omega) (by omega) (by omega) (by omega)
    (by rw [Q2, len_headB _ _ _ (by omega), hla]) (by rw [Q5, len_headB _ _ _ (by omega), hla]) (by rw [Q5, used_headB _ _ _ (by omega)]) (by omega)
    (by rw [halfB_zero, q8]; simp only [List.append_assoc]) (by rw [Q6, len_headB _ _ _ (by omega), hlb]; omega)
    (fun m hm => by rw [halfB_low _ _ _ _ _ _ _ (by rw [hPl]; omega), len_headB _ _ _ (by omega), hlb]; omega)
    (fun m hm => by
      have hm' : m < B.length := by omega
      have h1 := halfB_at (headB kind (A ++ B) ++ dirB 256 A) (List.replicate 2 0 ++ R) (256 - total A - cz c) (256 - total A) B m hm' (by omega) (hcb _ (List.getElem_mem hm')) (by omega)
      have h2 := halfB_step (headB kind (A ++ B) ++ dirB 256 A) (List.replicate 2 0 ++ R) (256 - total A - cz c) (256 - total A) B m hm'
      have h3 := total_take_le B (m + 1)
      have h4 := total_take_succ B m hm'
      have h5 := hcb _ (List.getElem_mem hm')
      rw [hPl] at h1 h2
      rw [show 8 + 2 * (A.length + m) = 8 + 2 * A.length + 2 * m from by omega, h1]
      refine ⟨by omega, ?_⟩
      rw [← h2]; congr 2; omega)
  rw [show A.length + 1 + B.length - 1 - A.length = B.length from by omega, henc] at hmain
  exact hmain.mono fun e w' ⟨h1, h2, h3⟩ => ⟨h1, ⟨h2, hcells⟩, h3⟩
end Go.Proofs.Ytinbppcfdmbclaa.Pg

/-! Room is made for a cell in a page: what the bytes become. No condition beyond those that each theorem names. -/
namespace Go.Proofs.Ytinbppcfdmbclaa.Pg
open Go.RowKit
set_option linter.unusedVariables false
set_option linter.unusedSimpArgs false
/-- a page's head, of a count and a size -/
def headN (kind : UInt8) (n u : Nat) : List UInt8 := [kind, by_ n, by_ u, by_ (u / 256), 0, 0, 0, 0]
theorem headB_N (kind : UInt8) (L : List S66) : headB kind L = headN kind L.length (total L) := rfl
theorem headN_length (kind : UInt8) (n u : Nat) : (headN kind n u).length = 8 := rfl
theorem sets_headN (kind : UInt8) (n' u' n u : Nat) (r : List UInt8) : setsB (headN kind n' u' ++ r) n u = headN kind n u ++ r := by simp [headN, setsB]
theorem len_headN (kind : UInt8) (n u : Nat) (r : List UInt8) (h : n < 256) : at_ (headN kind n u ++ r) 1 = n := by
  rw [headN, List.cons_append, List.cons_append, len_head, by_at _ h]
theorem used_headN (kind : UInt8) (n u : Nat) (r : List UInt8) (h : u < 65536) : usedB (headN kind n u ++ r) = u := by
  rw [headN, List.cons_append, List.cons_append, List.cons_append, List.cons_append, used_head, by_at _ (show u / 256 < 256 by omega)]
  simp [by_]; omega
/-- a page's bytes with room for a cell of n bytes: X and Y are what happens to stand there -/
def opened (kind : UInt8) (A B : List S66) (n : Nat) (X Y : List UInt8) : List UInt8 :=
  headN kind (A.length + B.length + 1) (total A + total B + n) ++ (dirB 256 A ++ (Y ++ (dirB (256 - total A - n) B ++ (List.replicate (248 - 2 * (A.length + B.length + 1) - (total A + total B + n)) 0 ++ (cellsB B ++ (X ++ cellsB A))))))
theorem opened_from (kind : UInt8) (A B : List S66) (n : Nat) (X Y : List UInt8) (hA : Cells A) : fromB (opened kind A B n X Y) ((A.length : Int) - 1) = 256 - total A := by
  unfold fromB
  split
  · have : A = [] := List.eq_nil_of_length_eq_zero (by omega)
    subst this; rfl
  · have hf := hA.fits
    unfold Fits at hf
    have h0 : A.length - 1 < A.length := by omega
    have := (dir_at A 256 (A.length - 1) h0 (by omega) (by omega) (fun c hc => by have := hA.each c hc; unfold cz; omega)).1
    rw [List.take_of_length_le (by omega)] at this
    have hd := dirB_length A 256
    rw [opened, show 8 + 2 * ((A.length : Int) - 1).toNat = (headN kind (A.length + B.length + 1) (total A + total B + n)).length + 2 * (A.length - 1) from by rw [headN_length]; omega, at_append_r, at_append_l _ _ _ (by omega), this]
theorem opens_L {w : World} {g : Nat} {kind : UInt8} (A B : List S66) (n : Nat) (h : PGL w g kind (A ++ B)) (hn : 2 * (A.length + B.length + 1) + (total A + total B + n) ≤ 248) (hn1 : 1 ≤ n) :
    Calls Try.prog 42 #[.pointer (some ⟨g, 0, none⟩), .int .i64 (A.length : Int), .int .i64 (n : Int)] w fun e w' => e = .returned (.tuple #[]) ∧ ∃ X Y, X.length = n ∧ Y.length = 2 ∧ PG w' g (opened kind A B n X Y) ∧ BelX g w w' := by
  have hf := h.cells.fits
  have hla : (A ++ B).length = A.length + B.length := by simp
  have hta : total (A ++ B) = total A + total B := total_append A B
  have hcb : ∀ x ∈ B, 1 ≤ cz x := fun x hx => by have := h.cells.each x (by simp [hx]); unfold cz; omega
  have ek := enc_fromB kind _ h.cells A.length (by omega)
  have el := enc_fromB kind _ h.cells (A.length + B.length) (by omega)
  rw [List.take_left' rfl] at ek
  rw [List.take_of_length_le (by omega)] at el
  have hdl := dirB_length A 256
  have hbl := dirB_length B (256 - total A)
  have hbl' := dirB_length B (256 - total A - n)
  have hcl := cellsB_length B
  have hca := cellsB_length A
  have hb := enc_parts kind A B
  obtain ⟨z, hz⟩ : ∃ z, 248 - 2 * (A.length + B.length + 1) - (total A + total B + n) = z := ⟨_, rfl⟩
  have hb0 : encB kind (A ++ B) = (headB kind (A ++ B) ++ (dirB 256 A ++ (dirB (256 - total A) B ++ (List.replicate 2 0 ++ List.replicate z 0)))) ++ ((List.replicate n 0 ++ cellsB B) ++ cellsB A) := by
    rw [hb]
    simp only [List.append_assoc]
    rw [rep3 2 z n _ _ (show 248 - 2 * (A.length + B.length) - (total A + total B) = 2 + (z + n) from by omega)]
  clear hb
  have hP : (headB kind (A ++ B) ++ (dirB 256 A ++ (dirB (256 - total A) B ++ (List.replicate 2 0 ++ List.replicate z 0)))).length = 256 - total (A ++ B) - n := by
    simp only [List.length_append, headB_length, hdl, hbl, List.length_replicate]; omega
  have hb1 : encB kind (A ++ B) = ((headB kind (A ++ B) ++ (dirB 256 A ++ (dirB (256 - total A) B ++ (List.replicate 2 0 ++ List.replicate z 0)))) ++ List.replicate n 0) ++ (cellsB B ++ cellsB A) := by
    rw [hb0]; simp only [List.append_assoc]
  have p1 := part_at (o := 256 - total (A ++ B)) (n := 256 - total A - (256 - total (A ++ B))) hb1 (by rw [List.length_append, hP, List.length_replicate]; omega) (by omega)
  have hb2 : encB kind (A ++ B) = (headB kind (A ++ B) ++ (dirB 256 A ++ (dirB (256 - total A) B ++ (List.replicate 2 0 ++ List.replicate z 0)))) ++ ((List.replicate n 0 ++ cellsB B).take (total B) ++ ((List.replicate n 0 ++ cellsB B).drop (total B) ++ cellsB A)) := by
    rw [hb0]
    conv => rhs; arg 2; rw [← List.append_assoc, List.take_append_drop]
  have q1 := splice_at (o := 256 - total (A ++ B) - n) (Q' := cellsB B) hb2 hP (by rw [List.length_take, List.length_append, List.length_replicate]; omega)
  obtain ⟨X, hX⟩ : ∃ X, (List.replicate n 0 ++ cellsB B).drop (total B) = X := ⟨_, rfl⟩
  have hXl : X.length = n := by rw [← hX, List.length_drop, List.length_append, List.length_replicate]; omega
  rw [hX] at q1
  obtain ⟨R, hR⟩ : ∃ R, List.replicate z 0 ++ (cellsB B ++ (X ++ cellsB A)) = R := ⟨_, rfl⟩
  have Q1 : splice (encB kind (A ++ B)) (256 - total (A ++ B) - n) (cellsB B) = (headB kind (A ++ B) ++ dirB 256 A) ++ (dirB (256 - total A) B ++ (List.replicate 2 0 ++ R)) := by
    rw [q1, ← hR]; simp only [List.append_assoc]
  have p2 := part_at (o := 8 + 2 * A.length) (n := 8 + 2 * (A.length + B.length) - (8 + 2 * A.length)) Q1 (by rw [List.length_append, headB_length, hdl]) (by omega)
  have Q2 : splice (encB kind (A ++ B)) (256 - total (A ++ B) - n) (cellsB B) = ((headB kind (A ++ B) ++ dirB 256 A) ++ (dirB (256 - total A) B ++ List.replicate 2 0).take 2) ++ ((dirB (256 - total A) B ++ List.replicate 2 0).drop 2 ++ R) := by
    rw [Q1]
    conv => rhs; rw [List.append_assoc]; arg 2; rw [← List.append_assoc, List.take_append_drop]
    simp only [List.append_assoc]
  have q3 := splice_at (o := 8 + 2 * (A.length + 1)) (Q' := dirB (256 - total A) B) Q2 (by rw [List.length_append, List.length_append, headB_length, hdl, List.length_take, List.length_append, List.length_replicate]; omega) (by rw [List.length_drop, List.length_append, List.length_replicate]; omega)
  obtain ⟨Y, hY⟩ : ∃ Y, (dirB (256 - total A) B ++ List.replicate 2 0).take 2 = Y := ⟨_, rfl⟩
  have hYl : Y.length = 2 := by rw [← hY, List.length_take, List.length_append, List.length_replicate]; omega
  rw [hY] at q3
  have Q3 : openB (encB kind (A ++ B)) A.length n (256 - total (A ++ B)) (256 - total A) (A.length + B.length) = headN kind (A.length + B.length) (total A + total B) ++ ((dirB 256 A ++ Y) ++ (dirB (256 - total A) B ++ R)) := by
    rw [openB, p1, p2, q3, headB_N, hla, hta]; simp only [List.append_assoc]
  have hPl : (headN kind (A.length + B.length + 1) (total A + total B + n) ++ (dirB 256 A ++ Y)).length = 8 + 2 * (A.length + 1) := by rw [List.length_append, List.length_append, headN_length, hdl, hYl]; omega
  have hfin := halfB_all (headN kind (A.length + B.length + 1) (total A + total B + n) ++ (dirB 256 A ++ Y)) R (256 - total A) (256 - total A - n) B
  have henc : halfB (headN kind (A.length + B.length + 1) (total A + total B + n) ++ (dirB 256 A ++ Y)) R (256 - total A) (256 - total A - n) B B.length = opened kind A B n X Y := by
    rw [hfin, opened, ← hR, hz]; simp only [List.append_assoc]
  have hmain := opens_pg h.pg A.length n (256 - total (A ++ B)) (256 - total A) (A.length + B.length) (total A + total B) (halfB (headN kind (A.length + B.length + 1) (total A + total B + n) ++ (dirB 256 A ++ Y)) R (256 - total A) (256 - total A - n) B)
    (by rw [enc_len _ _ h.cells.fits, hla]) (by omega) (by omega) (by rw [← el]) ek (by omega) (by omega) (by omega)
    (by rw [Q3, len_headN _ _ _ _ (by omega)]) (by rw [Q3, used_headN _ _ _ _ (by omega)]) (by omega)
    (by rw [halfB_zero, Q3, sets_headN]; simp only [List.append_assoc])
    (fun m hm => by rw [halfB_low _ _ _ _ _ _ _ (by rw [hPl]; omega), len_headN _ _ _ _ (by omega)])
    (fun m hm => by
      have hm' : m < B.length := by omega
      have h1 := halfB_at (headN kind (A.length + B.length + 1) (total A + total B + n) ++ (dirB 256 A ++ Y)) R (256 - total A) (256 - total A - n) B m hm' (by omega) (hcb _ (List.getElem_mem hm')) (by omega)
      have h2 := halfB_step (headN kind (A.length + B.length + 1) (total A + total B + n) ++ (dirB 256 A ++ Y)) R (256 - total A) (256 - total A - n) B m hm'
      have h3 := total_take_le B (m + 1)
      rw [hPl] at h1 h2
      rw [show 8 + 2 * (A.length + 1 + m) = 8 + 2 * (A.length + 1) + 2 * m from by omega, h1]
      refine ⟨by omega, ?_⟩
      rw [← h2]; congr 2; omega)
  rw [show A.length + B.length - A.length = B.length from by omega, henc] at hmain
  exact hmain.mono fun e w' ⟨h1, h2, h3⟩ => ⟨h1, X, Y, hXl, hYl, h2, h3⟩
theorem set_two (P R : List UInt8) (y0 y1 a b : UInt8) : ((P ++ (y0 :: y1 :: R)).set P.length a).set (P.length + 1) b = P ++ (a :: b :: R) := by
  have h1 := set_append_r P (y0 :: y1 :: R) 0 a
  have h2 := set_append_r P (a :: y1 :: R) 1 b
  rw [Nat.add_zero] at h1
  rw [h1]; exact h2
/-- the room is filled with a cell -/
theorem opened_fill (kind : UInt8) (A B : List S66) (c : S66) (X Y : List UInt8) (hX : X.length = cz c) (hY : Y.length = 2) (hn : 2 * (A.length + B.length + 1) + (total A + total B + cz c) ≤ 248) :
    splice (pointsB (opened kind A B (cz c) X Y) (8 + 2 * A.length) (256 - total A - cz c) c.f0.size) (256 - total A - cz c) (cellB c) = encB kind (A ++ c :: B) := by
  have hdl := dirB_length A 256
  have hbl := dirB_length B (256 - total A - cz c)
  have hcl := cellsB_length B
  have hca := cellsB_length A
  have hcc := cellB_length c
  obtain ⟨y0, y1, rfl⟩ : ∃ y0 y1, Y = [y0, y1] := by
    match Y, hY with
    | [a, b], _ => exact ⟨a, b, rfl⟩
  obtain ⟨R, hR⟩ : ∃ R, dirB (256 - total A - cz c) B ++ (List.replicate (248 - 2 * (A.length + B.length + 1) - (total A + total B + cz c)) 0 ++ (cellsB B ++ (X ++ cellsB A))) = R := ⟨_, rfl⟩
  have hPl : (headN kind (A.length + B.length + 1) (total A + total B + cz c) ++ dirB 256 A).length = 8 + 2 * A.length := by rw [List.length_append, headN_length, hdl]
  have e1 : opened kind A B (cz c) X [y0, y1] = (headN kind (A.length + B.length + 1) (total A + total B + cz c) ++ dirB 256 A) ++ (y0 :: y1 :: R) := by
    rw [opened, hR]; simp only [List.append_assoc, List.cons_append, List.nil_append]
  have e2 : pointsB (opened kind A B (cz c) X [y0, y1]) (8 + 2 * A.length) (256 - total A - cz c) c.f0.size = (headN kind (A.length + B.length + 1) (total A + total B + cz c) ++ dirB 256 A) ++ (by_ (256 - total A - cz c) :: by_ c.f0.size :: R) := by
    rw [pointsB, e1, ← hPl, set_two]
  have e3 : pointsB (opened kind A B (cz c) X [y0, y1]) (8 + 2 * A.length) (256 - total A - cz c) c.f0.size = (headN kind (A.length + B.length + 1) (total A + total B + cz c) ++ (dirB 256 A ++ ([by_ (256 - total A - cz c), by_ c.f0.size] ++ (dirB (256 - total A - cz c) B ++ (List.replicate (248 - 2 * (A.length + B.length + 1) - (total A + total B + cz c)) 0 ++ cellsB B))))) ++ (X ++ cellsB A) := by
    rw [e2, ← hR]; simp only [List.append_assoc, List.cons_append, List.nil_append]
  rw [splice_at e3 (by simp only [List.length_append, headN_length, hdl, hbl, List.length_cons, List.length_nil, List.length_replicate]; omega) (by omega)]
  rw [enc_parts, headB_N]
  simp only [dirB, cellsB, total, total_append, List.length_append, List.length_cons, List.append_assoc, List.cons_append, List.nil_append]
  rw [show A.length + (B.length + 1) = A.length + B.length + 1 from by omega, show total A + (cz c + total B) = total A + total B + cz c from by omega]
end Go.Proofs.Ytinbppcfdmbclaa.Pg

/-! A page's Put, walked: the cells that it leaves. No condition beyond those that each theorem names. -/
namespace Go.Proofs.Ytinbppcfdmbclaa.Pg
open Go.RowKit Go.Proofs.YtinbppcfdmbclaaW.PrintWords Go.Proofs.YtinbppcfdmbclaaW.PrintLast Go.Proofs.YtinbppcfdmbclaaW.PrintMore
set_option linter.unusedVariables false
set_option linter.unusedSimpArgs false
/-- are a key and a value a cell? -/
def mayB (key value : ByteArray) : Bool := decide (1 ≤ key.size ∧ key.size ≤ 80 ∧ key.size + value.size ≤ 100)
theorem cell_f (key value : ByteArray) : page_cell.f key value = some (mayB key value) := by
  unfold page_cell.f mayB
  by_cases h1 : (key.size : Int) ≥ 1
  · rw [if_pos h1]
    by_cases h2 : (key.size : Int) ≤ 80
    · rw [if_pos h2, w64s _ (by omega) (by omega)]
      congr 1
      exact decide_eq_decide.2 (by omega)
    · rw [if_neg h2]
      congr 1
      exact (decide_eq_false (by omega)).symm
  · rw [if_neg h1]
    congr 1
    exact (decide_eq_false (by omega)).symm
theorem may_f (key value : ByteArray) : quaysideref12_May.f key value = some (mayB key value) := cell_f key value
/-- the cells ahead of a key's place, and those behind it -/
def aheadL (L : List S66) (key : ByteArray) : List S66 := L.take (fN L key)
def behindL (L : List S66) (key : ByteArray) : List S66 := L.drop (if there L key = true then fN L key + 1 else fN L key)
/-- the cells with a key's value put -/
def insL (L : List S66) (key value : ByteArray) : List S66 := aheadL L key ++ ⟨key, value⟩ :: behindL L key
theorem ahead_len (L : List S66) (key : ByteArray) : (aheadL L key).length = fN L key := by
  rw [aheadL, List.length_take, Nat.min_eq_left (fN_le L key)]
theorem there_lt {L : List S66} {key : ByteArray} (h : there L key = true) : ∃ hk : fN L key < L.length, L[fN L key].f0 = key := by
  unfold there at h
  by_cases hk : fN L key < L.length
  · rw [List.getElem?_eq_getElem hk] at h
    exact ⟨hk, ba_ext (by have := beq_iff_eq.1 h; rwa [ba_list, ba_list] at this)⟩
  · rw [List.getElem?_eq_none (by omega)] at h; cases h
theorem parts_there {L : List S66} {key : ByteArray} (h : there L key = true) : ∃ c, c.f0 = key ∧ L = aheadL L key ++ c :: behindL L key ∧ L[fN L key]? = some c := by
  obtain ⟨hk, he⟩ := there_lt h
  refine ⟨L[fN L key], he, ?_, List.getElem?_eq_getElem hk⟩
  rw [aheadL, behindL, if_pos h, ← List.drop_eq_getElem_cons hk, List.take_append_drop]
theorem parts_not {L : List S66} {key : ByteArray} (h : there L key = false) : L = aheadL L key ++ behindL L key := by
  rw [aheadL, behindL, if_neg (by simp [h]), List.take_append_drop]
theorem fN_less : ∀ (L : List S66) (key : ByteArray) (i : Nat) (h : i < L.length), i < fN L key → Op.bytesLess L[i].f0.toList key.toList = true
  | [], _, i, h, _ => absurd h (by simp)
  | c :: t, key, i, h, hi => by
    unfold fN at hi
    split at hi
    · rename_i hc
      cases i with
      | zero => exact hc
      | succ j => simpa using fN_less t key j (by simpa using h) (by omega)
    · omega
theorem fN_not : ∀ (L : List S66) (key : ByteArray) (h : fN L key < L.length), Op.bytesLess L[fN L key].f0.toList key.toList = false
  | [], _, h => absurd h (by simp)
  | c :: t, key, h => by
    by_cases hc : Op.bytesLess c.f0.toList key.toList = true
    · have e : fN (c :: t) key = fN t key + 1 := by rw [fN, if_pos hc]
      have := fN_not t key (by rw [e] at h; simpa using h)
      simp only [e]; simpa using this
    · have e : fN (c :: t) key = 0 := by rw [fN, if_neg hc]
      simp only [e]; simpa using hc
/-- what is put keeps the order -/
theorem ins_asc {L : List S66} (h : L.Pairwise fun c d => Op.bytesLess c.f0.toList d.f0.toList = true) (key value : ByteArray) : (insL L key value).Pairwise fun c d => Op.bytesLess c.f0.toList d.f0.toList = true := by
  have hA : ∀ c ∈ aheadL L key, Op.bytesLess c.f0.toList key.toList = true := by
    intro c hc
    obtain ⟨i, hi, rfl⟩ := List.getElem_of_mem hc
    rw [ahead_len] at hi
    have hl := fN_le L key
    have := fN_less L key i (by omega) hi
    simpa [aheadL] using this
  have hB : ∀ c ∈ behindL L key, Op.bytesLess key.toList c.f0.toList = true := by
    intro c hc
    obtain ⟨i, hi, rfl⟩ := List.getElem_of_mem hc
    by_cases ht : there L key = true
    · obtain ⟨hk, he⟩ := there_lt ht
      have hi' := hi
      simp only [behindL, if_pos ht, List.length_drop] at hi'
      have := asc_lt h (fN L key) (fN L key + 1 + i) hk (by omega) (by omega)
      rw [he] at this
      simpa [behindL, ht] using this
    · have ht' : there L key = false := by simpa using ht
      have hi' := hi
      simp only [behindL, if_neg ht, List.length_drop] at hi'
      have hk : fN L key < L.length := by omega
      have hn := fN_not L key hk
      have hne : L[fN L key].f0.toList ≠ key.toList := by
        intro e
        unfold there at ht'
        rw [List.getElem?_eq_getElem hk] at ht'
        simp [e] at ht'
      have h1 := less_total hn hne
      by_cases h0 : i = 0
      · subst h0; simpa [behindL, ht'] using h1
      · have := asc_lt h (fN L key) (fN L key + i) hk (by omega) (by omega)
        have := less_trans h1 this
        simpa [behindL, ht'] using this
  have hs : (aheadL L key ++ behindL L key).Pairwise fun c d => Op.bytesLess c.f0.toList d.f0.toList = true := by
    refine h.sublist ?_
    cases ht : there L key with
    | false => rw [← parts_not ht]; exact List.Sublist.refl _
    | true =>
      obtain ⟨c, -, e, -⟩ := parts_there ht
      conv => rhs; rw [e]
      exact List.Sublist.append_left (List.sublist_cons_self _ _) _
  rw [List.pairwise_append] at hs
  rw [insL, List.pairwise_append]
  refine ⟨hs.1, List.pairwise_cons.2 ⟨fun d hd => hB d hd, hs.2.1⟩, fun c hc d hd => ?_⟩
  rcases List.mem_cons.1 hd with rfl | hd
  · exact hA c hc
  · exact hs.2.2 c hc d hd
theorem ins_cells {L : List S66} (h : Cells L) (key value : ByteArray) (hm : mayB key value = true) (hf : Fits (insL L key value)) : Cells (insL L key value) := by
  refine ⟨hf, fun c hc => ?_, ins_asc h.asc key value⟩
  have hm' := of_decide_eq_true hm
  rw [insL, List.mem_append, List.mem_cons] at hc
  rcases hc with hc | rfl | hc
  · exact h.each c (List.mem_of_mem_take hc)
  · exact hm'
  · exact h.each c (List.mem_of_mem_drop hc)
end Go.Proofs.Ytinbppcfdmbclaa.Pg

/-! A page's Put, walked: the cells that it leaves. No condition beyond those that each theorem names. -/
namespace Go.Proofs.Ytinbppcfdmbclaa.Pg
open Go.RowKit Go.Proofs.YtinbppcfdmbclaaW.PrintWords Go.Proofs.YtinbppcfdmbclaaW.PrintLast Go.Proofs.YtinbppcfdmbclaaW.PrintMore
set_option linter.unusedVariables false
set_option linter.unusedSimpArgs false
theorem BelX.drewN {g : Nat} {a b : World} (h : BelX g a b) (n : Nat) : BelX g a (b.drewN n) := h.trans (BelX.of_below (pw_below_drewN (Below.refl _ _) n))
theorem PGL.drewN {w : World} {g : Nat} {kind : UInt8} {L : List S66} (h : PGL w g kind L) (n : Nat) : PGL (w.drewN n) g kind L := h.below (pw_below_drewN (Below.refl _ _) n)
set_option maxHeartbeats 4000000 in
theorem Put_arg {w : World} {g : Nat} {kind : UInt8} {L : List S66} (h : PGL w g kind L) (key value : ByteArray) (hm : mayB key value = false) : Calls Try.prog 18 #[.pointer (some ⟨g, 0, none⟩), .string key, .string value] w fun e w' => e = .returned (.int .i64 1) ∧ Below w.heap.size w w' := by
  have HG := Aside0.mk (given_pg h.pg)
  have HC := Aside0.mk (page_cell.calls key value false w (by rw [cell_f, hm]))
  clear h hm
  go_enter Try.func18, Try.ntmps18
  go_wp2_with fail
  refine HG.out.mono ?_; rintro e w' ⟨rfl, rfl⟩
  go_wp2_with fail
  refine HC.out.mono ?_; rintro e w' ⟨rfl, ⟨nd, rfl⟩⟩
  go_wp2_with fail
  go_ret
  exact ⟨rfl, pw_below_drewN (Below.refl _ _) _⟩
theorem room_L {w : World} {g : Nat} {kind : UInt8} {L : List S66} (h : PGL w g kind L) : Calls Try.prog 35 #[.pointer (some ⟨g, 0, none⟩)] w fun e w' => e = .returned (.int .i64 (248 - 2 * (L.length : Int) - (total L : Int))) ∧ Below w.heap.size w w' := by
  have := room_pg h.pg
  rwa [roomB, enc_len _ _ h.cells.fits, enc_used _ _ h.cells.fits] at this
set_option maxHeartbeats 4000000 in
theorem Put_full {w : World} {g : Nat} {kind : UInt8} {L : List S66} (h : PGL w g kind L) (key value : ByteArray) (hm : mayB key value = true) (hf : ¬ Fits (insL L key value)) : Calls Try.prog 18 #[.pointer (some ⟨g, 0, none⟩), .string key, .string value] w fun e w' => e = .returned (.int .i64 2) ∧ Below w.heap.size w w' := by
  have HG := Aside0.mk (given_pg h.pg)
  have HC := Aside0.mk (page_cell.calls key value true w (by rw [cell_f, hm]))
  have H := Aside0.mk h
  have hfit := h.cells.fits
  unfold Fits at hfit
  have hkv := of_decide_eq_true hm
  have hi1 : (insL L key value).length = (aheadL L key).length + (behindL L key).length + 1 := by rw [insL, List.length_append, List.length_cons]; omega
  have hi2 : total (insL L key value) = total (aheadL L key) + total (behindL L key) + (key.size + value.size) := by rw [insL, total_append, total]; show _ + (key.size + value.size + _) = _; omega
  unfold Fits at hf
  clear h hm
  cases ht : there L key with
  | false =>
    have e0 := parts_not ht
    have e1 := congrArg List.length e0
    have e2 := congrArg total e0
    rw [List.length_append] at e1
    rw [total_append] at e2
    have hfull : ¬ 2 + ((key.size : Int) + (value.size : Int)) ≤ 248 - 2 * (L.length : Int) - (total L : Int) := by omega
    have hd : decide (2 + ((key.size : Int) + (value.size : Int)) > 248 - 2 * (L.length : Int) - (total L : Int)) = true := decide_eq_true (by omega)
    have hd' : decide (248 - 2 * (L.length : Int) - (total L : Int) < 2 + ((key.size : Int) + (value.size : Int))) = true := decide_eq_true (by omega)
    clear e0 hi1 hi2 e1 e2 hf
    go_enter Try.func18, Try.ntmps18
    go_wp2_with fail
    refine HG.out.mono ?_; rintro e w' ⟨rfl, rfl⟩
    go_wp2_with fail
    refine HC.out.mono ?_; rintro e w1 ⟨rfl, ⟨nd, rfl⟩⟩
    have H1 := Aside0.mk (H.out.drewN nd)
    go_wp2_with fail
    refine (show Calls Try.prog 26 #[.pointer (some ⟨g, 0, none⟩), .string key] (w'.drewN nd) fun e w'' => e = .returned (.tuple #[.int .i64 (fN L key : Int), .bool false]) ∧ Below (w'.drewN nd).heap.size (w'.drewN nd) w'' from by have := Find_pg H1.out key; rwa [ht] at this).mono ?_; rintro e w2 ⟨rfl, hb2⟩
    have H2 := Aside0.mk (H1.out.below hb2)
    have HB2 := Aside0.mk (below_step (pw_below_drewN (Below.refl w'.heap.size w') nd) hb2)
    clear hb2 H1
    go_wp2_with fail
    refine (room_L H2.out).mono ?_; rintro e w3 ⟨rfl, hb3⟩
    have HB3 := Aside0.mk (below_step HB2.out hb3)
    clear hb3 HB2
    go_wp2_with fail
    go_ret
    exact ⟨rfl, HB3.out⟩
  | true =>
    obtain ⟨c, hc, e0, hget⟩ := parts_there ht
    have e1 := congrArg List.length e0
    have e2 := congrArg total e0
    rw [List.length_append, List.length_cons] at e1
    rw [total_append, total, cz, hc] at e2
    obtain ⟨hlt, hgk⟩ := List.getElem?_eq_some_iff.1 hget
    have hd' : decide (248 - 2 * (L.length : Int) - (total L : Int) + (2 + (key.size : Int) + (c.f1.size : Int)) < 2 + ((key.size : Int) + (value.size : Int))) = true := decide_eq_true (by omega)
    have HT := Aside0.mk (And.intro hgk hc)
    have hb1 : total L ≤ 248 := by omega
    have hb2 : c.f1.size ≤ 248 := by omega
    clear e0 hi1 hi2 e1 e2 hf hget hgk hc
    go_enter Try.func18, Try.ntmps18
    go_wp2_with fail
    refine HG.out.mono ?_; rintro e w' ⟨rfl, rfl⟩
    go_wp2_with fail
    refine HC.out.mono ?_; rintro e w1 ⟨rfl, ⟨nd, rfl⟩⟩
    have H1 := Aside0.mk (H.out.drewN nd)
    go_wp2_with fail
    refine (show Calls Try.prog 26 #[.pointer (some ⟨g, 0, none⟩), .string key] (w'.drewN nd) fun e w'' => e = .returned (.tuple #[.int .i64 (fN L key : Int), .bool true]) ∧ Below (w'.drewN nd).heap.size (w'.drewN nd) w'' from by have := Find_pg H1.out key; rwa [ht] at this).mono ?_; rintro e w2 ⟨rfl, hb2⟩
    have H2 := Aside0.mk (H1.out.below hb2)
    have HB2 := Aside0.mk (below_step (pw_below_drewN (Below.refl w'.heap.size w') nd) hb2)
    clear hb2 H1
    go_wp2_with fail
    refine (room_L H2.out).mono ?_; rintro e w3 ⟨rfl, hb3⟩
    have H3 := Aside0.mk (H2.out.below hb3)
    have HB3 := Aside0.mk (below_step HB2.out hb3)
    clear hb3 HB2 H2
    go_wp2_with fail
    refine (At_cell H3.out _ hlt).mono ?_; rintro e w4 ⟨rfl, hb4⟩
    have HB4 := Aside0.mk (below_step HB3.out hb4)
    clear hb4 HB3
    rw [HT.out.1, HT.out.2]
    go_wp2_with fail
    go_ret
    exact ⟨rfl, HB4.out⟩
end Go.Proofs.Ytinbppcfdmbclaa.Pg

/-! A page's Put where there is room, walked: the cells that it leaves. No condition beyond those that each theorem names. -/
namespace Go.Proofs.Ytinbppcfdmbclaa.Pg
open Go.RowKit Go.Proofs.YtinbppcfdmbclaaW.PrintWords Go.Proofs.YtinbppcfdmbclaaW.PrintLast Go.Proofs.YtinbppcfdmbclaaW.PrintMore
set_option linter.unusedVariables false
set_option linter.unusedSimpArgs false
theorem app_data (a b : ByteArray) : (a ++ b).data.toList = a.data.toList ++ b.data.toList := by simp
/-- the cells ahead are cells -/
theorem ahead_cells {L : List S66} (h : Cells L) (key : ByteArray) : Cells (aheadL L key) := by
  refine ⟨?_, fun c hc => h.each c (List.mem_of_mem_take hc), h.asc.sublist (List.take_sublist _ _)⟩
  have hf := h.fits
  unfold Fits at hf ⊢
  have h1 := total_take_le L (fN L key)
  have h2 : (L.take (fN L key)).length ≤ L.length := List.length_take_le' _ _
  unfold aheadL; omega
set_option maxHeartbeats 4000000 in
theorem Put_ok {w : World} {g : Nat} {kind : UInt8} {L : List S66} (h : PGL w g kind L) (key value : ByteArray) (hm : mayB key value = true) (hf : Fits (insL L key value)) : Calls Try.prog 18 #[.pointer (some ⟨g, 0, none⟩), .string key, .string value] w fun e w' => e = .returned (.int .i64 0) ∧ PGL w' g kind (insL L key value) ∧ BelX g w w' := by
  have HG := Aside0.mk (given_pg h.pg)
  have HC := Aside0.mk (page_cell.calls key value true w (by rw [cell_f, hm]))
  have H := Aside0.mk h
  have hfit := h.cells.fits
  unfold Fits at hfit
  have hkv := of_decide_eq_true hm
  have hi1 : (insL L key value).length = (aheadL L key).length + (behindL L key).length + 1 := by rw [insL, List.length_append, List.length_cons]; omega
  have hi2 : total (insL L key value) = total (aheadL L key) + total (behindL L key) + (key.size + value.size) := by rw [insL, total_append, total]; show _ + (key.size + value.size + _) = _; omega
  have HF := Aside0.mk (ins_cells h.cells key value hm hf)
  have HA := Aside0.mk (ahead_cells h.cells key)
  unfold Fits at hf
  rw [hi1, hi2] at hf
  have hal := ahead_len L key
  obtain ⟨A, hA⟩ : ∃ A, aheadL L key = A := ⟨_, rfl⟩
  obtain ⟨B, hB⟩ : ∃ B, behindL L key = B := ⟨_, rfl⟩
  have hins : insL L key value = A ++ ⟨key, value⟩ :: B := by rw [insL, hA, hB]
  rw [hins] at HF ⊢
  rw [hA] at HA hf hal
  rw [hB] at hf
  obtain ⟨n, hn⟩ : ∃ n, key.size + value.size = n := ⟨_, rfl⟩
  rw [hn] at hf hkv
  have hk8 : key.size ≤ 80 ∧ value.size ≤ 100 := by omega
  -- the tail of the walk, from 'opens' on
  have T : ∀ w0, PGL w0 g kind (A ++ B) → BelX g w w0 → True := fun _ _ _ => trivial
  clear h hm hins T
  cases ht : there L key with
  | false =>
    have e0 := parts_not ht
    rw [hA, hB] at e0
    have e1 := congrArg List.length e0
    have e2 := congrArg total e0
    rw [List.length_append] at e1
    rw [total_append] at e2
    have hd' : decide (248 - 2 * (L.length : Int) - (total L : Int) < 2 + ((key.size : Int) + (value.size : Int))) = false := decide_eq_false (by omega)
    have E0 := Aside0.mk e0
    have HK := Aside0.mk (And.intro hkv (And.intro hn (And.intro hal hf)))
    have hq : wrap64 ((fN L key : Int) - 1) = (fN L key : Int) - 1 := w64s _ (by omega) (by omega)
    clear e0 hi1 hi2 e1 e2 hA hB hal hf hn
    go_enter Try.func18, Try.ntmps18
    go_wp2_with fail
    refine HG.out.mono ?_; rintro e w' ⟨rfl, rfl⟩
    go_wp2_with fail
    refine HC.out.mono ?_; rintro e w1 ⟨rfl, ⟨nd, rfl⟩⟩
    have H1 := Aside0.mk (H.out.drewN nd)
    go_wp2_with fail
    refine (show Calls Try.prog 26 #[.pointer (some ⟨g, 0, none⟩), .string key] (w'.drewN nd) fun e w'' => e = .returned (.tuple #[.int .i64 (fN L key : Int), .bool false]) ∧ Below (w'.drewN nd).heap.size (w'.drewN nd) w'' from by have := Find_pg H1.out key; rwa [ht] at this).mono ?_; rintro e w2 ⟨rfl, hb2⟩
    have H2 := Aside0.mk (H1.out.below hb2)
    have HX2 := Aside0.mk (((BelX.refl g w').drewN nd).trans (BelX.of_below hb2))
    clear hb2 H1
    go_wp2_with fail
    refine (room_L H2.out).mono ?_; rintro e w3 ⟨rfl, hb3⟩
    have H3 := Aside0.mk (show PGL w3 g kind (A ++ B) from by have := H2.out.below hb3; rwa [E0.out] at this)
    have HX3 := Aside0.mk (HX2.out.trans (BelX.of_below hb3))
    clear hb3 HX2 H2
    go_wp2_with fail
    have HO := Aside0.mk (show Calls Try.prog 42 #[.pointer (some ⟨g, 0, none⟩), .int .i64 (fN L key : Int), .int .i64 ((key.size : Int) + (value.size : Int))] w3 fun e w' => e = .returned (.tuple #[]) ∧ ∃ X Y, X.length = n ∧ Y.length = 2 ∧ PG w' g (opened kind A B n X Y) ∧ BelX g w3 w' from by
      have := opens_L A B n H3.out (by have := HK.out; omega) (by have := HK.out; omega)
      rwa [HK.out.2.2.1, show (n : Int) = (key.size : Int) + (value.size : Int) from by have := HK.out; omega] at this)
    refine HO.out.mono ?_; rintro e w4 ⟨rfl, X, Y, hX, hY, hp4, hb4⟩
    have P4 := Aside0.mk hp4
    have XY := Aside0.mk (And.intro hX hY)
    have HX4 := Aside0.mk (HX3.out.trans hb4)
    clear hX hY hb4 HX3 H3 HO
    obtain ⟨e4, he4⟩ : ∃ e4, 256 - total A = e4 := ⟨_, rfl⟩
    have HFr := Aside0.mk (show Calls Try.prog 36 #[.pointer (some ⟨g, 0, none⟩), .int .i64 ((fN L key : Int) - 1)] w4 fun e w' => e = .returned (.int .i64 (e4 : Int)) ∧ w' = w4 from by
      have := from_any hp4 ((fN L key : Int) - 1) (by have := HK.out; omega)
      have e := opened_from kind A B n X Y HA.out
      rw [HK.out.2.2.1] at e
      rwa [e, he4] at this)
    obtain ⟨d4, hd4⟩ : ∃ d4, e4 - n = d4 := ⟨_, rfl⟩
    have HPt := Aside0.mk (show Calls Try.prog 43 #[.pointer (some ⟨g, 0, none⟩), .int .i64 (fN L key : Int), .int .i64 (d4 : Int), .int .i64 (key.size : Int)] w4 fun e w' => e = .returned (.tuple #[]) ∧ PG w' g (pointsB (opened kind A B n X Y) (8 + 2 * A.length) d4 key.size) ∧ BelX g w4 w' from
      points_pg hp4 (fN L key : Int) (8 + 2 * A.length) d4 key.size (by omega) (by have := HK.out; omega) (by have := HK.out; omega))
    obtain ⟨A1, n1, c1, hn1, hs1, hv1, hA1⟩ := sl g d4 e4 (by omega) (by omega)
    clear hv1
    have HE := Aside0.mk (show e4 ≤ 256 ∧ n ≤ e4 ∧ d4 + n = e4 ∧ n1 = n ∧ d4 = 256 - total A - n from by have := HK.out; omega)
    have HA1 := Aside0.mk hA1
    have HSz := Aside0.mk (show (key ++ value).size = n1 ∧ d4 + n1 ≤ 256 from by rw [ByteArray.size_append]; have := HE.out; have := HK.out; omega)
    have HFl := Aside0.mk (show 2 * (A.length + B.length + 1) + (total A + total B + (key.size + value.size)) ≤ 248 from by have := HK.out; omega)
    have q1 : (e4 : Int) - ((key.size : Int) + (value.size : Int)) = (d4 : Int) := by have := HE.out; have := HK.out; omega
    have hle4 : n ≤ e4 ∧ e4 ≤ 256 := ⟨HE.out.2.1, HE.out.1⟩
    clear hp4 he4 hd4 hn1 hA1
    go_wp2_with fail
    refine HFr.out.mono ?_; rintro e w5 ⟨rfl, rfl⟩
    go_wp2_with fail
    refine HPt.out.mono ?_; rintro e w6 ⟨rfl, hp6, hb6⟩
    have HX6 := Aside0.mk (HX4.out.trans hb6)
    obtain ⟨w7, hc7, hp7, hb7⟩ := copy_str_pg hp6 A1 d4 n1 c1 (key ++ value) HA1.out HSz.out.1 HSz.out.2
    have HR := Aside0.mk (show PGL w7 g kind (A ++ ⟨key, value⟩ :: B) from by
      refine ⟨?_, HF.out⟩
      have e := opened_fill kind A B ⟨key, value⟩ X Y (by rw [XY.out.1]; exact HK.out.2.1.symm) XY.out.2 HFl.out
      rw [show cz ⟨key, value⟩ = n from HK.out.2.1, ← HE.out.2.2.2.2] at e
      rw [app_data] at hp7
      rw [← e]; exact hp7)
    have HX7 := Aside0.mk (HX6.out.trans hb7)
    clear hp6 hb6 hp7 hb7 HX6 HX4 P4 HFr HPt
    go_wp2_with fail
    go_ret
    exact ⟨rfl, HR.out, HX7.out⟩
  | true =>
    obtain ⟨c, hc, e0, hget⟩ := parts_there ht
    rw [hA, hB] at e0
    have e1 := congrArg List.length e0
    have e2 := congrArg total e0
    rw [List.length_append, List.length_cons] at e1
    rw [total_append, total, cz, hc] at e2
    obtain ⟨hlt, hgk⟩ := List.getElem?_eq_some_iff.1 hget
    have hd' : decide (248 - 2 * (L.length : Int) - (total L : Int) + (2 + (key.size : Int) + (c.f1.size : Int)) < 2 + ((key.size : Int) + (value.size : Int))) = false := decide_eq_false (by omega)
    have HT := Aside0.mk (And.intro hgk hc)
    have hb1 : total L ≤ 248 := by omega
    have hb2 : c.f1.size ≤ 248 := by omega
    have E0 := Aside0.mk e0
    have HK := Aside0.mk (And.intro hkv (And.intro hn (And.intro hal hf)))
    have hq : wrap64 ((fN L key : Int) - 1) = (fN L key : Int) - 1 := w64s _ (by omega) (by omega)
    clear e0 hi1 hi2 e1 e2 hf hget hgk hc hA hB hal hn
    go_enter Try.func18, Try.ntmps18
    go_wp2_with fail
    refine HG.out.mono ?_; rintro e w' ⟨rfl, rfl⟩
    go_wp2_with fail
    refine HC.out.mono ?_; rintro e w1 ⟨rfl, ⟨nd, rfl⟩⟩
    have H1 := Aside0.mk (H.out.drewN nd)
    go_wp2_with fail
    refine (show Calls Try.prog 26 #[.pointer (some ⟨g, 0, none⟩), .string key] (w'.drewN nd) fun e w'' => e = .returned (.tuple #[.int .i64 (fN L key : Int), .bool true]) ∧ Below (w'.drewN nd).heap.size (w'.drewN nd) w'' from by have := Find_pg H1.out key; rwa [ht] at this).mono ?_; rintro e w2 ⟨rfl, hb2⟩
    have H2 := Aside0.mk (H1.out.below hb2)
    have HX2 := Aside0.mk (((BelX.refl g w').drewN nd).trans (BelX.of_below hb2))
    clear hb2 H1
    go_wp2_with fail
    refine (room_L H2.out).mono ?_; rintro e w2a ⟨rfl, hb3⟩
    have H2a := Aside0.mk (H2.out.below hb3)
    have HX2a := Aside0.mk (HX2.out.trans (BelX.of_below hb3))
    clear hb3 HX2 H2
    go_wp2_with fail
    refine (At_cell H2a.out _ hlt).mono ?_; rintro e w2b ⟨rfl, hb4⟩
    have H2b := Aside0.mk (show PGL w2b g kind (A ++ c :: B) from by have := H2a.out.below hb4; rwa [E0.out] at this)
    have HX2b := Aside0.mk (HX2a.out.trans (BelX.of_below hb4))
    clear hb4 HX2a H2a
    rw [HT.out.1, HT.out.2]
    go_wp2_with fail
    refine (show Calls Try.prog 41 #[.pointer (some ⟨g, 0, none⟩), .int .i64 (fN L key : Int)] w2b fun e w' => e = .returned (.tuple #[]) ∧ PGL w' g kind (A ++ B) ∧ BelX g w2b w' from by have := closes_L A B c H2b.out; rwa [HK.out.2.2.1] at this).mono ?_; rintro e w3 ⟨rfl, hp3, hb3⟩
    have H3 := Aside0.mk hp3
    have HX3 := Aside0.mk (HX2b.out.trans hb3)
    clear hp3 hb3 HX2b H2b
    go_wp2_with fail
    have HO := Aside0.mk (show Calls Try.prog 42 #[.pointer (some ⟨g, 0, none⟩), .int .i64 (fN L key : Int), .int .i64 ((key.size : Int) + (value.size : Int))] w3 fun e w' => e = .returned (.tuple #[]) ∧ ∃ X Y, X.length = n ∧ Y.length = 2 ∧ PG w' g (opened kind A B n X Y) ∧ BelX g w3 w' from by
      have := opens_L A B n H3.out (by have := HK.out; omega) (by have := HK.out; omega)
      rwa [HK.out.2.2.1, show (n : Int) = (key.size : Int) + (value.size : Int) from by have := HK.out; omega] at this)
    refine HO.out.mono ?_; rintro e w4 ⟨rfl, X, Y, hX, hY, hp4, hb4⟩
    have P4 := Aside0.mk hp4
    have XY := Aside0.mk (And.intro hX hY)
    have HX4 := Aside0.mk (HX3.out.trans hb4)
    clear hX hY hb4 HX3 H3 HO
    obtain ⟨e4, he4⟩ : ∃ e4, 256 - total A = e4 := ⟨_, rfl⟩
    have HFr := Aside0.mk (show Calls Try.prog 36 #[.pointer (some ⟨g, 0, none⟩), .int .i64 ((fN L key : Int) - 1)] w4 fun e w' => e = .returned (.int .i64 (e4 : Int)) ∧ w' = w4 from by
      have := from_any hp4 ((fN L key : Int) - 1) (by have := HK.out; omega)
      have e := opened_from kind A B n X Y HA.out
      rw [HK.out.2.2.1] at e
      rwa [e, he4] at this)
    obtain ⟨d4, hd4⟩ : ∃ d4, e4 - n = d4 := ⟨_, rfl⟩
    have HPt := Aside0.mk (show Calls Try.prog 43 #[.pointer (some ⟨g, 0, none⟩), .int .i64 (fN L key : Int), .int .i64 (d4 : Int), .int .i64 (key.size : Int)] w4 fun e w' => e = .returned (.tuple #[]) ∧ PG w' g (pointsB (opened kind A B n X Y) (8 + 2 * A.length) d4 key.size) ∧ BelX g w4 w' from
      points_pg hp4 (fN L key : Int) (8 + 2 * A.length) d4 key.size (by omega) (by have := HK.out; omega) (by have := HK.out; omega))
    obtain ⟨A1, n1, c1, hn1, hs1, hv1, hA1⟩ := sl g d4 e4 (by omega) (by omega)
    clear hv1
    have HE := Aside0.mk (show e4 ≤ 256 ∧ n ≤ e4 ∧ d4 + n = e4 ∧ n1 = n ∧ d4 = 256 - total A - n from by have := HK.out; omega)
    have HA1 := Aside0.mk hA1
    have HSz := Aside0.mk (show (key ++ value).size = n1 ∧ d4 + n1 ≤ 256 from by rw [ByteArray.size_append]; have := HE.out; have := HK.out; omega)
    have HFl := Aside0.mk (show 2 * (A.length + B.length + 1) + (total A + total B + (key.size + value.size)) ≤ 248 from by have := HK.out; omega)
    have q1 : (e4 : Int) - ((key.size : Int) + (value.size : Int)) = (d4 : Int) := by have := HE.out; have := HK.out; omega
    have hle4 : n ≤ e4 ∧ e4 ≤ 256 := ⟨HE.out.2.1, HE.out.1⟩
    clear hp4 he4 hd4 hn1 hA1
    go_wp2_with fail
    refine HFr.out.mono ?_; rintro e w5 ⟨rfl, rfl⟩
    go_wp2_with fail
    refine HPt.out.mono ?_; rintro e w6 ⟨rfl, hp6, hb6⟩
    have HX6 := Aside0.mk (HX4.out.trans hb6)
    obtain ⟨w7, hc7, hp7, hb7⟩ := copy_str_pg hp6 A1 d4 n1 c1 (key ++ value) HA1.out HSz.out.1 HSz.out.2
    have HR := Aside0.mk (show PGL w7 g kind (A ++ ⟨key, value⟩ :: B) from by
      refine ⟨?_, HF.out⟩
      have e := opened_fill kind A B ⟨key, value⟩ X Y (by rw [XY.out.1]; exact HK.out.2.1.symm) XY.out.2 HFl.out
      rw [show cz ⟨key, value⟩ = n from HK.out.2.1, ← HE.out.2.2.2.2] at e
      rw [app_data] at hp7
      rw [← e]; exact hp7)
    have HX7 := Aside0.mk (HX6.out.trans hb7)
    clear hp6 hb6 hp7 hb7 HX6 HX4 P4 HFr HPt
    go_wp2_with fail
    go_ret
    exact ⟨rfl, HR.out, HX7.out⟩
end Go.Proofs.Ytinbppcfdmbclaa.Pg

/-! A page's New, Drop and Copy, walked. No condition beyond those that each theorem names. -/
namespace Go.Proofs.Ytinbppcfdmbclaa.Pg
open Go.RowKit Go.Proofs.YtinbppcfdmbclaaW.PrintWords Go.Proofs.YtinbppcfdmbclaaW.PrintLast Go.Proofs.YtinbppcfdmbclaaW.PrintMore
set_option linter.unusedVariables false
set_option linter.unusedSimpArgs false
instance (L : List S66) : Decidable (Fits L) := inferInstanceAs (Decidable (_ ≤ _))
/-- what Put answers, and the cells that it leaves -/
def putR (L : List S66) (key value : ByteArray) : Int × List S66 := if mayB key value = true then (if Fits (insL L key value) then (0, insL L key value) else (2, L)) else (1, L)
theorem Put_any {w : World} {g : Nat} {kind : UInt8} {L : List S66} (h : PGL w g kind L) (key value : ByteArray) : Calls Try.prog 18 #[.pointer (some ⟨g, 0, none⟩), .string key, .string value] w fun e w' => e = .returned (.int .i64 (putR L key value).1) ∧ PGL w' g kind (putR L key value).2 ∧ BelX g w w' := by
  unfold putR
  by_cases hm : mayB key value = true
  · rw [if_pos hm]
    by_cases hf : Fits (insL L key value)
    · rw [if_pos hf]; exact Put_ok h key value hm hf
    · rw [if_neg hf]; exact (Put_full h key value hm hf).mono fun e w' ⟨h1, h2⟩ => ⟨h1, h.below h2, BelX.of_below h2⟩
  · rw [if_neg hm]; exact (Put_arg h key value (by simpa using hm)).mono fun e w' ⟨h1, h2⟩ => ⟨h1, h.below h2, BelX.of_below h2⟩
/-- what Drop answers, and the cells that it leaves -/
def dropR (L : List S66) (key : ByteArray) : Int × List S66 := if there L key = true then (0, aheadL L key ++ behindL L key) else (3, L)
set_option maxHeartbeats 4000000 in
theorem Drop_any {w : World} {g : Nat} {kind : UInt8} {L : List S66} (h : PGL w g kind L) (key : ByteArray) : Calls Try.prog 20 #[.pointer (some ⟨g, 0, none⟩), .string key] w fun e w' => e = .returned (.int .i64 (dropR L key).1) ∧ PGL w' g kind (dropR L key).2 ∧ BelX g w w' := by
  have HG := Aside0.mk (given_pg h.pg)
  have H := Aside0.mk h
  clear h
  cases ht : there L key with
  | false =>
    have HF := Aside0.mk (show Calls Try.prog 26 #[.pointer (some ⟨g, 0, none⟩), .string key] w fun e w' => e = .returned (.tuple #[.int .i64 (fN L key : Int), .bool false]) ∧ Below w.heap.size w w' from by have := Find_pg H.out key; rwa [ht] at this)
    have HD := Aside0.mk (show dropR L key = (3, L) from by rw [dropR, if_neg (by simp [ht])])
    clear ht
    go_enter Try.func20, Try.ntmps20
    go_wp2_with fail
    refine HG.out.mono ?_; rintro e w' ⟨rfl, rfl⟩
    go_wp2_with fail
    refine HF.out.mono ?_; rintro e w2 ⟨rfl, hb2⟩
    have HB := Aside0.mk hb2
    clear hb2
    go_wp2_with fail
    go_ret
    exact ⟨by rw [HD.out]; rfl, by rw [HD.out]; exact H.out.below HB.out, BelX.of_below HB.out⟩
  | true =>
    have HF := Aside0.mk (show Calls Try.prog 26 #[.pointer (some ⟨g, 0, none⟩), .string key] w fun e w' => e = .returned (.tuple #[.int .i64 (fN L key : Int), .bool true]) ∧ Below w.heap.size w w' from by have := Find_pg H.out key; rwa [ht] at this)
    have HD := Aside0.mk (show dropR L key = (0, aheadL L key ++ behindL L key) from by rw [dropR, if_pos ht])
    have HT := Aside0.mk ht
    clear ht
    go_enter Try.func20, Try.ntmps20
    go_wp2_with fail
    refine HG.out.mono ?_; rintro e w' ⟨rfl, rfl⟩
    go_wp2_with fail
    refine HF.out.mono ?_; rintro e w2 ⟨rfl, hb2⟩
    have HB := Aside0.mk hb2
    clear hb2
    go_wp2_with fail
    refine (show Calls Try.prog 41 #[.pointer (some ⟨g, 0, none⟩), .int .i64 (fN L key : Int)] w2 fun e w' => e = .returned (.tuple #[]) ∧ PGL w' g kind (aheadL L key ++ behindL L key) ∧ BelX g w2 w' from by
      obtain ⟨c, -, e0, -⟩ := parts_there HT.out
      have h2 := H.out.below HB.out
      rw [e0] at h2
      have := closes_L _ _ c h2
      rwa [ahead_len] at this).mono ?_; rintro e w3 ⟨rfl, hp3, hb3⟩
    have HP := Aside0.mk (And.intro hp3 hb3)
    clear hp3 hb3
    go_wp2_with fail
    go_ret
    exact ⟨by rw [HD.out]; rfl, by rw [HD.out]; exact HP.out.1, (BelX.of_below HB.out).trans HP.out.2⟩
set_option maxHeartbeats 4000000 in
theorem New_bad (w : World) (kind : Int) (hk : kind < 1 ∨ 255 < kind) : Calls Try.prog 16 #[.int .i64 kind] w fun e w' => e = .returned (.tuple #[.pointer none, .int .i64 1]) ∧ w' = w := by
  by_cases h0 : kind < 1
  · have c0 : decide (kind < 1) = true := decide_eq_true h0
    go_enter Try.func16, Try.ntmps16
    go_wp2
    exact bodyPost_ret (results_tmp2 rfl _ _ _) rfl ⟨rfl, rfl⟩
  · have c0 : decide (kind < 1) = false := decide_eq_false h0
    have c1 : decide (255 < kind) = true := decide_eq_true (by omega)
    have c2 : decide (kind > 255) = true := decide_eq_true (by omega)
    go_enter Try.func16, Try.ntmps16
    go_wp2
    exact bodyPost_ret (results_tmp2 rfl _ _ _) rfl ⟨rfl, rfl⟩
/-- a page's cells before it is made -/
def zero58 : Array Value := ((List.replicate 256 (0 : UInt8)).map u8 ++ [Value.bool false]).toArray
def made58 : Array Value := (pgL (List.replicate 256 0)).toArray
theorem zero58_run (w : World) : (zeroValue 58).run Try.prog w = .ok (.agg zero58) w := by kernel_rfl
theorem pgz_size (l : List UInt8) (hl : l.length = 256) (v : Value) : (l.map u8 ++ [v]).toArray.size = 257 := by simp [hl]
theorem zero58_size : zero58.size = 257 := pgz_size _ List.length_replicate _
theorem pgz_set (l : List UInt8) (hl : l.length = 256) (v v' : Value) : (l.map u8 ++ [v]).toArray.setIfInBounds 256 v' = (l.map u8 ++ [v']).toArray := by
  rw [List.setIfInBounds_toArray, List.set_append_right _ _ (by simp [hl])]
  simp [hl]
theorem zero58_set : zero58.setIfInBounds 256 (.bool true) = made58 := pgz_set _ List.length_replicate _ _
theorem pg_alloc (w : World) (l : List UInt8) (hl : l.length = 256) : PG (w.alloc (.cells (pgL l).toArray 58)) w.heap.size l := ⟨by rw [heap_alloc_new], hl⟩
theorem pgl_set0 (l : List UInt8) (hl : l.length = 256) (x : UInt8) : (pgL l).toArray.setIfInBounds 0 (u8 x) = (pgL (l.set 0 x)).toArray := by
  rw [List.setIfInBounds_toArray, pgL, List.set_append_left _ _ (by simp [hl]), pgL, List.map_set]
theorem made58_pg (w : World) : PG (w.alloc (.cells made58 58)) w.heap.size (List.replicate 256 0) := pg_alloc w _ List.length_replicate
theorem enc_nil (kind : UInt8) : (List.replicate 256 (0 : UInt8)).set 0 kind = encB kind [] := by kernel_rfl
theorem made58_set (w : World) (kind : UInt8) : PG (w.alloc (.cells (made58.setIfInBounds 0 (u8 kind)) 58)) w.heap.size (encB kind []) := by
  rw [made58, pgl_set0 _ List.length_replicate, enc_nil]
  exact pg_alloc w _ (encB_length kind [] (by show 0 ≤ 248; omega))
theorem cells_nil : Cells [] := ⟨by show 0 ≤ 248; omega, fun _ h => by simp at h, List.Pairwise.nil⟩
set_option maxRecDepth 100000 in
set_option maxHeartbeats 4000000 in
theorem New_ok (w : World) (kind : Nat) (h1 : 1 ≤ kind) (h2 : kind ≤ 255) : Calls Try.prog 16 #[.int .i64 (kind : Int)] w fun e w' => ∃ g, e = .returned (.tuple #[.pointer (some ⟨g, 0, none⟩), .int .i64 0]) ∧ w.heap.size ≤ g ∧ PGL w' g (by_ kind) [] ∧ Below w.heap.size w w' := by
  have c0 : decide ((kind : Int) < 1) = false := decide_eq_false (by omega)
  have c1 : decide (255 < (kind : Int)) = false := decide_eq_false (by omega)
  have c2 : decide ((kind : Int) > 255) = false := decide_eq_false (by omega)
  have hz := zero58_run w
  have hs : (zero58.size < 257) = False := eq_false (by rw [zero58_size]; omega)
  have hst := zero58_set
  have HP := Aside0.mk (made58_pg w)
  have HR := Aside0.mk (show PGL (w.alloc (.cells (made58.setIfInBounds 0 (.int .u8 ((kind : Int) % 256))) 58)) w.heap.size (by_ kind) [] from by
    refine ⟨?_, cells_nil⟩
    rw [← by_nat]
    exact made58_set w (by_ kind))
  have HB := Aside0.mk (show Below w.heap.size w (w.alloc (.cells (made58.setIfInBounds 0 (.int .u8 ((kind : Int) % 256))) 58)) from (Below.refl _ _).alloc (Nat.le_refl _) _)
  have hcl := HP.out.cell 0 (by omega)
  have hfr := HP.out.frozen 0
  have hw8 : IntKind.u8.wrap (kind : Int) = (kind : Int) % 256 := wr8 _
  clear h1 h2
  go_enter Try.func16, Try.ntmps16
  go_wp2
  exact bodyPost_ret (results_tmp2 rfl _ _ _) rfl ⟨_, rfl, Nat.le_refl _, HR.out, HB.out⟩
end Go.Proofs.Ytinbppcfdmbclaa.Pg

/-! A page's Copy, walked. No condition beyond those that each theorem names. -/
namespace Go.Proofs.Ytinbppcfdmbclaa.Pg
open Go.RowKit Go.Proofs.YtinbppcfdmbclaaW.PrintWords Go.Proofs.YtinbppcfdmbclaaW.PrintLast Go.Proofs.YtinbppcfdmbclaaW.PrintMore
set_option linter.unusedVariables false
set_option linter.unusedSimpArgs false
theorem pgl_size (l : List UInt8) (hl : l.length = 256) : (pgL l).toArray.size = 257 := by simp [pgL, hl]
theorem info58 : (Try.prog.info? 58).map (·.size) = some 257 := by kernel_rfl
theorem load58 {w : World} {g : Nat} {b : List UInt8} (h : PG w g b) : (loadVar 58 ⟨g, 0, none⟩).run Try.prog w = .ok (.agg (pgL b).toArray) w := by
  refine run_loadVar_row (P := Try.prog) w g 58 58 _ (0, 0) _ h.blk Try.underlying58 rfl ?_
  rw [info58, pgl_size _ h.len]
theorem pgl_one (b : List UInt8) : ∀ v ∈ pgL b, v.oneCell' = true := by
  intro v hv
  rw [pgL, List.mem_append] at hv
  rcases hv with hv | hv
  · exact u8_one b v hv
  · simp at hv; subst hv; rfl
theorem store58 (w : World) (b : List UInt8) (hb : b.length = 256) : ∃ w2, (storeVar 58 ⟨w.heap.size, 0, none⟩ (.agg (pgL b).toArray)).run Try.prog (w.alloc (.cells zero58 58)) = .ok () w2 ∧ PG w2 w.heap.size b ∧ Below w.heap.size w w2 := by
  have hg : (w.alloc (.cells zero58 58)).heap[w.heap.size]? = some (.cells zero58 58 (0, 0)) := by rw [heap_alloc_new]
  have hst := run_storeCells_at Try.prog w.heap.size 0 58 (pgL b) 0 _ (w.alloc (.cells zero58 58)) hg (by rw [zero58_size]; simp [pgL, hb]) (pgl_one b)
  have hcs : (zero58.toList.take (0 + 0) ++ pgL b ++ zero58.toList.drop (0 + 0 + (pgL b).length)) = pgL b := by
    have hz : zero58.toList.length = 257 := by rw [Array.length_toList]; exact zero58_size
    have hp : (pgL b).length = 257 := by simp [pgL, hb]
    rw [List.drop_of_length_le (by omega)]; simp
  rw [hcs] at hst
  refine ⟨(w.alloc (.cells zero58 58)).setRow w.heap.size (pgL b).toArray, ?_, ⟨setRow_heap _ _ _ _ 58 (0, 0) hg, hb⟩, ?_⟩
  · obtain ⟨i, hi, his⟩ := Option.map_eq_some_iff.1 info58
    have hsz := pgl_size b hb
    generalize hcells : (pgL b).toArray = cells at *
    have hcl : cells.toList = pgL b := by rw [← hcells]
    rw [← hcl] at hst
    simp only [storeVar, sizeOf, typeInfo, hi, Value.cells, Sem.run_bind, Sem.run_pure, Result.andThen_ok, his, hsz, bne_self_eq_false, Bool.false_eq_true, if_false]
    exact hst
  · exact ((Below.refl _ _).alloc (Nat.le_refl _) _).trans ⟨rfl, rfl, rfl, by simp [World.setRow], fun k hk => setRow_other _ _ _ _ (by omega)⟩
theorem wpList_store58 {ops : Array Oper} {rest : List Oper} {o : Oper} {a : Act} {w : World} {Q : Exit → Act → World → Prop} (ty : TypeId) (hgd : o.guard = none) (x y : Operand) (ho : o.op = .store ty x y)
    (b : Nat) (v : Value) (hx : a.eval x = .pointer (some ⟨b, 0, none⟩)) (hy : a.eval y = v) (w2 : World) (hs : (storeVar ty ⟨b, 0, none⟩ v).run Try.prog w = .ok () w2)
    (h : wpList Try.prog ops Q rest (a.put o.dst undef) w2) : wpList Try.prog ops Q (o :: rest) a w :=
  wpList_plain hgd fun _ hK => by
    unfold Oper.wp execOp
    simp only [ho, hx, hy, Instr.storeAt, Instr.sureAddr, Sem.run_bind, Sem.run_pure, Result.andThen_ok, hs]
    exact hK _ _ h
set_option maxRecDepth 100000 in
set_option maxHeartbeats 4000000 in
theorem Copy_L {w : World} {g : Nat} {kind : UInt8} {L : List S66} (h : PGL w g kind L) : Calls Try.prog 28 #[.pointer (some ⟨g, 0, none⟩)] w fun e w' => ∃ g2, e = .returned (.pointer (some ⟨g2, 0, none⟩)) ∧ w.heap.size ≤ g2 ∧ PGL w' g2 kind L ∧ Below w.heap.size w w' := by
  have HG := Aside0.mk (given_pg h.pg)
  have HBk := Aside0.mk h.pg.blk
  have HSz := Aside0.mk (show (Try.prog.info? 58).map (·.size) = some (pgL (encB kind L)).toArray.size from by rw [info58, pgl_size _ h.pg.len])
  have hz := zero58_run w
  obtain ⟨w2, hs2, hp2, hb2⟩ := store58 w _ h.pg.len
  have HS := Aside0.mk hs2
  have HP := Aside0.mk (show PGL w2 w.heap.size kind L from ⟨hp2, h.cells⟩)
  have HB := Aside0.mk hb2
  clear h hp2 hb2 hs2
  generalize (pgL (encB kind L)).toArray = C at *
  go_enter Try.func28, Try.ntmps28
  go_wp2_with fail
  refine HG.out.mono ?_; rintro e w' ⟨rfl, rfl⟩
  go_wp2_with (first | (refine wpList_load_row (P := Try.prog) rfl 58 _ rfl _ rfl 58 _ (0, 0) _ HBk.out Try.underlying58 rfl HSz.out ?_) | (refine wpList_store58 58 rfl _ _ rfl _ _ rfl rfl _ HS.out ?_))
  go_ret
  exact ⟨_, rfl, Nat.le_refl _, HP.out, HB.out⟩
end Go.Proofs.Ytinbppcfdmbclaa.Pg

/-! A page's Bytes, walked. No condition beyond those that each theorem names. -/
namespace Go.Proofs.Ytinbppcfdmbclaa.Pg
open Go.RowKit Go.Proofs.YtinbppcfdmbclaaW.PrintWords Go.Proofs.YtinbppcfdmbclaaW.PrintLast Go.Proofs.YtinbppcfdmbclaaW.PrintMore
set_option linter.unusedVariables false
set_option linter.unusedSimpArgs false
/-- an array of bytes of the call's own -/
structure LA (w : World) (g : Nat) (b : List UInt8) : Prop where
  blk : w.heap[g]? = some (.cells (b.map u8).toArray 56 (0, 0))
  len : b.length = 256
theorem LA.cell {w : World} {g : Nat} {b : List UInt8} (h : LA w g b) (i : Nat) (hi : i < 256) : w.cell? ⟨g, i, none⟩ = some (.int .u8 (at_ b i : Int)) := by
  have hl := h.len
  simp only [World.cell?, h.blk]
  simp [at_, u8, List.getElem?_append, hl, hi, List.getD_eq_getElem?_getD]
theorem LA.lt {w : World} {g : Nat} {b : List UInt8} (h : LA w g b) : g < w.heap.size := (Array.getElem?_eq_some_iff.1 h.blk).1
theorem LA.below {w w' : World} {g : Nat} {b : List UInt8} (h : LA w g b) (k : Below w.heap.size w w') : LA w' g b := ⟨(k.block g h.lt).trans h.blk, h.len⟩
theorem LA.row {w : World} {g : Nat} {b : List UInt8} (h : LA w g b) (o : Nat) (cs : List UInt8) (hl : o + cs.length ≤ 256) : LA (w.setRow g ((b.map u8).toArray.toList.take o ++ cs.map u8 ++ (b.map u8).toArray.toList.drop (o + cs.length)).toArray) g (splice b o cs) := by
  refine ⟨?_, splice_len h.len hl⟩
  rw [setRow_heap w g _ _ 56 (0, 0) h.blk]
  congr 3
  simp [splice, List.map_append, List.map_take, List.map_drop]
theorem LA.conv {w : World} {g : Nat} {b : List UInt8} (h : LA w g b) : (convert 30 9 (.slice (some ⟨g, 0, none⟩) 256 256)).run Try.prog w = .ok (.string ⟨b.toArray⟩) w := by
  have := run_convert_bytes_arg (P := Try.prog) w 30 5 Try.underlying30 Try.underlying5 g 0 256 256 (b.map fun x => (x.toNat : Int)) (by simp [h.len]) (fun i hi => ?_) 9 Try.underlying9
  · rw [this, strOfNums_u8]
  · rw [Nat.zero_add, h.cell i hi]
    congr 2
    have hl := h.len
    have e1 : i < b.length := by omega
    simp only [List.getD_eq_getElem?_getD, List.getElem?_map, List.getElem?_eq_getElem e1, Option.map_some, Option.getD_some, at_]
theorem LA.copy {w : World} {g : Nat} {b : List UInt8} (h : LA w g b) (d n c : Nat) (s : ByteArray) (h0 : 0 < n) (hn : s.size = n) (hd : d + n ≤ 256) :
    ∃ w', (Builtin.copy_ #[30, 9] 3 #[.slice (some ⟨g, d, none⟩) n c, .string s]).run Try.prog w = .ok (.int .i64 (n : Int)) w' ∧ LA w' g (splice b d s.data.toList) ∧ BelX g w w' := by
  have hb := h.len
  have hs5 : (Try.prog.info? 5).map (·.size) = some 1 := by
    obtain ⟨i0, hi, hz⟩ := Option.map_eq_some_iff.1 info5
    simp only [Prod.mk.injEq] at hz
    rw [hi, Option.map_some, hz.2.1]
  have hsz : s.data.toList.length = n := by rw [Array.length_toList]; exact hn
  have hrun := Lib.run_copy_row_string (P := Try.prog) w 30 9 3 5 g d n c s _ 56 Try.underlying30 hs5 h.blk (by omega) (by simp [hb]; omega)
  have hrow := h.row d s.data.toList (by omega)
  rw [hsz] at hrow
  rw [hn] at hrun
  exact ⟨_, hrun, hrow, (BelX.refl g w).row _⟩
theorem info56 : (Try.prog.info? 56).map (·.size) = some 256 := by kernel_rfl
def zero56 : Array Value := ((List.replicate 256 (0 : UInt8)).map u8).toArray
theorem zero56_run (w : World) : (zeroValue 56).run Try.prog w = .ok (.agg zero56) w := by kernel_rfl
theorem zero56_size : zero56.size = 256 := by
  have h : ∀ l : List UInt8, l.length = 256 → (l.map u8).toArray.size = 256 := fun l hl => by simp [hl]
  exact h _ List.length_replicate
theorem store56 (w : World) (b : List UInt8) (hb : b.length = 256) : ∃ w2, (storeVar 56 ⟨w.heap.size, 0, none⟩ (.agg (b.map u8).toArray)).run Try.prog (w.alloc (.cells zero56 56)) = .ok () w2 ∧ LA w2 w.heap.size b ∧ Below w.heap.size w w2 := by
  have hg : (w.alloc (.cells zero56 56)).heap[w.heap.size]? = some (.cells zero56 56 (0, 0)) := by rw [heap_alloc_new]
  have hst := run_storeCells_at Try.prog w.heap.size 0 56 (b.map u8) 0 _ (w.alloc (.cells zero56 56)) hg (by rw [zero56_size]; simp [hb]) (u8_one b)
  have hcs : (zero56.toList.take (0 + 0) ++ b.map u8 ++ zero56.toList.drop (0 + 0 + (b.map u8).length)) = b.map u8 := by
    have hz : zero56.toList.length = 256 := by rw [Array.length_toList]; exact zero56_size
    have hp : (b.map u8).length = 256 := by simp [hb]
    rw [List.drop_of_length_le (by omega)]; simp
  rw [hcs] at hst
  refine ⟨(w.alloc (.cells zero56 56)).setRow w.heap.size (b.map u8).toArray, ?_, ⟨setRow_heap _ _ _ _ 56 (0, 0) hg, hb⟩, ?_⟩
  · obtain ⟨i, hi, his⟩ := Option.map_eq_some_iff.1 info56
    have hsz : (b.map u8).toArray.size = 256 := by simp [hb]
    generalize hcells : (b.map u8).toArray = cells at *
    have hcl : cells.toList = b.map u8 := by rw [← hcells]
    rw [← hcl] at hst
    simp only [storeVar, sizeOf, typeInfo, hi, Value.cells, Sem.run_bind, Sem.run_pure, Result.andThen_ok, his, hsz, bne_self_eq_false, Bool.false_eq_true, if_false]
    exact hst
  · exact ((Below.refl _ _).alloc (Nat.le_refl _) _).trans ⟨rfl, rfl, rfl, by simp [World.setRow], fun k hk => setRow_other _ _ _ _ (by omega)⟩
theorem range56 {w : World} {g : Nat} {b : List UInt8} (h : PG w g b) : w.rangeAt g 0 (b.map u8) := by
  intro j v hj
  have := h.part 0 256 (Nat.le_refl _) j v (by rw [List.drop_zero, List.take_of_length_le (by rw [h.len]; omega)]; exact hj)
  rwa [show (⟨g, 0, none⟩ : Addr).add j = ⟨g, 0 + j, none⟩ from by unfold Addr.add; split <;> simp_all] at this
/-- the sum of a page's bytes, as four bytes -/
def sumS (b : List UInt8) : ByteArray := strOfNums [((Crc.crc 0 (Fns.B ⟨b.toArray⟩) : Nat) : Int) % 256, ((Crc.crc 0 (Fns.B ⟨b.toArray⟩) : Nat) : Int) / 256 % 256, ((Crc.crc 0 (Fns.B ⟨b.toArray⟩) : Nat) : Int) / 65536 % 256, ((Crc.crc 0 (Fns.B ⟨b.toArray⟩) : Nat) : Int) / 16777216 % 256]
theorem sumS_size (b : List UInt8) : (sumS b).size = 4 := rfl
/-- a page's bytes with the sum -/
def bytesR (b : List UInt8) : ByteArray := ⟨(splice b 4 (sumS b).data.toList).toArray⟩
set_option maxRecDepth 100000 in
set_option maxHeartbeats 4000000 in
theorem Bytes_pg {w : World} {g : Nat} {b : List UInt8} (h : PG w g b) : Calls Try.prog 12 #[.pointer (some ⟨g, 0, none⟩)] w fun e w' => e = .returned (.string (bytesR b)) ∧ Below w.heap.size w w' := by
  have HG := Aside0.mk (given_pg h)
  have HRg := Aside0.mk (range56 h)
  have hlen := h.len
  have HSz := Aside0.mk (show (Try.prog.info? 56).map (·.size) = some (b.map u8).length from by rw [info56, List.length_map, h.len])
  have hz := zero56_run w
  obtain ⟨w2, hs2, hp2, hb2⟩ := store56 w _ h.len
  have HS := Aside0.mk hs2
  have HP := Aside0.mk hp2
  have HB := Aside0.mk hb2
  have hbs : (⟨b.toArray⟩ : ByteArray).size = 256 := by show b.toArray.size = 256; simp [hlen]
  obtain ⟨sv, hsv⟩ : ∃ sv, crc_Sum.f 3000 ⟨b.toArray⟩ = some sv := ⟨_, Fns.sum_eq _ 3000 (by omega) (by omega)⟩
  have HSv := Aside0.mk hsv
  have hps : crc_Put.f sv = some (sumS b) := by
    rw [Fns.sum_eq _ 3000 (by omega) (by omega)] at hsv
    obtain rfl := Option.some.inj hsv
    rfl
  have HPs := Aside0.mk hps
  clear h hp2 hb2 hs2 hbs hsv hps
  go_enter Try.func12, Try.ntmps12
  go_wp2_with fail
  refine HG.out.mono ?_; rintro e w' ⟨rfl, rfl⟩
  go_wp2_with (first | (refine wpList_load_mid (P := Try.prog) rfl 56 _ rfl _ 0 rfl _ _ HRg.out Try.underlying56 rfl HSz.out ?_) | (refine wpList_store58 56 rfl _ _ rfl _ _ rfl rfl _ HS.out ?_))
  have hcv := (HP.out.below (below_drew1 (Below.refl _ _))).conv
  obtain ⟨gb, hgb⟩ : ∃ gb, w'.heap.size = gb := ⟨_, rfl⟩
  have HGB := Aside0.mk hgb
  rw [hgb] at HP HB hcv ⊢
  clear hgb
  clear HRg HS hz HSz
  have HC := Aside0.mk (show ∀ n w3, Below (w2.drewN n).heap.size (w2.drewN n) w3 → ∃ w4, (Builtin.copy_ #[30, 9] 3 #[.slice (some ⟨gb, 4, none⟩) 4 252, .string (sumS b)]).run Try.prog w3 = .ok (.int .i64 4) w4 ∧ Aside0 (LA w4 gb (splice b 4 (sumS b).data.toList) ∧ BelX gb w2 w4) from fun n w3 hb3 => by
    have hd := pw_below_drewN (Below.refl w2.heap.size w2) n
    obtain ⟨w4, h1, h2, h3⟩ := LA.copy ((HP.out.below hd).below hb3) 4 4 252 (sumS b) (by decide) (sumS_size b) (by decide)
    exact ⟨w4, h1, ⟨h2, (BelX.of_below hd).trans ((BelX.of_below hb3).trans h3)⟩⟩)
  go_region_law (first | (go_simp; go_at_call 33; refine (crc_Sum.calls 3000 _ sv _ HSv.out).mono ?_; rintro e w5 ⟨rfl, ⟨nd, rfl⟩⟩; go_simp) | (go_simp; go_at_call 32; refine (crc_Put.calls sv (sumS b) _ HPs.out).mono ?_; rintro e w3 ⟨rfl, hb3⟩; obtain ⟨w4, hc4, hp4⟩ := HC.out _ _ hb3; go_simp))
  all_goals
    have H4 := (by assumption : Aside0 (LA _ gb (splice b 4 (sumS b).data.toList) ∧ BelX gb w2 _))
    have hcv4 := H4.out.1.conv
    go_wp2
    go_ret
    exact ⟨rfl, by rw [HGB.out]; exact BelX.below HB.out (Nat.le_of_lt HP.out.lt) (Nat.le_refl _) H4.out.2⟩
end Go.Proofs.Ytinbppcfdmbclaa.Pg

/-! A page's Split, walked. No condition beyond those that each theorem names. -/
namespace Go.Proofs.Ytinbppcfdmbclaa.Pg
open Go.RowKit Go.Proofs.YtinbppcfdmbclaaW.PrintWords Go.Proofs.YtinbppcfdmbclaaW.PrintLast Go.Proofs.YtinbppcfdmbclaaW.PrintMore
set_option linter.unusedVariables false
set_option linter.unusedSimpArgs false
theorem total_sub {A B : List S66} (h : List.Sublist A B) : total A ≤ total B := by
  induction h with
  | slnil => exact Nat.le_refl _
  | cons a _ ih => rw [total]; omega
  | cons_cons a _ ih => rw [total, total]; omega
theorem cells_sub {A B : List S66} (s : List.Sublist A B) (h : Cells B) : Cells A := by
  refine ⟨?_, fun c hc => h.each c (s.subset hc), h.asc.sublist s⟩
  have h1 := h.fits
  have h2 := total_sub s
  have h3 := s.length_le
  unfold Fits at h1 ⊢; omega
theorem fN_all : ∀ (L : List S66) (key : ByteArray), (∀ c ∈ L, Op.bytesLess c.f0.toList key.toList = true) → fN L key = L.length
  | [], _, _ => rfl
  | c :: t, key, h => by rw [fN, if_pos (h c (by simp)), fN_all t key (fun x hx => h x (by simp [hx]))]; rfl
theorem put_end {L : List S66} {c : S66} (h : Cells (L ++ [c])) : putR L c.f0 c.f1 = (0, L ++ [c]) := by
  have hc := h.each c (by simp)
  have ha := List.pairwise_append.1 h.asc
  have hf := fN_all L c.f0 (fun x hx => ha.2.2 x hx c (by simp))
  have ht : there L c.f0 = false := by unfold there; rw [hf, List.getElem?_eq_none (Nat.le_refl _)]
  have hi : insL L c.f0 c.f1 = L ++ [c] := by
    rw [insL, aheadL, behindL, ht, hf, List.take_length, if_neg (by simp), List.drop_length]
  have hm : mayB c.f0 c.f1 = true := decide_eq_true hc
  rw [putR, if_pos hm, hi, if_pos h.fits]
theorem Put_end {w : World} {g : Nat} {kind : UInt8} {L : List S66} (h : PGL w g kind L) (c : S66) (hc : Cells (L ++ [c])) : Calls Try.prog 18 #[.pointer (some ⟨g, 0, none⟩), .string c.f0, .string c.f1] w fun e w' => e = .returned (.int .i64 0) ∧ PGL w' g kind (L ++ [c]) ∧ BelX g w w' := by
  have := Put_any h c.f0 c.f1
  rw [put_end hc] at this
  exact this
theorem Len_L {w : World} {g : Nat} {kind : UInt8} {L : List S66} (h : PGL w g kind L) : Calls Try.prog 21 #[.pointer (some ⟨g, 0, none⟩)] w fun e w' => e = .returned (.int .i64 (L.length : Int)) ∧ w' = w := by
  have := Len_pg h.pg
  rwa [enc_len _ _ h.cells.fits] at this
theorem Kind_L {w : World} {g : Nat} {kind : UInt8} {L : List S66} (h : PGL w g kind L) : Calls Try.prog 27 #[.pointer (some ⟨g, 0, none⟩)] w fun e w' => e = .returned (.int .i64 (kind.toNat : Int)) ∧ w' = w := by
  have := Kind_pg h.pg
  rwa [enc_kind] at this
theorem PGL.belX {w w' : World} {g g' : Nat} {kind : UInt8} {L : List S66} (h : PGL w g kind L) (k : BelX g' w w') (hne : g ≠ g') : PGL w' g kind L := ⟨h.pg.belX k hne, h.cells⟩
theorem PGL.short {w : World} {g : Nat} {kind : UInt8} {L : List S66} (h : PGL w g kind L) : L.length ≤ 124 ∧ total L ≤ 248 := by
  have := h.cells.fits; unfold Fits at this; omega
/-- all lies as it lay but two blocks: one of them new -/
theorem BelX.two {g g2 : Nat} {w a b : World} (h : BelX g w a) (k : BelX g2 a b) (hg2 : w.heap.size ≤ g2) : BelX g w b :=
  ⟨k.os.trans h.os, k.tape.trans h.tape, k.output.trans h.output, Nat.le_trans h.size k.size, fun i hi hg => (k.block i (Nat.lt_of_lt_of_le hi h.size) (by omega)).trans (h.block i hi hg)⟩
theorem by_toNat (x : UInt8) : by_ x.toNat = x := by simp [by_]
set_option maxHeartbeats 4000000 in
theorem Split_bad {w : World} {g : Nat} {kind : UInt8} {L : List S66} (h : PGL w g kind L) (k : Int) (hk : k < 0 ∨ (L.length : Int) < k) : Calls Try.prog 22 #[.pointer (some ⟨g, 0, none⟩), .int .i64 k] w fun e w' => e = .returned (.tuple #[.pointer none, .int .i64 1]) ∧ w' = w := by
  have HG := Aside0.mk (given_pg h.pg)
  have HL := Aside0.mk (Len_L h)
  clear h
  by_cases h0 : k < 0
  · have c0 : decide (k < 0) = true := decide_eq_true h0
    clear hk
    go_enter Try.func22, Try.ntmps22
    go_wp2_with (go_at_call 31; refine HG.out.mono ?_; rintro e w' ⟨rfl, rfl⟩)
    exact bodyPost_ret (results_tmp2 rfl _ _ _) rfl ⟨rfl, rfl⟩
  · have c0 : decide (k < 0) = false := decide_eq_false h0
    have c1 : decide ((L.length : Int) < k) = true := decide_eq_true (by omega)
    clear hk h0
    go_enter Try.func22, Try.ntmps22
    go_wp2_with fail
    refine HG.out.mono ?_; rintro e w' ⟨rfl, rfl⟩
    go_wp2_with fail
    refine HL.out.mono ?_; rintro e w' ⟨rfl, rfl⟩
    go_wp2_with fail
    exact bodyPost_ret (results_tmp2 rfl _ _ _) rfl ⟨rfl, rfl⟩
set_option maxHeartbeats 4000000 in
theorem Split_ok {w : World} {g : Nat} {kind : UInt8} {L : List S66} (h : PGL w g kind L) (k : Nat) (hk : k ≤ L.length) (hkind : kind ≠ 0) : Calls Try.prog 22 #[.pointer (some ⟨g, 0, none⟩), .int .i64 (k : Int)] w fun e w' => ∃ g2, e = .returned (.tuple #[.pointer (some ⟨g2, 0, none⟩), .int .i64 0]) ∧ w.heap.size ≤ g2 ∧ PGL w' g kind (L.take k) ∧ PGL w' g2 kind (L.drop k) ∧ BelX g w w' := by
  have HG := Aside0.mk (given_pg h.pg)
  have HL := Aside0.mk (Len_L h)
  have HKd := Aside0.mk (Kind_L h)
  have H := Aside0.mk h
  have hsh := h.short.1
  have hk0 : 1 ≤ kind.toNat ∧ kind.toNat ≤ 255 := by
    have := kind.toNat_lt
    refine ⟨?_, by omega⟩
    rcases Nat.eq_zero_or_pos kind.toNat with h0 | h0
    · exact absurd (UInt8.toNat_inj.1 (by simpa using h0)) hkind
    · exact h0
  have HN := Aside0.mk (New_ok w kind.toNat hk0.1 hk0.2)
  rw [by_toNat] at HN
  have c0 : decide ((k : Int) < 0) = false := decide_eq_false (by omega)
  have c1 : decide ((L.length : Int) < (k : Int)) = false := decide_eq_false (by omega)
  have c2 : decide (L.length < k) = false := decide_eq_false (by omega)
  clear h hkind
  go_enter Try.func22, Try.ntmps22
  go_wp2_with fail
  refine HG.out.mono ?_; rintro e w' ⟨rfl, rfl⟩
  go_wp2_with fail
  refine HL.out.mono ?_; rintro e w' ⟨rfl, rfl⟩
  go_wp2_with fail
  refine HKd.out.mono ?_; rintro e w' ⟨rfl, rfl⟩
  go_wp2_with fail
  refine HN.out.mono ?_; rintro e w1 ⟨g2, rfl, hg2, hp2, hb1⟩
  have HP2 := Aside0.mk hp2
  have HG2 := Aside0.mk (show w'.heap.size ≤ g2 ∧ g ≠ g2 from ⟨hg2, by have := H.out.pg.lt; omega⟩)
  have H1 := Aside0.mk (H.out.below hb1)
  have HB1 := Aside0.mk hb1
  clear hp2 hg2 hb1 HG HL HKd HN hk0
  go_wp2_with fail
  go_loopw [8] (fun v8 wr => ∃ m : Nat, v8 = .int .i64 ((k + m : Nat) : Int) ∧ Aside0 (m ≤ L.length - k) ∧ Aside0 (PGL wr g kind L) ∧ Aside0 (PGL wr g2 kind ((L.drop k).take m)) ∧ Aside0 (BelX g2 w1 wr)) (fun v8 _ => L.length - (Lib.intOf v8).toNat)
  case atStart => exact ⟨0, by simp, ⟨by omega⟩, H1, HP2, ⟨BelX.refl _ _⟩⟩
  case round =>
    obtain ⟨m, rfl, hM, HA, HQ, HB⟩ := hrel
    obtain ⟨i, hi⟩ : ∃ i, k + m = i := ⟨_, rfl⟩
    rw [hi]
    by_cases hlt : i < L.length
    · have d1 : decide ((i : Int) < (L.length : Int)) = true := decide_eq_true (by omega)
      have d2 : decide (i < L.length) = true := decide_eq_true hlt
      have hc : (L.drop k).take (m + 1) = (L.drop k).take m ++ [L[i]] := by
        rw [List.take_succ_eq_append_getElem (by rw [List.length_drop]; omega), List.getElem_drop]
        simp only [hi]
      have HC := Aside0.mk (show Cells ((L.drop k).take m ++ [L[i]]) from by rw [← hc]; exact cells_sub ((List.take_sublist _ _).trans (List.drop_sublist _ _)) HA.out.cells)
      have HC2 := Aside0.mk hc
      have HI := Aside0.mk (And.intro hi hlt)
      obtain ⟨c, hcc⟩ : ∃ c, L[i] = c := ⟨_, rfl⟩
      rw [hcc] at HC HC2
      have HCC := Aside0.mk hcc
      clear hi hc hcc
      go_wp2_with fail
      refine (Len_L HA.out).mono ?_; rintro e w3 ⟨rfl, rfl⟩
      go_wp2_with fail
      refine (At_cell HA.out i hlt).mono ?_; rintro e w4 ⟨rfl, hb4⟩
      rw [HCC.out]
      have HA4 := Aside0.mk (HA.out.below hb4)
      have HQ4 := Aside0.mk (HQ.out.below hb4)
      have HB4 := Aside0.mk (HB.out.trans (BelX.of_below hb4))
      clear hb4 HA HQ HB
      go_wp2_with fail
      refine (Put_end HQ4.out c HC.out).mono ?_; rintro e w5 ⟨rfl, hp5, hb5⟩
      have HQ5 := Aside0.mk hp5
      have HA5 := Aside0.mk (HA4.out.belX hb5 HG2.out.2)
      have HB5 := Aside0.mk (HB4.out.trans hb5)
      clear hp5 hb5 HQ4 HA4 HB4
      have HM := Aside0.mk (show k + (m + 1) = i + 1 from by have := HI.out.1; omega)
      go_wp2
      have q : (i : Int) + 1 = ((k + (m + 1) : Nat) : Int) := by have := HM.out; omega
      go_roundw
      case rel => exact ⟨m + 1, by rw [q], ⟨by have := HI.out; omega⟩, HA5, ⟨by rw [HC2.out]; exact HQ5.out⟩, HB5⟩
      case measure => rw [q]; exact up_lt _ _ _ HM.out HI.out.2
    · have hm : m = L.length - k := by have := hM.out; omega
      have d1 : decide ((i : Int) < (L.length : Int)) = false := decide_eq_false (by omega)
      have d2 : decide (i < L.length) = false := decide_eq_false hlt
      have HQ' := Aside0.mk (show PGL wr g2 kind (L.drop k) from by have := HQ.out; rwa [hm, List.take_of_length_le (by rw [List.length_drop]; omega)] at this)
      clear hi hlt hm HQ
      go_wp2_with fail
      refine (Len_L HA.out).mono ?_; rintro e w3 ⟨rfl, rfl⟩
      go_wp2_with fail
      go_loopg [] (L.length - k) (fun n wr => Aside0 (k + n ≤ L.length) ∧ Aside0 (PGL wr g kind (L.take (k + n))) ∧ Aside0 (PGL wr g2 kind (L.drop k)) ∧ Aside0 (BelX g w' wr))
      case atStart => exact ⟨⟨by omega⟩, ⟨by rw [List.take_of_length_le (by omega)]; exact HA.out⟩, HQ', ⟨((BelX.of_below HB1.out).two HB.out HG2.out.1)⟩⟩
      case round =>
        clear H HP2 H1 HB1 HA HQ' HB
        obtain ⟨hK, HA, HQ, HB⟩ := hrel
        by_cases h0 : gk = 0
        · subst h0
          have hl : (L.take (k + 0)).length = k := by rw [List.length_take, Nat.add_zero, Nat.min_eq_left hk]
          have HLn := Aside0.mk (show Calls Try.prog 21 #[.pointer (some ⟨g, 0, none⟩)] wr fun e w' => e = .returned (.int .i64 (k : Int)) ∧ w' = wr from by have := Len_L HA.out; rwa [hl] at this)
          clear hl
          go_wp2_with fail
          refine HLn.out.mono ?_; rintro e w4 ⟨rfl, rfl⟩
          go_wp2_with fail
          exact bodyPost_ret (results_tmp2 rfl _ _ _) rfl ⟨g2, rfl, HG2.out.1, HA.out, HQ.out, HB.out⟩
        · obtain ⟨m2, rfl⟩ : ∃ m2, gk = m2 + 1 := ⟨gk - 1, by omega⟩
          have hKo := hK.out
          obtain ⟨l1, hl1⟩ : ∃ l1, k + m2 = l1 := ⟨_, rfl⟩
          have hl : (L.take (k + (m2 + 1))).length = l1 + 1 := by rw [List.length_take]; omega
          have ht : L.take (k + (m2 + 1)) = L.take l1 ++ L[l1]'(by omega) :: [] := by rw [← Nat.add_assoc, hl1, List.take_succ_eq_append_getElem (by omega)]
          have htl : (L.take l1).length = l1 := by rw [List.length_take]; omega
          have HLn := Aside0.mk (show Calls Try.prog 21 #[.pointer (some ⟨g, 0, none⟩)] wr fun e w' => e = .returned (.int .i64 ((l1 : Int) + 1)) ∧ w' = wr from by have := Len_L HA.out; rwa [hl, show ((l1 + 1 : Nat) : Int) = (l1 : Int) + 1 from by omega] at this)
          have HCl := Aside0.mk (show Calls Try.prog 41 #[.pointer (some ⟨g, 0, none⟩), .int .i64 (l1 : Int)] wr fun e w' => e = .returned (.tuple #[]) ∧ PGL w' g kind (L.take l1) ∧ BelX g wr w' from by
            have h1 := HA.out
            rw [ht] at h1
            have := closes_L _ _ _ h1
            rwa [htl, List.append_nil] at this)
          have d1 : decide ((k : Int) < (l1 : Int) + 1) = true := decide_eq_true (by omega)
          have q0 : (l1 : Int) + 1 - 1 = (l1 : Int) := by omega
          have HL1 := Aside0.mk (show k + m2 = l1 ∧ k + m2 ≤ L.length from by omega)
          have hb1 : l1 ≤ 1000 := by omega
          clear hl ht htl hKo hl1 h0
          go_wp2_with fail
          refine HLn.out.mono ?_; rintro e w4 ⟨rfl, rfl⟩
          go_wp2_with fail
          refine HLn.out.mono ?_; rintro e w4 ⟨rfl, rfl⟩
          go_wp2_with fail
          refine HCl.out.mono ?_; rintro e w5 ⟨rfl, hp5, hb5⟩
          have HA5 := Aside0.mk hp5
          have HQ5 := Aside0.mk (HQ.out.belX hb5 (fun e => HG2.out.2 e.symm))
          have HB5 := Aside0.mk (HB.out.trans hb5)
          clear hp5 hb5 HLn HCl HA HQ HB
          go_wp2
          go_roundg m2
          case rel => exact ⟨⟨HL1.out.2⟩, ⟨by rw [HL1.out.1]; exact HA5.out⟩, HQ5, HB5⟩
          case measure => omega
end Go.Proofs.Ytinbppcfdmbclaa.Pg

/-! A page's Join, walked. No condition beyond those that each theorem names. -/
namespace Go.Proofs.Ytinbppcfdmbclaa.Pg
open Go.RowKit Go.Proofs.YtinbppcfdmbclaaW.PrintWords Go.Proofs.YtinbppcfdmbclaaW.PrintLast Go.Proofs.YtinbppcfdmbclaaW.PrintMore
set_option linter.unusedVariables false
set_option linter.unusedSimpArgs false
/-- the last cell's key; the first one's -/
def lastK (L : List S66) : ByteArray := match L.getLast? with
  | some c => c.f0
  | none => ⟨#[]⟩
def lastV (L : List S66) : ByteArray := match L.getLast? with
  | some c => c.f1
  | none => ⟨#[]⟩
def firstK (L : List S66) : ByteArray := match L with
  | c :: _ => c.f0
  | [] => ⟨#[]⟩
def firstV (L : List S66) : ByteArray := match L with
  | c :: _ => c.f1
  | [] => ⟨#[]⟩
/-- do the cells of one list stand behind those of another? -/
def behindB (P Q : List S66) : Bool := P.isEmpty || Q.isEmpty || Op.bytesLess (lastK P).toList (firstK Q).toList
/-- what Join answers, and the cells that it leaves -/
def joinR (kp : UInt8) (P : List S66) (kq : UInt8) (Q : List S66) : Int × List S66 :=
  if kp = kq ∧ behindB P Q = true then (if Fits (P ++ Q) then (0, P ++ Q) else (2, P)) else (1, P)
theorem At_last {w : World} {g : Nat} {kind : UInt8} {L : List S66} (h : PGL w g kind L) : Calls Try.prog 19 #[.pointer (some ⟨g, 0, none⟩), .int .i64 ((L.length : Int) - 1)] w fun e w' => e = .returned (.tuple #[.string (lastK L), .string (lastV L)]) ∧ Below w.heap.size w w' := by
  by_cases h0 : L = []
  · subst h0
    exact (At_none h _ (Or.inl (by simp))).mono fun e w' ⟨h1, h2⟩ => ⟨h1, by subst h2; exact Below.refl _ _⟩
  · have hl : 0 < L.length := List.length_pos_iff.2 h0
    have := At_cell h (L.length - 1) (by omega)
    rw [show ((L.length - 1 : Nat) : Int) = (L.length : Int) - 1 from by omega] at this
    have e1 : L.getLast? = some (L[L.length - 1]'(by omega)) := by rw [List.getLast?_eq_getElem?, List.getElem?_eq_getElem (by omega)]
    rwa [show L[L.length - 1].f0 = lastK L from by unfold lastK; rw [e1], show L[L.length - 1].f1 = lastV L from by unfold lastV; rw [e1]] at this
theorem At_first {w : World} {g : Nat} {kind : UInt8} {L : List S66} (h : PGL w g kind L) : Calls Try.prog 19 #[.pointer (some ⟨g, 0, none⟩), .int .i64 0] w fun e w' => e = .returned (.tuple #[.string (firstK L), .string (firstV L)]) ∧ Below w.heap.size w w' := by
  cases L with
  | nil => exact (At_none h _ (Or.inr (by simp))).mono fun e w' ⟨h1, h2⟩ => ⟨h1, by subst h2; exact Below.refl _ _⟩
  | cons c t => exact At_cell h 0 (by simp)
theorem used_L {w : World} {g : Nat} {kind : UInt8} {L : List S66} (h : PGL w g kind L) : Calls Try.prog 34 #[.pointer (some ⟨g, 0, none⟩)] w fun e w' => e = .returned (.int .i64 (total L : Int)) ∧ Below w.heap.size w w' := by
  have := used_pg h.pg
  rwa [enc_used _ _ h.cells.fits] at this
theorem join_cells {P Q : List S66} (hp : Cells P) (hq : Cells Q) (hb : behindB P Q = true) (hf : Fits (P ++ Q)) : Cells (P ++ Q) := by
  refine ⟨hf, fun c hc => ?_, ?_⟩
  · rcases List.mem_append.1 hc with h | h
    · exact hp.each c h
    · exact hq.each c h
  · refine List.pairwise_append.2 ⟨hp.asc, hq.asc, fun c hc d hd => ?_⟩
    cases Q with
    | nil => cases hd
    | cons q t =>
      have hpe : P ≠ [] := fun e => by subst e; cases hc
      have hl : Op.bytesLess (lastK P).toList q.f0.toList = true := by
        have : P.isEmpty = false := by cases P with
          | nil => exact absurd rfl hpe
          | cons _ _ => rfl
        simpa [behindB, firstK, this] using hb
      have h1 : Op.bytesLess c.f0.toList q.f0.toList = true := by
        obtain ⟨i, hi, rfl⟩ := List.getElem_of_mem hc
        have e1 : P.getLast? = some (P[P.length - 1]'(by omega)) := by rw [List.getLast?_eq_getElem?, List.getElem?_eq_getElem (by omega)]
        have e2 : lastK P = (P[P.length - 1]'(by omega)).f0 := by unfold lastK; rw [e1]
        rw [e2] at hl
        by_cases h0 : i = P.length - 1
        · subst h0; exact hl
        · exact less_trans (asc_lt hp.asc i (P.length - 1) hi (by omega) (by omega)) hl
      rcases List.mem_cons.1 hd with rfl | hd
      · exact h1
      · exact less_trans h1 ((List.pairwise_cons.1 hq.asc).1 d hd)
set_option maxHeartbeats 4000000 in
theorem Join_kind {w : World} {g g2 : Nat} {kp kq : UInt8} {P Q : List S66} (hp : PGL w g kp P) (hq : PGL w g2 kq Q) (hk : kp ≠ kq) : Calls Try.prog 23 #[.pointer (some ⟨g, 0, none⟩), .pointer (some ⟨g2, 0, none⟩)] w fun e w' => e = .returned (.int .i64 1) ∧ w' = w := by
  have HGp := Aside0.mk (given_pg hp.pg)
  have HGq := Aside0.mk (given_pg hq.pg)
  have HKp := Aside0.mk (Kind_L hp)
  have HKq := Aside0.mk (Kind_L hq)
  have hne : kp.toNat ≠ kq.toNat := fun e => hk (UInt8.toNat_inj.1 e)
  have d0 : ((kp.toNat : Int) != (kq.toNat : Int)) = true := by simp; omega
  have d0' : ((kp.toNat : Int) == (kq.toNat : Int)) = false := by simp; omega
  have d1 : (kp.toNat != kq.toNat) = true := by simp; exact hne
  have d1' : (kp.toNat == kq.toNat) = false := by simp; exact hne
  clear hp hq hne hk
  go_enter Try.func23, Try.ntmps23
  go_wp2_with fail
  refine HGp.out.mono ?_; rintro e w' ⟨rfl, rfl⟩
  go_wp2_with fail
  refine HGq.out.mono ?_; rintro e w' ⟨rfl, rfl⟩
  go_wp2_with fail
  refine HKp.out.mono ?_; rintro e w' ⟨rfl, rfl⟩
  go_wp2_with fail
  refine HKq.out.mono ?_; rintro e w' ⟨rfl, rfl⟩
  go_wp2_with fail
  go_ret
  exact ⟨rfl, rfl⟩
set_option maxHeartbeats 4000000 in
theorem Join_touch {w : World} {g g2 : Nat} {kp : UInt8} {P Q : List S66} (hp : PGL w g kp P) (hq : PGL w g2 kp Q) (hne : g ≠ g2) (hb : behindB P Q = false) : Calls Try.prog 23 #[.pointer (some ⟨g, 0, none⟩), .pointer (some ⟨g2, 0, none⟩)] w fun e w' => e = .returned (.int .i64 1) ∧ Below w.heap.size w w' := by
  have HGp := Aside0.mk (given_pg hp.pg)
  have HGq := Aside0.mk (given_pg hq.pg)
  have HKp := Aside0.mk (Kind_L hp)
  have HKq := Aside0.mk (Kind_L hq)
  have d0 : ((kp.toNat : Int) != (kp.toNat : Int)) = false := by simp
  have d1 : (kp.toNat != kp.toNat) = false := by simp
  have H := Aside0.mk (And.intro hp hq)
  have hs := hp.short
  have hs2 := hq.short
  have HF := Aside0.mk (And.intro hp.cells hq.cells)
  simp only [behindB, Bool.or_eq_false_iff] at hb
  obtain ⟨⟨hb1, hb2⟩, hb3⟩ := hb
  have l1 : 0 < P.length := by cases P with
    | nil => simp at hb1
    | cons _ _ => simp
  have l2 : 0 < Q.length := by cases Q with
    | nil => simp at hb2
    | cons _ _ => simp
  have dA : decide (0 < P.length) = true := decide_eq_true l1
  have dA' : decide (0 < (P.length : Int)) = true := decide_eq_true (by omega)
  have dB : decide (0 < Q.length) = true := decide_eq_true l2
  have dB' : decide (0 < (Q.length : Int)) = true := decide_eq_true (by omega)
  clear hb1 hb2
  clear hp hq
  go_enter Try.func23, Try.ntmps23
  go_wp2_with fail
  refine HGp.out.mono ?_; rintro e w' ⟨rfl, rfl⟩
  go_wp2_with fail
  refine HGq.out.mono ?_; rintro e w' ⟨rfl, rfl⟩
  go_wp2_with fail
  refine HKp.out.mono ?_; rintro e w' ⟨rfl, rfl⟩
  go_wp2_with fail
  refine HKq.out.mono ?_; rintro e w' ⟨rfl, rfl⟩
  clear HGp HGq HKp HKq
  go_wp2_with fail
  refine (Len_L H.out.1).mono ?_; rintro e w' ⟨rfl, rfl⟩
  go_wp2_with fail
  refine (At_last H.out.1).mono ?_; rintro e w1 ⟨rfl, hb1⟩
  have H1 := Aside0.mk (And.intro (H.out.1.below hb1) (H.out.2.below hb1))
  have HB1 := Aside0.mk hb1
  clear hb1 H
  go_wp2_with fail
  refine (At_first H1.out.2).mono ?_; rintro e w2 ⟨rfl, hb2⟩
  have H2 := Aside0.mk (And.intro (H1.out.1.below hb2) (H1.out.2.below hb2))
  have HB2 := Aside0.mk (below_step HB1.out hb2)
  clear hb2 H1 HB1
  go_wp2_with fail
  refine (Len_L H2.out.1).mono ?_; rintro e wA ⟨rfl, rfl⟩
  go_wp2_with fail
  refine (Len_L H2.out.2).mono ?_; rintro e wB ⟨rfl, rfl⟩
  go_wp2_with fail
  go_ret
  exact ⟨rfl, HB2.out⟩
set_option maxHeartbeats 4000000 in
theorem Join_full0 {w : World} {g g2 : Nat} {kp : UInt8} {P Q : List S66} (hp : PGL w g kp P) (hq : PGL w g2 kp Q) (hne : g ≠ g2) (hw : P = []) (hf : ¬ Fits (P ++ Q)) : Calls Try.prog 23 #[.pointer (some ⟨g, 0, none⟩), .pointer (some ⟨g2, 0, none⟩)] w fun e w' => e = .returned (.int .i64 2) ∧ Below w.heap.size w w' := by
  have HGp := Aside0.mk (given_pg hp.pg)
  have HGq := Aside0.mk (given_pg hq.pg)
  have HKp := Aside0.mk (Kind_L hp)
  have HKq := Aside0.mk (Kind_L hq)
  have d0 : ((kp.toNat : Int) != (kp.toNat : Int)) = false := by simp
  have d1 : (kp.toNat != kp.toNat) = false := by simp
  have H := Aside0.mk (And.intro hp hq)
  have hs := hp.short
  have hs2 := hq.short
  have HF := Aside0.mk (And.intro hp.cells hq.cells)
  have dA : decide (0 < P.length) = false := by rw [hw]; rfl
  have dA' : decide (0 < (P.length : Int)) = false := by rw [hw]; rfl
  clear hw
  have dF : decide (248 - 2 * (P.length : Int) - (total P : Int) < 2 * (Q.length : Int) + (total Q : Int)) = true := decide_eq_true (by unfold Fits at hf; rw [List.length_append, total_append] at hf; omega)
  clear hf
  clear hp hq
  go_enter Try.func23, Try.ntmps23
  go_wp2_with fail
  refine HGp.out.mono ?_; rintro e w' ⟨rfl, rfl⟩
  go_wp2_with fail
  refine HGq.out.mono ?_; rintro e w' ⟨rfl, rfl⟩
  go_wp2_with fail
  refine HKp.out.mono ?_; rintro e w' ⟨rfl, rfl⟩
  go_wp2_with fail
  refine HKq.out.mono ?_; rintro e w' ⟨rfl, rfl⟩
  clear HGp HGq HKp HKq
  go_wp2_with fail
  refine (Len_L H.out.1).mono ?_; rintro e w' ⟨rfl, rfl⟩
  go_wp2_with fail
  refine (At_last H.out.1).mono ?_; rintro e w1 ⟨rfl, hb1⟩
  have H1 := Aside0.mk (And.intro (H.out.1.below hb1) (H.out.2.below hb1))
  have HB1 := Aside0.mk hb1
  clear hb1 H
  go_wp2_with fail
  refine (At_first H1.out.2).mono ?_; rintro e w2 ⟨rfl, hb2⟩
  have H2 := Aside0.mk (And.intro (H1.out.1.below hb2) (H1.out.2.below hb2))
  have HB2 := Aside0.mk (below_step HB1.out hb2)
  clear hb2 H1 HB1
  go_wp2_with fail
  refine (Len_L H2.out.1).mono ?_; rintro e wA ⟨rfl, rfl⟩
  go_wp2_with fail
  refine (Len_L H2.out.2).mono ?_; rintro e wC ⟨rfl, rfl⟩
  go_wp2_with fail
  refine (used_L H2.out.2).mono ?_; rintro e w3 ⟨rfl, hb3⟩
  have H3 := Aside0.mk (And.intro (H2.out.1.below hb3) (H2.out.2.below hb3))
  have HB3 := Aside0.mk (below_step HB2.out hb3)
  clear hb3 H2 HB2
  go_wp2_with fail
  refine (room_L H3.out.1).mono ?_; rintro e w4 ⟨rfl, hb4⟩
  have H4 := Aside0.mk (And.intro (H3.out.1.below hb4) (H3.out.2.below hb4))
  have HB4 := Aside0.mk (below_step HB3.out hb4)
  clear hb4 H3 HB3
  go_wp2_with fail
  go_ret
  exact ⟨rfl, HB4.out⟩
set_option maxHeartbeats 4000000 in
theorem Join_full1 {w : World} {g g2 : Nat} {kp : UInt8} {P Q : List S66} (hp : PGL w g kp P) (hq : PGL w g2 kp Q) (hne : g ≠ g2) (hw : P ≠ []) (hw2 : Q = []) (hf : ¬ Fits (P ++ Q)) : Calls Try.prog 23 #[.pointer (some ⟨g, 0, none⟩), .pointer (some ⟨g2, 0, none⟩)] w fun e w' => e = .returned (.int .i64 2) ∧ Below w.heap.size w w' := by
  have HGp := Aside0.mk (given_pg hp.pg)
  have HGq := Aside0.mk (given_pg hq.pg)
  have HKp := Aside0.mk (Kind_L hp)
  have HKq := Aside0.mk (Kind_L hq)
  have d0 : ((kp.toNat : Int) != (kp.toNat : Int)) = false := by simp
  have d1 : (kp.toNat != kp.toNat) = false := by simp
  have H := Aside0.mk (And.intro hp hq)
  have hs := hp.short
  have hs2 := hq.short
  have HF := Aside0.mk (And.intro hp.cells hq.cells)
  have l1 : 0 < P.length := List.length_pos_iff.2 hw
  have dA : decide (0 < P.length) = true := decide_eq_true l1
  have dA' : decide (0 < (P.length : Int)) = true := decide_eq_true (by omega)
  clear hw
  have dB : decide (0 < Q.length) = false := by rw [hw2]; rfl
  have dB' : decide (0 < (Q.length : Int)) = false := by rw [hw2]; rfl
  clear hw2
  have dF : decide (248 - 2 * (P.length : Int) - (total P : Int) < 2 * (Q.length : Int) + (total Q : Int)) = true := decide_eq_true (by unfold Fits at hf; rw [List.length_append, total_append] at hf; omega)
  clear hf
  clear hp hq
  go_enter Try.func23, Try.ntmps23
  go_wp2_with fail
  refine HGp.out.mono ?_; rintro e w' ⟨rfl, rfl⟩
  go_wp2_with fail
  refine HGq.out.mono ?_; rintro e w' ⟨rfl, rfl⟩
  go_wp2_with fail
  refine HKp.out.mono ?_; rintro e w' ⟨rfl, rfl⟩
  go_wp2_with fail
  refine HKq.out.mono ?_; rintro e w' ⟨rfl, rfl⟩
  clear HGp HGq HKp HKq
  go_wp2_with fail
  refine (Len_L H.out.1).mono ?_; rintro e w' ⟨rfl, rfl⟩
  go_wp2_with fail
  refine (At_last H.out.1).mono ?_; rintro e w1 ⟨rfl, hb1⟩
  have H1 := Aside0.mk (And.intro (H.out.1.below hb1) (H.out.2.below hb1))
  have HB1 := Aside0.mk hb1
  clear hb1 H
  go_wp2_with fail
  refine (At_first H1.out.2).mono ?_; rintro e w2 ⟨rfl, hb2⟩
  have H2 := Aside0.mk (And.intro (H1.out.1.below hb2) (H1.out.2.below hb2))
  have HB2 := Aside0.mk (below_step HB1.out hb2)
  clear hb2 H1 HB1
  go_wp2_with fail
  refine (Len_L H2.out.1).mono ?_; rintro e wA ⟨rfl, rfl⟩
  go_wp2_with fail
  refine (Len_L H2.out.2).mono ?_; rintro e wB ⟨rfl, rfl⟩
  go_wp2_with fail
  refine (Len_L H2.out.2).mono ?_; rintro e wC ⟨rfl, rfl⟩
  go_wp2_with fail
  refine (used_L H2.out.2).mono ?_; rintro e w3 ⟨rfl, hb3⟩
  have H3 := Aside0.mk (And.intro (H2.out.1.below hb3) (H2.out.2.below hb3))
  have HB3 := Aside0.mk (below_step HB2.out hb3)
  clear hb3 H2 HB2
  go_wp2_with fail
  refine (room_L H3.out.1).mono ?_; rintro e w4 ⟨rfl, hb4⟩
  have H4 := Aside0.mk (And.intro (H3.out.1.below hb4) (H3.out.2.below hb4))
  have HB4 := Aside0.mk (below_step HB3.out hb4)
  clear hb4 H3 HB3
  go_wp2_with fail
  go_ret
  exact ⟨rfl, HB4.out⟩
set_option maxHeartbeats 4000000 in
theorem Join_full2 {w : World} {g g2 : Nat} {kp : UInt8} {P Q : List S66} (hp : PGL w g kp P) (hq : PGL w g2 kp Q) (hne : g ≠ g2) (hw : P ≠ []) (hw2 : Q ≠ []) (hw3 : Op.bytesLess (lastK P).toList (firstK Q).toList = true) (hf : ¬ Fits (P ++ Q)) : Calls Try.prog 23 #[.pointer (some ⟨g, 0, none⟩), .pointer (some ⟨g2, 0, none⟩)] w fun e w' => e = .returned (.int .i64 2) ∧ Below w.heap.size w w' := by
  have HGp := Aside0.mk (given_pg hp.pg)
  have HGq := Aside0.mk (given_pg hq.pg)
  have HKp := Aside0.mk (Kind_L hp)
  have HKq := Aside0.mk (Kind_L hq)
  have d0 : ((kp.toNat : Int) != (kp.toNat : Int)) = false := by simp
  have d1 : (kp.toNat != kp.toNat) = false := by simp
  have H := Aside0.mk (And.intro hp hq)
  have hs := hp.short
  have hs2 := hq.short
  have HF := Aside0.mk (And.intro hp.cells hq.cells)
  have l1 : 0 < P.length := List.length_pos_iff.2 hw
  have dA : decide (0 < P.length) = true := decide_eq_true l1
  have dA' : decide (0 < (P.length : Int)) = true := decide_eq_true (by omega)
  clear hw
  have l2 : 0 < Q.length := List.length_pos_iff.2 hw2
  have dB : decide (0 < Q.length) = true := decide_eq_true l2
  have dB' : decide (0 < (Q.length : Int)) = true := decide_eq_true (by omega)
  clear hw2
  have dF : decide (248 - 2 * (P.length : Int) - (total P : Int) < 2 * (Q.length : Int) + (total Q : Int)) = true := decide_eq_true (by unfold Fits at hf; rw [List.length_append, total_append] at hf; omega)
  clear hf
  clear hp hq
  go_enter Try.func23, Try.ntmps23
  go_wp2_with fail
  refine HGp.out.mono ?_; rintro e w' ⟨rfl, rfl⟩
  go_wp2_with fail
  refine HGq.out.mono ?_; rintro e w' ⟨rfl, rfl⟩
  go_wp2_with fail
  refine HKp.out.mono ?_; rintro e w' ⟨rfl, rfl⟩
  go_wp2_with fail
  refine HKq.out.mono ?_; rintro e w' ⟨rfl, rfl⟩
  clear HGp HGq HKp HKq
  go_wp2_with fail
  refine (Len_L H.out.1).mono ?_; rintro e w' ⟨rfl, rfl⟩
  go_wp2_with fail
  refine (At_last H.out.1).mono ?_; rintro e w1 ⟨rfl, hb1⟩
  have H1 := Aside0.mk (And.intro (H.out.1.below hb1) (H.out.2.below hb1))
  have HB1 := Aside0.mk hb1
  clear hb1 H
  go_wp2_with fail
  refine (At_first H1.out.2).mono ?_; rintro e w2 ⟨rfl, hb2⟩
  have H2 := Aside0.mk (And.intro (H1.out.1.below hb2) (H1.out.2.below hb2))
  have HB2 := Aside0.mk (below_step HB1.out hb2)
  clear hb2 H1 HB1
  go_wp2_with fail
  refine (Len_L H2.out.1).mono ?_; rintro e wA ⟨rfl, rfl⟩
  go_wp2_with fail
  refine (Len_L H2.out.2).mono ?_; rintro e wB ⟨rfl, rfl⟩
  go_wp2_with fail
  refine (Len_L H2.out.2).mono ?_; rintro e wC ⟨rfl, rfl⟩
  go_wp2_with fail
  refine (used_L H2.out.2).mono ?_; rintro e w3 ⟨rfl, hb3⟩
  have H3 := Aside0.mk (And.intro (H2.out.1.below hb3) (H2.out.2.below hb3))
  have HB3 := Aside0.mk (below_step HB2.out hb3)
  clear hb3 H2 HB2
  go_wp2_with fail
  refine (room_L H3.out.1).mono ?_; rintro e w4 ⟨rfl, hb4⟩
  have H4 := Aside0.mk (And.intro (H3.out.1.below hb4) (H3.out.2.below hb4))
  have HB4 := Aside0.mk (below_step HB3.out hb4)
  clear hb4 H3 HB3
  go_wp2_with fail
  go_ret
  exact ⟨rfl, HB4.out⟩
set_option maxHeartbeats 4000000 in
theorem Join_ok0 {w : World} {g g2 : Nat} {kp : UInt8} {P Q : List S66} (hp : PGL w g kp P) (hq : PGL w g2 kp Q) (hne : g ≠ g2) (hw : P = []) (hc : Cells (P ++ Q)) : Calls Try.prog 23 #[.pointer (some ⟨g, 0, none⟩), .pointer (some ⟨g2, 0, none⟩)] w fun e w' => e = .returned (.int .i64 0) ∧ PGL w' g kp (P ++ Q) ∧ PGL w' g2 kp Q ∧ BelX g w w' := by
  have HGp := Aside0.mk (given_pg hp.pg)
  have HGq := Aside0.mk (given_pg hq.pg)
  have HKp := Aside0.mk (Kind_L hp)
  have HKq := Aside0.mk (Kind_L hq)
  have d0 : ((kp.toNat : Int) != (kp.toNat : Int)) = false := by simp
  have d1 : (kp.toNat != kp.toNat) = false := by simp
  have H := Aside0.mk (And.intro hp hq)
  have hs := hp.short
  have hs2 := hq.short
  have HF := Aside0.mk (And.intro hp.cells hq.cells)
  have dA : decide (0 < P.length) = false := by rw [hw]; rfl
  have dA' : decide (0 < (P.length : Int)) = false := by rw [hw]; rfl
  clear hw
  have dF : decide (248 - 2 * (P.length : Int) - (total P : Int) < 2 * (Q.length : Int) + (total Q : Int)) = false := decide_eq_false (by have hf := hc.fits; unfold Fits at hf; rw [List.length_append, total_append] at hf; omega)
  have HC := Aside0.mk hc
  have HNe := Aside0.mk hne
  clear hc
  clear hp hq
  go_enter Try.func23, Try.ntmps23
  go_wp2_with fail
  refine HGp.out.mono ?_; rintro e w' ⟨rfl, rfl⟩
  go_wp2_with fail
  refine HGq.out.mono ?_; rintro e w' ⟨rfl, rfl⟩
  go_wp2_with fail
  refine HKp.out.mono ?_; rintro e w' ⟨rfl, rfl⟩
  go_wp2_with fail
  refine HKq.out.mono ?_; rintro e w' ⟨rfl, rfl⟩
  clear HGp HGq HKp HKq
  go_wp2_with fail
  refine (Len_L H.out.1).mono ?_; rintro e w' ⟨rfl, rfl⟩
  go_wp2_with fail
  refine (At_last H.out.1).mono ?_; rintro e w1 ⟨rfl, hb1⟩
  have H1 := Aside0.mk (And.intro (H.out.1.below hb1) (H.out.2.below hb1))
  have HB1 := Aside0.mk hb1
  clear hb1 H
  go_wp2_with fail
  refine (At_first H1.out.2).mono ?_; rintro e w2 ⟨rfl, hb2⟩
  have H2 := Aside0.mk (And.intro (H1.out.1.below hb2) (H1.out.2.below hb2))
  have HB2 := Aside0.mk (below_step HB1.out hb2)
  clear hb2 H1 HB1
  go_wp2_with fail
  refine (Len_L H2.out.1).mono ?_; rintro e wA ⟨rfl, rfl⟩
  go_wp2_with fail
  refine (Len_L H2.out.2).mono ?_; rintro e wC ⟨rfl, rfl⟩
  go_wp2_with fail
  refine (used_L H2.out.2).mono ?_; rintro e w3 ⟨rfl, hb3⟩
  have H3 := Aside0.mk (And.intro (H2.out.1.below hb3) (H2.out.2.below hb3))
  have HB3 := Aside0.mk (below_step HB2.out hb3)
  clear hb3 H2 HB2
  go_wp2_with fail
  refine (room_L H3.out.1).mono ?_; rintro e w4 ⟨rfl, hb4⟩
  have H4 := Aside0.mk (And.intro (H3.out.1.below hb4) (H3.out.2.below hb4))
  have HB4 := Aside0.mk (below_step HB3.out hb4)
  clear hb4 H3 HB3
  go_wp2_with fail
  refine (Len_L H4.out.2).mono ?_; rintro e w5 ⟨rfl, rfl⟩
  go_wp2_with fail
  clear dA dA' dF
  go_loopw [64] (fun v wr => ∃ m : Nat, v = .int .i64 (m : Int) ∧ Aside0 (m ≤ Q.length) ∧ Aside0 (PGL wr g kp (P ++ Q.take m)) ∧ Aside0 (PGL wr g2 kp Q) ∧ Aside0 (BelX g w' wr)) (fun v _ => Q.length - (Lib.intOf v).toNat)
  case atStart => exact ⟨0, rfl, ⟨by omega⟩, ⟨by rw [List.take_zero, List.append_nil]; exact H4.out.1⟩, ⟨H4.out.2⟩, ⟨BelX.of_below HB4.out⟩⟩
  case round =>
    obtain ⟨m, rfl, hM, HA, HQ, HB⟩ := hrel
    by_cases hlt : m < Q.length
    · have d1 : decide ((m : Int) < (Q.length : Int)) = true := decide_eq_true (by omega)
      have d2 : decide (m < Q.length) = true := decide_eq_true hlt
      have hc : P ++ Q.take (m + 1) = (P ++ Q.take m) ++ [Q[m]] := by rw [List.take_succ_eq_append_getElem hlt, List.append_assoc]
      have HC1 := Aside0.mk (show Cells ((P ++ Q.take m) ++ [Q[m]]) from by rw [← hc]; exact cells_sub (List.Sublist.append_left (List.take_sublist _ _) _) HC.out)
      have HC2 := Aside0.mk hc
      obtain ⟨c, hcc⟩ : ∃ c, Q[m] = c := ⟨_, rfl⟩
      rw [hcc] at HC1 HC2
      have HCC := Aside0.mk hcc
      have HLT := Aside0.mk hlt
      clear hc hcc
      go_wp2_with fail
      refine (At_cell HQ.out m HLT.out).mono ?_; rintro e w6 ⟨rfl, hb6⟩
      rw [HCC.out]
      have HA6 := Aside0.mk (HA.out.below hb6)
      have HQ6 := Aside0.mk (HQ.out.below hb6)
      have HB6 := Aside0.mk (HB.out.trans (BelX.of_below hb6))
      clear hb6 HA HQ HB
      go_wp2_with fail
      refine (Put_end HA6.out c HC1.out).mono ?_; rintro e w7 ⟨rfl, hp7, hb7⟩
      have HA7 := Aside0.mk hp7
      have HQ7 := Aside0.mk (HQ6.out.belX hb7 (fun e => HNe.out e.symm))
      have HB7 := Aside0.mk (HB6.out.trans hb7)
      clear hp7 hb7 HA6 HQ6 HB6
      go_wp2
      have q : (m : Int) + 1 = ((m + 1 : Nat) : Int) := by omega
      go_roundw
      case rel => exact ⟨m + 1, by rw [q], ⟨HLT.out⟩, ⟨by rw [HC2.out]; exact HA7.out⟩, HQ7, HB7⟩
      case measure => rw [q]; exact up_lt _ _ _ rfl HLT.out
    · have hm : m = Q.length := by have := hM.out; omega
      have d1 : decide ((m : Int) < (Q.length : Int)) = false := decide_eq_false (by omega)
      have d2 : decide (m < Q.length) = false := decide_eq_false hlt
      have HA' := Aside0.mk (show PGL wr g kp (P ++ Q) from by have := HA.out; rwa [hm, List.take_length] at this)
      clear hlt hm HA
      go_wp2_with fail
      go_ret
      exact ⟨rfl, HA'.out, HQ.out, HB.out⟩
set_option maxHeartbeats 4000000 in
theorem Join_ok1 {w : World} {g g2 : Nat} {kp : UInt8} {P Q : List S66} (hp : PGL w g kp P) (hq : PGL w g2 kp Q) (hne : g ≠ g2) (hw : P ≠ []) (hw2 : Q = []) (hc : Cells (P ++ Q)) : Calls Try.prog 23 #[.pointer (some ⟨g, 0, none⟩), .pointer (some ⟨g2, 0, none⟩)] w fun e w' => e = .returned (.int .i64 0) ∧ PGL w' g kp (P ++ Q) ∧ PGL w' g2 kp Q ∧ BelX g w w' := by
  have HGp := Aside0.mk (given_pg hp.pg)
  have HGq := Aside0.mk (given_pg hq.pg)
  have HKp := Aside0.mk (Kind_L hp)
  have HKq := Aside0.mk (Kind_L hq)
  have d0 : ((kp.toNat : Int) != (kp.toNat : Int)) = false := by simp
  have d1 : (kp.toNat != kp.toNat) = false := by simp
  have H := Aside0.mk (And.intro hp hq)
  have hs := hp.short
  have hs2 := hq.short
  have HF := Aside0.mk (And.intro hp.cells hq.cells)
  have l1 : 0 < P.length := List.length_pos_iff.2 hw
  have dA : decide (0 < P.length) = true := decide_eq_true l1
  have dA' : decide (0 < (P.length : Int)) = true := decide_eq_true (by omega)
  clear hw
  have dB : decide (0 < Q.length) = false := by rw [hw2]; rfl
  have dB' : decide (0 < (Q.length : Int)) = false := by rw [hw2]; rfl
  clear hw2
  have dF : decide (248 - 2 * (P.length : Int) - (total P : Int) < 2 * (Q.length : Int) + (total Q : Int)) = false := decide_eq_false (by have hf := hc.fits; unfold Fits at hf; rw [List.length_append, total_append] at hf; omega)
  have HC := Aside0.mk hc
  have HNe := Aside0.mk hne
  clear hc
  clear hp hq
  go_enter Try.func23, Try.ntmps23
  go_wp2_with fail
  refine HGp.out.mono ?_; rintro e w' ⟨rfl, rfl⟩
  go_wp2_with fail
  refine HGq.out.mono ?_; rintro e w' ⟨rfl, rfl⟩
  go_wp2_with fail
  refine HKp.out.mono ?_; rintro e w' ⟨rfl, rfl⟩
  go_wp2_with fail
  refine HKq.out.mono ?_; rintro e w' ⟨rfl, rfl⟩
  clear HGp HGq HKp HKq
  go_wp2_with fail
  refine (Len_L H.out.1).mono ?_; rintro e w' ⟨rfl, rfl⟩
  go_wp2_with fail
  refine (At_last H.out.1).mono ?_; rintro e w1 ⟨rfl, hb1⟩
  have H1 := Aside0.mk (And.intro (H.out.1.below hb1) (H.out.2.below hb1))
  have HB1 := Aside0.mk hb1
  clear hb1 H
  go_wp2_with fail
  refine (At_first H1.out.2).mono ?_; rintro e w2 ⟨rfl, hb2⟩
  have H2 := Aside0.mk (And.intro (H1.out.1.below hb2) (H1.out.2.below hb2))
  have HB2 := Aside0.mk (below_step HB1.out hb2)
  clear hb2 H1 HB1
  go_wp2_with fail
  refine (Len_L H2.out.1).mono ?_; rintro e wA ⟨rfl, rfl⟩
  go_wp2_with fail
  refine (Len_L H2.out.2).mono ?_; rintro e wB ⟨rfl, rfl⟩
  go_wp2_with fail
  refine (Len_L H2.out.2).mono ?_; rintro e wC ⟨rfl, rfl⟩
  go_wp2_with fail
  refine (used_L H2.out.2).mono ?_; rintro e w3 ⟨rfl, hb3⟩
  have H3 := Aside0.mk (And.intro (H2.out.1.below hb3) (H2.out.2.below hb3))
  have HB3 := Aside0.mk (below_step HB2.out hb3)
  clear hb3 H2 HB2
  go_wp2_with fail
  refine (room_L H3.out.1).mono ?_; rintro e w4 ⟨rfl, hb4⟩
  have H4 := Aside0.mk (And.intro (H3.out.1.below hb4) (H3.out.2.below hb4))
  have HB4 := Aside0.mk (below_step HB3.out hb4)
  clear hb4 H3 HB3
  go_wp2_with fail
  refine (Len_L H4.out.2).mono ?_; rintro e w5 ⟨rfl, rfl⟩
  go_wp2_with fail
  clear dA dA' dF
  go_loopw [64] (fun v wr => ∃ m : Nat, v = .int .i64 (m : Int) ∧ Aside0 (m ≤ Q.length) ∧ Aside0 (PGL wr g kp (P ++ Q.take m)) ∧ Aside0 (PGL wr g2 kp Q) ∧ Aside0 (BelX g w' wr)) (fun v _ => Q.length - (Lib.intOf v).toNat)
  case atStart => exact ⟨0, rfl, ⟨by omega⟩, ⟨by rw [List.take_zero, List.append_nil]; exact H4.out.1⟩, ⟨H4.out.2⟩, ⟨BelX.of_below HB4.out⟩⟩
  case round =>
    obtain ⟨m, rfl, hM, HA, HQ, HB⟩ := hrel
    by_cases hlt : m < Q.length
    · have d1 : decide ((m : Int) < (Q.length : Int)) = true := decide_eq_true (by omega)
      have d2 : decide (m < Q.length) = true := decide_eq_true hlt
      have hc : P ++ Q.take (m + 1) = (P ++ Q.take m) ++ [Q[m]] := by rw [List.take_succ_eq_append_getElem hlt, List.append_assoc]
      have HC1 := Aside0.mk (show Cells ((P ++ Q.take m) ++ [Q[m]]) from by rw [← hc]; exact cells_sub (List.Sublist.append_left (List.take_sublist _ _) _) HC.out)
      have HC2 := Aside0.mk hc
      obtain ⟨c, hcc⟩ : ∃ c, Q[m] = c := ⟨_, rfl⟩
      rw [hcc] at HC1 HC2
      have HCC := Aside0.mk hcc
      have HLT := Aside0.mk hlt
      clear hc hcc
      go_wp2_with fail
      refine (At_cell HQ.out m HLT.out).mono ?_; rintro e w6 ⟨rfl, hb6⟩
      rw [HCC.out]
      have HA6 := Aside0.mk (HA.out.below hb6)
      have HQ6 := Aside0.mk (HQ.out.below hb6)
      have HB6 := Aside0.mk (HB.out.trans (BelX.of_below hb6))
      clear hb6 HA HQ HB
      go_wp2_with fail
      refine (Put_end HA6.out c HC1.out).mono ?_; rintro e w7 ⟨rfl, hp7, hb7⟩
      have HA7 := Aside0.mk hp7
      have HQ7 := Aside0.mk (HQ6.out.belX hb7 (fun e => HNe.out e.symm))
      have HB7 := Aside0.mk (HB6.out.trans hb7)
      clear hp7 hb7 HA6 HQ6 HB6
      go_wp2
      have q : (m : Int) + 1 = ((m + 1 : Nat) : Int) := by omega
      go_roundw
      case rel => exact ⟨m + 1, by rw [q], ⟨HLT.out⟩, ⟨by rw [HC2.out]; exact HA7.out⟩, HQ7, HB7⟩
      case measure => rw [q]; exact up_lt _ _ _ rfl HLT.out
    · have hm : m = Q.length := by have := hM.out; omega
      have d1 : decide ((m : Int) < (Q.length : Int)) = false := decide_eq_false (by omega)
      have d2 : decide (m < Q.length) = false := decide_eq_false hlt
      have HA' := Aside0.mk (show PGL wr g kp (P ++ Q) from by have := HA.out; rwa [hm, List.take_length] at this)
      clear hlt hm HA
      go_wp2_with fail
      go_ret
      exact ⟨rfl, HA'.out, HQ.out, HB.out⟩
set_option maxHeartbeats 4000000 in
theorem Join_ok2 {w : World} {g g2 : Nat} {kp : UInt8} {P Q : List S66} (hp : PGL w g kp P) (hq : PGL w g2 kp Q) (hne : g ≠ g2) (hw : P ≠ []) (hw2 : Q ≠ []) (hw3 : Op.bytesLess (lastK P).toList (firstK Q).toList = true) (hc : Cells (P ++ Q)) : Calls Try.prog 23 #[.pointer (some ⟨g, 0, none⟩), .pointer (some ⟨g2, 0, none⟩)] w fun e w' => e = .returned (.int .i64 0) ∧ PGL w' g kp (P ++ Q) ∧ PGL w' g2 kp Q ∧ BelX g w w' := by
  have HGp := Aside0.mk (given_pg hp.pg)
  have HGq := Aside0.mk (given_pg hq.pg)
  have HKp := Aside0.mk (Kind_L hp)
  have HKq := Aside0.mk (Kind_L hq)
  have d0 : ((kp.toNat : Int) != (kp.toNat : Int)) = false := by simp
  have d1 : (kp.toNat != kp.toNat) = false := by simp
  have H := Aside0.mk (And.intro hp hq)
  have hs := hp.short
  have hs2 := hq.short
  have HF := Aside0.mk (And.intro hp.cells hq.cells)
  have l1 : 0 < P.length := List.length_pos_iff.2 hw
  have dA : decide (0 < P.length) = true := decide_eq_true l1
  have dA' : decide (0 < (P.length : Int)) = true := decide_eq_true (by omega)
  clear hw
  have l2 : 0 < Q.length := List.length_pos_iff.2 hw2
  have dB : decide (0 < Q.length) = true := decide_eq_true l2
  have dB' : decide (0 < (Q.length : Int)) = true := decide_eq_true (by omega)
  clear hw2
  have dF : decide (248 - 2 * (P.length : Int) - (total P : Int) < 2 * (Q.length : Int) + (total Q : Int)) = false := decide_eq_false (by have hf := hc.fits; unfold Fits at hf; rw [List.length_append, total_append] at hf; omega)
  have HC := Aside0.mk hc
  have HNe := Aside0.mk hne
  clear hc
  clear hp hq
  go_enter Try.func23, Try.ntmps23
  go_wp2_with fail
  refine HGp.out.mono ?_; rintro e w' ⟨rfl, rfl⟩
  go_wp2_with fail
  refine HGq.out.mono ?_; rintro e w' ⟨rfl, rfl⟩
  go_wp2_with fail
  refine HKp.out.mono ?_; rintro e w' ⟨rfl, rfl⟩
  go_wp2_with fail
  refine HKq.out.mono ?_; rintro e w' ⟨rfl, rfl⟩
  clear HGp HGq HKp HKq
  go_wp2_with fail
  refine (Len_L H.out.1).mono ?_; rintro e w' ⟨rfl, rfl⟩
  go_wp2_with fail
  refine (At_last H.out.1).mono ?_; rintro e w1 ⟨rfl, hb1⟩
  have H1 := Aside0.mk (And.intro (H.out.1.below hb1) (H.out.2.below hb1))
  have HB1 := Aside0.mk hb1
  clear hb1 H
  go_wp2_with fail
  refine (At_first H1.out.2).mono ?_; rintro e w2 ⟨rfl, hb2⟩
  have H2 := Aside0.mk (And.intro (H1.out.1.below hb2) (H1.out.2.below hb2))
  have HB2 := Aside0.mk (below_step HB1.out hb2)
  clear hb2 H1 HB1
  go_wp2_with fail
  refine (Len_L H2.out.1).mono ?_; rintro e wA ⟨rfl, rfl⟩
  go_wp2_with fail
  refine (Len_L H2.out.2).mono ?_; rintro e wB ⟨rfl, rfl⟩
  go_wp2_with fail
  refine (Len_L H2.out.2).mono ?_; rintro e wC ⟨rfl, rfl⟩
  go_wp2_with fail
  refine (used_L H2.out.2).mono ?_; rintro e w3 ⟨rfl, hb3⟩
  have H3 := Aside0.mk (And.intro (H2.out.1.below hb3) (H2.out.2.below hb3))
  have HB3 := Aside0.mk (below_step HB2.out hb3)
  clear hb3 H2 HB2
  go_wp2_with fail
  refine (room_L H3.out.1).mono ?_; rintro e w4 ⟨rfl, hb4⟩
  have H4 := Aside0.mk (And.intro (H3.out.1.below hb4) (H3.out.2.below hb4))
  have HB4 := Aside0.mk (below_step HB3.out hb4)
  clear hb4 H3 HB3
  go_wp2_with fail
  refine (Len_L H4.out.2).mono ?_; rintro e w5 ⟨rfl, rfl⟩
  go_wp2_with fail
  clear dA dA' dF
  go_loopw [64] (fun v wr => ∃ m : Nat, v = .int .i64 (m : Int) ∧ Aside0 (m ≤ Q.length) ∧ Aside0 (PGL wr g kp (P ++ Q.take m)) ∧ Aside0 (PGL wr g2 kp Q) ∧ Aside0 (BelX g w' wr)) (fun v _ => Q.length - (Lib.intOf v).toNat)
  case atStart => exact ⟨0, rfl, ⟨by omega⟩, ⟨by rw [List.take_zero, List.append_nil]; exact H4.out.1⟩, ⟨H4.out.2⟩, ⟨BelX.of_below HB4.out⟩⟩
  case round =>
    obtain ⟨m, rfl, hM, HA, HQ, HB⟩ := hrel
    by_cases hlt : m < Q.length
    · have d1 : decide ((m : Int) < (Q.length : Int)) = true := decide_eq_true (by omega)
      have d2 : decide (m < Q.length) = true := decide_eq_true hlt
      have hc : P ++ Q.take (m + 1) = (P ++ Q.take m) ++ [Q[m]] := by rw [List.take_succ_eq_append_getElem hlt, List.append_assoc]
      have HC1 := Aside0.mk (show Cells ((P ++ Q.take m) ++ [Q[m]]) from by rw [← hc]; exact cells_sub (List.Sublist.append_left (List.take_sublist _ _) _) HC.out)
      have HC2 := Aside0.mk hc
      obtain ⟨c, hcc⟩ : ∃ c, Q[m] = c := ⟨_, rfl⟩
      rw [hcc] at HC1 HC2
      have HCC := Aside0.mk hcc
      have HLT := Aside0.mk hlt
      clear hc hcc
      go_wp2_with fail
      refine (At_cell HQ.out m HLT.out).mono ?_; rintro e w6 ⟨rfl, hb6⟩
      rw [HCC.out]
      have HA6 := Aside0.mk (HA.out.below hb6)
      have HQ6 := Aside0.mk (HQ.out.below hb6)
      have HB6 := Aside0.mk (HB.out.trans (BelX.of_below hb6))
      clear hb6 HA HQ HB
      go_wp2_with fail
      refine (Put_end HA6.out c HC1.out).mono ?_; rintro e w7 ⟨rfl, hp7, hb7⟩
      have HA7 := Aside0.mk hp7
      have HQ7 := Aside0.mk (HQ6.out.belX hb7 (fun e => HNe.out e.symm))
      have HB7 := Aside0.mk (HB6.out.trans hb7)
      clear hp7 hb7 HA6 HQ6 HB6
      go_wp2
      have q : (m : Int) + 1 = ((m + 1 : Nat) : Int) := by omega
      go_roundw
      case rel => exact ⟨m + 1, by rw [q], ⟨HLT.out⟩, ⟨by rw [HC2.out]; exact HA7.out⟩, HQ7, HB7⟩
      case measure => rw [q]; exact up_lt _ _ _ rfl HLT.out
    · have hm : m = Q.length := by have := hM.out; omega
      have d1 : decide ((m : Int) < (Q.length : Int)) = false := decide_eq_false (by omega)
      have d2 : decide (m < Q.length) = false := decide_eq_false hlt
      have HA' := Aside0.mk (show PGL wr g kp (P ++ Q) from by have := HA.out; rwa [hm, List.take_length] at this)
      clear hlt hm HA
      go_wp2_with fail
      go_ret
      exact ⟨rfl, HA'.out, HQ.out, HB.out⟩
theorem Join_any {w : World} {g g2 : Nat} {kp kq : UInt8} {P Q : List S66} (hp : PGL w g kp P) (hq : PGL w g2 kq Q) (hne : g ≠ g2) : Calls Try.prog 23 #[.pointer (some ⟨g, 0, none⟩), .pointer (some ⟨g2, 0, none⟩)] w fun e w' => e = .returned (.int .i64 (joinR kp P kq Q).1) ∧ PGL w' g kp (joinR kp P kq Q).2 ∧ PGL w' g2 kq Q ∧ BelX g w w' := by
  by_cases hk : kp = kq
  · subst hk
    cases hb : behindB P Q with
    | false =>
      have e : joinR kp P kp Q = (1, P) := by unfold joinR; rw [if_neg (by simp [hb])]
      rw [e]
      exact (Join_touch hp hq hne hb).mono fun e w' ⟨h1, h2⟩ => ⟨h1, hp.below h2, hq.below h2, BelX.of_below h2⟩
    | true =>
      by_cases hf : Fits (P ++ Q)
      · have e : joinR kp P kp Q = (0, P ++ Q) := by unfold joinR; rw [if_pos ⟨rfl, hb⟩, if_pos hf]
        rw [e]
        have hc := join_cells hp.cells hq.cells hb hf
        by_cases h1 : P = []
        · exact Join_ok0 hp hq hne h1 hc
        · by_cases h2 : Q = []
          · exact Join_ok1 hp hq hne h1 h2 hc
          · refine Join_ok2 hp hq hne h1 h2 ?_ hc
            simpa [behindB, h1, h2] using hb
      · have e : joinR kp P kp Q = (2, P) := by unfold joinR; rw [if_pos ⟨rfl, hb⟩, if_neg hf]
        rw [e]
        have K : ∀ {e : Ending} {w' : World}, (e = .returned (.int .i64 2) ∧ Below w.heap.size w w') → (e = .returned (.int .i64 2) ∧ PGL w' g kp P ∧ PGL w' g2 kp Q ∧ BelX g w w') := fun ⟨h1, h2⟩ => ⟨h1, hp.below h2, hq.below h2, BelX.of_below h2⟩
        by_cases h1 : P = []
        · exact (Join_full0 hp hq hne h1 hf).mono fun _ _ h => K h
        · by_cases h2 : Q = []
          · exact (Join_full1 hp hq hne h1 h2 hf).mono fun _ _ h => K h
          · refine (Join_full2 hp hq hne h1 h2 ?_ hf).mono fun _ _ h => K h
            simpa [behindB, h1, h2] using hb
  · have e : joinR kp P kq Q = (1, P) := by unfold joinR; rw [if_neg (by simp [hk])]
    rw [e]
    exact (Join_kind hp hq hk).mono fun e w' ⟨h1, h2⟩ => by subst h2; exact ⟨h1, hp, hq, BelX.refl _ _⟩
end Go.Proofs.Ytinbppcfdmbclaa.Pg

/-! A page is read from its bytes: walked. No condition beyond those that each theorem names. -/
namespace Go.Proofs.Ytinbppcfdmbclaa.Pg
open Go.RowKit Go.Proofs.YtinbppcfdmbclaaW.PrintWords Go.Proofs.YtinbppcfdmbclaaW.PrintLast Go.Proofs.YtinbppcfdmbclaaW.PrintMore
set_option linter.unusedVariables false
set_option linter.unusedSimpArgs false
/-- the bytes but for the sum -/
def clearS (sb : List UInt8) : List UInt8 := splice sb 4 (List.replicate 4 0)
theorem clearS_len {sb : List UInt8} (h : sb.length = 256) : (clearS sb).length = 256 := splice_len h (by simp)
theorem splice_twice (b x y : List UInt8) (o : Nat) (h : x.length = y.length) (hb : o + x.length ≤ b.length) : splice (splice b o x) o y = splice b o y := by
  have hb0 : b = b.take o ++ (b.drop o) := (List.take_append_drop _ _).symm
  unfold splice
  rw [List.take_append_of_le_length (by rw [List.length_take]; omega), List.take_take, Nat.min_self]
  congr 2
  rw [← List.append_assoc, List.drop_append, List.drop_of_length_le (by rw [List.length_append, List.length_take]; omega), List.nil_append, List.length_append, List.length_take, Nat.min_eq_left (by omega), show o + y.length - (o + x.length) = 0 from by omega, List.drop_zero, h]
theorem splice_same (b : List UInt8) (o : Nat) (y : List UInt8) (h : (b.drop o).take y.length = y) : splice b o y = b := by
  unfold splice
  conv => rhs; rw [← List.take_append_drop o b, ← List.take_append_drop y.length (b.drop o), h, List.drop_drop]
theorem enc_zero4 (kind : UInt8) (L : List S66) : ((encB kind L).drop 4).take 4 = [0, 0, 0, 0] := by simp [encB, headB]
theorem bytesR_list (b : List UInt8) : (bytesR b).data.toList = splice b 4 (sumS b).data.toList := rfl
theorem sumS_len (b : List UInt8) : (sumS b).data.toList.length = 4 := rfl
theorem clear_enc (kind : UInt8) (L : List S66) (h : Fits L) : clearS (bytesR (encB kind L)).data.toList = encB kind L := by
  have hl := encB_length kind L h
  rw [bytesR_list, clearS, splice_twice _ _ _ _ (by rw [sumS_len]; rfl) (by rw [sumS_len, hl]; omega)]
  exact splice_same _ _ _ (enc_zero4 kind L)
theorem bytesR_size (b : List UInt8) (h : b.length = 256) : (bytesR b).size = 256 := by
  rw [← sz, bytesR_list, splice_len h (by rw [sumS_len]; omega)]
theorem splice_all (z s : List UInt8) (h : z.length = s.length) : splice z 0 s = s := by
  unfold splice; rw [List.take_zero, List.nil_append, Nat.zero_add, ← h, List.drop_length, List.append_nil]
theorem bytesR_first (kind : UInt8) (L : List S66) (h : 0 < (bytesR (encB kind L)).size) : (bytesR (encB kind L))[0] = kind := by
  show (splice (encB kind L) 4 (sumS (encB kind L)).data.toList).toArray[0]'h = kind
  simp [splice, encB, headB]
theorem enc_zeros (kind : UInt8) (L : List S66) (h : Fits L) (k : Nat) (h1 : 8 + 2 * L.length ≤ k) (h2 : k < 256 - total L) : at_ (encB kind L) k = 0 := by
  have hd := dirB_length L 256
  have hf := h
  unfold Fits at hf
  rw [encB, ← List.append_assoc, show k = (headB kind L ++ dirB 256 L).length + (k - (8 + 2 * L.length)) from by rw [List.length_append, headB_length, hd]; omega, at_append_r, at_append_l _ _ _ (by rw [List.length_replicate]; omega)]
  simp [at_, List.getD_eq_getElem?_getD, List.getElem?_replicate]
  split <;> rfl
set_option maxRecDepth 100000 in
set_option maxHeartbeats 4000000 in
theorem Read_yes {w : World} (kind : UInt8) (L : List S66) (hk : kind ≠ 0) (hc : Cells L) (s : ByteArray) (hse : s = bytesR (encB kind L)) : Calls Try.prog 13 #[.string s] w fun e w' => ∃ g, e = .returned (.tuple #[.pointer (some ⟨g, 0, none⟩), .int .i64 0]) ∧ w.heap.size ≤ g ∧ PGL w' g kind L ∧ Below w.heap.size w w' := by
  have hel := encB_length kind L hc.fits
  have hsz : s.size = 256 := by rw [hse]; exact bytesR_size _ hel
  have hcl : clearS s.data.toList = encB kind L := by rw [hse]; exact clear_enc kind L hc.fits
  have hz := zero58_run w
  have hzs : (zero58.size < 257) = False := eq_false (by rw [zero58_size]; omega)
  have hst := zero58_set
  have hP := made58_pg w
  obtain ⟨w2, hcp, hp2, hb2⟩ := copy_str_pg hP ⟨w.heap.size, 0, none⟩ 0 256 256 s (fun _ => rfl) hsz (by omega)
  rw [splice_all _ _ (by rw [List.length_replicate, sz, hsz])] at hp2
  obtain ⟨w3, hcl3, hp3, hb3⟩ := clear_pg hp2 ⟨w.heap.size, 4, none⟩ 4 4 252 (fun _ => rfl) (by omega) 0
  have HP3 := Aside0.mk (show PGL w3 w.heap.size kind L from ⟨by rw [← hcl]; exact hp3, hc⟩)
  have HB3 := Aside0.mk (BelX.below ((Below.refl _ _).alloc (Nat.le_refl _) _) (by simp) (Nat.le_refl _) (hb2.trans hb3))
  clear hP hp2 hb2 hp3 hb3 hcl
  have HBy := Aside0.mk (show Calls Try.prog 12 #[.pointer (some ⟨w.heap.size, 0, none⟩)] w3 fun e w' => e = .returned (.string s) ∧ Below w3.heap.size w3 w' from by have := Bytes_pg HP3.out.pg; rwa [← hse] at this)
  have hs0 : (((s[0]'(by omega)).toNat : Int) == 0) = false := by
    subst hse
    rw [bytesR_first kind L (by omega)]
    refine beq_eq_false_iff_ne.2 fun e => hk (UInt8.toNat_inj.1 (by simpa using e))
  have HSL := Aside0.mk hc
  have hsh := HP3.out.short
  have hft : 2 * L.length + total L ≤ 248 := hc.fits
  have du : decide (256 < (total L : Int)) = false := decide_eq_false (by omega)
  have du' : decide (256 < total L) = false := decide_eq_false (by omega)
  have dr : decide (248 - 2 * (L.length : Int) - (total L : Int) < 0) = false := decide_eq_false (by omega)
  have HH : Aside0 (zero58.size = 257) := ⟨zero58_size⟩
  clear hc hk hel hse
  go_enter Try.func13, Try.ntmps13
  go_wp2_with fail
  refine HBy.out.mono ?_; rintro e w4 ⟨rfl, hb4⟩
  have HP4 := Aside0.mk (HP3.out.below hb4)
  have HB4 := Aside0.mk (below_step HB3.out hb4)
  clear hb4 HP3 HB3 HBy
  go_wp2_with fail
  refine (used_L HP4.out).mono ?_; rintro e w5 ⟨rfl, hb5⟩
  have HP5 := Aside0.mk (HP4.out.below hb5)
  have HB5 := Aside0.mk (below_step HB4.out hb5)
  clear hb5 HP4 HB4
  go_wp2_with fail
  refine (room_L HP5.out).mono ?_; rintro e w6 ⟨rfl, hb6⟩
  have HP6 := Aside0.mk (HP5.out.below hb6)
  have HB6 := Aside0.mk (below_step HB5.out hb6)
  clear hb6 HP5 HB5
  go_wp2_with fail
  refine (Len_L HP6.out).mono ?_; rintro e w6a ⟨rfl, rfl⟩
  go_wp2_with fail
  refine (Len_L HP6.out).mono ?_; rintro e w6b ⟨rfl, rfl⟩
  have HF6 := Aside0.mk (show Calls Try.prog 36 #[.pointer (some ⟨w.heap.size, 0, none⟩), .int .i64 ((L.length : Int) - 1)] w6b fun e w' => e = .returned (.int .i64 (256 - (total L : Int))) ∧ w' = w6b from by
    have h1 := from_any HP6.out.pg ((L.length : Int) - 1) (by omega)
    have h2 := enc_fromB kind L HSL.out L.length (Nat.le_refl _)
    rw [List.take_length] at h2
    rwa [h2, show ((256 - total L : Nat) : Int) = 256 - (total L : Int) from by omega] at h1)
  go_wp2_with fail
  refine HF6.out.mono ?_; rintro e w6c ⟨rfl, rfl⟩
  clear HF6
  go_wp2_with fail
  refine (used_L HP6.out).mono ?_; rintro e w7 ⟨rfl, hb7⟩
  have HP7 := Aside0.mk (HP6.out.below hb7)
  have HB7 := Aside0.mk (below_step HB6.out hb7)
  clear hb7 HP6 HB6
  go_wp2_with fail
  clear du du' dr hcp hcl3 hs0 hz hzs hst
  go_loopw [6] (fun v wr => ∃ k : Nat, v = .int .i64 (k : Int) ∧ Aside0 (8 + 2 * L.length ≤ k ∧ k ≤ 256 - total L) ∧ Aside0 (PGL wr w.heap.size kind L) ∧ Aside0 (Below w.heap.size w wr)) (fun v _ => 256 - (Lib.intOf v).toNat)
  case atStart => exact ⟨8 + 2 * L.length, by rw [show ((8 + 2 * L.length : Nat) : Int) = 8 + 2 * (L.length : Int) from by omega], ⟨by omega⟩, HP7, HB7⟩
  case round =>
    clear HP7 HB7
    obtain ⟨k, rfl, hM, HA, HB⟩ := hrel
    have hM1 := hM.out
    by_cases hlt : k < 256 - total L
    · have d1 : decide ((k : Int) < 256 - (total L : Int)) = true := decide_eq_true (by omega)
      have hz := enc_zeros kind L HSL.out.fits k hM1.1 hlt
      have HI := Aside0.mk (show k < 256 ∧ k + 1 = k + 1 ∧ k < 256 - total L from by omega)
      have h3 : (k < 256) = True := eq_true (by omega)
      have h4 : ((k : Int) < 256) = True := eq_true (by omega)
      have hkb : k ≤ 255 := by omega
      clear hlt hM1
      go_wp2_with fail
      refine (used_L HA.out).mono ?_; rintro e w8 ⟨rfl, hb8⟩
      have HA8 := Aside0.mk (HA.out.below hb8)
      have HB8 := Aside0.mk (below_step HB.out hb8)
      have hcell := HA8.out.pg.cell k HI.out.1
      rw [hz] at hcell
      clear hb8 HA HB
      go_wp2
      have q : (k : Int) + 1 = ((k + 1 : Nat) : Int) := by omega
      go_roundw
      case rel => exact ⟨k + 1, by rw [q], ⟨by have h1 := HI.out; have h2 := hM.out; omega⟩, HA8, HB8⟩
      case measure => rw [q]; exact up_lt _ _ _ rfl HI.out.1
    · have hk : k = 256 - total L := by omega
      have d1 : decide ((k : Int) < 256 - (total L : Int)) = false := decide_eq_false (by omega)
      clear hlt hM1 hk
      go_wp2_with fail
      refine (used_L HA.out).mono ?_; rintro e w8 ⟨rfl, hb8⟩
      have HA8 := Aside0.mk (HA.out.below hb8)
      have HB8 := Aside0.mk (below_step HB.out hb8)
      clear hb8 HA HB
      go_wp2_with fail
      refine (Len_L HA8.out).mono ?_; rintro e w9 ⟨rfl, rfl⟩
      go_wp2_with fail
      obtain ⟨wo, hwo⟩ : ∃ wo : World, wr = wo := ⟨_, rfl⟩
      clear hM d1
      go_loopw [7, 78] (fun v7 v78 wr => ∃ k : Nat, v78 = .int .i64 (k : Int) ∧ v7 = .string (lastK (L.take k)) ∧ Aside0 (k ≤ L.length) ∧ Aside0 (PGL wr w.heap.size kind L) ∧ Aside0 (Below w.heap.size w wr)) (fun _ v _ => L.length - (Lib.intOf v).toNat)
      case atStart => exact ⟨0, rfl, rfl, ⟨by omega⟩, HA8, HB8⟩
      case round =>
        clear HA8 HB8
        obtain ⟨k, rfl, rfl, hM, HA, HB⟩ := hrel
        by_cases hlt : k < L.length
        · have d1 : decide ((k : Int) < (L.length : Int)) = true := decide_eq_true (by omega)
          have d2 : decide (k < L.length) = true := decide_eq_true hlt
          have e1 := enc_fromB' kind L HSL.out k hlt
          have e2 := enc_fromB kind L HSL.out k (by omega)
          have e3 := (enc_from kind L HSL.out k hlt).2
          have ht := total_take_succ L k hlt
          have hle := total_take_le L (k + 1)
          have hce := HSL.out.each L[k] (List.getElem_mem hlt)
          have hord : k ≠ 0 → Op.bytesLess (lastK (L.take k)).toList L[k].f0.toList = true := fun h0 => by
            have h1 := asc_lt HSL.out.asc (k - 1) k (by omega) hlt (by omega)
            have h2 : lastK (L.take k) = (L[k - 1]'(by omega)).f0 := by
              unfold lastK
              rw [List.getLast?_take, if_neg h0, List.getElem?_eq_getElem (by omega)]; rfl
            rw [h2]; exact h1
          have hlast : lastK (L.take (k + 1)) = L[k].f0 := by
            unfold lastK
            rw [List.getLast?_take, if_neg (by omega), Nat.add_sub_cancel, List.getElem?_eq_getElem hlt]; rfl
          have HL1 := Aside0.mk hlast
          have hmay : mayB L[k].f0 L[k].f1 = true := decide_eq_true hce
          obtain ⟨f, hf⟩ : ∃ f, 256 - total (L.take (k + 1)) = f := ⟨_, rfl⟩
          obtain ⟨en, hen⟩ : ∃ en, 256 - total (L.take k) = en := ⟨_, rfl⟩
          obtain ⟨c, hcc⟩ : ∃ c, L[k] = c := ⟨_, rfl⟩
          rw [hf] at e1
          rw [hen] at e2
          rw [hcc] at hce ht e3 hmay hord HL1
          unfold cz at ht
          have HF := Aside0.mk (show Calls Try.prog 36 #[.pointer (some ⟨w.heap.size, 0, none⟩), .int .i64 (k : Int)] wr fun x w' => x = .returned (.int .i64 (f : Int)) ∧ w' = wr from by have := from_any HA.out.pg (k : Int) (by omega); rwa [e1] at this)
          have HE := Aside0.mk (show Calls Try.prog 36 #[.pointer (some ⟨w.heap.size, 0, none⟩), .int .i64 ((k : Int) - 1)] wr fun x w' => x = .returned (.int .i64 (en : Int)) ∧ w' = wr from by have := from_any HA.out.pg ((k : Int) - 1) (by omega); rwa [e2] at this)
          have HK := Aside0.mk (show Calls Try.prog 37 #[.pointer (some ⟨w.heap.size, 0, none⟩), .int .i64 (k : Int)] wr fun x w' => x = .returned (.int .i64 (c.f0.size : Int)) ∧ w' = wr from by have := keyed_pg HA.out.pg (k : Int) (9 + 2 * k) (by omega) (by omega) (by omega); rwa [e3] at this)
          have HAt := Aside0.mk (show Calls Try.prog 19 #[.pointer (some ⟨w.heap.size, 0, none⟩), .int .i64 (k : Int)] wr fun x w' => x = .returned (.tuple #[.string c.f0, .string c.f1]) ∧ Below wr.heap.size wr w' from by have := At_cell HA.out k hlt; rwa [hcc] at this)
          have dA : decide ((en : Int) ≤ (f : Int)) = false := decide_eq_false (by omega)
          have dA' : decide (en ≤ f) = false := decide_eq_false (by omega)
          have dB : decide ((f : Int) < 8 + 2 * (L.length : Int)) = false := decide_eq_false (by omega)
          have dC : decide ((en : Int) - (f : Int) < (c.f0.size : Int)) = false := decide_eq_false (by omega)
          have HLT := Aside0.mk (And.intro hlt (show f ≤ 256 ∧ en ≤ 256 ∧ f ≤ en from by omega))
          have HMay := Aside0.mk hmay
          have hb1 : en ≤ 256 := by omega
          have hb2 : f ≤ en := by omega
          have hb3 : k ≤ 124 := by omega
          clear e1 e2 e3 ht hle hce hlast hf hen hcc hmay hlt
          by_cases h0 : k = 0
          all_goals
            first
              | (have dK : decide (0 < k) = false := decide_eq_false (by omega)
                 have dK' : decide (0 < (k : Int)) = false := decide_eq_false (by omega)
                 clear hord)
              | (have dK : decide (0 < k) = true := decide_eq_true (by omega)
                 have dK' : decide (0 < (k : Int)) = true := decide_eq_true (by omega)
                 have hord1 := less_asymm (hord h0)
                 have hord2 : (c.f0.toList == (lastK (L.take k)).toList) = false := beq_eq_false_iff_ne.2 (fun e => by have := hord h0; rw [e, less_irrefl] at this; cases this)
                 clear hord)
            clear h0
            go_wp2_with fail
            refine HF.out.mono ?_; rintro e wA ⟨rfl, rfl⟩
            go_wp2_with fail
            refine HE.out.mono ?_; rintro e wB ⟨rfl, rfl⟩
            go_wp2_with fail
            refine HK.out.mono ?_; rintro e wC ⟨rfl, rfl⟩
            go_wp2_with fail
            refine HAt.out.mono ?_; rintro e w10 ⟨rfl, hb10⟩
            have HA10 := Aside0.mk (HA.out.below hb10)
            have HB10 := Aside0.mk (below_step HB.out hb10)
            clear hb10 HA HB HF HE HK HAt
            go_wp2_with fail
            refine (page_cell.calls c.f0 c.f1 true _ (by rw [cell_f, HMay.out])).mono ?_; rintro e w11 ⟨rfl, ⟨nd, rfl⟩⟩
            have HA11 := Aside0.mk (HA10.out.drewN nd)
            have HB11 := Aside0.mk (pw_below_drewN HB10.out nd)
            clear HA10 HB10
            go_wp2
            have q : (k : Int) + 1 = ((k + 1 : Nat) : Int) := by omega
            go_roundw
            case rel => exact ⟨k + 1, by rw [q], by rw [HL1.out], ⟨HLT.out.1⟩, HA11, HB11⟩
            case measure => rw [q]; exact up_lt _ _ _ rfl HLT.out.1
        · have d1 : decide ((k : Int) < (L.length : Int)) = false := decide_eq_false (by omega)
          have d2 : decide (k < L.length) = false := decide_eq_false hlt
          clear hlt
          go_wp2_with fail
          exact bodyPost_ret (results_tmp2 rfl _ _ _) rfl ⟨_, rfl, Nat.le_refl _, HA.out, HB.out⟩
end Go.Proofs.Ytinbppcfdmbclaa.Pg

/-! What must come of a page whatever the arguments are (awake), walked: it answers true. No condition. -/
namespace Go.Proofs.Ytinbppcfdmbclaa.Pg
open Go.RowKit Go.Proofs.YtinbppcfdmbclaaW.PrintWords Go.Proofs.YtinbppcfdmbclaaW.PrintLast Go.Proofs.YtinbppcfdmbclaaW.PrintMore
set_option linter.unusedVariables false
set_option linter.unusedSimpArgs false
def aA : ByteArray := ⟨#[97]⟩
def aB : ByteArray := ⟨#[98]⟩
def a1 : ByteArray := ⟨#[49]⟩
def a2 : ByteArray := ⟨#[50]⟩
theorem aw1 : putR [] aB a1 = (0, [⟨aB, a1⟩]) := by kernel_rfl
theorem aw2 : putR [⟨aB, a1⟩] aA a2 = (0, [⟨aA, a2⟩, ⟨aB, a1⟩]) := by kernel_rfl
theorem aw3 : fN [⟨aA, a2⟩, ⟨aB, a1⟩] aB = 1 := by kernel_rfl
theorem aw4 : there [⟨aA, a2⟩, ⟨aB, a1⟩] aB = true := by kernel_rfl
theorem aw5 : dropR [⟨aA, a2⟩, ⟨aB, a1⟩] aB = (0, [⟨aA, a2⟩]) := by kernel_rfl
theorem one_ne : by_ 1 ≠ 0 := by decide
set_option maxRecDepth 100000 in
set_option maxHeartbeats 4000000 in
theorem awake_ok (w : World) : Calls Try.prog 10 #[] w fun e w' => e = .returned (.bool true) ∧ Below w.heap.size w w' := by
  have HN := Aside0.mk (New_ok w 1 (by omega) (by omega))
  go_enter Try.func10, Try.ntmps10
  go_wp2_with fail
  refine HN.out.mono ?_; rintro e w1 ⟨g, rfl, hg, hp1, hb1⟩
  have H1 := Aside0.mk hp1
  have B1 := Aside0.mk hb1
  have HG := Aside0.mk hg
  clear hp1 hb1 hg HN
  go_wp2_with fail
  refine (show Calls Try.prog 18 #[.pointer (some ⟨g, 0, none⟩), .string ⟨#[98]⟩, .string ⟨#[49]⟩] w1 fun e w' => e = .returned (.int .i64 0) ∧ PGL w' g (by_ 1) [⟨aB, a1⟩] ∧ BelX g w1 w' from by have := Put_any H1.out aB a1; rw [aw1] at this; exact this).mono ?_; rintro e w2 ⟨rfl, hp2, hb2⟩
  have H2 := Aside0.mk hp2
  have B2 := Aside0.mk (BelX.below B1.out (Nat.le_trans HG.out (Nat.le_of_lt H1.out.pg.lt)) HG.out hb2)
  clear hp2 hb2 H1 B1
  go_wp2_with fail
  refine (show Calls Try.prog 18 #[.pointer (some ⟨g, 0, none⟩), .string ⟨#[97]⟩, .string ⟨#[50]⟩] w2 fun e w' => e = .returned (.int .i64 0) ∧ PGL w' g (by_ 1) [⟨aA, a2⟩, ⟨aB, a1⟩] ∧ BelX g w2 w' from by have := Put_any H2.out aA a2; rw [aw2] at this; exact this).mono ?_; rintro e w3 ⟨rfl, hp3, hb3⟩
  have H3 := Aside0.mk hp3
  have B3 := Aside0.mk (BelX.below B2.out (Nat.le_trans HG.out (Nat.le_of_lt H2.out.pg.lt)) HG.out hb3)
  clear hp3 hb3 H2 B2
  go_wp2_with fail
  refine (show Calls Try.prog 19 #[.pointer (some ⟨g, 0, none⟩), .int .i64 0] w3 fun e w' => e = .returned (.tuple #[.string ⟨#[97]⟩, .string ⟨#[50]⟩]) ∧ Below w3.heap.size w3 w' from At_first H3.out).mono ?_; rintro e w4 ⟨rfl, hb4⟩
  have H4 := Aside0.mk (H3.out.below hb4)
  have B4 := Aside0.mk (below_step B3.out hb4)
  clear hb4 H3 B3
  go_wp2_with fail
  obtain ⟨s, hs⟩ : ∃ s, bytesR (encB (by_ 1) [⟨aA, a2⟩, ⟨aB, a1⟩]) = s := ⟨_, rfl⟩
  have HS := Aside0.mk hs
  have hsz : s.size = 256 := by rw [← hs]; exact bytesR_size _ H4.out.pg.len
  refine (show Calls Try.prog 12 #[.pointer (some ⟨g, 0, none⟩)] w4 fun e w' => e = .returned (.string s) ∧ Below w4.heap.size w4 w' from by have := Bytes_pg H4.out.pg; rwa [hs] at this).mono ?_; rintro e w5 ⟨rfl, hb5⟩
  have H5 := Aside0.mk (H4.out.below hb5)
  have B5 := Aside0.mk (below_step B4.out hb5)
  clear hb5 H4 B4 hs
  go_wp2_with fail
  refine (Read_yes (by_ 1) _ one_ne H5.out.cells s HS.out.symm).mono ?_; rintro e w6 ⟨g2, rfl, hg2, hp6, hb6⟩
  have H6 := Aside0.mk (And.intro (H5.out.below hb6) hp6)
  have B6 := Aside0.mk (below_step B5.out hb6)
  have HG2 := Aside0.mk (show g2 ≠ g from by have := H5.out.pg.lt; omega)
  clear hg2 hp6 hb6 H5 B5
  go_wp2_with fail
  refine (Len_L H6.out.2).mono ?_; rintro e wA ⟨rfl, rfl⟩
  go_wp2_with fail
  refine (show Calls Try.prog 12 #[.pointer (some ⟨g, 0, none⟩)] wA fun e w' => e = .returned (.string s) ∧ Below wA.heap.size wA w' from by have := Bytes_pg H6.out.1.pg; rwa [HS.out] at this).mono ?_; rintro e w7 ⟨rfl, hb7⟩
  have H7 := Aside0.mk (And.intro (H6.out.1.below hb7) (H6.out.2.below hb7))
  have B7 := Aside0.mk (below_step B6.out hb7)
  clear hb7 H6 B6
  go_wp2_with fail
  refine (show Calls Try.prog 26 #[.pointer (some ⟨g2, 0, none⟩), .string ⟨#[98]⟩] w7 fun e w' => e = .returned (.tuple #[.int .i64 1, .bool true]) ∧ Below w7.heap.size w7 w' from by have := Find_pg H7.out.2 aB; rw [aw3, aw4] at this; exact this).mono ?_; rintro e w8 ⟨rfl, hb8⟩
  have H8 := Aside0.mk (And.intro (H7.out.1.below hb8) (H7.out.2.below hb8))
  have B8 := Aside0.mk (below_step B7.out hb8)
  clear hb8 H7 B7
  go_wp2_with fail
  refine (show Calls Try.prog 20 #[.pointer (some ⟨g, 0, none⟩), .string ⟨#[98]⟩] w8 fun e w' => e = .returned (.int .i64 0) ∧ PGL w' g (by_ 1) [⟨aA, a2⟩] ∧ BelX g w8 w' from by have := Drop_any H8.out.1 aB; rw [aw5] at this; exact this).mono ?_; rintro e w9 ⟨rfl, hp9, hb9⟩
  have H9 := Aside0.mk (And.intro hp9 (H8.out.2.belX hb9 HG2.out))
  have B9 := Aside0.mk (BelX.below B8.out (Nat.le_trans HG.out (Nat.le_of_lt H8.out.1.pg.lt)) HG.out hb9)
  clear hp9 hb9 H8 B8
  go_wp2_with fail
  refine (Len_L H9.out.1).mono ?_; rintro e wB ⟨rfl, rfl⟩
  go_wp2_with fail
  refine (Len_L H9.out.2).mono ?_; rintro e wC ⟨rfl, rfl⟩
  go_wp2_with fail
  refine (Kind_L H9.out.2).mono ?_; rintro e wD ⟨rfl, rfl⟩
  go_wp2_with fail
  go_ret
  exact ⟨rfl, B9.out⟩
end Go.Proofs.Ytinbppcfdmbclaa.Pg

/-! A page that nobody made, walked: each call answers nothing. Condition: 'given' answers no. -/
namespace Go.Proofs.Ytinbppcfdmbclaa.Pg
open Go.RowKit Go.Proofs.YtinbppcfdmbclaaW.PrintWords Go.Proofs.YtinbppcfdmbclaaW.PrintLast Go.Proofs.YtinbppcfdmbclaaW.PrintMore
set_option linter.unusedVariables false
set_option linter.unusedSimpArgs false
/-- nobody made this page -/
structure NG (w : World) (p : Value) : Prop where
  out : Calls Try.prog 31 #[p] w fun e w' => e = .returned (.bool false) ∧ w' = w
theorem NG.nil (w : World) : NG w (.pointer none) := ⟨given_nil w⟩
set_option maxHeartbeats 4000000 in
theorem NG.zero {w : World} {g : Nat} (h : w.cell? ⟨g, 256, none⟩ = some (.bool false)) : NG w (.pointer (some ⟨g, 0, none⟩)) := by
  refine ⟨?_⟩
  go_enter Try.func31, Try.ntmps31
  go_wp2
  go_ret
  exact ⟨rfl, rfl⟩
set_option maxHeartbeats 4000000 in
theorem Kind_no {w : World} {p : Value} (h : NG w p) : Calls Try.prog 27 #[p] w fun e w' => e = .returned (.int .i64 0) ∧ w' = w := by
  go_enter Try.func27, Try.ntmps27
  go_wp2_with (go_at_call 31; refine h.out.mono ?_; rintro e w' ⟨rfl, rfl⟩)
  go_ret
  exact ⟨rfl, rfl⟩
set_option maxHeartbeats 4000000 in
theorem Len_no {w : World} {p : Value} (h : NG w p) : Calls Try.prog 21 #[p] w fun e w' => e = .returned (.int .i64 0) ∧ w' = w := by
  go_enter Try.func21, Try.ntmps21
  go_wp2_with (go_at_call 31; refine h.out.mono ?_; rintro e w' ⟨rfl, rfl⟩)
  go_ret
  exact ⟨rfl, rfl⟩
set_option maxHeartbeats 4000000 in
theorem Free_no {w : World} {p : Value} (h : NG w p) : Calls Try.prog 17 #[p] w fun e w' => e = .returned (.int .i64 0) ∧ w' = w := by
  go_enter Try.func17, Try.ntmps17
  go_wp2_with (go_at_call 31; refine h.out.mono ?_; rintro e w' ⟨rfl, rfl⟩)
  go_ret
  exact ⟨rfl, rfl⟩
set_option maxHeartbeats 4000000 in
theorem Bytes_no {w : World} {p : Value} (h : NG w p) : Calls Try.prog 12 #[p] w fun e w' => e = .returned (.string ⟨#[]⟩) ∧ w' = w := by
  go_enter Try.func12, Try.ntmps12
  go_wp2_with (go_at_call 31; refine h.out.mono ?_; rintro e w' ⟨rfl, rfl⟩)
  go_ret
  exact ⟨rfl, rfl⟩
set_option maxHeartbeats 4000000 in
theorem Copy_no {w : World} {p : Value} (h : NG w p) : Calls Try.prog 28 #[p] w fun e w' => e = .returned (.pointer none) ∧ w' = w := by
  go_enter Try.func28, Try.ntmps28
  go_wp2_with (go_at_call 31; refine h.out.mono ?_; rintro e w' ⟨rfl, rfl⟩)
  go_ret
  exact ⟨rfl, rfl⟩
set_option maxHeartbeats 4000000 in
theorem Put_no {w : World} {p : Value} (h : NG w p) (key value : ByteArray) : Calls Try.prog 18 #[p, .string key, .string value] w fun e w' => e = .returned (.int .i64 1) ∧ w' = w := by
  go_enter Try.func18, Try.ntmps18
  go_wp2_with (go_at_call 31; refine h.out.mono ?_; rintro e w' ⟨rfl, rfl⟩)
  go_ret
  exact ⟨rfl, rfl⟩
set_option maxHeartbeats 4000000 in
theorem Drop_no {w : World} {p : Value} (h : NG w p) (key : ByteArray) : Calls Try.prog 20 #[p, .string key] w fun e w' => e = .returned (.int .i64 1) ∧ w' = w := by
  go_enter Try.func20, Try.ntmps20
  go_wp2_with (go_at_call 31; refine h.out.mono ?_; rintro e w' ⟨rfl, rfl⟩)
  go_ret
  exact ⟨rfl, rfl⟩
set_option maxHeartbeats 4000000 in
theorem Join_no {w : World} {p q : Value} (h : NG w p) : Calls Try.prog 23 #[p, q] w fun e w' => e = .returned (.int .i64 1) ∧ w' = w := by
  go_enter Try.func23, Try.ntmps23
  go_wp2_with (go_at_call 31; refine h.out.mono ?_; rintro e w' ⟨rfl, rfl⟩)
  go_ret
  exact ⟨rfl, rfl⟩
set_option maxHeartbeats 4000000 in
theorem Join_nil {w : World} {g : Nat} {kind : UInt8} {L : List S66} (h : PGL w g kind L) : Calls Try.prog 23 #[.pointer (some ⟨g, 0, none⟩), .pointer none] w fun e w' => e = .returned (.int .i64 1) ∧ w' = w := by
  have HG := Aside0.mk (given_pg h.pg)
  clear h
  go_enter Try.func23, Try.ntmps23
  go_wp2_with fail
  refine HG.out.mono ?_; rintro e w' ⟨rfl, rfl⟩
  go_wp2_with fail
  refine (given_nil _).mono ?_; rintro e w' ⟨rfl, rfl⟩
  go_wp2_with fail
  go_ret
  exact ⟨rfl, rfl⟩
set_option maxHeartbeats 4000000 in
theorem Split_no {w : World} {p : Value} (h : NG w p) (k : Int) : Calls Try.prog 22 #[p, .int .i64 k] w fun e w' => e = .returned (.tuple #[.pointer none, .int .i64 1]) ∧ w' = w := by
  go_enter Try.func22, Try.ntmps22
  go_wp2_with (go_at_call 31; refine h.out.mono ?_; rintro e w' ⟨rfl, rfl⟩)
  exact bodyPost_ret (results_tmp2 rfl _ _ _) rfl ⟨rfl, rfl⟩
set_option maxHeartbeats 4000000 in
theorem At_no {w : World} {p : Value} (h : NG w p) (k : Int) : Calls Try.prog 19 #[p, .int .i64 k] w fun e w' => e = .returned (.tuple #[.string ⟨#[]⟩, .string ⟨#[]⟩]) ∧ w' = w := by
  by_cases h0 : k < 0
  · have c0 : decide (k < 0) = true := decide_eq_true h0
    go_enter Try.func19, Try.ntmps19
    go_wp2_with (go_at_call 21; refine (Len_no h).mono ?_; rintro e w' ⟨rfl, rfl⟩)
    exact bodyPost_ret (results_tmp2 rfl _ _ _) rfl ⟨rfl, rfl⟩
  · have c0 : decide (k < 0) = false := decide_eq_false h0
    have c1 : decide (0 ≤ k) = true := decide_eq_true (by omega)
    clear h0
    go_enter Try.func19, Try.ntmps19
    go_wp2_with (go_at_call 21; refine (Len_no h).mono ?_; rintro e w' ⟨rfl, rfl⟩)
    exact bodyPost_ret (results_tmp2 rfl _ _ _) rfl ⟨rfl, rfl⟩
set_option maxHeartbeats 4000000 in
theorem Find_no {w : World} {p : Value} (h : NG w p) (key : ByteArray) : Calls Try.prog 26 #[p, .string key] w fun e w' => e = .returned (.tuple #[.int .i64 0, .bool false]) ∧ w' = w := by
  go_enter Try.func26, Try.ntmps26
  go_wp2_with (go_at_call 21; refine (Len_no h).mono ?_; rintro e w' ⟨rfl, rfl⟩)
  refine wp_loop_rounds 1 ?_
  rw [rounds_succ]
  go_wp2
  exact bodyPost_ret (results_tmp2 rfl _ _ _) rfl ⟨rfl, rfl⟩
end Go.Proofs.Ytinbppcfdmbclaa.Pg

/-! A page that nobody made answers nothing, and copies go their own way (PageNobody): walked, it answers true. No condition. -/
namespace Go.Proofs.Ytinbppcfdmbclaa.Pg
open Go.RowKit Go.Proofs.YtinbppcfdmbclaaW.PrintWords Go.Proofs.YtinbppcfdmbclaaW.PrintLast Go.Proofs.YtinbppcfdmbclaaW.PrintMore
set_option linter.unusedVariables false
set_option linter.unusedSimpArgs false
theorem zero58_cell : zero58[256]? = some (.bool false) := by
  have h : ∀ l : List UInt8, l.length = 256 → (l.map u8 ++ [Value.bool false]).toArray[256]? = some (.bool false) := fun l hl => by
    simp [hl]
  exact h _ List.length_replicate
theorem put_first (key value : ByteArray) : putR [] key value = if mayB key value = true then (0, [⟨key, value⟩]) else (1, []) := by
  unfold putR
  by_cases h : mayB key value = true
  · have hf : Fits (insL [] key value) := by
      have := of_decide_eq_true h
      show 2 * 1 + (key.size + value.size + 0) ≤ 248
      omega
    rw [if_pos h, if_pos h, if_pos hf]; rfl
  · rw [if_neg h, if_neg h]
set_option maxRecDepth 100000 in
set_option maxHeartbeats 4000000 in
theorem Nobody_ok (w : World) (key value : ByteArray) (k : Int) : Calls Try.prog 8 #[.string key, .string value, .int .i64 k] w fun e w' => e = .returned (.bool true) ∧ Below w.heap.size w w' := by
  by_cases h1 : key.size ≤ 80 ∧ value.size ≤ 20
  · obtain ⟨h1, h2⟩ := h1
    have d1 : decide (80 < (key.size : Int)) = false := decide_eq_false (by omega)
    have d1' : decide (80 < key.size) = false := decide_eq_false (by omega)
    have d2 : decide (20 < (value.size : Int)) = false := decide_eq_false (by omega)
    have d2' : decide (20 < value.size) = false := decide_eq_false (by omega)
    have hz := zero58_run w
    have HNg := Aside0.mk (fun (o : Obj) => NG.zero (show ((w.alloc (.cells zero58 58)).alloc o).cell? ⟨w.heap.size, 256, none⟩ = some (.bool false) from by
      rw [cell_of_row _ _ _ zero58 58 (0, 0) (heap_alloc2_old _ _ _)]; exact zero58_cell))
    have HB0 := Aside0.mk (fun (o : Obj) => show Below w.heap.size w ((w.alloc (.cells zero58 58)).alloc o) from ((Below.refl _ _).alloc (Nat.le_refl _) _).alloc (by simp) _)
    have HMay := Aside0.mk (put_first key value)
    cases hm : mayB key value with
    | false =>
      rw [hm] at HMay
      have HM := Aside0.mk hm
      clear hm
      go_enter Try.func8, Try.ntmps8
      go_wp2
      refine wp_loop_rounds 3 ?_
      rw [rounds_succ]
      go_wp2_with (first | (go_at_call 19; ((with_reducible refine (At_no (NG.nil _) _).mono ?_); rintro e w' ⟨rfl, rfl⟩)) | (go_at_call 26; ((with_reducible refine (Find_no (NG.nil _) _).mono ?_); rintro e w' ⟨rfl, rfl⟩)) | (go_at_call 22; ((with_reducible refine (Split_no (NG.nil _) _).mono ?_); rintro e w' ⟨rfl, rfl⟩)) | (go_at_call 12; ((with_reducible refine (Bytes_no (NG.nil _)).mono ?_); rintro e w' ⟨rfl, rfl⟩)) | (go_at_call 27; ((with_reducible refine (Kind_no (NG.nil _)).mono ?_); rintro e w' ⟨rfl, rfl⟩)) | (go_at_call 21; ((with_reducible refine (Len_no (NG.nil _)).mono ?_); rintro e w' ⟨rfl, rfl⟩)) | (go_at_call 17; ((with_reducible refine (Free_no (NG.nil _)).mono ?_); rintro e w' ⟨rfl, rfl⟩)) | (go_at_call 18; ((with_reducible refine (Put_no (NG.nil _) _ _).mono ?_); rintro e w' ⟨rfl, rfl⟩)) | (go_at_call 20; ((with_reducible refine (Drop_no (NG.nil _) _).mono ?_); rintro e w' ⟨rfl, rfl⟩)) | (go_at_call 23; ((with_reducible refine (Join_no (NG.nil _)).mono ?_); rintro e w' ⟨rfl, rfl⟩)) | (go_at_call 28; ((with_reducible refine (Copy_no (NG.nil _)).mono ?_); rintro e w' ⟨rfl, rfl⟩)))
      rw [rounds_succ]
      go_wp2_with (first | (go_at_call 19; ((with_reducible refine (At_no (HNg.out _) _).mono ?_); rintro e w' ⟨rfl, rfl⟩)) | (go_at_call 26; ((with_reducible refine (Find_no (HNg.out _) _).mono ?_); rintro e w' ⟨rfl, rfl⟩)) | (go_at_call 22; ((with_reducible refine (Split_no (HNg.out _) _).mono ?_); rintro e w' ⟨rfl, rfl⟩)) | (go_at_call 12; ((with_reducible refine (Bytes_no (HNg.out _)).mono ?_); rintro e w' ⟨rfl, rfl⟩)) | (go_at_call 27; ((with_reducible refine (Kind_no (HNg.out _)).mono ?_); rintro e w' ⟨rfl, rfl⟩)) | (go_at_call 21; ((with_reducible refine (Len_no (HNg.out _)).mono ?_); rintro e w' ⟨rfl, rfl⟩)) | (go_at_call 17; ((with_reducible refine (Free_no (HNg.out _)).mono ?_); rintro e w' ⟨rfl, rfl⟩)) | (go_at_call 18; ((with_reducible refine (Put_no (HNg.out _) _ _).mono ?_); rintro e w' ⟨rfl, rfl⟩)) | (go_at_call 20; ((with_reducible refine (Drop_no (HNg.out _) _).mono ?_); rintro e w' ⟨rfl, rfl⟩)) | (go_at_call 23; ((with_reducible refine (Join_no (HNg.out _)).mono ?_); rintro e w' ⟨rfl, rfl⟩)) | (go_at_call 28; ((with_reducible refine (Copy_no (HNg.out _)).mono ?_); rintro e w' ⟨rfl, rfl⟩)))
      rw [rounds_succ]
      go_wp2_with fail
      refine (New_ok _ 3 (by omega) (by omega)).mono ?_; rintro e w1 ⟨g, rfl, hg, hp1, hb1⟩
      have H1 := Aside0.mk hp1
      have B1 := Aside0.mk (Below.trans (HB0.out _) (hb1.mono (by simp; omega)))
      have HG := Aside0.mk (show w.heap.size ≤ g from by simp at hg; omega)
      clear hp1 hb1 hg HNg HB0
      go_wp2_with fail
      refine (Join_nil H1.out).mono ?_; rintro e w2 ⟨rfl, rfl⟩
      go_wp2_with fail
      refine (Copy_L H1.out).mono ?_; rintro e w3 ⟨g2, rfl, hg2, hp3, hb3⟩
      have H3 := Aside0.mk (And.intro (H1.out.below hb3) hp3)
      have HG2 := Aside0.mk (show g2 ≠ g from by have := H1.out.pg.lt; omega)
      have B3 := Aside0.mk (below_step B1.out hb3)
      clear hp3 hb3 hg2 H1 B1
      go_wp2_with fail
      refine (show Calls Try.prog 18 #[.pointer (some ⟨g, 0, none⟩), .string key, .string value] w3 fun e w' => e = .returned (.int .i64 1) ∧ PGL w' g (by_ 3) [] ∧ BelX g w3 w' from by have := Put_any H3.out.1 key value; rw [HMay.out] at this; exact this).mono ?_; rintro e w4 ⟨rfl, hp4, hb4⟩
      have H4 := Aside0.mk (And.intro hp4 (H3.out.2.belX hb4 HG2.out))
      have B4 := Aside0.mk (BelX.below B3.out (Nat.le_trans HG.out (Nat.le_of_lt H3.out.1.pg.lt)) HG.out hb4)
      clear hp4 hb4 H3 B3
      go_wp2_with fail
      refine (quaysideref12_May.calls key value false _ (by rw [may_f, HM.out])).mono ?_; rintro e w5 ⟨rfl, ⟨nd, rfl⟩⟩
      have H5 := Aside0.mk (And.intro (H4.out.1.drewN nd) (H4.out.2.drewN nd))
      have B5 := Aside0.mk (pw_below_drewN B4.out nd)
      clear H4 B4
      go_wp2_with fail
      refine (Len_L H5.out.2).mono ?_; rintro e wA ⟨rfl, rfl⟩
      go_wp2_with fail
      refine (awake_ok _).mono ?_; rintro e w6 ⟨rfl, hb6⟩
      have B6 := Aside0.mk (below_step B5.out hb6)
      clear hb6 B5 H5
      go_wp2_with fail
      go_ret
      exact ⟨rfl, B6.out⟩
    | true =>
      rw [hm] at HMay
      have HM := Aside0.mk hm
      clear hm
      go_enter Try.func8, Try.ntmps8
      go_wp2
      refine wp_loop_rounds 3 ?_
      rw [rounds_succ]
      go_wp2_with (first | (go_at_call 19; ((with_reducible refine (At_no (NG.nil _) _).mono ?_); rintro e w' ⟨rfl, rfl⟩)) | (go_at_call 26; ((with_reducible refine (Find_no (NG.nil _) _).mono ?_); rintro e w' ⟨rfl, rfl⟩)) | (go_at_call 22; ((with_reducible refine (Split_no (NG.nil _) _).mono ?_); rintro e w' ⟨rfl, rfl⟩)) | (go_at_call 12; ((with_reducible refine (Bytes_no (NG.nil _)).mono ?_); rintro e w' ⟨rfl, rfl⟩)) | (go_at_call 27; ((with_reducible refine (Kind_no (NG.nil _)).mono ?_); rintro e w' ⟨rfl, rfl⟩)) | (go_at_call 21; ((with_reducible refine (Len_no (NG.nil _)).mono ?_); rintro e w' ⟨rfl, rfl⟩)) | (go_at_call 17; ((with_reducible refine (Free_no (NG.nil _)).mono ?_); rintro e w' ⟨rfl, rfl⟩)) | (go_at_call 18; ((with_reducible refine (Put_no (NG.nil _) _ _).mono ?_); rintro e w' ⟨rfl, rfl⟩)) | (go_at_call 20; ((with_reducible refine (Drop_no (NG.nil _) _).mono ?_); rintro e w' ⟨rfl, rfl⟩)) | (go_at_call 23; ((with_reducible refine (Join_no (NG.nil _)).mono ?_); rintro e w' ⟨rfl, rfl⟩)) | (go_at_call 28; ((with_reducible refine (Copy_no (NG.nil _)).mono ?_); rintro e w' ⟨rfl, rfl⟩)))
      rw [rounds_succ]
      go_wp2_with (first | (go_at_call 19; ((with_reducible refine (At_no (HNg.out _) _).mono ?_); rintro e w' ⟨rfl, rfl⟩)) | (go_at_call 26; ((with_reducible refine (Find_no (HNg.out _) _).mono ?_); rintro e w' ⟨rfl, rfl⟩)) | (go_at_call 22; ((with_reducible refine (Split_no (HNg.out _) _).mono ?_); rintro e w' ⟨rfl, rfl⟩)) | (go_at_call 12; ((with_reducible refine (Bytes_no (HNg.out _)).mono ?_); rintro e w' ⟨rfl, rfl⟩)) | (go_at_call 27; ((with_reducible refine (Kind_no (HNg.out _)).mono ?_); rintro e w' ⟨rfl, rfl⟩)) | (go_at_call 21; ((with_reducible refine (Len_no (HNg.out _)).mono ?_); rintro e w' ⟨rfl, rfl⟩)) | (go_at_call 17; ((with_reducible refine (Free_no (HNg.out _)).mono ?_); rintro e w' ⟨rfl, rfl⟩)) | (go_at_call 18; ((with_reducible refine (Put_no (HNg.out _) _ _).mono ?_); rintro e w' ⟨rfl, rfl⟩)) | (go_at_call 20; ((with_reducible refine (Drop_no (HNg.out _) _).mono ?_); rintro e w' ⟨rfl, rfl⟩)) | (go_at_call 23; ((with_reducible refine (Join_no (HNg.out _)).mono ?_); rintro e w' ⟨rfl, rfl⟩)) | (go_at_call 28; ((with_reducible refine (Copy_no (HNg.out _)).mono ?_); rintro e w' ⟨rfl, rfl⟩)))
      rw [rounds_succ]
      go_wp2_with fail
      refine (New_ok _ 3 (by omega) (by omega)).mono ?_; rintro e w1 ⟨g, rfl, hg, hp1, hb1⟩
      have H1 := Aside0.mk hp1
      have B1 := Aside0.mk (Below.trans (HB0.out _) (hb1.mono (by simp; omega)))
      have HG := Aside0.mk (show w.heap.size ≤ g from by simp at hg; omega)
      clear hp1 hb1 hg HNg HB0
      go_wp2_with fail
      refine (Join_nil H1.out).mono ?_; rintro e w2 ⟨rfl, rfl⟩
      go_wp2_with fail
      refine (Copy_L H1.out).mono ?_; rintro e w3 ⟨g2, rfl, hg2, hp3, hb3⟩
      have H3 := Aside0.mk (And.intro (H1.out.below hb3) hp3)
      have HG2 := Aside0.mk (show g2 ≠ g from by have := H1.out.pg.lt; omega)
      have B3 := Aside0.mk (below_step B1.out hb3)
      clear hp3 hb3 hg2 H1 B1
      go_wp2_with fail
      refine (show Calls Try.prog 18 #[.pointer (some ⟨g, 0, none⟩), .string key, .string value] w3 fun e w' => e = .returned (.int .i64 0) ∧ PGL w' g (by_ 3) [⟨key, value⟩] ∧ BelX g w3 w' from by have := Put_any H3.out.1 key value; rw [HMay.out] at this; exact this).mono ?_; rintro e w4 ⟨rfl, hp4, hb4⟩
      have H4 := Aside0.mk (And.intro hp4 (H3.out.2.belX hb4 HG2.out))
      have B4 := Aside0.mk (BelX.below B3.out (Nat.le_trans HG.out (Nat.le_of_lt H3.out.1.pg.lt)) HG.out hb4)
      clear hp4 hb4 H3 B3
      go_wp2_with fail
      refine (quaysideref12_May.calls key value true _ (by rw [may_f, HM.out])).mono ?_; rintro e w5 ⟨rfl, ⟨nd, rfl⟩⟩
      have H5 := Aside0.mk (And.intro (H4.out.1.drewN nd) (H4.out.2.drewN nd))
      have B5 := Aside0.mk (pw_below_drewN B4.out nd)
      clear H4 B4
      go_wp2_with fail
      refine (Len_L H5.out.2).mono ?_; rintro e wA ⟨rfl, rfl⟩
      go_wp2_with fail
      refine (Len_L H5.out.1).mono ?_; rintro e wB ⟨rfl, rfl⟩
      go_wp2_with fail
      refine (awake_ok _).mono ?_; rintro e w6 ⟨rfl, hb6⟩
      have B6 := Aside0.mk (below_step B5.out hb6)
      clear hb6 B5 H5
      go_wp2_with fail
      go_ret
      exact ⟨rfl, B6.out⟩
  · by_cases h2 : 80 < key.size
    · have d1 : decide (80 < (key.size : Int)) = true := decide_eq_true (by omega)
      have d1' : decide (80 < key.size) = true := decide_eq_true (by omega)
      clear h1
      go_enter Try.func8, Try.ntmps8
      go_wp2_with fail
      refine (awake_ok _).mono ?_; rintro e w6 ⟨rfl, hb6⟩
      go_wp2_with fail
      go_ret
      exact ⟨rfl, hb6⟩
    · have d1 : decide (80 < (key.size : Int)) = false := decide_eq_false (by omega)
      have d1' : decide (80 < key.size) = false := decide_eq_false (by omega)
      have d2 : decide (20 < (value.size : Int)) = true := decide_eq_true (by omega)
      have d2' : decide (20 < value.size) = true := decide_eq_true (by omega)
      clear h1
      go_enter Try.func8, Try.ntmps8
      go_wp2_with fail
      refine (awake_ok _).mono ?_; rintro e w6 ⟨rfl, hb6⟩
      go_wp2_with fail
      go_ret
      exact ⟨rfl, hb6⟩
end Go.Proofs.Ytinbppcfdmbclaa.Pg
