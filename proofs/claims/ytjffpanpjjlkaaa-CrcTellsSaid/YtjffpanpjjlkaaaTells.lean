/- The walk of the law CrcTells: the text's bytes are turned in four places, and the sums are asked. Conditions: what the sums come to is handed in. -/
import Derived.Test.YtjffpanpjjlkaaaOwnx1
import Derived.Test.YtjffpanpjjlkaaaOwnx2
import Derived.Lib.Hide
import Derived.RegionTactic
import Derived.ChangeAlike
namespace Go.Proofs.Ytjffpanpjjlkaaa.Own
open Go.RowKit Go.Proofs.YtjffpanpjjlkaaaW.PrintWords Go.Proofs.YtjffpanpjjlkaaaW.PrintLast Go.Proofs.YtjffpanpjjlkaaaW.PrintMore
set_option linter.unusedVariables false
set_option linter.unusedSimpArgs false
/-- the block of a text's bytes, while they are written over -/
def Room (wr : World) (g n : Nat) (xs : List Int) : Prop := ∃ cs : Array Value, wr.heap[g]? = some (.cells cs 5 (cs.size, cs.size + 1)) ∧ n ≤ cs.size ∧ xs.length = n ∧ ∀ j, j < n → cs[j]? = some (.int .u8 (xs.getD j 0))
theorem Room.cell {wr : World} {g n : Nat} {xs : List Int} (h : Room wr g n xs) (j : Nat) (hj : j < n) : wr.cell? ⟨g, j, none⟩ = some (.int .u8 (xs.getD j 0)) := by
  obtain ⟨cs, h1, h2, h3, h4⟩ := h
  simp only [World.cell?, h1]
  exact h4 j hj
theorem Room.free {wr : World} {g n : Nat} {xs : List Int} (h : Room wr g n xs) (j : Nat) (hj : j < n) : wr.frozen? ⟨g, j, none⟩ = false := by
  obtain ⟨cs, h1, h2, h3, h4⟩ := h
  simp only [World.frozen?, h1]
  simp; omega
theorem Room.set {wr : World} {g n : Nat} {xs : List Int} (h : Room wr g n xs) (j : Nat) (hj : j < n) (x : Int) : Room (wr.setCell ⟨g, j, none⟩ (.int .u8 x)).drew g n (xs.set j x) := by
  obtain ⟨cs, h1, h2, h3, h4⟩ := h
  have hlt : g < wr.heap.size := by
    rcases Nat.lt_or_ge g wr.heap.size with q | q
    · exact q
    · rw [Array.getElem?_eq_none q] at h1; cases h1
  refine ⟨cs.setIfInBounds j (.int .u8 x), ?_, by simpa using h2, by simpa using h3, fun i hi => ?_⟩
  · show (wr.setCell ⟨g, j, none⟩ (.int .u8 x)).heap[g]? = _
    simp only [World.setCell, Array.getElem?_modify, if_pos, h1, Option.map_some]
    simp
  · by_cases e : i = j
    · subst e
      rw [Array.getElem?_setIfInBounds_self_of_lt (by omega)]
      simp [List.getD_eq_getElem?_getD, List.getElem?_set_self (show i < xs.length by omega)]
    · rw [Array.getElem?_setIfInBounds_ne (fun h => e h.symm), h4 i hi]
      simp [List.getD_eq_getElem?_getD, List.getElem?_set_ne (fun h => e h.symm)]
theorem Room.of_bytes (W : World) (s : ByteArray) : Room (Lib.bytesWorld W 5 s) W.heap.size s.size (bytesOf s) := by
  refine ⟨Lib.bytesCells W 5 s, Lib.bytesWorld_at_new W 5 s, ?_, by simp [bytesOf], fun j hj => ?_⟩
  · unfold Lib.bytesCells
    rw [Array.size_append, Array.size_map]
    exact Nat.le_add_right _ _
  · have hl : j < s.data.size := hj
    unfold Lib.bytesCells
    rw [Array.getElem?_append_left (by rw [Array.size_map]; exact hl)]
    simp [bytesOf, hl]
    exact ⟨_, Array.getElem?_eq_getElem hl, by rw [Array.getElem?_eq_getElem hl]; rfl⟩
/-- the byte by which the byte at a place is turned -/
def turn (a2 : Int) (j : Nat) : Int := Go.bits .and .i64 (a2 / 2 ^ (8 * j)) 255 % 256
/-- the bytes, the first ones of the four turned -/
def turned (xs : List Int) (m : Nat) (a2 : Int) : Nat → List Int
  | 0 => xs
  | j + 1 => (turned xs m a2 j).set (m + j) (Go.bits .xor .u8 ((turned xs m a2 j).getD (m + j) 0) (turn a2 j))
theorem turned_length (xs : List Int) (m : Nat) (a2 : Int) (j : Nat) : (turned xs m a2 j).length = xs.length := by
  induction j with
  | zero => rfl
  | succ j ih => unfold turned; rw [List.length_set]; exact ih
set_option maxRecDepth 100000 in
set_option maxHeartbeats 4000000 in
theorem tells_walk (k : Nat) (s t : ByteArray) (a1 a2 v1 v2 : Int) (b : Bool) (w : World) (h4 : 4 ≤ s.size) (hs : s.size ≤ 1024) (m : Nat) (hm : m + 4 ≤ s.size) (hk : (Go.bits .and .i64 a1 65535).tmod ((s.size : Int) - 3) = (m : Int))
    (ht : strOfNums (turned (bytesOf s) m a2 4) = t) (hl : quaysidelaw02_light.f s = some true) (h1 : crc_Sum.f k t = some v1) (h2 : crc_Sum.f k s = some v2) (h3 : crc_Same.f k s t = some false) (h5 : quaysidelaw02_nine.f k = some true)
    (hb1 : (v1 == v2) = b) (hb2 : (Go.bits .and .i64 a2 4294967295 == 0) = b) :
    Calls Try.prog 5 #[.string s, .int .i64 a1, .int .i64 a2] w fun e w' => e = .returned (.bool true) ∧ Below w.heap.size w w' := by
  have HK := Lib.hid hk
  clear hk
  have HT := Lib.hid ht
  clear ht
  have HB1 := Lib.hid hb1
  have HB2 := Lib.hid hb2
  clear hb1 hb2
  have hconv := fun W : World => Lib.run_convert_string_bytes (P := Try.prog) W 9 28 5 s Try.underlying9 Try.underlying28 Try.underlying5
  have hl' : ((s.size : Int) < 4) = False := by simp; omega
  have hl4 : decide (s.size < 4) = false := by simp; omega
  go_enter Try.func5, Try.ntmps5
  go_wp2_with (go_at_call 14; refine (quaysidelaw02_light.calls s true _ hl).mono ?_; rintro e w' ⟨rfl, ⟨nd, rfl⟩⟩)
  rw [HK.out]
  have hr0 : Room (Lib.bytesWorld (w.drewN nd) 5 s) w.heap.size s.size (bytesOf s) := Room.of_bytes (w.drewN nd) s
  have hb0 : Below w.heap.size w (Lib.bytesWorld (w.drewN nd) 5 s) := bytes_below (pw_below_drewN (Below.refl _ _) nd) (Nat.le_refl _) 5 s
  have hz0 : w.heap.size < (Lib.bytesWorld (w.drewN nd) 5 s).heap.size := by
    rw [Lib.bytesWorld_size]; show w.heap.size < w.heap.size + 1; omega
  go_loopw [9] (fun v9 wr => ∃ (j : Nat), j ≤ 4 ∧ v9 = .int .i64 j ∧ Hid (Room wr w.heap.size s.size (turned (bytesOf s) m a2 j) ∧ Below w.heap.size w wr ∧ w.heap.size < wr.heap.size)) (fun v9 _ => 4 - (intOf v9).toNat)
  case atStart => exact ⟨0, by omega, rfl, Lib.hid ⟨hr0, hb0, hz0⟩⟩
  case round =>
    clear hr0 hb0 hz0
    obtain ⟨j, hj, rfl, hi⟩ := hrel
    by_cases hlt : j < 4
    · obtain ⟨x, hx⟩ : ∃ x, x = (turned (bytesOf s) m a2 j).getD (m + j) 0 := ⟨_, rfl⟩
      have hc : wr.cell? ⟨w.heap.size, m + j, none⟩ = some (.int .u8 x) := by rw [hx]; exact hi.out.1.cell (m + j) (by omega)
      have hf : wr.frozen? ⟨w.heap.size, m + j, none⟩ = false := hi.out.1.free (m + j) (by omega)
      have HX := Lib.hid hx
      clear hx
      go_wp2
      go_region
      go_wp2
      go_roundw
      case rel =>
        refine ⟨j + 1, by omega, by go_num, Lib.hid ⟨?_, ?_, ?_⟩⟩
        · have h := hi.out.1.set (m + j) (by omega) (Go.bits .xor .u8 x (turn a2 j))
          rw [turned, ← HX.out]
          exact h
        · exact below_drew1 (below_set hi.out.2.1 (Nat.le_refl _))
        · show w.heap.size < (wr.setCell _ _).heap.size
          rw [show (wr.setCell ⟨w.heap.size, m + j, none⟩ (.int .u8 (Go.bits .xor .u8 x (Go.bits .and .i64 (a2 / 2 ^ (8 * j)) 255 % 256)))).heap.size = wr.heap.size by simp [World.setCell]]
          exact hi.out.2.2
      case measure => simp [intOf]; omega
    · obtain rfl : j = 4 := by omega
      have hstr : ∀ c, (convert 28 9 (.slice (some ⟨w.heap.size, 0, none⟩) s.size c)).run Try.prog wr = .ok (.string t) wr := by
        intro c
        rw [← HT.out]
        refine string_of_reads (P := Try.prog) (src := 28) (dst := 9) (e := 5) Try.underlying28 Try.underlying5 Try.underlying9 ⟨by rw [turned_length]; simp [bytesOf], by omega, fun _ => ⟨_, rfl, fun i hi' => ?_⟩⟩
        rw [show (⟨w.heap.size, 0, none⟩ : Addr).add i = ⟨w.heap.size, i, none⟩ from by simp [Addr.add]; intro h; exact h.symm]
        exact hi.out.1.cell i hi'
      have HBW := Lib.hid hi.out.2.1
      clear hi
      go_wp2_with fail
      refine (crc_Sum.calls k t v1 _ h1).mono ?_
      rintro e w' ⟨rfl, ⟨nd1, rfl⟩⟩
      go_wp2_with fail
      refine (crc_Sum.calls k s v2 _ h2).mono ?_
      rintro e w' ⟨rfl, ⟨nd2, rfl⟩⟩
      have e1 := HB1.out
      have e2 := HB2.out
      cases b
      all_goals
        go_wp2_with fail
        refine (crc_Same.calls k s t false _ h3).mono ?_
        rintro e w' ⟨rfl, ⟨nd3, rfl⟩⟩
        go_wp2_with fail
        refine (quaysidelaw02_nine.calls k true _ h5).mono ?_
        rintro e w' ⟨rfl, ⟨nd4, rfl⟩⟩
        go_wp2_with fail
        go_ret
        exact ⟨rfl, by repeat (first | exact HBW.out | apply pw_below_drewN)⟩
end Go.Proofs.Ytjffpanpjjlkaaa.Own
