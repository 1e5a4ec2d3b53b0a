/- Functions of the seat as plain Lean functions, each with a proof that the call answers what the function tells; written by a program of this work. No condition beyond those that each theorem names. -/
import Derived.Test.YtjffpanpjjlkaaaOtx0
namespace Go.Proofs.Ytjffpanpjjlkaaa.Ot
open Go.RowKit Go.Proofs.YtjffpanpjjlkaaaW.PrintWords Go.Proofs.YtjffpanpjjlkaaaW.PrintLast Go.Proofs.YtjffpanpjjlkaaaW.PrintMore
attribute [local go_sem] max2_int min2_int max_two min_two max_three min_three max_four min_four   -- for this text's walks alone
set_option linter.unusedVariables false
set_option linter.unusedSimpArgs false

/-! ### num_size: function 51 -/
def num_size.f (a0 : Int) : Option (Int) := if a0 < 0 then (some (IntKind.u64.wrap (-(IntKind.u64.wrap (a0))))) else (some (IntKind.u64.wrap (a0)))
set_option maxHeartbeats 8000000 in
set_option maxRecDepth 100000 in
theorem num_size.calls (a0 : Int) (r : Int) (w : World) (h : num_size.f a0 = some r) :
    Calls Try.prog 51 #[.int .i64 a0] w fun e w' => e = .returned (.int .u64 r) ∧ Drawn0 w w' := by
  have H : (if a0 < 0 then (some (IntKind.u64.wrap (-(IntKind.u64.wrap (a0))))) else (some (IntKind.u64.wrap (a0)))) = some r := h
  clear h
  by_cases c2 : a0 < 0
  · rw [if_pos c2] at H
    have c2b0 : decide (a0 < 0) = true := decide_eq_true c2
    clear c2
    obtain rfl := Option.some.inj H
    go_enter Try.func51, Try.ntmps51
    go_wp2
    go_ret
    exact ⟨by first | rfl | (simp; done) | (simp [*]; done), by repeat (first | exact Drawn0.refl _ | apply Drawn0.step)⟩
  · rw [if_neg c2] at H
    have c2b0 : decide (a0 < 0) = false := decide_eq_false c2
    clear c2
    obtain rfl := Option.some.inj H
    go_enter Try.func51, Try.ntmps51
    go_wp2
    go_ret
    exact ⟨by first | rfl | (simp; done) | (simp [*]; done), by repeat (first | exact Drawn0.refl _ | apply Drawn0.step)⟩

/-! ### num_Text: function 41 -/
/-- digits of a number -/
def digf : Nat → Nat → List Int
  | 0, _ => []
  | f + 1, k => if k < 10 then [48 + (k : Int)] else digf f (k / 10) ++ [48 + (k : Int) % 10]
def mag (a : Int) : Int := if a < 0 then -a else a
def num_Text.f (a0 : Int) : Option ByteArray := if -9223372036854775808 ≤ a0 then (if a0 ≤ 9223372036854775807 then some (strOfNums ((if a0 < 0 then [45] else []) ++ digf 20 (mag a0).toNat)) else none) else none
theorem wrapu (n : Int) : Go.IntKind.u64.wrap n = n % 18446744073709551616 := by
  simp [IntKind.wrap, IntKind.bits, IntKind.signed]
theorem size_same (n : Int) (w : World) (h1 : -9223372036854775808 ≤ n) (h2 : n ≤ 9223372036854775807) :
    Calls Try.prog 51 #[.int .i64 n] w fun e w' => e = .returned (.int .u64 (mag n)) ∧ w = w' := by
  by_cases hn : n < 0
  · go_enter Try.func51, Try.ntmps51
    go_wp2
    go_ret
    refine ⟨?_, rfl⟩
    rw [wrapu, wrapu, mag, if_pos hn, show (-(n % 18446744073709551616)) % 18446744073709551616 = -n by omega]
    rfl
  · go_enter Try.func51, Try.ntmps51
    go_wp2
    go_ret
    refine ⟨?_, rfl⟩
    rw [mag, if_neg (by omega)]
    rfl
/-- what stands in the room's cells from a place on -/
def Tail (cs : Array Value) (m : Nat) (tl : List Int) : Prop := ∀ j, j < tl.length → cs[m + j]? = some (.int .u8 (tl.getD j 0))
theorem Tail.set {cs : Array Value} {m : Nat} {tl : List Int} (h : Tail cs m tl) (hm : 1 ≤ m) (hs : m ≤ cs.size) (x : Int) : Tail (cs.setIfInBounds (m - 1) (.int .u8 x)) (m - 1) (x :: tl) := by
  intro j hj
  cases j with
  | zero => rw [Nat.add_zero, Array.getElem?_setIfInBounds_self_of_lt (by omega)]; rfl
  | succ j =>
    rw [Array.getElem?_setIfInBounds_ne (by omega), show m - 1 + (j + 1) = m + j by omega]
    exact h j (by simpa using hj)
theorem room_text (w : World) (cs : Array Value) (m : Nat) (tl : List Int) (h : Tail cs m tl) (hl : tl.length = 21 - m) (hm : m ≤ 21) :
    (convert 28 9 (.slice (some ⟨w.heap.size, m, none⟩) (21 - m) (21 - m))).run Try.prog (w.alloc (.cells cs 59)) = .ok (.string (strOfNums tl)) (w.alloc (.cells cs 59)) := by
  refine string_of_reads (P := Try.prog) (src := 28) (dst := 9) (e := 5) Try.underlying28 Try.underlying5 Try.underlying9 ⟨hl, by omega, fun _ => ⟨_, rfl, fun j hj => ?_⟩⟩
  rw [show (⟨w.heap.size, m, none⟩ : Addr).add j = ⟨w.heap.size, m + j, none⟩ from by simp [Addr.add], World.cell?_alloc_new]
  exact h j (by omega)
theorem room_cut (w : World) (l : Int) (h0 : 0 ≤ l) (h1 : l ≤ 20) : ∀ W : World,
    (Instr.sliceAt 59 (.pointer (some ⟨w.heap.size, 0, none⟩)) (some (.int .i64 l)) none none).run Try.prog W = .ok (.slice (some ⟨w.heap.size, l.toNat, none⟩) (21 - l.toNat) (21 - l.toNat)) W := by
  intro W
  have hal : Try.prog.arrayLen 59 = 21 := by kernel_rfl
  have hel : Try.prog.elem 59 = 5 := by kernel_rfl
  have hsz : ∀ W : World, (sizeOf 5).run Try.prog W = .ok 1 W := fun W => by kernel_rfl
  rw [run_sliceAt_array_l W 59 _ (by rw [hal, hel]; exact Try.underlying59) .i64 l h0 (by rw [hal]; omega), hel, hsz, hal]
  simp only [Result.andThen, slicedAt]
  rw [if_neg (by omega)]
  simp [Addr.add]
  try (intro hz; omega)
theorem room_cell (w : World) (cs : Array Value) (hs : cs.size = 21) (i : Nat) (hi : i < 21) : ∃ v, (w.alloc (.cells cs 59)).cell? ⟨w.heap.size, i, none⟩ = some v := by
  rw [World.cell?_alloc_new]
  exact ⟨_, Array.getElem?_eq_getElem (by omega)⟩
set_option maxRecDepth 100000 in
set_option maxHeartbeats 4000000 in
theorem num_Text.calls (a0 : Int) (r : ByteArray) (w : World) (h : num_Text.f a0 = some r) :
    Calls Try.prog 41 #[.int .i64 a0] w fun e w' => e = .returned (.string r) ∧ Below w.heap.size w w' := by
  unfold num_Text.f at h
  by_cases h1 : -9223372036854775808 ≤ a0
  case neg => rw [if_neg h1] at h; cases h
  by_cases h2 : a0 ≤ 9223372036854775807
  case neg => rw [if_pos h1, if_neg h2] at h; cases h
  rw [if_pos h1, if_pos h2] at h
  have hr := Option.some.inj h
  clear h
  have hm0 : 0 ≤ mag a0 ∧ mag a0 ≤ 9223372036854775808 := by unfold mag; split <;> omega
  obtain ⟨N, hN⟩ := Int.eq_ofNat_of_zero_le hm0.1
  have hNb : N < 10000000000000000000 := by omega
  rw [hN, Int.toNat_natCast] at hr
  have HR := Lib.hid hr
  clear hr
  have hsame := size_same a0 (w.alloc (.cells (Array.replicate 21 (.int .u8 0)) 59)) h1 h2
  rw [hN] at hsame
  clear hm0
  have h45 : ((⟨#[45]⟩ : ByteArray)[0]'(by decide)).toNat = 45 := rfl
  by_cases hn : a0 < 0
  · go_enter Try.func41, Try.ntmps41
    go_wp2_with fail
    refine hsame.mono ?_
    rintro e w' ⟨rfl, rfl⟩
    clear hsame hN
    go_wp2_with fail
    go_loopw [4, 5] (fun v4 v5 wr => ∃ (m k : Nat) (cs : Array Value) (tl : List Int), m ≤ 21 ∧ 2 ≤ m ∧ k < 10000000000000000000 ∧ v4 = .int .i64 m ∧ v5 = .int .u64 k ∧ cs.size = 21 ∧ wr = w.alloc (.cells cs 59) ∧ Hid (k < 10 ^ (m - 2) ∧ tl.length = 21 - m ∧ Tail cs m tl ∧ digf (m - 1) k ++ tl = digf 20 N)) (fun v4 _ _ => (intOf v4).toNat)
    case atStart => exact ⟨21, N, _, [], by omega, by omega, hNb, rfl, rfl, by simp, rfl, Lib.hid ⟨hNb, rfl, fun j hj => by simp at hj, by simp⟩⟩
    case round =>
      obtain ⟨m, k, cs, tl, hm1, hm2, hkb, rfl, rfl, hcs, rfl, hi⟩ := hrel
      have hcs' := Lib.hid hcs
      obtain ⟨v1, c1⟩ := room_cell w cs hcs (m - 1) (by omega)
      obtain ⟨v2, c2⟩ := room_cell w (cs.setIfInBounds (m - 1) (.int .u8 (48 + (k : Int) % 10))) (by simpa using hcs) (m - 1 - 1) (by omega)
      clear hcs
      by_cases hk : k < 10
      · have hsl := room_cut w ((m : Int) - 1 - 1) (by omega) (by omega)
        have hcv : (convert 28 9 (.slice (some ⟨w.heap.size, m - 1 - 1, none⟩) (21 - (m - 1 - 1)) (21 - (m - 1 - 1)))).run Try.prog (w.alloc (.cells ((cs.setIfInBounds (m - 1) (.int .u8 (48 + (k : Int) % 10))).setIfInBounds (m - 1 - 1) (.int .u8 45)) 59)) = .ok (.string r) (w.alloc (.cells ((cs.setIfInBounds (m - 1) (.int .u8 (48 + (k : Int) % 10))).setIfInBounds (m - 1 - 1) (.int .u8 45)) 59)) := by
          have e := room_text w _ (m - 1 - 1) (45 :: (48 + (k : Int) % 10) :: tl) ((hi.out.2.2.1.set (by omega) (by rw [hcs'.out]; omega) _).set (by omega) (by rw [Array.size_setIfInBounds, hcs'.out]; omega) _) (by simp [hi.out.2.1]; omega) (by omega)
          rw [e, ← HR.out, if_pos hn, ← hi.out.2.2.2]
          obtain ⟨f, hf⟩ : ∃ f, m - 1 = f + 1 := ⟨m - 2, by omega⟩
          rw [hf, digf, if_pos hk, show (k : Int) % 10 = k by omega]; rfl
        rw [show ((m : Int) - 1 - 1).toNat = m - 1 - 1 by omega] at hsl
        clear hi
        go_wp2
        go_ret
        exact ⟨rfl, (Below.refl _ _).alloc (Nat.le_refl _) _⟩
      · have hi2 : Hid (k / 10 < 10 ^ (m - 1 - 2) ∧ ((48 + (k : Int) % 10) :: tl).length = 21 - (m - 1) ∧ Tail (cs.setIfInBounds (m - 1) (.int .u8 (48 + (k : Int) % 10))) (m - 1) ((48 + (k : Int) % 10) :: tl) ∧ digf (m - 1 - 1) (k / 10) ++ ((48 + (k : Int) % 10) :: tl) = digf 20 N) := by
          obtain ⟨q1, q2, q3, q4⟩ := hi.out
          have hm3 : 3 ≤ m := by
            rcases Nat.lt_or_ge m 3 with g | g
            · obtain rfl : m = 2 := by omega
              simp at q1; omega
            · exact g
          refine Lib.hid ⟨?_, by simp [q2]; omega, q3.set (by omega) (by rw [hcs'.out]; omega) _, ?_⟩
          · obtain ⟨g, rfl⟩ : ∃ g, m = g + 3 := ⟨m - 3, by omega⟩
            rw [show g + 3 - 1 - 2 = g by omega]
            rw [show g + 3 - 2 = g + 1 by omega, Nat.pow_succ] at q1
            omega
          · rw [← q4]
            obtain ⟨f, hf⟩ : ∃ f, m - 1 = f + 1 := ⟨m - 2, by omega⟩
            rw [hf, Nat.add_sub_cancel, digf, if_neg hk, List.append_assoc]; rfl
        have hcs2 : (cs.setIfInBounds (m - 1) (.int .u8 (48 + (k : Int) % 10))).size = 21 := by rw [Array.size_setIfInBounds, hcs'.out]
        have HCS2 := Lib.hid hcs2
        have hm3 : 3 ≤ m := by
          rcases Nat.lt_or_ge m 3 with g | g
          · obtain rfl : m = 2 := by omega
            have := hi.out.1
            simp at this; omega
          · exact g
        clear hi hcs2
        go_wp2
        go_roundw
        case rel => exact ⟨m - 1, k / 10, _, _, by omega, by omega, by omega, by rw [show ((m - 1 : Nat) : Int) = (m : Int) - 1 by omega], by rw [show ((k / 10 : Nat) : Int) = (k : Int) / 10 by omega], HCS2.out, rfl, hi2⟩
        case measure => simp [intOf]; omega
  · go_enter Try.func41, Try.ntmps41
    go_wp2_with fail
    refine hsame.mono ?_
    rintro e w' ⟨rfl, rfl⟩
    clear hsame hN
    go_wp2_with fail
    go_loopw [4, 5] (fun v4 v5 wr => ∃ (m k : Nat) (cs : Array Value) (tl : List Int), m ≤ 21 ∧ 2 ≤ m ∧ k < 10000000000000000000 ∧ v4 = .int .i64 m ∧ v5 = .int .u64 k ∧ cs.size = 21 ∧ wr = w.alloc (.cells cs 59) ∧ Hid (k < 10 ^ (m - 2) ∧ tl.length = 21 - m ∧ Tail cs m tl ∧ digf (m - 1) k ++ tl = digf 20 N)) (fun v4 _ _ => (intOf v4).toNat)
    case atStart => exact ⟨21, N, _, [], by omega, by omega, hNb, rfl, rfl, by simp, rfl, Lib.hid ⟨hNb, rfl, fun j hj => by simp at hj, by simp⟩⟩
    case round =>
      obtain ⟨m, k, cs, tl, hm1, hm2, hkb, rfl, rfl, hcs, rfl, hi⟩ := hrel
      have hcs' := Lib.hid hcs
      obtain ⟨v1, c1⟩ := room_cell w cs hcs (m - 1) (by omega)
      clear hcs
      by_cases hk : k < 10
      · have hsl := room_cut w ((m : Int) - 1) (by omega) (by omega)
        have hcv : (convert 28 9 (.slice (some ⟨w.heap.size, m - 1, none⟩) (21 - (m - 1)) (21 - (m - 1)))).run Try.prog (w.alloc (.cells (cs.setIfInBounds (m - 1) (.int .u8 (48 + (k : Int) % 10))) 59)) = .ok (.string r) (w.alloc (.cells (cs.setIfInBounds (m - 1) (.int .u8 (48 + (k : Int) % 10))) 59)) := by
          have e := room_text w _ (m - 1) ((48 + (k : Int) % 10) :: tl) (hi.out.2.2.1.set (by omega) (by rw [hcs'.out]; omega) _) (by simp [hi.out.2.1]; omega) (by omega)
          rw [e, ← HR.out, if_neg (by omega), ← hi.out.2.2.2]
          obtain ⟨f, hf⟩ : ∃ f, m - 1 = f + 1 := ⟨m - 2, by omega⟩
          rw [hf, digf, if_pos hk, show (k : Int) % 10 = k by omega]; rfl
        rw [show ((m : Int) - 1).toNat = m - 1 by omega] at hsl
        clear hi
        go_wp2
        go_ret
        exact ⟨rfl, (Below.refl _ _).alloc (Nat.le_refl _) _⟩
      · have hi2 : Hid (k / 10 < 10 ^ (m - 1 - 2) ∧ ((48 + (k : Int) % 10) :: tl).length = 21 - (m - 1) ∧ Tail (cs.setIfInBounds (m - 1) (.int .u8 (48 + (k : Int) % 10))) (m - 1) ((48 + (k : Int) % 10) :: tl) ∧ digf (m - 1 - 1) (k / 10) ++ ((48 + (k : Int) % 10) :: tl) = digf 20 N) := by
          obtain ⟨q1, q2, q3, q4⟩ := hi.out
          have hm3 : 3 ≤ m := by
            rcases Nat.lt_or_ge m 3 with g | g
            · obtain rfl : m = 2 := by omega
              simp at q1; omega
            · exact g
          refine Lib.hid ⟨?_, by simp [q2]; omega, q3.set (by omega) (by rw [hcs'.out]; omega) _, ?_⟩
          · obtain ⟨g, rfl⟩ : ∃ g, m = g + 3 := ⟨m - 3, by omega⟩
            rw [show g + 3 - 1 - 2 = g by omega]
            rw [show g + 3 - 2 = g + 1 by omega, Nat.pow_succ] at q1
            omega
          · rw [← q4]
            obtain ⟨f, hf⟩ : ∃ f, m - 1 = f + 1 := ⟨m - 2, by omega⟩
            rw [hf, Nat.add_sub_cancel, digf, if_neg hk, List.append_assoc]; rfl
        have hcs2 : (cs.setIfInBounds (m - 1) (.int .u8 (48 + (k : Int) % 10))).size = 21 := by rw [Array.size_setIfInBounds, hcs'.out]
        have HCS2 := Lib.hid hcs2
        have hm3 : 3 ≤ m := by
          rcases Nat.lt_or_ge m 3 with g | g
          · obtain rfl : m = 2 := by omega
            have := hi.out.1
            simp at this; omega
          · exact g
        clear hi hcs2
        go_wp2
        go_roundw
        case rel => exact ⟨m - 1, k / 10, _, _, by omega, by omega, by omega, by rw [show ((m - 1 : Nat) : Int) = (m : Int) - 1 by omega], by rw [show ((k / 10 : Nat) : Int) = (k : Int) / 10 by omega], HCS2.out, rfl, hi2⟩
        case measure => simp [intOf]; omega

/-! ### num_signed: function 52 -/
def num_signed.j0 : Nat → Int → Bool → Bool → Option (Int × Int)
  | 0, _, _, _ => none
  | k + 1, x0, x1, x6 => if x6 = true then (some (wrap64 (IntKind.u64.wrap (-x0)), 0)) else (if x1 = true then (some (0, 10)) else (if x0 < 9223372036854775808 then (some (wrap64 (x0), 0)) else (some (0, 10))))
def num_signed.f (k : Nat) (a0 : Int) (a1 : Bool) : Option (Int × Int) := if a1 = true then (num_signed.j0 k a0 a1 (decide (a0 ≤ 9223372036854775808))) else (num_signed.j0 k a0 a1 false)
theorem num_signed.mono_l : ∀ k, (∀ y0 y1 y2, LeO (num_signed.j0 k y0 y1 y2) (num_signed.j0 (k + 1) y0 y1 y2))
  | 0 => fun _ _ _ r h => by simp [num_signed.j0] at h
  | k + 1 => by
    have ih0 := num_signed.mono_l k
    · intro y0 y1 y2
      unfold num_signed.j0
      repeat' first
      | (with_reducible exact ih0 _ _ _)
      | (with_reducible exact LeO.refl _)
      | (with_reducible exact LeO.none _)
      | (with_reducible refine LeO.ite ?_ ?_)
      | (with_reducible refine LeO.bind ?_ (fun _ => ?_))
      | exact ih0 _ _ _
      | exact LeO.none _
      | refine LeO.ite ?_ ?_
      | refine LeO.bind ?_ (fun _ => ?_)
theorem num_signed.mono : ∀ a0 a1 k, LeO (num_signed.f k a0 a1) (num_signed.f (k + 1) a0 a1) := by
  intro a0 a1 k
  have ih0 := num_signed.mono_l k
  unfold num_signed.f
  repeat' first
      | (with_reducible exact ih0 _ _ _)
      | (with_reducible exact LeO.refl _)
      | (with_reducible exact LeO.none _)
      | (with_reducible refine LeO.ite ?_ ?_)
      | (with_reducible refine LeO.bind ?_ (fun _ => ?_))
      | exact ih0 _ _ _
      | exact LeO.none _
      | refine LeO.ite ?_ ?_
      | refine LeO.bind ?_ (fun _ => ?_)
set_option maxHeartbeats 8000000 in
set_option maxRecDepth 100000 in
theorem num_signed.calls (k : Nat) (a0 : Int) (a1 : Bool) (r1 : Int) (r2 : Int) (w : World) (h : num_signed.f k a0 a1 = some (r1, r2)) :
    Calls Try.prog 52 #[.int .u64 a0, .bool a1] w fun e w' => e = .returned (.tuple #[.int .i64 r1, .int .i64 r2]) ∧ Drawn0 w w' := by
  have H : (if a1 = true then (num_signed.j0 k a0 a1 (decide (a0 ≤ 9223372036854775808))) else (num_signed.j0 k a0 a1 false)) = some (r1, r2) := h
  clear h
  have HC3 := Aside0.mk H
  clear H
  go_enter Try.func52, Try.ntmps52
  go_upto_region 1 with (fail)
  go_cut [6] (fun v6 wc => ∃ (kq : Nat) (x6_2 : Bool), v6 = .bool x6_2 ∧ Aside0 (num_signed.j0 kq a0 a1 x6_2 = some (r1, r2)) ∧ Aside0 (kq ≤ k) ∧ Drawn0 w wc)
  case first =>
    have H := HC3.out
    clear HC3
    by_cases c4 : a1 = true
    · subst c4
      have H1 : (num_signed.j0 k a0 true (decide (a0 ≤ 9223372036854775808))) = some (r1, r2) := by rw [if_pos rfl] at H; exact H
      clear H
      have H := H1
      clear H1
      have H' := Aside0.mk H
      clear H
      go_wp2
      go_meet
      case rel => exact ⟨_, (decide (a0 ≤ 9223372036854775808)), (by first | rfl | (simp; done) | (simp [*]; done)), H', ⟨by first | omega | exact Nat.le_refl _⟩, by repeat (first | exact Drawn0.refl _ | apply Drawn0.step)⟩
    · replace c4 := Bool.eq_false_iff.mpr c4
      subst c4
      have H1 : (num_signed.j0 k a0 false false) = some (r1, r2) := by rw [if_neg (show ¬ (false = true) by decide)] at H; exact H
      clear H
      have H := H1
      clear H1
      have H' := Aside0.mk H
      clear H
      go_wp2
      go_meet
      case rel => exact ⟨_, (false), (by first | rfl | (simp; done) | (simp [*]; done)), H', ⟨by first | omega | exact Nat.le_refl _⟩, by repeat (first | exact Drawn0.refl _ | apply Drawn0.step)⟩
  case rest =>
    clear HC3
    try clear p2
    try clear c4
    obtain ⟨kq, x6_2, rfl, HA, HJ2, ⟨mc2, rfl⟩⟩ := hcut
    cases kq with
    | zero => exact absurd HA.out (by simp [num_signed.j0])
    | succ kj2 =>
      have H := HA.out
      clear HA
      simp only [num_signed.j0] at H
      by_cases c5 : x6_2 = true
      · subst c5
        have H1 : (some (wrap64 (IntKind.u64.wrap (-a0)), 0)) = some (r1, r2) := by rw [if_pos rfl] at H; exact H
        clear H
        have H := H1
        clear H1
        simp only [Option.some.injEq, Prod.mk.injEq] at H
        obtain ⟨rfl, rfl⟩ := H
        go_wp2
        go_ret2
        exact ⟨by first | rfl | (simp; done) | (simp [*]; done), by repeat (first | exact Drawn0.refl _ | apply Drawn0.step)⟩
      · replace c5 := Bool.eq_false_iff.mpr c5
        subst c5
        have H1 : (if a1 = true then (some (0, 10)) else (if a0 < 9223372036854775808 then (some (wrap64 (a0), 0)) else (some (0, 10)))) = some (r1, r2) := by rw [if_neg (show ¬ (false = true) by decide)] at H; exact H
        clear H
        have H := H1
        clear H1
        by_cases c6 : a1 = true
        · subst c6
          have H1 : (some (0, 10)) = some (r1, r2) := by rw [if_pos rfl] at H; exact H
          clear H
          have H := H1
          clear H1
          simp only [Option.some.injEq, Prod.mk.injEq] at H
          obtain ⟨rfl, rfl⟩ := H
          go_wp2
          go_ret2
          exact ⟨by first | rfl | (simp; done) | (simp [*]; done), by repeat (first | exact Drawn0.refl _ | apply Drawn0.step)⟩
        · replace c6 := Bool.eq_false_iff.mpr c6
          subst c6
          have H1 : (if a0 < 9223372036854775808 then (some (wrap64 (a0), 0)) else (some (0, 10))) = some (r1, r2) := by rw [if_neg (show ¬ (false = true) by decide)] at H; exact H
          clear H
          have H := H1
          clear H1
          by_cases c7 : a0 < 9223372036854775808
          · rw [if_pos c7] at H
            have c7b0 : decide (a0 < 9223372036854775808) = true := decide_eq_true c7
            clear c7
            simp only [Option.some.injEq, Prod.mk.injEq] at H
            obtain ⟨rfl, rfl⟩ := H
            go_wp2
            go_ret2
            exact ⟨by first | rfl | (simp; done) | (simp [*]; done), by repeat (first | exact Drawn0.refl _ | apply Drawn0.step)⟩
          · rw [if_neg c7] at H
            have c7b0 : decide (a0 < 9223372036854775808) = false := decide_eq_false c7
            clear c7
            simp only [Option.some.injEq, Prod.mk.injEq] at H
            obtain ⟨rfl, rfl⟩ := H
            go_wp2
            go_ret2
            exact ⟨by first | rfl | (simp; done) | (simp [*]; done), by repeat (first | exact Drawn0.refl _ | apply Drawn0.step)⟩

/-! ### stringslite_HasPrefix: function 56 -/
def stringslite_HasPrefix.f (a0 : ByteArray) (a1 : ByteArray) : Option (Bool) := if (a0.size : Int) ≥ (a1.size : Int) then (if 0 ≤ (a1.size : Int) then (if (a1.size : Int) ≤ (a0.size : Int) then (some ((a0.extract 0 ((a1.size : Int) : Int).toNat).toList == a1.toList)) else (none)) else (none)) else (some false)
set_option maxHeartbeats 8000000 in
set_option maxRecDepth 100000 in
theorem stringslite_HasPrefix.calls (a0 : ByteArray) (a1 : ByteArray) (r : Bool) (w : World) (h : stringslite_HasPrefix.f a0 a1 = some r) :
    Calls Try.prog 56 #[.string a0, .string a1] w fun e w' => e = .returned (.bool r) ∧ Drawn0 w w' := by
  have H : (if (a0.size : Int) ≥ (a1.size : Int) then (if 0 ≤ (a1.size : Int) then (if (a1.size : Int) ≤ (a0.size : Int) then (some ((a0.extract 0 ((a1.size : Int) : Int).toNat).toList == a1.toList)) else (none)) else (none)) else (some false)) = some r := h
  clear h
  by_cases c3 : (a0.size : Int) ≥ (a1.size : Int)
  · rw [if_pos c3] at H
    have c3b0 : decide ((a1.size : Int) ≤ (a0.size : Int)) = true := decide_eq_true c3
    have c3b1 : decide (a1.size ≤ a0.size) = true := decide_eq_true (Int.ofNat_le.mp c3)
    clear c3
    by_cases c4 : 0 ≤ (a1.size : Int)
    · rw [if_pos c4] at H
      have c4b0 := eq_true c4
      have c4b1 : decide (0 ≤ (a1.size : Int)) = true := decide_eq_true c4
      clear c4
      by_cases c5 : (a1.size : Int) ≤ (a0.size : Int)
      · rw [if_pos c5] at H
        have c5b0 := eq_true c5
        have c5b1 : decide ((a1.size : Int) ≤ (a0.size : Int)) = true := decide_eq_true c5
        clear c5
        obtain rfl := Option.some.inj H
        go_enter Try.func56, Try.ntmps56
        go_wp2
        go_ret
        exact ⟨by first | rfl | (simp; done) | (simp [*]; done), by repeat (first | exact Drawn0.refl _ | apply Drawn0.step)⟩
      · rw [if_neg c5] at H
        exact absurd H (by simp)
    · rw [if_neg c4] at H
      exact absurd H (by simp)
  · rw [if_neg c3] at H
    have c3b0 : decide ((a1.size : Int) ≤ (a0.size : Int)) = false := decide_eq_false c3
    have c3b1 : decide (a1.size ≤ a0.size) = false := decide_eq_false (fun h => c3 (Int.ofNat_le.mpr h))
    clear c3
    obtain rfl := Option.some.inj H
    go_enter Try.func56, Try.ntmps56
    go_wp2
    go_ret
    exact ⟨by first | rfl | (simp; done) | (simp [*]; done), by repeat (first | exact Drawn0.refl _ | apply Drawn0.step)⟩

/-! ### stringslite_CutPrefix: function 55 -/
def stringslite_CutPrefix.f (a0 : ByteArray) (a1 : ByteArray) : Option (ByteArray × Bool) := (stringslite_HasPrefix.f a0 a1).bind fun t101 => (if t101 = true then (if 0 ≤ (a1.size : Int) then (if (a1.size : Int) ≤ (a0.size : Int) then (some (a0.extract ((a1.size : Int) : Int).toNat a0.size, true)) else (none)) else (none)) else (some (a0, false)))
set_option maxHeartbeats 8000000 in
set_option maxRecDepth 100000 in
theorem stringslite_CutPrefix.calls (a0 : ByteArray) (a1 : ByteArray) (r1 : ByteArray) (r2 : Bool) (w : World) (h : stringslite_CutPrefix.f a0 a1 = some (r1, r2)) :
    Calls Try.prog 55 #[.string a0, .string a1] w fun e w' => e = .returned (.tuple #[.string r1, .bool r2]) ∧ Drawn0 w w' := by
  have H : ((stringslite_HasPrefix.f a0 a1).bind fun t101 => (if t101 = true then (if 0 ≤ (a1.size : Int) then (if (a1.size : Int) ≤ (a0.size : Int) then (some (a0.extract ((a1.size : Int) : Int).toNat a0.size, true)) else (none)) else (none)) else (some (a0, false)))) = some (r1, r2) := h
  clear h
  replace H := Option.bind_eq_some_iff.mp H
  obtain ⟨t101, A30, H⟩ := H
  replace H : (if t101 = true then (if 0 ≤ (a1.size : Int) then (if (a1.size : Int) ≤ (a0.size : Int) then (some (a0.extract ((a1.size : Int) : Int).toNat a0.size, true)) else (none)) else (none)) else (some (a0, false))) = some (r1, r2) := H
  have A3 := Aside0.mk A30
  clear A30
  by_cases c4 : t101 = true
  · subst c4
    have H1 : (if 0 ≤ (a1.size : Int) then (if (a1.size : Int) ≤ (a0.size : Int) then (some (a0.extract ((a1.size : Int) : Int).toNat a0.size, true)) else (none)) else (none)) = some (r1, r2) := by rw [if_pos rfl] at H; exact H
    clear H
    have H := H1
    clear H1
    by_cases c5 : 0 ≤ (a1.size : Int)
    · rw [if_pos c5] at H
      have c5b0 := eq_true c5
      have c5b1 : decide (0 ≤ (a1.size : Int)) = true := decide_eq_true c5
      clear c5
      by_cases c6 : (a1.size : Int) ≤ (a0.size : Int)
      · rw [if_pos c6] at H
        have c6b0 := eq_true c6
        have c6b1 : decide ((a1.size : Int) ≤ (a0.size : Int)) = true := decide_eq_true c6
        clear c6
        simp only [Option.some.injEq, Prod.mk.injEq] at H
        obtain ⟨rfl, rfl⟩ := H
        go_enter Try.func55, Try.ntmps55
        go_wp2_with (first | ((with_reducible refine gate_callee (f := 56) rfl ?_); refine goesL_ (some 8) rfl rfl Try.func56 (by kernel_rfl) rfl #[.string a0, .string a1] rfl (by (try simp only [List.map_toArray, List.map_cons, List.map_nil]); first | done | rfl | (simp only [List.length_drop, List.length_take]; rfl)) ?_; (with_reducible refine (stringslite_HasPrefix.calls a0 a1 true _ A3.out).mono ?_); rintro e w' ⟨rfl, ⟨nd, rfl⟩⟩; refine ⟨_, rfl, ?_⟩))
        go_ret2
        exact ⟨by first | rfl | (simp; done) | (simp [*]; done), by repeat (first | exact Drawn0.refl _ | apply Drawn0.step)⟩
      · rw [if_neg c6] at H
        exact absurd H (by simp)
    · rw [if_neg c5] at H
      exact absurd H (by simp)
  · replace c4 := Bool.eq_false_iff.mpr c4
    subst c4
    have H1 : (some (a0, false)) = some (r1, r2) := by rw [if_neg (show ¬ (false = true) by decide)] at H; exact H
    clear H
    have H := H1
    clear H1
    simp only [Option.some.injEq, Prod.mk.injEq] at H
    obtain ⟨rfl, rfl⟩ := H
    go_enter Try.func55, Try.ntmps55
    go_wp2_with (first | ((with_reducible refine gate_callee (f := 56) rfl ?_); refine goesL_ (some 8) rfl rfl Try.func56 (by kernel_rfl) rfl #[.string a0, .string a1] rfl (by (try simp only [List.map_toArray, List.map_cons, List.map_nil]); first | done | rfl | (simp only [List.length_drop, List.length_take]; rfl)) ?_; (with_reducible refine (stringslite_HasPrefix.calls a0 a1 false _ A3.out).mono ?_); rintro e w' ⟨rfl, ⟨nd, rfl⟩⟩; refine ⟨_, rfl, ?_⟩))
    go_ret2
    exact ⟨by first | rfl | (simp; done) | (simp [*]; done), by repeat (first | exact Drawn0.refl _ | apply Drawn0.step)⟩

/-! ### strings_CutPrefix: function 54 -/
def strings_CutPrefix.f (a0 : ByteArray) (a1 : ByteArray) : Option (ByteArray × Bool) := (stringslite_CutPrefix.f a0 a1).bind fun bt102 => (some (bt102.1, bt102.2))
set_option maxHeartbeats 8000000 in
set_option maxRecDepth 100000 in
theorem strings_CutPrefix.calls (a0 : ByteArray) (a1 : ByteArray) (r1 : ByteArray) (r2 : Bool) (w : World) (h : strings_CutPrefix.f a0 a1 = some (r1, r2)) :
    Calls Try.prog 54 #[.string a0, .string a1] w fun e w' => e = .returned (.tuple #[.string r1, .bool r2]) ∧ Drawn0 w w' := by
  have H : ((stringslite_CutPrefix.f a0 a1).bind fun bt102 => (some (bt102.1, bt102.2))) = some (r1, r2) := h
  clear h
  replace H := Option.bind_eq_some_iff.mp H
  obtain ⟨⟨t102, t103⟩, A30, H⟩ := H
  replace H : (some (t102, t103)) = some (r1, r2) := H
  have A3 := Aside0.mk A30
  clear A30
  simp only [Option.some.injEq, Prod.mk.injEq] at H
  obtain ⟨rfl, rfl⟩ := H
  go_enter Try.func54, Try.ntmps54
  go_wp2_with (first | ((with_reducible refine gate_callee (f := 55) rfl ?_); refine goesL_ (some 8) rfl rfl Try.func55 (by kernel_rfl) rfl #[.string a0, .string a1] rfl (by (try simp only [List.map_toArray, List.map_cons, List.map_nil]); first | done | rfl | (simp only [List.length_drop, List.length_take]; rfl)) ?_; (with_reducible refine (stringslite_CutPrefix.calls a0 a1 t102 t103 _ A3.out).mono ?_); rintro e w' ⟨rfl, ⟨nd, rfl⟩⟩; refine ⟨_, rfl, ?_⟩))
  go_ret2
  exact ⟨by first | rfl | (simp; done) | (simp [*]; done), by repeat (first | exact Drawn0.refl _ | apply Drawn0.step)⟩

/-! ### num_Read: function 42 -/
mutual
def num_Read.j0 : Nat → ByteArray → Bool → Bool → Option (Int × Int)
  | 0, _, _, _ => none
  | k + 1, x4, x5, x24 => if x24 = true then (some (0, 1)) else (num_Read.l0 k x4 x5 (x4.size : Int) 0)
def num_Read.l0 : Nat → ByteArray → Bool → Int → Int → Option (Int × Int)
  | 0, _, _, _, _ => none
  | k + 1, x4, x5, x26, x27 => if x27 < x26 then (if 0 ≤ x27 then (if x27 < (x4.size : Int) then (if (bt x4 x27) < 48 then (some (0, 1)) else (if (bt x4 x27) > 57 then (some (0, 1)) else (num_Read.l0 k x4 x5 x26 (wrap64 (x27 + 1))))) else (none)) else (none)) else (if (x4.size : Int) > 19 then (some (0, 10)) else (num_Read.l1 k x4 x5 0 (x4.size : Int) 0))
def num_Read.l1 : Nat → ByteArray → Bool → Int → Int → Int → Option (Int × Int)
  | 0, _, _, _, _, _ => none
  | k + 1, x4, x5, x7, x45, x46 => if x46 < x45 then (if 0 ≤ x46 then (if x46 < (x4.size : Int) then (num_Read.l1 k x4 x5 (IntKind.u64.wrap ((IntKind.u64.wrap (10 * x7)) + (((bt x4 x46) - 48) % 256))) x45 (wrap64 (x46 + 1))) else (none)) else (none)) else ((num_signed.f k x7 x5).bind fun bt106 => (some (bt106.1, bt106.2)))
end
def num_Read.f (k : Nat) (a0 : ByteArray) : Option (Int × Int) := (strings_CutPrefix.f a0 (⟨#[45]⟩ : ByteArray)).bind fun bt104 => (if bt104.1.toList = ([] : List UInt8) then (num_Read.j0 k bt104.1 bt104.2 true) else (if 0 < (bt104.1.size : Int) then (if (bt bt104.1 0) = 48 then (num_Read.j0 k bt104.1 bt104.2 (a0.toList != ([48] : List UInt8))) else (num_Read.j0 k bt104.1 bt104.2 false)) else (none)))
theorem num_Read.mono_l : ∀ k, (∀ y0 y1 y2, LeO (num_Read.j0 k y0 y1 y2) (num_Read.j0 (k + 1) y0 y1 y2)) ∧ (∀ y0 y1 y2 y3, LeO (num_Read.l0 k y0 y1 y2 y3) (num_Read.l0 (k + 1) y0 y1 y2 y3)) ∧ (∀ y0 y1 y2 y3 y4, LeO (num_Read.l1 k y0 y1 y2 y3 y4) (num_Read.l1 (k + 1) y0 y1 y2 y3 y4))
  | 0 => ⟨fun _ _ _ r h => by simp [num_Read.j0] at h, fun _ _ _ _ r h => by simp [num_Read.l0] at h, fun _ _ _ _ _ r h => by simp [num_Read.l1] at h⟩
  | k + 1 => by
    obtain ⟨ih0, ih1, ih2⟩ := num_Read.mono_l k
    refine ⟨?_, ?_, ?_⟩
    · intro y0 y1 y2
      unfold num_Read.j0
      repeat' first
      | (with_reducible exact ih0 _ _ _)
      | (with_reducible exact ih1 _ _ _ _)
      | (with_reducible exact ih2 _ _ _ _ _)
      | (with_reducible exact num_signed.mono _ _ _)
      | (with_reducible exact LeO.refl _)
      | (with_reducible exact LeO.none _)
      | (with_reducible refine LeO.ite ?_ ?_)
      | (with_reducible refine LeO.bind ?_ (fun _ => ?_))
      | exact ih0 _ _ _
      | exact ih1 _ _ _ _
      | exact ih2 _ _ _ _ _
      | exact num_signed.mono _ _ _
      | exact LeO.none _
      | refine LeO.ite ?_ ?_
      | refine LeO.bind ?_ (fun _ => ?_)
    · intro y0 y1 y2 y3
      unfold num_Read.l0
      repeat' first
      | (with_reducible exact ih0 _ _ _)
      | (with_reducible exact ih1 _ _ _ _)
      | (with_reducible exact ih2 _ _ _ _ _)
      | (with_reducible exact num_signed.mono _ _ _)
      | (with_reducible exact LeO.refl _)
      | (with_reducible exact LeO.none _)
      | (with_reducible refine LeO.ite ?_ ?_)
      | (with_reducible refine LeO.bind ?_ (fun _ => ?_))
      | exact ih0 _ _ _
      | exact ih1 _ _ _ _
      | exact ih2 _ _ _ _ _
      | exact num_signed.mono _ _ _
      | exact LeO.none _
      | refine LeO.ite ?_ ?_
      | refine LeO.bind ?_ (fun _ => ?_)
    · intro y0 y1 y2 y3 y4
      unfold num_Read.l1
      repeat' first
      | (with_reducible exact ih0 _ _ _)
      | (with_reducible exact ih1 _ _ _ _)
      | (with_reducible exact ih2 _ _ _ _ _)
      | (with_reducible exact num_signed.mono _ _ _)
      | (with_reducible exact LeO.refl _)
      | (with_reducible exact LeO.none _)
      | (with_reducible refine LeO.ite ?_ ?_)
      | (with_reducible refine LeO.bind ?_ (fun _ => ?_))
      | exact ih0 _ _ _
      | exact ih1 _ _ _ _
      | exact ih2 _ _ _ _ _
      | exact num_signed.mono _ _ _
      | exact LeO.none _
      | refine LeO.ite ?_ ?_
      | refine LeO.bind ?_ (fun _ => ?_)
theorem num_Read.mono : ∀ a0 k, LeO (num_Read.f k a0) (num_Read.f (k + 1) a0) := by
  intro a0 k
  obtain ⟨ih0, ih1, ih2⟩ := num_Read.mono_l k
  unfold num_Read.f
  repeat' first
      | (with_reducible exact ih0 _ _ _)
      | (with_reducible exact ih1 _ _ _ _)
      | (with_reducible exact ih2 _ _ _ _ _)
      | (with_reducible exact num_signed.mono _ _ _)
      | (with_reducible exact LeO.refl _)
      | (with_reducible exact LeO.none _)
      | (with_reducible refine LeO.ite ?_ ?_)
      | (with_reducible refine LeO.bind ?_ (fun _ => ?_))
      | exact ih0 _ _ _
      | exact ih1 _ _ _ _
      | exact ih2 _ _ _ _ _
      | exact num_signed.mono _ _ _
      | exact LeO.none _
      | refine LeO.ite ?_ ?_
      | refine LeO.bind ?_ (fun _ => ?_)
set_option maxHeartbeats 8000000 in
set_option maxRecDepth 100000 in
theorem num_Read.calls (k : Nat) (a0 : ByteArray) (r1 : Int) (r2 : Int) (w : World) (h : num_Read.f k a0 = some (r1, r2)) :
    Calls Try.prog 42 #[.string a0] w fun e w' => e = .returned (.tuple #[.int .i64 r1, .int .i64 r2]) ∧ Drawn0 w w' := by
  have H : ((strings_CutPrefix.f a0 (⟨#[45]⟩ : ByteArray)).bind fun bt104 => (if bt104.1.toList = ([] : List UInt8) then (num_Read.j0 k bt104.1 bt104.2 true) else (if 0 < (bt104.1.size : Int) then (if (bt bt104.1 0) = 48 then (num_Read.j0 k bt104.1 bt104.2 (a0.toList != ([48] : List UInt8))) else (num_Read.j0 k bt104.1 bt104.2 false)) else (none)))) = some (r1, r2) := h
  clear h
  replace H := Option.bind_eq_some_iff.mp H
  obtain ⟨⟨t104, t105⟩, A20, H⟩ := H
  replace H : (if t104.toList = ([] : List UInt8) then (num_Read.j0 k t104 t105 true) else (if 0 < (t104.size : Int) then (if (bt t104 0) = 48 then (num_Read.j0 k t104 t105 (a0.toList != ([48] : List UInt8))) else (num_Read.j0 k t104 t105 false)) else (none))) = some (r1, r2) := H
  have A2 := Aside0.mk A20
  clear A20
  have HC3 := Aside0.mk H
  clear H
  go_enter Try.func42, Try.ntmps42
  go_upto_region 2 with (first | ((with_reducible refine gate_callee (f := 54) rfl ?_); refine goesL_ (some 11) rfl rfl Try.func54 (by kernel_rfl) rfl #[.string a0, .string (⟨#[45]⟩ : ByteArray)] rfl (by (try simp only [List.map_toArray, List.map_cons, List.map_nil]); first | done | rfl | (simp only [List.length_drop, List.length_take]; rfl)) ?_; (with_reducible refine (strings_CutPrefix.calls a0 (⟨#[45]⟩ : ByteArray) t104 t105 _ A2.out).mono ?_); rintro e w' ⟨rfl, ⟨nd, rfl⟩⟩; refine ⟨_, rfl, ?_⟩))
  (try simp only [Act.put, List.setIfInBounds_toArray, List.set_cons_zero, List.set_cons_succ])
  go_cut [24] (fun v24 wc => ∃ (kq : Nat) (x24_2 : Bool), v24 = .bool x24_2 ∧ Aside0 (num_Read.j0 kq t104 t105 x24_2 = some (r1, r2)) ∧ Aside0 (kq ≤ k) ∧ Drawn0 w wc)
  case first =>
    have H := HC3.out
    clear HC3
    by_cases c4 : t104.toList = ([] : List UInt8)
    · rw [if_pos c4] at H
      have c4b0 : (t104.toList == ([] : List UInt8)) = true := beq_iff_eq.mpr c4
      have c4b1 : (t104.toList != ([] : List UInt8)) = false := bne_eq_false_iff_eq.mpr c4
      clear c4
      (first | rw [c4b0] | (simp only [i64_w, i32_w]; rw [c4b0]) | skip)
      have H' := Aside0.mk H
      clear H
      go_wp2
      go_meet
      case rel => exact ⟨_, (true), (by first | rfl | (simp; done) | (simp [*]; done)), H', ⟨by first | omega | exact Nat.le_refl _⟩, by repeat (first | exact Drawn0.refl _ | apply Drawn0.step)⟩
    · rw [if_neg c4] at H
      have c4b0 : (t104.toList == ([] : List UInt8)) = false := beq_eq_false_iff_ne.mpr c4
      have c4b1 : (t104.toList != ([] : List UInt8)) = true := bne_iff_ne.mpr c4
      (first | rw [c4b0] | (simp only [i64_w, i32_w]; rw [c4b0]) | skip)
      by_cases c5 : 0 < (t104.size : Int)
      · rw [if_pos c5] at H
        have c5b0 : decide (0 < (t104.size : Int)) = true := decide_eq_true c5
        have c5b1 : decide (0 < t104.size) = true := decide_eq_true (by omega)
        clear c5
        by_cases c7 : (bt t104 0) = 48
        · rw [if_pos c7] at H
          have c7b0 : ((bt t104 0) == 48) = true := beq_iff_eq.mpr c7
          have c7b1 : ((bt t104 0) != 48) = false := bne_eq_false_iff_eq.mpr c7
          clear c7
          have H' := Aside0.mk H
          clear H
          have p6 : 0 ≤ (0 : Int) := (by omega)
          have q6 : 0 < t104.size := (by have : (0 : Int) < (t104.size : Int) := of_decide_eq_true (by first | (with_reducible assumption) | assumption); omega)
          have hx6 : ∀ h : 0 < t104.size, ((t104[0]'h).toNat : Int) = bt t104 0 := bt_at t104 0
          clear p6
          have qi6 : (0 < (t104.size : Int)) = True := eq_true (of_decide_eq_true (by first | (with_reducible assumption) | assumption))
          replace q6 := eq_true q6
          go_wp2
          go_meet
          case rel => exact ⟨_, ((a0.toList != ([48] : List UInt8))), (by first | rfl | (simp; done) | (simp [*]; done)), H', ⟨by first | omega | exact Nat.le_refl _⟩, by repeat (first | exact Drawn0.refl _ | apply Drawn0.step)⟩
        · rw [if_neg c7] at H
          have c7b0 : ((bt t104 0) == 48) = false := beq_eq_false_iff_ne.mpr c7
          have c7b1 : ((bt t104 0) != 48) = true := bne_iff_ne.mpr c7
          have H' := Aside0.mk H
          clear H
          have p6 : 0 ≤ (0 : Int) := (by omega)
          have q6 : 0 < t104.size := (by have : (0 : Int) < (t104.size : Int) := of_decide_eq_true (by first | (with_reducible assumption) | assumption); omega)
          have hx6 : ∀ h : 0 < t104.size, ((t104[0]'h).toNat : Int) = bt t104 0 := bt_at t104 0
          clear p6
          have qi6 : (0 < (t104.size : Int)) = True := eq_true (of_decide_eq_true (by first | (with_reducible assumption) | assumption))
          replace q6 := eq_true q6
          go_wp2
          go_meet
          case rel => exact ⟨_, (false), (by first | rfl | (simp; done) | (simp [*]; done)), H', ⟨by first | omega | exact Nat.le_refl _⟩, by repeat (first | exact Drawn0.refl _ | apply Drawn0.step)⟩
      · rw [if_neg c5] at H
        exact absurd H (by simp)
  case rest =>
    clear HC3
    try clear p2
    try clear c4
    try clear c4b0
    try clear c4b1
    try clear c5
    try clear c5b0
    try clear c5b1
    try clear p6
    try clear q6
    try clear hx6
    try clear qi6
    try clear c7
    try clear c7b0
    try clear c7b1
    try clear p6
    try clear q6
    obtain ⟨kq, x24_2, rfl, HA, HJ2, ⟨mc2, rfl⟩⟩ := hcut
    cases kq with
    | zero => exact absurd HA.out (by simp [num_Read.j0])
    | succ kj2 =>
      have H := HA.out
      clear HA
      simp only [num_Read.j0] at H
      by_cases c8 : x24_2 = true
      · subst c8
        have H1 : (some (0, 1)) = some (r1, r2) := by rw [if_pos rfl] at H; exact H
        clear H
        have H := H1
        clear H1
        simp only [Option.some.injEq, Prod.mk.injEq] at H
        obtain ⟨rfl, rfl⟩ := H
        go_wp2
        go_ret2
        exact ⟨by first | rfl | (simp; done) | (simp [*]; done), by repeat (first | exact Drawn0.refl _ | apply Drawn0.step)⟩
      · replace c8 := Bool.eq_false_iff.mpr c8
        subst c8
        have H1 : (num_Read.l0 kj2 t104 t105 (t104.size : Int) 0) = some (r1, r2) := by rw [if_neg (show ¬ (false = true) by decide)] at H; exact H
        clear H
        have H := H1
        clear H1
        have H' := Aside0.mk H
        clear H
        go_wp2
        go_loopg [27] kj2 (fun kq v27 w' => ∃ (x27_2 : Int), v27 = .int .i64 x27_2 ∧ Aside0 (num_Read.l0 kq t104 t105 (t104.size : Int) x27_2 = some (r1, r2)) ∧ Aside0 (kq ≤ kj2) ∧ Drawn0 w w')
        case atStart => exact ⟨(0), (by first | rfl | (simp; done) | (simp [*]; done)), H', ⟨Nat.le_refl _⟩, by repeat (first | exact Drawn0.refl _ | apply Drawn0.step)⟩
        case round =>
          clear H'
          try clear c2
          try clear p2
          try clear c4
          try clear c4b0
          try clear c4b1
          try clear c5
          try clear c5b0
          try clear c5b1
          try clear p6
          try clear q6
          try clear hx6
          try clear qi6
          try clear c7
          try clear c7b0
          try clear c7b1
          try clear c8
          try clear p2
          try clear p6
          try clear q6
          obtain ⟨x27_2, rfl, HA, HK2, ⟨m2, rfl⟩⟩ := hrel
          cases gk with
          | zero => exact absurd HA.out (by simp [num_Read.l0])
          | succ k2 =>
            have H := HA.out
            clear HA
            simp only [num_Read.l0] at H
            by_cases c9 : x27_2 < (t104.size : Int)
            · rw [if_pos c9] at H
              have c9b0 : decide (x27_2 < (t104.size : Int)) = true := decide_eq_true c9
              clear c9
              by_cases c10 : 0 ≤ x27_2
              · rw [if_pos c10] at H
                have c10b0 : decide (0 ≤ x27_2) = true := decide_eq_true c10
                clear c10
                by_cases c11 : x27_2 < (t104.size : Int)
                · rw [if_pos c11] at H
                  have c11b0 : decide (x27_2 < (t104.size : Int)) = true := decide_eq_true c11
                  clear c11
                  by_cases c13 : (bt t104 x27_2) < 48
                  · rw [if_pos c13] at H
                    have c13b0 : decide ((bt t104 x27_2) < 48) = true := decide_eq_true c13
                    clear c13
                    simp only [Option.some.injEq, Prod.mk.injEq] at H
                    obtain ⟨rfl, rfl⟩ := H
                    have p12 : 0 ≤ (x27_2 : Int) := of_decide_eq_true (by first | (with_reducible assumption) | assumption)
                    have q12 : x27_2 < (t104.size : Int) := of_decide_eq_true (by first | (with_reducible assumption) | assumption)
                    have hx12 := bt_at t104 x27_2
                    replace p12 := eq_true p12
                    replace q12 := eq_true q12
                    go_wp2
                    go_ret2
                    exact ⟨by first | rfl | (simp; done) | (simp [*]; done), by repeat (first | exact Drawn0.refl _ | apply Drawn0.step)⟩
                  · rw [if_neg c13] at H
                    have c13b0 : decide ((bt t104 x27_2) < 48) = false := decide_eq_false c13
                    clear c13
                    by_cases c15 : (bt t104 x27_2) > 57
                    · rw [if_pos c15] at H
                      have c15b0 : decide (57 < (bt t104 x27_2)) = true := decide_eq_true c15
                      clear c15
                      simp only [Option.some.injEq, Prod.mk.injEq] at H
                      obtain ⟨rfl, rfl⟩ := H
                      have p12 : 0 ≤ (x27_2 : Int) := of_decide_eq_true (by first | (with_reducible assumption) | assumption)
                      have q12 : x27_2 < (t104.size : Int) := of_decide_eq_true (by first | (with_reducible assumption) | assumption)
                      have hx12 := bt_at t104 x27_2
                      replace p12 := eq_true p12
                      replace q12 := eq_true q12
                      have p14 : 0 ≤ (x27_2 : Int) := of_decide_eq_true (by first | (with_reducible assumption) | assumption)
                      have q14 : x27_2 < (t104.size : Int) := of_decide_eq_true (by first | (with_reducible assumption) | assumption)
                      have hx14 := bt_at t104 x27_2
                      replace p14 := eq_true p14
                      replace q14 := eq_true q14
                      go_wp2
                      go_ret2
                      exact ⟨by first | rfl | (simp; done) | (simp [*]; done), by repeat (first | exact Drawn0.refl _ | apply Drawn0.step)⟩
                    · rw [if_neg c15] at H
                      have c15b0 : decide (57 < (bt t104 x27_2)) = false := decide_eq_false c15
                      clear c15
                      have H' := Aside0.mk H
                      clear H
                      have p12 : 0 ≤ (x27_2 : Int) := of_decide_eq_true (by first | (with_reducible assumption) | assumption)
                      have q12 : x27_2 < (t104.size : Int) := of_decide_eq_true (by first | (with_reducible assumption) | assumption)
                      have hx12 := bt_at t104 x27_2
                      replace p12 := eq_true p12
                      replace q12 := eq_true q12
                      have p14 : 0 ≤ (x27_2 : Int) := of_decide_eq_true (by first | (with_reducible assumption) | assumption)
                      have q14 : x27_2 < (t104.size : Int) := of_decide_eq_true (by first | (with_reducible assumption) | assumption)
                      have hx14 := bt_at t104 x27_2
                      replace p14 := eq_true p14
                      replace q14 := eq_true q14
                      go_wp2
                      go_roundg k2
                      case measure => have := HJ2.out; have := HK2.out; omega
                      case rel => exact ⟨(wrap64 (x27_2 + 1)), (by first | rfl | (simp; done) | (simp [*]; done)), H', ⟨by have := HJ2.out; have := HK2.out; omega⟩, by repeat (first | exact Drawn0.refl _ | apply Drawn0.step)⟩
                · rw [if_neg c11] at H
                  exact absurd H (by simp)
              · rw [if_neg c10] at H
                exact absurd H (by simp)
            · rw [if_neg c9] at H
              have c9b0 : decide (x27_2 < (t104.size : Int)) = false := decide_eq_false c9
              clear c9
              by_cases c16 : (t104.size : Int) > 19
              · rw [if_pos c16] at H
                have c16b0 : decide (19 < (t104.size : Int)) = true := decide_eq_true c16
                have c16b1 : decide (19 < t104.size) = true := decide_eq_true (by omega)
                clear c16
                simp only [Option.some.injEq, Prod.mk.injEq] at H
                obtain ⟨rfl, rfl⟩ := H
                go_wp2
                go_ret2
                exact ⟨by first | rfl | (simp; done) | (simp [*]; done), by repeat (first | exact Drawn0.refl _ | apply Drawn0.step)⟩
              · rw [if_neg c16] at H
                have c16b0 : decide (19 < (t104.size : Int)) = false := decide_eq_false c16
                have c16b1 : decide (19 < t104.size) = false := decide_eq_false (by omega)
                clear c16
                have H' := Aside0.mk H
                clear H
                go_wp2
                go_loopg [7, 46] k2 (fun kq v7 v46 w' => ∃ (x7_3 : Int) (x46_3 : Int), v7 = .int .u64 x7_3 ∧ v46 = .int .i64 x46_3 ∧ Aside0 (num_Read.l1 kq t104 t105 x7_3 (t104.size : Int) x46_3 = some (r1, r2)) ∧ Aside0 (kq ≤ k2) ∧ Drawn0 w w')
                case atStart => exact ⟨(0), (0), (by first | rfl | (simp; done) | (simp [*]; done)), (by first | rfl | (simp; done) | (simp [*]; done)), H', ⟨Nat.le_refl _⟩, by repeat (first | exact Drawn0.refl _ | apply Drawn0.step)⟩
                case round =>
                  clear H'
                  try clear c1
                  try clear p1
                  try clear q1
                  try clear hx1
                  try clear c2
                  try clear p2
                  try clear c4
                  try clear c4b0
                  try clear c4b1
                  try clear c5
                  try clear c5b0
                  try clear c5b1
                  try clear p6
                  try clear q6
                  try clear hx6
                  try clear qi6
                  try clear c7
                  try clear c7b0
                  try clear c7b1
                  try clear c8
                  try clear c9
                  try clear c9b0
                  try clear c10
                  try clear c10b0
                  try clear c11
                  try clear c11b0
                  try clear p12
                  try clear q12
                  try clear hx12
                  try clear c13
                  try clear c13b0
                  try clear p14
                  try clear q14
                  try clear hx14
                  try clear c15
                  try clear c15b0
                  try clear c16
                  try clear c16b0
                  try clear c16b1
                  try clear p12
                  try clear p14
                  try clear p2
                  try clear p6
                  try clear q12
                  try clear q14
                  try clear q6
                  obtain ⟨x7_3, x46_3, rfl, rfl, HA, HK3, ⟨m3, rfl⟩⟩ := hrel
                  cases gk with
                  | zero => exact absurd HA.out (by simp [num_Read.l1])
                  | succ k3 =>
                    have H := HA.out
                    clear HA
                    simp only [num_Read.l1] at H
                    by_cases c17 : x46_3 < (t104.size : Int)
                    · rw [if_pos c17] at H
                      have c17b0 : decide (x46_3 < (t104.size : Int)) = true := decide_eq_true c17
                      clear c17
                      by_cases c18 : 0 ≤ x46_3
                      · rw [if_pos c18] at H
                        have c18b0 : decide (0 ≤ x46_3) = true := decide_eq_true c18
                        clear c18
                        by_cases c19 : x46_3 < (t104.size : Int)
                        · rw [if_pos c19] at H
                          have c19b0 : decide (x46_3 < (t104.size : Int)) = true := decide_eq_true c19
                          clear c19
                          have H' := Aside0.mk H
                          clear H
                          have p20 : 0 ≤ (x46_3 : Int) := of_decide_eq_true (by first | (with_reducible assumption) | assumption)
                          have q20 : x46_3 < (t104.size : Int) := of_decide_eq_true (by first | (with_reducible assumption) | assumption)
                          have hx20 := bt_at t104 x46_3
                          replace p20 := eq_true p20
                          replace q20 := eq_true q20
                          go_wp2
                          go_roundg k3
                          case measure => have := HJ2.out; have := HK2.out; have := HK3.out; omega
                          case rel => exact ⟨(IntKind.u64.wrap ((IntKind.u64.wrap (10 * x7_3)) + (((bt t104 x46_3) - 48) % 256))), (wrap64 (x46_3 + 1)), (by first | rfl | (simp; done) | (simp [*]; done)), (by first | rfl | (simp; done) | (simp [*]; done)), H', ⟨by have := HJ2.out; have := HK2.out; have := HK3.out; omega⟩, by repeat (first | exact Drawn0.refl _ | apply Drawn0.step)⟩
                        · rw [if_neg c19] at H
                          exact absurd H (by simp)
                      · rw [if_neg c18] at H
                        exact absurd H (by simp)
                    · rw [if_neg c17] at H
                      have c17b0 : decide (x46_3 < (t104.size : Int)) = false := decide_eq_false c17
                      clear c17
                      replace H := Option.bind_eq_some_iff.mp H
                      obtain ⟨⟨t106, t107⟩, A210, H⟩ := H
                      replace H : (some (t106, t107)) = some (r1, r2) := H
                      have A21 := Aside0.mk A210
                      clear A210
                      simp only [Option.some.injEq, Prod.mk.injEq] at H
                      obtain ⟨rfl, rfl⟩ := H
                      go_wp2_with (first | ((with_reducible refine gate_callee (f := 52) rfl ?_); refine goesL_ (some 60) rfl rfl Try.func52 (by kernel_rfl) rfl #[.int .u64 x7_3, .bool t105] rfl (by (try simp only [List.map_toArray, List.map_cons, List.map_nil]); first | done | rfl | (simp only [List.length_drop, List.length_take]; rfl)) ?_; (with_reducible refine (num_signed.calls k3 x7_3 t105 t106 t107 _ A21.out).mono ?_); rintro e w' ⟨rfl, ⟨nd, rfl⟩⟩; refine ⟨_, rfl, ?_⟩))
                      go_ret2
                      exact ⟨by first | rfl | (simp; done) | (simp [*]; done), by repeat (first | exact Drawn0.refl _ | apply Drawn0.step)⟩

end Go.Proofs.Ytjffpanpjjlkaaa.Ot
