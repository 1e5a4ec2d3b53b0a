/- Functions of the seat as plain Lean functions, each with a proof that the call answers what the function tells; written by a program of this work. No condition beyond those that each theorem names. -/
import Derived.Test.YtbmlpbgddlgdkaaDoorLxx0
import Derived.Test.YtbmlpbgddlgdkaaDoorLxx5
namespace Go.Proofs.YtbmlpbgddlgdkaaDoor.Lx
open Go.RowKit Go.Proofs.YtbmlpbgddlgdkaaDoorW.PrintWords Go.Proofs.YtbmlpbgddlgdkaaDoorW.PrintLast Go.Proofs.YtbmlpbgddlgdkaaDoorW.PrintMore
attribute [local go_sem] max2_int min2_int max_two min_two max_three min_three max_four min_four   -- for this text's walks alone
set_option linter.unusedVariables false
set_option linter.unusedSimpArgs false

/-! ### num_Text: function 23 -/
/-- digits of a number -/
def digf : Nat → Nat → List Int
  | 0, _ => []
  | f + 1, k => if k < 10 then [48 + (k : Int)] else digf f (k / 10) ++ [48 + (k : Int) % 10]
def mag (a : Int) : Int := if a < 0 then -a else a
def num_Text.f (a0 : Int) : Option ByteArray := if -9223372036854775808 ≤ a0 then (if a0 ≤ 9223372036854775807 then some (strOfNums ((if a0 < 0 then [45] else []) ++ digf 20 (mag a0).toNat)) else none) else none
theorem wrapu (n : Int) : Go.IntKind.u64.wrap n = n % 18446744073709551616 := by
  simp [IntKind.wrap, IntKind.bits, IntKind.signed]
theorem size_same (n : Int) (w : World) (h1 : -9223372036854775808 ≤ n) (h2 : n ≤ 9223372036854775807) :
    Calls Tryd.prog 36 #[.int .i64 n] w fun e w' => e = .returned (.int .u64 (mag n)) ∧ w = w' := by
  by_cases hn : n < 0
  · go_enter Tryd.func36, Tryd.ntmps36
    go_wp2
    go_ret
    refine ⟨?_, rfl⟩
    rw [wrapu, wrapu, mag, if_pos hn, show (-(n % 18446744073709551616)) % 18446744073709551616 = -n by omega]
    rfl
  · go_enter Tryd.func36, Tryd.ntmps36
    go_wp2
    go_ret
    refine ⟨?_, rfl⟩
    rw [mag, if_neg (by omega)]
    rfl
/-- what stands in the room's cells from a place on -/
def Tail (cs : Array Value) (m : Nat) (tl : List Int) : Prop := ∀ j, j < tl.length → cs[m + j]? = some (.int .u8 (tl.getD j 0))
theorem Tail.set {cs : Array Value} {m : Nat} {tl : List Int} (h : Tail cs m tl) (hm : 1 ≤ m) (hs : m ≤ cs.size) (x : Int) : Tail (cs.setIfInBounds (m - 1) (.int .u8 x)) (m - 1) (x :: tl) := by
  intro j hj
  cases j with
  | zero => rw [Nat.add_zero, Array.getElem?_setIfInBounds_self_of_lt (by omega)]; rfl
  | succ j =>
    rw [Array.getElem?_setIfInBounds_ne (by omega), show m - 1 + (j + 1) = m + j by omega]
    exact h j (by simpa using hj)
theorem room_text (w : World) (cs : Array Value) (m : Nat) (tl : List Int) (h : Tail cs m tl) (hl : tl.length = 21 - m) (hm : m ≤ 21) :
    (convert 31 9 (.slice (some ⟨w.heap.size, m, none⟩) (21 - m) (21 - m))).run Tryd.prog (w.alloc (.cells cs 60)) = .ok (.string (strOfNums tl)) (w.alloc (.cells cs 60)) := by
  refine string_of_reads (P := Tryd.prog) (src := 31) (dst := 9) (e := 5) Tryd.underlying31 Tryd.underlying5 Tryd.underlying9 ⟨hl, by omega, fun _ => ⟨_, rfl, fun j hj => ?_⟩⟩
  rw [show (⟨w.heap.size, m, none⟩ : Addr).add j = ⟨w.heap.size, m + j, none⟩ from by simp [Addr.add], World.cell?_alloc_new]
  exact h j (by omega)
theorem room_cut (w : World) (l : Int) (h0 : 0 ≤ l) (h1 : l ≤ 20) : ∀ W : World,
    (Instr.sliceAt 60 (.pointer (some ⟨w.heap.size, 0, none⟩)) (some (.int .i64 l)) none none).run Tryd.prog W = .ok (.slice (some ⟨w.heap.size, l.toNat, none⟩) (21 - l.toNat) (21 - l.toNat)) W := by
  intro W
  have hal : Tryd.prog.arrayLen 60 = 21 := by kernel_rfl
  have hel : Tryd.prog.elem 60 = 5 := by kernel_rfl
  have hsz : ∀ W : World, (sizeOf 5).run Tryd.prog W = .ok 1 W := fun W => by kernel_rfl
  rw [run_sliceAt_array_l W 60 _ (by rw [hal, hel]; exact Tryd.underlying60) .i64 l h0 (by rw [hal]; omega), hel, hsz, hal]
  simp only [Result.andThen, slicedAt]
  rw [if_neg (by omega)]
  simp [Addr.add]
  try (intro hz; omega)
theorem room_cell (w : World) (cs : Array Value) (hs : cs.size = 21) (i : Nat) (hi : i < 21) : ∃ v, (w.alloc (.cells cs 60)).cell? ⟨w.heap.size, i, none⟩ = some v := by
  rw [World.cell?_alloc_new]
  exact ⟨_, Array.getElem?_eq_getElem (by omega)⟩
set_option maxRecDepth 100000 in
set_option maxHeartbeats 4000000 in
theorem num_Text.calls (a0 : Int) (r : ByteArray) (w : World) (h : num_Text.f a0 = some r) :
    Calls Tryd.prog 23 #[.int .i64 a0] w fun e w' => e = .returned (.string r) ∧ Below w.heap.size w w' := by
  unfold num_Text.f at h
  by_cases h1 : -9223372036854775808 ≤ a0
  case neg => rw [if_neg h1] at h; cases h
  by_cases h2 : a0 ≤ 9223372036854775807
  case neg => rw [if_pos h1, if_neg h2] at h; cases h
  rw [if_pos h1, if_pos h2] at h
  have hr := Option.some.inj h
  clear h
  have hm0 : 0 ≤ mag a0 ∧ mag a0 ≤ 9223372036854775808 := by unfold mag; split <;> omega
  obtain ⟨N, hN⟩ := Int.eq_ofNat_of_zero_le hm0.1
  have hNb : N < 10000000000000000000 := by omega
  rw [hN, Int.toNat_natCast] at hr
  have HR := Lib.hid hr
  clear hr
  have hsame := size_same a0 (w.alloc (.cells (Array.replicate 21 (.int .u8 0)) 60)) h1 h2
  rw [hN] at hsame
  clear hm0
  have h45 : ((⟨#[45]⟩ : ByteArray)[0]'(by decide)).toNat = 45 := rfl
  by_cases hn : a0 < 0
  · go_enter Tryd.func23, Tryd.ntmps23
    go_wp2_with fail
    refine hsame.mono ?_
    rintro e w' ⟨rfl, rfl⟩
    clear hsame hN
    go_wp2_with fail
    go_loopw [4, 5] (fun v4 v5 wr => ∃ (m k : Nat) (cs : Array Value) (tl : List Int), m ≤ 21 ∧ 2 ≤ m ∧ k < 10000000000000000000 ∧ v4 = .int .i64 m ∧ v5 = .int .u64 k ∧ cs.size = 21 ∧ wr = w.alloc (.cells cs 60) ∧ Hid (k < 10 ^ (m - 2) ∧ tl.length = 21 - m ∧ Tail cs m tl ∧ digf (m - 1) k ++ tl = digf 20 N)) (fun v4 _ _ => (intOf v4).toNat)
    case atStart => exact ⟨21, N, _, [], by omega, by omega, hNb, rfl, rfl, by simp, rfl, Lib.hid ⟨hNb, rfl, fun j hj => by simp at hj, by simp⟩⟩
    case round =>
      obtain ⟨m, k, cs, tl, hm1, hm2, hkb, rfl, rfl, hcs, rfl, hi⟩ := hrel
      have hcs' := Lib.hid hcs
      obtain ⟨v1, c1⟩ := room_cell w cs hcs (m - 1) (by omega)
      obtain ⟨v2, c2⟩ := room_cell w (cs.setIfInBounds (m - 1) (.int .u8 (48 + (k : Int) % 10))) (by simpa using hcs) (m - 1 - 1) (by omega)
      clear hcs
      by_cases hk : k < 10
      · have hsl := room_cut w ((m : Int) - 1 - 1) (by omega) (by omega)
        have hcv : (convert 31 9 (.slice (some ⟨w.heap.size, m - 1 - 1, none⟩) (21 - (m - 1 - 1)) (21 - (m - 1 - 1)))).run Tryd.prog (w.alloc (.cells ((cs.setIfInBounds (m - 1) (.int .u8 (48 + (k : Int) % 10))).setIfInBounds (m - 1 - 1) (.int .u8 45)) 60)) = .ok (.string r) (w.alloc (.cells ((cs.setIfInBounds (m - 1) (.int .u8 (48 + (k : Int) % 10))).setIfInBounds (m - 1 - 1) (.int .u8 45)) 60)) := by
          have e := room_text w _ (m - 1 - 1) (45 :: (48 + (k : Int) % 10) :: tl) ((hi.out.2.2.1.set (by omega) (by rw [hcs'.out]; omega) _).set (by omega) (by rw [Array.size_setIfInBounds, hcs'.out]; omega) _) (by simp [hi.out.2.1]; omega) (by omega)
          rw [e, ← HR.out, if_pos hn, ← hi.out.2.2.2]
          obtain ⟨f, hf⟩ : ∃ f, m - 1 = f + 1 := ⟨m - 2, by omega⟩
          rw [hf, digf, if_pos hk, show (k : Int) % 10 = k by omega]; rfl
        rw [show ((m : Int) - 1 - 1).toNat = m - 1 - 1 by omega] at hsl
        clear hi
        go_wp2
        go_ret
        exact ⟨rfl, (Below.refl _ _).alloc (Nat.le_refl _) _⟩
      · have hi2 : Hid (k / 10 < 10 ^ (m - 1 - 2) ∧ ((48 + (k : Int) % 10) :: tl).length = 21 - (m - 1) ∧ Tail (cs.setIfInBounds (m - 1) (.int .u8 (48 + (k : Int) % 10))) (m - 1) ((48 + (k : Int) % 10) :: tl) ∧ digf (m - 1 - 1) (k / 10) ++ ((48 + (k : Int) % 10) :: tl) = digf 20 N) := by
          obtain ⟨q1, q2, q3, q4⟩ := hi.out
          have hm3 : 3 ≤ m := by
            rcases Nat.lt_or_ge m 3 with g | g
            · obtain rfl : m = 2 := by omega
              simp at q1; omega
            · exact g
          refine Lib.hid ⟨?_, by simp [q2]; omega, q3.set (by omega) (by rw [hcs'.out]; omega) _, ?_⟩
          · obtain ⟨g, rfl⟩ : ∃ g, m = g + 3 := ⟨m - 3, by omega⟩
            rw [show g + 3 - 1 - 2 = g by omega]
            rw [show g + 3 - 2 = g + 1 by omega, Nat.pow_succ] at q1
            omega
          · rw [← q4]
            obtain ⟨f, hf⟩ : ∃ f, m - 1 = f + 1 := ⟨m - 2, by omega⟩
            rw [hf, Nat.add_sub_cancel, digf, if_neg hk, List.append_assoc]; rfl
        have hcs2 : (cs.setIfInBounds (m - 1) (.int .u8 (48 + (k : Int) % 10))).size = 21 := by rw [Array.size_setIfInBounds, hcs'.out]
        have HCS2 := Lib.hid hcs2
        have hm3 : 3 ≤ m := by
          rcases Nat.lt_or_ge m 3 with g | g
          · obtain rfl : m = 2 := by omega
            have := hi.out.1
            simp at this; omega
          · exact g
        clear hi hcs2
        go_wp2
        go_roundw
        case rel => exact ⟨m - 1, k / 10, _, _, by omega, by omega, by omega, by rw [show ((m - 1 : Nat) : Int) = (m : Int) - 1 by omega], by rw [show ((k / 10 : Nat) : Int) = (k : Int) / 10 by omega], HCS2.out, rfl, hi2⟩
        case measure => simp [intOf]; omega
  · go_enter Tryd.func23, Tryd.ntmps23
    go_wp2_with fail
    refine hsame.mono ?_
    rintro e w' ⟨rfl, rfl⟩
    clear hsame hN
    go_wp2_with fail
    go_loopw [4, 5] (fun v4 v5 wr => ∃ (m k : Nat) (cs : Array Value) (tl : List Int), m ≤ 21 ∧ 2 ≤ m ∧ k < 10000000000000000000 ∧ v4 = .int .i64 m ∧ v5 = .int .u64 k ∧ cs.size = 21 ∧ wr = w.alloc (.cells cs 60) ∧ Hid (k < 10 ^ (m - 2) ∧ tl.length = 21 - m ∧ Tail cs m tl ∧ digf (m - 1) k ++ tl = digf 20 N)) (fun v4 _ _ => (intOf v4).toNat)
    case atStart => exact ⟨21, N, _, [], by omega, by omega, hNb, rfl, rfl, by simp, rfl, Lib.hid ⟨hNb, rfl, fun j hj => by simp at hj, by simp⟩⟩
    case round =>
      obtain ⟨m, k, cs, tl, hm1, hm2, hkb, rfl, rfl, hcs, rfl, hi⟩ := hrel
      have hcs' := Lib.hid hcs
      obtain ⟨v1, c1⟩ := room_cell w cs hcs (m - 1) (by omega)
      clear hcs
      by_cases hk : k < 10
      · have hsl := room_cut w ((m : Int) - 1) (by omega) (by omega)
        have hcv : (convert 31 9 (.slice (some ⟨w.heap.size, m - 1, none⟩) (21 - (m - 1)) (21 - (m - 1)))).run Tryd.prog (w.alloc (.cells (cs.setIfInBounds (m - 1) (.int .u8 (48 + (k : Int) % 10))) 60)) = .ok (.string r) (w.alloc (.cells (cs.setIfInBounds (m - 1) (.int .u8 (48 + (k : Int) % 10))) 60)) := by
          have e := room_text w _ (m - 1) ((48 + (k : Int) % 10) :: tl) (hi.out.2.2.1.set (by omega) (by rw [hcs'.out]; omega) _) (by simp [hi.out.2.1]; omega) (by omega)
          rw [e, ← HR.out, if_neg (by omega), ← hi.out.2.2.2]
          obtain ⟨f, hf⟩ : ∃ f, m - 1 = f + 1 := ⟨m - 2, by omega⟩
          rw [hf, digf, if_pos hk, show (k : Int) % 10 = k by omega]; rfl
        rw [show ((m : Int) - 1).toNat = m - 1 by omega] at hsl
        clear hi
        go_wp2
        go_ret
        exact ⟨rfl, (Below.refl _ _).alloc (Nat.le_refl _) _⟩
      · have hi2 : Hid (k / 10 < 10 ^ (m - 1 - 2) ∧ ((48 + (k : Int) % 10) :: tl).length = 21 - (m - 1) ∧ Tail (cs.setIfInBounds (m - 1) (.int .u8 (48 + (k : Int) % 10))) (m - 1) ((48 + (k : Int) % 10) :: tl) ∧ digf (m - 1 - 1) (k / 10) ++ ((48 + (k : Int) % 10) :: tl) = digf 20 N) := by
          obtain ⟨q1, q2, q3, q4⟩ := hi.out
          have hm3 : 3 ≤ m := by
            rcases Nat.lt_or_ge m 3 with g | g
            · obtain rfl : m = 2 := by omega
              simp at q1; omega
            · exact g
          refine Lib.hid ⟨?_, by simp [q2]; omega, q3.set (by omega) (by rw [hcs'.out]; omega) _, ?_⟩
          · obtain ⟨g, rfl⟩ : ∃ g, m = g + 3 := ⟨m - 3, by omega⟩
            rw [show g + 3 - 1 - 2 = g by omega]
            rw [show g + 3 - 2 = g + 1 by omega, Nat.pow_succ] at q1
            omega
          · rw [← q4]
            obtain ⟨f, hf⟩ : ∃ f, m - 1 = f + 1 := ⟨m - 2, by omega⟩
            rw [hf, Nat.add_sub_cancel, digf, if_neg hk, List.append_assoc]; rfl
        have hcs2 : (cs.setIfInBounds (m - 1) (.int .u8 (48 + (k : Int) % 10))).size = 21 := by rw [Array.size_setIfInBounds, hcs'.out]
        have HCS2 := Lib.hid hcs2
        have hm3 : 3 ≤ m := by
          rcases Nat.lt_or_ge m 3 with g | g
          · obtain rfl : m = 2 := by omega
            have := hi.out.1
            simp at this; omega
          · exact g
        clear hi hcs2
        go_wp2
        go_roundw
        case rel => exact ⟨m - 1, k / 10, _, _, by omega, by omega, by omega, by rw [show ((m - 1 : Nat) : Int) = (m : Int) - 1 by omega], by rw [show ((k / 10 : Nat) : Int) = (k : Int) / 10 by omega], HCS2.out, rfl, hi2⟩
        case measure => simp [intOf]; omega

-- NOT PRINTED: function 64 (bytealg_MakeNoZero)

-- NOT PRINTED: function 59 (strings_Builder_grow)

-- NOT PRINTED: function 48 (strings_Builder_Grow)

-- NOT PRINTED: function 49 (strings_Builder_WriteString)

-- NOT PRINTED: function 38 (strings_Replace)

/-! ### strings_ReplaceAll: function 25 -/

def strings_ReplaceAll.f (a0 : ByteArray) (a1 : ByteArray) (a2 : ByteArray) : Option ByteArray := if a0.size ≤ 1000 then (if 1 ≤ a1.size then (if a2.size ≤ 1000 then (if Lib.countB a0 a1 ≤ 100000 then some ⟨(Lib.replaceAll a0.data.toList a1.data.toList a2.data.toList).toArray⟩ else none) else none) else none) else none
theorem strings_ReplaceAll.calls (a0 : ByteArray) (a1 : ByteArray) (a2 : ByteArray) (r : ByteArray) (w : World) (h : strings_ReplaceAll.f a0 a1 a2 = some r) (hML : ML w := by first | exact hML | exact ML.below HB.out hML | exact ML.below (by repeat (first | exact HB.out | apply below_alloc | apply pw_below_drewN | apply below_drew1)) hML) :
    Calls Tryd.prog 25 #[.string a0, .string a1, .string a2] w fun e w' => e = .returned (.string r) ∧ Below w.heap.size w w' := by
  unfold strings_ReplaceAll.f at h
  by_cases c0 : a0.size ≤ 1000
  case neg => rw [if_neg c0] at h; cases h
  by_cases c1 : 1 ≤ a1.size
  case neg => rw [if_pos c0, if_neg c1] at h; cases h
  by_cases c2 : a2.size ≤ 1000
  case neg => rw [if_pos c0, if_pos c1, if_neg c2] at h; cases h
  by_cases c3 : Lib.countB a0 a1 ≤ 100000
  case neg => rw [if_pos c0, if_pos c1, if_pos c2, if_neg c3] at h; cases h
  rw [if_pos c0, if_pos c1, if_pos c2, if_pos c3] at h
  obtain rfl := Option.some.inj h
  obtain ⟨m, hm⟩ := hML.out
  have hmul : Lib.countB a0 a1 * a2.size ≤ 100000 * 1000 := Nat.mul_le_mul c3 c2
  exact Tryd.strings_ReplaceAll a0 a1 a2 m w (by omega) hm c1 (by omega)

/-! ### value_Check: function 37 -/
def value_Check.f (a0_0 : Int) (a0_1 : Int) (a0_2 : ByteArray) : Option (Int) := if a0_0 = 0 then (if a0_1 = 0 then (if a0_2.toList = [] then some 0 else some 1) else some 1) else (if a0_0 = 1 then (if a0_2.toList = [] then some 0 else some 1) else (if a0_0 = 2 then (if a0_1 = 0 then (if (a0_2.size : Int) ≤ 64 then some 0 else some 1) else some 1) else (if a0_0 = 3 then (if a0_1 = Go.bits .and .i64 a0_1 1 then (if a0_2.toList = [] then some 0 else some 1) else some 1) else some 1)))
theorem value_Check.kind3 (a0_1 : Int) (a0_2 : ByteArray) (n0 : a0_1 = Go.bits .and .i64 a0_1 1) : value_Check.f 3 a0_1 a0_2 = if a0_2.toList = [] then some 0 else some 1 := by
  unfold value_Check.f
  rw [if_neg (by decide), if_neg (by decide), if_neg (by decide), if_pos rfl, if_pos n0]
set_option maxHeartbeats 8000000 in
set_option maxRecDepth 100000 in
theorem value_Check.calls (a0_0 : Int) (a0_1 : Int) (a0_2 : ByteArray) (r : Int) (w : World) (h : value_Check.f a0_0 a0_1 a0_2 = some r) :
    Calls Tryd.prog 37 #[.agg #[.int .i64 a0_0, .int .i64 a0_1, .string a0_2]] w fun e w' => e = .returned (.int .i64 r) ∧ Below w.heap.size w w' := by
  have hu50 := Tryd.underlying50
  have HB := Aside0.mk (Below.refl w.heap.size w)
  have hemp : a0_2.toList = [] → a0_2 = ⟨#[]⟩ := fun e => by
    cases a0_2 with | mk d => cases d with | mk l => simp [ByteArray.toList_eq] at e; subst e; rfl
  by_cases k0 : a0_0 = 0
  · subst k0
    by_cases n0 : a0_1 = 0
    · subst n0
      by_cases s0 : a0_2.toList = []
      · obtain rfl := hemp s0
        simp [value_Check.f] at h
        subst h
        clear hemp s0
        go_enter Tryd.func37, Tryd.ntmps37
        go_wp2
        go_ret
        exact ⟨rfl, by repeat (first | (with_reducible first | exact HB.out | apply below_alloc | apply pw_below_drewN | apply below_drew1) | exact HB.out)⟩
      · have s1 : a0_2.toList.isEmpty = false := by simpa using s0
        simp [value_Check.f, s0] at h
        subst h
        clear hemp s0
        go_enter Tryd.func37, Tryd.ntmps37
        go_wp2
        go_ret
        exact ⟨rfl, by repeat (first | (with_reducible first | exact HB.out | apply below_alloc | apply pw_below_drewN | apply below_drew1) | exact HB.out)⟩
    · skip
      have n1 : (a0_1 == 0) = false := by simpa using n0
      have n2 : decide (a0_1 = 0) = false := by simpa using n0
      simp [value_Check.f, n0] at h
      subst h
      clear hemp n0
      go_enter Tryd.func37, Tryd.ntmps37
      go_wp2
      go_ret
      exact ⟨rfl, by repeat (first | (with_reducible first | exact HB.out | apply below_alloc | apply pw_below_drewN | apply below_drew1) | exact HB.out)⟩
  have k01 : (a0_0 == 0) = false := by simpa using k0
  have k02 : decide (a0_0 = 0) = false := by simpa using k0
  by_cases k1 : a0_0 = 1
  · subst k1
    clear k0 k01 k02
    by_cases s0 : a0_2.toList = []
    · obtain rfl := hemp s0
      simp [value_Check.f] at h
      subst h
      clear hemp s0
      go_enter Tryd.func37, Tryd.ntmps37
      go_wp2
      go_ret
      exact ⟨rfl, by repeat (first | (with_reducible first | exact HB.out | apply below_alloc | apply pw_below_drewN | apply below_drew1) | exact HB.out)⟩
    · have s1 : a0_2.toList.isEmpty = false := by simpa using s0
      simp [value_Check.f, s0] at h
      subst h
      clear hemp s0
      go_enter Tryd.func37, Tryd.ntmps37
      go_wp2
      go_ret
      exact ⟨rfl, by repeat (first | (with_reducible first | exact HB.out | apply below_alloc | apply pw_below_drewN | apply below_drew1) | exact HB.out)⟩
  have k11 : (a0_0 == 1) = false := by simpa using k1
  have k12 : decide (a0_0 = 1) = false := by simpa using k1
  by_cases k2 : a0_0 = 2
  · subst k2
    clear k0 k01 k02 k1 k11 k12
    by_cases n0 : a0_1 = 0
    · subst n0
      by_cases z0 : (a0_2.size : Int) ≤ 64
      · skip
        have z1 : decide ((a0_2.size : Int) ≤ 64) = true := decide_eq_true z0
        have z2 : decide (a0_2.size ≤ 64) = true := decide_eq_true (by omega)
        simp [value_Check.f, z0] at h
        subst h
        clear hemp z0
        go_enter Tryd.func37, Tryd.ntmps37
        go_wp2
        go_ret
        exact ⟨rfl, by repeat (first | (with_reducible first | exact HB.out | apply below_alloc | apply pw_below_drewN | apply below_drew1) | exact HB.out)⟩
      · skip
        have z1 : decide ((a0_2.size : Int) ≤ 64) = false := decide_eq_false z0
        have z2 : decide (a0_2.size ≤ 64) = false := decide_eq_false (by omega)
        simp [value_Check.f, z0] at h
        subst h
        clear hemp z0
        go_enter Tryd.func37, Tryd.ntmps37
        go_wp2
        go_ret
        exact ⟨rfl, by repeat (first | (with_reducible first | exact HB.out | apply below_alloc | apply pw_below_drewN | apply below_drew1) | exact HB.out)⟩
    · skip
      have n1 : (a0_1 == 0) = false := by simpa using n0
      have n2 : decide (a0_1 = 0) = false := by simpa using n0
      simp [value_Check.f, n0] at h
      subst h
      clear hemp n0
      go_enter Tryd.func37, Tryd.ntmps37
      go_wp2
      go_ret
      exact ⟨rfl, by repeat (first | (with_reducible first | exact HB.out | apply below_alloc | apply pw_below_drewN | apply below_drew1) | exact HB.out)⟩
  have k21 : (a0_0 == 2) = false := by simpa using k2
  have k22 : decide (a0_0 = 2) = false := by simpa using k2
  by_cases k3 : a0_0 = 3
  · subst k3
    clear k0 k01 k02 k1 k11 k12 k2 k21 k22
    by_cases n0 : a0_1 = Go.bits .and .i64 a0_1 1
    · have n1 : (a0_1 == Go.bits .and .i64 a0_1 1) = true := by simpa using n0
      have n2 : decide (a0_1 = Go.bits .and .i64 a0_1 1) = true := decide_eq_true n0
      have n3 := value_Check.kind3 a0_1 a0_2 n0
      rw [n3] at h
      clear n3
      by_cases s0 : a0_2.toList = []
      · obtain rfl := hemp s0
        rw [if_pos s0] at h
        obtain rfl := Option.some.inj h
        clear hemp s0 n0 h
        go_enter Tryd.func37, Tryd.ntmps37
        go_wp2
        go_ret
        exact ⟨rfl, by repeat (first | (with_reducible first | exact HB.out | apply below_alloc | apply pw_below_drewN | apply below_drew1) | exact HB.out)⟩
      · have s1 : a0_2.toList.isEmpty = false := by simpa using s0
        rw [if_neg s0] at h
        obtain rfl := Option.some.inj h
        clear hemp s0 n0 h
        go_enter Tryd.func37, Tryd.ntmps37
        go_wp2
        go_ret
        exact ⟨rfl, by repeat (first | (with_reducible first | exact HB.out | apply below_alloc | apply pw_below_drewN | apply below_drew1) | exact HB.out)⟩
    · have n1 : (a0_1 == Go.bits .and .i64 a0_1 1) = false := by simpa using n0
      have n2 : decide (a0_1 = Go.bits .and .i64 a0_1 1) = false := decide_eq_false n0
      have n3 : value_Check.f 3 a0_1 a0_2 = some 1 := by unfold value_Check.f; rw [if_neg (by decide), if_neg (by decide), if_neg (by decide), if_pos rfl, if_neg n0]
      rw [n3] at h
      obtain rfl := Option.some.inj h
      clear hemp n0 n3 h
      go_enter Tryd.func37, Tryd.ntmps37
      go_wp2
      go_ret
      exact ⟨rfl, by repeat (first | (with_reducible first | exact HB.out | apply below_alloc | apply pw_below_drewN | apply below_drew1) | exact HB.out)⟩
  have k31 : (a0_0 == 3) = false := by simpa using k3
  have k32 : decide (a0_0 = 3) = false := by simpa using k3
  simp [value_Check.f, k0, k1, k2, k3] at h
  subst h
  clear hemp k0 k1 k2 k3
  go_enter Tryd.func37, Tryd.ntmps37
  go_wp2
  go_ret
  exact ⟨rfl, by repeat (first | (with_reducible first | exact HB.out | apply below_alloc | apply pw_below_drewN | apply below_drew1) | exact HB.out)⟩

/-! ### value_Show: function 24 -/
def value_Show.j0 : Nat → Bool → Int → Int → ByteArray → Option (ByteArray)
  | 0, _, _, _, _ => none
  | k + 1, x23, x156000, x156001, x156002 => if x23 = true then (some (⟨#[116, 114, 117, 101]⟩ : ByteArray)) else (if x156000 = 3 then (some (⟨#[102, 97, 108, 115, 101]⟩ : ByteArray)) else (some (⟨#[110, 117, 108, 108]⟩ : ByteArray)))
def value_Show.f (k : Nat) (a0_0 : Int) (a0_1 : Int) (a0_2 : ByteArray) : Option (ByteArray) := (value_Check.f a0_0 a0_1 a0_2).bind fun t156 => (if t156 = 0 then (if a0_0 = 1 then ((num_Text.f a0_1).bind fun t157 => (some t157)) else (if a0_0 = 2 then ((strings_ReplaceAll.f a0_2 (⟨#[39]⟩ : ByteArray) (⟨#[39, 39]⟩ : ByteArray)).bind fun t158 => (if 1 + t158.size ≤ 9223372036854775807 then (if ((⟨#[39]⟩ : ByteArray) ++ t158).size + 1 ≤ 9223372036854775807 then (some (((⟨#[39]⟩ : ByteArray) ++ t158) ++ (⟨#[39]⟩ : ByteArray))) else (none)) else (none))) else (if a0_0 = 3 then (value_Show.j0 k (a0_1 == 1) a0_0 a0_1 a0_2) else (value_Show.j0 k false a0_0 a0_1 a0_2)))) else (some (⟨#[110, 117, 108, 108]⟩ : ByteArray)))
theorem value_Show.mono_l : ∀ k, (∀ y0 y1 y2 y3, LeO (value_Show.j0 k y0 y1 y2 y3) (value_Show.j0 (k + 1) y0 y1 y2 y3))
  | 0 => fun _ _ _ _ r h => by simp [value_Show.j0] at h
  | k + 1 => by
    have ih0 := value_Show.mono_l k
    · intro y0 y1 y2 y3
      unfold value_Show.j0
      repeat' first
      | (with_reducible exact ih0 _ _ _ _)
      | (with_reducible exact LeO.refl _)
      | (with_reducible exact LeO.none _)
      | (with_reducible refine LeO.ite ?_ ?_)
      | (with_reducible refine LeO.bind ?_ (fun _ => ?_))
      | exact ih0 _ _ _ _
      | exact LeO.none _
      | refine LeO.ite ?_ ?_
      | refine LeO.bind ?_ (fun _ => ?_)
theorem value_Show.mono : ∀ a0 a1 a2 k, LeO (value_Show.f k a0 a1 a2) (value_Show.f (k + 1) a0 a1 a2) := by
  intro a0 a1 a2 k
  have ih0 := value_Show.mono_l k
  unfold value_Show.f
  repeat' first
      | (with_reducible exact ih0 _ _ _ _)
      | (with_reducible exact LeO.refl _)
      | (with_reducible exact LeO.none _)
      | (with_reducible refine LeO.ite ?_ ?_)
      | (with_reducible refine LeO.bind ?_ (fun _ => ?_))
      | exact ih0 _ _ _ _
      | exact LeO.none _
      | refine LeO.ite ?_ ?_
      | refine LeO.bind ?_ (fun _ => ?_)
set_option maxHeartbeats 8000000 in
set_option maxRecDepth 100000 in
theorem value_Show.calls (k : Nat) (a0_0 : Int) (a0_1 : Int) (a0_2 : ByteArray) (r : ByteArray) (w : World) (h : value_Show.f k a0_0 a0_1 a0_2 = some r) (hML : ML w := by first | exact hML | exact ML.below HB.out hML | exact ML.below (by repeat (first | exact HB.out | apply below_alloc | apply pw_below_drewN | apply below_drew1 | exact Below.refl _ _)) hML) :
    Calls Tryd.prog 24 #[.agg #[.int .i64 a0_0, .int .i64 a0_1, .string a0_2]] w fun e w' => e = .returned (.string r) ∧ Below w.heap.size w w' := by
  have hu50 := Tryd.underlying50
  have HB := Aside0.mk (Below.refl w.heap.size w)
  have H : ((value_Check.f a0_0 a0_1 a0_2).bind fun t156 => (if t156 = 0 then (if a0_0 = 1 then ((num_Text.f a0_1).bind fun t157 => (some t157)) else (if a0_0 = 2 then ((strings_ReplaceAll.f a0_2 (⟨#[39]⟩ : ByteArray) (⟨#[39, 39]⟩ : ByteArray)).bind fun t158 => (if 1 + t158.size ≤ 9223372036854775807 then (if ((⟨#[39]⟩ : ByteArray) ++ t158).size + 1 ≤ 9223372036854775807 then (some (((⟨#[39]⟩ : ByteArray) ++ t158) ++ (⟨#[39]⟩ : ByteArray))) else (none)) else (none))) else (if a0_0 = 3 then (value_Show.j0 k (a0_1 == 1) a0_0 a0_1 a0_2) else (value_Show.j0 k false a0_0 a0_1 a0_2)))) else (some (⟨#[110, 117, 108, 108]⟩ : ByteArray)))) = some r := h
  clear h
  replace H := Option.bind_eq_some_iff.mp H
  obtain ⟨t156, A20, H⟩ := H
  replace H : (if t156 = 0 then (if a0_0 = 1 then ((num_Text.f a0_1).bind fun t157 => (some t157)) else (if a0_0 = 2 then ((strings_ReplaceAll.f a0_2 (⟨#[39]⟩ : ByteArray) (⟨#[39, 39]⟩ : ByteArray)).bind fun t158 => (if 1 + t158.size ≤ 9223372036854775807 then (if ((⟨#[39]⟩ : ByteArray) ++ t158).size + 1 ≤ 9223372036854775807 then (some (((⟨#[39]⟩ : ByteArray) ++ t158) ++ (⟨#[39]⟩ : ByteArray))) else (none)) else (none))) else (if a0_0 = 3 then (value_Show.j0 k (a0_1 == 1) a0_0 a0_1 a0_2) else (value_Show.j0 k false a0_0 a0_1 a0_2)))) else (some (⟨#[110, 117, 108, 108]⟩ : ByteArray))) = some r := H
  have A2 := Aside0.mk A20
  clear A20
  by_cases c3 : t156 = 0
  · rw [if_pos c3] at H
    have c3b0 : (t156 == 0) = true := beq_iff_eq.mpr c3
    have c3b1 : (t156 != 0) = false := bne_eq_false_iff_eq.mpr c3
    clear c3
    by_cases c4 : a0_0 = 1
    · rw [if_pos c4] at H
      have c4b0 : (a0_0 == 1) = true := beq_iff_eq.mpr c4
      have c4b1 : (a0_0 != 1) = false := bne_eq_false_iff_eq.mpr c4
      clear c4
      replace H := Option.bind_eq_some_iff.mp H
      obtain ⟨t157, A50, H⟩ := H
      replace H : (some t157) = some r := H
      have A5 := Aside0.mk A50
      clear A50
      obtain rfl := Option.some.inj H
      go_enter Tryd.func24, Tryd.ntmps24
      go_wp2_with (first | ((with_reducible refine gate_dst (N := 1) rfl ?_); refine box_event ?hg (N := 1) ?hd (cs := #[.int .i64 a0_0, .int .i64 a0_1, .string a0_2]) (t := 50) ?hr ?_; (case hd => rfl); (case hg => rfl); (case hr => first | (go_simp; done) | (go_simp; rfl)); intro gb155 hg w6 hbox hb; have n0_ := Aside0.mk (below_step (by repeat (first | (with_reducible first | exact HB.out | apply below_alloc | apply pw_below_drewN | apply below_drew1) | exact HB.out)) hb); have n1_ := Aside0.mk (hbox); have n2_ := Aside0.mk ((by rw [hg]; exact (below_size (by repeat (first | (with_reducible first | exact HB.out | apply below_alloc | apply pw_below_drewN | apply below_drew1) | exact HB.out))) : w.heap.size ≤ gb155)); have n3_ := Aside0.mk ((by rw [hg]; exact (below_size (by repeat (first | (with_reducible first | exact HB.out | apply below_alloc | apply pw_below_drewN | apply below_drew1) | exact HB.out))) : w.heap.size ≤ gb155)); clear HB; have HB := n0_; have BK155 := n1_; have GW155 := n2_; have GE155 := n3_; clear n0_ n1_ n2_ n3_; clear hb hbox hg; have hcz7_0 : w6.cell? ⟨gb155, 0, none⟩ = some (.int .i64 a0_0) := (blk_cell BK155.out 0).trans rfl; have hcz7_1 : w6.cell? ⟨gb155, 1, none⟩ = some (.int .i64 a0_1) := (blk_cell BK155.out 1).trans rfl; have hcz7_2 : w6.cell? ⟨gb155, 2, none⟩ = some (.string a0_2) := (blk_cell BK155.out 2).trans rfl; have hfz7_0 := blk_frozen BK155.out 0; have hfz7_1 := blk_frozen BK155.out 1; have hfz7_2 := blk_frozen BK155.out 2) | ((with_reducible refine gate_callee (f := 37) rfl ?_); refine goesL_ (some 5) rfl rfl Tryd.func37 (by kernel_rfl) rfl #[.agg #[.int .i64 a0_0, .int .i64 a0_1, .string a0_2]] rfl (by (try simp only [List.map_toArray, List.map_cons, List.map_nil]); first | done | rfl | (simp only [List.length_drop, List.length_take]; rfl)) ?_; (with_reducible refine (value_Check.calls a0_0 a0_1 a0_2 t156 _ A2.out).mono ?_); rintro e w8 ⟨rfl, hb⟩; refine ⟨_, rfl, ?_⟩; have n0_ := Aside0.mk (blk_below (g := gb155) (o := .cells #[.int .i64 a0_0, .int .i64 a0_1, .string a0_2] 50 (0, 0)) (by (with_reducible repeat (first | refine blk_drewN ?_ _ | refine blk_drew ?_ | refine blk_alloc ?_ _)); exact BK155.out) hb); have n1_ := Aside0.mk (below_step (by repeat (first | (with_reducible first | exact HB.out | apply below_alloc | apply pw_below_drewN | apply below_drew1 | refine below_set ?_ GE155.out) | exact HB.out)) hb); clear BK155; clear HB; have BK155 := n0_; have HB := n1_; clear n0_ n1_; (try clear hb); (try clear hb2); (try clear hk); (try clear hi); have hcz9_0 : w8.cell? ⟨gb155, 0, none⟩ = some (.int .i64 a0_0) := (blk_cell BK155.out 0).trans rfl; have hcz9_1 : w8.cell? ⟨gb155, 1, none⟩ = some (.int .i64 a0_1) := (blk_cell BK155.out 1).trans rfl; have hcz9_2 : w8.cell? ⟨gb155, 2, none⟩ = some (.string a0_2) := (blk_cell BK155.out 2).trans rfl; have hfz9_0 := blk_frozen BK155.out 0; have hfz9_1 := blk_frozen BK155.out 1; have hfz9_2 := blk_frozen BK155.out 2) | ((with_reducible refine gate_callee (f := 23) rfl ?_); refine goesL_ (some 13) rfl rfl Tryd.func23 (by kernel_rfl) rfl #[.int .i64 a0_1] rfl (by (try simp only [List.map_toArray, List.map_cons, List.map_nil]); first | done | rfl | (simp only [List.length_drop, List.length_take]; rfl)) ?_; (with_reducible refine (num_Text.calls a0_1 t157 _ A5.out).mono ?_); rintro e w10 ⟨rfl, hb⟩; refine ⟨_, rfl, ?_⟩; have n0_ := Aside0.mk (blk_below (g := gb155) (o := .cells #[.int .i64 a0_0, .int .i64 a0_1, .string a0_2] 50 (0, 0)) (by (with_reducible repeat (first | refine blk_drewN ?_ _ | refine blk_drew ?_ | refine blk_alloc ?_ _)); exact BK155.out) hb); have n1_ := Aside0.mk (below_step (by repeat (first | (with_reducible first | exact HB.out | apply below_alloc | apply pw_below_drewN | apply below_drew1 | refine below_set ?_ GE155.out) | exact HB.out)) hb); clear BK155; clear HB; have BK155 := n0_; have HB := n1_; clear n0_ n1_; (try clear hb); (try clear hb2); (try clear hk); (try clear hi)))
      go_ret
      exact ⟨by first | rfl | (simp [errW_none, errW_some] <;> rfl) | (simp [*, errW_none, errW_some] <;> rfl), by repeat (first | (with_reducible first | exact HB.out | apply below_alloc | apply pw_below_drewN | apply below_drew1 | refine below_set ?_ GE155.out) | exact HB.out)⟩
    · rw [if_neg c4] at H
      have c4b0 : (a0_0 == 1) = false := beq_eq_false_iff_ne.mpr c4
      have c4b1 : (a0_0 != 1) = true := bne_iff_ne.mpr c4
      by_cases c11 : a0_0 = 2
      · rw [if_pos c11] at H
        have c11b0 : (a0_0 == 2) = true := beq_iff_eq.mpr c11
        have c11b1 : (a0_0 != 2) = false := bne_eq_false_iff_eq.mpr c11
        clear c11
        replace H := Option.bind_eq_some_iff.mp H
        obtain ⟨t158, A120, H⟩ := H
        replace H : (if 1 + t158.size ≤ 9223372036854775807 then (if ((⟨#[39]⟩ : ByteArray) ++ t158).size + 1 ≤ 9223372036854775807 then (some (((⟨#[39]⟩ : ByteArray) ++ t158) ++ (⟨#[39]⟩ : ByteArray))) else (none)) else (none)) = some r := H
        have A12 := Aside0.mk A120
        clear A120
        by_cases c13 : 1 + t158.size ≤ 9223372036854775807
        · rw [if_pos c13] at H
          have c13b0 := eq_true c13
          have c13b1 : decide (1 + t158.size ≤ 9223372036854775807) = true := decide_eq_true c13
          try have c13b2 : (9223372036854775807 < 1 + t158.size) = False := eq_false (Nat.not_lt.2 c13)
          by_cases c14 : ((⟨#[39]⟩ : ByteArray) ++ t158).size + 1 ≤ 9223372036854775807
          · rw [if_pos c14] at H
            have c14b0 := eq_true c14
            have c14b1 : decide (((⟨#[39]⟩ : ByteArray) ++ t158).size + 1 ≤ 9223372036854775807) = true := decide_eq_true c14
            have c14s : 1 + t158.size + 1 ≤ 9223372036854775807 := by rw [ByteArray.size_append] at c14; exact c14
            have c14q := eq_true c14s
            have c14p : (9223372036854775807 < 1 + t158.size + 1) = False := eq_false (Nat.not_lt.2 c14s)
            try have c14b2 : (9223372036854775807 < ((⟨#[39]⟩ : ByteArray) ++ t158).size + 1) = False := eq_false (Nat.not_lt.2 c14)
            obtain rfl := Option.some.inj H
            go_enter Tryd.func24, Tryd.ntmps24
            go_wp2_with (first | ((with_reducible refine gate_dst (N := 1) rfl ?_); refine box_event ?hg (N := 1) ?hd (cs := #[.int .i64 a0_0, .int .i64 a0_1, .string a0_2]) (t := 50) ?hr ?_; (case hd => rfl); (case hg => rfl); (case hr => first | (go_simp; done) | (go_simp; rfl)); intro gb155 hg w15 hbox hb; have n0_ := Aside0.mk (below_step (by repeat (first | (with_reducible first | exact HB.out | apply below_alloc | apply pw_below_drewN | apply below_drew1) | exact HB.out)) hb); have n1_ := Aside0.mk (hbox); have n2_ := Aside0.mk ((by rw [hg]; exact (below_size (by repeat (first | (with_reducible first | exact HB.out | apply below_alloc | apply pw_below_drewN | apply below_drew1) | exact HB.out))) : w.heap.size ≤ gb155)); have n3_ := Aside0.mk ((by rw [hg]; exact (below_size (by repeat (first | (with_reducible first | exact HB.out | apply below_alloc | apply pw_below_drewN | apply below_drew1) | exact HB.out))) : w.heap.size ≤ gb155)); clear HB; have HB := n0_; have BK155 := n1_; have GW155 := n2_; have GE155 := n3_; clear n0_ n1_ n2_ n3_; clear hb hbox hg; have hcz16_0 : w15.cell? ⟨gb155, 0, none⟩ = some (.int .i64 a0_0) := (blk_cell BK155.out 0).trans rfl; have hcz16_1 : w15.cell? ⟨gb155, 1, none⟩ = some (.int .i64 a0_1) := (blk_cell BK155.out 1).trans rfl; have hcz16_2 : w15.cell? ⟨gb155, 2, none⟩ = some (.string a0_2) := (blk_cell BK155.out 2).trans rfl; have hfz16_0 := blk_frozen BK155.out 0; have hfz16_1 := blk_frozen BK155.out 1; have hfz16_2 := blk_frozen BK155.out 2) | ((with_reducible refine gate_callee (f := 37) rfl ?_); refine goesL_ (some 5) rfl rfl Tryd.func37 (by kernel_rfl) rfl #[.agg #[.int .i64 a0_0, .int .i64 a0_1, .string a0_2]] rfl (by (try simp only [List.map_toArray, List.map_cons, List.map_nil]); first | done | rfl | (simp only [List.length_drop, List.length_take]; rfl)) ?_; (with_reducible refine (value_Check.calls a0_0 a0_1 a0_2 t156 _ A2.out).mono ?_); rintro e w17 ⟨rfl, hb⟩; refine ⟨_, rfl, ?_⟩; have n0_ := Aside0.mk (blk_below (g := gb155) (o := .cells #[.int .i64 a0_0, .int .i64 a0_1, .string a0_2] 50 (0, 0)) (by (with_reducible repeat (first | refine blk_drewN ?_ _ | refine blk_drew ?_ | refine blk_alloc ?_ _)); exact BK155.out) hb); have n1_ := Aside0.mk (below_step (by repeat (first | (with_reducible first | exact HB.out | apply below_alloc | apply pw_below_drewN | apply below_drew1 | refine below_set ?_ GE155.out) | exact HB.out)) hb); clear BK155; clear HB; have BK155 := n0_; have HB := n1_; clear n0_ n1_; (try clear hb); (try clear hb2); (try clear hk); (try clear hi); have hcz18_0 : w17.cell? ⟨gb155, 0, none⟩ = some (.int .i64 a0_0) := (blk_cell BK155.out 0).trans rfl; have hcz18_1 : w17.cell? ⟨gb155, 1, none⟩ = some (.int .i64 a0_1) := (blk_cell BK155.out 1).trans rfl; have hcz18_2 : w17.cell? ⟨gb155, 2, none⟩ = some (.string a0_2) := (blk_cell BK155.out 2).trans rfl; have hfz18_0 := blk_frozen BK155.out 0; have hfz18_1 := blk_frozen BK155.out 1; have hfz18_2 := blk_frozen BK155.out 2) | ((with_reducible refine gate_callee (f := 25) rfl ?_); refine goesL_ (some 20) rfl rfl Tryd.func25 (by kernel_rfl) rfl #[.string a0_2, .string (⟨#[39]⟩ : ByteArray), .string (⟨#[39, 39]⟩ : ByteArray)] rfl (by (try simp only [List.map_toArray, List.map_cons, List.map_nil]); first | done | rfl | (simp only [List.length_drop, List.length_take]; rfl)) ?_; (with_reducible refine (strings_ReplaceAll.calls a0_2 (⟨#[39]⟩ : ByteArray) (⟨#[39, 39]⟩ : ByteArray) t158 _ A12.out).mono ?_); rintro e w19 ⟨rfl, hb⟩; refine ⟨_, rfl, ?_⟩; have n0_ := Aside0.mk (blk_below (g := gb155) (o := .cells #[.int .i64 a0_0, .int .i64 a0_1, .string a0_2] 50 (0, 0)) (by (with_reducible repeat (first | refine blk_drewN ?_ _ | refine blk_drew ?_ | refine blk_alloc ?_ _)); exact BK155.out) hb); have n1_ := Aside0.mk (below_step (by repeat (first | (with_reducible first | exact HB.out | apply below_alloc | apply pw_below_drewN | apply below_drew1 | refine below_set ?_ GE155.out) | exact HB.out)) hb); clear BK155; clear HB; have BK155 := n0_; have HB := n1_; clear n0_ n1_; (try clear hb); (try clear hb2); (try clear hk); (try clear hi)))
            go_ret
            exact ⟨by first | rfl | (simp [errW_none, errW_some] <;> rfl) | (simp [*, errW_none, errW_some] <;> rfl), by repeat (first | (with_reducible first | exact HB.out | apply below_alloc | apply pw_below_drewN | apply below_drew1 | refine below_set ?_ GE155.out) | exact HB.out)⟩
          · rw [if_neg c14] at H
            exact absurd H (by simp)
        · rw [if_neg c13] at H
          exact absurd H (by simp)
      · rw [if_neg c11] at H
        have c11b0 : (a0_0 == 2) = false := beq_eq_false_iff_ne.mpr c11
        have c11b1 : (a0_0 != 2) = true := bne_iff_ne.mpr c11
        have HC20 := Aside0.mk H
        clear H
        go_enter Tryd.func24, Tryd.ntmps24
        go_upto_region 7 with (first | ((with_reducible refine gate_dst (N := 1) rfl ?_); refine box_event ?hg (N := 1) ?hd (cs := #[.int .i64 a0_0, .int .i64 a0_1, .string a0_2]) (t := 50) ?hr ?_; (case hd => rfl); (case hg => rfl); (case hr => first | (go_simp; done) | (go_simp; rfl)); intro gb155 hg w21 hbox hb; have n0_ := Aside0.mk (below_step (by repeat (first | (with_reducible first | exact HB.out | apply below_alloc | apply pw_below_drewN | apply below_drew1) | exact HB.out)) hb); have n1_ := Aside0.mk (hbox); have n2_ := Aside0.mk ((by rw [hg]; exact (below_size (by repeat (first | (with_reducible first | exact HB.out | apply below_alloc | apply pw_below_drewN | apply below_drew1) | exact HB.out))) : w.heap.size ≤ gb155)); have n3_ := Aside0.mk ((by rw [hg]; exact (below_size (by repeat (first | (with_reducible first | exact HB.out | apply below_alloc | apply pw_below_drewN | apply below_drew1) | exact HB.out))) : w.heap.size ≤ gb155)); clear HB; have HB := n0_; have BK155 := n1_; have GW155 := n2_; have GE155 := n3_; clear n0_ n1_ n2_ n3_; clear hb hbox hg; have hcz22_0 : w21.cell? ⟨gb155, 0, none⟩ = some (.int .i64 a0_0) := (blk_cell BK155.out 0).trans rfl; have hcz22_1 : w21.cell? ⟨gb155, 1, none⟩ = some (.int .i64 a0_1) := (blk_cell BK155.out 1).trans rfl; have hcz22_2 : w21.cell? ⟨gb155, 2, none⟩ = some (.string a0_2) := (blk_cell BK155.out 2).trans rfl; have hfz22_0 := blk_frozen BK155.out 0; have hfz22_1 := blk_frozen BK155.out 1; have hfz22_2 := blk_frozen BK155.out 2) | ((with_reducible refine gate_callee (f := 37) rfl ?_); refine goesL_ (some 5) rfl rfl Tryd.func37 (by kernel_rfl) rfl #[.agg #[.int .i64 a0_0, .int .i64 a0_1, .string a0_2]] rfl (by (try simp only [List.map_toArray, List.map_cons, List.map_nil]); first | done | rfl | (simp only [List.length_drop, List.length_take]; rfl)) ?_; (with_reducible refine (value_Check.calls a0_0 a0_1 a0_2 t156 _ A2.out).mono ?_); rintro e w23 ⟨rfl, hb⟩; refine ⟨_, rfl, ?_⟩; have n0_ := Aside0.mk (blk_below (g := gb155) (o := .cells #[.int .i64 a0_0, .int .i64 a0_1, .string a0_2] 50 (0, 0)) (by (with_reducible repeat (first | refine blk_drewN ?_ _ | refine blk_drew ?_ | refine blk_alloc ?_ _)); exact BK155.out) hb); have n1_ := Aside0.mk (below_step (by repeat (first | (with_reducible first | exact HB.out | apply below_alloc | apply pw_below_drewN | apply below_drew1 | refine below_set ?_ GE155.out) | exact HB.out)) hb); clear BK155; clear HB; have BK155 := n0_; have HB := n1_; clear n0_ n1_; (try clear hb); (try clear hb2); (try clear hk); (try clear hi); have hcz24_0 : w23.cell? ⟨gb155, 0, none⟩ = some (.int .i64 a0_0) := (blk_cell BK155.out 0).trans rfl; have hcz24_1 : w23.cell? ⟨gb155, 1, none⟩ = some (.int .i64 a0_1) := (blk_cell BK155.out 1).trans rfl; have hcz24_2 : w23.cell? ⟨gb155, 2, none⟩ = some (.string a0_2) := (blk_cell BK155.out 2).trans rfl; have hfz24_0 := blk_frozen BK155.out 0; have hfz24_1 := blk_frozen BK155.out 1; have hfz24_2 := blk_frozen BK155.out 2))
        (try simp only [Act.put, List.setIfInBounds_toArray, List.set_cons_zero, List.set_cons_succ])
        go_cut [23] (fun v23 wc => ∃ (kq : Nat) (x23_19 : Bool), v23 = .bool x23_19 ∧ Aside0 (value_Show.j0 kq x23_19 a0_0 a0_1 a0_2 = some r) ∧ Aside0 (kq ≤ k) ∧ Aside0 (wc.heap[gb155]? = some (.cells #[.int .i64 a0_0, .int .i64 a0_1, .string a0_2] 50 (0, 0))) ∧ Aside0 (Below w.heap.size w wc))
        case first =>
          have H := HC20.out
          clear HC20
          by_cases c25 : a0_0 = 3
          · rw [if_pos c25] at H
            have c25b0 : (a0_0 == 3) = true := beq_iff_eq.mpr c25
            have c25b1 : (a0_0 != 3) = false := bne_eq_false_iff_eq.mpr c25
            clear c25
            (first | rw [c25b0] | (simp only [i64_w, i32_w]; rw [c25b0]) | skip)
            have H' := Aside0.mk H
            clear H
            have hcz26_0 : w23.cell? ⟨gb155, 0, none⟩ = some (.int .i64 a0_0) := (blk_cell BK155.out 0).trans rfl
            have hcz26_1 : w23.cell? ⟨gb155, 1, none⟩ = some (.int .i64 a0_1) := (blk_cell BK155.out 1).trans rfl
            have hcz26_2 : w23.cell? ⟨gb155, 2, none⟩ = some (.string a0_2) := (blk_cell BK155.out 2).trans rfl
            have hfz26_0 := blk_frozen BK155.out 0
            have hfz26_1 := blk_frozen BK155.out 1
            have hfz26_2 := blk_frozen BK155.out 2
            go_wp2
            go_meet
            case rel => exact ⟨_, ((a0_1 == 1)), (by first | rfl | (simp; done) | (simp [*]; done)), H', ⟨by first | omega | exact Nat.le_refl _⟩, ⟨by (with_reducible repeat (first | refine blk_drewN ?_ _ | refine blk_drew ?_ | refine blk_alloc ?_ _)); exact BK155.out⟩, ⟨by repeat (first | (with_reducible first | exact HB.out | apply below_alloc | apply pw_below_drewN | apply below_drew1 | refine below_set ?_ GE155.out) | exact HB.out)⟩⟩
          · rw [if_neg c25] at H
            have c25b0 : (a0_0 == 3) = false := beq_eq_false_iff_ne.mpr c25
            have c25b1 : (a0_0 != 3) = true := bne_iff_ne.mpr c25
            (first | rw [c25b0] | (simp only [i64_w, i32_w]; rw [c25b0]) | skip)
            have H' := Aside0.mk H
            clear H
            have hcz27_0 : w23.cell? ⟨gb155, 0, none⟩ = some (.int .i64 a0_0) := (blk_cell BK155.out 0).trans rfl
            have hcz27_1 : w23.cell? ⟨gb155, 1, none⟩ = some (.int .i64 a0_1) := (blk_cell BK155.out 1).trans rfl
            have hcz27_2 : w23.cell? ⟨gb155, 2, none⟩ = some (.string a0_2) := (blk_cell BK155.out 2).trans rfl
            have hfz27_0 := blk_frozen BK155.out 0
            have hfz27_1 := blk_frozen BK155.out 1
            have hfz27_2 := blk_frozen BK155.out 2
            go_wp2
            go_meet
            case rel => exact ⟨_, (false), (by first | rfl | (simp; done) | (simp [*]; done)), H', ⟨by first | omega | exact Nat.le_refl _⟩, ⟨by (with_reducible repeat (first | refine blk_drewN ?_ _ | refine blk_drew ?_ | refine blk_alloc ?_ _)); exact BK155.out⟩, ⟨by repeat (first | (with_reducible first | exact HB.out | apply below_alloc | apply pw_below_drewN | apply below_drew1 | refine below_set ?_ GE155.out) | exact HB.out)⟩⟩
        case rest =>
          clear HC20
          try clear c1
          try clear c2
          try clear p2
          try clear c3
          try clear c3b0
          try clear c3b1
          try clear c4
          try clear c4b0
          try clear c4b1
          try clear c11
          try clear c11b0
          try clear c11b1
          try clear c13
          try clear c13b0
          try clear c13b1
          try clear c13b2
          try clear c14
          try clear c14b0
          try clear c14b1
          try clear c14b2
          try clear c23
          try clear c24
          try clear c25
          try clear c25b0
          try clear c25b1
          try clear hcz16_0
          try clear hcz16_1
          try clear hcz16_2
          try clear hcz18_0
          try clear hcz18_1
          try clear hcz18_2
          try clear hcz22_0
          try clear hcz22_1
          try clear hcz22_2
          try clear hcz24_0
          try clear hcz24_1
          try clear hcz24_2
          try clear hcz26_0
          try clear hcz26_1
          try clear hcz26_2
          try clear hcz27_0
          try clear hcz27_1
          try clear hcz27_2
          try clear hcz7_0
          try clear hcz7_1
          try clear hcz7_2
          try clear hcz9_0
          try clear hcz9_1
          try clear hcz9_2
          try clear hfz16_0
          try clear hfz16_1
          try clear hfz16_2
          try clear hfz18_0
          try clear hfz18_1
          try clear hfz18_2
          try clear hfz22_0
          try clear hfz22_1
          try clear hfz22_2
          try clear hfz24_0
          try clear hfz24_1
          try clear hfz24_2
          try clear hfz26_0
          try clear hfz26_1
          try clear hfz26_2
          try clear hfz27_0
          try clear hfz27_1
          try clear hfz27_2
          try clear hfz7_0
          try clear hfz7_1
          try clear hfz7_2
          try clear hfz9_0
          try clear hfz9_1
          try clear hfz9_2
          obtain ⟨kq, x23_19, rfl, HA, HJ19, BK155, HB⟩ := hcut
          cases kq with
          | zero => exact absurd HA.out (by simp [value_Show.j0])
          | succ kj19 =>
            have H := HA.out
            clear HA
            simp only [value_Show.j0] at H
            by_cases c28 : x23_19 = true
            · subst c28
              have H1 : (some (⟨#[116, 114, 117, 101]⟩ : ByteArray)) = some r := by rw [if_pos rfl] at H; exact H
              clear H
              have H := H1
              clear H1
              obtain rfl := Option.some.inj H
              go_wp2
              go_ret
              exact ⟨by first | rfl | (simp [errW_none, errW_some] <;> rfl) | (simp [*, errW_none, errW_some] <;> rfl), by repeat (first | (with_reducible first | exact HB.out | apply below_alloc | apply pw_below_drewN | apply below_drew1 | refine below_set ?_ GE155.out) | exact HB.out)⟩
            · replace c28 := Bool.eq_false_iff.mpr c28
              subst c28
              have H1 : (if a0_0 = 3 then (some (⟨#[102, 97, 108, 115, 101]⟩ : ByteArray)) else (some (⟨#[110, 117, 108, 108]⟩ : ByteArray))) = some r := by rw [if_neg (show ¬ (false = true) by decide)] at H; exact H
              clear H
              have H := H1
              clear H1
              by_cases c29 : a0_0 = 3
              · rw [if_pos c29] at H
                have c29b0 : (a0_0 == 3) = true := beq_iff_eq.mpr c29
                have c29b1 : (a0_0 != 3) = false := bne_eq_false_iff_eq.mpr c29
                clear c29
                obtain rfl := Option.some.inj H
                have hcz30_0 : wc.cell? ⟨gb155, 0, none⟩ = some (.int .i64 a0_0) := (blk_cell BK155.out 0).trans rfl
                have hcz30_1 : wc.cell? ⟨gb155, 1, none⟩ = some (.int .i64 a0_1) := (blk_cell BK155.out 1).trans rfl
                have hcz30_2 : wc.cell? ⟨gb155, 2, none⟩ = some (.string a0_2) := (blk_cell BK155.out 2).trans rfl
                have hfz30_0 := blk_frozen BK155.out 0
                have hfz30_1 := blk_frozen BK155.out 1
                have hfz30_2 := blk_frozen BK155.out 2
                go_wp2
                go_ret
                exact ⟨by first | rfl | (simp [errW_none, errW_some] <;> rfl) | (simp [*, errW_none, errW_some] <;> rfl), by repeat (first | (with_reducible first | exact HB.out | apply below_alloc | apply pw_below_drewN | apply below_drew1 | refine below_set ?_ GE155.out) | exact HB.out)⟩
              · rw [if_neg c29] at H
                have c29b0 : (a0_0 == 3) = false := beq_eq_false_iff_ne.mpr c29
                have c29b1 : (a0_0 != 3) = true := bne_iff_ne.mpr c29
                obtain rfl := Option.some.inj H
                have hcz31_0 : wc.cell? ⟨gb155, 0, none⟩ = some (.int .i64 a0_0) := (blk_cell BK155.out 0).trans rfl
                have hcz31_1 : wc.cell? ⟨gb155, 1, none⟩ = some (.int .i64 a0_1) := (blk_cell BK155.out 1).trans rfl
                have hcz31_2 : wc.cell? ⟨gb155, 2, none⟩ = some (.string a0_2) := (blk_cell BK155.out 2).trans rfl
                have hfz31_0 := blk_frozen BK155.out 0
                have hfz31_1 := blk_frozen BK155.out 1
                have hfz31_2 := blk_frozen BK155.out 2
                go_wp2
                go_ret
                exact ⟨by first | rfl | (simp [errW_none, errW_some] <;> rfl) | (simp [*, errW_none, errW_some] <;> rfl), by repeat (first | (with_reducible first | exact HB.out | apply below_alloc | apply pw_below_drewN | apply below_drew1 | refine below_set ?_ GE155.out) | exact HB.out)⟩
  · rw [if_neg c3] at H
    have c3b0 : (t156 == 0) = false := beq_eq_false_iff_ne.mpr c3
    have c3b1 : (t156 != 0) = true := bne_iff_ne.mpr c3
    obtain rfl := Option.some.inj H
    go_enter Tryd.func24, Tryd.ntmps24
    go_wp2_with (first | ((with_reducible refine gate_dst (N := 1) rfl ?_); refine box_event ?hg (N := 1) ?hd (cs := #[.int .i64 a0_0, .int .i64 a0_1, .string a0_2]) (t := 50) ?hr ?_; (case hd => rfl); (case hg => rfl); (case hr => first | (go_simp; done) | (go_simp; rfl)); intro gb155 hg w32 hbox hb; have n0_ := Aside0.mk (below_step (by repeat (first | (with_reducible first | exact HB.out | apply below_alloc | apply pw_below_drewN | apply below_drew1) | exact HB.out)) hb); have n1_ := Aside0.mk (hbox); have n2_ := Aside0.mk ((by rw [hg]; exact (below_size (by repeat (first | (with_reducible first | exact HB.out | apply below_alloc | apply pw_below_drewN | apply below_drew1) | exact HB.out))) : w.heap.size ≤ gb155)); have n3_ := Aside0.mk ((by rw [hg]; exact (below_size (by repeat (first | (with_reducible first | exact HB.out | apply below_alloc | apply pw_below_drewN | apply below_drew1) | exact HB.out))) : w.heap.size ≤ gb155)); clear HB; have HB := n0_; have BK155 := n1_; have GW155 := n2_; have GE155 := n3_; clear n0_ n1_ n2_ n3_; clear hb hbox hg; have hcz33_0 : w32.cell? ⟨gb155, 0, none⟩ = some (.int .i64 a0_0) := (blk_cell BK155.out 0).trans rfl; have hcz33_1 : w32.cell? ⟨gb155, 1, none⟩ = some (.int .i64 a0_1) := (blk_cell BK155.out 1).trans rfl; have hcz33_2 : w32.cell? ⟨gb155, 2, none⟩ = some (.string a0_2) := (blk_cell BK155.out 2).trans rfl; have hfz33_0 := blk_frozen BK155.out 0; have hfz33_1 := blk_frozen BK155.out 1; have hfz33_2 := blk_frozen BK155.out 2) | ((with_reducible refine gate_callee (f := 37) rfl ?_); refine goesL_ (some 5) rfl rfl Tryd.func37 (by kernel_rfl) rfl #[.agg #[.int .i64 a0_0, .int .i64 a0_1, .string a0_2]] rfl (by (try simp only [List.map_toArray, List.map_cons, List.map_nil]); first | done | rfl | (simp only [List.length_drop, List.length_take]; rfl)) ?_; (with_reducible refine (value_Check.calls a0_0 a0_1 a0_2 t156 _ A2.out).mono ?_); rintro e w34 ⟨rfl, hb⟩; refine ⟨_, rfl, ?_⟩; have n0_ := Aside0.mk (blk_below (g := gb155) (o := .cells #[.int .i64 a0_0, .int .i64 a0_1, .string a0_2] 50 (0, 0)) (by (with_reducible repeat (first | refine blk_drewN ?_ _ | refine blk_drew ?_ | refine blk_alloc ?_ _)); exact BK155.out) hb); have n1_ := Aside0.mk (below_step (by repeat (first | (with_reducible first | exact HB.out | apply below_alloc | apply pw_below_drewN | apply below_drew1 | refine below_set ?_ GE155.out) | exact HB.out)) hb); clear BK155; clear HB; have BK155 := n0_; have HB := n1_; clear n0_ n1_; (try clear hb); (try clear hb2); (try clear hk); (try clear hi)))
    go_ret
    exact ⟨by first | rfl | (simp [errW_none, errW_some] <;> rfl) | (simp [*, errW_none, errW_some] <;> rfl), by repeat (first | (with_reducible first | exact HB.out | apply below_alloc | apply pw_below_drewN | apply below_drew1 | refine below_set ?_ GE155.out) | exact HB.out)⟩

/-! ### lex_Put: function 12 -/
def lex_Put.j0 : Nat → Int → Bool → Int → ByteArray → Int → Int → Option (ByteArray)
  | 0, _, _, _, _, _, _ => none
  | k + 1, x5, x6, x160000, x160001, x160002, x160003 => if x6 = true then (some x160001) else (if x5 = 3 then ((num_Text.f x160002).bind fun t160 => (some t160)) else (if x5 = 4 then ((value_Show.f k 2 0 x160001).bind fun t161 => (some t161)) else (if x5 = 1 then ((lex_Word.f k x160001).bind fun t162 => (if t162 = true then (some x160001) else ((some (([34] : List Int) : List Int)).bind fun y163 => (if (strOfNums y163).size + (strOfNums y163).size ≤ 9223372036854775807 then ((strings_ReplaceAll.f x160001 (strOfNums y163) ((strOfNums y163) ++ (strOfNums y163))).bind fun t166 => (if (strOfNums y163).size + t166.size ≤ 9223372036854775807 then (if ((strOfNums y163) ++ t166).size + (strOfNums y163).size ≤ 9223372036854775807 then (some (((strOfNums y163) ++ t166) ++ (strOfNums y163))) else (none)) else (none))) else (none))))) else (some (⟨#[]⟩ : ByteArray)))))
def lex_Put.f (k : Nat) (a0_0 : Int) (a0_1 : ByteArray) (a0_2 : Int) (a0_3 : Int) : Option (ByteArray) := if a0_0 = 2 then (lex_Put.j0 k a0_0 (a0_0 == 2) a0_0 a0_1 a0_2 a0_3) else (lex_Put.j0 k a0_0 (a0_0 == 5) a0_0 a0_1 a0_2 a0_3)
theorem lex_Put.mono_l : ∀ k, (∀ y0 y1 y2 y3 y4 y5, LeO (lex_Put.j0 k y0 y1 y2 y3 y4 y5) (lex_Put.j0 (k + 1) y0 y1 y2 y3 y4 y5))
  | 0 => fun _ _ _ _ _ _ r h => by simp [lex_Put.j0] at h
  | k + 1 => by
    have ih0 := lex_Put.mono_l k
    · intro y0 y1 y2 y3 y4 y5
      unfold lex_Put.j0
      repeat' first
      | (with_reducible exact ih0 _ _ _ _ _ _)
      | (with_reducible exact lex_Word.mono _ _)
      | (with_reducible exact value_Show.mono _ _ _ _)
      | (with_reducible exact LeO.refl _)
      | (with_reducible exact LeO.none _)
      | (with_reducible refine LeO.ite ?_ ?_)
      | (with_reducible refine LeO.bind ?_ (fun _ => ?_))
      | exact ih0 _ _ _ _ _ _
      | exact lex_Word.mono _ _
      | exact value_Show.mono _ _ _ _
      | exact LeO.none _
      | refine LeO.ite ?_ ?_
      | refine LeO.bind ?_ (fun _ => ?_)
theorem lex_Put.mono : ∀ a0 a1 a2 a3 k, LeO (lex_Put.f k a0 a1 a2 a3) (lex_Put.f (k + 1) a0 a1 a2 a3) := by
  intro a0 a1 a2 a3 k
  have ih0 := lex_Put.mono_l k
  unfold lex_Put.f
  repeat' first
      | (with_reducible exact ih0 _ _ _ _ _ _)
      | (with_reducible exact lex_Word.mono _ _)
      | (with_reducible exact value_Show.mono _ _ _ _)
      | (with_reducible exact LeO.refl _)
      | (with_reducible exact LeO.none _)
      | (with_reducible refine LeO.ite ?_ ?_)
      | (with_reducible refine LeO.bind ?_ (fun _ => ?_))
      | exact ih0 _ _ _ _ _ _
      | exact lex_Word.mono _ _
      | exact value_Show.mono _ _ _ _
      | exact LeO.none _
      | refine LeO.ite ?_ ?_
      | refine LeO.bind ?_ (fun _ => ?_)
set_option maxHeartbeats 8000000 in
set_option maxRecDepth 100000 in
theorem lex_Put.calls (k : Nat) (a0_0 : Int) (a0_1 : ByteArray) (a0_2 : Int) (a0_3 : Int) (r : ByteArray) (w : World) (h : lex_Put.f k a0_0 a0_1 a0_2 a0_3 = some r) (hML : ML w := by first | exact hML | exact ML.below HB.out hML | exact ML.below (by repeat (first | exact HB.out | apply below_alloc | apply pw_below_drewN | apply below_drew1 | exact Below.refl _ _)) hML) :
    Calls Tryd.prog 12 #[.agg #[.int .i64 a0_0, .string a0_1, .int .i64 a0_2, .int .i64 a0_3]] w fun e w' => e = .returned (.string r) ∧ Below w.heap.size w w' := by
  have hu33 := Tryd.underlying33
  have hu50 := Tryd.underlying50
  have HB := Aside0.mk (Below.refl w.heap.size w)
  have H : (if a0_0 = 2 then (lex_Put.j0 k a0_0 (a0_0 == 2) a0_0 a0_1 a0_2 a0_3) else (lex_Put.j0 k a0_0 (a0_0 == 5) a0_0 a0_1 a0_2 a0_3)) = some r := h
  clear h
  have HC2 := Aside0.mk H
  clear H
  go_enter Tryd.func12, Tryd.ntmps12
  go_upto_if 6 with (first | ((with_reducible refine gate_dst (N := 1) rfl ?_); refine box_event ?hg (N := 1) ?hd (cs := #[.int .i64 a0_0, .string a0_1, .int .i64 a0_2, .int .i64 a0_3]) (t := 33) ?hr ?_; (case hd => rfl); (case hg => rfl); (case hr => first | (go_simp; done) | (go_simp; rfl)); intro gb159 hg w3 hbox hb; have n0_ := Aside0.mk (below_step (by repeat (first | (with_reducible first | exact HB.out | apply below_alloc | apply pw_below_drewN | apply below_drew1) | exact HB.out)) hb); have n1_ := Aside0.mk (hbox); have n2_ := Aside0.mk ((by rw [hg]; exact (below_size (by repeat (first | (with_reducible first | exact HB.out | apply below_alloc | apply pw_below_drewN | apply below_drew1) | exact HB.out))) : w.heap.size ≤ gb159)); have n3_ := Aside0.mk ((by rw [hg]; exact (below_size (by repeat (first | (with_reducible first | exact HB.out | apply below_alloc | apply pw_below_drewN | apply below_drew1) | exact HB.out))) : w.heap.size ≤ gb159)); clear HB; have HB := n0_; have BK159 := n1_; have GW159 := n2_; have GE159 := n3_; clear n0_ n1_ n2_ n3_; clear hb hbox hg; have hcz4_0 : w3.cell? ⟨gb159, 0, none⟩ = some (.int .i64 a0_0) := (blk_cell BK159.out 0).trans rfl; have hcz4_1 : w3.cell? ⟨gb159, 1, none⟩ = some (.string a0_1) := (blk_cell BK159.out 1).trans rfl; have hcz4_2 : w3.cell? ⟨gb159, 2, none⟩ = some (.int .i64 a0_2) := (blk_cell BK159.out 2).trans rfl; have hcz4_3 : w3.cell? ⟨gb159, 3, none⟩ = some (.int .i64 a0_3) := (blk_cell BK159.out 3).trans rfl; have hfz4_0 := blk_frozen BK159.out 0; have hfz4_1 := blk_frozen BK159.out 1; have hfz4_2 := blk_frozen BK159.out 2; have hfz4_3 := blk_frozen BK159.out 3))
  (try simp only [Act.put, List.setIfInBounds_toArray, List.set_cons_zero, List.set_cons_succ])
  go_cut [6] (fun v6 wc => ∃ (kq : Nat) (x6_1 : Bool), v6 = .bool x6_1 ∧ Aside0 (lex_Put.j0 kq a0_0 x6_1 a0_0 a0_1 a0_2 a0_3 = some r) ∧ Aside0 (kq ≤ k) ∧ Aside0 (wc.heap[gb159]? = some (.cells #[.int .i64 a0_0, .string a0_1, .int .i64 a0_2, .int .i64 a0_3] 33 (0, 0))) ∧ Aside0 (Below w.heap.size w wc))
  case first =>
    have H := HC2.out
    clear HC2
    by_cases c5 : a0_0 = 2
    · rw [if_pos c5] at H
      have c5b0 : (a0_0 == 2) = true := beq_iff_eq.mpr c5
      have c5b1 : (a0_0 != 2) = false := bne_eq_false_iff_eq.mpr c5
      clear c5
      (first | rw [c5b0] | (simp only [i64_w, i32_w]; rw [c5b0]) | skip)
      have H' := Aside0.mk H
      clear H
      go_wp2
      go_meet
      case rel => exact ⟨_, ((a0_0 == 2)), (by first | rfl | (simp; done) | (simp [*]; done)), H', ⟨by first | omega | exact Nat.le_refl _⟩, ⟨by (with_reducible repeat (first | refine blk_drewN ?_ _ | refine blk_drew ?_ | refine blk_alloc ?_ _)); exact BK159.out⟩, ⟨by repeat (first | (with_reducible first | exact HB.out | apply below_alloc | apply pw_below_drewN | apply below_drew1 | refine below_set ?_ GE159.out) | exact HB.out)⟩⟩
    · rw [if_neg c5] at H
      have c5b0 : (a0_0 == 2) = false := beq_eq_false_iff_ne.mpr c5
      have c5b1 : (a0_0 != 2) = true := bne_iff_ne.mpr c5
      (first | rw [c5b0] | (simp only [i64_w, i32_w]; rw [c5b0]) | skip)
      have H' := Aside0.mk H
      clear H
      go_wp2
      go_meet
      case rel => exact ⟨_, ((a0_0 == 5)), (by first | rfl | (simp; done) | (simp [*]; done)), H', ⟨by first | omega | exact Nat.le_refl _⟩, ⟨by (with_reducible repeat (first | refine blk_drewN ?_ _ | refine blk_drew ?_ | refine blk_alloc ?_ _)); exact BK159.out⟩, ⟨by repeat (first | (with_reducible first | exact HB.out | apply below_alloc | apply pw_below_drewN | apply below_drew1 | refine below_set ?_ GE159.out) | exact HB.out)⟩⟩
  case rest =>
    clear HC2
    try clear c1
    try clear p2
    try clear c5
    try clear c5b0
    try clear c5b1
    try clear hcz4_0
    try clear hcz4_1
    try clear hcz4_2
    try clear hcz4_3
    try clear hfz4_0
    try clear hfz4_1
    try clear hfz4_2
    try clear hfz4_3
    obtain ⟨kq, x6_1, rfl, HA, HJ1, BK159, HB⟩ := hcut
    cases kq with
    | zero => exact absurd HA.out (by simp [lex_Put.j0])
    | succ kj1 =>
      have H := HA.out
      clear HA
      simp only [lex_Put.j0] at H
      by_cases c6 : x6_1 = true
      · subst c6
        have H1 : (some a0_1) = some r := by rw [if_pos rfl] at H; exact H
        clear H
        have H := H1
        clear H1
        obtain rfl := Option.some.inj H
        have hcz7_0 : wc.cell? ⟨gb159, 0, none⟩ = some (.int .i64 a0_0) := (blk_cell BK159.out 0).trans rfl
        have hcz7_1 : wc.cell? ⟨gb159, 1, none⟩ = some (.string a0_1) := (blk_cell BK159.out 1).trans rfl
        have hcz7_2 : wc.cell? ⟨gb159, 2, none⟩ = some (.int .i64 a0_2) := (blk_cell BK159.out 2).trans rfl
        have hcz7_3 : wc.cell? ⟨gb159, 3, none⟩ = some (.int .i64 a0_3) := (blk_cell BK159.out 3).trans rfl
        have hfz7_0 := blk_frozen BK159.out 0
        have hfz7_1 := blk_frozen BK159.out 1
        have hfz7_2 := blk_frozen BK159.out 2
        have hfz7_3 := blk_frozen BK159.out 3
        go_wp2
        go_ret
        exact ⟨by first | rfl | (simp [errW_none, errW_some] <;> rfl) | (simp [*, errW_none, errW_some] <;> rfl), by repeat (first | (with_reducible first | exact HB.out | apply below_alloc | apply pw_below_drewN | apply below_drew1 | refine below_set ?_ GE159.out) | exact HB.out)⟩
      · replace c6 := Bool.eq_false_iff.mpr c6
        subst c6
        have H1 : (if a0_0 = 3 then ((num_Text.f a0_2).bind fun t160 => (some t160)) else (if a0_0 = 4 then ((value_Show.f kj1 2 0 a0_1).bind fun t161 => (some t161)) else (if a0_0 = 1 then ((lex_Word.f kj1 a0_1).bind fun t162 => (if t162 = true then (some a0_1) else ((some (([34] : List Int) : List Int)).bind fun y163 => (if (strOfNums y163).size + (strOfNums y163).size ≤ 9223372036854775807 then ((strings_ReplaceAll.f a0_1 (strOfNums y163) ((strOfNums y163) ++ (strOfNums y163))).bind fun t166 => (if (strOfNums y163).size + t166.size ≤ 9223372036854775807 then (if ((strOfNums y163) ++ t166).size + (strOfNums y163).size ≤ 9223372036854775807 then (some (((strOfNums y163) ++ t166) ++ (strOfNums y163))) else (none)) else (none))) else (none))))) else (some (⟨#[]⟩ : ByteArray))))) = some r := by rw [if_neg (show ¬ (false = true) by decide)] at H; exact H
        clear H
        have H := H1
        clear H1
        by_cases c8 : a0_0 = 3
        · rw [if_pos c8] at H
          have c8b0 : (a0_0 == 3) = true := beq_iff_eq.mpr c8
          have c8b1 : (a0_0 != 3) = false := bne_eq_false_iff_eq.mpr c8
          clear c8
          replace H := Option.bind_eq_some_iff.mp H
          obtain ⟨t160, A90, H⟩ := H
          replace H : (some t160) = some r := H
          have A9 := Aside0.mk A90
          clear A90
          obtain rfl := Option.some.inj H
          have hcz10_0 : wc.cell? ⟨gb159, 0, none⟩ = some (.int .i64 a0_0) := (blk_cell BK159.out 0).trans rfl
          have hcz10_1 : wc.cell? ⟨gb159, 1, none⟩ = some (.string a0_1) := (blk_cell BK159.out 1).trans rfl
          have hcz10_2 : wc.cell? ⟨gb159, 2, none⟩ = some (.int .i64 a0_2) := (blk_cell BK159.out 2).trans rfl
          have hcz10_3 : wc.cell? ⟨gb159, 3, none⟩ = some (.int .i64 a0_3) := (blk_cell BK159.out 3).trans rfl
          have hfz10_0 := blk_frozen BK159.out 0
          have hfz10_1 := blk_frozen BK159.out 1
          have hfz10_2 := blk_frozen BK159.out 2
          have hfz10_3 := blk_frozen BK159.out 3
          go_wp2_with (first | ((with_reducible refine gate_callee (f := 23) rfl ?_); refine goesL_ (some 15) rfl rfl Tryd.func23 (by kernel_rfl) rfl #[.int .i64 a0_2] rfl (by (try simp only [List.map_toArray, List.map_cons, List.map_nil]); first | done | rfl | (simp only [List.length_drop, List.length_take]; rfl)) ?_; (with_reducible refine (num_Text.calls a0_2 t160 _ A9.out).mono ?_); rintro e w11 ⟨rfl, hb⟩; refine ⟨_, rfl, ?_⟩; have n0_ := Aside0.mk (blk_below (g := gb159) (o := .cells #[.int .i64 a0_0, .string a0_1, .int .i64 a0_2, .int .i64 a0_3] 33 (0, 0)) (by (with_reducible repeat (first | refine blk_drewN ?_ _ | refine blk_drew ?_ | refine blk_alloc ?_ _)); exact BK159.out) hb); have n1_ := Aside0.mk (below_step (by repeat (first | (with_reducible first | exact HB.out | apply below_alloc | apply pw_below_drewN | apply below_drew1 | refine below_set ?_ GE159.out) | exact HB.out)) hb); clear BK159; clear HB; have BK159 := n0_; have HB := n1_; clear n0_ n1_; (try clear hb); (try clear hb2); (try clear hk); (try clear hi)))
          go_ret
          exact ⟨by first | rfl | (simp [errW_none, errW_some] <;> rfl) | (simp [*, errW_none, errW_some] <;> rfl), by repeat (first | (with_reducible first | exact HB.out | apply below_alloc | apply pw_below_drewN | apply below_drew1 | refine below_set ?_ GE159.out) | exact HB.out)⟩
        · rw [if_neg c8] at H
          have c8b0 : (a0_0 == 3) = false := beq_eq_false_iff_ne.mpr c8
          have c8b1 : (a0_0 != 3) = true := bne_iff_ne.mpr c8
          by_cases c12 : a0_0 = 4
          · rw [if_pos c12] at H
            have c12b0 : (a0_0 == 4) = true := beq_iff_eq.mpr c12
            have c12b1 : (a0_0 != 4) = false := bne_eq_false_iff_eq.mpr c12
            clear c12
            replace H := Option.bind_eq_some_iff.mp H
            obtain ⟨t161, A130, H⟩ := H
            replace H : (some t161) = some r := H
            have A13 := Aside0.mk A130
            clear A130
            obtain rfl := Option.some.inj H
            have hcz14_0 : wc.cell? ⟨gb159, 0, none⟩ = some (.int .i64 a0_0) := (blk_cell BK159.out 0).trans rfl
            have hcz14_1 : wc.cell? ⟨gb159, 1, none⟩ = some (.string a0_1) := (blk_cell BK159.out 1).trans rfl
            have hcz14_2 : wc.cell? ⟨gb159, 2, none⟩ = some (.int .i64 a0_2) := (blk_cell BK159.out 2).trans rfl
            have hcz14_3 : wc.cell? ⟨gb159, 3, none⟩ = some (.int .i64 a0_3) := (blk_cell BK159.out 3).trans rfl
            have hfz14_0 := blk_frozen BK159.out 0
            have hfz14_1 := blk_frozen BK159.out 1
            have hfz14_2 := blk_frozen BK159.out 2
            have hfz14_3 := blk_frozen BK159.out 3
            go_wp2_with (first | ((with_reducible refine gate_callee (f := 24) rfl ?_); refine goesL_ (some 21) rfl rfl Tryd.func24 (by kernel_rfl) rfl #[.agg #[.int .i64 2, .int .i64 0, .string a0_1]] rfl (by (try simp only [List.map_toArray, List.map_cons, List.map_nil]); first | done | rfl | (simp only [List.length_drop, List.length_take]; rfl)) ?_; (with_reducible refine (value_Show.calls kj1 2 0 a0_1 t161 _ A13.out).mono ?_); rintro e w15 ⟨rfl, hb⟩; refine ⟨_, rfl, ?_⟩; have n0_ := Aside0.mk (blk_below (g := gb159) (o := .cells #[.int .i64 a0_0, .string a0_1, .int .i64 a0_2, .int .i64 a0_3] 33 (0, 0)) (by (with_reducible repeat (first | refine blk_drewN ?_ _ | refine blk_drew ?_ | refine blk_alloc ?_ _)); exact BK159.out) hb); have n1_ := Aside0.mk (below_step (by repeat (first | (with_reducible first | exact HB.out | apply below_alloc | apply pw_below_drewN | apply below_drew1 | refine below_set ?_ GE159.out) | exact HB.out)) hb); clear BK159; clear HB; have BK159 := n0_; have HB := n1_; clear n0_ n1_; (try clear hb); (try clear hb2); (try clear hk); (try clear hi)))
            go_ret
            exact ⟨by first | rfl | (simp [errW_none, errW_some] <;> rfl) | (simp [*, errW_none, errW_some] <;> rfl), by repeat (first | (with_reducible first | exact HB.out | apply below_alloc | apply pw_below_drewN | apply below_drew1 | refine below_set ?_ GE159.out) | exact HB.out)⟩
          · rw [if_neg c12] at H
            have c12b0 : (a0_0 == 4) = false := beq_eq_false_iff_ne.mpr c12
            have c12b1 : (a0_0 != 4) = true := bne_iff_ne.mpr c12
            by_cases c16 : a0_0 = 1
            · rw [if_pos c16] at H
              have c16b0 : (a0_0 == 1) = true := beq_iff_eq.mpr c16
              have c16b1 : (a0_0 != 1) = false := bne_eq_false_iff_eq.mpr c16
              clear c16
              replace H := Option.bind_eq_some_iff.mp H
              obtain ⟨t162, A170, H⟩ := H
              replace H : (if t162 = true then (some a0_1) else ((some (([34] : List Int) : List Int)).bind fun y163 => (if (strOfNums y163).size + (strOfNums y163).size ≤ 9223372036854775807 then ((strings_ReplaceAll.f a0_1 (strOfNums y163) ((strOfNums y163) ++ (strOfNums y163))).bind fun t166 => (if (strOfNums y163).size + t166.size ≤ 9223372036854775807 then (if ((strOfNums y163) ++ t166).size + (strOfNums y163).size ≤ 9223372036854775807 then (some (((strOfNums y163) ++ t166) ++ (strOfNums y163))) else (none)) else (none))) else (none)))) = some r := H
              have A17 := Aside0.mk A170
              clear A170
              by_cases c18 : t162 = true
              · subst c18
                have H1 : (some a0_1) = some r := by rw [if_pos rfl] at H; exact H
                clear H
                have H := H1
                clear H1
                obtain rfl := Option.some.inj H
                have hcz19_0 : wc.cell? ⟨gb159, 0, none⟩ = some (.int .i64 a0_0) := (blk_cell BK159.out 0).trans rfl
                have hcz19_1 : wc.cell? ⟨gb159, 1, none⟩ = some (.string a0_1) := (blk_cell BK159.out 1).trans rfl
                have hcz19_2 : wc.cell? ⟨gb159, 2, none⟩ = some (.int .i64 a0_2) := (blk_cell BK159.out 2).trans rfl
                have hcz19_3 : wc.cell? ⟨gb159, 3, none⟩ = some (.int .i64 a0_3) := (blk_cell BK159.out 3).trans rfl
                have hfz19_0 := blk_frozen BK159.out 0
                have hfz19_1 := blk_frozen BK159.out 1
                have hfz19_2 := blk_frozen BK159.out 2
                have hfz19_3 := blk_frozen BK159.out 3
                go_wp2_with (first | ((with_reducible refine gate_callee (f := 11) rfl ?_); refine goesL_ (some 26) rfl rfl Tryd.func11 (by kernel_rfl) rfl #[.string a0_1] rfl (by (try simp only [List.map_toArray, List.map_cons, List.map_nil]); first | done | rfl | (simp only [List.length_drop, List.length_take]; rfl)) ?_; (with_reducible refine (lex_Word.calls kj1 a0_1 true _ A17.out).mono ?_); rintro e w20 ⟨rfl, hb⟩; refine ⟨_, rfl, ?_⟩; have n0_ := Aside0.mk (blk_below (g := gb159) (o := .cells #[.int .i64 a0_0, .string a0_1, .int .i64 a0_2, .int .i64 a0_3] 33 (0, 0)) (by (with_reducible repeat (first | refine blk_drewN ?_ _ | refine blk_drew ?_ | refine blk_alloc ?_ _)); exact BK159.out) hb); have n1_ := Aside0.mk (below_step (by repeat (first | (with_reducible first | exact HB.out | apply below_alloc | apply pw_below_drewN | apply below_drew1 | refine below_set ?_ GE159.out) | exact HB.out)) hb); clear BK159; clear HB; have BK159 := n0_; have HB := n1_; clear n0_ n1_; (try clear hb); (try clear hb2); (try clear hk); (try clear hi); have hcz21_0 : w20.cell? ⟨gb159, 0, none⟩ = some (.int .i64 a0_0) := (blk_cell BK159.out 0).trans rfl; have hcz21_1 : w20.cell? ⟨gb159, 1, none⟩ = some (.string a0_1) := (blk_cell BK159.out 1).trans rfl; have hcz21_2 : w20.cell? ⟨gb159, 2, none⟩ = some (.int .i64 a0_2) := (blk_cell BK159.out 2).trans rfl; have hcz21_3 : w20.cell? ⟨gb159, 3, none⟩ = some (.int .i64 a0_3) := (blk_cell BK159.out 3).trans rfl; have hfz21_0 := blk_frozen BK159.out 0; have hfz21_1 := blk_frozen BK159.out 1; have hfz21_2 := blk_frozen BK159.out 2; have hfz21_3 := blk_frozen BK159.out 3))
                go_ret
                exact ⟨by first | rfl | (simp [errW_none, errW_some] <;> rfl) | (simp [*, errW_none, errW_some] <;> rfl), by repeat (first | (with_reducible first | exact HB.out | apply below_alloc | apply pw_below_drewN | apply below_drew1 | refine below_set ?_ GE159.out) | exact HB.out)⟩
              · replace c18 := Bool.eq_false_iff.mpr c18
                subst c18
                have H1 : ((some (([34] : List Int) : List Int)).bind fun y163 => (if (strOfNums y163).size + (strOfNums y163).size ≤ 9223372036854775807 then ((strings_ReplaceAll.f a0_1 (strOfNums y163) ((strOfNums y163) ++ (strOfNums y163))).bind fun t166 => (if (strOfNums y163).size + t166.size ≤ 9223372036854775807 then (if ((strOfNums y163) ++ t166).size + (strOfNums y163).size ≤ 9223372036854775807 then (some (((strOfNums y163) ++ t166) ++ (strOfNums y163))) else (none)) else (none))) else (none))) = some r := by rw [if_neg (show ¬ (false = true) by decide)] at H; exact H
                clear H
                have H := H1
                clear H1
                obtain ⟨y163, hy163⟩ : ∃ y_ : List Int, y_ = (([34] : List Int)) := ⟨_, rfl⟩
                replace H : (if (strOfNums y163).size + (strOfNums y163).size ≤ 9223372036854775807 then ((strings_ReplaceAll.f a0_1 (strOfNums y163) ((strOfNums y163) ++ (strOfNums y163))).bind fun t166 => (if (strOfNums y163).size + t166.size ≤ 9223372036854775807 then (if ((strOfNums y163) ++ t166).size + (strOfNums y163).size ≤ 9223372036854775807 then (some (((strOfNums y163) ++ t166) ++ (strOfNums y163))) else (none)) else (none))) else (none)) = some r := by first | (rw [hy163]; with_reducible exact H) | (have H2_ := (Option.bind_some _ _).symm.trans H; rw [hy163]; with_reducible exact H2_) | (have H2_ := (Option.bind_some _ _).symm.trans H; with_reducible exact H2_) | with_reducible exact H | (rw [hy163]; exact H) | exact H
                have Ny163 := Aside0.mk hy163
                clear hy163
                by_cases c22 : (strOfNums y163).size + (strOfNums y163).size ≤ 9223372036854775807
                · rw [if_pos c22] at H
                  have c22b0 := eq_true c22
                  have c22b1 : decide ((strOfNums y163).size + (strOfNums y163).size ≤ 9223372036854775807) = true := decide_eq_true c22
                  try have c22b2 : (9223372036854775807 < (strOfNums y163).size + (strOfNums y163).size) = False := eq_false (Nat.not_lt.2 c22)
                  replace H := Option.bind_eq_some_iff.mp H
                  obtain ⟨t166, A230, H⟩ := H
                  replace H : (if (strOfNums y163).size + t166.size ≤ 9223372036854775807 then (if ((strOfNums y163) ++ t166).size + (strOfNums y163).size ≤ 9223372036854775807 then (some (((strOfNums y163) ++ t166) ++ (strOfNums y163))) else (none)) else (none)) = some r := H
                  have A23 := Aside0.mk A230
                  clear A230
                  by_cases c24 : (strOfNums y163).size + t166.size ≤ 9223372036854775807
                  · rw [if_pos c24] at H
                    have c24b0 := eq_true c24
                    have c24b1 : decide ((strOfNums y163).size + t166.size ≤ 9223372036854775807) = true := decide_eq_true c24
                    try have c24b2 : (9223372036854775807 < (strOfNums y163).size + t166.size) = False := eq_false (Nat.not_lt.2 c24)
                    by_cases c25 : ((strOfNums y163) ++ t166).size + (strOfNums y163).size ≤ 9223372036854775807
                    · rw [if_pos c25] at H
                      have c25b0 := eq_true c25
                      have c25b1 : decide (((strOfNums y163) ++ t166).size + (strOfNums y163).size ≤ 9223372036854775807) = true := decide_eq_true c25
                      try have c25b2 : (9223372036854775807 < ((strOfNums y163) ++ t166).size + (strOfNums y163).size) = False := eq_false (Nat.not_lt.2 c25)
                      obtain rfl := Option.some.inj H
                      have hcz26_0 : wc.cell? ⟨gb159, 0, none⟩ = some (.int .i64 a0_0) := (blk_cell BK159.out 0).trans rfl
                      have hcz26_1 : wc.cell? ⟨gb159, 1, none⟩ = some (.string a0_1) := (blk_cell BK159.out 1).trans rfl
                      have hcz26_2 : wc.cell? ⟨gb159, 2, none⟩ = some (.int .i64 a0_2) := (blk_cell BK159.out 2).trans rfl
                      have hcz26_3 : wc.cell? ⟨gb159, 3, none⟩ = some (.int .i64 a0_3) := (blk_cell BK159.out 3).trans rfl
                      have hfz26_0 := blk_frozen BK159.out 0
                      have hfz26_1 := blk_frozen BK159.out 1
                      have hfz26_2 := blk_frozen BK159.out 2
                      have hfz26_3 := blk_frozen BK159.out 3
                      go_wp2_with (first | ((with_reducible refine gate_callee (f := 11) rfl ?_); refine goesL_ (some 26) rfl rfl Tryd.func11 (by kernel_rfl) rfl #[.string a0_1] rfl (by (try simp only [List.map_toArray, List.map_cons, List.map_nil]); first | done | rfl | (simp only [List.length_drop, List.length_take]; rfl)) ?_; (with_reducible refine (lex_Word.calls kj1 a0_1 false _ A17.out).mono ?_); rintro e w27 ⟨rfl, hb⟩; refine ⟨_, rfl, ?_⟩; have n0_ := Aside0.mk (blk_below (g := gb159) (o := .cells #[.int .i64 a0_0, .string a0_1, .int .i64 a0_2, .int .i64 a0_3] 33 (0, 0)) (by (with_reducible repeat (first | refine blk_drewN ?_ _ | refine blk_drew ?_ | refine blk_alloc ?_ _)); exact BK159.out) hb); have n1_ := Aside0.mk (below_step (by repeat (first | (with_reducible first | exact HB.out | apply below_alloc | apply pw_below_drewN | apply below_drew1 | refine below_set ?_ GE159.out) | exact HB.out)) hb); clear BK159; clear HB; have BK159 := n0_; have HB := n1_; clear n0_ n1_; (try clear hb); (try clear hb2); (try clear hk); (try clear hi)) | ((with_reducible refine gate_dst (N := 29) rfl ?_); refine Kd.R_lit (Kd.int .u8) _ 5 ?hg (N := 29) ?hd (xs := ([34] : List Int)) (inner := [.int .u8 34]) (ok := fun _ => True) (okp := fun _ => True) ?hr ?hp (fun _ hk => hk) trivial (Below.refl _ _) (Nat.le_refl _) (by simp) ?_; (case hd => rfl); (case hg => rfl); (case hr => first | (go_simp; done) | (go_simp; rfl)); (case hp => exact (Reps.one (show Kd.M (Kd.int .u8) _ _ _ 34 [.int .u8 34] from rfl) (Reps.none _ _))); intro v164 w28 ho29 hb hg_ hnew_; clear hg_ hnew_; (first | rw [← Ny163.out] at ho29 | (simp only [Int.reduceToNat] at ho29; rw [← Ny163.out] at ho29)); have n0_ := Aside0.mk (Kd.R_lower ho29 (below_size (by repeat (first | (with_reducible first | exact HB.out | apply below_alloc | apply pw_below_drewN | apply below_drew1 | refine below_set ?_ GE159.out) | exact HB.out)))); have n1_ := Aside0.mk (blk_below (g := gb159) (o := .cells #[.int .i64 a0_0, .string a0_1, .int .i64 a0_2, .int .i64 a0_3] 33 (0, 0)) (by (with_reducible repeat (first | refine blk_drewN ?_ _ | refine blk_drew ?_ | refine blk_alloc ?_ _)); exact BK159.out) hb); have n2_ := Aside0.mk (below_step (by repeat (first | (with_reducible first | exact HB.out | apply below_alloc | apply pw_below_drewN | apply below_drew1 | refine below_set ?_ GE159.out) | exact HB.out)) hb); clear BK159; clear HB; have HO165 := n0_; have BK159 := n1_; have HB := n2_; clear n0_ n1_ n2_; clear hb ho29; have hcv30 := own_string (P := Tryd.prog) Tryd.underlying31 Tryd.underlying5 Tryd.underlying9 (Kd.own_of_R HO165.out); have hcz31_0 : w28.cell? ⟨gb159, 0, none⟩ = some (.int .i64 a0_0) := (blk_cell BK159.out 0).trans rfl; have hcz31_1 : w28.cell? ⟨gb159, 1, none⟩ = some (.string a0_1) := (blk_cell BK159.out 1).trans rfl; have hcz31_2 : w28.cell? ⟨gb159, 2, none⟩ = some (.int .i64 a0_2) := (blk_cell BK159.out 2).trans rfl; have hcz31_3 : w28.cell? ⟨gb159, 3, none⟩ = some (.int .i64 a0_3) := (blk_cell BK159.out 3).trans rfl; have hfz31_0 := blk_frozen BK159.out 0; have hfz31_1 := blk_frozen BK159.out 1; have hfz31_2 := blk_frozen BK159.out 2; have hfz31_3 := blk_frozen BK159.out 3) | ((with_reducible refine gate_callee (f := 25) rfl ?_); refine goesL_ (some 38) rfl rfl Tryd.func25 (by kernel_rfl) rfl #[.string a0_1, .string (strOfNums y163), .string ((strOfNums y163) ++ (strOfNums y163))] rfl (by (try simp only [List.map_toArray, List.map_cons, List.map_nil]); first | done | rfl | (simp only [List.length_drop, List.length_take]; rfl)) ?_; (with_reducible refine (strings_ReplaceAll.calls a0_1 (strOfNums y163) ((strOfNums y163) ++ (strOfNums y163)) t166 _ A23.out).mono ?_); rintro e w32 ⟨rfl, hb⟩; refine ⟨_, rfl, ?_⟩; have n0_ := Aside0.mk (Kd.R_below (by (with_reducible repeat (first | apply Kd.R_alloc | apply Kd.R_drewN | apply Kd.R_drew)); exact HO165.out) hb); have n1_ := Aside0.mk (blk_below (g := gb159) (o := .cells #[.int .i64 a0_0, .string a0_1, .int .i64 a0_2, .int .i64 a0_3] 33 (0, 0)) (by (with_reducible repeat (first | refine blk_drewN ?_ _ | refine blk_drew ?_ | refine blk_alloc ?_ _)); exact BK159.out) hb); have n2_ := Aside0.mk (below_step (by repeat (first | (with_reducible first | exact HB.out | apply below_alloc | apply pw_below_drewN | apply below_drew1 | refine below_set ?_ GE159.out) | exact HB.out)) hb); clear HO165; clear BK159; clear HB; have HO165 := n0_; have BK159 := n1_; have HB := n2_; clear n0_ n1_ n2_; (try clear hb); (try clear hb2); (try clear hk); (try clear hi)))
                      go_ret
                      exact ⟨by first | rfl | (simp [errW_none, errW_some] <;> rfl) | (simp [*, errW_none, errW_some] <;> rfl), by repeat (first | (with_reducible first | exact HB.out | apply below_alloc | apply pw_below_drewN | apply below_drew1 | refine below_set ?_ GE159.out) | exact HB.out)⟩
                    · rw [if_neg c25] at H
                      exact absurd H (by simp)
                  · rw [if_neg c24] at H
                    exact absurd H (by simp)
                · rw [if_neg c22] at H
                  exact absurd H (by simp)
            · rw [if_neg c16] at H
              have c16b0 : (a0_0 == 1) = false := beq_eq_false_iff_ne.mpr c16
              have c16b1 : (a0_0 != 1) = true := bne_iff_ne.mpr c16
              obtain rfl := Option.some.inj H
              go_wp2
              go_ret
              exact ⟨by first | rfl | (simp [errW_none, errW_some] <;> rfl) | (simp [*, errW_none, errW_some] <;> rfl), by repeat (first | (with_reducible first | exact HB.out | apply below_alloc | apply pw_below_drewN | apply below_drew1 | refine below_set ?_ GE159.out) | exact HB.out)⟩

end Go.Proofs.YtbmlpbgddlgdkaaDoor.Lx
