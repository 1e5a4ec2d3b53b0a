import Derived.Test.YtccpbacnfhbdlaaDoorPureVal0
import Derived.Test.YtccpbacnfhbdlaaDoorVax3
namespace Go.Proofs.YtccpbacnfhbdlaaDoor.PureVal
open Go.RowKit Go.Proofs.YtccpbacnfhbdlaaDoorW.PrintWords Go.Proofs.YtccpbacnfhbdlaaDoorW.PrintLast Go.Proofs.YtccpbacnfhbdlaaDoorW.PrintMore
open Go.Proofs.YtccpbacnfhbdlaaDoor.Va
set_option linter.unusedVariables false
set_option linter.unusedSimpArgs false
/-- three ways that two stand -/
def cI (a b : Int) : Int := if a < b then -1 else if a > b then 1 else 0
def cS (a b : ByteArray) : Int := Lib.compareBytes a.data.toList b.data.toList
def cV (a0 a1 : Int) (a2 : ByteArray) (b0 b1 : Int) (b2 : ByteArray) : Int := if cI a0 b0 = 0 then (if cI a1 b1 = 0 then cS a2 b2 else cI a1 b1) else cI a0 b0
theorem cmp_f (a b : Int) : cmp_Compare_int.f a b = some (cI a b) := by
  unfold cmp_Compare_int.f cmp_isNaN_int.f cI
  simp
  split
  · rfl
  · split <;> rfl
theorem or3 (x y z : Int) (d : Nat) : cmp_Or_int.f (4 + d) [x, y, z] = some (if x = 0 then (if y = 0 then z else y) else x) := by
  unfold cmp_Or_int.f
  have e0 : rd [x, y, z] 0 = x := rfl
  have e1 : rd [x, y, z] 1 = y := rfl
  have e2 : rd [x, y, z] 2 = z := rfl
  rw [show 4 + d = d + 1 + 1 + 1 + 1 from by omega]
  rw [cmp_Or_int.l0, if_pos (by simp), if_pos (by decide), if_pos (by simp), e0, wrap64_id (x := 0 + 1) (by decide) (by decide)]
  by_cases c : x = 0
  · rw [if_pos c, if_pos c]
    rw [cmp_Or_int.l0, if_pos (by simp), if_pos (by decide), if_pos (by simp), show (0 + 1 : Int) = 1 from rfl, e1, wrap64_id (x := 1 + 1) (by decide) (by decide)]
    by_cases c2 : y = 0
    · rw [if_pos c2, if_pos c2]
      rw [cmp_Or_int.l0, if_pos (by simp), if_pos (by decide), if_pos (by simp), show (1 + 1 : Int) = 2 from rfl, e2, wrap64_id (x := 2 + 1) (by decide) (by decide)]
      by_cases c3 : z = 0
      · rw [if_pos c3, c3, cmp_Or_int.l0, if_neg (by simp)]
      · rw [if_neg c3]
    · rw [if_neg c2, if_neg c2]
  · rw [if_neg c, if_neg c]
theorem compare_f (a0 a1 : Int) (a2 : ByteArray) (b0 b1 : Int) (b2 : ByteArray) (d : Nat) : value_Compare.f (4 + d) a0 a1 a2 b0 b1 b2 = some (cV a0 a1 a2 b0 b1 b2) := by
  unfold value_Compare.f
  rw [cmp_f, Option.bind_some, cmp_f, Option.bind_some]
  unfold strings_Compare.f
  rw [Option.bind_some, or3, Option.bind_some]
  rfl
theorem cI_anti (a b : Int) : cI b a = -cI a b := by unfold cI; split <;> split <;> (try split) <;> omega
theorem cB_anti : ∀ a b : List UInt8, Lib.compareBytes b a = -Lib.compareBytes a b
  | [], [] => rfl
  | [], _ :: _ => rfl
  | _ :: _, [] => rfl
  | a :: x, b :: y => by
    simp only [Lib.compareBytes]
    by_cases c1 : a < b
    · have c2 : ¬ b < a := fun h => absurd (UInt8.lt_trans c1 h) (UInt8.lt_irrefl a)
      rw [if_neg c2, if_pos c1, if_pos c1]; rfl
    · by_cases c2 : b < a
      · rw [if_pos c2, if_neg c1, if_pos c2]
      · rw [if_neg c2, if_neg c1, if_neg c1, if_neg c2, cB_anti x y]
theorem cB_zero : ∀ a b : List UInt8, Lib.compareBytes a b = 0 ↔ a = b
  | [], [] => by simp [Lib.compareBytes]
  | [], _ :: _ => by simp [Lib.compareBytes]
  | _ :: _, [] => by simp [Lib.compareBytes]
  | a :: x, b :: y => by
    simp only [Lib.compareBytes]
    by_cases c1 : a < b
    · rw [if_pos c1]
      have : a ≠ b := fun e => by subst e; exact absurd c1 (UInt8.lt_irrefl a)
      simp [this]
    · by_cases c2 : b < a
      · rw [if_neg c1, if_pos c2]
        have : a ≠ b := fun e => by subst e; exact absurd c2 (UInt8.lt_irrefl a)
        simp [this]
      · rw [if_neg c1, if_neg c2, cB_zero x y]
        have : a = b := by
          rw [UInt8.lt_iff_toNat_lt] at c1 c2
          rw [← UInt8.toNat_inj]; omega
        simp [this]
theorem cB_less : ∀ a b : List UInt8, Lib.compareBytes a b = if Op.bytesLess a b = true then -1 else if Op.bytesLess b a = true then 1 else 0
  | [], [] => rfl
  | [], _ :: _ => rfl
  | _ :: _, [] => rfl
  | a :: x, b :: y => by
    simp only [Lib.compareBytes, Op.bytesLess]
    by_cases c1 : a < b
    · simp [c1]
    · by_cases c2 : b < a
      · have : a ≠ b := fun e => by subst e; exact absurd c2 (UInt8.lt_irrefl a)
        simp [c1, c2, this]
      · have : a = b := by
          rw [UInt8.lt_iff_toNat_lt] at c1 c2
          rw [← UInt8.toNat_inj]; omega
        subst this
        rw [if_neg c1, if_neg c1, cB_less x y]
        simp [c1]
theorem cB_trans : ∀ a b c : List UInt8, Lib.compareBytes a b = -1 → Lib.compareBytes b c = -1 → Lib.compareBytes a c = -1
  | _, [], [], _, h => by simp [Lib.compareBytes] at h
  | _, _ :: _, [], _, h => by simp [Lib.compareBytes] at h
  | [], [], _ :: _, h, _ => by simp [Lib.compareBytes] at h
  | _ :: _, [], _ :: _, h, _ => by simp [Lib.compareBytes] at h
  | [], _ :: _, _ :: _, _, _ => rfl
  | a :: x, b :: y, c :: z, h1, h2 => by
    simp only [Lib.compareBytes] at *
    have key : ∀ p q : UInt8, ¬ p < q → ¬ q < p → p = q := fun p q h h' => by
      rw [UInt8.lt_iff_toNat_lt] at h h'
      rw [← UInt8.toNat_inj]; omega
    by_cases c1 : a < b
    · by_cases c2 : b < c
      · rw [if_pos (UInt8.lt_trans c1 c2)]
      · rw [if_neg c2] at h2
        by_cases c3 : c < b
        · rw [if_pos c3] at h2; cases h2
        · obtain rfl := key b c c2 c3
          rw [if_pos c1]
    · rw [if_neg c1] at h1
      by_cases c2 : b < a
      · rw [if_pos c2] at h1; cases h1
      · rw [if_neg c2] at h1
        obtain rfl := key a b c1 c2
        by_cases c3 : a < c
        · rw [if_pos c3]
        · rw [if_neg c3] at h2 ⊢
          by_cases c4 : c < a
          · rw [if_pos c4] at h2; cases h2
          · rw [if_neg c4] at h2 ⊢
            exact cB_trans x y z h1 h2
theorem cB_three (a b : List UInt8) : Lib.compareBytes a b = -1 ∨ Lib.compareBytes a b = 0 ∨ Lib.compareBytes a b = 1 := by
  rw [cB_less]; split <;> (try split) <;> simp
theorem cI_three (a b : Int) : (a < b ∧ cI a b = -1) ∨ (a = b ∧ cI a b = 0) ∨ (b < a ∧ cI a b = 1) := by
  unfold cI; split
  · exact .inl ⟨by assumption, rfl⟩
  · split
    · exact .inr (.inr ⟨by omega, rfl⟩)
    · exact .inr (.inl ⟨by omega, rfl⟩)
theorem cV_anti (a0 a1 : Int) (a2 : ByteArray) (b0 b1 : Int) (b2 : ByteArray) : cV b0 b1 b2 a0 a1 a2 = -cV a0 a1 a2 b0 b1 b2 := by
  unfold cV cS
  rw [cI_anti a0 b0, cI_anti a1 b1, cB_anti]
  rcases cI_three a0 b0 with ⟨_, h⟩ | ⟨_, h⟩ | ⟨_, h⟩ <;> rcases cI_three a1 b1 with ⟨_, h'⟩ | ⟨_, h'⟩ | ⟨_, h'⟩ <;> simp [h, h']
theorem cV_three (a0 a1 : Int) (a2 : ByteArray) (b0 b1 : Int) (b2 : ByteArray) : cV a0 a1 a2 b0 b1 b2 = -1 ∨ cV a0 a1 a2 b0 b1 b2 = 0 ∨ cV a0 a1 a2 b0 b1 b2 = 1 := by
  unfold cV cS
  rcases cI_three a0 b0 with ⟨_, h⟩ | ⟨_, h⟩ | ⟨_, h⟩ <;> rcases cI_three a1 b1 with ⟨_, h'⟩ | ⟨_, h'⟩ | ⟨_, h'⟩ <;> simp [h, h', cB_three]
theorem cV_zero (a0 a1 : Int) (a2 : ByteArray) (b0 b1 : Int) (b2 : ByteArray) : cV a0 a1 a2 b0 b1 b2 = 0 ↔ a0 = b0 ∧ a1 = b1 ∧ a2.toList = b2.toList := by
  rw [toList_data, toList_data]
  unfold cV cS
  rcases cI_three a0 b0 with ⟨g, h⟩ | ⟨g, h⟩ | ⟨g, h⟩ <;> rcases cI_three a1 b1 with ⟨g', h'⟩ | ⟨g', h'⟩ | ⟨g', h'⟩ <;> simp [h, h', cB_zero] <;> (try intro _) <;> first | omega | (constructor <;> (intro q; first | exact ⟨g, g', q⟩ | exact q.2.2)) | simp [g, g']
theorem cV_trans (a0 a1 : Int) (a2 : ByteArray) (b0 b1 : Int) (b2 : ByteArray) (c0 c1 : Int) (c2 : ByteArray) (h1 : cV a0 a1 a2 b0 b1 b2 = -1) (h2 : cV b0 b1 b2 c0 c1 c2 = -1) : cV a0 a1 a2 c0 c1 c2 = -1 := by
  unfold cV cS at *
  rcases cI_three a0 b0 with ⟨g, h⟩ | ⟨g, h⟩ | ⟨g, h⟩ <;> rcases cI_three b0 c0 with ⟨g', h'⟩ | ⟨g', h'⟩ | ⟨g', h'⟩ <;> simp [h] at h1 <;> simp [h'] at h2
  · have : cI a0 c0 = -1 := by unfold cI; rw [if_pos (by omega)]
    simp [this]
  · have : cI a0 c0 = -1 := by unfold cI; rw [if_pos (by omega)]
    simp [this]
  · have : cI a0 c0 = -1 := by unfold cI; rw [if_pos (by omega)]
    simp [this]
  · have e : cI a0 c0 = 0 := by unfold cI; rw [if_neg (by omega), if_neg (by omega)]
    rw [if_pos e]
    rcases cI_three a1 b1 with ⟨p, q⟩ | ⟨p, q⟩ | ⟨p, q⟩ <;> rcases cI_three b1 c1 with ⟨p', q'⟩ | ⟨p', q'⟩ | ⟨p', q'⟩ <;> simp [q] at h1 <;> simp [q'] at h2
    · have : cI a1 c1 = -1 := by unfold cI; rw [if_pos (by omega)]
      simp [this]
    · have : cI a1 c1 = -1 := by unfold cI; rw [if_pos (by omega)]
      simp [this]
    · have : cI a1 c1 = -1 := by unfold cI; rw [if_pos (by omega)]
      simp [this]
    · have : cI a1 c1 = 0 := by unfold cI; rw [if_neg (by omega), if_neg (by omega)]
      rw [if_pos this]
      exact cB_trans _ _ _ h1 h2
theorem less_f (a0 a1 : Int) (a2 : ByteArray) (b0 b1 : Int) (b2 : ByteArray) : quaysideref05_less.f a0 a1 a2 b0 b1 b2 = some (decide (cV a0 a1 a2 b0 b1 b2 = -1)) := by
  unfold quaysideref05_less.f cV cS
  rcases cI_three a0 b0 with ⟨g, h⟩ | ⟨g, h⟩ | ⟨g, h⟩
  · rw [if_neg (by omega), h]; simp [g]
  · rw [if_pos g, h]
    rcases cI_three a1 b1 with ⟨g', h'⟩ | ⟨g', h'⟩ | ⟨g', h'⟩
    · rw [if_neg (by omega), h']; simp [g']
    · rw [if_pos g', h', toList_data, toList_data, cB_less]
      cases Op.bytesLess a2.data.toList b2.data.toList <;> cases Op.bytesLess b2.data.toList a2.data.toList <;> rfl
    · rw [if_neg (by omega), h']; simp; omega
  · rw [if_neg (by omega), h]; simp; omega
theorem rcompare_f (a0 a1 : Int) (a2 : ByteArray) (b0 b1 : Int) (b2 : ByteArray) : quaysideref05_Compare.f a0 a1 a2 b0 b1 b2 = some (cV a0 a1 a2 b0 b1 b2) := by
  unfold quaysideref05_Compare.f
  rw [less_f, less_f, Option.bind_some, Option.bind_some, cV_anti a0 a1 a2 b0 b1 b2]
  rcases cV_three a0 a1 a2 b0 b1 b2 with h | h | h <;> rw [h] <;> rfl
theorem and1 (x : Int) : Go.bits .and .i64 x 1 = x % 2 := by
  have e : Go.bits .and .i64 x 1 = IntKind.wrap .i64 (((BitVec.ofInt 64 x) &&& (BitVec.ofInt 64 1)).toNat : Int) := rfl
  rw [e, BitVec.toNat_and, ofInt_nat, show (BitVec.ofInt 64 1).toNat = 1 from by decide, Nat.and_one_is_mod]
  simp [IntKind.wrap, IntKind.bits, IntKind.signed]
  omega
theorem check_f (a0 a1 : Int) (a2 : ByteArray) : ∃ t, value_Check.f a0 a1 a2 = some t ∧ quaysideref05_Check.f a0 a1 a2 = some t := by
  unfold value_Check.f quaysideref05_Check.f quaysideref05_May.f
  rw [and1]
  by_cases k0 : a0 = 0
  · subst k0
    by_cases n0 : a1 = 0
    · by_cases s0 : a2.toList = []
      · exact ⟨0, by simp [n0, s0], by simp [n0, s0]⟩
      · exact ⟨1, by simp [n0, s0], by simp [n0, s0]⟩
    · exact ⟨1, by simp [n0], by simp [n0]⟩
  by_cases k1 : a0 = 1
  · subst k1
    by_cases s0 : a2.toList = []
    · exact ⟨0, by simp [s0], by simp [s0]⟩
    · exact ⟨1, by simp [s0], by simp [s0]⟩
  by_cases k2 : a0 = 2
  · subst k2
    by_cases n0 : a1 = 0
    · by_cases z0 : (a2.size : Int) ≤ 64
      · exact ⟨0, by simp [n0, z0], by simp [n0, z0]⟩
      · exact ⟨1, by simp [n0, z0], by simp [n0, z0]⟩
    · exact ⟨1, by simp [n0], by simp [n0]⟩
  by_cases k3 : a0 = 3
  · subst k3
    by_cases n0 : a1 = 0
    · by_cases s0 : a2.toList = []
      · exact ⟨0, by simp [n0, s0], by simp [n0, s0]⟩
      · exact ⟨1, by simp [n0, s0], by simp [n0, s0]⟩
    · by_cases n1 : a1 = 1
      · by_cases s0 : a2.toList = []
        · exact ⟨0, by simp [n1, s0], by simp [n1, s0]⟩
        · exact ⟨1, by simp [n1, s0], by simp [n1, s0]⟩
      · have n2 : ¬ a1 = a1 % 2 := by omega
        exact ⟨1, by simp [n2], by simp [n0, n1]⟩
  · exact ⟨1, by simp [k0, k1, k2, k3], by simp [k0, k1, k2, k3]⟩
end Go.Proofs.YtccpbacnfhbdlaaDoor.PureVal
