/- Facts on values as they are written, as bytes, and their sums, that the laws on values use: what the program's functions and the reference's come to. No condition beyond those that each theorem names. -/
import Derived.Test.YtccpbacnfhbdlaaDoorVax9
import Derived.Test.YtccpbacnfhbdlaaDoorVax10
import Derived.Test.YtccpbacnfhbdlaaDoorPureVal1
import Derived.Test.YtccpbacnfhbdlaaDoorAid
import Derived.Test.YtccpbacnfhbdlaaDoorCrcFns
import Derived.Test.YtccpbacnfhbdlaaDoorNumTx
import Derived.Lib.SplitLaws
namespace Go.Proofs.YtccpbacnfhbdlaaDoor.PureVal
open Go.RowKit Go.Proofs.YtccpbacnfhbdlaaDoorW.PrintWords Go.Proofs.YtccpbacnfhbdlaaDoorW.PrintLast Go.Proofs.YtccpbacnfhbdlaaDoorW.PrintMore
open Go.Proofs.YtccpbacnfhbdlaaDoor.Va
set_option linter.unusedVariables false
set_option linter.unusedSimpArgs false
theorem and255 (x : Int) : Go.bits .and .i64 x 255 = x % 256 := by
  have := Aid.and_mask x 8 (by decide)
  simpa using this
theorem xor128 : ∀ y : Fin 256, Go.bits .xor .u8 (y.val : Int) 128 = ((y.val : Int) + 128) % 256 := by decide +kernel
theorem byte_eq (a : Int) (h0 : -9223372036854775808 ≤ a) (h1 : a ≤ 9223372036854775807) (m : Nat) (hm : m < 7) :
    (Go.bits .and .i64 (shr .i64 a (8 * (m : Int))) 255) % 256 = (((a + 9223372036854775808).toNat / 256 ^ m % 256 : Nat) : Int) := by
  rw [and255]
  unfold shr
  rw [show min (8 * (m : Int)).toNat (IntKind.bits .i64) = 8 * m from by simp [IntKind.bits]; omega]
  obtain rfl | rfl | rfl | rfl | rfl | rfl | rfl : m = 0 ∨ m = 1 ∨ m = 2 ∨ m = 3 ∨ m = 4 ∨ m = 5 ∨ m = 6 := by omega
  all_goals simp
  all_goals omega
theorem byte_top (a : Int) (h0 : -9223372036854775808 ≤ a) (h1 : a ≤ 9223372036854775807) :
    Go.bits .xor .u8 ((Go.bits .and .i64 (shr .i64 a (8 * 7)) 255) % 256) 128 = (((a + 9223372036854775808).toNat / 256 ^ 7 % 256 : Nat) : Int) := by
  rw [and255]
  unfold shr
  rw [show min ((8 : Int) * 7).toNat (IntKind.bits .i64) = 56 from by decide]
  have hy : 0 ≤ a / 2 ^ 56 % 256 % 256 ∧ a / 2 ^ 56 % 256 % 256 < 256 := by omega
  have := xor128 ⟨(a / 2 ^ 56 % 256 % 256).toNat, by omega⟩
  simp only [Int.toNat_of_nonneg hy.1] at this
  rw [this]
  simp
  omega
theorem rbytes_l0 (a : Int) (h0 : -9223372036854775808 ≤ a) (h1 : a ≤ 9223372036854775807) (a0 : Int) (a2 : ByteArray) : ∀ (n d : Nat) (x3 : List Int), n ≤ 8 → x3.length + n ≤ 100 →
    quaysideref05_bytes.l0 (n + 1 + d) x3 ((n : Int) - 1) a0 a a2 = some (strOfNums (x3 ++ be n (a + 9223372036854775808).toNat))
  | 0, d, x3, h, hl => by
    rw [show 0 + 1 + d = d + 1 from by omega, quaysideref05_bytes.l0, if_neg (by omega)]
    simp [be]
  | n + 1, d, x3, h, hl => by
    rw [show n + 1 + 1 + d = (n + 1 + d) + 1 from by omega, quaysideref05_bytes.l0, if_pos (by omega)]
    have e1 : wrap64 (8 * (((n + 1 : Nat) : Int) - 1)) = 8 * (n : Int) := by rw [wrap64_id (by omega) (by omega)]; omega
    rw [e1, if_pos (by omega), wrap64_id (x := ((n + 1 : Nat) : Int) - 1 - 1) (by omega) (by omega), show ((n + 1 : Nat) : Int) - 1 - 1 = (n : Int) - 1 from by omega]
    by_cases c : ((n + 1 : Nat) : Int) - 1 = 7
    · obtain rfl : n = 7 := by omega
      rw [if_pos c, if_pos (by omega), rbytes_l0 a h0 h1 a0 a2 7 d _ (by omega) (by simp; omega)]
      rw [show (8 : Int) * ((7 : Nat) : Int) = 8 * 7 from rfl, byte_top a h0 h1]
      simp [be]
    · rw [if_neg c, if_pos (by omega), rbytes_l0 a h0 h1 a0 a2 n d _ (by omega) (by simp; omega), byte_eq a h0 h1 n (by omega)]
      simp [be]
theorem may_f (a0 a1 : Int) (a2 : ByteArray) : ∃ b, quaysideref05_May.f a0 a1 a2 = some b ∧ value_Check.f a0 a1 a2 = some (if b = true then 0 else 1) := by
  obtain ⟨t, h1, h2⟩ := check_f a0 a1 a2
  unfold quaysideref05_Check.f at h2
  cases hm : quaysideref05_May.f a0 a1 a2 with
  | none => rw [hm] at h2; cases h2
  | some b =>
    rw [hm, Option.bind_some] at h2
    refine ⟨b, rfl, ?_⟩
    rw [h1, ← h2]
    cases b <;> rfl
/-- What may be. -/
theorem may_true {a0 a1 : Int} {a2 : ByteArray} (h : quaysideref05_May.f a0 a1 a2 = some true) :
    (a0 = 0 ∧ a1 = 0 ∧ a2.toList = []) ∨ (a0 = 1 ∧ a2.toList = []) ∨ (a0 = 2 ∧ a1 = 0 ∧ a2.size ≤ 64) ∨ (a0 = 3 ∧ (a1 = 0 ∨ a1 = 1) ∧ a2.toList = []) := by
  unfold quaysideref05_May.f at h
  by_cases k0 : a0 = 0
  · rw [if_pos k0] at h
    by_cases n0 : a1 = 0
    · rw [if_pos n0] at h; exact .inl ⟨k0, n0, by simpa using h⟩
    · rw [if_neg n0] at h; cases h
  rw [if_neg k0] at h
  by_cases k1 : a0 = 1
  · rw [if_pos k1] at h; exact .inr (.inl ⟨k1, by simpa using h⟩)
  rw [if_neg k1] at h
  by_cases k2 : a0 = 2
  · rw [if_pos k2] at h
    by_cases n0 : a1 = 0
    · rw [if_pos n0] at h; exact .inr (.inr (.inl ⟨k2, n0, by have := Option.some.inj h; simp at this; omega⟩))
    · rw [if_neg n0] at h; cases h
  rw [if_neg k2] at h
  by_cases k3 : a0 = 3
  · rw [if_pos k3] at h
    by_cases n0 : a1 = 0
    · rw [if_pos n0] at h; exact .inr (.inr (.inr ⟨k3, .inl n0, by simpa using h⟩))
    · rw [if_neg n0] at h
      by_cases n1 : a1 = 1
      · rw [if_pos n1] at h; exact .inr (.inr (.inr ⟨k3, .inr n1, by simpa using h⟩))
      · rw [if_neg n1] at h; cases h
  · rw [if_neg k3] at h; cases h
/-- Both give a value the same bytes. -/
theorem bytes_eq {a0 a1 : Int} {a2 : ByteArray} (h0 : -9223372036854775808 ≤ a1) (h1 : a1 ≤ 9223372036854775807) (hm : quaysideref05_May.f a0 a1 a2 = some true) :
    ∃ r, r.size ≤ 66 ∧ 1 ≤ r.size ∧ ∀ d, value_bytes.f (20 + d) a0 a1 a2 = some r ∧ quaysideref05_bytes.f (20 + d) a0 a1 a2 = some r := by
  unfold value_bytes.f quaysideref05_bytes.f
  simp only [Option.bind_some, and255]
  rcases may_true hm with ⟨rfl, rfl, hs⟩ | ⟨rfl, hs⟩ | ⟨rfl, rfl, hs⟩ | ⟨rfl, hn, hs⟩
  · exact ⟨strOfNums [0], by rw [strOfNums_size]; simp, by rw [strOfNums_size]; simp, fun d => ⟨by simp, by simp⟩⟩
  · refine ⟨strOfNums (1 :: be 8 (a1 + 9223372036854775808).toNat), by rw [strOfNums_size]; simp [be_length], by rw [strOfNums_size]; simp, fun d => ⟨?_, ?_⟩⟩
    · rw [if_pos rfl, xor_top a1 h0 h1]
      have := vbytes_l0 (a1 + 9223372036854775808).toNat 8 (11 + d) [1] (by omega) (by simp)
      rw [show 8 + 1 + (11 + d) = 20 + d from by omega, Int.toNat_of_nonneg (by omega)] at this
      exact this
    · rw [if_pos rfl]
      have := rbytes_l0 a1 h0 h1 1 a2 8 (11 + d) [1] (by omega) (by simp)
      rw [show 8 + 1 + (11 + d) = 20 + d from by omega] at this
      exact this
  · refine ⟨strOfNums ([2] ++ [(a2.size : Int) % 256] ++ bytesOf a2), by rw [strOfNums_size]; simp [bytesOf_length]; omega, by rw [strOfNums_size]; simp, fun d => ⟨?_, ?_⟩⟩
    · rw [if_neg (by decide), if_pos rfl, if_pos (by simp), if_pos (by simp; omega)]
      rfl
    · rw [if_neg (by decide), if_pos rfl, if_pos (by simp), if_pos (by simp; omega)]
      simp
  · refine ⟨strOfNums ([3] ++ [a1 % 256]), by rw [strOfNums_size]; simp, by rw [strOfNums_size]; simp, fun d => ⟨?_, ?_⟩⟩
    · rw [if_neg (by decide), if_neg (by decide), if_pos rfl, if_pos (by simp)]
      rfl
    · rw [if_neg (by decide), if_neg (by decide), if_pos rfl, if_pos (by simp)]
      simp
/-- Both give a value the same number. -/
theorem hash_eq {a0 a1 : Int} {a2 : ByteArray} (h0 : -9223372036854775808 ≤ a1) (h1 : a1 ≤ 9223372036854775807) : ∃ r, ∀ d, value_Hash.f (1000 + d) a0 a1 a2 = some r ∧ quaysideref05_Hash.f (1000 + d) a0 a1 a2 = some r := by
  obtain ⟨b, hm, hc⟩ := may_f a0 a1 a2
  unfold value_Hash.f quaysideref05_Hash.f
  rw [hm, hc]
  cases b with
  | false => exact ⟨0, fun d => ⟨rfl, rfl⟩⟩
  | true =>
    obtain ⟨r, hr, _, hb⟩ := bytes_eq h0 h1 hm
    refine ⟨((Crc.crc 0 (Fns.B r) : Nat) : Int), fun d => ?_⟩
    obtain ⟨b1, b2⟩ := hb (980 + d)
    rw [show 20 + (980 + d) = 1000 + d from by omega] at b1 b2
    have s1 := Fns.sum_eq r (1000 + d) (by omega) (by omega)
    have s2 := Fns.rsum_eq r (1000 + d) (by omega) (by omega)
    constructor
    · simp [b1, s1]
    · simp [b2, s2]
/-! ### A text as it is written -/
def esc : List UInt8 → List UInt8
  | [] => []
  | b :: l => if b = 39 then 39 :: 39 :: esc l else b :: esc l
theorem rep_skip (b : UInt8) (hb : b ≠ 39) (l : List UInt8) : ∀ m, Lib.replaceK [39] [39, 39] m (b :: l) = b :: Lib.replaceK [39] [39, 39] m l
  | 0 => rfl
  | m + 1 => by
    have hp : ([39] : List UInt8).isPrefixOf (b :: l) = false := by simp [List.isPrefixOf, Ne.symm hb]
    have hi : Lib.index (b :: l) [39] = if Lib.index l [39] == -1 then -1 else Lib.index l [39] + 1 := by
      rw [Lib.index, hp]; rfl
    unfold Lib.replaceK
    rw [hi]
    have hge := Lib.index_ge l [39]
    by_cases c : Lib.index l [39] = -1
    · simp [c]
    · obtain ⟨i, hi2⟩ : ∃ i : Nat, Lib.index l [39] = i := ⟨(Lib.index l [39]).toNat, by omega⟩
      have c1 : (Lib.index l [39] == -1) = false := by simpa using c
      have c2 : (((i : Int) + 1) == -1) = false := by simp; omega
      rw [hi2] at c1 ⊢
      rw [c1]
      simp only [Bool.false_eq_true, if_false, c2]
      rw [show ((i : Int) + 1).toNat = i + 1 from by omega, show ((i : Int)).toNat = i from by omega]
      simp
theorem rep_all : ∀ l : List UInt8, Lib.replaceK [39] [39, 39] (l.count 39) l = esc l
  | [] => by simp [Lib.replaceK, esc]
  | b :: l => by
    by_cases hb : b = 39
    · subst hb
      have hi : Lib.index ((39 : UInt8) :: l) [39] = 0 := by rw [Lib.index]; simp [List.isPrefixOf]
      rw [List.count_cons_self, Lib.replaceK_hit _ _ _ _ 0 hi, esc, if_pos rfl]
      simp [rep_all l]
    · rw [List.count_cons_of_ne hb, rep_skip b hb, rep_all l, esc, if_neg hb]
theorem replace_f (a2 : ByteArray) (hs : a2.size ≤ 64) : strings_ReplaceAll.f a2 ⟨#[39]⟩ ⟨#[39, 39]⟩ = some ⟨(esc a2.data.toList).toArray⟩ := by
  unfold strings_ReplaceAll.f
  have hc : Lib.countB a2 ⟨#[39]⟩ = a2.data.toList.count 39 := Lib.count_one 39 a2.data.toList
  have hle : a2.data.toList.count 39 ≤ a2.size := by have := List.count_le_length (a := (39 : UInt8)) (l := a2.data.toList); simpa using this
  rw [if_pos (by omega), if_pos (by decide), if_pos (by decide), if_pos (by rw [hc]; omega)]
  congr 2
  unfold Lib.replaceAll Lib.replace Lib.replaceNum
  rw [if_neg (by decide), if_pos (by simp)]
  have : Lib.count a2.data.toList [39] = a2.data.toList.count 39 := Lib.count_one 39 a2.data.toList
  show (Lib.replaceK [39] [39, 39] (Lib.count a2.data.toList [39]) a2.data.toList).toArray = _
  rw [this, rep_all]
def escI : List UInt8 → List Int
  | [] => []
  | b :: l => if b = 39 then 39 :: 39 :: escI l else (b.toNat : Int) :: escI l
theorem escI_map : ∀ l : List UInt8, (escI l).map BB = esc l
  | [] => rfl
  | b :: l => by
    by_cases hb : b = 39
    · simp [escI, esc, hb, escI_map l, BB]
    · simp [escI, esc, hb, escI_map l, BB]
theorem escI_length : ∀ l : List UInt8, (escI l).length ≤ 2 * l.length
  | [] => by simp [escI]
  | b :: l => by
    have := escI_length l
    by_cases hb : b = 39 <;> simp [escI, hb] <;> omega
theorem bt_drop (s : ByteArray) (i : Nat) (h : i < s.size) : ∃ c, s.data.toList.drop i = c :: s.data.toList.drop (i + 1) ∧ bt s (i : Int) = (c.toNat : Int) := by
  have hl : i < s.data.toList.length := by rw [Array.length_toList]; exact h
  refine ⟨s.data.toList[i], List.drop_eq_getElem_cons hl, ?_⟩
  have := bt_at s (i : Int) (by simpa using h)
  rw [← this]
  simp
  rfl
theorem rshow_l0 (a0 a1 : Int) (s : ByteArray) (hs : s.size ≤ 64) : ∀ (n d i : Nat) (x3 : List Int), i ≤ s.size → s.size - i ≤ n → x3.length ≤ 2 * i + 1 →
    quaysideref05_Show.l0 (n + 1 + d) x3 (i : Int) a0 a1 s = some (strOfNums (x3 ++ escI (s.data.toList.drop i) ++ [39]))
  | 0, d, i, x3, h1, h2, h3 => by
    have e : i = s.size := by omega
    rw [show 0 + 1 + d = d + 1 from by omega, quaysideref05_Show.l0, if_neg (by omega), if_pos (by omega)]
    rw [List.drop_eq_nil_of_le (by rw [Array.length_toList]; exact Nat.le_of_eq e.symm)]
    simp [escI]
  | n + 1, d, i, x3, h1, h2, h3 => by
    by_cases c : i < s.size
    · obtain ⟨b, hd, hb⟩ := bt_drop s i c
      rw [show n + 1 + 1 + d = (n + 1 + d) + 1 from by omega, quaysideref05_Show.l0, if_pos (by omega), if_pos (by omega), hb, wrap64_id (x := (i : Int) + 1) (by omega) (by omega), show ((i : Int) + 1) = ((i + 1 : Nat) : Int) from by omega, hd]
      by_cases e : b = 39
      · subst e
        rw [if_pos (by decide), if_pos (by omega), Option.bind_some, if_pos (by simp; omega), rshow_l0 a0 a1 s hs n d (i + 1) _ (by omega) (by omega) (by simp; omega)]
        simp [escI]
      · have e2 : ¬ (b.toNat : Int) = 39 := by
          intro h
          apply e
          rw [← UInt8.toNat_inj]
          have : b.toNat = 39 := by omega
          rw [this]; rfl
        rw [if_neg e2, if_pos (by omega), rshow_l0 a0 a1 s hs n d (i + 1) _ (by omega) (by omega) (by simp; omega)]
        simp [escI, e]
    · rw [show n + 1 + 1 + d = 0 + 1 + (n + 1 + d) from by omega]
      exact rshow_l0 a0 a1 s hs 0 (n + 1 + d) i x3 h1 (by omega) h3
/-- Both write a value alike. -/
theorem show_eq {a0 a1 : Int} {a2 : ByteArray} (h0 : -9223372036854775808 ≤ a1) (h1 : a1 ≤ 9223372036854775807) : ∃ r r', r.toList = r'.toList ∧ ∀ d, value_Show.f (3000 + d) a0 a1 a2 = some r ∧ quaysideref05_Show.f (3000 + d) a0 a1 a2 = some r' := by
  obtain ⟨b, hm, hc⟩ := may_f a0 a1 a2
  unfold value_Show.f quaysideref05_Show.f
  rw [hm, hc]
  cases b with
  | false => exact ⟨_, _, rfl, fun d => ⟨rfl, rfl⟩⟩
  | true =>
    have j0 : ∀ b d, value_Show.j0 (3000 + d) b a0 a1 a2 = if b = true then some ⟨#[116, 114, 117, 101]⟩ else if a0 = 3 then some ⟨#[102, 97, 108, 115, 101]⟩ else some ⟨#[110, 117, 108, 108]⟩ := fun b d => by
      rw [show 3000 + d = (2999 + d) + 1 from by omega, value_Show.j0]
    simp only [Option.bind_some, if_true, j0]
    rcases may_true hm with ⟨rfl, rfl, hs⟩ | ⟨rfl, hs⟩ | ⟨rfl, rfl, hs⟩ | ⟨rfl, hn, hs⟩
    · exact ⟨_, _, rfl, fun d => ⟨rfl, rfl⟩⟩
    · obtain ⟨r, hr⟩ : ∃ r, num_Text.f a1 = some r := ⟨_, NumTx.text_eq a1 ⟨h0, h1⟩⟩
      refine ⟨r, r, rfl, fun d => ⟨?_, ?_⟩⟩
      · simp [hr]
      · have := NumTx.rtext_eq a1 ⟨h0, h1⟩ (3000 + d) (by omega)
        simp [this, hr]
    · refine ⟨((⟨#[39]⟩ : ByteArray) ++ ⟨(esc a2.data.toList).toArray⟩) ++ ⟨#[39]⟩, strOfNums ([39] ++ escI (a2.data.toList.drop 0) ++ [39]), ?_, fun d => ⟨?_, ?_⟩⟩
      · rw [toList_data, toList_data, strOfNums_data]
        simp only [ByteArray.data_append, Array.toList_append, List.map_append, List.drop_zero]
        rw [show (escI a2.data.toList).map (fun n : Int => UInt8.ofNat n.toNat) = esc a2.data.toList from escI_map _]
        rfl
      · have hle : (esc a2.data.toList).length ≤ 2 * a2.size := by
          rw [← escI_map, List.length_map]
          have := escI_length a2.data.toList
          simpa using this
        rw [if_neg (by decide), if_pos rfl, replace_f a2 hs, Option.bind_some]
        rw [if_pos (by simp [ByteArray.size]; omega), if_pos (by simp [ByteArray.size]; omega)]
      · rw [if_neg (by decide), if_pos rfl]
        have := rshow_l0 2 0 a2 hs 64 (2935 + d) 0 [39] (by omega) (by omega) (by simp)
        rw [show 64 + 1 + (2935 + d) = 3000 + d from by omega] at this
        exact this
    · rcases hn with rfl | rfl
      · exact ⟨_, _, rfl, fun d => ⟨rfl, rfl⟩⟩
      · exact ⟨_, _, rfl, fun d => ⟨rfl, rfl⟩⟩
end Go.Proofs.YtccpbacnfhbdlaaDoor.PureVal
