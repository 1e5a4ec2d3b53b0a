/- The program's reader of numbers in plain words. No condition beyond those that each theorem names. -/
import Derived.Test.YtbmlpbgddlgdkaaDoorPureLex0
import Derived.Test.YtbmlpbgddlgdkaaDoorLxx6
import Derived.Test.YtbmlpbgddlgdkaaDoorDec
namespace Go.Proofs.YtbmlpbgddlgdkaaDoor.Lx
open Go.RowKit Go.Proofs.YtbmlpbgddlgdkaaDoorW.PrintWords Go.Proofs.YtbmlpbgddlgdkaaDoorW.PrintLast Go.Proofs.YtbmlpbgddlgdkaaDoorW.PrintMore
set_option linter.unusedVariables false
set_option linter.unusedSimpArgs false
/-- a number, or that it is none -/
def num (n : Int) : Int × Int := if -9223372036854775808 ≤ n ∧ n ≤ 9223372036854775807 then (n, 0) else (0, 10)
/-- is it a number of 64 bits? -/
abbrev In (a : Int) : Prop := -9223372036854775808 ≤ a ∧ a ≤ 9223372036854775807

theorem signed_eq (k : Nat) (n : Int) (b : Bool) (h0 : 0 ≤ n) (h1 : n < 18446744073709551616) : num_signed.f (k + 1) n b = some (num (if b = true then -n else n)) := by
  unfold num_signed.f
  simp only [num_signed.j0, wrapu]
  cases b
  · simp only [Bool.false_eq_true, if_false]
    by_cases h : n < 9223372036854775808
    · rw [if_pos h]; unfold num wrap64; rw [if_pos (by omega)]; refine congrArg some (Prod.ext ?_ ?_) <;> dsimp only <;> omega
    · rw [if_neg h]; unfold num; rw [if_neg (by omega)]
  · simp only [if_true, decide_eq_true_eq]
    by_cases h : n ≤ 9223372036854775808
    · rw [if_pos h]; unfold num wrap64; rw [if_pos (by omega)]; refine congrArg some (Prod.ext ?_ ?_) <;> dsimp only <;> omega
    · rw [if_neg h]; unfold num; rw [if_neg (by omega)]

open Go.Proofs.YtbmlpbgddlgdkaaDoor.Dec (isD val digN behind readS textS val_snoc val_lt digN_all digN_val digN_of head_app head_dig read_text text_read val_big)
theorem num_eq (n : Int) : Dec.num n = num n := rfl
/-- a text's bytes -/
def B (s : ByteArray) : List Nat := s.data.toList.map UInt8.toNat
theorem B_length (s : ByteArray) : (B s).length = s.size := by simp [B]
theorem B_lt (s : ByteArray) : ∀ b ∈ B s, b < 256 := by
  intro b hb
  obtain ⟨x, _, rfl⟩ := List.mem_map.1 hb
  exact x.toNat_lt
theorem bt_nat (s : ByteArray) (i : Nat) (h : i < s.size) : bt s (i : Int) = (((B s)[i]'(by rw [B_length]; exact h) : Nat) : Int) := by
  unfold bt
  rw [dif_pos (by simpa using h)]
  simp [B]
  rfl
theorem B_inj {a b : ByteArray} (h : B a = B b) : a = b := by
  unfold B at h
  have h2 : a.data.toList = b.data.toList := (List.map_inj_right (fun x y h => UInt8.toNat_inj.1 h)).1 h
  cases a; cases b; exact congrArg ByteArray.mk (Array.toList_inj.1 h2)
theorem toList_iff (a : ByteArray) (l : List UInt8) : a.toList = l ↔ B a = l.map UInt8.toNat := by
  rw [ByteArray.toList_eq]
  constructor
  · intro h; unfold B; rw [h]
  · intro h; exact (List.map_inj_right (fun x y h => UInt8.toNat_inj.1 h)).1 h
theorem B_nums (l : List Nat) (h : ∀ b ∈ l, b < 256) : B (strOfNums (l.map fun b : Nat => (b : Int))) = l := by
  unfold B
  rw [strOfNums_data, List.map_map, List.map_map]
  have : ∀ b ∈ l, ((UInt8.toNat ∘ fun n : Int => UInt8.ofNat n.toNat) ∘ fun b : Nat => (b : Int)) b = b := by
    intro b hb
    simp only [Function.comp_apply, Int.toNat_natCast]
    exact UInt8.toNat_ofNat_of_lt' (h b hb)
  rw [List.map_congr_left this, List.map_id']
theorem B_extract (s : ByteArray) (i n : Nat) : B (s.extract i n) = ((B s).take n).drop i := by
  unfold B
  rw [ByteArray.data_extract, Array.toList_extract, List.extract_eq_take_drop, List.drop_take, List.map_take, List.map_drop]
theorem digf_eq (f : Nat) : ∀ k : Nat, digf f k = (digN f k).map fun b : Nat => (b : Int) := by
  induction f with
  | zero => intro k; rfl
  | succ f ih =>
    intro k
    unfold digf digN
    split
    · simp
    · rw [ih, List.map_append]; simp
theorem dig_lt (l : List Nat) (h : l.all isD = true) : ∀ b ∈ l, b < 256 := by
  intro b hb
  have := List.all_eq_true.1 h b hb
  simp [isD] at this; omega
theorem textS_lt (n : Int) : ∀ b ∈ textS n, b < 256 := by
  intro b hb
  unfold textS at hb
  rcases List.mem_append.1 hb with h | h
  · split at h
    · simp at h; omega
    · simp at h
  · exact dig_lt _ (digN_all _ _) b h
theorem text_eq (n : Int) (hn : In n) : num_Text.f n = some (strOfNums ((textS n).map fun b : Nat => (b : Int))) := by
  unfold num_Text.f
  rw [if_pos hn.1, if_pos hn.2]
  have e : (Go.Proofs.YtbmlpbgddlgdkaaDoor.Lx.mag n).toNat = n.natAbs := by unfold Go.Proofs.YtbmlpbgddlgdkaaDoor.Lx.mag; split <;> omega
  rw [e, digf_eq]
  unfold textS
  rw [List.map_append]
  congr 3
  split <;> rfl
theorem B_text (n : Int) (t : ByteArray) (hn : In n) (h : num_Text.f n = some t) : B t = textS n := by
  rw [text_eq n hn] at h
  rw [← Option.some.inj h]
  exact B_nums _ (textS_lt n)

/-- the program reads: the digits -/
theorem read_l0 (t : ByteArray) (neg : Bool) (hs : t.size ≤ 100000) (d : Nat) : ∀ (k i : Nat), i + d = t.size →
    num_Read.l0 (k + d + 1) t neg (t.size : Int) (i : Int) = if ((B t).drop i).all isD = true then (if (t.size : Int) > 19 then some (0, 10) else num_Read.l1 k t neg 0 (t.size : Int) 0) else some (0, 1) := by
  induction d with
  | zero =>
    intro k i hi
    simp only [num_Read.l0]
    rw [if_neg (by omega), List.drop_of_length_le (by rw [B_length]; omega)]
    rfl
  | succ d ih =>
    intro k i hi
    have ihk := ih k (i + 1) (by omega)
    show num_Read.l0 ((k + d + 1) + 1) t neg (t.size : Int) (i : Int) = _
    generalize k + d + 1 = m at *
    simp only [num_Read.l0]
    have hlt : i < t.size := by omega
    rw [if_pos (by omega), if_pos (by omega), if_pos (by omega), bt_nat t i hlt, List.drop_eq_getElem_cons (l := B t) (i := i) (by rw [B_length]; exact hlt), List.all_cons, show wrap64 ((i : Int) + 1) = ((i + 1 : Nat) : Int) by unfold wrap64; omega, ihk]
    generalize (B t)[i]'(by rw [B_length]; exact hlt) = b
    by_cases h1 : b < 48
    · rw [if_pos (by omega), if_neg]
      simp [isD]; omega
    · rw [if_neg (by omega)]
      by_cases h2 : b > 57
      · rw [if_pos (by omega), if_neg]
        simp [isD]; omega
      · rw [if_neg (by omega)]
        have : isD b = true := by simp [isD]; omega
        rw [this, Bool.true_and]
/-- the program reads: the number -/
theorem read_l1 (t : ByteArray) (neg : Bool) (hd : (B t).all isD = true) (hs : t.size ≤ 19) (d : Nat) : ∀ (k i n : Nat), i + d = t.size → n < 10 ^ i →
    num_Read.l1 (k + d + 1 + 1) t neg (n : Int) (t.size : Int) (i : Int) = some (num (if neg = true then -((val n ((B t).drop i) : Nat) : Int) else ((val n ((B t).drop i) : Nat) : Int))) := by
  induction d with
  | zero =>
    intro k i n hi hn
    simp only [num_Read.l1]
    have h19 := Nat.pow_le_pow_right (n := 10) (by decide) (show i ≤ 19 by omega)
    rw [if_neg (by omega), List.drop_of_length_le (by rw [B_length]; omega), signed_eq _ _ _ (by omega) (by omega)]
    rfl
  | succ d ih =>
    intro k i n hi hn
    have hlt : i < t.size := by omega
    have hb := List.all_eq_true.1 hd _ (List.getElem_mem (l := B t) (n := i) (by rw [B_length]; exact hlt))
    show num_Read.l1 ((k + d + 1 + 1) + 1) t neg (n : Int) (t.size : Int) (i : Int) = _
    have ihk := fun n' => ih k (i + 1) n' (by omega)
    generalize k + d + 1 + 1 = m at *
    simp only [num_Read.l1]
    rw [if_pos (by omega), if_pos (by omega), if_pos (by omega), bt_nat t i hlt, List.drop_eq_getElem_cons (by rw [B_length]; exact hlt)]
    generalize (B t)[i]'(by rw [B_length]; exact hlt) = b at *
    have hb2 : 48 ≤ b ∧ b ≤ 57 := by simpa [isD] using hb
    have h19 := Nat.pow_le_pow_right (n := 10) (by decide) (show i ≤ 18 by omega)
    have e : Go.IntKind.u64.wrap (Go.IntKind.u64.wrap (10 * (n : Int)) + (((b : Int) - 48) % 256)) = ((10 * n + (b - 48) : Nat) : Int) := by
      rw [wrapu, wrapu]; omega
    rw [e, show wrap64 ((i : Int) + 1) = ((i + 1 : Nat) : Int) by unfold wrap64; omega, ihk _ (by rw [Nat.pow_succ]; omega)]
    rfl
theorem read_fin (t : ByteArray) (neg : Bool) (k : Nat) (hs : t.size ≤ 100000) (hk : 2 * t.size + 4 < k) (h0 : (B t).head? = some 48 → t.size ≤ 1) :
    num_Read.j0 k t neg false = some (if (B t).all isD = true then (if t.size = 0 then num 0 else num (if neg = true then -((val 0 (B t) : Nat) : Int) else ((val 0 (B t) : Nat) : Int))) else (0, 1)) := by
  obtain ⟨k, rfl⟩ : ∃ m, k = m + t.size + 1 + 1 + t.size + 1 + 1 := ⟨k - (t.size + 1 + 1 + t.size + 1 + 1), by omega⟩
  generalize hm : k + t.size + 1 + 1 = m
  have h1 := read_l0 t neg hs t.size m 0 (by omega)
  rw [show m + t.size + 1 + 1 = (m + t.size + 1) + 1 from rfl]
  generalize m + t.size + 1 = q at h1 ⊢
  simp only [num_Read.j0, Bool.false_eq_true, if_false]
  rw [show ((0 : Nat) : Int) = 0 from rfl, List.drop_zero] at h1
  rw [h1]
  by_cases hd : (B t).all isD = true
  · rw [if_pos hd, if_pos hd]
    by_cases hz : t.size = 0
    · have hbe : B t = [] := List.eq_nil_of_length_eq_zero (by rw [B_length]; exact hz)
      have h2 := read_l1 t neg hd (by omega) t.size k 0 0 (by omega) (by decide)
      rw [show ((0 : Nat) : Int) = 0 from rfl, hm] at h2
      rw [if_neg (by omega), if_pos hz, h2, List.drop_zero, hbe]
      cases neg <;> rfl
    rw [if_neg hz]
    by_cases hb : (t.size : Int) > 19
    · rw [if_pos hb]
      have hne : B t ≠ [] := fun h => by
        have := B_length t; rw [h] at this; simp at this; omega
      have hv := val_big (B t) hd hne (fun h => by have := h0 h; omega)
      have hp := Nat.pow_le_pow_right (n := 10) (by decide) (show 19 ≤ (B t).length - 1 by rw [B_length]; omega)
      refine congrArg some ?_
      unfold num
      rw [if_neg]
      have : 10 ^ 19 = 10000000000000000000 := by decide
      cases neg <;> simp only [Bool.false_eq_true, if_false, if_true] <;> omega
    · rw [if_neg hb]
      have h2 := read_l1 t neg hd (by omega) t.size k 0 0 (by omega) (by decide)
      rw [show ((0 : Nat) : Int) = 0 from rfl, hm] at h2
      rw [h2, List.drop_zero]
  · rw [if_neg hd, if_neg hd]
theorem cut_eq (s : ByteArray) : strings_CutPrefix.f s ⟨#[45]⟩ = some (if (B s).head? = some 45 then (s.extract 1 s.size, true) else (s, false)) := by
  have hz : (⟨#[45]⟩ : ByteArray).size = 1 := rfl
  unfold strings_CutPrefix.f stringslite_CutPrefix.f stringslite_HasPrefix.f
  rw [hz]
  by_cases h : (s.size : Int) ≥ ((1 : Nat) : Int)
  · rw [if_pos h, if_pos (by omega), if_pos (by omega)]
    simp only [Option.bind_some]
    have e : ((s.extract 0 (((1 : Nat) : Int)).toNat).toList == (⟨#[45]⟩ : ByteArray).toList) = decide ((B s).head? = some 45) := by
      rw [Bool.eq_iff_iff, beq_iff_eq, decide_eq_true_eq, toList_iff, B_extract, Int.toNat_natCast, List.drop_zero]
      have : (⟨#[45]⟩ : ByteArray).toList.map UInt8.toNat = [45] := by rw [ByteArray.toList_eq]; rfl
      rw [this]
      cases B s with
      | nil => simp
      | cons b l => simp
    rw [e]
    by_cases h45 : (B s).head? = some 45
    · simp only [h45, decide_true, if_true]
      rw [if_pos (by omega), if_pos (by omega)]
      simp only [Option.bind_some]
      rw [Int.toNat_natCast]
    · simp only [h45, decide_false, Bool.false_eq_true, if_false]
      rfl
  · rw [if_neg h]
    have hn : (B s).head? ≠ some 45 := by
      have : B s = [] := List.eq_nil_of_length_eq_zero (by rw [B_length]; omega)
      rw [this]; simp
    rw [if_neg hn]
    simp
theorem B_tail (s : ByteArray) : B (s.extract 1 s.size) = (B s).tail := by
  rw [B_extract, List.take_of_length_le (by rw [B_length]; omega), List.drop_one]
theorem head_bt (t : ByteArray) (h : 0 < t.size) (x : Nat) : bt t 0 = (x : Int) ↔ (B t).head? = some x := by
  have e := bt_nat t 0 h
  rw [show ((0 : Nat) : Int) = 0 from rfl] at e
  rw [e]
  have hl : 0 < (B t).length := by rw [B_length]; exact h
  rw [List.head?_eq_getElem?, List.getElem?_eq_getElem hl]
  constructor
  · intro h2; rw [Int.ofNat_inj.1 h2]
  · intro h2; rw [Option.some.inj h2]
theorem zero_text (s : ByteArray) (T : List Nat) (neg : Bool) (hT : T = behind (B s)) (hneg : neg = decide ((B s).head? = some 45)) (h48 : T.head? = some 48) :
    B s = [48] ↔ ¬ (T.length > 1 ∨ neg = true) := by
  subst hT; subst hneg
  unfold behind at *
  constructor
  · intro h
    rw [h]; simp
  · intro h
    have h1 : ¬ ((B s).head? = some 45) := fun h2 => h (.inr (decide_eq_true h2))
    rw [if_neg h1] at h48 h
    match hb : B s, h48 with
    | b :: l, h48 =>
      rw [hb] at h
      injection h48 with h48
      have : l = [] := by
        rcases l with _ | ⟨c, l⟩
        · rfl
        · exact absurd (.inl (by simp)) h
      rw [h48, this]
theorem read_eq (s : ByteArray) (k : Nat) (hs : s.size ≤ 5000) (hk : 10010 < k) : num_Read.f k s = some (readS (B s)) := by
  obtain ⟨k, rfl⟩ : ∃ m, k = m + 1 := ⟨k - 1, by omega⟩
  unfold num_Read.f
  rw [cut_eq]
  simp only [Option.bind_some]
  obtain ⟨t, neg, ht, hT, hneg, hts⟩ : ∃ (t : ByteArray) (neg : Bool), (if (B s).head? = some 45 then (s.extract 1 s.size, true) else (s, false)) = (t, neg) ∧ B t = behind (B s) ∧ neg = decide ((B s).head? = some 45) ∧ t.size ≤ 5000 := by
    by_cases h : (B s).head? = some 45
    · refine ⟨s.extract 1 s.size, true, if_pos h, ?_, by simp [h], by rw [ByteArray.size_extract]; omega⟩
      rw [B_tail]; unfold behind; rw [if_pos h]
    · refine ⟨s, false, if_neg h, ?_, by simp [h], hs⟩
      unfold behind; rw [if_neg h]
  rw [ht]
  dsimp only
  have jt : ∀ b, num_Read.j0 (k + 1) t b true = some (0, 1) := by
    intro b; simp only [num_Read.j0, if_true]
  have hsz : t.size = (B t).length := (B_length t).symm
  have zt := zero_text s (B t) neg hT hneg
  have fin := read_fin t neg (k + 1) (by omega) (by omega)
  rw [Dec.readS_eq (B s) (B t) neg hT hneg]
  have hE : t.toList = ([] : List UInt8) ↔ B t = [] := toList_iff t []
  by_cases h0 : B t = []
  · rw [if_pos (hE.2 h0), jt, if_pos (.inl h0)]
  have hpos : 0 < t.size := by
    rcases Nat.eq_zero_or_pos t.size with h | h
    · exact absurd (List.eq_nil_of_length_eq_zero (by omega)) h0
    · exact h
  rw [if_neg (fun h => h0 (hE.1 h)), if_pos (by omega)]
  have hb := head_bt t hpos 48
  rw [show ((48 : Nat) : Int) = 48 from rfl] at hb
  have good : (¬ ((B t).head? = some 48 ∧ ((B t).length > 1 ∨ neg = true))) → num_Read.j0 (k + 1) t neg false = some (if B t = [] ∨ (B t).head? = some 48 ∧ ((B t).length > 1 ∨ neg = true) ∨ (B t).all isD = false then (0, 1) else Dec.num (if neg = true then -((val 0 (B t) : Nat) : Int) else ((val 0 (B t) : Nat) : Int))) := by
    intro hc
    rw [fin (fun h => by
      rcases Nat.lt_or_ge 1 t.size with g | g
      · exact absurd ⟨h, .inl (by omega)⟩ hc
      · exact g), num_eq]
    by_cases hd : (B t).all isD = true
    · have hno : ¬ (B t = [] ∨ (B t).head? = some 48 ∧ ((B t).length > 1 ∨ neg = true) ∨ (B t).all isD = false) := by
        rintro (h | h | h)
        · exact h0 h
        · exact hc h
        · rw [hd] at h; cases h
      rw [if_pos hd, if_neg (by omega), if_neg hno]
    · rw [if_neg hd, if_pos (.inr (.inr (by simpa using hd)))]
  by_cases h48 : (B t).head? = some 48
  · rw [if_pos (hb.2 h48)]
    have e : (s.toList != ([48] : List UInt8)) = decide ((B t).length > 1 ∨ neg = true) := by
      rw [Bool.eq_iff_iff, bne_iff_ne, decide_eq_true_eq, ne_eq, toList_iff, show (([48] : List UInt8).map UInt8.toNat) = [48] from rfl, zt h48, Classical.not_not]
    rw [e]
    by_cases hc : (B t).length > 1 ∨ neg = true
    · rw [decide_eq_true hc, jt, if_pos (.inr (.inl ⟨h48, hc⟩))]
    · rw [decide_eq_false hc]
      exact good (fun h => hc h.2)
  · rw [if_neg (fun h => h48 (hb.1 h))]
    exact good (fun h => h48 h.1)


end Go.Proofs.YtbmlpbgddlgdkaaDoor.Lx
