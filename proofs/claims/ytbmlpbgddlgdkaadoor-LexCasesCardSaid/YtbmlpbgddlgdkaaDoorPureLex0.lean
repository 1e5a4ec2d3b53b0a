/- The lexer's printed functions in plain words: key words, letters, digits, words. No condition beyond those that each theorem names. -/
import Derived.Test.YtbmlpbgddlgdkaaDoorLxx5
namespace Go.Proofs.YtbmlpbgddlgdkaaDoor.Lx
open Go.RowKit Go.Proofs.YtbmlpbgddlgdkaaDoorW.PrintWords Go.Proofs.YtbmlpbgddlgdkaaDoorW.PrintLast Go.Proofs.YtbmlpbgddlgdkaaDoorW.PrintMore
set_option linter.unusedVariables false
set_option linter.unusedSimpArgs false
abbrev BS := List UInt8
theorem bl (a : ByteArray) : a.toList = a.data.toList := ByteArray.toList_eq a
theorem bsz (a : ByteArray) : a.data.toList.length = a.size := by rw [Array.length_toList]; rfl
theorem bext {a b : ByteArray} (h : a.data.toList = b.data.toList) : a = b := by
  cases a; cases b; simp at h; simpa using h
theorem bmk (l : BS) : (⟨l.toArray⟩ : ByteArray).data.toList = l := rfl
theorem bmk_size (l : BS) : (⟨l.toArray⟩ : ByteArray).size = l.length := by rw [← bsz]
theorem bmk_self (a : ByteArray) : (⟨a.data.toList.toArray⟩ : ByteArray) = a := bext rfl
theorem wrapn' (n : Nat) (h : n < 9223372036854775808) : wrap64 (n : Int) = n := by unfold wrap64; omega
set_option maxRecDepth 100000 in
/-- the key words -/
def wordsB : ByteArray := ⟨#[65, 76, 76, 32, 65, 78, 68, 32, 65, 83, 32, 65, 83, 67, 32, 66, 69, 84, 87, 69, 69, 78, 32, 66, 89, 32, 67, 65, 83, 69, 32, 68, 69, 83, 67, 32, 68, 73, 83, 84, 73, 78, 67, 84, 32, 69, 76, 83, 69, 32, 69, 78, 68, 32, 69, 88, 67, 69, 80, 84, 32, 69, 88, 73, 83, 84, 83, 32, 70, 65, 76, 83, 69, 32, 70, 82, 79, 77, 32, 71, 82, 79, 85, 80, 32, 72, 65, 86, 73, 78, 71, 32, 73, 78, 32, 73, 78, 78, 69, 82, 32, 73, 78, 84, 69, 82, 83, 69, 67, 84, 32, 73, 83, 32, 74, 79, 73, 78, 32, 76, 69, 70, 84, 32, 76, 73, 75, 69, 32, 76, 73, 77, 73, 84, 32, 78, 79, 84, 32, 78, 85, 76, 76, 32, 79, 70, 70, 83, 69, 84, 32, 79, 78, 32, 79, 82, 32, 79, 82, 68, 69, 82, 32, 83, 69, 76, 69, 67, 84, 32, 84, 72, 69, 78, 32, 84, 82, 85, 69, 32, 85, 78, 73, 79, 78, 32, 87, 72, 69, 78, 32, 87, 72, 69, 82, 69]⟩
set_option maxRecDepth 100000 in
def wordsL : BS := [65, 76, 76, 32, 65, 78, 68, 32, 65, 83, 32, 65, 83, 67, 32, 66, 69, 84, 87, 69, 69, 78, 32, 66, 89, 32, 67, 65, 83, 69, 32, 68, 69, 83, 67, 32, 68, 73, 83, 84, 73, 78, 67, 84, 32, 69, 76, 83, 69, 32, 69, 78, 68, 32, 69, 88, 67, 69, 80, 84, 32, 69, 88, 73, 83, 84, 83, 32, 70, 65, 76, 83, 69, 32, 70, 82, 79, 77, 32, 71, 82, 79, 85, 80, 32, 72, 65, 86, 73, 78, 71, 32, 73, 78, 32, 73, 78, 78, 69, 82, 32, 73, 78, 84, 69, 82, 83, 69, 67, 84, 32, 73, 83, 32, 74, 79, 73, 78, 32, 76, 69, 70, 84, 32, 76, 73, 75, 69, 32, 76, 73, 77, 73, 84, 32, 78, 79, 84, 32, 78, 85, 76, 76, 32, 79, 70, 70, 83, 69, 84, 32, 79, 78, 32, 79, 82, 32, 79, 82, 68, 69, 82, 32, 83, 69, 76, 69, 67, 84, 32, 84, 72, 69, 78, 32, 84, 82, 85, 69, 32, 85, 78, 73, 79, 78, 32, 87, 72, 69, 78, 32, 87, 72, 69, 82, 69]
def keysL : List ByteArray := Lib.splitB ⟨#[32]⟩ 0 (Lib.countB wordsB ⟨#[32]⟩) wordsB
/-- the key words, one by one -/
def keysD : List BS := Lib.splitK [32] 0 (Lib.count wordsL [32]) wordsL
theorem keys_data : keysL.map (fun w => w.data.toList) = keysD := Lib.splitB_data ⟨#[32]⟩ 0 _ wordsB
def isKey (l : BS) : Bool := keysD.any fun w => w == l
def upperB (c : UInt8) : Bool := decide (65 ≤ c.toNat) && decide (c.toNat ≤ 90)
set_option maxRecDepth 100000 in
theorem keysD_len : keysD.length = 37 := by kernel_rfl
theorem keys_len : keysL.length = 37 := by
  have := congrArg List.length keys_data
  rw [List.length_map, keysD_len] at this
  exact this
set_option maxRecDepth 100000 in
theorem keys_all : (keysD.all fun w => decide (1 ≤ w.length) && decide (w.length ≤ 64) && w.all upperB) = true := by kernel_rfl
theorem key_upper {l : BS} (h : isKey l = true) : 1 ≤ l.length ∧ l.length ≤ 64 ∧ ∀ c ∈ l, upperB c = true := by
  obtain ⟨w, hw, e⟩ := List.any_eq_true.1 h
  have e2 : w = l := by simpa using e
  have ha := List.all_eq_true.1 keys_all w hw
  simp only [Bool.and_eq_true, decide_eq_true_eq, List.all_eq_true] at ha
  subst e2
  exact ⟨ha.1.1, ha.1.2, ha.2⟩
theorem isKey_any (l : BS) : keysL.any (fun w => w.data.toList == l) = isKey l := by
  unfold isKey
  rw [← keys_data, List.any_map]
  rfl
theorem index_l0 (l : List ByteArray) (a : ByteArray) (hl : l.length < 4294967296) : ∀ (d i k : Nat), i + d = l.length → d < k →
    ∃ r, slices_Index_string_string.l0 k l a (l.length : Int) (i : Int) = some r ∧ (0 ≤ r ↔ (l.drop i).any (fun w => w.data.toList == a.data.toList) = true)
  | 0, i, k, h, hk => by
    obtain ⟨k, rfl⟩ : ∃ m, k = m + 1 := ⟨k - 1, by omega⟩
    simp only [slices_Index_string_string.l0]
    rw [if_neg (by omega), List.drop_of_length_le (by omega)]
    exact ⟨_, rfl, by simp⟩
  | d + 1, i, k, h, hk => by
    obtain ⟨k, rfl⟩ : ∃ m, k = m + 1 := ⟨k - 1, by omega⟩
    have hi : i < l.length := by omega
    have hrd : rdOf ByteArray.empty l (i : Int) = l[i] := by simp [rdOf, List.getD_eq_getElem?_getD, List.getElem?_eq_getElem hi]
    simp only [slices_Index_string_string.l0]
    rw [if_pos (by omega), if_pos (by omega), if_pos (by omega), hrd, List.drop_eq_getElem_cons hi, List.any_cons, bl, bl]
    by_cases e : a.data.toList = l[i].data.toList
    · rw [if_pos e]
      exact ⟨_, rfl, by simp [e]⟩
    · rw [if_neg e, show (i : Int) + 1 = ((i + 1 : Nat) : Int) from by omega, wrapn' _ (by omega)]
      obtain ⟨r, h1, h2⟩ := index_l0 l a hl d (i + 1) k (by omega) (by omega)
      refine ⟨r, h1, ?_⟩
      have e2 : (l[i].data.toList == a.data.toList) = false := beq_eq_false_iff_ne.2 (fun h => e h.symm)
      rw [e2, Bool.false_or]; exact h2
set_option maxRecDepth 100000 in
theorem key_f (a : ByteArray) (k : Nat) (hk : 50 < k) : lex_Key.f k a = some (isKey a.data.toList) := by
  have hs : strings_Split.f wordsB ⟨#[32]⟩ = some keysL := by
    unfold strings_Split.f
    rw [if_pos (show wordsB.size ≤ 1000 from Nat.le_of_ble_eq_true (by kernel_rfl)), if_pos (by decide)]
    rfl
  show (strings_Split.f wordsB ⟨#[32]⟩).bind _ = _
  rw [hs, Option.bind_some]
  unfold slices_Contains_string_string.f slices_Index_string_string.f
  obtain ⟨r, h1, h2⟩ := index_l0 keysL a (by rw [keys_len]; omega) 37 0 k (by rw [keys_len]) (by omega)
  rw [show ((0 : Nat) : Int) = 0 from rfl] at h1
  rw [h1]
  simp only [Option.bind_some]
  rw [List.drop_zero] at h2
  congr 1
  rw [← isKey_any]
  cases hc : keysL.any (fun w => w.data.toList == a.data.toList) with
  | true => rw [hc] at h2; exact decide_eq_true (h2.2 rfl)
  | false => rw [hc] at h2; exact decide_eq_false (fun h => by have := h2.1 h; cases this)
/-- the bytes of words, digits, blanks -/
def letB (c : UInt8) : Bool := (decide (97 ≤ c.toNat) && decide (c.toNat ≤ 122)) || (decide (65 ≤ c.toNat) && decide (c.toNat ≤ 90)) || decide (c.toNat = 95)
def digB (c : UInt8) : Bool := decide (48 ≤ c.toNat) && decide (c.toNat ≤ 57)
def worB (c : UInt8) : Bool := letB c || digB c
def blaB (c : UInt8) : Bool := decide (c.toNat = 32) || decide (c.toNat = 9) || decide (c.toNat = 13) || decide (c.toNat = 10)
theorem letter_f (c : UInt8) : lex_letter.f (c.toNat : Int) = some (letB c) := by
  unfold lex_letter.f letB
  have hc := c.toNat_lt
  have e95 : (((c.toNat : Int) == 95) : Bool) = decide (c.toNat = 95) := by
    by_cases h : c.toNat = 95
    · rw [decide_eq_true h]; exact beq_iff_eq.2 (by omega)
    · rw [decide_eq_false h]; exact beq_eq_false_iff_ne.2 (by omega)
  rw [e95]
  by_cases h1 : 97 ≤ c.toNat
  · rw [if_pos (show (c.toNat : Int) ≥ 97 from by omega)]
    by_cases h2 : c.toNat ≤ 122
    · rw [if_pos (by omega)]; simp [h1, h2]
    · rw [if_neg (by omega), if_pos (by omega), if_neg (by omega)]
      have h3 : ¬ c.toNat ≤ 90 := by omega
      simp [h1, h2, h3]
  · rw [if_neg (show ¬ (c.toNat : Int) ≥ 97 from by omega)]
    by_cases h3 : 65 ≤ c.toNat
    · rw [if_pos (show (c.toNat : Int) ≥ 65 from by omega)]
      by_cases h4 : c.toNat ≤ 90
      · rw [if_pos (by omega)]; simp [h1, h3, h4]
      · rw [if_neg (by omega)]; simp [h1, h3, h4]
    · rw [if_neg (show ¬ (c.toNat : Int) ≥ 65 from by omega)]; simp [h1, h3]
theorem digit_f (c : UInt8) : lex_digit.f (c.toNat : Int) = some (digB c) := by
  unfold lex_digit.f digB
  by_cases h1 : 48 ≤ c.toNat
  · rw [if_pos (show (c.toNat : Int) ≥ 48 from by omega)]
    congr 1
    by_cases h2 : c.toNat ≤ 57
    · simp [h1, h2]; omega
    · simp [h1, h2]; omega
  · rw [if_neg (show ¬ (c.toNat : Int) ≥ 48 from by omega)]; simp [h1]
theorem run18 (c : UInt8) : runB 18 c = digB c := by
  unfold runB runP digB
  have hc := c.toNat_lt
  by_cases h : c.toNat < 128
  · rw [if_pos h, if_pos rfl]
    by_cases h1 : 48 ≤ c.toNat <;> by_cases h2 : c.toNat ≤ 57 <;> simp [h1, h2] <;> omega
  · rw [if_neg h]
    have h2 : ¬ c.toNat ≤ 57 := by omega
    simp [h2]
theorem runW (k : Int) (hk : k = 21 ∨ k = 30) (c : UInt8) : runB k c = worB c := by
  unfold runB runP worB letB digB
  have hc := c.toNat_lt
  have e95 : (((c.toNat : Int) == 95) : Bool) = decide (c.toNat = 95) := by
    by_cases h : c.toNat = 95
    · rw [decide_eq_true h]; exact beq_iff_eq.2 (by omega)
    · rw [decide_eq_false h]; exact beq_eq_false_iff_ne.2 (by omega)
  have i1 : decide ((97 : Int) ≤ (c.toNat : Int)) = decide (97 ≤ c.toNat) := by rw [decide_eq_decide]; omega
  have i2 : decide ((c.toNat : Int) ≤ 122) = decide (c.toNat ≤ 122) := by rw [decide_eq_decide]; omega
  have i3 : decide ((65 : Int) ≤ (c.toNat : Int)) = decide (65 ≤ c.toNat) := by rw [decide_eq_decide]; omega
  have i4 : decide ((c.toNat : Int) ≤ 90) = decide (c.toNat ≤ 90) := by rw [decide_eq_decide]; omega
  have i5 : decide ((48 : Int) ≤ (c.toNat : Int)) = decide (48 ≤ c.toNat) := by rw [decide_eq_decide]; omega
  have i6 : decide ((c.toNat : Int) ≤ 57) = decide (c.toNat ≤ 57) := by rw [decide_eq_decide]; omega
  by_cases h : c.toNat < 128
  · rw [if_pos h, if_neg (by omega), if_neg (by omega), if_neg (by omega), e95, i1, i2, i3, i4, i5, i6]
  · rw [if_neg h]
    have h1 : ¬ c.toNat ≤ 122 := by omega
    have h2 : ¬ c.toNat ≤ 90 := by omega
    have h3 : ¬ c.toNat ≤ 57 := by omega
    have h4 : ¬ c.toNat = 95 := by omega
    have h5 : ¬ k = 28 := by omega
    simp [h1, h2, h3, h4, h5]
theorem run26 (c : UInt8) : runB 26 c = blaB c := by
  unfold runB runP blaB
  have hc := c.toNat_lt
  have e : ∀ n : Nat, (((c.toNat : Int) == (n : Int)) : Bool) = decide (c.toNat = n) := by
    intro n
    by_cases h : c.toNat = n
    · rw [decide_eq_true h]; exact beq_iff_eq.2 (by omega)
    · rw [decide_eq_false h]; exact beq_eq_false_iff_ne.2 (by omega)
  by_cases h : c.toNat < 128
  · rw [if_pos h, if_neg (by decide), if_pos rfl, show (32 : Int) = ((32 : Nat) : Int) from rfl, show (9 : Int) = ((9 : Nat) : Int) from rfl, show (13 : Int) = ((13 : Nat) : Int) from rfl, show (10 : Int) = ((10 : Nat) : Int) from rfl, e, e, e, e]
  · rw [if_neg h]
    have h1 : ¬ c.toNat = 32 := by omega
    have h2 : ¬ c.toNat = 9 := by omega
    have h3 : ¬ c.toNat = 13 := by omega
    have h4 : ¬ c.toNat = 10 := by omega
    simp [h1, h2, h3, h4]
theorem run28 (c : UInt8) : runB 28 c = decide (c.toNat ≠ 10) := by
  unfold runB runP
  have hc := c.toNat_lt
  by_cases h : c.toNat < 128
  · rw [if_pos h, if_neg (by decide), if_neg (by decide), if_pos rfl]
    by_cases h1 : c.toNat = 10
    · simp [h1]
    · rw [decide_eq_true h1]; exact bne_iff_ne.2 (by omega)
  · rw [if_neg h]
    have h1 : c.toNat ≠ 10 := by omega
    simp [h1]
theorem run_f (a : ByteArray) (k : Int) (p : UInt8 → Bool) (hk : k ∈ runFns) (hp : ∀ c, runB k c = p c) (hs : a.size ≤ 100000) : lex_run.f a k = some ((a.data.toList.takeWhile p).length : Int) := by
  unfold lex_run.f
  rw [if_pos hk, if_pos hs, show runB k = p from funext hp]
theorem wrap32n (n : Nat) (h : n < 256) : wrap32 (n : Int) = n := by unfold wrap32; omega
theorem bt_head (a : ByteArray) (c : UInt8) (r : BS) (h : a.data.toList = c :: r) : bt a 0 = (c.toNat : Int) ∧ 0 < a.size := by
  have hs : 0 < a.size := by rw [← bsz, h]; simp
  refine ⟨?_, hs⟩
  unfold bt
  rw [dif_pos (show (0 : Int).toNat < a.size from hs)]
  have : a[0] = c := by
    have h2 : a.data.toList[0]'(by rw [h]; simp) = c := by simp [h]
    exact h2
  show ((a[0].toNat : Nat) : Int) = _
  rw [this]
/-- is a text a name that needs no quotes? -/
def isWordL (l : BS) : Bool := match l with
  | [] => false
  | c :: r => decide (l.length ≤ 64) && !digB c && !isKey (l.map capByte) && l.all worB
theorem all_take {p : UInt8 → Bool} (l : BS) : ((l.takeWhile p).length = l.length) ↔ l.all p = true := by
  induction l with
  | nil => simp
  | cons c t ih =>
    rw [List.takeWhile_cons, List.all_cons]
    by_cases h : p c = true
    · rw [if_pos h, h]; simp [ih]
    · rw [if_neg h]; simp [Bool.eq_false_iff.2 h]
theorem cap_f (a : ByteArray) (hs : a.size ≤ 100000) : lex_capital.f a = some (capB a) := by
  unfold lex_capital.f; rw [if_pos hs]
theorem word_f (a : ByteArray) (k : Nat) (hk : 50 < k) : lex_Word.f k a = some (isWordL a.data.toList) := by
  unfold lex_Word.f
  rw [bl]
  cases hd : a.data.toList with
  | nil => rfl
  | cons c r =>
    rw [if_neg (by simp)]
    obtain ⟨hb, hpos⟩ := bt_head a c r hd
    have hl : (c :: r).length = a.size := by rw [← hd, bsz]
    show _ = some (decide ((c :: r).length ≤ 64) && !digB c && !isKey ((c :: r).map capByte) && (c :: r).all worB)
    by_cases h64 : a.size ≤ 64
    · rw [if_neg (by omega), if_pos (by omega), hb, wrap32n _ c.toNat_lt, digit_f, Option.bind_some]
      cases hdg : digB c with
      | true => rw [if_pos rfl]; simp
      | false =>
        rw [if_neg (by decide), cap_f a (by omega), Option.bind_some, key_f _ k hk, Option.bind_some]
        have hcap : (capB a).data.toList = (c :: r).map capByte := by unfold capB; rw [bmk, hd]
        rw [hcap]
        cases hky : isKey ((c :: r).map capByte) with
        | true => rw [if_pos rfl]; simp
        | false =>
          rw [if_neg (by decide), run_f a FN21 worB (show (21 : Int) ∈ runFns by simp [runFns]) (fun c => runW _ (Or.inl rfl) c) (by omega), Option.bind_some, hd, decide_eq_true (by omega)]
          simp only [Bool.not_false, Bool.and_true, Bool.true_and]
          refine congrArg some ?_
          have ht := all_take (p := worB) (c :: r)
          cases hal : (c :: r).all worB with
          | true => rw [hal] at ht; exact beq_iff_eq.2 (by rw [ht.2 rfl]; omega)
          | false => exact beq_eq_false_iff_ne.2 (fun e => by rw [ht.1 (by omega)] at hal; cases hal)
    · rw [if_pos (by omega), decide_eq_false (by omega)]; simp
end Go.Proofs.YtbmlpbgddlgdkaaDoor.Lx
