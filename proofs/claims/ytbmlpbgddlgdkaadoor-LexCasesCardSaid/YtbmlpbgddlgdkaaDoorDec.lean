/- Plain facts on numbers in digits: there and back. No condition beyond those that each theorem names. -/
import Derived.Laws.Entries
import Derived.RowKit
namespace Go.Proofs.YtbmlpbgddlgdkaaDoor.Dec
set_option linter.unusedVariables false
set_option linter.unusedSimpArgs false
/-- a number, or that it is none -/
def num (n : Int) : Int × Int := if -9223372036854775808 ≤ n ∧ n ≤ 9223372036854775807 then (n, 0) else (0, 10)
/-- a digit -/
def isD (b : Nat) : Bool := decide (48 ≤ b ∧ b ≤ 57)
/-- digits' number, behind another one -/
def val (n : Nat) (l : List Nat) : Nat := l.foldl (fun n d => 10 * n + (d - 48)) n
/-- a number's digits -/
def digN : Nat → Nat → List Nat
  | 0, _ => []
  | f + 1, k => if k < 10 then [48 + k] else digN f (k / 10) ++ [48 + k % 10]
/-- what stands behind a sign -/
def behind (s : List Nat) : List Nat := if s.head? = some 45 then s.tail else s
/-- what a text's number is -/
def readS (s : List Nat) : Int × Int :=
  if behind s = [] ∨ (behind s).head? = some 48 ∧ ((behind s).length > 1 ∨ s.head? = some 45) ∨ (behind s).all isD = false then (0, 1)
  else num (if s.head? = some 45 then -(val 0 (behind s) : Int) else (val 0 (behind s) : Int))
/-- a number as text -/
def textS (n : Int) : List Nat := (if n < 0 then [45] else []) ++ digN 20 n.natAbs

theorem head_app {u v : List Nat} (h : u ≠ []) : (u ++ v).head? = u.head? := by
  cases u with
  | nil => exact absurd rfl h
  | cons a u => rfl
theorem val_snoc (n : Nat) (l : List Nat) (d : Nat) : val n (l ++ [d]) = 10 * val n l + (d - 48) := by unfold val; rw [List.foldl_append]; rfl
theorem digN_all (f : Nat) : ∀ k, (digN f k).all isD = true := by
  induction f with
  | zero => intro k; rfl
  | succ f ih =>
    intro k
    unfold digN
    split
    · simp [isD]; omega
    · rw [List.all_append, ih]; simp [isD]; omega
theorem digN_val (f : Nat) : ∀ k, k < 10 ^ f → val 0 (digN f k) = k := by
  induction f with
  | zero => intro k h; simp at h; subst h; rfl
  | succ f ih =>
    intro k h
    unfold digN
    split
    · simp [val]
    · rw [val_snoc, ih (k / 10) (by rw [Nat.pow_succ] at h; omega)]; omega
theorem digN_ne (f k : Nat) : digN (f + 1) k ≠ [] := by
  unfold digN
  split <;> simp
theorem digN_head (f : Nat) : ∀ k, k < 10 ^ (f + 1) → (digN (f + 1) k).head? = some 48 → (digN (f + 1) k) = [48] := by
  induction f with
  | zero =>
    intro k h h2
    have hk : k < 10 := by simpa using h
    unfold digN at h2 ⊢
    rw [if_pos hk] at h2 ⊢
    simp at h2; simp; omega
  | succ f ih =>
    intro k h h2
    rw [digN] at h2 ⊢
    split at h2
    · rename_i hk
      rw [if_pos hk]
      simp at h2; simp; omega
    · rename_i hk
      rw [if_neg hk]
      exfalso
      have hne := digN_ne f (k / 10)
      rw [head_app hne] at h2
      have h3 := ih (k / 10) (by rw [Nat.pow_succ] at h; omega) h2
      have h4 := digN_val (f + 1) (k / 10) (by rw [Nat.pow_succ] at h; omega)
      rw [h3] at h4
      simp [val] at h4; omega
/-- digits without a nought ahead are those of their number -/
theorem digN_of (f : Nat) : ∀ t : List Nat, t ≠ [] → t.all isD = true → (t.head? = some 48 → t.length ≤ 1) → t.length ≤ f → digN f (val 0 t) = t := by
  induction f with
  | zero => intro t hn _ _ hl; exact absurd (List.eq_nil_of_length_eq_zero (by omega)) hn
  | succ f ih =>
    intro t hn hd h0 hl
    rcases List.eq_nil_or_concat t with rfl | ⟨u, d, rfl⟩
    · exact absurd rfl hn
    rw [List.concat_eq_append] at hn hd h0 hl ⊢
    rw [List.all_append] at hd
    have hd2 : u.all isD = true ∧ (48 ≤ d ∧ d ≤ 57) := by simpa [isD] using hd
    rw [val_snoc]
    by_cases hu : u = []
    · subst hu
      show digN (f + 1) (10 * 0 + (d - 48)) = [d]
      unfold digN
      rw [if_pos (by omega)]
      congr 1; omega
    · have hz : u.head? ≠ some 48 := by
        intro h
        have := h0 (by rw [head_app hu]; exact h)
        have h1 : u.length ≠ 0 := fun h2 => hu (List.eq_nil_of_length_eq_zero h2)
        rw [List.length_append, List.length_singleton] at this; omega
      have hv := ih u hu hd2.1 (fun h => absurd h hz) (by simp at hl; omega)
      have hpos : 1 ≤ val 0 u := by
        rcases Nat.eq_zero_or_pos (val 0 u) with h | h
        · exfalso
          obtain ⟨f', rfl⟩ : ∃ f', f = f' + 1 := by
            cases f with
            | zero => simp at hl; exact absurd hl hu
            | succ f' => exact ⟨f', rfl⟩
          rw [h] at hv
          have : u = [48] := by rw [← hv]; rfl
          rw [this] at hz
          exact hz rfl
        · exact h
      unfold digN
      rw [if_neg (by omega), show (10 * val 0 u + (d - 48)) / 10 = val 0 u by omega, hv]
      congr 2; omega
theorem val_mono (l : List Nat) : ∀ n, n * 10 ^ l.length ≤ val n l := by
  induction l with
  | nil => intro n; simp [val]
  | cons d l ih =>
    intro n
    have h := ih (10 * n + (d - 48))
    have e : val n (d :: l) = val (10 * n + (d - 48)) l := rfl
    rw [e, List.length_cons, Nat.pow_succ]
    have h2 : n * (10 ^ l.length * 10) = (10 * n) * 10 ^ l.length := by
      rw [Nat.mul_comm (10 ^ l.length) 10, ← Nat.mul_assoc, Nat.mul_comm n 10]
    rw [h2]
    exact Nat.le_trans (Nat.mul_le_mul_right _ (Nat.le_add_right _ _)) h
/-- digits without a nought ahead: their number has as many -/
theorem val_big (t : List Nat) (hd : t.all isD = true) (hn : t ≠ []) (h0 : t.head? ≠ some 48) : 10 ^ (t.length - 1) ≤ val 0 t := by
  match t, hn with
  | d :: l, _ =>
    have hd2 : (48 ≤ d ∧ d ≤ 57) ∧ l.all isD = true := by simpa [isD] using hd
    have hd3 : d ≠ 48 := fun h => h0 (by rw [h]; rfl)
    have e : val 0 (d :: l) = val (10 * 0 + (d - 48)) l := rfl
    rw [e]
    have h := val_mono l (10 * 0 + (d - 48))
    have h1 : 1 * 10 ^ l.length ≤ (10 * 0 + (d - 48)) * 10 ^ l.length := Nat.mul_le_mul_right _ (by omega)
    rw [List.length_cons, Nat.add_sub_cancel]
    omega
theorem val_lt (l : List Nat) (hd : l.all isD = true) : ∀ n m : Nat, n < 10 ^ m → val n l < 10 ^ (m + l.length) := by
  induction l with
  | nil => intro n m h; exact h
  | cons d l ih =>
    intro n m h
    have hd2 : (48 ≤ d ∧ d ≤ 57) ∧ l.all isD = true := by simpa [isD] using hd
    have e : val n (d :: l) = val (10 * n + (d - 48)) l := rfl
    rw [e, List.length_cons, show m + (l.length + 1) = (m + 1) + l.length by omega]
    exact ih hd2.2 _ (m + 1) (by rw [Nat.pow_succ]; omega)
theorem dig_head (b : Nat) (h : isD b = true) : b ≠ 45 := by
  simp [isD] at h; omega
theorem head_dig (t : List Nat) (hd : t.all isD = true) : t.head? ≠ some 45 := by
  cases t with
  | nil => simp
  | cons b t =>
    have : isD b = true ∧ t.all isD = true := by simpa using hd
    intro h
    injection h with h
    exact dig_head b this.1 h
theorem readS_eq (s t : List Nat) (neg : Bool) (hT : t = behind s) (hneg : neg = decide (s.head? = some 45)) :
    readS s = if t = [] ∨ t.head? = some 48 ∧ (t.length > 1 ∨ neg = true) ∨ t.all isD = false then (0, 1) else num (if neg = true then -(val 0 t : Int) else (val 0 t : Int)) := by
  subst hT; subst hneg
  unfold readS
  simp only [decide_eq_true_eq]
/-- a number's text has that number -/
theorem read_text (n : Int) (h : -9223372036854775808 ≤ n ∧ n ≤ 9223372036854775807) : readS (textS n) = (n, 0) := by
  have hd := digN_all 20 n.natAbs
  have hv := digN_val 20 n.natAbs (by omega)
  have hne := digN_ne 19 n.natAbs
  have hh := digN_head 19 n.natAbs (by omega)
  generalize ht : digN 20 n.natAbs = t at *
  have hb : behind (textS n) = t ∧ ((textS n).head? = some 45 ↔ n < 0) := by
    unfold textS behind
    rw [ht]
    by_cases hn : n < 0
    · rw [if_pos hn]; simp [hn]
    · rw [if_neg hn, List.nil_append, if_neg (head_dig t hd)]
      exact ⟨rfl, fun h => absurd h (head_dig t hd), fun h => absurd h hn⟩
  unfold readS
  rw [hb.1, hv]
  have hc : ¬ (t = [] ∨ t.head? = some 48 ∧ (t.length > 1 ∨ (textS n).head? = some 45) ∨ t.all isD = false) := by
    rintro (h1 | ⟨h1, h2⟩ | h1)
    · exact hne h1
    · have h3 := hh h1
      rcases h2 with h2 | h2
      · rw [h3] at h2; simp at h2
      · have hn := hb.2.1 h2
        rw [h3] at hv
        simp [val] at hv; omega
    · rw [hd] at h1; cases h1
  rw [if_neg hc]
  have e : (if (textS n).head? = some 45 then -((n.natAbs : Nat) : Int) else ((n.natAbs : Nat) : Int)) = n := by
    split
    · rename_i h1; have := hb.2.1 h1; omega
    · rename_i h1; have : ¬ n < 0 := fun h2 => h1 (hb.2.2 h2); omega
  rw [e]
  exact if_pos h
/-- a text's number has that text -/
theorem text_read (s : List Nat) (a : Int) (h : readS s = (a, 0)) : textS a = s := by
  unfold readS at h
  split at h
  · injection h with _ h2; omega
  rename_i hc
  have c1 : behind s ≠ [] := fun h => hc (.inl h)
  have c2 : ¬ ((behind s).head? = some 48 ∧ ((behind s).length > 1 ∨ s.head? = some 45)) := fun h => hc (.inr (.inl h))
  have c3 : (behind s).all isD = true := by
    cases hb : (behind s).all isD
    · exact absurd (.inr (.inr hb)) hc
    · rfl
  generalize hv : val 0 (behind s) = v at *
  have hv2 : v ≤ 9223372036854775808 ∧ (if s.head? = some 45 then -(v : Int) else (v : Int)) = a := by
    generalize hw : (if s.head? = some 45 then -(v : Int) else (v : Int)) = w at h
    unfold num at h
    by_cases hin : -9223372036854775808 ≤ w ∧ w ≤ 9223372036854775807
    · rw [if_pos hin] at h
      injection h with h1 _
      refine ⟨?_, h1⟩
      split at hw <;> omega
    · rw [if_neg hin] at h
      injection h with _ h2; omega
  obtain ⟨hv2, h1⟩ := hv2
  have hlen : (behind s).length ≤ 20 := by
    by_cases h48 : (behind s).head? = some 48
    · have : ¬ (behind s).length > 1 := fun h => c2 ⟨h48, .inl h⟩
      omega
    · have hb := val_big (behind s) c3 c1 h48
      rcases Nat.lt_or_ge 20 (behind s).length with g | g
      · have := Nat.pow_le_pow_right (n := 10) (by decide) (show 20 ≤ (behind s).length - 1 by omega)
        rw [hv] at hb
        omega
      · exact g
  have hd := digN_of 20 (behind s) c1 c3 (fun h => by
    rcases Nat.lt_or_ge 1 (behind s).length with g | g
    · exact absurd ⟨h, .inl g⟩ c2
    · exact g) hlen
  rw [hv] at hd
  unfold textS
  by_cases hs : s.head? = some 45
  · rw [if_pos hs] at h1
    have hz : v ≠ 0 := by
      intro h0
      rw [h0] at hd
      have : behind s = [48] := by rw [← hd]; rfl
      exact c2 ⟨by rw [this]; rfl, .inr hs⟩
    rw [← h1, if_pos (by omega), show (-(v : Int)).natAbs = v by omega, hd]
    unfold behind
    rw [if_pos hs]
    match s, hs with
    | b :: t, hs => injection hs with hs; rw [hs]; rfl
  · rw [if_neg hs] at h1
    rw [← h1, if_neg (by omega), show (v : Int).natAbs = v by omega, hd]
    unfold behind
    rw [if_neg hs]; rfl
end Go.Proofs.YtbmlpbgddlgdkaaDoor.Dec
