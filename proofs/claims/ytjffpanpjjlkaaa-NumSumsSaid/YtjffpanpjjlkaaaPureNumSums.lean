/- The law NumSums holds of every list of numbers: the sum is the reference's, whatever the order. Conditions: the list's size within the form's reach; numbers of 64 bits. -/
import Derived.Test.YtjffpanpjjlkaaaOzx3
import Derived.Test.YtjffpanpjjlkaaaAid
import Derived.Laws.MathBits
namespace Go.Proofs.Ytjffpanpjjlkaaa.Pure
open Go.RowKit Go.Proofs.Ytjffpanpjjlkaaa.Oz Go.Proofs.YtjffpanpjjlkaaaW.PrintWords Go.Proofs.YtjffpanpjjlkaaaW.PrintLast
open Go.Proofs.Ytjffpanpjjlkaaa.Aid
set_option linter.unusedVariables false
set_option linter.unusedSimpArgs false

/-- a number, or that it is none -/
def num (n : Int) : Int × Int := if -9223372036854775808 ≤ n ∧ n ≤ 9223372036854775807 then (n, 0) else (0, 10)
/-- is it a number of 64 bits? -/
abbrev In (a : Int) : Prop := -9223372036854775808 ≤ a ∧ a ≤ 9223372036854775807

theorem wrapu (n : Int) : Go.IntKind.u64.wrap n = n % 18446744073709551616 := by
  simp [IntKind.wrap, IntKind.bits, IntKind.signed]

/-- a number as the reference holds it -/
def W (n : Int) : Int × Int := (n / 4611686018427387904, n % 4611686018427387904)
/-- is a number within what the reference reckons with? -/
abbrev Mid (a : Int) : Prop := -162259276829213363391578010288128 ≤ a ∧ a ≤ 162259276829213363391578010288128
theorem of_eq (a : Int) : quaysideref01_of.f a = some (W a) := by
  unfold quaysideref01_of.f W
  rw [and62]
theorem plus_eq (m n : Int) (hm : Mid m) (hn : Mid n) : quaysideref01_plus.f (W m).1 (W m).2 (W n).1 (W n).2 = some (W (m + n)) := by
  unfold quaysideref01_plus.f W wrap64
  dsimp only
  split
  all_goals (refine congrArg some (Prod.ext ?_ ?_) <;> dsimp only <;> omega)
theorem number_eq (n : Int) : quaysideref01_number.f (W n).1 (W n).2 = some (num n) := by
  unfold quaysideref01_number.f num W
  dsimp only
  split
  · rw [if_neg (by omega)]
  split
  · rw [if_neg (by omega)]
  rw [or_join _ _ (by omega) (by omega) (by omega) (by omega), if_pos (by omega)]
  refine congrArg some (Prod.ext ?_ rfl)
  dsimp only; omega

theorem rsum_l0 (l : List Int) (hl : l.length ≤ 17592186044416) (hin : ∀ x ∈ l, In x) (d : Nat) : ∀ (k i : Nat) (S : Int), i + d = l.length → -(9223372036854775808 * (i : Int)) ≤ S → S ≤ 9223372036854775808 * (i : Int) →
    quaysideref01_Sum.l0 (k + d + 1) l (i : Int) (W S).1 (W S).2 = some (num (S + (l.drop i).sum)) := by
  induction d with
  | zero =>
    intro k i S hi h1 h2
    simp only [quaysideref01_Sum.l0]
    rw [if_neg (by omega), number_eq, List.drop_of_length_le (by omega)]
    simp
  | succ d ih =>
    intro k i S hi h1 h2
    have ihk := ih k
    show quaysideref01_Sum.l0 ((k + d + 1) + 1) l (i : Int) (W S).1 (W S).2 = _
    generalize k + d + 1 = m at *
    simp only [quaysideref01_Sum.l0]
    have hlt : i < l.length := by omega
    have hx := hin l[i] (List.getElem_mem hlt)
    have er : rd l (i : Int) = l[i] := by unfold rd; rw [Int.toNat_natCast, List.getD_eq_getElem?_getD, List.getElem?_eq_getElem hlt]; rfl
    rw [if_pos (by omega), if_pos (by omega), of_eq, er, Option.bind_some, plus_eq S l[i] (by omega) (by omega), Option.bind_some]
    rw [show wrap64 ((i : Int) + 1) = ((i + 1 : Nat) : Int) by unfold wrap64; omega, ihk (i + 1) (S + l[i]) (by omega) (by omega) (by omega)]
    rw [List.drop_eq_getElem_cons hlt, List.sum_cons, Int.add_assoc]
theorem rsum_eq (l : List Int) (hl : l.length ≤ 17592186044416) (hin : ∀ x ∈ l, In x) (k : Nat) (hk : l.length < k) : quaysideref01_Sum.f k l = some (num l.sum) := by
  obtain ⟨k, rfl⟩ : ∃ m, k = m + l.length + 1 := ⟨k - (l.length + 1), by omega⟩
  unfold quaysideref01_Sum.f
  have h := rsum_l0 l hl hin l.length k 0 0 (by omega) (by omega) (by omega)
  rw [List.drop_zero, Int.zero_add] at h
  exact h
/-- what the program holds of a sum: its upper and its lower 64 bits -/
theorem sum_l0 (l : List Int) (hl : l.length ≤ 17592186044416) (hin : ∀ x ∈ l, In x) (d : Nat) : ∀ (k i : Nat) (S : Int), i + d = l.length → -(9223372036854775808 * (i : Int)) ≤ S → S ≤ 9223372036854775808 * (i : Int) →
    num_Sum.l0 (k + d + 1) (S / 18446744073709551616 % 18446744073709551616) (S % 18446744073709551616) l (l.length : Int) (i : Int) = some (num (S + (l.drop i).sum)) := by
  induction d with
  | zero =>
    intro k i S hi h1 h2
    simp only [num_Sum.l0]
    rw [if_neg (by omega), List.drop_of_length_le (by omega), wrapu]
    have hw : wrap64 (S % 18446744073709551616) = (S + 9223372036854775808) % 18446744073709551616 - 9223372036854775808 := by unfold wrap64; omega
    rw [hw, List.sum_nil, Int.add_zero]
    unfold num
    by_cases hin2 : -9223372036854775808 ≤ S ∧ S ≤ 9223372036854775807
    · rw [if_pos hin2, if_pos (by omega)]
      refine congrArg some (Prod.ext ?_ rfl)
      dsimp only; omega
    · rw [if_neg hin2, if_neg (by omega)]
  | succ d ih =>
    intro k i S hi h1 h2
    have ihk := ih k
    show num_Sum.l0 ((k + d + 1) + 1) (S / 18446744073709551616 % 18446744073709551616) (S % 18446744073709551616) l (l.length : Int) (i : Int) = _
    generalize k + d + 1 = m at *
    simp only [num_Sum.l0]
    have hlt : i < l.length := by omega
    have hx := hin l[i] (List.getElem_mem hlt)
    have er : rd l (i : Int) = l[i] := by unfold rd; rw [Int.toNat_natCast, List.getD_eq_getElem?_getD, List.getElem?_eq_getElem hlt]; rfl
    rw [if_pos (by omega), if_pos (by omega), if_pos (by omega), er]
    simp only [wrapu]
    have hn := ihk (i + 1) (S + l[i]) (by omega) (by omega) (by omega)
    rw [List.drop_eq_getElem_cons hlt, List.sum_cons, ← Int.add_assoc]
    generalize l[i] = x at *
    have e0 : (((S % 18446744073709551616 : Int).toNat + (x % 18446744073709551616 : Int).toNat : Nat) : Int) = S % 18446744073709551616 + x % 18446744073709551616 := by omega
    have e1 : ((((S % 18446744073709551616 : Int).toNat + (x % 18446744073709551616 : Int).toNat) % 18446744073709551616 : Nat) : Int) = (S + x) % 18446744073709551616 := by
      rw [Int.natCast_emod, e0]; omega
    have e2 : ((((S % 18446744073709551616 : Int).toNat + (x % 18446744073709551616 : Int).toNat) / 18446744073709551616 : Nat) : Int) = (S % 18446744073709551616 + x % 18446744073709551616) / 18446744073709551616 := by
      rw [Int.natCast_ediv, e0]; rfl
    have e3 : (S / 18446744073709551616 % 18446744073709551616 + (x / 9223372036854775808 % 18446744073709551616 + (S % 18446744073709551616 + x % 18446744073709551616) / 18446744073709551616) % 18446744073709551616) % 18446744073709551616 = (S + x) / 18446744073709551616 % 18446744073709551616 := by
      have hc : x / 9223372036854775808 = 0 ∨ x / 9223372036854775808 = -1 := by omega
      rcases hc with hc | hc <;> rw [hc] <;> omega
    rw [e1, e2, e3, show wrap64 ((i : Int) + 1) = ((i + 1 : Nat) : Int) by unfold wrap64; omega]
    exact hn
theorem sum_eq (l : List Int) (hl : l.length ≤ 17592186044416) (hin : ∀ x ∈ l, In x) (k : Nat) (hk : l.length < k) : num_Sum.f k l = some (num l.sum) := by
  obtain ⟨k, rfl⟩ : ∃ m, k = m + l.length + 1 := ⟨k - (l.length + 1), by omega⟩
  unfold num_Sum.f
  have h := sum_l0 l hl hin l.length k 0 0 (by omega) (by omega) (by omega)
  rw [List.drop_zero, Int.zero_add] at h
  exact h
theorem turn_l0 (l : List Int) (hl : l.length ≤ 17592186044416) (hin : ∀ x ∈ l, In x) (d : Nat) : ∀ k : Nat, l.length + 5 < k → d ≤ l.length →
    quaysidelaw01_NumSums.l0 (k + d + 1) l (l.drop d).reverse ((d : Int) - 1) = some true := by
  induction d with
  | zero =>
    intro k hk hd
    simp only [quaysidelaw01_NumSums.l0]
    rw [if_neg (by omega), List.drop_zero]
    have h3 : ∀ x ∈ ([9223372036854775807, 1, -1] : List Int), In x := by
      intro x hx
      simp only [List.mem_cons, List.not_mem_nil, or_false] at hx
      rcases hx with rfl | rfl | rfl <;> omega
    have e3 := sum_eq [9223372036854775807, 1, -1] (by decide) h3 k (by simp; omega)
    rw [sum_eq l hl hin _ (by omega), rsum_eq l hl hin _ (by omega), sum_eq l.reverse (by simpa using hl) (fun x hx => hin x (List.mem_reverse.1 hx)) _ (by simp; omega), e3, List.sum_reverse]
    simp only [Option.bind_some, if_true]
    rfl
  | succ d ih =>
    intro k hk hd
    have ihk := ih k hk (by omega)
    show quaysidelaw01_NumSums.l0 ((k + d + 1) + 1) l (l.drop (d + 1)).reverse (((d + 1 : Nat) : Int) - 1) = _
    generalize k + d + 1 = m at *
    simp only [quaysidelaw01_NumSums.l0]
    have hlt : d < l.length := by omega
    have er : rd l (((d + 1 : Nat) : Int) - 1) = l[d] := by unfold rd; rw [show (((d + 1 : Nat) : Int) - 1).toNat = d by omega, List.getD_eq_getElem?_getD, List.getElem?_eq_getElem hlt]; rfl
    rw [if_pos (by omega), if_pos (by omega), if_pos (by omega), if_pos (by rw [List.length_reverse, List.length_drop]; omega), er]
    have e : (l.drop (d + 1)).reverse ++ [l[d]] = (l.drop d).reverse := by rw [List.drop_eq_getElem_cons hlt, List.reverse_cons]
    rw [e, show wrap64 ((((d + 1 : Nat) : Int) - 1) - 1) = (d : Int) - 1 by unfold wrap64; omega]
    exact ihk
theorem NumSums : quaysidelaw01_NumSums.Pure := by
  intro l _ h8 hw
  have hl : l.length ≤ 17592186044416 := by omega
  have hin : ∀ x ∈ l, In x := fun x hx => wf64 (hw x hx)
  refine ⟨(l.length + 6) + l.length + 1, ?_⟩
  unfold quaysidelaw01_NumSums.f
  have h := turn_l0 l hl hin l.length (l.length + 6) (by omega) (by omega)
  rw [List.drop_length, List.reverse_nil] at h
  rw [show wrap64 ((l.length : Int) - 1) = (l.length : Int) - 1 by unfold wrap64; omega]
  exact h

end Go.Proofs.Ytjffpanpjjlkaaa.Pure
