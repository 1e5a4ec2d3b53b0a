/- What the printed functions of numbers in digits come to. Conditions: a number of 64 bits. -/
import Derived.Test.YtccpbacnfhbdlaaDoorVax9
import Derived.Test.YtccpbacnfhbdlaaDoorAid
import Derived.Test.YtccpbacnfhbdlaaDoorDec
import Derived.Laws.MathBits
namespace Go.Proofs.YtccpbacnfhbdlaaDoor.NumTx
open Go.RowKit Go.Proofs.YtccpbacnfhbdlaaDoor.Va Go.Proofs.YtccpbacnfhbdlaaDoorW.PrintWords Go.Proofs.YtccpbacnfhbdlaaDoorW.PrintLast
open Go.Proofs.YtccpbacnfhbdlaaDoor.Aid
set_option linter.unusedVariables false
set_option linter.unusedSimpArgs false
/-- is it a number of 64 bits? -/
abbrev In (a : Int) : Prop := -9223372036854775808 ≤ a ∧ a ≤ 9223372036854775807

theorem wrapu (n : Int) : Go.IntKind.u64.wrap n = n % 18446744073709551616 := by
  simp [IntKind.wrap, IntKind.bits, IntKind.signed]
theorem mag_in (a : Int) (ha : In a) : 0 ≤ mag a ∧ mag a ≤ 9223372036854775808 := by unfold mag; split <;> omega
open Go.Proofs.YtccpbacnfhbdlaaDoor.Dec
/-- a text's bytes -/
def B (s : ByteArray) : List Nat := s.data.toList.map UInt8.toNat
theorem B_length (s : ByteArray) : (B s).length = s.size := by simp [B]
theorem B_lt (s : ByteArray) : ∀ b ∈ B s, b < 256 := by
  intro b hb
  obtain ⟨x, _, rfl⟩ := List.mem_map.1 hb
  exact x.toNat_lt
theorem bt_nat (s : ByteArray) (i : Nat) (h : i < s.size) : bt s (i : Int) = (((B s)[i]'(by rw [B_length]; exact h) : Nat) : Int) := by
  unfold bt
  rw [dif_pos (by simpa using h)]
  simp [B]
  rfl
theorem B_inj {a b : ByteArray} (h : B a = B b) : a = b := by
  unfold B at h
  have h2 : a.data.toList = b.data.toList := (List.map_inj_right (fun x y h => UInt8.toNat_inj.1 h)).1 h
  cases a; cases b; exact congrArg ByteArray.mk (Array.toList_inj.1 h2)
theorem toList_iff (a : ByteArray) (l : List UInt8) : a.toList = l ↔ B a = l.map UInt8.toNat := by
  rw [ByteArray.toList_eq]
  constructor
  · intro h; unfold B; rw [h]
  · intro h; exact (List.map_inj_right (fun x y h => UInt8.toNat_inj.1 h)).1 h
theorem B_nums (l : List Nat) (h : ∀ b ∈ l, b < 256) : B (strOfNums (l.map fun b : Nat => (b : Int))) = l := by
  unfold B
  rw [strOfNums_data, List.map_map, List.map_map]
  have : ∀ b ∈ l, ((UInt8.toNat ∘ fun n : Int => UInt8.ofNat n.toNat) ∘ fun b : Nat => (b : Int)) b = b := by
    intro b hb
    simp only [Function.comp_apply, Int.toNat_natCast]
    exact UInt8.toNat_ofNat_of_lt' (h b hb)
  rw [List.map_congr_left this, List.map_id']
theorem digf_eq (f : Nat) : ∀ k : Nat, digf f k = (digN f k).map fun b : Nat => (b : Int) := by
  induction f with
  | zero => intro k; rfl
  | succ f ih =>
    intro k
    unfold digf digN
    split
    · simp
    · rw [ih, List.map_append]; simp
theorem dig_lt (l : List Nat) (h : l.all isD = true) : ∀ b ∈ l, b < 256 := by
  intro b hb
  have := List.all_eq_true.1 h b hb
  simp [isD] at this; omega
theorem textS_lt (n : Int) : ∀ b ∈ textS n, b < 256 := by
  intro b hb
  unfold textS at hb
  rcases List.mem_append.1 hb with h | h
  · split at h
    · simp at h; omega
    · simp at h
  · exact dig_lt _ (digN_all _ _) b h
theorem text_eq (n : Int) (hn : In n) : num_Text.f n = some (strOfNums ((textS n).map fun b : Nat => (b : Int))) := by
  unfold num_Text.f
  rw [if_pos hn.1, if_pos hn.2]
  have e : (Go.Proofs.YtccpbacnfhbdlaaDoor.Va.mag n).toNat = n.natAbs := by unfold Go.Proofs.YtccpbacnfhbdlaaDoor.Va.mag; split <;> omega
  rw [e, digf_eq]
  unfold textS
  rw [List.map_append]
  congr 3
  split <;> rfl
/-- the reference's text: turned round -/
theorem rtext_l1 (l : List Int) (hl : l.length ≤ 1000) (d : Nat) : ∀ k : Nat, d ≤ l.length →
    quaysideref01_Text.l1 (k + d + 1) l (l.drop d).reverse ((d : Int) - 1) = some (strOfNums l.reverse) := by
  induction d with
  | zero =>
    intro k hd
    simp only [quaysideref01_Text.l1]
    rw [if_neg (by omega), List.drop_zero]
  | succ d ih =>
    intro k hd
    have ihk := ih k (by omega)
    show quaysideref01_Text.l1 ((k + d + 1) + 1) l (l.drop (d + 1)).reverse (((d + 1 : Nat) : Int) - 1) = _
    generalize k + d + 1 = m at *
    simp only [quaysideref01_Text.l1]
    have hlt : d < l.length := by omega
    have er : rd l (((d + 1 : Nat) : Int) - 1) = l[d] := by unfold rd; rw [show (((d + 1 : Nat) : Int) - 1).toNat = d by omega, List.getD_eq_getElem?_getD, List.getElem?_eq_getElem hlt]; rfl
    rw [if_pos (by omega), if_pos (by omega), if_pos (by omega), if_pos (by rw [List.length_reverse, List.length_drop]; omega), er]
    have e : (l.drop (d + 1)).reverse ++ [l[d]] = (l.drop d).reverse := by rw [List.drop_eq_getElem_cons hlt, List.reverse_cons]
    rw [e, show wrap64 ((((d + 1 : Nat) : Int) - 1) - 1) = (d : Int) - 1 by unfold wrap64; omega]
    exact ihk
theorem rtext_j2 (l : List Int) (hl : l.length ≤ 1000) (k : Nat) (hk : l.length + 2 < k) : quaysideref01_Text.j2 k l = some (strOfNums l.reverse) := by
  obtain ⟨k, rfl⟩ : ∃ m, k = (m + l.length + 1) + 1 := ⟨k - (l.length + 1 + 1), by omega⟩
  have h := rtext_l1 l hl l.length k (by omega)
  rw [List.drop_length, List.reverse_nil] at h
  generalize k + l.length + 1 = m at *
  simp only [quaysideref01_Text.j2]
  rw [show wrap64 ((l.length : Int) - 1) = (l.length : Int) - 1 by unfold wrap64; omega]
  exact h
/-- what is left of a number, and its last digit -/
theorem parts (r : Int) (hr : In r) : wrap64 (Int.tdiv r 10) = Int.tdiv r 10 ∧ (Int.tdiv r 10).natAbs = r.natAbs / 10 ∧ In (Int.tdiv r 10) ∧
    (if Int.tmod r 10 < 0 then (wrap64 (48 + wrap64 (-(Int.tmod r 10)))) % 256 else (wrap64 (48 + Int.tmod r 10)) % 256) = ((48 + r.natAbs % 10 : Nat) : Int) := by
  rcases Int.le_total 0 r with h | h
  · rw [Int.tdiv_eq_ediv_of_nonneg h, Int.tmod_eq_emod_of_nonneg h]
    refine ⟨by unfold wrap64; omega, by omega, by omega, ?_⟩
    rw [if_neg (by omega)]; unfold wrap64; omega
  · obtain ⟨v, hv⟩ := Int.eq_ofNat_of_zero_le (show 0 ≤ -r by omega)
    obtain rfl : r = -(v : Int) := by omega
    rw [Int.neg_tdiv, Int.neg_tmod, Int.tdiv_eq_ediv_of_nonneg (by omega), Int.tmod_eq_emod_of_nonneg (by omega)]
    refine ⟨by unfold wrap64; omega, by omega, by omega, ?_⟩
    split
    · have e : wrap64 (-(-((v : Int) % 10))) = (v : Int) % 10 := by unfold wrap64; omega
      rw [e]; unfold wrap64; omega
    · unfold wrap64; omega
theorem rtext_l0 (n : Int) (f : Nat) : ∀ (k : Nat) (l : List Int) (r : Int), In r → l.length + f ≤ 900 → 1000 < k → r.natAbs < 10 ^ f → (l = [] → 1 ≤ f) →
    quaysideref01_Text.l0 (k + 2 * f + 1 + 1) n l r = some (strOfNums ((if n < 0 then [45] else []) ++ (if l = [] ∨ r.natAbs ≠ 0 then digf f r.natAbs else []) ++ l.reverse)) := by
  have fin : ∀ (m : Nat) (l : List Int) (r : Int), l.length ≤ 900 → 950 < m → l ≠ [] → r = 0 → quaysideref01_Text.l0 (m + 1 + 1) n l r = some (strOfNums ((if n < 0 then [45] else []) ++ l.reverse)) := by
    intro m l r hl hm hne hr
    have hlen : l.length ≠ 0 := fun h => hne (List.eq_nil_of_length_eq_zero h)
    have e : ((l.length : Int) == 0) = false := beq_eq_false_iff_ne.2 (by omega)
    generalize hq : m + 1 = q
    simp only [quaysideref01_Text.l0]
    rw [if_pos hr, e, ← hq]
    simp only [quaysideref01_Text.j1]
    rw [if_neg (by decide)]
    by_cases hn : n < 0
    · rw [if_pos hn, if_pos (by omega), if_pos hn, rtext_j2 _ (by simp; omega) _ (by simp; omega), List.reverse_append]; rfl
    · rw [if_neg hn, if_neg hn, rtext_j2 l (by omega) _ (by omega)]; rfl
  induction f with
  | zero =>
    intro k l r hr hl hk hv h1
    have hne : l ≠ [] := fun h => by have := h1 h; omega
    have hz : r.natAbs = 0 := by simpa using hv
    have hno : ¬ (l = [] ∨ r.natAbs ≠ 0) := by
      rintro (h | h)
      · exact hne h
      · exact h hz
    rw [fin (k + 2 * 0) l r (by omega) (by omega) hne (by omega), if_neg hno, List.append_nil]
  | succ f ih =>
    intro k l r hr hl hk hv h1
    by_cases hc : l = [] ∨ r.natAbs ≠ 0
    · rw [if_pos hc]
      obtain ⟨p1, p2, p3, p4⟩ := parts r hr
      have ihk := ih k (l ++ [((48 + r.natAbs % 10 : Nat) : Int)]) (Int.tdiv r 10) p3 (by simp; omega) hk (by rw [p2]; rw [Nat.pow_succ] at hv; omega) (fun h => by simp at h)
      rw [show k + 2 * (f + 1) + 1 + 1 = (k + 2 * f + 1 + 1) + 1 + 1 by omega]
      generalize k + 2 * f + 1 + 1 = m at *
      have step : quaysideref01_Text.l0 (m + 1 + 1) n l r = quaysideref01_Text.j1 (m + 1) n l r true := by
        generalize hq : m + 1 = q
        simp only [quaysideref01_Text.l0]
        by_cases h0 : r = 0
        · rw [if_pos h0]
          have : l = [] := by
            rcases hc with h | h
            · exact h
            · exact absurd (by omega) h
          subst this; rfl
        · rw [if_neg h0]
      rw [step]
      have jstep : quaysideref01_Text.j1 (m + 1) n l r true = quaysideref01_Text.l0 m n (l ++ [((48 + r.natAbs % 10 : Nat) : Int)]) (Int.tdiv r 10) := by
        simp only [quaysideref01_Text.j1, if_true]
        by_cases ht : Int.tmod r 10 < 0
        · rw [if_pos ht] at p4 ⊢
          rw [if_pos (by omega), p4, p1]
        · rw [if_neg ht] at p4 ⊢
          rw [if_pos (by omega), p4, p1]
      rw [jstep, ihk, p2]
      congr 2
      rw [List.append_assoc, List.append_assoc, List.reverse_append]
      congr 1
      rw [show ([((48 + r.natAbs % 10 : Nat) : Int)] : List Int).reverse = [((48 + r.natAbs % 10 : Nat) : Int)] from rfl]
      rw [digf]
      by_cases h10 : r.natAbs < 10
      · rw [if_pos h10, if_neg]
        · rw [List.nil_append, show r.natAbs % 10 = r.natAbs by omega]
          simp
        · rintro (h | h)
          · simp at h
          · omega
      · rw [if_neg h10, if_pos (.inr (by omega)), List.append_assoc]
        simp
    · rw [if_neg hc]
      have hne : l ≠ [] := fun h => hc (.inl h)
      have hz : r = 0 := by
        rcases Int.lt_trichotomy r 0 with h | h | h
        · exact absurd (.inr (by omega)) hc
        · exact h
        · exact absurd (.inr (by omega)) hc
      have h := fin (k + 2 * (f + 1)) l r (by omega) (by omega) hne hz
      rw [h, List.append_nil]
theorem rtext_eq (n : Int) (hn : In n) (k : Nat) (hk : 2000 < k) : quaysideref01_Text.f k n = num_Text.f n := by
  obtain ⟨k, rfl⟩ : ∃ m, k = m + 2 * 20 + 1 + 1 := ⟨k - 42, by omega⟩
  unfold quaysideref01_Text.f
  rw [rtext_l0 n 20 k [] n hn (by simp) (by omega) (by omega) (by simp), text_eq n hn, if_pos (show (([] : List Int) = [] ∨ n.natAbs ≠ 0) from .inl rfl), List.reverse_nil, List.append_nil]
  unfold textS
  rw [digf_eq, List.map_append]
  congr 3
  by_cases h0 : n < 0 <;> simp [h0]

end Go.Proofs.YtccpbacnfhbdlaaDoor.NumTx
