/- What the reference's functions on a page's cells come to, in plain words. No condition beyond those that each theorem names. -/
import Derived.Test.YtinbppcfdmbclaaPgBase
namespace Go.Proofs.Ytinbppcfdmbclaa.Pg
open Go.RowKit Go.Proofs.YtinbppcfdmbclaaW.PrintWords Go.Proofs.YtinbppcfdmbclaaW.PrintLast Go.Proofs.YtinbppcfdmbclaaW.PrintMore
set_option linter.unusedVariables false
set_option linter.unusedSimpArgs false
theorem rd66 (L : List S66) (i : Nat) (h : i < L.length) : rd_T66 L (i : Int) = L[i] := by
  simp [rd_T66, List.getD_eq_getElem?_getD, List.getElem?_eq_getElem h]
theorem wrapn (n : Nat) (h : n < 9223372036854775808) : wrap64 (n : Int) = n := by unfold wrap64; omega
theorem there_cons (c : S66) (t : List S66) (key : ByteArray) : there (c :: t) key = if Op.bytesLess c.f0.toList key.toList = true then there t key else (c.f0.toList == key.toList) := by
  unfold there
  by_cases h : Op.bytesLess c.f0.toList key.toList = true
  · rw [fN, if_pos h, if_pos h]; rfl
  · rw [fN, if_neg h, if_neg h]; rfl
theorem rfind_l0 (key : ByteArray) (a0 : Int) (L : List S66) (hL : L.length < 4294967296) : ∀ (d i k : Nat), i + d = L.length → d < k →
    quaysideref12_Find.l0 k key (i : Int) a0 L = some (((i + fN (L.drop i) key : Nat) : Int), there (L.drop i) key)
  | 0, i, k, h, hk => by
    obtain ⟨k, rfl⟩ : ∃ m, k = m + 1 := ⟨k - 1, by omega⟩
    simp only [quaysideref12_Find.l0]
    rw [if_neg (by omega), List.drop_of_length_le (by omega)]
    rfl
  | d + 1, i, k, h, hk => by
    obtain ⟨k, rfl⟩ : ∃ m, k = m + 1 := ⟨k - 1, by omega⟩
    have hi : i < L.length := by omega
    have ih := rfind_l0 key a0 L hL d (i + 1) k (by omega) (by omega)
    simp only [quaysideref12_Find.l0]
    rw [if_pos (by omega), if_pos (by omega), rd66 L i hi, List.drop_eq_getElem_cons hi, there_cons]
    by_cases hb : Op.bytesLess L[i].f0.toList key.toList = true
    · rw [if_pos hb, if_pos hb, show (i : Int) + 1 = ((i + 1 : Nat) : Int) from by omega, wrapn _ (by omega), ih, fN, if_pos hb]
      congr 3; omega
    · rw [if_neg hb, if_neg hb, fN, if_neg hb]; rfl
theorem rfind_f (a0 : Int) (L : List S66) (key : ByteArray) (k : Nat) (hL : L.length < 4294967296) (hk : L.length < k) : quaysideref12_Find.f k a0 L key = some ((fN L key : Int), there L key) := by
  have := rfind_l0 key a0 L hL L.length 0 k (by omega) hk
  rw [List.drop_zero, Nat.zero_add] at this
  exact this
theorem rsize_l0 (L : List S66) (hL : L.length < 4294967296) : ∀ (d i k acc : Nat), i + d = L.length → d < k → acc + 2 * d + total (L.drop i) < 9223372036854775808 →
    quaysideref12_size.l0 k L (acc : Int) (i : Int) = some (((acc + 2 * d + total (L.drop i) : Nat)) : Int)
  | 0, i, k, acc, h, hk, _ => by
    obtain ⟨k, rfl⟩ : ∃ m, k = m + 1 := ⟨k - 1, by omega⟩
    simp only [quaysideref12_size.l0]
    rw [if_neg (by omega), List.drop_of_length_le (by omega)]
    rfl
  | d + 1, i, k, acc, h, hk, hb => by
    obtain ⟨k, rfl⟩ : ∃ m, k = m + 1 := ⟨k - 1, by omega⟩
    have hi : i < L.length := by omega
    rw [List.drop_eq_getElem_cons hi, total, cz] at hb ⊢
    have ih := rsize_l0 L hL d (i + 1) k (acc + 2 + L[i].f0.size + L[i].f1.size) (by omega) (by omega) (by omega)
    simp only [quaysideref12_size.l0]
    rw [if_pos (by omega), if_pos (by omega), rd66 L i hi, show (acc : Int) + 2 = ((acc + 2 : Nat) : Int) from by omega, wrapn _ (by omega), show ((acc + 2 : Nat) : Int) + (L[i].f0.size : Int) = ((acc + 2 + L[i].f0.size : Nat) : Int) from by omega, wrapn _ (by omega), show ((acc + 2 + L[i].f0.size : Nat) : Int) + (L[i].f1.size : Int) = ((acc + 2 + L[i].f0.size + L[i].f1.size : Nat) : Int) from by omega, wrapn _ (by omega), show (i : Int) + 1 = ((i + 1 : Nat) : Int) from by omega, wrapn _ (by omega), ih]
    congr 2; omega
theorem rsize_f (L : List S66) (k : Nat) (hL : L.length < 4294967296) (ht : total L < 4294967296) (hk : L.length < k) : quaysideref12_size.f k L = some ((8 + 2 * L.length + total L : Nat) : Int) := by
  have := rsize_l0 L hL L.length 0 k 8 (by omega) hk (by rw [List.drop_zero]; omega)
  rw [List.drop_zero] at this
  exact this
theorem rput_f (kind : Int) (L : List S66) (key value : ByteArray) (k : Nat) (hL : Fits L) (hk : 300 < k) : quaysideref12_Put.f k kind L key value = some (kind, (putR L key value).2, (putR L key value).1) := by
  unfold Fits at hL
  unfold quaysideref12_Put.f putR
  rw [may_f, Option.bind_some]
  by_cases hm : mayB key value = true
  · have hkv := of_decide_eq_true hm
    rw [if_pos hm, if_pos hm, rfind_f kind L key k (by omega) (by omega), Option.bind_some]
    have hfl := fN_le L key
    have hal := ahead_len L key
    rw [if_pos (by omega), if_pos (by omega), Option.bind_some, Int.toNat_natCast, show L.take (fN L key) = aheadL L key from rfl]
    rw [if_pos (by simp only [List.length_nil]; omega), Option.bind_some, List.nil_append, if_pos (by omega), Option.bind_some]
    have hi1 : (insL L key value).length = (aheadL L key).length + (behindL L key).length + 1 := by rw [insL, List.length_append, List.length_cons]; omega
    have hi2 : total (insL L key value) = total (aheadL L key) + total (behindL L key) + (key.size + value.size) := by rw [insL, total_append, total]; show _ + (key.size + value.size + _) = _; omega
    have htk : total (aheadL L key) ≤ total L := total_take_le L _
    have htd : total (behindL L key) ≤ total L := total_sub (List.drop_sublist _ _)
    have hbl : (behindL L key).length ≤ L.length := by rw [behindL, List.length_drop]; omega
    have hins : (aheadL L key ++ [(⟨key, value⟩ : S66)]) ++ behindL L key = insL L key value := by rw [insL, List.append_assoc]; rfl
    have hsz := rsize_f (insL L key value) k (by omega) (by omega) (by omega)
    have hfit : Fits (insL L key value) ↔ ¬ (((8 + 2 * (insL L key value).length + total (insL L key value) : Nat) : Int) > 256) := by unfold Fits; omega
    cases ht : there L key with
    | true =>
      obtain ⟨hlt, -⟩ := there_lt ht
      have hb : L.drop (fN L key + 1) = behindL L key := by rw [behindL, if_pos ht]
      rw [if_pos rfl, show (fN L key : Int) + 1 = ((fN L key + 1 : Nat) : Int) from by omega, wrapn _ (by omega), if_pos (by omega), if_pos (by omega), Option.bind_some, Int.toNat_natCast, hb,
        if_pos (by rw [List.length_append]; simp only [List.length_cons, List.length_nil]; omega), Option.bind_some, hins, hsz, Option.bind_some]
      by_cases hf : Fits (insL L key value)
      · rw [if_neg (hfit.1 hf), if_pos hf]
      · rw [if_pos (by have := mt hfit.2 hf; omega), if_neg hf]
    | false =>
      have hb : L.drop (fN L key) = behindL L key := by rw [behindL, if_neg (by simp [ht])]
      rw [if_neg (by simp), Option.bind_some, hb,
        if_pos (by rw [List.length_append]; simp only [List.length_cons, List.length_nil]; omega), Option.bind_some, hins, hsz, Option.bind_some]
      by_cases hf : Fits (insL L key value)
      · rw [if_neg (hfit.1 hf), if_pos hf]
      · rw [if_pos (by have := mt hfit.2 hf; omega), if_neg hf]
  · rw [if_neg hm, if_neg hm]
end Go.Proofs.Ytinbppcfdmbclaa.Pg
