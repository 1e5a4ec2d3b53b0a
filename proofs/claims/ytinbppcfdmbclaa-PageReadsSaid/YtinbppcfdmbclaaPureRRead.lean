/- What the reference's Read comes to, in plain words. No condition beyond those that each theorem names. -/
import Derived.Test.YtinbppcfdmbclaaPureBytes
import Derived.Test.YtinbppcfdmbclaaPureRead
import Derived.Test.YtinbppcfdmbclaaPgy3
namespace Go.Proofs.Ytinbppcfdmbclaa.Pg
open Go.RowKit Go.Proofs.YtinbppcfdmbclaaW.PrintWords Go.Proofs.YtinbppcfdmbclaaW.PrintLast Go.Proofs.YtinbppcfdmbclaaW.PrintMore
set_option linter.unusedVariables false
set_option linter.unusedSimpArgs false
theorem btat (s : ByteArray) (i : Nat) (h : i < s.size) : bt s (i : Int) = (at_ s.data.toList i : Int) := by
  have hl : i < s.data.toList.length := by rw [sz]; exact h
  rw [Fns.bt_nat s i h]
  simp [Fns.B, at_, List.getD_eq_getElem?_getD, List.getElem?_eq_getElem hl]
theorem rmay_f (key value : ByteArray) (hv : value.size < 4294967296) : quaysideref12_May.f key value = some (decide (1 ≤ key.size ∧ key.size ≤ 80 ∧ key.size + value.size ≤ 100)) := by
  unfold quaysideref12_May.f
  by_cases h1 : (key.size : Int) ≥ 1
  · rw [if_pos h1]
    by_cases h2 : (key.size : Int) ≤ 80
    · rw [if_pos h2]
      have hw : wrap64 (100 - (key.size : Int)) = 100 - (key.size : Int) := by unfold wrap64; omega
      rw [hw]
      congr 1
      rw [decide_eq_decide]; omega
    · rw [if_neg h2]; congr 1; symm; rw [decide_eq_false_iff_not]; omega
  · rw [if_neg h1]; congr 1; symm; rw [decide_eq_false_iff_not]; omega
theorem lastK_get (L : List S66) (h : L ≠ []) : lastK L = (L[L.length - 1]'(by have := List.length_pos_iff.2 h; omega)).f0 := by
  have := List.length_pos_iff.2 h
  have e1 : L.getLast? = some (L[L.length - 1]'(by omega)) := by rw [List.getLast?_eq_getElem?, List.getElem?_eq_getElem (by omega)]
  unfold lastK; rw [e1]
def ReadR (s : ByteArray) (kind : UInt8) (r : Int × List S66 × Int) : Prop := r = (0, [], 120) ∨ ∃ L, Cells L ∧ s = bytesR (encB kind L) ∧ r = ((kind.toNat : Int), L, 0)
theorem w8 (a : Nat) (h : a < 4294967296) : wrap64 (8 + wrap64 (2 * (a : Int))) = ((8 + 2 * a : Nat) : Int) := by unfold wrap64; omega
theorem w9 (a : Nat) (h : a < 4294967296) : wrap64 (9 + wrap64 (2 * (a : Int))) = ((9 + 2 * a : Nat) : Int) := by unfold wrap64; omega
theorem w2 (a : Nat) (h : a < 4294967296) : wrap64 (((8 + 2 * a : Nat) : Int) + 2) = ((10 + 2 * a : Nat) : Int) := by unfold wrap64; omega
theorem rread_l0 (s : ByteArray) (hs : s.size = 256) (kind : UInt8) (n : Nat) (hn : n < 256) : ∀ (d k : Nat) (L : List S66), L.length + d = n → 5000 + 2 * d < k → 2 * n + total L ≤ 248 ∨ L = [] →
    (∀ c ∈ L, 1 ≤ c.f0.size ∧ c.f0.size ≤ 80 ∧ c.f0.size + c.f1.size ≤ 100) → (L.Pairwise fun c d => Op.bytesLess c.f0.toList d.f0.toList = true) →
    ∃ r, quaysideref12_Read.l0 k s (n : Int) ((256 - total L : Nat) : Int) (L.length : Int) (kind.toNat : Int) L = some r ∧ ReadR s kind r
  | 0, k, L, hd, hk, hfit, heach, hasc => by
    obtain ⟨k, rfl⟩ : ∃ m, k = m + 1 := ⟨k - 1, by omega⟩
    have hf : Fits L := by
      unfold Fits
      rcases hfit with h | rfl
      · omega
      · show 0 ≤ 248; omega
    simp only [quaysideref12_Read.l0]
    rw [if_neg (by omega), rbytes_f kind L hf k (by omega), Option.bind_some]
    by_cases he : (bytesR (encB kind L)).toList = s.toList
    · rw [if_pos he]
      refine ⟨_, rfl, Or.inr ⟨L, ⟨hf, heach, hasc⟩, ?_, rfl⟩⟩
      exact (ba_ext (by rw [← ba_list, ← ba_list]; exact he)).symm
    · rw [if_neg he]
      exact ⟨_, rfl, Or.inl rfl⟩
  | d + 1, k, L, hd, hk, hfit, heach, hasc => by
    obtain ⟨k, rfl⟩ : ∃ m, k = m + 2 := ⟨k - 2, by omega⟩
    have htl : total L ≤ 248 := by
      rcases hfit with h | rfl
      · omega
      · show 0 ≤ 248; omega
    simp only [quaysideref12_Read.l0]
    rw [if_pos (by omega), w8 _ (by omega), w2 _ (by omega), w9 _ (by omega), w8 _ (by omega)]
    by_cases h1 : ((10 + 2 * L.length : Nat) : Int) > ((256 - total L : Nat) : Int)
    · rw [if_pos h1]; exact ⟨_, rfl, Or.inl rfl⟩
    · rw [if_neg h1, if_pos (by omega), if_pos (by omega), if_pos (by omega), if_pos (by omega), btat s _ (by omega), btat s _ (by omega)]
      have hfl := at_lt s.data.toList (8 + 2 * L.length)
      have hkl := at_lt s.data.toList (9 + 2 * L.length)
      generalize at_ s.data.toList (8 + 2 * L.length) = f at *
      generalize at_ s.data.toList (9 + 2 * L.length) = kl at *
      rw [wrapn f (by omega), wrapn kl (by omega)]
      have hbad : ∃ r, quaysideref12_Read.j2 (k + 1) s (n : Int) ((256 - total L : Nat) : Int) (L.length : Int) (f : Int) (kl : Int) true (kind.toNat : Int) L = some r ∧ ReadR s kind r := by
        simp only [quaysideref12_Read.j2]
        exact ⟨_, rfl, Or.inl rfl⟩
      by_cases h2 : (f : Int) ≥ ((256 - total L : Nat) : Int)
      · rw [if_pos h2]; exact hbad
      · rw [if_neg h2]
        by_cases h3 : (f : Int) < ((8 + 2 * n : Nat) : Int)
        · rw [if_pos h3]; exact hbad
        · rw [if_neg h3]
          have hw5 : wrap64 (((256 - total L : Nat) : Int) - (f : Int)) = ((256 - total L - f : Nat) : Int) := by unfold wrap64; omega
          rw [hw5]
          clear hw5
          by_cases h4 : (kl : Int) > ((256 - total L - f : Nat) : Int)
          · rw [decide_eq_true h4]; exact hbad
          · rw [decide_eq_false h4]
            simp only [quaysideref12_Read.j2]
            have hw6 : wrap64 ((f : Int) + (kl : Int)) = ((f + kl : Nat) : Int) := by unfold wrap64; omega
            rw [if_neg (by decide), hw6]
            clear hw6
            rw [if_pos (by omega), if_pos (by omega), if_pos (by omega), if_pos (by omega), if_pos (by omega), if_pos (by omega)]
            simp only [Int.toNat_natCast]
            have hks : (s.extract f (f + kl)).size = kl := by rw [ByteArray.size_extract]; omega
            have hvs : (s.extract (f + kl) (256 - total L)).size = 256 - total L - (f + kl) := by rw [ByteArray.size_extract]; omega
            rw [rmay_f _ _ (by omega), Option.bind_some]
            generalize hkey : s.extract f (f + kl) = key at *
            generalize hval : s.extract (f + kl) (256 - total L) = val at *
            by_cases h5 : 1 ≤ key.size ∧ key.size ≤ 80 ∧ key.size + val.size ≤ 100
            · rw [decide_eq_true h5, if_pos rfl]
              have hlen : L.length < 4398046511104 := by omega
              have hnext : (L ≠ [] → Op.bytesLess (lastK L).toList key.toList = true) → ∃ r, quaysideref12_Read.l0 k s (n : Int) (f : Int) (wrap64 ((L.length : Int) + 1)) (kind.toNat : Int) (L ++ [⟨key, val⟩]) = some r ∧ ReadR s kind r := by
                intro ho
                have ht : total (L ++ [(⟨key, val⟩ : S66)]) = total L + (key.size + val.size) := by
                  rw [total_append]; rfl
                have := rread_l0 s hs kind n hn d k (L ++ [⟨key, val⟩]) (by rw [List.length_append, List.length_singleton]; omega) (by omega) (Or.inl (by omega)) ?_ ?_
                · rw [ht, show 256 - (total L + (key.size + val.size)) = f from by omega, List.length_append, List.length_singleton] at this
                  rw [show (L.length : Int) + 1 = ((L.length + 1 : Nat) : Int) from by omega, wrapn _ (by omega)]
                  exact this
                · intro c hc
                  rcases List.mem_append.1 hc with h | h
                  · exact heach c h
                  · rw [List.mem_singleton.1 h]; exact h5
                · refine List.pairwise_append.2 ⟨hasc, List.pairwise_singleton _ _, fun c hc d' hd' => ?_⟩
                  rw [List.mem_singleton] at hd'; subst hd'
                  have hne : L ≠ [] := fun e => by subst e; cases hc
                  obtain ⟨i, hi, rfl⟩ := List.getElem_of_mem hc
                  have h4' := ho hne
                  rw [lastK_get L hne] at h4'
                  by_cases h0 : i = L.length - 1
                  · subst h0; exact h4'
                  · exact less_trans (asc_lt hasc i (L.length - 1) hi (by omega) (by omega)) h4'
              by_cases h6 : (L.length : Int) > 0
              · have hne : L ≠ [] := fun e => by subst e; simp at h6
                have hpos : 0 < L.length := by omega
                have hw7 : wrap64 ((L.length : Int) - 1) = ((L.length - 1 : Nat) : Int) := by unfold wrap64; omega
                rw [if_pos h6, hw7, if_pos (by omega), if_pos (by omega), rd66 L _ (by omega)]
                by_cases h7 : Op.bytesLess (L[L.length - 1]'(by omega)).f0.toList key.toList = true
                · rw [if_pos h7, if_pos hlen]
                  exact hnext (fun h => by rw [lastK_get L h]; exact h7)
                · rw [if_neg h7]
                  exact ⟨_, rfl, Or.inl rfl⟩
              · rw [if_neg h6, if_pos hlen]
                exact hnext (fun h => absurd (List.length_pos_iff.2 h) (by omega))
            · rw [decide_eq_false h5, if_neg (by decide)]
              exact ⟨_, rfl, Or.inl rfl⟩
theorem rread_any (s : ByteArray) (k : Nat) (hk : 6000 < k) : ∃ r, quaysideref12_Read.f k s = some r ∧ (r = (0, [], 120) ∨ ∃ kind L, kind ≠ 0 ∧ Cells L ∧ s = bytesR (encB kind L) ∧ r = ((kind.toNat : Int), L, 0)) := by
  obtain ⟨k, rfl⟩ : ∃ m, k = m + 1 := ⟨k - 1, by omega⟩
  unfold quaysideref12_Read.f
  by_cases h1 : (s.size : Int) = 256
  · have hs : s.size = 256 := by omega
    rw [if_pos h1, if_pos (by omega)]
    have e0 := btat s 0 (by omega)
    have e1 := btat s 1 (by omega)
    have l0 := at_lt s.data.toList 0
    have l1 := at_lt s.data.toList 1
    simp only [quaysideref12_Read.j0]
    rw [show bt s 0 = _ from e0, show bt s 1 = _ from e1]
    by_cases h2 : at_ s.data.toList 0 = 0
    · rw [h2]; exact ⟨_, rfl, Or.inl rfl⟩
    · rw [if_neg (by simp; omega), if_pos (by omega), if_pos (by omega), wrapn _ (by omega), wrapn _ (by omega)]
      obtain ⟨r, hr, hp⟩ := rread_l0 s hs (by_ (at_ s.data.toList 0)) (at_ s.data.toList 1) l1 (at_ s.data.toList 1) k [] (by simp) (by omega) (Or.inr rfl) (fun c hc => by cases hc) List.Pairwise.nil
      rw [by_at _ l0] at hr
      refine ⟨r, hr, ?_⟩
      rcases hp with h | ⟨L, h3, h4, h5⟩
      · exact Or.inl h
      · refine Or.inr ⟨_, L, fun e => h2 ?_, h3, h4, h5⟩
        rw [← by_at _ l0, e]; rfl
  · rw [if_neg h1]
    simp only [quaysideref12_Read.j0]
    exact ⟨_, rfl, Or.inl rfl⟩
end Go.Proofs.Ytinbppcfdmbclaa.Pg
