/- The law PageTells holds: a page of which up to four bytes in a row were turned is none. Conditions: none but those of the walk. -/
import Derived.Test.YtinbppcfdmbclaaTellsWalk
namespace Go.Proofs.Ytinbppcfdmbclaa.Pg
open Go.RowKit Go.Proofs.YtinbppcfdmbclaaW.PrintWords Go.Proofs.YtinbppcfdmbclaaW.PrintLast Go.Proofs.YtinbppcfdmbclaaW.PrintMore
set_option linter.unusedVariables false
set_option linter.unusedSimpArgs false
theorem turn_nat (a2 : Int) (j : Nat) : turn a2 j = (((a2 / 2 ^ (8 * j) % 256).toNat : Nat) : Int) ∧ (a2 / 2 ^ (8 * j) % 256).toNat < 256 := by
  unfold turn
  have e := Aid.and_mask (a2 / 2 ^ (8 * j)) 8 (by decide)
  rw [show ((2 : Int) ^ 8 - 1) = 255 from rfl, show ((2 : Int) ^ 8) = 256 from rfl] at e
  rw [e]
  generalize a2 / 2 ^ (8 * j) = z
  omega
theorem turnedP_at (xs : List Int) (m : Nat) (a2 : Int) (i : Nat) (hi : i < xs.length) : ∀ j, (turnedP xs m a2 j).getD i 0 = if m ≤ i ∧ i < m + j ∧ (i < 4 ∨ 8 ≤ i) then Go.bits .xor .u8 (xs.getD i 0) (turn a2 (i - m)) else xs.getD i 0
  | 0 => by rw [if_neg (by omega)]; rfl
  | j + 1 => by
    have ih := turnedP_at xs m a2 i hi j
    have hlen := turnedP_length xs m a2 j
    unfold turnedP
    by_cases hc : m + j < 4 ∨ 8 ≤ m + j
    · rw [if_pos hc]
      by_cases e : i = m + j
      · subst e
        rw [if_neg (by omega)] at ih
        rw [if_pos (by omega), ih, List.getD_eq_getElem?_getD, List.getElem?_set_self (by omega), Nat.add_sub_cancel_left]
        rfl
      · rw [List.getD_eq_getElem?_getD, List.getElem?_set_ne (fun h => e h.symm), ← List.getD_eq_getElem?_getD, ih]
        by_cases h1 : m ≤ i ∧ i < m + j ∧ (i < 4 ∨ 8 ≤ i)
        · rw [if_pos h1, if_pos (by omega)]
        · rw [if_neg h1, if_neg (by omega)]
    · rw [if_neg hc, ih]
      by_cases h1 : m ≤ i ∧ i < m + j ∧ (i < 4 ∨ 8 ≤ i)
      · rw [if_pos h1, if_pos (by omega)]
      · rw [if_neg h1, if_neg (by omega)]
theorem at_nums (xs : List Int) (i : Nat) (hi : i < xs.length) : at_ (strOfNums xs).data.toList i = (UInt8.ofNat (xs.getD i 0).toNat).toNat := by
  rw [strOfNums_data]
  simp [at_, List.getD_eq_getElem?_getD, List.getElem?_eq_getElem hi]
theorem at_bytesOf (s : ByteArray) (i : Nat) (hi : i < s.size) : (bytesOf s).getD i 0 = (at_ s.data.toList i : Int) := by
  have hl : i < s.data.toList.length := by rw [sz]; exact hi
  simp [bytesOf, at_, List.getD_eq_getElem?_getD, List.getElem?_eq_getElem hl]
theorem at_splice_in (b cs : List UInt8) (o i : Nat) (ho : o ≤ b.length) (hi : i < cs.length) : at_ (splice b o cs) (o + i) = at_ cs i := by
  unfold splice
  have hl : (b.take o).length = o := by rw [List.length_take]; omega
  rw [show o + i = (b.take o).length + i from by rw [hl], at_append_r, at_append_l _ _ _ hi]
theorem at_splice_high (b cs : List UInt8) (o i : Nat) (h : o + cs.length ≤ i) (ho : o + cs.length ≤ b.length) : at_ (splice b o cs) i = at_ b i := by
  unfold splice
  have hl : (b.take o).length = o := by rw [List.length_take]; omega
  rw [show i = (b.take o).length + (cs.length + (i - o - cs.length)) from by rw [hl]; omega, at_append_r, at_append_r]
  simp [at_, List.getD_eq_getElem?_getD, List.getElem?_drop]
  rw [Nat.min_eq_left (by omega), Nat.add_assoc]
theorem at_ext {a b : List UInt8} (hl : a.length = b.length) (h : ∀ i, i < a.length → at_ a i = at_ b i) : a = b := by
  apply List.ext_getElem hl
  intro i h1 h2
  have := h i h1
  rw [at_get a i h1, at_get b i h2, this]
/-- the sum's bytes tell the sum -/
theorem sum_bytes (b : List UInt8) : Crc.crc 0 (Fns.B ⟨b.toArray⟩) = at_ (sumS b).data.toList 0 + 256 * at_ (sumS b).data.toList 1 + 65536 * at_ (sumS b).data.toList 2 + 16777216 * at_ (sumS b).data.toList 3 := by
  have hlt : Crc.crc 0 (Fns.B ⟨b.toArray⟩) < 4294967296 := Crc.crc_lt (by omega) (Fns.B_lt _)
  have h := fun i hi => at_nums [((Crc.crc 0 (Fns.B ⟨b.toArray⟩) : Nat) : Int) % 256, ((Crc.crc 0 (Fns.B ⟨b.toArray⟩) : Nat) : Int) / 256 % 256, ((Crc.crc 0 (Fns.B ⟨b.toArray⟩) : Nat) : Int) / 65536 % 256, ((Crc.crc 0 (Fns.B ⟨b.toArray⟩) : Nat) : Int) / 16777216 % 256] i hi
  unfold sumS
  rw [h 0 (by simp), h 1 (by simp), h 2 (by simp), h 3 (by simp)]
  generalize Crc.crc 0 (Fns.B ⟨b.toArray⟩) = n at *
  simp only [List.getD_cons_zero, List.getD_cons_succ, UInt8.toNat_ofNat']
  omega
theorem crc_run {l m : List Nat} (h : Crc.crc 0 l = Crc.crc 0 m) : Crc.run 4294967295 l = Crc.run 4294967295 m := by
  unfold Crc.crc at h
  rw [Nat.zero_xor] at h
  exact Crc.xor_cancel_right h
theorem tells_pure (a2 : Int) (L : List S66) (m : Nat) (hL : Cells L) (hm : m + 4 ≤ 256) : strOfNums (turnedP (bytesOf (bytesR (encB (by_ 7) L))) m a2 4) = bytesR (encB (by_ 7) L) ∨ ¬ readP (strOfNums (turnedP (bytesOf (bytesR (encB (by_ 7) L))) m a2 4)) := by
  have hbl := encB_length (by_ 7) L hL.fits
  have hbc := clear_enc (by_ 7) L hL.fits
  obtain ⟨b, hb⟩ : ∃ b, encB (by_ 7) L = b := ⟨_, rfl⟩
  rw [hb] at hbl hbc ⊢
  have hss := bytesR_size b hbl
  have hsl : (bytesR b).data.toList.length = 256 := by rw [sz, hss]
  obtain ⟨t, ht⟩ : ∃ t, strOfNums (turnedP (bytesOf (bytesR b)) m a2 4) = t := ⟨_, rfl⟩
  rw [ht]
  have hbo : (bytesOf (bytesR b)).length = 256 := by rw [bytesOf_length, hss]
  have htl : t.data.toList.length = 256 := by rw [← ht, strOfNums_data, List.length_map, turnedP_length, hbo]
  -- what is turned
  have hT : ∀ i, i < 256 → at_ t.data.toList i = at_ (bytesR b).data.toList i ^^^ (if m ≤ i ∧ i < m + 4 ∧ (i < 4 ∨ 8 ≤ i) then (a2 / 2 ^ (8 * (i - m)) % 256).toNat else 0) := by
    intro i hi
    have hsi := at_lt (bytesR b).data.toList i
    obtain ⟨hw1, hw2⟩ := turn_nat a2 (i - m)
    rw [← ht, at_nums _ _ (by rw [turnedP_length, hbo]; exact hi), turnedP_at _ _ _ _ (by rw [hbo]; exact hi), at_bytesOf _ _ (by rw [hss]; exact hi)]
    split
    · rw [hw1, u8_xor_nat _ _ hsi hw2, Int.toNat_natCast]
      exact UInt8.toNat_ofNat_of_lt' (Nat.xor_lt_two_pow (n := 8) hsi hw2)
    · rw [Int.toNat_natCast, Nat.xor_zero]
      exact UInt8.toNat_ofNat_of_lt' hsi
  by_cases hts : t = bytesR b
  · exact Or.inl hts
  · refine Or.inr fun ⟨kind', L', hk', hc', ht'⟩ => ?_
    have hbl' := encB_length kind' L' hc'.fits
    have hbc' := clear_enc kind' L' hc'.fits
    obtain ⟨b', hb'⟩ : ∃ b', encB kind' L' = b' := ⟨_, rfl⟩
    rw [hb'] at hbl' hbc' ht'
    -- the bytes but for the sums
    have hcl : ∀ (sb : List UInt8), sb.length = 256 → ∀ i, i < 256 → at_ (clearS sb) i = if 4 ≤ i ∧ i < 8 then 0 else at_ sb i := by
      intro sb hl i hi
      unfold clearS
      by_cases h4 : i < 4
      · rw [if_neg (by omega), at_splice_low _ _ _ _ h4 (by omega)]
      · by_cases h8 : i < 8
        · rw [if_pos (by omega), show i = 4 + (i - 4) from by omega, at_splice_in _ _ _ _ (by omega) (by simp; omega)]
          have hi4 : i - 4 < 4 := by omega
          generalize i - 4 = k at hi4 ⊢
          match k, hi4 with
          | 0, _ => rfl
          | 1, _ => rfl
          | 2, _ => rfl
          | 3, _ => rfl
        · rw [if_neg (by omega), at_splice_high _ _ _ _ (by simp; omega) (by simp; omega)]
    have hB : ∀ i, i < 256 → at_ b' i = at_ b i ^^^ (if m ≤ i ∧ i < m + 4 ∧ (i < 4 ∨ 8 ≤ i) then (a2 / 2 ^ (8 * (i - m)) % 256).toNat else 0) := by
      intro i hi
      have e1 := hcl t.data.toList htl i hi
      have e2 := hcl (bytesR b).data.toList hsl i hi
      rw [ht', hbc'] at e1
      rw [hbc] at e2
      rw [e1, e2]
      by_cases h : 4 ≤ i ∧ i < 8
      · rw [if_pos h, if_pos h, if_neg (by omega)]; rfl
      · rw [if_neg h, if_neg h, ← ht']; exact hT i hi
    -- the sums are the same
    have hsum : ∀ i, i < 4 → at_ (sumS b').data.toList i = at_ (sumS b).data.toList i := by
      intro i hi
      have e1 := hT (4 + i) (by omega)
      rw [if_neg (by omega), Nat.xor_zero, ht', bytesR_list, bytesR_list, at_splice_in _ _ _ _ (by omega) (by rw [sumS_len]; exact hi), at_splice_in _ _ _ _ (by omega) (by rw [sumS_len]; exact hi)] at e1
      exact e1
    have hcrc : Crc.crc 0 (Fns.B ⟨b'.toArray⟩) = Crc.crc 0 (Fns.B ⟨b.toArray⟩) := by
      rw [sum_bytes b', sum_bytes b, hsum 0 (by omega), hsum 1 (by omega), hsum 2 (by omega), hsum 3 (by omega)]
    have hBb : Fns.B ⟨b.toArray⟩ = b.map UInt8.toNat := rfl
    have hBb' : Fns.B ⟨b'.toArray⟩ = b'.map UInt8.toNat := rfl
    have hrun := crc_run hcrc
    rw [hBb, hBb'] at hrun
    obtain ⟨W, hW⟩ : ∃ W : Nat → Nat, ∀ i, W i = if m ≤ i ∧ i < m + 4 ∧ (i < 4 ∨ 8 ≤ i) then (a2 / 2 ^ (8 * (i - m)) % 256).toNat else 0 := ⟨_, fun i => rfl⟩
    have hWl : ∀ i, W i < 256 := by
      intro i; rw [hW]; split
      · exact (turn_nat a2 (i - m)).2
      · omega
    have hB2 : ∀ i, i < 256 → at_ b' i = at_ b i ^^^ W i := fun i hi => by rw [hW]; exact hB i hi
    have hat : ∀ (x : List UInt8) (i : Nat) (h : i < (x.map UInt8.toNat).length), (x.map UInt8.toNat)[i] = at_ x i := by
      intro x i h
      have h' : i < x.length := by simpa using h
      rw [List.getElem_map, at_get x i h', by_at _ (at_lt x i)]
    have hlist : b'.map UInt8.toNat = (b.map UInt8.toNat).take m ++ (List.zipWith (· ^^^ ·) (((b.map UInt8.toNat).drop m).take 4) [W m, W (m + 1), W (m + 2), W (m + 3)] ++ (b.map UInt8.toNat).drop (m + 4)) := by
      have hd : (((b.map UInt8.toNat).drop m).take 4) = [at_ b m, at_ b (m + 1), at_ b (m + 2), at_ b (m + 3)] := by
        apply List.ext_getElem
        · simp; omega
        · intro i h1 h2
          have hi : i < 4 := by simpa using h2
          rw [List.getElem_take, List.getElem_drop, hat]
          match i, hi with
          | 0, _ => rfl
          | 1, _ => rfl
          | 2, _ => rfl
          | 3, _ => rfl
      rw [hd]
      apply List.ext_getElem
      · simp; omega
      · intro i h1 h2
        have hi : i < 256 := by simpa [hbl'] using h1
        rw [hat, hB2 i hi]
        by_cases c1 : i < m
        · rw [List.getElem_append_left (by simp; omega), List.getElem_take, hat, hW, if_neg (by omega), Nat.xor_zero]
        · rw [List.getElem_append_right (by simp; omega)]
          by_cases c2 : i < m + 4
          · rw [List.getElem_append_left (by simp; omega)]
            obtain ⟨d, rfl⟩ : ∃ d, i = m + d := ⟨i - m, by omega⟩
            have hd4 : d < 4 := by omega
            have hidx : m + d - (List.take m (List.map UInt8.toNat b)).length = d := by simp; omega
            simp only [hidx]
            match d, hd4 with
            | 0, _ => rfl
            | 1, _ => rfl
            | 2, _ => rfl
            | 3, _ => rfl
          · rw [List.getElem_append_right (by simp; omega), List.getElem_drop, hat, hW, if_neg (by omega), Nat.xor_zero]
            congr 1
            simp; omega
    have hself : b.map UInt8.toNat = (b.map UInt8.toNat).take m ++ ((((b.map UInt8.toNat).drop m).take 4) ++ (b.map UInt8.toNat).drop (m + 4)) := by
      rw [← List.drop_drop, List.take_append_drop, List.take_append_drop]
    have hlt : ∀ x ∈ b.map UInt8.toNat, x < 256 := by
      intro x hx
      obtain ⟨y, _, rfl⟩ := List.mem_map.1 hx
      exact y.toNat_lt
    rw [hlist] at hrun
    conv at hrun => rhs; rw [hself]
    have hz := Crc.run_burst 4294967295 ((b.map UInt8.toNat).take m) ((b.map UInt8.toNat).drop (m + 4)) (((b.map UInt8.toNat).drop m).take 4) [W m, W (m + 1), W (m + 2), W (m + 3)] (by omega)
      (fun x hx => hlt x (List.mem_of_mem_take hx)) (fun x hx => hlt x (List.mem_of_mem_drop hx)) (fun x hx => hlt x (List.mem_of_mem_drop (List.mem_of_mem_take hx)))
      (fun x hx => by
        simp only [List.mem_cons, List.not_mem_nil, or_false] at hx
        rcases hx with h | h | h | h <;> rw [h] <;> exact hWl _) (by simp; omega) rfl hrun
    simp only [List.cons.injEq, and_true] at hz
    refine hts (ba_ext (at_ext (by rw [htl, hsl]) fun i hi => ?_))
    have hi256 : i < 256 := by rw [htl] at hi; exact hi
    rw [hT i hi256, ← hW]
    have hWz : W i = 0 := by
      by_cases h1 : m ≤ i ∧ i < m + 4
      · obtain ⟨d, rfl⟩ : ∃ d, i = m + d := ⟨i - m, by omega⟩
        have hd4 : d < 4 := by omega
        match d, hd4 with
        | 0, _ => exact hz.1
        | 1, _ => exact hz.2.1
        | 2, _ => exact hz.2.2.1
        | 3, _ => exact hz.2.2.2
      · rw [hW, if_neg (by omega)]
    rw [hWz, Nat.xor_zero]
theorem Tells_all (w : World) (A : Option Addr) (c : Nat) (l : List S66) (a1 a2 : Int) (hr : Kd.C k66 w A l.length l) (hc : l.length ≤ c) : Calls Try.prog 3 #[.slice A l.length c, .int .i64 a1, .int .i64 a2] w fun e w' => e = .returned (.bool true) ∧ Below w.heap.size w w' :=
  Tells_ok w A c l a1 a2 hr hc (fun L m h1 h2 => tells_pure a2 L m h1 h2)
end Go.Proofs.Ytinbppcfdmbclaa.Pg
