/- A page's bytes, read by the reference, give the page. No condition beyond those that each theorem names. -/
import Derived.Test.YtinbppcfdmbclaaPureRRead
import Derived.Test.YtinbppcfdmbclaaPgx4
namespace Go.Proofs.Ytinbppcfdmbclaa.Pg
open Go.RowKit Go.Proofs.YtinbppcfdmbclaaW.PrintWords Go.Proofs.YtinbppcfdmbclaaW.PrintLast Go.Proofs.YtinbppcfdmbclaaW.PrintMore
set_option linter.unusedVariables false
set_option linter.unusedSimpArgs false
theorem ry_high (b cs : List UInt8) (o i : Nat) (h : o + cs.length ≤ i) (ho : o + cs.length ≤ b.length) : at_ (splice b o cs) i = at_ b i := by
  unfold splice
  have hl : (b.take o).length = o := by rw [List.length_take]; omega
  rw [show i = (b.take o).length + (cs.length + (i - o - cs.length)) from by rw [hl]; omega, at_append_r, at_append_r]
  simp [at_, List.getD_eq_getElem?_getD, List.getElem?_drop]
  rw [Nat.min_eq_left (by omega), Nat.add_assoc]
theorem ry_drop (b cs : List UInt8) (o i : Nat) (h : o + cs.length ≤ i) (ho : o + cs.length ≤ b.length) : (splice b o cs).drop i = b.drop i := by
  unfold splice
  rw [List.drop_append, List.drop_of_length_le (by rw [List.length_take]; omega), List.nil_append, List.drop_append, List.drop_of_length_le (by rw [List.length_take]; omega), List.nil_append, List.drop_drop, List.length_take]
  congr 1
  omega
theorem ry_at (kind : UInt8) (L : List S66) (hf : Fits L) (i : Nat) (h : 8 ≤ i) : at_ (bytesR (encB kind L)).data.toList i = at_ (encB kind L) i := by
  rw [bytesR_list]
  exact ry_high _ _ _ _ (by rw [sumS_len]; omega) (by rw [sumS_len, encB_length kind L hf]; omega)
theorem ry_at0 (kind : UInt8) (L : List S66) (hf : Fits L) (i : Nat) (h : i < 4) : at_ (bytesR (encB kind L)).data.toList i = at_ (encB kind L) i := by
  rw [bytesR_list]
  exact at_splice_low _ _ _ _ h (by rw [encB_length kind L hf]; omega)
theorem ry_cut (kind : UInt8) (L : List S66) (hf : Fits L) (l h : Nat) (h8 : 8 ≤ l) : (bytesR (encB kind L)).extract l h = cut (encB kind L) l h := by
  apply ba_ext
  rw [cut_list, ByteArray.data_extract, Array.toList_extract, List.extract_eq_take_drop]
  rw [bytesR_list, ry_drop _ _ _ _ (by rw [sumS_len]; omega) (by rw [sumS_len, encB_length kind L hf]; omega)]
theorem rread_yes_l0 (kind : UInt8) (L : List S66) (hc : Cells L) (s : ByteArray) (hs : s = bytesR (encB kind L)) : ∀ (d i k : Nat), i + d = L.length → 5000 + 2 * d < k →
    quaysideref12_Read.l0 k s (L.length : Int) ((256 - total (L.take i) : Nat) : Int) (i : Int) (kind.toNat : Int) (L.take i) = some ((kind.toNat : Int), L, 0)
  | 0, i, k, hd, hk => by
    obtain ⟨k, rfl⟩ : ∃ m, k = m + 1 := ⟨k - 1, by omega⟩
    obtain rfl : i = L.length := by omega
    simp only [quaysideref12_Read.l0]
    rw [if_neg (by omega), List.take_length, rbytes_f kind L hc.fits k (by omega), Option.bind_some, if_pos (by rw [hs])]
  | d + 1, i, k, hd, hk => by
    obtain ⟨k, rfl⟩ : ∃ m, k = m + 2 := ⟨k - 2, by omega⟩
    have hi : i < L.length := by omega
    have hf := hc.fits
    have hf' := hf
    unfold Fits at hf'
    have hsz : s.size = 256 := by rw [hs]; exact bytesR_size _ (encB_length kind L hf)
    have ht := total_take_succ L i hi
    have hle := total_take_le L (i + 1)
    have hcz : cz L[i] = L[i].f0.size + L[i].f1.size := rfl
    have hea := hc.each L[i] (List.getElem_mem hi)
    have hfr := enc_from kind L hc i hi
    have hcl := enc_cell kind L hc i hi
    have hlen : (L.take i).length = i := by rw [List.length_take]; omega
    have htk : L.take (i + 1) = L.take i ++ [L[i]] := by rw [List.take_add_one, List.getElem?_eq_getElem hi]; rfl
    have hb0 : at_ s.data.toList (8 + 2 * i) = 256 - total (L.take (i + 1)) := by rw [hs, ry_at kind L hf _ (by omega)]; exact hfr.1
    have hb1 : at_ s.data.toList (9 + 2 * i) = L[i].f0.size := by rw [hs, ry_at kind L hf _ (by omega)]; exact hfr.2
    have hx0 : s.extract (256 - total (L.take (i + 1))) (256 - total (L.take (i + 1)) + L[i].f0.size) = L[i].f0 := by rw [hs, ry_cut kind L hf _ _ (by omega)]; exact hcl.1
    have hx1 : s.extract (256 - total (L.take (i + 1)) + L[i].f0.size) (256 - total (L.take i)) = L[i].f1 := by rw [hs, ry_cut kind L hf _ _ (by omega)]; exact hcl.2
    have ih := rread_yes_l0 kind L hc s hs d (i + 1) k (by omega) (by omega)
    rw [htk] at ih hb0 hx0 hx1 ht
    clear hfr hcl
    simp only [quaysideref12_Read.l0]
    rw [if_pos (by omega), w8 _ (by omega), w2 _ (by omega), w9 _ (by omega), w8 _ (by omega)]
    rw [htk] at hle
    obtain ⟨T, hT⟩ : ∃ T, total (L.take i ++ [L[i]]) = T := ⟨_, rfl⟩
    obtain ⟨U, hU⟩ : ∃ U, total (L.take i) = U := ⟨_, rfl⟩
    obtain ⟨ks, hks⟩ : ∃ ks, L[i].f0.size = ks := ⟨_, rfl⟩
    obtain ⟨vs, hvs⟩ : ∃ vs, L[i].f1.size = vs := ⟨_, rfl⟩
    rw [hT] at ih hb0 hx0 hx1 ht hle
    rw [hU] at hx1 ht ⊢
    rw [hks] at hb1 hx0 hx1 hcz hea
    rw [hvs] at hcz hea
    rw [if_neg (by omega), if_pos (by omega), if_pos (by omega), if_pos (by omega), if_pos (by omega), btat s _ (by omega), btat s _ (by omega), hb0, hb1]
    rw [wrapn (256 - T) (by omega), wrapn ks (by omega), if_neg (by omega), if_neg (by omega)]
    have hw5 : wrap64 (((256 - U : Nat) : Int) - ((256 - T : Nat) : Int)) = ((ks + vs : Nat) : Int) := by unfold wrap64; omega
    rw [hw5, decide_eq_false (by omega)]
    clear hw5
    simp only [quaysideref12_Read.j2]
    have hw6 : wrap64 (((256 - T : Nat) : Int) + (ks : Int)) = ((256 - T + ks : Nat) : Int) := by unfold wrap64; omega
    rw [if_neg (by decide), hw6]
    clear hw6
    rw [if_pos (by omega), if_pos (by omega), if_pos (by omega), if_pos (by omega), if_pos (by omega), if_pos (by omega)]
    simp only [Int.toNat_natCast]
    rw [hx0, hx1, rmay_f _ _ (by omega), Option.bind_some, decide_eq_true (by omega), if_pos rfl]
    have hnext : quaysideref12_Read.l0 k s (L.length : Int) ((256 - T : Nat) : Int) (wrap64 ((i : Int) + 1)) (kind.toNat : Int) (L.take i ++ [(⟨L[i].f0, L[i].f1⟩ : S66)]) = some ((kind.toNat : Int), L, 0) := by
      rw [show (i : Int) + 1 = ((i + 1 : Nat) : Int) from by omega, wrapn _ (by omega)]
      exact ih
    by_cases h6 : (i : Int) > 0
    · have hw7 : wrap64 ((i : Int) - 1) = ((i - 1 : Nat) : Int) := by unfold wrap64; omega
      rw [if_pos h6, hw7, if_pos (by omega), if_pos (by omega), rd66 (L.take i) _ (by omega), if_pos, if_pos (by omega)]
      · exact hnext
      · rw [List.getElem_take]
        exact asc_lt hc.asc (i - 1) i (by omega) hi (by omega)
    · rw [if_neg h6, if_pos (by omega)]
      exact hnext
theorem rread_yes (kind : UInt8) (L : List S66) (hk0 : kind ≠ 0) (hc : Cells L) (k : Nat) (hk : 6000 < k) : quaysideref12_Read.f k (bytesR (encB kind L)) = some ((kind.toNat : Int), L, 0) := by
  obtain ⟨k, rfl⟩ : ∃ m, k = m + 1 := ⟨k - 1, by omega⟩
  have hf := hc.fits
  have hf' := hf
  unfold Fits at hf'
  obtain ⟨s, hs⟩ : ∃ s, bytesR (encB kind L) = s := ⟨_, rfl⟩
  have hsz : s.size = 256 := by rw [← hs]; exact bytesR_size _ (encB_length kind L hf)
  have e0 := btat s 0 (by omega)
  have e1 := btat s 1 (by omega)
  rw [← hs, ry_at0 kind L hf 0 (by omega), enc_kind, hs] at e0
  rw [← hs, ry_at0 kind L hf 1 (by omega), enc_len kind L hf, hs] at e1
  have hkn : kind.toNat ≠ 0 := fun e => hk0 (UInt8.toNat_inj.1 (by simpa using e))
  have hkt := kind.toNat_lt
  rw [hs]
  unfold quaysideref12_Read.f
  rw [if_pos (by omega), if_pos (by omega)]
  simp only [quaysideref12_Read.j0]
  rw [show bt s 0 = _ from e0, show bt s 1 = _ from e1]
  rw [if_neg (by simp; omega), if_pos (by omega), if_pos (by omega), wrapn _ (by omega), wrapn _ (by omega)]
  exact rread_yes_l0 kind L hc s hs.symm L.length 0 k (by omega) (by omega)
/-- what the reference reads: the page of which these are the bytes, or none -/
theorem rread_no (s : ByteArray) (hno : ¬ readP s) (k : Nat) (hk : 6000 < k) : quaysideref12_Read.f k s = some (0, [], 120) := by
  obtain ⟨r, hr, h⟩ := rread_any s k hk
  rcases h with rfl | ⟨kind, L, h1, h2, h3, h4⟩
  · exact hr
  · exact absurd ⟨kind, L, h1, h2, h3⟩ hno
theorem rfree_f (kind : Int) (L : List S66) (hL : Fits L) (k : Nat) (hk : 300 < k) : quaysideref12_Free.f k kind L = some (max 0 (248 - 2 * (L.length : Int) - (total L : Int) - 2)) := by
  unfold Fits at hL
  unfold quaysideref12_Free.f
  rw [rsize_f L k (by omega) (by omega) (by omega), Option.bind_some]
  have hw : wrap64 ((wrap64 (256 - ((8 + 2 * L.length + total L : Nat) : Int))) - 2) = 248 - 2 * (L.length : Int) - (total L : Int) - 2 := by unfold wrap64; omega
  rw [hw]
  congr 1
  unfold mx
  split <;> omega
end Go.Proofs.Ytinbppcfdmbclaa.Pg
