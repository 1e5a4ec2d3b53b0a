/- What the printed functions of the sums come to: the plain sum of text Crc. Conditions: strings of at most 2^40 bytes; numbers of 64 bits. -/
import Derived.Test.YtinbppcfdmbclaaPgx2
import Derived.Test.YtinbppcfdmbclaaCrc
import Derived.Laws.BitsAllLaws
namespace Go.Proofs.Ytinbppcfdmbclaa.Fns
open Go.RowKit Go.Proofs.Ytinbppcfdmbclaa.Pg Go.Proofs.YtinbppcfdmbclaaW.PrintWords Go.Proofs.YtinbppcfdmbclaaW.PrintLast
open Go.Proofs.Ytinbppcfdmbclaa.Aid Go.Proofs.Ytinbppcfdmbclaa.Crc
set_option linter.unusedVariables false
set_option linter.unusedSimpArgs false

/-- a text's bytes -/
def B (s : ByteArray) : List Nat := s.data.toList.map UInt8.toNat
theorem B_length (s : ByteArray) : (B s).length = s.size := by simp [B]
theorem B_lt (s : ByteArray) : ∀ b ∈ B s, b < 256 := by
  intro b hb
  obtain ⟨x, _, rfl⟩ := List.mem_map.1 hb
  exact x.toNat_lt
theorem bt_nat (s : ByteArray) (i : Nat) (h : i < s.size) : bt s (i : Int) = (((B s)[i]'(by rw [B_length]; exact h) : Nat) : Int) := by
  unfold bt
  rw [dif_pos (by simpa using h)]
  simp [B]
  rfl
theorem B_drop (s : ByteArray) (i : Nat) (h : i < s.size) : (B s).drop i = (B s)[i]'(by rw [B_length]; exact h) :: (B s).drop (i + 1) := by
  rw [List.drop_eq_getElem_cons]
theorem wrap_nat (n : Nat) (h : n < 9223372036854775808) : wrap64 (n : Int) = (n : Int) := by unfold wrap64; omega
theorem xor64_nat (a b : Nat) (ha : a < 9223372036854775808) (hb : b < 9223372036854775808) : Go.bits .xor .i64 (a : Int) (b : Int) = ((a ^^^ b : Nat) : Int) := by
  rw [xor64, show ((a : Int) % 18446744073709551616).toNat = a by omega, show ((b : Int) % 18446744073709551616).toNat = b by omega]
  exact wrap_nat _ (Nat.xor_lt_two_pow (n := 63) ha hb)

/-- the program's inner rounds -/
theorem more_l1 (s : ByteArray) (n i : Int) (d : Nat) : ∀ (k c : Nat), d ≤ 8 → c < 4294967296 →
    crc_More.l1 (k + d + 1) s (c : Int) n i (8 - (d : Int)) = crc_More.l0 k s ((it d c : Nat) : Int) n (wrap64 (i + 1)) := by
  induction d with
  | zero => intro k c _ hc; simp only [crc_More.l1]; rw [if_neg (by omega)]; rfl
  | succ d ih =>
    intro k c hd hc
    have e1 : Go.bits .and .u32 (c : Int) 1 = ((c % 2 : Nat) : Int) := by
      rw [show (1 : Int) = ((1 : Nat) : Int) from rfl, u32_and_nat c 1 hc (by omega), nat_mask1]
    have e2 : Go.bits .and .u32 3988292384 ((-(Go.bits .and .u32 (c : Int) 1)) % 4294967296) = ((if c % 2 = 1 then 3988292384 else 0 : Nat) : Int) := by
      rw [e1]
      by_cases h : c % 2 = 1
      · rw [h, if_pos rfl]; rfl
      · rw [show c % 2 = 0 by omega, if_neg (by omega)]; rfl
    have e3 : Go.bits .xor .u32 ((c : Int) / 2) (((if c % 2 = 1 then 3988292384 else 0 : Nat)) : Int) = ((step1 c : Nat) : Int) := by
      rw [show (c : Int) / 2 = ((c / 2 : Nat) : Int) by omega, u32_xor_nat _ _ (by omega) (by split <;> omega)]; rfl
    have hw : wrap64 ((8 - ((d + 1 : Nat) : Int)) + 1) = 8 - (d : Int) := by unfold wrap64; omega
    show crc_More.l1 ((k + d + 1) + 1) s (c : Int) n i (8 - ((d + 1 : Nat) : Int)) = _
    simp only [crc_More.l1]
    rw [if_pos (by omega), e2, e3, hw]
    exact ih k (step1 c) (by omega) (step1_lt hc)
/-- the program's outer rounds -/
theorem more_l0 (s : ByteArray) (hs : s.size ≤ 1099511627776) (d : Nat) : ∀ (k c i : Nat), i + d = s.size → c < 4294967296 →
    crc_More.l0 (k + 10 * d + 1) s (c : Int) (s.size : Int) (i : Int) = some ((run c ((B s).drop i) ^^^ 4294967295 : Nat) : Int) := by
  induction d with
  | zero =>
    intro k c i hi hc
    simp only [crc_More.l0]
    rw [if_neg (by omega), List.drop_of_length_le (by rw [B_length]; omega), show (4294967295 : Int) = ((4294967295 : Nat) : Int) from rfl, u32_xor_nat _ _ (by omega) hc]
    refine congrArg some ?_
    rw [wrap_nat _ (Nat.lt_trans (xor_lt (by omega) hc) (by omega)), Nat.xor_comm]; rfl
  | succ d ih =>
    intro k c i hi hc
    have hlt : i < s.size := by omega
    have hb := B_lt s _ (List.getElem_mem (l := B s) (n := i) (by rw [B_length]; exact hlt))
    show crc_More.l0 ((k + 10 * d + 1) + 8 + 1 + 1) s (c : Int) (s.size : Int) (i : Int) = _
    simp only [crc_More.l0]
    rw [if_pos (by omega), if_pos (by omega), if_pos (by omega), bt_nat s i hlt, B_drop s i hlt]
    generalize (B s)[i]'(by rw [B_length]; exact hlt) = b at *
    rw [show ((b : Nat) : Int) % 4294967296 = ((b : Nat) : Int) by omega, u32_xor_nat c b hc (by omega)]
    have h1 := more_l1 s (s.size : Int) (i : Int) 8 (k + 10 * d + 1) (c ^^^ b) (by omega) (xor_lt hc (by omega))
    rw [show (8 : Int) - ((8 : Nat) : Int) = 0 by omega] at h1
    rw [h1, show wrap64 ((i : Int) + 1) = ((i + 1 : Nat) : Int) by unfold wrap64; omega]
    exact ih k (upd c b) (i + 1) (by omega) (upd_lt hc hb)
theorem more_eq (s : ByteArray) (sum : Int) (k : Nat) (hs : s.size ≤ 1099511627776) (hk : 10 * s.size < k) :
    crc_More.f k sum s = some ((crc (sum % 4294967296).toNat (B s) : Nat) : Int) := by
  obtain ⟨k, rfl⟩ : ∃ m, k = m + 10 * s.size + 1 := ⟨k - (10 * s.size + 1), by omega⟩
  unfold crc_More.f
  obtain ⟨c, hc⟩ := Int.eq_ofNat_of_zero_le (Int.emod_nonneg sum (show (4294967296 : Int) ≠ 0 by omega))
  have hlt : c < 4294967296 := by omega
  rw [hc, show (4294967295 : Int) = ((4294967295 : Nat) : Int) from rfl, u32_xor_nat _ _ (by omega) hlt]
  have := more_l0 s hs s.size k (4294967295 ^^^ c) 0 (by omega) (xor_lt (by omega) hlt)
  rw [show ((0 : Nat) : Int) = 0 from rfl] at this
  rw [this, List.drop_zero, Nat.xor_comm 4294967295 c, Int.toNat_natCast]
  rfl
theorem sum_eq (s : ByteArray) (k : Nat) (hs : s.size ≤ 1099511627776) (hk : 10 * s.size < k) :
    crc_Sum.f k s = some ((crc 0 (B s) : Nat) : Int) := by
  unfold crc_Sum.f
  rw [more_eq s 0 k hs hk]
  rfl

/-- the reference's inner rounds -/
theorem rmore_l1 (s : ByteArray) (i : Int) (d : Nat) : ∀ (k c : Nat), d ≤ 8 → c < 4294967296 →
    quaysideref02_More.l1 (k + d + 1) s (c : Int) i (8 - (d : Int)) = quaysideref02_More.l0 k s ((it d c : Nat) : Int) (wrap64 (i + 1)) := by
  induction d with
  | zero => intro k c _ hc; simp only [quaysideref02_More.l1]; rw [if_neg (by omega)]; rfl
  | succ d ih =>
    intro k c hd hc
    have hw : wrap64 ((8 - ((d + 1 : Nat) : Int)) + 1) = 8 - (d : Int) := by unfold wrap64; omega
    have e1 : Go.bits .and .i64 (c : Int) 1 = (c : Int) % 2 := and_mask c 1 (by decide)
    show quaysideref02_More.l1 ((k + d + 1) + 1) s (c : Int) i (8 - ((d + 1 : Nat) : Int)) = _
    simp only [quaysideref02_More.l1]
    rw [if_pos (by omega), hw, e1, show (c : Int) / 2 = ((c / 2 : Nat) : Int) by omega]
    have hn := ih k (step1 c) (by omega) (step1_lt hc)
    by_cases h : (c : Int) % 2 = 1
    · rw [if_pos h, show (3988292384 : Int) = ((3988292384 : Nat) : Int) from rfl, xor64_nat _ _ (by omega) (by omega)]
      have es : step1 c = (c / 2) ^^^ 3988292384 := by unfold step1; rw [if_pos (by omega)]
      rw [← es]; exact hn
    · rw [if_neg h]
      have es : step1 c = c / 2 := by unfold step1; rw [if_neg (by omega), Nat.xor_zero]
      rw [← es]; exact hn
theorem rmore_l0 (s : ByteArray) (hs : s.size ≤ 1099511627776) (d : Nat) : ∀ (k c i : Nat), i + d = s.size → c < 4294967296 →
    quaysideref02_More.l0 (k + 10 * d + 1) s (c : Int) (i : Int) = some ((run c ((B s).drop i) ^^^ 4294967295 : Nat) : Int) := by
  induction d with
  | zero =>
    intro k c i hi hc
    simp only [quaysideref02_More.l0]
    rw [if_neg (by omega), List.drop_of_length_le (by rw [B_length]; omega), show (4294967295 : Int) = ((4294967295 : Nat) : Int) from rfl, xor64_nat _ _ (by omega) (by omega)]
    rfl
  | succ d ih =>
    intro k c i hi hc
    have hlt : i < s.size := by omega
    have hb := B_lt s _ (List.getElem_mem (l := B s) (n := i) (by rw [B_length]; exact hlt))
    show quaysideref02_More.l0 ((k + 10 * d + 1) + 8 + 1 + 1) s (c : Int) (i : Int) = _
    simp only [quaysideref02_More.l0]
    rw [if_pos (by omega), if_pos (by omega), bt_nat s i hlt, B_drop s i hlt]
    generalize (B s)[i]'(by rw [B_length]; exact hlt) = b at *
    rw [wrap_nat b (by omega), xor64_nat c b (by omega) (by omega)]
    have h1 := rmore_l1 s (i : Int) 8 (k + 10 * d + 1) (c ^^^ b) (by omega) (xor_lt hc (by omega))
    rw [show (8 : Int) - ((8 : Nat) : Int) = 0 by omega] at h1
    rw [h1, show wrap64 ((i : Int) + 1) = ((i + 1 : Nat) : Int) by unfold wrap64; omega]
    exact ih k (upd c b) (i + 1) (by omega) (upd_lt hc hb)
theorem rmore_eq (s : ByteArray) (sum : Int) (k : Nat) (hs : s.size ≤ 1099511627776) (hk : 10 * s.size < k) :
    quaysideref02_More.f k sum s = some ((crc (sum % 4294967296).toNat (B s) : Nat) : Int) := by
  obtain ⟨k, rfl⟩ : ∃ m, k = m + 10 * s.size + 1 := ⟨k - (10 * s.size + 1), by omega⟩
  unfold quaysideref02_More.f
  obtain ⟨c, hc⟩ := Int.eq_ofNat_of_zero_le (Int.emod_nonneg sum (show (4294967296 : Int) ≠ 0 by omega))
  have hlt : c < 4294967296 := by omega
  have e1 : Go.bits .and .i64 sum 4294967295 = sum % 4294967296 := and_mask sum 32 (by decide)
  rw [e1, hc, show (4294967295 : Int) = ((4294967295 : Nat) : Int) from rfl, xor64_nat _ _ (by omega) (by omega)]
  have := rmore_l0 s hs s.size k (c ^^^ 4294967295) 0 (by omega) (xor_lt hlt (by omega))
  rw [show ((0 : Nat) : Int) = 0 from rfl] at this
  rw [this, List.drop_zero, Int.toNat_natCast]
  rfl
theorem rsum_eq (s : ByteArray) (k : Nat) (hs : s.size ≤ 1099511627776) (hk : 10 * s.size < k) :
    quaysideref02_Sum.f k s = some ((crc 0 (B s) : Nat) : Int) := by
  unfold quaysideref02_Sum.f
  rw [rmore_eq s 0 k hs hk]
  rfl
end Go.Proofs.Ytinbppcfdmbclaa.Fns
