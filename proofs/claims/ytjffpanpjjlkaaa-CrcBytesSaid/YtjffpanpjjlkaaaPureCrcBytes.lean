/- The law CrcBytes holds of every number and text: a sum's bytes and the sum of bytes, there and back. Conditions: a number of 64 bits; the text's size within the form's reach. -/
import Derived.Test.YtjffpanpjjlkaaaOzx2
import Derived.Test.YtjffpanpjjlkaaaCrcFnz
namespace Go.Proofs.Ytjffpanpjjlkaaa.Pure
open Go.RowKit Go.Proofs.Ytjffpanpjjlkaaa.Oz Go.Proofs.YtjffpanpjjlkaaaW.PrintWords Go.Proofs.YtjffpanpjjlkaaaW.PrintLast Go.Proofs.YtjffpanpjjlkaaaW.PrintMore
open Go.Proofs.Ytjffpanpjjlkaaa.Aid Go.Proofs.Ytjffpanpjjlkaaa.Fnz Go.Proofs.Ytjffpanpjjlkaaa.Crc
set_option linter.unusedVariables false
set_option linter.unusedSimpArgs false
/-- four bytes' number -/
def T (a b c d : Int) : Int := a + 256 * b + 65536 * c + 16777216 * d
theorem or_nat (i a c : Nat) (ha : a < 2 ^ i) (h : 2 ^ i * c + a < 4294967296) (x y : Int) (hx : x = (a : Int)) (hy : y = ((2 ^ i * c : Nat) : Int)) : Go.bits .or .i64 x y = ((2 ^ i * c + a : Nat) : Int) := by
  subst hx; subst hy
  rw [or64, show ((a : Int) % 18446744073709551616).toNat = a by omega, show (((2 ^ i * c : Nat) : Int) % 18446744073709551616).toNat = 2 ^ i * c by omega, Nat.or_comm, ← Nat.two_pow_add_eq_or_of_lt ha]
  exact wrap_nat _ (by omega)
theorem byte_nat (s : ByteArray) (i : Int) : ∃ n : Nat, bt s i = (n : Int) ∧ n < 256 := by
  have h := bt_range s i
  obtain ⟨n, hn⟩ := Int.eq_ofNat_of_zero_le h.1
  exact ⟨n, hn, by omega⟩
theorem or_all (x y z v : Int) (a b c d : Nat) (ha : a < 256) (hb : b < 256) (hc : c < 256) (hd : d < 256) (hx : x = a) (hy : y = ((256 * b : Nat) : Int)) (hz : z = ((65536 * c : Nat) : Int)) (hv : v = ((16777216 * d : Nat) : Int)) :
    Go.bits .or .i64 (Go.bits .or .i64 (Go.bits .or .i64 x y) z) v = T a b c d := by
  rw [or_nat 8 a b ha (by omega) x y hx hy, or_nat 16 _ c (show 2 ^ 8 * b + a < 2 ^ 16 by omega) (by omega) _ z rfl hz, or_nat 24 _ d (show 2 ^ 16 * c + (2 ^ 8 * b + a) < 2 ^ 24 by omega) (by omega) _ v rfl hv]
  unfold T; omega
theorem or_zero (a : Nat) (ha : a < 256) : Go.bits .or .i64 0 (a : Int) = (a : Int) := by
  have h := or_nat 8 a 0 ha (by omega) (a : Int) 0 rfl rfl
  rw [or64] at h ⊢
  rw [Nat.or_comm]
  rw [h]
  omega
theorem take_eq (s : ByteArray) (k : Nat) (h : 4 ≤ s.size) : crc_Take.f (k + 1 + 1 + 1 + 1 + 1) s = some (T (bt s 0) (bt s 1) (bt s 2) (bt s 3)) := by
  unfold crc_Take.f
  rw [if_neg (by omega)]
  simp only [crc_Take.l0]
  have w1 : wrap64 ((0 : Int) + 1) = 1 := by unfold wrap64; omega
  have w2 : wrap64 ((1 : Int) + 1) = 2 := by unfold wrap64; omega
  have w3 : wrap64 ((2 : Int) + 1) = 3 := by unfold wrap64; omega
  have w4 : wrap64 ((3 : Int) + 1) = 4 := by unfold wrap64; omega
  have m0 : wrap64 (8 * 0) = 0 := by unfold wrap64; omega
  have m1 : wrap64 (8 * 1) = 8 := by unfold wrap64; omega
  have m2 : wrap64 (8 * 2) = 16 := by unfold wrap64; omega
  have m3 : wrap64 (8 * 3) = 24 := by unfold wrap64; omega
  rw [if_pos (by omega), if_pos (by omega), if_pos (by omega), w1, m0, if_pos (by omega), if_pos (by omega), if_pos (by omega), if_pos (by omega), w2, m1, if_pos (by omega), if_pos (by omega), if_pos (by omega), if_pos (by omega), w3, m2, if_pos (by omega), if_pos (by omega), if_pos (by omega), if_pos (by omega), w4, m3, if_pos (by omega), if_neg (by omega)]
  obtain ⟨a, ea, ha⟩ := byte_nat s 0
  obtain ⟨b, eb, hb⟩ := byte_nat s 1
  obtain ⟨c, ec, hc⟩ := byte_nat s 2
  obtain ⟨d, ed, hd⟩ := byte_nat s 3
  rw [ea, eb, ec, ed]
  refine congrArg some ?_
  have sh : ∀ (n j : Nat), n < 256 → j ≤ 24 → shl .i64 (wrap64 (n : Int)) ((j : Nat) : Int) = ((2 ^ j * n : Nat) : Int) := by
    intro n j hn hj
    unfold shl
    rw [Int.toNat_natCast, Nat.min_eq_left (show j ≤ IntKind.i64.bits from Nat.le_trans hj (by decide)), wrap_nat n (by omega), wrap_i64]
    have : 2 ^ j * n < 9223372036854775808 := by
      have h1 : 2 ^ j ≤ 2 ^ 24 := Nat.pow_le_pow_right (by decide) hj
      have h2 : 2 ^ j * n ≤ 2 ^ 24 * n := Nat.mul_le_mul_right _ h1
      omega
    have e : (n : Int) * (2 : Int) ^ j = ((2 ^ j * n : Nat) : Int) := by rw [Int.natCast_mul, Int.natCast_pow, Int.mul_comm]; rfl
    rw [e]; exact wrap_nat _ this
  have z1 : shl .i64 (wrap64 (a : Int)) 0 = ((a : Nat) : Int) := by
    have h := sh a 0 ha (by omega)
    rw [Nat.pow_zero, Nat.one_mul] at h
    exact h
  have z0 : Go.bits .or .i64 0 (shl .i64 (wrap64 (a : Int)) 0) = (a : Int) := by
    rw [z1]; exact or_zero a ha
  rw [z0]
  have s1 : shl .i64 (wrap64 (b : Int)) 8 = ((256 * b : Nat) : Int) := by
    have h := sh b 8 hb (by omega)
    rw [show (2 : Nat) ^ 8 = 256 from rfl] at h; exact h
  have s2 : shl .i64 (wrap64 (c : Int)) 16 = ((65536 * c : Nat) : Int) := by
    have h := sh c 16 hc (by omega)
    rw [show (2 : Nat) ^ 16 = 65536 from rfl] at h; exact h
  have s3 : shl .i64 (wrap64 (d : Int)) 24 = ((16777216 * d : Nat) : Int) := by
    have h := sh d 24 hd (by omega)
    rw [show (2 : Nat) ^ 24 = 16777216 from rfl] at h; exact h
  exact or_all _ _ _ _ a b c d ha hb hc hd rfl s1 s2 s3
theorem take_no (s : ByteArray) (k : Nat) (h : s.size < 4) : crc_Take.f k s = some (-1) := by
  unfold crc_Take.f
  rw [if_pos (by omega)]
theorem rtake_eq (s : ByteArray) (h : 4 ≤ s.size) : quaysideref02_Take.f s = some (T (bt s 0) (bt s 1) (bt s 2) (bt s 3)) := by
  unfold quaysideref02_Take.f
  rw [if_neg (by omega), if_pos (by omega), if_pos (by omega), if_pos (by omega), if_pos (by omega)]
  obtain ⟨a, ea, ha⟩ := byte_nat s 0
  obtain ⟨b, eb, hb⟩ := byte_nat s 1
  obtain ⟨c, ec, hc⟩ := byte_nat s 2
  obtain ⟨d, ed, hd⟩ := byte_nat s 3
  rw [ea, eb, ec, ed]
  refine congrArg some ?_
  have s1 : wrap64 (wrap64 (b : Int) * 256) = ((256 * b : Nat) : Int) := by
    rw [wrap_nat b (by omega)]; unfold wrap64; omega
  have s2 : wrap64 (wrap64 (c : Int) * 65536) = ((65536 * c : Nat) : Int) := by
    rw [wrap_nat c (by omega)]; unfold wrap64; omega
  have s3 : wrap64 (wrap64 (d : Int) * 16777216) = ((16777216 * d : Nat) : Int) := by
    rw [wrap_nat d (by omega)]; unfold wrap64; omega
  exact or_all _ _ _ _ a b c d ha hb hc hd (wrap_nat a (by omega)) s1 s2 s3
theorem rtake_no (s : ByteArray) (h : s.size < 4) : quaysideref02_Take.f s = some (-1) := by
  unfold quaysideref02_Take.f
  rw [if_pos (by omega)]
theorem put_eq (n : Int) : crc_Put.f n = some (strOfNums [n % 256, n / 256 % 256, n / 65536 % 256, n / 16777216 % 256]) := rfl
theorem rput_eq (n : Int) : quaysideref02_Put.f n = crc_Put.f n := by
  have e : ∀ x : Int, (Go.bits .and .i64 x 255) % 256 = x % 256 := by
    intro x
    have := and_mask x 8 (by decide)
    rw [show ((2 : Int) ^ 8 - 1) = 255 from rfl, show ((2 : Int) ^ 8) = 256 from rfl] at this
    rw [this]; omega
  unfold quaysideref02_Put.f crc_Put.f
  rw [e, e, e, e]
theorem bt_four (a b c d : Int) (ha : 0 ≤ a ∧ a < 256) (hb : 0 ≤ b ∧ b < 256) (hc : 0 ≤ c ∧ c < 256) (hd : 0 ≤ d ∧ d < 256) :
    bt (strOfNums [a, b, c, d]) 0 = a ∧ bt (strOfNums [a, b, c, d]) 1 = b ∧ bt (strOfNums [a, b, c, d]) 2 = c ∧ bt (strOfNums [a, b, c, d]) 3 = d := by
  have e : ∀ x : Int, 0 ≤ x ∧ x < 256 → (((UInt8.ofNat x.toNat).toNat : Nat) : Int) = x := by
    intro x hx
    rw [UInt8.toNat_ofNat_of_lt' (show x.toNat < 256 by omega)]; omega
  refine ⟨?_, ?_, ?_, ?_⟩
  · exact e a ha
  · exact e b hb
  · exact e c hc
  · exact e d hd
theorem bt_left (t s : ByteArray) (i : Nat) (h : i < t.size) : bt (t ++ s) (i : Int) = bt t (i : Int) := by
  have hz : (t ++ s).size = t.size + s.size := ByteArray.size_append
  rw [bt_nat _ i (by omega), bt_nat _ i h]
  congr 1
  have e : B (t ++ s) = B t ++ B s := by
    unfold B
    rw [ByteArray.data_append, Array.toList_append, List.map_append]
  simp only [e]
  exact List.getElem_append_left (by rw [B_length]; exact h)
theorem first_four (s : ByteArray) (h : 4 ≤ s.size) : strOfNums [bt s 0, bt s 1, bt s 2, bt s 3] = s.extract 0 4 := by
  have hl : 4 ≤ s.data.toList.length := by simpa using h
  have hs : s = ⟨s.data.toList.toArray⟩ := by cases s; rfl
  generalize s.data.toList = l at *
  subst hs
  match l, hl with
  | a :: b :: c :: d :: l, _ =>
    have q : ∀ x : UInt8, UInt8.ofNat ((x.toNat : Int).toNat) = x := by intro x; simp
    have e0 : bt ⟨(a :: b :: c :: d :: l).toArray⟩ 0 = ((a.toNat : Nat) : Int) := rfl
    have e1 : bt ⟨(a :: b :: c :: d :: l).toArray⟩ 1 = ((b.toNat : Nat) : Int) := rfl
    have e2 : bt ⟨(a :: b :: c :: d :: l).toArray⟩ 2 = ((c.toNat : Nat) : Int) := rfl
    have e3 : bt ⟨(a :: b :: c :: d :: l).toArray⟩ 3 = ((d.toNat : Nat) : Int) := rfl
    rw [e0, e1, e2, e3]
    unfold strOfNums
    simp only [List.map_cons, List.map_nil, q]
    apply ByteArray.ext
    rw [ByteArray.data_extract]
    simp
theorem j0_false (k : Nat) (s : ByteArray) (hk : 200 < k) : quaysidelaw02_CrcBytes.j0 (k + 1 + 1 + 1 + 1 + 1 + 1) s false = some true := by
  simp only [quaysidelaw02_CrcBytes.j0]
  rw [if_neg (by decide)]
  by_cases h : s.size < 4
  · rw [if_pos (by omega), nine_eq _ (by omega)]; rfl
  · rw [if_neg (by omega), take_eq s k (by omega)]
    simp only [Option.bind_some]
    rw [put_eq]
    simp only [Option.bind_some]
    rw [if_pos (by omega), if_pos (by omega), nine_eq _ (by omega)]
    have b0 := bt_range s 0
    have b1 := bt_range s 1
    have b2 := bt_range s 2
    have b3 := bt_range s 3
    have e := first_four s (by omega)
    rw [← e]
    have e0 : T (bt s 0) (bt s 1) (bt s 2) (bt s 3) % 256 = bt s 0 := by unfold T; omega
    have e1 : T (bt s 0) (bt s 1) (bt s 2) (bt s 3) / 256 % 256 = bt s 1 := by unfold T; omega
    have e2 : T (bt s 0) (bt s 1) (bt s 2) (bt s 3) / 65536 % 256 = bt s 2 := by unfold T; omega
    have e3 : T (bt s 0) (bt s 1) (bt s 2) (bt s 3) / 16777216 % 256 = bt s 3 := by unfold T; omega
    rw [e0, e1, e2, e3, if_pos rfl]; rfl
theorem CrcBytes : quaysidelaw02_CrcBytes.Pure := by
  intro n s _ _
  refine ⟨300 + 1 + 1 + 1 + 1 + 1 + 1, ?_⟩
  unfold quaysidelaw02_CrcBytes.f
  rw [light_eq, nine_eq _ (by omega), rput_eq, put_eq]
  by_cases hl : s.size ≤ 1024
  · simp only [hl, decide_true, Option.bind_some, if_true]
    have z : (strOfNums [n % 256, n / 256 % 256, n / 65536 % 256, n / 16777216 % 256]).size = 4 := strOfNums_size _
    have q := bt_four (n % 256) (n / 256 % 256) (n / 65536 % 256) (n / 16777216 % 256) (by omega) (by omega) (by omega) (by omega)
    generalize strOfNums [n % 256, n / 256 % 256, n / 65536 % 256, n / 16777216 % 256] = t at *
    have et : crc_Take.f (300 + 1 + 1 + 1 + 1 + 1 + 1) t = some (n % 4294967296) := by
      rw [take_eq t _ (by omega), q.1, q.2.1, q.2.2.1, q.2.2.2]
      refine congrArg some ?_
      unfold T; omega
    have ets : crc_Take.f (300 + 1 + 1 + 1 + 1 + 1 + 1) (t ++ s) = some (n % 4294967296) := by
      have hz : (t ++ s).size = t.size + s.size := ByteArray.size_append
      have l0 := bt_left t s 0 (by omega)
      have l1 := bt_left t s 1 (by omega)
      have l2 := bt_left t s 2 (by omega)
      have l3 := bt_left t s 3 (by omega)
      have et2 := et
      rw [take_eq t _ (by omega)] at et2
      rw [take_eq (t ++ s) _ (by omega), ← et2]
      simp only [show ((0 : Nat) : Int) = 0 from rfl, show ((1 : Nat) : Int) = 1 from rfl, show ((2 : Nat) : Int) = 2 from rfl, show ((3 : Nat) : Int) = 3 from rfl] at l0 l1 l2 l3
      rw [l0, l1, l2, l3]
    have em : Go.bits .and .i64 n 4294967295 = n % 4294967296 := and_mask n 32 (by decide)
    have hts : ∃ v, crc_Take.f (300 + 1 + 1 + 1 + 1 + 1 + 1) s = some v ∧ quaysideref02_Take.f s = some v := by
      by_cases h : s.size < 4
      · exact ⟨_, take_no s _ h, rtake_no s h⟩
      · exact ⟨_, take_eq s _ (by omega), rtake_eq s (by omega)⟩
    obtain ⟨v, v1, v2⟩ := hts
    rw [v1, v2, et, ets, em]
    simp only [Option.bind_some, if_true]
    rw [if_pos (by omega), if_pos (by omega), bne_self_eq_false]
    exact j0_false 300 s (by omega)
  · simp [hl]
end Go.Proofs.Ytjffpanpjjlkaaa.Pure
