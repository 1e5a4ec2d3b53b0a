/- Plain facts on whole numbers of 64 bits: masks, joins and wraps, that the other texts of this seat use. No condition. -/
import Derived.Laws.Entries
import Derived.RowKit
namespace Go.Proofs.Ytinbppcfdmbclaa.Aid
open Go Go.RowKit
theorem wf64 {a : Int} (h : (Lit.int .i64 a).wf = true) : -9223372036854775808 ≤ a ∧ a ≤ 9223372036854775807 := by
  simpa [Lit.wf, IntKind.min, IntKind.max, IntKind.signed, IntKind.bits] using h
theorem wrap_i64 (n : Int) : IntKind.i64.wrap n = wrap64 n := by
  simp [IntKind.wrap, IntKind.bits, IntKind.signed, wrap64]
  split <;> omega
theorem ofInt_nat (x : Int) : (BitVec.ofInt 64 x).toNat = (x % 18446744073709551616).toNat := by
  rw [BitVec.toNat_ofInt]; rfl
theorem and64 (x y : Int) : Go.bits .and .i64 x y = wrap64 (((x % 18446744073709551616).toNat &&& (y % 18446744073709551616).toNat : Nat) : Int) := by
  rw [← wrap_i64, ← ofInt_nat, ← ofInt_nat, ← BitVec.toNat_and]; rfl
theorem or64 (x y : Int) : Go.bits .or .i64 x y = wrap64 (((x % 18446744073709551616).toNat ||| (y % 18446744073709551616).toNat : Nat) : Int) := by
  rw [← wrap_i64, ← ofInt_nat, ← ofInt_nat, ← BitVec.toNat_or]; rfl
theorem xor64 (x y : Int) : Go.bits .xor .i64 x y = wrap64 (((x % 18446744073709551616).toNat ^^^ (y % 18446744073709551616).toNat : Nat) : Int) := by
  rw [← wrap_i64, ← ofInt_nat, ← ofInt_nat, ← BitVec.toNat_xor]; rfl
theorem and_mask (x : Int) (k : Nat) (hk : k ≤ 62) : Go.bits .and .i64 x (2 ^ k - 1) = x % 2 ^ k := by
  have hp : (2:Nat) ^ k ≤ 2 ^ 62 := Nat.pow_le_pow_right (by decide) hk
  have hpos' := Nat.two_pow_pos k
  have hc : ((2 : Int) ^ k - 1) = ((2 ^ k - 1 : Nat) : Int) := by
    rw [Int.natCast_sub (Nat.two_pow_pos k)]; simp
  have h1 : ((((2 ^ k - 1 : Nat)) : Int) % 18446744073709551616).toNat = 2 ^ k - 1 := by
    omega
  have hd : ((2:Int) ^ k) ∣ 18446744073709551616 := by
    refine ⟨2 ^ (64 - k), ?_⟩
    rw [← Int.pow_add, show k + (64 - k) = 64 by omega]; rfl
  rw [and64, hc, h1, Nat.and_two_pow_sub_one_eq_mod]
  have h2 : (((x % 18446744073709551616).toNat % 2 ^ k : Nat) : Int) = x % 2 ^ k := by
    rw [Int.natCast_emod, Int.toNat_of_nonneg (Int.emod_nonneg _ (by decide))]
    rw [show ((2 ^ k : Nat) : Int) = (2:Int) ^ k from Int.natCast_pow 2 k]
    exact Int.emod_emod_of_dvd x hd
  rw [h2]
  have hpos : (0:Int) < 2 ^ k := by exact_mod_cast Nat.two_pow_pos k
  have h3 := Int.emod_nonneg x (Int.ne_of_gt hpos)
  have h4 := Int.emod_lt_of_pos x hpos
  have h6 : ((2 ^ k : Nat) : Int) = (2:Int) ^ k := Int.natCast_pow 2 k
  have h7 : 2 ^ k ≤ 4611686018427387904 := hp
  have h5 : (2:Int) ^ k ≤ 4611686018427387904 := by rw [← h6]; omega
  unfold wrap64; omega
theorem and62 (x : Int) : Go.bits .and .i64 x 4611686018427387903 = x % 4611686018427387904 := and_mask x 62 (by decide)
/-- high and low, joined -/
theorem or_join (h l : Int) (h0 : -2 ≤ h) (h1 : h ≤ 1) (l0 : 0 ≤ l) (l1 : l < 4611686018427387904) :
    Go.bits .or .i64 (wrap64 (h * 4611686018427387904)) l = h * 4611686018427387904 + l := by
  rw [or64]
  have e : ((wrap64 (h * 4611686018427387904)) % 18446744073709551616).toNat = 2 ^ 62 * ((h + 4) % 4).toNat := by
    unfold wrap64; omega
  have e2 : (l % 18446744073709551616).toNat = l.toNat := by omega
  rw [e, e2, ← Nat.two_pow_add_eq_or_of_lt (by omega)]
  unfold wrap64; omega
end Go.Proofs.Ytinbppcfdmbclaa.Aid
