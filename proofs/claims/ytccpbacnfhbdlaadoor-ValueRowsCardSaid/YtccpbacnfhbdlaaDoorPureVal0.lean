import Derived.Test.YtccpbacnfhbdlaaDoorVax3
import Derived.Laws.BytesArg
namespace Go.Proofs.YtccpbacnfhbdlaaDoor.PureVal
open Go.RowKit Go.Proofs.YtccpbacnfhbdlaaDoorW.PrintWords Go.Proofs.YtccpbacnfhbdlaaDoorW.PrintLast Go.Proofs.YtccpbacnfhbdlaaDoorW.PrintMore
open Go.Proofs.YtccpbacnfhbdlaaDoor.Va
set_option linter.unusedVariables false
set_option linter.unusedSimpArgs false
theorem wf64 {a : Int} (h : (Lit.int .i64 a).wf = true) : -9223372036854775808 ≤ a ∧ a ≤ 9223372036854775807 := by
  simpa [Lit.wf, IntKind.min, IntKind.max, IntKind.signed, IntKind.bits] using h
theorem wrap64_id {x : Int} (h0 : -9223372036854775808 ≤ x) (h1 : x ≤ 9223372036854775807) : wrap64 x = x := by unfold wrap64; omega
theorem wrapu (n : Int) : Go.IntKind.u64.wrap n = n % 18446744073709551616 := by
  simp [IntKind.wrap, IntKind.bits, IntKind.signed]
theorem ofInt_nat (x : Int) : (BitVec.ofInt 64 x).toNat = (x % 18446744073709551616).toNat := by
  rw [BitVec.toNat_ofInt]; rfl
theorem xor_nat (x : Nat) (h : x < 18446744073709551616) : x ^^^ 9223372036854775808 = (x + 9223372036854775808) % 18446744073709551616 := by
  have h1 : (x ^^^ 9223372036854775808) % 2 ^ 63 = x % 2 ^ 63 := by rw [Nat.xor_mod_two_pow]; simp
  have h2 : (x ^^^ 9223372036854775808) / 2 ^ 63 = (x / 2 ^ 63) ^^^ 1 := by rw [Nat.xor_div_two_pow]
  have h3 : x / 2 ^ 63 = 0 ∨ x / 2 ^ 63 = 1 := by omega
  rcases h3 with h3 | h3
  · rw [h3, show 0 ^^^ 1 = 1 from rfl] at h2; omega
  · rw [h3, show 1 ^^^ 1 = 0 from rfl] at h2; omega
theorem xor_top (a : Int) (h0 : -9223372036854775808 ≤ a) (h1 : a ≤ 9223372036854775807) : Go.bits .xor .u64 (IntKind.u64.wrap a) 9223372036854775808 = a + 9223372036854775808 := by
  have e : Go.bits .xor .u64 (IntKind.u64.wrap a) 9223372036854775808 = IntKind.u64.wrap (((BitVec.ofInt 64 (IntKind.u64.wrap a)) ^^^ (BitVec.ofInt 64 9223372036854775808)).toNat : Int) := rfl
  rw [e, BitVec.toNat_xor, ofInt_nat, ofInt_nat, wrapu, wrapu]
  rw [show ((9223372036854775808 : Int) % 18446744073709551616).toNat = 9223372036854775808 from by decide, xor_nat _ (by omega)]
  omega
/-- the digits to the base 256, the greatest first -/
def be : Nat → Nat → List Int
  | 0, _ => []
  | n + 1, u => ((u / 256 ^ n % 256 : Nat) : Int) :: be n u
theorem be_length : ∀ n u, (be n u).length = n
  | 0, _ => rfl
  | n + 1, u => by simp [be, be_length n u]
theorem vbytes_l0 (U : Nat) : ∀ (n d : Nat) (x3 : List Int), n ≤ 8 → x3.length + n ≤ 100 → value_bytes.l0 (n + 1 + d) x3 (U : Int) (8 - (n : Int)) = some (strOfNums (x3 ++ be n U))
  | 0, d, x3, h, hl => by
    rw [show 0 + 1 + d = d + 1 from by omega, value_bytes.l0, if_neg (by omega)]
    simp [be]
  | n + 1, d, x3, h, hl => by
    rw [show n + 1 + 1 + d = (n + 1 + d) + 1 from by omega, value_bytes.l0]
    have e1 : wrap64 (8 * wrap64 (7 - (8 - ((n + 1 : Nat) : Int)))) = 8 * (n : Int) := by
      rw [wrap64_id (x := 7 - (8 - ((n + 1 : Nat) : Int))) (by omega) (by omega), wrap64_id (by omega) (by omega)]; omega
    rw [if_pos (by omega), e1, if_pos (by omega), if_pos (by omega), wrap64_id (x := 8 - ((n + 1 : Nat) : Int) + 1) (by omega) (by omega)]
    have e2 : shr .u64 (U : Int) (8 * (n : Int)) = ((U / 256 ^ n : Nat) : Int) := by
      unfold shr
      rw [show min (8 * (n : Int)).toNat (IntKind.bits .u64) = 8 * n from by simp [IntKind.bits]; omega]
      rw [show (2 : Int) ^ (8 * n) = ((256 ^ n : Nat) : Int) from by rw [Int.pow_mul]; simp]
      rw [Int.natCast_ediv]
    rw [e2, show (8 - ((n + 1 : Nat) : Int) + 1) = 8 - (n : Int) from by omega]
    rw [vbytes_l0 U n d _ (by omega) (by simp; omega)]
    simp [be]
theorem vbytes_int (a : Int) (h0 : -9223372036854775808 ≤ a) (h1 : a ≤ 9223372036854775807) (s : ByteArray) (d : Nat) : value_bytes.f (9 + d) 1 a s = some (strOfNums (1 :: be 8 (a + 9223372036854775808).toNat)) := by
  unfold value_bytes.f
  rw [Option.bind_some, if_pos rfl, xor_top a h0 h1]
  have := vbytes_l0 (a + 9223372036854775808).toNat 8 d [1] (by omega) (by simp)
  rw [show 8 + 1 + d = 9 + d from by omega, Int.toNat_of_nonneg (by omega)] at this
  exact this
def BB (n : Int) : UInt8 := UInt8.ofNat n.toNat
theorem BB_lt (a b : Nat) (ha : a < 256) (hb : b < 256) : (BB (a : Int) < BB (b : Int)) ↔ a < b := by
  rw [UInt8.lt_iff_toNat_lt]
  simp [BB, UInt8.toNat_ofNat', Nat.mod_eq_of_lt ha, Nat.mod_eq_of_lt hb]
theorem BB_eq (a b : Nat) (ha : a < 256) (hb : b < 256) : (BB (a : Int) = BB (b : Int)) ↔ a = b := by
  rw [← UInt8.toNat_inj]
  simp [BB, UInt8.toNat_ofNat', Nat.mod_eq_of_lt ha, Nat.mod_eq_of_lt hb]
theorem be_less : ∀ (n u v : Nat), Op.bytesLess ((be n u).map BB) ((be n v).map BB) = decide (u % 256 ^ n < v % 256 ^ n)
  | 0, u, v => by simp [be, Op.bytesLess, Nat.mod_one]
  | n + 1, u, v => by
    have ih := be_less n u v
    have ha : u / 256 ^ n % 256 < 256 := Nat.mod_lt _ (by decide)
    have hb : v / 256 ^ n % 256 < 256 := Nat.mod_lt _ (by decide)
    have eu := Nat.mod_pow_succ (b := 256) (k := n) (x := u)
    have ev := Nat.mod_pow_succ (b := 256) (k := n) (x := v)
    have pu := Nat.mod_lt u (show 0 < 256 ^ n from Nat.pow_pos (by decide))
    have pv := Nat.mod_lt v (show 0 < 256 ^ n from Nat.pow_pos (by decide))
    simp only [be, List.map_cons, Op.bytesLess, ih]
    rw [eu, ev]
    generalize u / 256 ^ n % 256 = a at *
    generalize v / 256 ^ n % 256 = b at *
    generalize u % 256 ^ n = x at *
    generalize v % 256 ^ n = y at *
    generalize 256 ^ n = p at *
    rw [Bool.eq_iff_iff]
    simp only [Bool.or_eq_true, Bool.and_eq_true, decide_eq_true_eq, beq_iff_eq, BB_lt a b ha hb, BB_eq a b ha hb]
    constructor
    · rintro (h | ⟨rfl, h⟩)
      · have := Nat.mul_le_mul_left p (show a + 1 ≤ b from h)
        rw [Nat.mul_add] at this
        omega
      · omega
    · intro h
      rcases Nat.lt_trichotomy a b with c | c | c
      · exact .inl c
      · subst c; exact .inr ⟨rfl, by omega⟩
      · have := Nat.mul_le_mul_left p (show b + 1 ≤ a from c)
        rw [Nat.mul_add] at this
        omega
theorem less_irrefl : ∀ l : List UInt8, Op.bytesLess l l = false
  | [] => rfl
  | a :: l => by simp [Op.bytesLess, less_irrefl l]
theorem toList_data (s : ByteArray) : s.toList = s.data.toList := ByteArray.toList_eq s
theorem empty_toList : (⟨#[]⟩ : ByteArray).toList = [] := by rw [toList_data]
end Go.Proofs.YtccpbacnfhbdlaaDoor.PureVal
