/- The law ValueRises holds of every two numbers: the bytes of a row of one number stand in the order of the numbers. Conditions: numbers of 64 bits. -/
import Derived.Test.YtccpbacnfhbdlaaDoorVax9
import Derived.Test.YtccpbacnfhbdlaaDoorPureAwake
namespace Go.Proofs.YtccpbacnfhbdlaaDoor.PureVal
open Go.RowKit Go.Proofs.YtccpbacnfhbdlaaDoorW.PrintWords Go.Proofs.YtccpbacnfhbdlaaDoorW.PrintLast Go.Proofs.YtccpbacnfhbdlaaDoorW.PrintMore
open Go.Proofs.YtccpbacnfhbdlaaDoor.Va
set_option linter.unusedVariables false
set_option linter.unusedSimpArgs false
theorem put_int (a : Int) (h0 : -9223372036854775808 ≤ a) (h1 : a ≤ 9223372036854775807) (d : Nat) :
    value_Put.f (11 + d) [⟨1, a, ⟨#[]⟩⟩] = some (⟨((1 :: 1 :: (be 8 (a + 9223372036854775808).toNat).map BB)).toArray⟩, 0) := by
  unfold value_Put.f
  rw [if_neg (by simp), show 11 + d = (10 + d) + 1 from by omega, value_Put.l0, if_pos (by simp), if_pos (by decide)]
  have e1 : rd_T23 [(⟨1, a, ⟨#[]⟩⟩ : S23)] 0 = ⟨1, a, ⟨#[]⟩⟩ := rfl
  have e2 : value_Check.f 1 a ⟨#[]⟩ = some 0 := by
    unfold value_Check.f
    rw [if_neg (by decide), if_pos rfl, if_pos empty_toList]
  rw [e1]
  simp only
  rw [e2, Option.bind_some, if_pos rfl, show 10 + d = 9 + (d + 1) from by omega, vbytes_int a h0 h1, Option.bind_some, if_pos (by rw [strOfNums_size]; simp [be_length])]
  rw [show 9 + (d + 1) = (9 + d) + 1 from by omega, value_Put.l0, if_neg (by simp [wrap64]), strOfNums_data]
  rfl
end Go.Proofs.YtccpbacnfhbdlaaDoor.PureVal
namespace Go.Proofs.YtccpbacnfhbdlaaDoor.Pure
set_option linter.unusedSimpArgs false
open Go.RowKit Go.Proofs.YtccpbacnfhbdlaaDoor.Va Go.Proofs.YtccpbacnfhbdlaaDoor.PureVal
set_option linter.unusedVariables false
theorem ValueRises (a0 a1 : Int) (w0 : (Lit.int .i64 a0).wf = true) (w1 : (Lit.int .i64 a1).wf = true) : ∃ k, quaysidelaw05_ValueRises.f k a0 a1 = some true := by
  obtain ⟨K, hK⟩ := awake_ex
  obtain ⟨p0, p1⟩ := PureVal.wf64 w0
  obtain ⟨q0, q1⟩ := PureVal.wf64 w1
  refine ⟨K + 11, ?_⟩
  have h0 := put_int a0 p0 p1 K
  have h1 := put_int a1 q0 q1 K
  have h2 := hK 11
  rw [show 11 + K = K + 11 from by omega] at h0 h1
  have hl : ∀ u v : Nat, u < 18446744073709551616 → v < 18446744073709551616 → Op.bytesLess (1 :: 1 :: (be 8 u).map BB) (1 :: 1 :: (be 8 v).map BB) = decide (u < v) := by
    intro u v hu hv
    have := be_less 8 u v
    rw [show (256 : Nat) ^ 8 = 18446744073709551616 from rfl, Nat.mod_eq_of_lt hu, Nat.mod_eq_of_lt hv] at this
    rw [← this]
    simp [Op.bytesLess]
  unfold quaysidelaw05_ValueRises.f
  rw [h0, Option.bind_some, h1, Option.bind_some]
  simp only
  have hs : ∀ u : Nat, ((⟨(1 :: 1 :: (be 8 u).map BB).toArray⟩ : ByteArray).size : Int) = 10 := by intro u; simp [ByteArray.size, be_length]
  rw [if_pos trivial, if_pos trivial, if_pos (hs _), if_pos (hs _)]
  rw [toList_data, toList_data]
  rw [hl _ _ (by omega) (by omega), h2]
  simp only [Option.bind_some]
  by_cases c : a0 < a1
  · rw [if_pos (decide_eq_true (by omega)), if_pos c]
    have hne : ¬ ((1 : UInt8) :: 1 :: (be 8 (a0 + 9223372036854775808).toNat).map BB) = 1 :: 1 :: (be 8 (a1 + 9223372036854775808).toNat).map BB := by
      intro e
      have := hl (a0 + 9223372036854775808).toNat (a1 + 9223372036854775808).toNat (by omega) (by omega)
      rw [e, less_irrefl] at this
      have := of_decide_eq_false this.symm
      omega
    rw [if_neg hne, if_neg (by omega)]
  · rw [if_neg (by simp; omega), if_neg c]
    by_cases c2 : a0 = a1
    · subst c2
      rw [if_pos rfl, if_pos rfl]
    · have hne : ¬ ((1 : UInt8) :: 1 :: (be 8 (a0 + 9223372036854775808).toNat).map BB) = 1 :: 1 :: (be 8 (a1 + 9223372036854775808).toNat).map BB := by
        intro e
        have := hl (a1 + 9223372036854775808).toNat (a0 + 9223372036854775808).toNat (by omega) (by omega)
        rw [e, less_irrefl] at this
        have := of_decide_eq_false this.symm
        omega
      rw [if_neg hne, if_neg c2]
end Go.Proofs.YtccpbacnfhbdlaaDoor.Pure
