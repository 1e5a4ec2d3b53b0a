/- The law CrcParts holds of every two texts: the sum of a text in two parts is that of the whole. Condition: the texts' sizes within the form's reach. -/
import Derived.Test.YtjffpanpjjlkaaaOwnx2
import Derived.Test.YtjffpanpjjlkaaaCrcFns
namespace Go.Proofs.Ytjffpanpjjlkaaa.Pure
open Go.RowKit Go.Proofs.Ytjffpanpjjlkaaa.Own Go.Proofs.YtjffpanpjjlkaaaW.PrintWords Go.Proofs.YtjffpanpjjlkaaaW.PrintLast
open Go.Proofs.Ytjffpanpjjlkaaa.Fns Go.Proofs.Ytjffpanpjjlkaaa.Crc
theorem B_append (a b : ByteArray) : B (a ++ b) = B a ++ B b := by
  unfold B
  rw [ByteArray.data_append, Array.toList_append, List.map_append]
theorem CrcParts : quaysidelaw02_CrcParts.Pure := by
  intro a b _ _
  refine ⟨30000 + 1, ?_⟩
  unfold quaysidelaw02_CrcParts.f
  rw [light_eq, light_eq]
  by_cases h : a.size ≤ 1024
  · by_cases h2 : b.size ≤ 1024
    · simp only [h, h2, decide_true, Option.bind_some, if_true, Bool.not_true]
      simp only [quaysidelaw02_CrcParts.j0]
      have hz : (a ++ b).size = a.size + b.size := ByteArray.size_append
      have hl := crc_lt (s := 0) (l := B a) (by omega) (B_lt a)
      rw [nine_eq _ (by omega), sum_eq a _ (by omega) (by omega), sum_eq (a ++ b) _ (by omega) (by omega), more_eq a 0 _ (by omega) (by omega)]
      simp only [Option.bind_some]
      rw [more_eq b _ _ (by omega) (by omega), show (((crc 0 (B a) : Nat) : Int) % 4294967296).toNat = crc 0 (B a) by omega, crc_append, ← B_append]
      rw [show ((0 : Int) % 4294967296).toNat = 0 from rfl]
      simp only [Option.bind_some, if_true, Bool.false_eq_true, if_false]
      rw [if_pos (by omega)]
    · simp only [h, h2, decide_true, decide_false, Option.bind_some, if_true, Bool.not_false]
      simp only [quaysidelaw02_CrcParts.j0]
      rw [nine_eq _ (by omega)]; rfl
  · simp only [h, decide_false, Option.bind_some, Bool.false_eq_true, if_false]
    simp only [quaysidelaw02_CrcParts.j0]
    rw [nine_eq _ (by omega)]; rfl
end Go.Proofs.Ytjffpanpjjlkaaa.Pure
