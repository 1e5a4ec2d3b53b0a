/- The law CrcSums holds of every text and number: the program's sum is the reference's. Conditions: the text's size within the form's reach; a number of 64 bits. -/
import Derived.Test.YtjffpanpjjlkaaaOwnx2
import Derived.Test.YtjffpanpjjlkaaaCrcFns
namespace Go.Proofs.Ytjffpanpjjlkaaa.Pure
open Go.RowKit Go.Proofs.Ytjffpanpjjlkaaa.Own Go.Proofs.YtjffpanpjjlkaaaW.PrintWords Go.Proofs.YtjffpanpjjlkaaaW.PrintLast
open Go.Proofs.Ytjffpanpjjlkaaa.Fns Go.Proofs.Ytjffpanpjjlkaaa.Crc
theorem CrcSums : quaysidelaw02_CrcSums.Pure := by
  intro s sum _ _
  refine ⟨20000, ?_⟩
  unfold quaysidelaw02_CrcSums.f
  rw [light_eq, nine_eq _ (by omega)]
  by_cases h : s.size ≤ 1024
  · rw [sum_eq s _ (by omega) (by omega), rsum_eq s _ (by omega) (by omega), more_eq s sum _ (by omega) (by omega), rmore_eq s sum _ (by omega) (by omega)]
    simp [h]
  · simp [h]
end Go.Proofs.Ytjffpanpjjlkaaa.Pure
