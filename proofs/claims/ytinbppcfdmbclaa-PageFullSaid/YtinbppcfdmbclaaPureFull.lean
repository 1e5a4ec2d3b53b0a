/- A page takes cells till there is no room (PageFull): the cells, in plain words. No condition beyond those that each theorem names. -/
import Derived.Test.YtinbppcfdmbclaaPgBase
namespace Go.Proofs.Ytinbppcfdmbclaa.Pg
open Go.RowKit
set_option linter.unusedVariables false
set_option linter.unusedSimpArgs false
def keyF (i : Nat) : ByteArray := strOfNums [107, (i : Int)]
def valF (n : Nat) : ByteArray := strOfNums (List.replicate (n - 2) 0)
def cellF (n i : Nat) : S66 := ⟨keyF i, valF n⟩
/-- the first m cells -/
def LF (n m : Nat) : List S66 := (List.range m).map (cellF n)
theorem keyF_list (i : Nat) (h : i < 256) : (keyF i).toList = [107, UInt8.ofNat i] := by
  rw [ba_list]
  show [UInt8.ofNat (107 : Int).toNat, UInt8.ofNat (i : Int).toNat] = _
  rw [Int.toNat_natCast]; rfl
theorem keyF_size (i : Nat) : (keyF i).size = 2 := rfl
theorem valF_size (n : Nat) : (valF n).size = n - 2 := by
  rw [← sz]
  simp [valF, strOfNums]
theorem keyF_less (i j : Nat) (h : i < j) (hj : j < 256) : Op.bytesLess (keyF i).toList (keyF j).toList = true := by
  rw [keyF_list i (by omega), keyF_list j hj]
  have e1 : (UInt8.ofNat i).toNat = i := by simp; omega
  have e2 : (UInt8.ofNat j).toNat = j := by simp; omega
  simp [Op.bytesLess, UInt8.lt_iff_toNat_lt, e1, e2, h]
theorem keyF_ne (i : Nat) : (keyF i).toList = [] → False := by
  intro h
  have := congrArg List.length h
  rw [ba_list, sz] at this
  cases this
theorem LF_length (n m : Nat) : (LF n m).length = m := by simp [LF]
theorem LF_succ (n m : Nat) : LF n (m + 1) = LF n m ++ [cellF n m] := by simp [LF, List.range_succ]
theorem cz_cellF (n i : Nat) (hn : 2 ≤ n) : cz (cellF n i) = n := by
  show (keyF i).size + (valF n).size = n
  rw [keyF_size, valF_size]; omega
theorem LF_total (n : Nat) (hn : 2 ≤ n) : ∀ m, total (LF n m) = n * m
  | 0 => rfl
  | m + 1 => by
    rw [LF_succ, total_append, LF_total n hn m, total, cz_cellF n m hn, total, Nat.mul_succ]; omega
theorem LF_fits (n m : Nat) (hn : 2 ≤ n) : Fits (LF n m) ↔ (n + 2) * m ≤ 248 := by
  unfold Fits
  rw [LF_length, LF_total n hn, Nat.add_mul]
  omega
theorem LF_cells (n m : Nat) (hn : 3 ≤ n) (hn2 : n ≤ 99) (hm : m ≤ 200) (h : (n + 2) * m ≤ 248) : Cells (LF n m) := by
  refine ⟨(LF_fits n m (by omega)).2 h, fun c hc => ?_, ?_⟩
  · obtain ⟨i, _, rfl⟩ := List.mem_map.1 hc
    show 1 ≤ (keyF i).size ∧ (keyF i).size ≤ 80 ∧ (keyF i).size + (valF n).size ≤ 100
    rw [keyF_size, valF_size]; omega
  · unfold LF
    rw [List.pairwise_map]
    refine (List.pairwise_lt_range (n := m)).imp_of_mem ?_
    intro a b ha hb hab
    have := List.mem_range.1 hb
    exact keyF_less a b hab (by omega)
/-- what a put of the next key answers -/
theorem LF_put (n m i : Nat) (hn : 3 ≤ n) (hn2 : n ≤ 99) (hmi : m ≤ i) (hi : i < 200) : putR (LF n m) (keyF i) (valF n) = if (n + 2) * (m + 1) ≤ 248 then (0, LF n m ++ [cellF n i]) else (2, LF n m) := by
  have hm : mayB (keyF i) (valF n) = true := decide_eq_true (by rw [keyF_size, valF_size]; omega)
  have hf : fN (LF n m) (keyF i) = (LF n m).length := fN_all _ _ fun c hc => by
    obtain ⟨j, hj, rfl⟩ := List.mem_map.1 hc
    have := List.mem_range.1 hj
    exact keyF_less j i (by omega) (by omega)
  have ht : there (LF n m) (keyF i) = false := by unfold there; rw [hf, List.getElem?_eq_none (Nat.le_refl _)]
  have hi : insL (LF n m) (keyF i) (valF n) = LF n m ++ [cellF n i] := by
    rw [insL, aheadL, behindL, ht, hf, List.take_length, if_neg (by simp), List.drop_length]; rfl
  have hfit : Fits (LF n m ++ [cellF n i]) ↔ (n + 2) * (m + 1) ≤ 248 := by
    unfold Fits
    rw [List.length_append, total_append, LF_length, LF_total n (by omega), total, cz_cellF n i (by omega)]
    simp only [List.length_cons, List.length_nil, total, Nat.add_mul, Nat.mul_add]
    omega
  rw [putR, if_pos hm, hi]
  by_cases h : (n + 2) * (m + 1) ≤ 248
  · rw [if_pos (hfit.2 h), if_pos h]
  · rw [if_neg (fun hh => h (hfit.1 hh)), if_neg h]
/-- the cells but for the first -/
def TF (n m : Nat) : List S66 := (List.range m).map fun i => cellF n (i + 1)
theorem LF_cons (n m : Nat) : LF n (m + 1) = cellF n 0 :: TF n m := by
  rw [LF, List.range_succ_eq_map, List.map_cons, List.map_map]; rfl
theorem TF_length (n m : Nat) : (TF n m).length = m := by simp [TF]
theorem TF_total (n m : Nat) (hn : 2 ≤ n) : total (TF n m) = n * m := by
  have h := LF_total n hn (m + 1)
  rw [LF_cons, total, cz_cellF n 0 hn, Nat.mul_succ] at h
  omega
theorem LF_drop (n m : Nat) : dropR (LF n (m + 1)) (keyF 0) = (0, TF n m) := by
  have hf : fN (cellF n 0 :: TF n m) (keyF 0) = 0 := by
    rw [fN, if_neg (by rw [show (cellF n 0).f0 = keyF 0 from rfl, less_irrefl]; simp)]
  have ht : there (cellF n 0 :: TF n m) (keyF 0) = true := by
    unfold there; rw [hf]; exact beq_self_eq_true _
  rw [LF_cons, dropR, if_pos ht, aheadL, behindL, if_pos ht, hf]
  rfl
theorem TF_drop (n m : Nat) : dropR (TF n m) (keyF 0) = (3, TF n m) := by
  have hl : Op.bytesLess (keyF 0).toList (keyF 1).toList = true := keyF_less 0 1 (by omega) (by omega)
  have ht : there (TF n m) (keyF 0) = false := by
    cases m with
    | zero => rfl
    | succ k =>
      have e : TF n (k + 1) = cellF n 1 :: (List.range k).map fun i => cellF n (i + 1 + 1) := by
        rw [TF, List.range_succ_eq_map, List.map_cons, List.map_map]; rfl
      have hf : fN (cellF n 1 :: (List.range k).map fun i => cellF n (i + 1 + 1)) (keyF 0) = 0 := by
        rw [fN, if_neg (by rw [show (cellF n 1).f0 = keyF 1 from rfl, less_asymm hl]; simp)]
      rw [e]
      unfold there; rw [hf]
      show ((keyF 1).toList == (keyF 0).toList) = false
      exact beq_eq_false_iff_ne.2 fun h => by rw [h, less_irrefl] at hl; cases hl
  rw [dropR, if_neg (by simp [ht])]
end Go.Proofs.Ytinbppcfdmbclaa.Pg
