/- What the reference's Bytes and Free come to, in plain words. No condition beyond those that each theorem names. -/
import Derived.Test.YtinbppcfdmbclaaPureRef
import Derived.Test.YtinbppcfdmbclaaPgy2
namespace Go.Proofs.Ytinbppcfdmbclaa.Pg
open Go.RowKit Go.Proofs.YtinbppcfdmbclaaW.PrintWords Go.Proofs.YtinbppcfdmbclaaW.PrintLast Go.Proofs.YtinbppcfdmbclaaW.PrintMore
set_option linter.unusedVariables false
set_option linter.unusedSimpArgs false
theorem low8 (x : Int) : Go.bits .and .i64 x 255 % 256 = x % 256 := by
  have e := Aid.and_mask x 8 (by decide)
  rw [show ((2 : Int) ^ 8 - 1) = 255 from rfl, show ((2 : Int) ^ 8) = 256 from rfl] at e
  rw [e]; omega
theorem u8of (n : Nat) : UInt8.ofNat ((n : Int) % 256).toNat = by_ n := by
  apply UInt8.toNat_inj.1
  simp [by_]; omega
theorem nums_size (l : List Int) : (strOfNums l).size = l.length := by rw [← sz, strOfNums_data, List.length_map]
theorem nums_zero (n : Nat) : (strOfNums (List.replicate n 0)).data.toList = List.replicate n 0 := by
  rw [strOfNums_data, List.map_replicate]; rfl
theorem app_list (a b : ByteArray) : (a ++ b).data.toList = a.data.toList ++ b.data.toList := by simp
theorem app_size (a b : ByteArray) : (a ++ b).size = a.size + b.size := by rw [← sz, app_list, List.length_append, sz, sz]
theorem rbytes_l0 (kind : UInt8) (L : List S66) (hf : Fits L) : ∀ (d i k : Nat) (x3 x4 : ByteArray), i + d = L.length → 3000 + d < k → x3.data.toList = dirB 256 (L.take i) → x4.data.toList = cellsB (L.take i) →
    quaysideref12_Bytes.l0 k x3 x4 ((256 - total (L.take i) : Nat) : Int) (i : Int) (kind.toNat : Int) L = some (bytesR (encB kind L))
  | 0, i, k, x3, x4, h, hk, h3, h4 => by
    obtain ⟨k, rfl⟩ : ∃ m, k = m + 1 := ⟨k - 1, by omega⟩
    obtain rfl : i = L.length := by omega
    rw [List.take_length] at h3 h4
    have hs3 : x3.size = 2 * L.length := by rw [← sz, h3, dirB_length]
    have hs4 : x4.size = total L := by rw [← sz, h4, cellsB_length]
    have hkt := kind.toNat_lt
    have hf' := hf
    unfold Fits at hf'
    have hw : wrap64 ((wrap64 (248 - (x3.size : Int))) - (x4.size : Int)) = ((248 - 2 * L.length - total L : Nat) : Int) := by rw [hs3, hs4]; unfold wrap64; omega
    simp only [quaysideref12_Bytes.l0]
    rw [if_neg (by omega), hw]
    simp only [Option.bind_some]
    obtain ⟨hd, hhd⟩ : ∃ hd : ByteArray, strOfNums ([(kind.toNat : Int) % 256, (L.length : Int) % 256, (Go.bits .and .i64 (x4.size : Int) 255) % 256, ((x4.size : Int) / 256) % 256] : List Int) = hd := ⟨_, rfl⟩
    have hhl : hd.data.toList = [kind, by_ L.length, by_ (total L), by_ (total L / 256)] := by
      rw [← hhd, strOfNums_data, hs4, low8]
      simp only [List.map_cons, List.map_nil]
      rw [u8of, u8of, u8of, show ((total L : Nat) : Int) / 256 = ((total L / 256 : Nat) : Int) from by omega, u8of]
      congr 1
      simp [by_]
    have hhs : hd.size = 4 := by rw [← sz, hhl]; rfl
    rw [hhd, Int.toNat_natCast, if_pos (by omega), if_pos (by omega)]
    obtain ⟨z, hz⟩ : ∃ z : ByteArray, strOfNums (List.replicate (248 - 2 * L.length - total L) (0 : Int)) = z := ⟨_, rfl⟩
    have hzl : z.data.toList = List.replicate (248 - 2 * L.length - total L) 0 := by rw [← hz, nums_zero]
    have hzs : z.size = 248 - 2 * L.length - total L := by rw [← sz, hzl, List.length_replicate]
    have hn0 : (⟨#[0, 0, 0, 0]⟩ : ByteArray).size = 4 := rfl
    have hes : (hd ++ (⟨#[0, 0, 0, 0]⟩ : ByteArray)) ++ ((x3 ++ z) ++ x4) = ⟨(encB kind L).toArray⟩ := by
      apply ba_ext
      simp only [app_list, hhl, hzl, h3, h4]
      simp [encB, headB]
    have hss : ((hd ++ (⟨#[0, 0, 0, 0]⟩ : ByteArray)) ++ ((x3 ++ z) ++ x4)).size = 256 := by
      simp only [app_size, hhs, hn0, hs3, hs4, hzs]; omega
    rw [hz, if_pos (by omega), if_pos (by rw [app_size]; omega), if_pos (by omega), if_pos (by rw [app_size, app_size, app_size, hn0]; omega)]
    rw [Fns.rsum_eq _ k (by omega) (by omega), hes]
    simp only [Option.bind_some, quaysideref02_Put.f]
    obtain ⟨sm, hsm⟩ : ∃ sm : ByteArray, strOfNums ([(Go.bits .and .i64 ((Crc.crc 0 (Fns.B ⟨(encB kind L).toArray⟩) : Nat) : Int) 255) % 256, (Go.bits .and .i64 (((Crc.crc 0 (Fns.B ⟨(encB kind L).toArray⟩) : Nat) : Int) / 256) 255) % 256, (Go.bits .and .i64 (((Crc.crc 0 (Fns.B ⟨(encB kind L).toArray⟩) : Nat) : Int) / 65536) 255) % 256, (Go.bits .and .i64 (((Crc.crc 0 (Fns.B ⟨(encB kind L).toArray⟩) : Nat) : Int) / 16777216) 255) % 256] : List Int) = sm := ⟨_, rfl⟩
    have hsm2 : sm = sumS (encB kind L) := by
      rw [← hsm, low8, low8, low8, low8]; rfl
    have hsms : sm.size = 4 := by rw [hsm2]; rfl
    rw [hsm, if_pos (by omega), if_pos (by rw [app_size, app_size, app_size]; omega)]
    refine congrArg some (ba_ext ?_)
    rw [bytesR_list, ← hsm2]
    have hsml : sm.data.toList.length = 4 := by rw [sz, hsms]
    simp only [app_list, hhl, hzl, h3, h4]
    unfold splice
    rw [hsml]
    simp [encB, headB]
  | d + 1, i, k, x3, x4, h, hk, h3, h4 => by
    obtain ⟨k, rfl⟩ : ∃ m, k = m + 1 := ⟨k - 1, by omega⟩
    have hi : i < L.length := by omega
    have hf' := hf
    unfold Fits at hf'
    have ht := total_take_succ L i hi
    have hle := total_take_le L (i + 1)
    have hle0 := total_take_le L i
    have hcz : cz L[i] = L[i].f0.size + L[i].f1.size := rfl
    have hs3 : x3.size = 2 * i := by rw [← sz, h3, dirB_length, List.length_take, Nat.min_eq_left (by omega)]
    have hs4 : x4.size = total (L.take i) := by rw [← sz, h4, cellsB_length]
    have hw : wrap64 ((wrap64 (((256 - total (L.take i) : Nat) : Int) - (L[i].f0.size : Int))) - (L[i].f1.size : Int)) = ((256 - total (L.take (i + 1)) : Nat) : Int) := by unfold wrap64; omega
    have htk : L.take (i + 1) = L.take i ++ [L[i]] := by rw [List.take_add_one, List.getElem?_eq_getElem hi]; rfl
    simp only [quaysideref12_Bytes.l0]
    rw [if_pos (by omega), if_pos (by omega), rd66 L i hi, hw]
    simp only [Option.bind_some]
    rw [if_pos (by rw [nums_size]; simp only [List.length_cons, List.length_nil]; omega), if_pos (by omega), if_pos (by rw [app_size]; omega), show (i : Int) + 1 = ((i + 1 : Nat) : Int) from by omega, wrapn _ (by omega)]
    refine rbytes_l0 kind L hf d (i + 1) k _ _ (by omega) (by omega) ?_ ?_
    · rw [app_list, h3, htk, dirB_append, strOfNums_data, low8]
      simp only [List.map_cons, List.map_nil, u8of, dirB]
      rw [htk] at ht
      rw [show 256 - total (L.take i ++ [L[i]]) = 256 - total (L.take i) - cz L[i] from by omega]
    · rw [app_list, app_list, h4, htk, cellsB_append]
      simp [cellsB, cellB]
theorem rbytes_f (kind : UInt8) (L : List S66) (hf : Fits L) (k : Nat) (hk : 4000 < k) : quaysideref12_Bytes.f k (kind.toNat : Int) L = some (bytesR (encB kind L)) := by
  have hf' := hf
  unfold Fits at hf'
  exact rbytes_l0 kind L hf L.length 0 k ⟨#[]⟩ ⟨#[]⟩ (by omega) (by omega) rfl rfl
end Go.Proofs.Ytinbppcfdmbclaa.Pg
