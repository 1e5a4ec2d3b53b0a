/- What a page's bytes are when all tests of Read let them through: plain law. No condition beyond those that each theorem names. -/
import Derived.Test.YtinbppcfdmbclaaPgBase
namespace Go.Proofs.Ytinbppcfdmbclaa.Pg
open Go.RowKit
set_option linter.unusedVariables false
set_option linter.unusedSimpArgs false
/-- the page of which these are the bytes -/
def readP (s : ByteArray) : Prop := ∃ (kind : UInt8) (L : List S66), kind ≠ 0 ∧ Cells L ∧ s = bytesR (encB kind L)
theorem at_get (b : List UInt8) (i : Nat) (h : i < b.length) : b[i] = by_ (at_ b i) := by
  simp [at_, List.getD_eq_getElem?_getD, List.getElem?_eq_getElem h, by_]
theorem take_zeros (b : List UInt8) (p n : Nat) (h : p + n ≤ b.length) (hz : ∀ k, p ≤ k → k < p + n → at_ b k = 0) : (b.drop p).take n = List.replicate n 0 := by
  apply List.ext_getElem
  · simp; omega
  · intro i h1 h2
    have hi : i < n := by simpa using h2
    rw [List.getElem_take, List.getElem_drop, at_get b (p + i) (by omega), hz (p + i) (by omega) (by omega), List.getElem_replicate]
    rfl
theorem enc_of {b : List UInt8} (hl : b.length = 256) (L : List S66) (hN : at_ b 1 = L.length) (hu : usedB b = total L) (hf : Fits L) (h4 : (b.drop 4).take 4 = [0, 0, 0, 0])
    (hd : (b.drop 8).take (2 * L.length) = dirB 256 L) (hz : ∀ k, 8 + 2 * L.length ≤ k → k < 256 - total L → at_ b k = 0) (hc : b.drop (256 - total L) = cellsB L) : b = encB (b.getD 0 0) L := by
  unfold Fits at hf
  match b, hl with
  | x0 :: x1 :: x2 :: x3 :: r, hl =>
    have hx1 : x1 = by_ L.length := by rw [← hN]; exact (by_toNat x1).symm
    have hux : x2.toNat + 256 * x3.toNat = total L := by rw [← hu, used_head]
    have l2 := x2.toNat_lt
    have l3 := x3.toNat_lt
    have hx2 : x2 = by_ (total L) := by
      apply UInt8.toNat_inj.1
      simp [by_]; omega
    have hx3 : x3 = by_ (total L / 256) := by
      rw [show total L / 256 = x3.toNat from by omega]; exact (by_toNat x3).symm
    have hz0 := take_zeros (x0 :: x1 :: x2 :: x3 :: r) (8 + 2 * L.length) (248 - 2 * L.length - total L) (by omega) (fun k h1 h2 => hz k h1 (by omega))
    have e1 : r = r.take 4 ++ ((r.drop 4).take (2 * L.length) ++ (((r.drop 4).drop (2 * L.length)).take (248 - 2 * L.length - total L) ++ ((r.drop 4).drop (2 * L.length)).drop (248 - 2 * L.length - total L))) := by
      rw [List.take_append_drop, List.take_append_drop, List.take_append_drop]
    have e2 : ((r.drop 4).drop (2 * L.length)).drop (248 - 2 * L.length - total L) = (x0 :: x1 :: x2 :: x3 :: r).drop (256 - total L) := by
      rw [List.drop_drop, List.drop_drop, show 256 - total L = (4 + (2 * L.length + (248 - 2 * L.length - total L))) + 1 + 1 + 1 + 1 from by omega]
      simp only [List.drop_succ_cons]
      first | done | (congr 1; omega)
    have e3 : ((r.drop 4).drop (2 * L.length)) = (x0 :: x1 :: x2 :: x3 :: r).drop (8 + 2 * L.length) := by
      rw [List.drop_drop, show 8 + 2 * L.length = (4 + 2 * L.length) + 1 + 1 + 1 + 1 from by omega]
      simp only [List.drop_succ_cons]
    have e4 : r.take 4 = [0, 0, 0, 0] := h4
    have e5 : (r.drop 4).take (2 * L.length) = dirB 256 L := hd
    rw [e2, hc, e3, hz0, e4, e5] at e1
    rw [encB, headB]
    conv => lhs; rw [e1, hx1, hx2, hx3]
    rfl
/-- what holds of the cells that were let through -/
structure RSt (b : List UInt8) (L : List S66) : Prop where
  each : ∀ c ∈ L, 1 ≤ c.f0.size ∧ c.f0.size ≤ 80 ∧ c.f0.size + c.f1.size ≤ 100
  asc : L.Pairwise fun c d => Op.bytesLess c.f0.toList d.f0.toList = true
  dir : (b.drop 8).take (2 * L.length) = dirB 256 L
  cells : b.drop (256 - total L) = cellsB L
  tot : total L ≤ 248
  from_ : fromB b ((L.length : Int) - 1) = 256 - total L
theorem RSt.nil {b : List UInt8} (hl : b.length = 256) : RSt b [] :=
  ⟨(fun c hc => by cases hc), List.Pairwise.nil, rfl, by show b.drop 256 = []; rw [List.drop_of_length_le (by omega)], by show 0 ≤ 248; omega, rfl⟩
theorem cut_list (b : List UInt8) (l h : Nat) : (cut b l h).data.toList = (b.drop l).take (h - l) := rfl
theorem cut_size (b : List UInt8) (l h : Nat) (h1 : l ≤ h) (h2 : h ≤ b.length) : (cut b l h).size = h - l := by
  rw [← sz, cut_list]; simp; omega
theorem RSt.snoc {b : List UInt8} {L : List S66} (h : RSt b L) (hl : b.length = 256) (f e kl : Nat) (hk : 9 + 2 * L.length < 256) (hf : fromB b (L.length : Int) = f) (he : fromB b ((L.length : Int) - 1) = e) (hkl : at_ b (9 + 2 * L.length) = kl)
    (h1 : f < e) (h2 : 8 ≤ f) (h3 : kl ≤ e - f) (hm : mayB (cut b f (f + kl)) (cut b (f + kl) e) = true) (ho : L ≠ [] → Op.bytesLess (lastK L).toList (cut b f (f + kl)).toList = true) : RSt b (L ++ [⟨cut b f (f + kl), cut b (f + kl) e⟩]) := by
  have hfe := h.from_
  rw [he] at hfe
  have ht := h.tot
  have s0 : (cut b f (f + kl)).size = kl := by rw [cut_size _ _ _ (by omega) (by omega)]; omega
  have s1 : (cut b (f + kl) e).size = e - (f + kl) := cut_size _ _ _ (by omega) (by omega)
  have hcz : cz ⟨cut b f (f + kl), cut b (f + kl) e⟩ = e - f := by show (cut b f (f + kl)).size + (cut b (f + kl) e).size = _; omega
  have htot : total (L ++ [⟨cut b f (f + kl), cut b (f + kl) e⟩]) = 256 - f := by rw [total_append, total, hcz, total]; omega
  have hff : at_ b (8 + 2 * L.length) = f := by
    unfold fromB at hf
    rwa [if_neg (by omega), Int.toNat_natCast] at hf
  refine ⟨?_, ?_, ?_, ?_, by rw [htot]; omega, ?_⟩
  · intro c hc
    rcases List.mem_append.1 hc with hc | hc
    · exact h.each c hc
    · rw [List.mem_singleton] at hc; subst hc; exact of_decide_eq_true hm
  · refine List.pairwise_append.2 ⟨h.asc, List.pairwise_singleton _ _, fun c hc d hd => ?_⟩
    rw [List.mem_singleton] at hd; subst hd
    have hne : L ≠ [] := fun e => by subst e; cases hc
    obtain ⟨i, hi, rfl⟩ := List.getElem_of_mem hc
    have e1 : L.getLast? = some (L[L.length - 1]'(by omega)) := by rw [List.getLast?_eq_getElem?, List.getElem?_eq_getElem (by omega)]
    have e2 : lastK L = (L[L.length - 1]'(by omega)).f0 := by unfold lastK; rw [e1]
    have h4 := ho hne
    rw [e2] at h4
    by_cases h0 : i = L.length - 1
    · subst h0; exact h4
    · exact less_trans (asc_lt h.asc i (L.length - 1) hi (by omega) (by omega)) h4
  · rw [List.length_append, List.length_singleton, show 2 * (L.length + 1) = 2 * L.length + 1 + 1 from by omega, List.take_succ_eq_append_getElem (by rw [List.length_drop]; omega), List.take_succ_eq_append_getElem (by rw [List.length_drop]; omega), h.dir, dirB_append, List.append_assoc]
    congr 1
    rw [List.getElem_drop, List.getElem_drop, at_get b _ (by omega), at_get b _ (by omega), hff, show 8 + (2 * L.length + 1) = 9 + 2 * L.length from by omega, hkl]
    simp only [dirB, hcz, List.cons_append, List.nil_append]
    rw [show 256 - total L - (e - f) = f from by omega, s0]
  · rw [htot, cellsB_append, show 256 - (256 - f) = f from by omega]
    have hc := h.cells
    rw [← hfe] at hc
    have e1 : b.drop f = (b.drop f).take kl ++ (((b.drop f).drop kl).take (e - f - kl) ++ ((b.drop f).drop kl).drop (e - f - kl)) := by rw [List.take_append_drop, List.take_append_drop]
    rw [e1, List.drop_drop, List.drop_drop, show f + kl + (e - f - kl) = e from by omega, hc]
    simp only [cellsB, cellB, cut_list, List.nil_append, List.append_assoc]
    rw [show f + kl - f = kl from by omega, show e - (f + kl) = e - f - kl from by omega]
  · rw [List.length_append, List.length_singleton, htot, show (((L.length + 1 : Nat) : Int) - 1) = (L.length : Int) from by omega, hf]; omega
theorem lastK_snoc (L : List S66) (c : S66) : lastK (L ++ [c]) = c.f0 := by unfold lastK; rw [List.getLast?_concat]
/-- all tests let them through: they are a page's bytes -/
theorem read_all {s : ByteArray} (hs : s.size = 256) (h0 : s.data.toList.getD 0 0 ≠ 0) (hb : bytesR (clearS s.data.toList) = s) (L : List S66) (h : RSt (clearS s.data.toList) L) (hN : at_ (clearS s.data.toList) 1 = L.length) (hu : 256 - total L = 256 - usedB (clearS s.data.toList)) (hu2 : usedB (clearS s.data.toList) ≤ 256)
    (hroom : 2 * L.length + usedB (clearS s.data.toList) ≤ 248) (hz : ∀ k, 8 + 2 * L.length ≤ k → k < 256 - usedB (clearS s.data.toList) → at_ (clearS s.data.toList) k = 0) : readP s := by
  have hl : (clearS s.data.toList).length = 256 := clearS_len (by rw [sz, hs])
  have htot := h.tot
  have hut : usedB (clearS s.data.toList) = total L := by omega
  have hf : Fits L := by unfold Fits; omega
  have h4 : ((clearS s.data.toList).drop 4).take 4 = [0, 0, 0, 0] := by
    have hsl : s.data.toList.length = 256 := by rw [sz, hs]
    unfold clearS splice
    rw [List.drop_append, List.drop_of_length_le (by rw [List.length_take]; omega), List.nil_append, List.length_take, Nat.min_eq_left (by omega)]
    rfl
  have he := enc_of hl L hN hut hf h4 h.dir (fun k a b => hz k a (by omega)) h.cells
  refine ⟨_, L, ?_, ⟨hf, h.each, h.asc⟩, (hb.symm.trans (congrArg bytesR he))⟩
  have hsl : s.data.toList.length = 256 := by rw [sz, hs]
  have e0 : (clearS s.data.toList).getD 0 0 = s.data.toList.getD 0 0 := by
    unfold clearS splice
    simp [List.getD_eq_getElem?_getD, List.getElem?_append, hsl]
  rw [e0]; exact h0
end Go.Proofs.Ytinbppcfdmbclaa.Pg
