/- A page's Put, walked: the cells that it leaves. No condition beyond those that each theorem names. -/
import Derived.Test.YtinbppcfdmbclaaPagJ
import Derived.Test.YtinbppcfdmbclaaPgx1
namespace Go.Proofs.Ytinbppcfdmbclaa.Pg
open Go.RowKit Go.Proofs.YtinbppcfdmbclaaW.PrintWords Go.Proofs.YtinbppcfdmbclaaW.PrintLast Go.Proofs.YtinbppcfdmbclaaW.PrintMore
set_option linter.unusedVariables false
set_option linter.unusedSimpArgs false
/-- are a key and a value a cell? -/
def mayB (key value : ByteArray) : Bool := decide (1 ≤ key.size ∧ key.size ≤ 80 ∧ key.size + value.size ≤ 100)
theorem cell_f (key value : ByteArray) : page_cell.f key value = some (mayB key value) := by
  unfold page_cell.f mayB
  by_cases h1 : (key.size : Int) ≥ 1
  · rw [if_pos h1]
    by_cases h2 : (key.size : Int) ≤ 80
    · rw [if_pos h2, w64s _ (by omega) (by omega)]
      congr 1
      exact decide_eq_decide.2 (by omega)
    · rw [if_neg h2]
      congr 1
      exact (decide_eq_false (by omega)).symm
  · rw [if_neg h1]
    congr 1
    exact (decide_eq_false (by omega)).symm
theorem may_f (key value : ByteArray) : quaysideref12_May.f key value = some (mayB key value) := cell_f key value
/-- the cells ahead of a key's place, and those behind it -/
def aheadL (L : List S66) (key : ByteArray) : List S66 := L.take (fN L key)
def behindL (L : List S66) (key : ByteArray) : List S66 := L.drop (if there L key = true then fN L key + 1 else fN L key)
/-- the cells with a key's value put -/
def insL (L : List S66) (key value : ByteArray) : List S66 := aheadL L key ++ ⟨key, value⟩ :: behindL L key
theorem ahead_len (L : List S66) (key : ByteArray) : (aheadL L key).length = fN L key := by
  rw [aheadL, List.length_take, Nat.min_eq_left (fN_le L key)]
theorem there_lt {L : List S66} {key : ByteArray} (h : there L key = true) : ∃ hk : fN L key < L.length, L[fN L key].f0 = key := by
  unfold there at h
  by_cases hk : fN L key < L.length
  · rw [List.getElem?_eq_getElem hk] at h
    exact ⟨hk, ba_ext (by have := beq_iff_eq.1 h; rwa [ba_list, ba_list] at this)⟩
  · rw [List.getElem?_eq_none (by omega)] at h; cases h
theorem parts_there {L : List S66} {key : ByteArray} (h : there L key = true) : ∃ c, c.f0 = key ∧ L = aheadL L key ++ c :: behindL L key ∧ L[fN L key]? = some c := by
  obtain ⟨hk, he⟩ := there_lt h
  refine ⟨L[fN L key], he, ?_, List.getElem?_eq_getElem hk⟩
  rw [aheadL, behindL, if_pos h, ← List.drop_eq_getElem_cons hk, List.take_append_drop]
theorem parts_not {L : List S66} {key : ByteArray} (h : there L key = false) : L = aheadL L key ++ behindL L key := by
  rw [aheadL, behindL, if_neg (by simp [h]), List.take_append_drop]
theorem fN_less : ∀ (L : List S66) (key : ByteArray) (i : Nat) (h : i < L.length), i < fN L key → Op.bytesLess L[i].f0.toList key.toList = true
  | [], _, i, h, _ => absurd h (by simp)
  | c :: t, key, i, h, hi => by
    unfold fN at hi
    split at hi
    · rename_i hc
      cases i with
      | zero => exact hc
      | succ j => simpa using fN_less t key j (by simpa using h) (by omega)
    · omega
theorem fN_not : ∀ (L : List S66) (key : ByteArray) (h : fN L key < L.length), Op.bytesLess L[fN L key].f0.toList key.toList = false
  | [], _, h => absurd h (by simp)
  | c :: t, key, h => by
    by_cases hc : Op.bytesLess c.f0.toList key.toList = true
    · have e : fN (c :: t) key = fN t key + 1 := by rw [fN, if_pos hc]
      have := fN_not t key (by rw [e] at h; simpa using h)
      simp only [e]; simpa using this
    · have e : fN (c :: t) key = 0 := by rw [fN, if_neg hc]
      simp only [e]; simpa using hc
/-- what is put keeps the order -/
theorem ins_asc {L : List S66} (h : L.Pairwise fun c d => Op.bytesLess c.f0.toList d.f0.toList = true) (key value : ByteArray) : (insL L key value).Pairwise fun c d => Op.bytesLess c.f0.toList d.f0.toList = true := by
  have hA : ∀ c ∈ aheadL L key, Op.bytesLess c.f0.toList key.toList = true := by
    intro c hc
    obtain ⟨i, hi, rfl⟩ := List.getElem_of_mem hc
    rw [ahead_len] at hi
    have hl := fN_le L key
    have := fN_less L key i (by omega) hi
    simpa [aheadL] using this
  have hB : ∀ c ∈ behindL L key, Op.bytesLess key.toList c.f0.toList = true := by
    intro c hc
    obtain ⟨i, hi, rfl⟩ := List.getElem_of_mem hc
    by_cases ht : there L key = true
    · obtain ⟨hk, he⟩ := there_lt ht
      have hi' := hi
      simp only [behindL, if_pos ht, List.length_drop] at hi'
      have := asc_lt h (fN L key) (fN L key + 1 + i) hk (by omega) (by omega)
      rw [he] at this
      simpa [behindL, ht] using this
    · have ht' : there L key = false := by simpa using ht
      have hi' := hi
      simp only [behindL, if_neg ht, List.length_drop] at hi'
      have hk : fN L key < L.length := by omega
      have hn := fN_not L key hk
      have hne : L[fN L key].f0.toList ≠ key.toList := by
        intro e
        unfold there at ht'
        rw [List.getElem?_eq_getElem hk] at ht'
        simp [e] at ht'
      have h1 := less_total hn hne
      by_cases h0 : i = 0
      · subst h0; simpa [behindL, ht'] using h1
      · have := asc_lt h (fN L key) (fN L key + i) hk (by omega) (by omega)
        have := less_trans h1 this
        simpa [behindL, ht'] using this
  have hs : (aheadL L key ++ behindL L key).Pairwise fun c d => Op.bytesLess c.f0.toList d.f0.toList = true := by
    refine h.sublist ?_
    cases ht : there L key with
    | false => rw [← parts_not ht]; exact List.Sublist.refl _
    | true =>
      obtain ⟨c, -, e, -⟩ := parts_there ht
      conv => rhs; rw [e]
      exact List.Sublist.append_left (List.sublist_cons_self _ _) _
  rw [List.pairwise_append] at hs
  rw [insL, List.pairwise_append]
  refine ⟨hs.1, List.pairwise_cons.2 ⟨fun d hd => hB d hd, hs.2.1⟩, fun c hc d hd => ?_⟩
  rcases List.mem_cons.1 hd with rfl | hd
  · exact hA c hc
  · exact hs.2.2 c hc d hd
theorem ins_cells {L : List S66} (h : Cells L) (key value : ByteArray) (hm : mayB key value = true) (hf : Fits (insL L key value)) : Cells (insL L key value) := by
  refine ⟨hf, fun c hc => ?_, ins_asc h.asc key value⟩
  have hm' := of_decide_eq_true hm
  rw [insL, List.mem_append, List.mem_cons] at hc
  rcases hc with hc | rfl | hc
  · exact h.each c (List.mem_of_mem_take hc)
  · exact hm'
  · exact h.each c (List.mem_of_mem_drop hc)
end Go.Proofs.Ytinbppcfdmbclaa.Pg
