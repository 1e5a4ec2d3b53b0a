/- Parts of a page's array, copied over and cleared. No condition beyond those that each theorem names. -/
import Derived.Test.YtinbppcfdmbclaaPagB
import Derived.Laws.CopyOwn
import Derived.Lib.BufferWrite
import Derived.Lib.SliceRun
namespace Go.Proofs.Ytinbppcfdmbclaa.Pg
open Go.RowKit Go.Proofs.YtinbppcfdmbclaaW.PrintWords Go.Proofs.YtinbppcfdmbclaaW.PrintLast Go.Proofs.YtinbppcfdmbclaaW.PrintMore
set_option linter.unusedVariables false
set_option linter.unusedSimpArgs false
theorem splice_len {b cs : List UInt8} {o : Nat} (hb : b.length = 256) (h : o + cs.length ≤ 256) : (splice b o cs).length = 256 := by rw [length_splice _ _ _ (by omega), hb]
theorem PG.row {w : World} {g : Nat} {b : List UInt8} (h : PG w g b) (o : Nat) (cs : List UInt8) (hl : o + cs.length ≤ 256) : PG (w.setRow g ((pgL b).toArray.toList.take o ++ cs.map u8 ++ (pgL b).toArray.toList.drop (o + cs.length)).toArray) g (splice b o cs) := by
  refine ⟨?_, splice_len h.len hl⟩
  rw [setRow_heap w g _ _ 58 (0, 0) h.blk]
  congr 3
  have hb := h.len
  simp only [pgL, splice, List.map_append, List.map_take, List.map_drop]
  rw [List.take_append_of_le_length (by simp; omega), List.drop_append_of_le_length (by simp; omega)]
  simp
theorem BelX.row {g : Nat} {a b : World} (h : BelX g a b) (cs : Array Value) : BelX g a (b.setRow g cs) :=
  ⟨h.os, h.tape, h.output, by simpa [World.setRow] using h.size, fun k hk hg => (setRow_other b g k cs hg).trans (h.block k hk hg)⟩
theorem u8_one (l : List UInt8) : ∀ v ∈ l.map u8, v.oneCell' = true := by
  intro v hv
  obtain ⟨b, _, rfl⟩ := List.mem_map.1 hv
  rfl
theorem PG.part {w : World} {g : Nat} {b : List UInt8} (h : PG w g b) (s e : Nat) (he : e ≤ 256) : ∀ (j : Nat) (v : Value), (((b.drop s).take (e - s)).map u8)[j]? = some v → w.cell? ((⟨g, s, none⟩ : Addr).add j) = some v := by
  intro j v hj
  have hb := h.len
  obtain ⟨hl, hv⟩ := List.getElem?_eq_some_iff.1 hj
  have hl' : j < e - s ∧ j < 256 - s := by simp at hl; omega
  rw [show (⟨g, s, none⟩ : Addr).add j = ⟨g, s + j, none⟩ from by unfold Addr.add; split <;> simp_all, h.cell (s + j) (by omega), ← hv]
  simp only [List.getElem_map, u8, List.getElem_take, List.getElem_drop, at_, List.getD_eq_getElem?_getD]
  rw [List.getElem?_eq_getElem (by omega)]; rfl
/-- 'copy(b[d:], b[s:e])' -/
theorem copy_pg {w : World} {g : Nat} {b : List UInt8} (h : PG w g b) (A B : Addr) (d s e nd cd ns cs : Nat) (hns : ns = e - s) (hA : 0 < nd → A = ⟨g, d, none⟩) (hB : 0 < ns → B = ⟨g, s, none⟩) (hse : s ≤ e) (he : e ≤ 256) (hle : ns ≤ nd) (hd : d + ns ≤ 256) :
    ∃ w', (Builtin.copy_ #[30, 30] 3 #[.slice (some A) nd cd, .slice (some B) ns cs]).run Try.prog w = .ok (.int .i64 (ns : Int)) w' ∧ PG w' g (splice b d ((b.drop s).take (e - s))) ∧ BelX g w w' := by
  have hb := h.len
  have hlen : ((b.drop s).take (e - s)).length = ns := by simp; omega
  have hs5 : (Try.prog.info? 5).map (·.size) = some 1 := by
    obtain ⟨i0, hi, hz⟩ := Option.map_eq_some_iff.1 info5
    simp only [Prod.mk.injEq] at hz
    rw [hi, Option.map_some, hz.2.1]
  by_cases h0 : ns = 0
  · refine ⟨w, ?_, ?_, BelX.refl _ _⟩
    · rw [run_copy_none (P := Try.prog) w 30 30 3 5 (some A) (some B) nd cd ns cs Try.underlying30 hs5 (by rw [h0]; exact Nat.zero_min _), h0]; rfl
    · have : (b.drop s).take (e - s) = [] := List.eq_nil_of_length_eq_zero (by omega)
      rw [this]
      have : splice b d [] = b := by simp [splice]
      rwa [this]
  · obtain rfl := hA (by omega)
    obtain rfl := hB (by omega)
    have hrun := run_copy_row (P := Try.prog) w 30 30 3 5 g d nd cd ⟨g, s, none⟩ ns cs _ 58 (((b.drop s).take (e - s)).map u8) Try.underlying30 hs5 h.blk (by rw [List.length_map, hlen]; exact (Nat.min_eq_left hle).symm) (h.part s e he) (by simp [pgL, hb]; omega) (u8_one _)
    have hrow := h.row d ((b.drop s).take (e - s)) (by omega)
    rw [List.length_map, hlen] at hrun
    rw [hlen] at hrow
    exact ⟨_, hrun, hrow, (BelX.refl g w).row _⟩
/-- 'clear(b[l:h])' -/
theorem clear_pg {w : World} {g : Nat} {b : List UInt8} (h : PG w g b) (A : Addr) (l n c : Nat) (hA : 0 < n → A = ⟨g, l, none⟩) (hl : l + n ≤ 256) (ty : TypeId) :
    ∃ w', (Builtin.clear_ #[30] ty #[.slice (some A) n c]).run Try.prog w = .ok (.tuple #[]) w' ∧ PG w' g (splice b l (List.replicate n 0)) ∧ BelX g w w' := by
  have hb := h.len
  cases n with
  | zero =>
    refine ⟨w, ?_, ?_, BelX.refl _ _⟩
    · simp [Builtin.clear_, run_underlying Try.underlying30]
    · have : splice b l (List.replicate 0 0) = b := by simp [splice]
      rwa [this]
  | succ m =>
    obtain rfl := hA (by omega)
    have hzc : (Builtin.zeroCells (Value.int .u8 0).cells (m + 1)).toList = (List.replicate (m + 1) (0 : UInt8)).map u8 := by
      rw [show (Value.int .u8 0).cells = #[.int .u8 0] from rfl, List.map_replicate, show u8 0 = .int .u8 0 from rfl]
      simp [Builtin.zeroCells]
      apply List.ext_getElem
      · simp
      · intro i h1 h2
        simp [Nat.mod_one]
    have hst := run_storeCells_at Try.prog g l 58 ((List.replicate (m + 1) (0 : UInt8)).map u8) 0 _ w h.blk (by simp [pgL, hb]; omega) (u8_one _)
    simp only [Nat.add_zero] at hst
    refine ⟨_, ?_, ?_, (BelX.refl g w).row ((pgL b).toArray.toList.take l ++ (List.replicate (m + 1) (0 : UInt8)).map u8 ++ (pgL b).toArray.toList.drop (l + ((List.replicate (m + 1) (0 : UInt8)).map u8).length)).toArray⟩
    · simp only [Builtin.clear_, Sem.run_bind, Sem.run_pure, Result.andThen_ok, run_underlying Try.underlying30, List.getElem?_toArray, List.getElem?_cons_zero]
      rw [Try.zeroValue5]
      simp only [Result.andThen_ok, hzc, hst]
    · have := h.row l (List.replicate (m + 1) 0) (by simp; omega)
      rw [List.length_map]; exact this
/-- 'copy(b[l:h], s)', the text as long as the part -/
theorem copy_str_pg {w : World} {g : Nat} {b : List UInt8} (h : PG w g b) (A : Addr) (d n c : Nat) (s : ByteArray) (hA : 0 < n → A = ⟨g, d, none⟩) (hn : s.size = n) (hd : d + n ≤ 256) :
    ∃ w', (Builtin.copy_ #[30, 9] 3 #[.slice (some A) n c, .string s]).run Try.prog w = .ok (.int .i64 (n : Int)) w' ∧ PG w' g (splice b d s.data.toList) ∧ BelX g w w' := by
  have hb := h.len
  have hs5 : (Try.prog.info? 5).map (·.size) = some 1 := by
    obtain ⟨i0, hi, hz⟩ := Option.map_eq_some_iff.1 info5
    simp only [Prod.mk.injEq] at hz
    rw [hi, Option.map_some, hz.2.1]
  have hsz : s.data.toList.length = n := by rw [Array.length_toList]; exact hn
  by_cases h0 : n = 0
  · refine ⟨w, ?_, ?_, BelX.refl _ _⟩
    · rw [Lib.run_copy_empty_string (P := Try.prog) w 30 9 3 5 (some A) n c s Try.underlying30 (by rw [hs5]; rfl) (by omega), h0]; rfl
    · have : s.data.toList = [] := List.eq_nil_of_length_eq_zero (by omega)
      rw [this]
      have : splice b d [] = b := by simp [splice]
      rwa [this]
  · obtain rfl := hA (by omega)
    have hrun := Lib.run_copy_row_string (P := Try.prog) w 30 9 3 5 g d n c s _ 58 Try.underlying30 hs5 h.blk (by omega) (by simp [pgL, hb]; omega)
    have hrow := h.row d s.data.toList (by omega)
    rw [hsz] at hrow
    rw [hn] at hrun
    exact ⟨_, hrun, hrow, (BelX.refl g w).row _⟩
end Go.Proofs.Ytinbppcfdmbclaa.Pg
