/- The reference's Split and Drop, in plain words. No condition beyond those that each theorem names. -/
import Derived.Test.YtinbppcfdmbclaaPageMade
import Derived.Test.YtinbppcfdmbclaaPgz4
namespace Go.Proofs.Ytinbppcfdmbclaa.Pg
open Go.RowKit Go.Proofs.YtinbppcfdmbclaaW.PrintWords Go.Proofs.YtinbppcfdmbclaaW.PrintLast Go.Proofs.YtinbppcfdmbclaaW.PrintMore
set_option linter.unusedVariables false
set_option linter.unusedSimpArgs false
theorem alloc_size (w : World) (o : Obj) : (w.alloc o).heap.size = w.heap.size + 1 := Array.size_push _
theorem alloc_at (w : World) (o : Obj) (n : Nat) (h : w.heap.size = n) : (w.alloc o).heap[n]? = some o := by subst h; exact heap_alloc_new w o
theorem alloc_old (w : World) (o : Obj) (n : Nat) (h : n < w.heap.size) : (w.alloc o).heap[n]? = w.heap[n]? := (below_alloc (Below.refl w.heap.size w) o).block n h
theorem three_alloc (w : World) (a b c : Obj) : (((w.alloc a).alloc b).alloc c).heap[w.heap.size]? = some a ∧ (((w.alloc a).alloc b).alloc c).heap[w.heap.size + 1]? = some b ∧ (((w.alloc a).alloc b).alloc c).heap[w.heap.size + 1 + 1]? = some c ∧ Below w.heap.size w (((w.alloc a).alloc b).alloc c) := by
  have s1 := alloc_size w a
  have s2 := alloc_size (w.alloc a) b
  refine ⟨?_, ?_, ?_, below_alloc (below_alloc (below_alloc (Below.refl _ _) a) b) c⟩
  · rw [alloc_old _ _ _ (by omega), alloc_old _ _ _ (by omega)]; exact heap_alloc_new w a
  · rw [alloc_old _ _ _ (by omega)]; exact alloc_at _ _ _ s1
  · exact alloc_at _ _ _ (by omega)
set_option maxRecDepth 100000 in
set_option maxHeartbeats 2000000 in
theorem RSplit_bad {w : World} (kind : Int) (A : Option Addr) (n cv : Nat) (k : Int) (hk : k < 0 ∨ (n : Int) < k) :
    Calls Try.prog 45 #[.agg #[.int .i64 kind, .slice A n cv], .int .i64 k] w fun e w' => e = .returned (.tuple #[.agg #[.int .i64 kind, .slice A n cv], .agg #[.int .i64 0, .slice none 0 0], .int .i64 1]) ∧ Below w.heap.size w w' := by
  have hu27 := Try.underlying27
  have HT := Aside0.mk (three_alloc w (.cells #[.int .i64 kind, .slice A n cv] 27) (.cells #[.int .i64 kind, .slice A n cv] 27) (.cells #[.int .i64 0, .slice none 0 0] 27))
  by_cases h0 : k < 0
  · have c0 : decide (k < 0) = true := decide_eq_true h0
    clear hk h0
    go_enter Try.func45, Try.ntmps45
    go_wp2_with fail
    exact bodyPost_ret (results_list (rs := [.cell 4 27, .cell 5 27, .tmp 6]) rfl (by simp) (.cell (w.heap.size + 1) 27 _ (0, 0) _ rfl HT.out.2.1 Try.underlying27 rfl (by kernel_rfl) (.cell (w.heap.size + 1 + 1) 27 _ (0, 0) _ rfl HT.out.2.2.1 Try.underlying27 rfl (by kernel_rfl) (.tmp .nil)))) rfl ⟨rfl, HT.out.2.2.2⟩
  · have c0 : decide (k < 0) = false := decide_eq_false h0
    have c1 : decide ((n : Int) < k) = true := decide_eq_true (by omega)
    clear hk h0
    go_enter Try.func45, Try.ntmps45
    go_wp2_with fail
    exact bodyPost_ret (results_list (rs := [.cell 4 27, .cell 5 27, .tmp 6]) rfl (by simp) (.cell (w.heap.size + 1) 27 _ (0, 0) _ rfl HT.out.2.1 Try.underlying27 rfl (by kernel_rfl) (.cell (w.heap.size + 1 + 1) 27 _ (0, 0) _ rfl HT.out.2.2.1 Try.underlying27 rfl (by kernel_rfl) (.tmp .nil)))) rfl ⟨rfl, HT.out.2.2.2⟩
set_option maxRecDepth 100000 in
set_option maxHeartbeats 2000000 in
theorem RSplit_ok {w : World} (kind : Int) (A : Option Addr) (n cv : Nat) (k : Nat) (hk : k ≤ n) (hc : n ≤ cv) (hn : n < 4294967296) :
    Calls Try.prog 45 #[.agg #[.int .i64 kind, .slice A n cv], .int .i64 (k : Int)] w fun e w' => e = .returned (.tuple #[.agg #[.int .i64 kind, .slice A k cv], .agg #[.int .i64 kind, .slice (if cv = k then A else A.map (·.add (k * 2))) (n - k) (cv - k)], .int .i64 0]) ∧ Below w.heap.size w w' := by
  have hu27 := Try.underlying27
  obtain ⟨i, hi, his⟩ := Option.map_eq_some_iff.1 info66
  have hsz : i.size = 2 := by simp at his; exact his.2.1
  have hs1 := cut_to (P := Try.prog) 22 66 .i64 Try.underlying22 hi A n cv (k : Int) (by omega) (by omega) hc
  have hs2 := cut_from (P := Try.prog) 22 66 .i64 Try.underlying22 hi 2 hsz A n cv (k : Int) (by omega) (by omega)
  simp only [Int.toNat_natCast] at hs1 hs2
  obtain ⟨A2, hA2⟩ : ∃ A2, (if cv = k then A else A.map (·.add (k * 2))) = A2 := ⟨_, rfl⟩
  rw [hA2] at hs2 ⊢
  clear hA2 hi his hsz
  have c0 : decide ((k : Int) < 0) = false := decide_eq_false (by omega)
  have c1 : decide ((n : Int) < (k : Int)) = false := decide_eq_false (by omega)
  have c2 : decide (n < k) = false := decide_eq_false (by omega)
  have HT := Aside0.mk (three_alloc w (.cells #[.int .i64 kind, .slice A n cv] 27) (.cells #[.int .i64 0, .slice none 0 0] 27) (.cells #[.int .i64 0, .slice none 0 0] 27))
  go_enter Try.func45, Try.ntmps45
  go_wp2_with fail
  generalize hW : (((w.alloc (.cells #[.int .i64 kind, .slice A n cv] 27)).alloc (.cells #[.int .i64 0, .slice none 0 0] 27)).alloc (.cells #[.int .i64 0, .slice none 0 0] 27)) = W0 at *
  clear hW
  obtain ⟨b, hb⟩ : ∃ b, w.heap.size = b := ⟨_, rfl⟩
  have HBW := Aside0.mk hb
  obtain ⟨hA, hB, hC, hD⟩ := HT.out
  have HB := Aside0.mk hB
  have HC := Aside0.mk hC
  have HD := Aside0.mk hD
  rw [hb] at hA hB hC HB HC
  simp only [hb]
  clear HT hD hb
  have hcA0 : W0.cell? ⟨b, 0, none⟩ = some (.int .i64 kind) := (blk_cell hA 0).trans rfl
  have hcA1 : W0.cell? ⟨b, 1, none⟩ = some (.slice A n cv) := (blk_cell hA 1).trans rfl
  have hcB0 : W0.cell? ⟨b + 1, 0, none⟩ = some (.int .i64 0) := (blk_cell hB 0).trans rfl
  have hcB1 : W0.cell? ⟨b + 1, 1, none⟩ = some (.slice none 0 0) := (blk_cell hB 1).trans rfl
  have hcC0 : W0.cell? ⟨b + 1 + 1, 0, none⟩ = some (.int .i64 0) := (blk_cell hC 0).trans rfl
  have hcC1 : W0.cell? ⟨b + 1 + 1, 1, none⟩ = some (.slice none 0 0) := (blk_cell hC 1).trans rfl
  have hfB0 := blk_frozen hB 0
  have hfB1 := blk_frozen hB 1
  have hfC0 := blk_frozen hC 0
  have hfC1 := blk_frozen hC 1
  clear hA hB hC
  go_region
  go_wp2
  have h1 := blk_put HB.out 0 (.int .i64 kind) rfl
  have h2 := blk_put h1 1 (.slice A k cv) rfl
  have g1 := blk_put ((Below.heap_setCell _ ⟨b + 1, 1, none⟩ (.slice A k cv) (b + 1 + 1) (by show b + 1 + 1 ≠ b + 1; omega)).trans ((Below.heap_setCell W0 ⟨b + 1, 0, none⟩ (.int .i64 kind) (b + 1 + 1) (by show b + 1 + 1 ≠ b + 1; omega)).trans HC.out)) 0 (.int .i64 kind) rfl
  have g2 := blk_put g1 1 (.slice A2 (n - k) (cv - k)) rfl
  have h3 := (Below.heap_setCell _ ⟨b + 1 + 1, 1, none⟩ (.slice A2 (n - k) (cv - k)) (b + 1) (by show b + 1 ≠ b + 1 + 1; omega)).trans ((Below.heap_setCell _ ⟨b + 1 + 1, 0, none⟩ (.int .i64 kind) (b + 1) (by show b + 1 ≠ b + 1 + 1; omega)).trans h2)
  refine bodyPost_ret (results_list (rs := [.cell 4 27, .cell 5 27, .tmp 6]) rfl (by simp) (.cell (b + 1) 27 _ (0, 0) _ rfl h3 Try.underlying27 rfl (by kernel_rfl) (.cell (b + 1 + 1) 27 _ (0, 0) _ rfl g2 Try.underlying27 rfl (by kernel_rfl) (.tmp .nil)))) rfl ⟨rfl, ?_⟩
  have hle := HBW.out
  exact below_drew1 (below_set (below_set (below_set (below_set HD.out (by show w.heap.size ≤ b + 1; omega)) (by show w.heap.size ≤ b + 1; omega)) (by show w.heap.size ≤ b + 1 + 1; omega)) (by show w.heap.size ≤ b + 1 + 1; omega))
/-- the reference's Drop, in plain words -/
theorem rdrop_f (kind : Int) (L : List S66) (key : ByteArray) (k : Nat) (hL : Fits L) (hk : 300 < k) : quaysideref12_Drop.f k kind L key = some (kind, (dropR L key).2, (dropR L key).1) := by
  have hL' := hL
  unfold Fits at hL'
  have hfl := fN_le L key
  unfold quaysideref12_Drop.f
  rw [rfind_f kind L key k (by omega) (by omega), Option.bind_some]
  unfold dropR
  cases ht : there L key with
  | false => rfl
  | true =>
    have hlt : fN L key < L.length := by
      unfold there at ht
      rcases Nat.lt_or_ge (fN L key) L.length with h | h
      · exact h
      · rw [List.getElem?_eq_none h] at ht; cases ht
    have hw : wrap64 (((fN L key : Nat) : Int) + 1) = ((fN L key + 1 : Nat) : Int) := by unfold wrap64; omega
    simp only [if_true, hw, Int.toNat_natCast, Option.bind_some, List.nil_append, List.length_nil]
    rw [if_pos (by omega), if_pos (by omega), if_pos (by rw [List.length_take]; omega), if_pos (by omega), if_pos (by omega), if_pos (by rw [List.length_take, List.length_drop]; omega)]
    simp only [aheadL, behindL, ht, if_true]
theorem rdrop_L {w0 w : World} {kind : Int} {u : Value} {L : List S66} (hB : Below w0.heap.size w0 w) (ho : Kd.R k66 66 w w0.heap.size (fun _ => True) u L) (hf : Fits L) (key : ByteArray) :
    Calls Try.prog 44 #[.agg #[.int .i64 kind, u], .string key] w fun e w' => ∃ v1 : Value, e = .returned (.tuple #[.agg #[.int .i64 kind, v1], .int .i64 (dropR L key).1]) ∧ Kd.R k66 66 w' w0.heap.size (fun _ => True) v1 (dropR L key).2 ∧ Below w.heap.size w w' := by
  refine (rdrop_strong 400 kind (fun _ => False) (fun _ => True) u L key kind (dropR L key).2 (dropR L key).1 w0 w hB ho (rdrop_f kind L key 400 hf (by omega))).mono ?_
  rintro e w' ⟨v1, h1, h2, h3, h4, h5⟩
  have hb := below_kept hB h4 h5
  refine ⟨v1, h1, ?_, hb⟩
  by_cases h0 : (dropR L key).1 = 0
  · exact Kd.R_mono (h2 h0) (fun _ _ => trivial)
  · have e2 : (dropR L key).2 = L := by
      unfold dropR at h0 ⊢
      split
      · rename_i a; rw [if_pos a] at h0; exact absurd rfl h0
      · rfl
    rw [h3 h0, e2]
    exact Kd.R_below ho hb
end Go.Proofs.Ytinbppcfdmbclaa.Pg
