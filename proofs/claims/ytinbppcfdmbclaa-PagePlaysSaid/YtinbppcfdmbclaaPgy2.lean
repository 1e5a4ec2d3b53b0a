/- Functions of the seat as plain Lean functions, each with a proof that the call answers what the function tells; written by a program of this work. No condition beyond those that each theorem names. -/
import Derived.Test.YtinbppcfdmbclaaPgx0
import Derived.Test.YtinbppcfdmbclaaPgx2
namespace Go.Proofs.Ytinbppcfdmbclaa.Pg
open Go.RowKit Go.Proofs.YtinbppcfdmbclaaW.PrintWords Go.Proofs.YtinbppcfdmbclaaW.PrintLast Go.Proofs.YtinbppcfdmbclaaW.PrintMore
attribute [local go_sem] max2_int min2_int max_two min_two max_three min_three max_four min_four   -- for this text's walks alone
set_option linter.unusedVariables false
set_option linter.unusedSimpArgs false

theorem w64sz (n : Nat) (h : n ≤ 9223372036854775807) : wrap64 (248 - (n : Int)) = 248 - (n : Int) := by unfold wrap64; omega
/-! ### quaysideref12_Bytes: function 39 -/
def quaysideref12_Bytes.l0 : Nat → ByteArray → ByteArray → Int → Int → Int → List (S66) → Option (ByteArray)
  | 0, _, _, _, _, _, _ => none
  | k + 1, x3, x4, x5, x6, x147000, x147001 => if x6 < (x147001.length : Int) then (if 0 ≤ x6 then ((some (([(Go.bits .and .i64 (wrap64 ((wrap64 (x5 - (((rd_T66 x147001 x6).f0).size : Int))) - (((rd_T66 x147001 x6).f1).size : Int))) 255) % 256, ((((rd_T66 x147001 x6).f0).size : Int)) % 256] : List Int) : List Int)).bind fun y149 => (if x3.size + (strOfNums y149).size ≤ 9223372036854775807 then (if ((rd_T66 x147001 x6).f0).size + ((rd_T66 x147001 x6).f1).size ≤ 9223372036854775807 then (if (((rd_T66 x147001 x6).f0) ++ ((rd_T66 x147001 x6).f1)).size + x4.size ≤ 9223372036854775807 then (quaysideref12_Bytes.l0 k (x3 ++ (strOfNums y149)) ((((rd_T66 x147001 x6).f0) ++ ((rd_T66 x147001 x6).f1)) ++ x4) (wrap64 ((wrap64 (x5 - (((rd_T66 x147001 x6).f0).size : Int))) - (((rd_T66 x147001 x6).f1).size : Int))) (wrap64 (x6 + 1)) x147000 x147001) else (none)) else (none)) else (none))) else (none)) else ((some (([(x147000) % 256, ((x147001.length : Int)) % 256, (Go.bits .and .i64 (x4.size : Int) 255) % 256, ((x4.size : Int) / 256) % 256] : List Int) : List Int)).bind fun y152 => (if 0 ≤ (wrap64 ((wrap64 (248 - (x3.size : Int))) - (x4.size : Int))) then (if (wrap64 ((wrap64 (248 - (x3.size : Int))) - (x4.size : Int)) : Int).toNat ≤ 281474976710656 then ((some (List.replicate (wrap64 ((wrap64 (248 - (x3.size : Int))) - (x4.size : Int)) : Int).toNat 0 : List Int)).bind fun y155 => (if x3.size + (strOfNums y155).size ≤ 9223372036854775807 then (if (x3 ++ (strOfNums y155)).size + x4.size ≤ 9223372036854775807 then (if (strOfNums y152).size + 4 ≤ 9223372036854775807 then (if ((strOfNums y152) ++ (⟨#[0, 0, 0, 0]⟩ : ByteArray)).size + ((x3 ++ (strOfNums y155)) ++ x4).size ≤ 9223372036854775807 then ((quaysideref02_Sum.f k (((strOfNums y152) ++ (⟨#[0, 0, 0, 0]⟩ : ByteArray)) ++ ((x3 ++ (strOfNums y155)) ++ x4))).bind fun t158 => ((quaysideref02_Put.f t158).bind fun t159 => (if (strOfNums y152).size + t159.size ≤ 9223372036854775807 then (if ((strOfNums y152) ++ t159).size + ((x3 ++ (strOfNums y155)) ++ x4).size ≤ 9223372036854775807 then (some (((strOfNums y152) ++ t159) ++ ((x3 ++ (strOfNums y155)) ++ x4))) else (none)) else (none)))) else (none)) else (none)) else (none)) else (none))) else (none)) else (none)))
def quaysideref12_Bytes.f (k : Nat) (a0_0 : Int) (l0_1 : List (S66)) : Option (ByteArray) := quaysideref12_Bytes.l0 k (⟨#[]⟩ : ByteArray) (⟨#[]⟩ : ByteArray) 256 0 a0_0 l0_1
theorem quaysideref12_Bytes.mono_l : ∀ k, (∀ y0 y1 y2 y3 y4 y5, LeO (quaysideref12_Bytes.l0 k y0 y1 y2 y3 y4 y5) (quaysideref12_Bytes.l0 (k + 1) y0 y1 y2 y3 y4 y5))
  | 0 => fun _ _ _ _ _ _ r h => by simp [quaysideref12_Bytes.l0] at h
  | k + 1 => by
    have ih0 := quaysideref12_Bytes.mono_l k
    · intro y0 y1 y2 y3 y4 y5
      unfold quaysideref12_Bytes.l0
      repeat' first
      | (with_reducible exact ih0 _ _ _ _ _ _)
      | (with_reducible exact quaysideref02_Sum.mono _ _)
      | (with_reducible exact LeO.refl _)
      | (with_reducible exact LeO.none _)
      | (with_reducible refine LeO.ite ?_ ?_)
      | (with_reducible refine LeO.bind ?_ (fun _ => ?_))
      | exact ih0 _ _ _ _ _ _
      | exact quaysideref02_Sum.mono _ _
      | exact LeO.none _
      | refine LeO.ite ?_ ?_
      | refine LeO.bind ?_ (fun _ => ?_)
theorem quaysideref12_Bytes.mono : ∀ a0 a1 k, LeO (quaysideref12_Bytes.f k a0 a1) (quaysideref12_Bytes.f (k + 1) a0 a1) := by
  intro a0 a1 k
  have ih0 := quaysideref12_Bytes.mono_l k
  unfold quaysideref12_Bytes.f
  repeat' first
      | (with_reducible exact ih0 _ _ _ _ _ _)
      | (with_reducible exact quaysideref02_Sum.mono _ _)
      | (with_reducible exact LeO.refl _)
      | (with_reducible exact LeO.none _)
      | (with_reducible refine LeO.ite ?_ ?_)
      | (with_reducible refine LeO.bind ?_ (fun _ => ?_))
      | exact ih0 _ _ _ _ _ _
      | exact quaysideref02_Sum.mono _ _
      | exact LeO.none _
      | refine LeO.ite ?_ ?_
      | refine LeO.bind ?_ (fun _ => ?_)
set_option maxHeartbeats 8000000 in
set_option maxRecDepth 100000 in
theorem quaysideref12_Bytes.calls (k : Nat) (a0_0 : Int) (A0_1 : Option Addr) (c0_1 : Nat) (l0_1 : List (S66)) (r : ByteArray) (w : World) (hr0_1 : Kd.C k66 w A0_1 l0_1.length l0_1) (hc0_1 : l0_1.length ≤ c0_1) (h : quaysideref12_Bytes.f k a0_0 l0_1 = some r) :
    Calls Try.prog 39 #[.agg #[.int .i64 a0_0, .slice A0_1 l0_1.length c0_1]] w fun e w' => e = .returned (.string r) ∧ Below w.heap.size w w' := by
  have hu27 := Try.underlying27
  have hu66 := Try.underlying66
  have HR0_1 := Aside0.mk hr0_1
  have HC0_1 := Aside0.mk hc0_1
  clear hr0_1 hc0_1
  have HB := Aside0.mk (Below.refl w.heap.size w)
  have H : (quaysideref12_Bytes.l0 k (⟨#[]⟩ : ByteArray) (⟨#[]⟩ : ByteArray) 256 0 a0_0 l0_1) = some r := h
  clear h
  have H' := Aside0.mk H
  clear H
  go_enter Try.func39, Try.ntmps39
  go_wp2_with (first | ((with_reducible refine gate_dst (N := 1) rfl ?_); refine box_event ?hg (N := 1) ?hd (cs := #[.int .i64 a0_0, .slice A0_1 l0_1.length c0_1]) (t := 27) ?hr ?_; (case hd => rfl); (case hg => rfl); (case hr => first | (go_simp; done) | (go_simp; rfl)); intro gb146 hg w2 hbox hb; have n0_ := Aside0.mk (below_step (by repeat (first | (with_reducible first | exact HB.out | apply below_alloc | apply pw_below_drewN | apply below_drew1) | exact HB.out)) hb); have n1_ := Aside0.mk (hbox); have n2_ := Aside0.mk ((by rw [hg]; exact (below_size (by repeat (first | (with_reducible first | exact HB.out | apply below_alloc | apply pw_below_drewN | apply below_drew1) | exact HB.out))) : w.heap.size ≤ gb146)); have n3_ := Aside0.mk ((by rw [hg]; exact (below_size (by repeat (first | (with_reducible first | exact HB.out | apply below_alloc | apply pw_below_drewN | apply below_drew1) | exact HB.out))) : w.heap.size ≤ gb146)); clear HB; have HB := n0_; have BK146 := n1_; have GW146 := n2_; have GE146 := n3_; clear n0_ n1_ n2_ n3_; clear hb hbox hg))
  go_loopg [3, 4, 5, 6] k (fun kq v3 v4 v5 v6 w' => ∃ (x3_1 : ByteArray) (x4_1 : ByteArray) (x5_1 : Int) (x6_1 : Int), v3 = .string x3_1 ∧ v4 = .string x4_1 ∧ v5 = .int .i64 x5_1 ∧ v6 = .int .i64 x6_1 ∧ Aside0 (quaysideref12_Bytes.l0 kq x3_1 x4_1 x5_1 x6_1 a0_0 l0_1 = some r) ∧ Aside0 (kq ≤ k) ∧ Aside0 (w'.heap[gb146]? = some (.cells #[.int .i64 a0_0, (.slice A0_1 l0_1.length c0_1)] 27 (0, 0))) ∧ Aside0 (Below w.heap.size w w'))
  case atStart => exact ⟨((⟨#[]⟩ : ByteArray)), ((⟨#[]⟩ : ByteArray)), (256), (0), (by first | rfl | (simp; done) | (simp [*]; done)), (by first | rfl | (simp; done) | (simp [*]; done)), (by first | rfl | (simp; done) | (simp [*]; done)), (by first | rfl | (simp; done) | (simp [*]; done)), H', ⟨Nat.le_refl _⟩, ⟨by (with_reducible repeat (first | refine blk_drewN ?_ _ | refine blk_drew ?_ | refine blk_alloc ?_ _)); exact BK146.out⟩, ⟨by repeat (first | (with_reducible first | exact HB.out | apply below_alloc | apply pw_below_drewN | apply below_drew1 | refine below_set ?_ GE146.out) | exact HB.out)⟩⟩
  case round =>
    clear H'
    try clear p2
    obtain ⟨x3_1, x4_1, x5_1, x6_1, rfl, rfl, rfl, rfl, HA, HK1, BK146, HB⟩ := hrel
    cases gk with
    | zero => exact absurd HA.out (by simp [quaysideref12_Bytes.l0])
    | succ k1 =>
      have H := HA.out
      clear HA
      simp only [quaysideref12_Bytes.l0] at H
      by_cases c3 : x6_1 < (l0_1.length : Int)
      · rw [if_pos c3] at H
        have c3b0 : decide (x6_1 < (l0_1.length : Int)) = true := decide_eq_true c3
        clear c3
        by_cases c4 : 0 ≤ x6_1
        · rw [if_pos c4] at H
          have c4b0 : decide (0 ≤ x6_1) = true := decide_eq_true c4
          clear c4
          obtain ⟨y149, hy149⟩ : ∃ y_ : List Int, y_ = (([(Go.bits .and .i64 (wrap64 ((wrap64 (x5_1 - (((rd_T66 l0_1 x6_1).f0).size : Int))) - (((rd_T66 l0_1 x6_1).f1).size : Int))) 255) % 256, ((((rd_T66 l0_1 x6_1).f0).size : Int)) % 256] : List Int)) := ⟨_, rfl⟩
          replace H : (if x3_1.size + (strOfNums y149).size ≤ 9223372036854775807 then (if ((rd_T66 l0_1 x6_1).f0).size + ((rd_T66 l0_1 x6_1).f1).size ≤ 9223372036854775807 then (if (((rd_T66 l0_1 x6_1).f0) ++ ((rd_T66 l0_1 x6_1).f1)).size + x4_1.size ≤ 9223372036854775807 then (quaysideref12_Bytes.l0 k1 (x3_1 ++ (strOfNums y149)) ((((rd_T66 l0_1 x6_1).f0) ++ ((rd_T66 l0_1 x6_1).f1)) ++ x4_1) (wrap64 ((wrap64 (x5_1 - (((rd_T66 l0_1 x6_1).f0).size : Int))) - (((rd_T66 l0_1 x6_1).f1).size : Int))) (wrap64 (x6_1 + 1)) a0_0 l0_1) else (none)) else (none)) else (none)) = some r := by first | (rw [hy149]; with_reducible exact H) | (have H2_ := (Option.bind_some _ _).symm.trans H; rw [hy149]; with_reducible exact H2_) | (have H2_ := (Option.bind_some _ _).symm.trans H; with_reducible exact H2_) | with_reducible exact H | (rw [hy149]; exact H) | exact H
          have Ny149 := Aside0.mk hy149
          clear hy149
          by_cases c5 : x3_1.size + (strOfNums y149).size ≤ 9223372036854775807
          · rw [if_pos c5] at H
            have c5b0 := eq_true c5
            have c5b1 : decide (x3_1.size + (strOfNums y149).size ≤ 9223372036854775807) = true := decide_eq_true c5
            try have c5b2 : (9223372036854775807 < x3_1.size + (strOfNums y149).size) = False := eq_false (Nat.not_lt.2 c5)
            by_cases c6 : ((rd_T66 l0_1 x6_1).f0).size + ((rd_T66 l0_1 x6_1).f1).size ≤ 9223372036854775807
            · rw [if_pos c6] at H
              have c6b0 := eq_true c6
              have c6b1 : decide (((rd_T66 l0_1 x6_1).f0).size + ((rd_T66 l0_1 x6_1).f1).size ≤ 9223372036854775807) = true := decide_eq_true c6
              try have c6b2 : (9223372036854775807 < ((rd_T66 l0_1 x6_1).f0).size + ((rd_T66 l0_1 x6_1).f1).size) = False := eq_false (Nat.not_lt.2 c6)
              by_cases c7 : (((rd_T66 l0_1 x6_1).f0) ++ ((rd_T66 l0_1 x6_1).f1)).size + x4_1.size ≤ 9223372036854775807
              · rw [if_pos c7] at H
                have c7b0 := eq_true c7
                have c7b1 : decide ((((rd_T66 l0_1 x6_1).f0) ++ ((rd_T66 l0_1 x6_1).f1)).size + x4_1.size ≤ 9223372036854775807) = true := decide_eq_true c7
                try have c7b2 : (9223372036854775807 < (((rd_T66 l0_1 x6_1).f0) ++ ((rd_T66 l0_1 x6_1).f1)).size + x4_1.size) = False := eq_false (Nat.not_lt.2 c7)
                have H' := Aside0.mk H
                clear H
                have hcz8_0 : wr.cell? ⟨gb146, 0, none⟩ = some (.int .i64 a0_0) := (blk_cell BK146.out 0).trans rfl
                have hcz8_1 : wr.cell? ⟨gb146, 1, none⟩ = some (.slice A0_1 l0_1.length c0_1) := (blk_cell BK146.out 1).trans rfl
                have hfz8_0 := blk_frozen BK146.out 0
                have hfz8_1 := blk_frozen BK146.out 1
                have p147 : 0 ≤ (x6_1 : Int) := of_decide_eq_true (by first | (with_reducible assumption) | assumption)
                have q147 : x6_1 < (l0_1.length : Int) := of_decide_eq_true (by first | (with_reducible assumption) | assumption)
                obtain ⟨ad147, e147, hx147_0, hx147_1⟩ := at_T66 HR0_1.out x6_1 p147 q147
                cases e147
                replace hx147_0 := (HB.out.cell (World.block_lt_of_cell? w _ hx147_0)).trans hx147_0
                replace hx147_1 := (HB.out.cell (World.block_lt_of_cell? w _ hx147_1)).trans hx147_1
                replace p147 := eq_true p147
                replace q147 := eq_true q147
                go_wp2_with (first | ((with_reducible refine gate_dst (N := 7) rfl ?_); refine box_event ?hg (N := 7) ?hd (cs := #[.string (⟨#[]⟩ : ByteArray), .string (⟨#[]⟩ : ByteArray)]) (t := 66) ?hr ?_; (case hd => rfl); (case hg => rfl); (case hr => first | (go_simp; done) | (go_simp; rfl)); intro gb148 hg w9 hbox hb; have n0_ := Aside0.mk (blk_below (g := gb146) (o := .cells #[.int .i64 a0_0, .slice (some ad147) l0_1.length c0_1] 27 (0, 0)) (by (with_reducible repeat (first | refine blk_drewN ?_ _ | refine blk_drew ?_ | refine blk_alloc ?_ _)); exact BK146.out) hb); have n1_ := Aside0.mk (below_step (by repeat (first | (with_reducible first | exact HB.out | apply below_alloc | apply pw_below_drewN | apply below_drew1 | refine below_set ?_ GE146.out) | exact HB.out)) hb); have n2_ := Aside0.mk (hbox); have n3_ := Aside0.mk ((by rw [hg]; exact (below_size (by repeat (first | (with_reducible first | exact HB.out | apply below_alloc | apply pw_below_drewN | apply below_drew1 | refine below_set ?_ GE146.out) | exact HB.out))) : w.heap.size ≤ gb148)); have n4_ := Aside0.mk ((by rw [hg]; exact (below_size (by repeat (first | (with_reducible first | exact HB.out | apply below_alloc | apply pw_below_drewN | apply below_drew1 | refine below_set ?_ GE146.out) | exact HB.out))) : w.heap.size ≤ gb148)); have n5_ := Aside0.mk ((by rw [hg]; exact Nat.ne_of_lt (blk_lt (g := gb146) (o := .cells #[.int .i64 a0_0, .slice (some ad147) l0_1.length c0_1] 27 (0, 0)) (by (with_reducible repeat (first | refine blk_drewN ?_ _ | refine blk_drew ?_ | refine blk_alloc ?_ _)); exact BK146.out)) : gb146 ≠ gb148)); have n6_ := Aside0.mk ((by rw [hg]; exact Nat.ne_of_gt (blk_lt (g := gb146) (o := .cells #[.int .i64 a0_0, .slice (some ad147) l0_1.length c0_1] 27 (0, 0)) (by (with_reducible repeat (first | refine blk_drewN ?_ _ | refine blk_drew ?_ | refine blk_alloc ?_ _)); exact BK146.out)) : gb148 ≠ gb146)); clear BK146; clear HB; have BK146 := n0_; have HB := n1_; have BK148 := n2_; have GW148 := n3_; have GE148 := n4_; have NB146_148 := n5_; have NB148_146 := n6_; clear n0_ n1_ n2_ n3_ n4_ n5_ n6_; clear hb hbox hg; have hnb10 := NB148_146.out; have hnc10 := NB146_148.out; have hcz11_0 : w9.cell? ⟨gb148, 0, none⟩ = some (.string (⟨#[]⟩ : ByteArray)) := (blk_cell BK148.out 0).trans rfl; have hcz11_1 : w9.cell? ⟨gb148, 1, none⟩ = some (.string (⟨#[]⟩ : ByteArray)) := (blk_cell BK148.out 1).trans rfl; have hfz11_0 := blk_frozen BK148.out 0; have hfz11_1 := blk_frozen BK148.out 1) | ((with_reducible refine gate_dst (N := 39) rfl ?_); refine Kd.R_lit (Kd.int .u8) _ 5 ?hg (N := 39) ?hd (xs := ([(Go.bits .and .i64 (wrap64 ((wrap64 (x5_1 - (((rd_T66 l0_1 x6_1).f0).size : Int))) - (((rd_T66 l0_1 x6_1).f1).size : Int))) 255) % 256, ((((rd_T66 l0_1 x6_1).f0).size : Int)) % 256] : List Int)) (inner := [.int .u8 ((Go.bits .and .i64 (wrap64 ((wrap64 (x5_1 - (((rd_T66 l0_1 x6_1).f0).size : Int))) - (((rd_T66 l0_1 x6_1).f1).size : Int))) 255) % 256), .int .u8 (((((rd_T66 l0_1 x6_1).f0).size : Int)) % 256)]) (ok := fun _ => True) (okp := fun _ => True) ?hr ?hp (fun _ hk => hk) trivial (Below.refl _ _) (Nat.le_refl _) (by simp) ?_; (case hd => rfl); (case hg => rfl); (case hr => first | (go_simp; done) | (go_simp; rfl)); (case hp => exact (Reps.one (show Kd.M (Kd.int .u8) _ _ _ ((Go.bits .and .i64 (wrap64 ((wrap64 (x5_1 - (((rd_T66 l0_1 x6_1).f0).size : Int))) - (((rd_T66 l0_1 x6_1).f1).size : Int))) 255) % 256) [.int .u8 ((Go.bits .and .i64 (wrap64 ((wrap64 (x5_1 - (((rd_T66 l0_1 x6_1).f0).size : Int))) - (((rd_T66 l0_1 x6_1).f1).size : Int))) 255) % 256)] from rfl) (Reps.one (show Kd.M (Kd.int .u8) _ _ _ (((((rd_T66 l0_1 x6_1).f0).size : Int)) % 256) [.int .u8 (((((rd_T66 l0_1 x6_1).f0).size : Int)) % 256)] from rfl) (Reps.none _ _)))); intro v150 w12 ho13 hb hg_ hnew_; clear hg_ hnew_; (first | rw [← Ny149.out] at ho13 | (simp only [Int.reduceToNat] at ho13; rw [← Ny149.out] at ho13)); have n0_ := Aside0.mk (Kd.R_lower ho13 (below_size (by repeat (first | (with_reducible first | exact HB.out | apply below_alloc | apply pw_below_drewN | apply below_drew1 | refine below_set ?_ GE146.out | refine below_set ?_ GE148.out) | exact HB.out)))); have n1_ := Aside0.mk (blk_below (g := gb146) (o := .cells #[.int .i64 a0_0, .slice (some ad147) l0_1.length c0_1] 27 (0, 0)) (by (with_reducible repeat (first | refine blk_drewN ?_ _ | refine blk_drew ?_ | refine blk_alloc ?_ _)); refine blk_far ?_ NB146_148.out _; (with_reducible repeat (first | refine blk_drewN ?_ _ | refine blk_drew ?_ | refine blk_alloc ?_ _)); refine blk_far ?_ NB146_148.out _; (with_reducible repeat (first | refine blk_drewN ?_ _ | refine blk_drew ?_ | refine blk_alloc ?_ _)); exact BK146.out) hb); have n2_ := Aside0.mk (blk_below (g := gb148) (o := .cells #[.string ((rd_T66 l0_1 x6_1).f0), .string ((rd_T66 l0_1 x6_1).f1)] 66 (0, 0)) (by (with_reducible repeat (first | refine blk_drewN ?_ _ | refine blk_drew ?_ | refine blk_alloc ?_ _)); refine blk_put (cs := #[.string ((rd_T66 l0_1 x6_1).f0), .string (⟨#[]⟩ : ByteArray)]) ?_ 1 _ rfl; (with_reducible repeat (first | refine blk_drewN ?_ _ | refine blk_drew ?_ | refine blk_alloc ?_ _)); refine blk_put (cs := #[.string (⟨#[]⟩ : ByteArray), .string (⟨#[]⟩ : ByteArray)]) ?_ 0 _ rfl; (with_reducible repeat (first | refine blk_drewN ?_ _ | refine blk_drew ?_ | refine blk_alloc ?_ _)); exact BK148.out) hb); have n3_ := Aside0.mk (below_step (by repeat (first | (with_reducible first | exact HB.out | apply below_alloc | apply pw_below_drewN | apply below_drew1 | refine below_set ?_ GE146.out | refine below_set ?_ GE148.out) | exact HB.out)) hb); clear BK146; clear BK148; clear HB; have HO151 := n0_; have BK146 := n1_; have BK148 := n2_; have HB := n3_; clear n0_ n1_ n2_ n3_; clear hb ho13; have hcv14 := own_string (P := Try.prog) Try.underlying30 Try.underlying5 Try.underlying9 (Kd.own_of_R HO151.out); have hcz15_0 : w12.cell? ⟨gb148, 0, none⟩ = some (.string ((rd_T66 l0_1 x6_1).f0)) := (blk_cell BK148.out 0).trans rfl; have hcz15_1 : w12.cell? ⟨gb148, 1, none⟩ = some (.string ((rd_T66 l0_1 x6_1).f1)) := (blk_cell BK148.out 1).trans rfl; have hfz15_0 := blk_frozen BK148.out 0; have hfz15_1 := blk_frozen BK148.out 1))
                go_roundg k1
                case measure => have := HK1.out; omega
                case rel => exact ⟨(x3_1 ++ (strOfNums y149)), ((((rd_T66 l0_1 x6_1).f0) ++ ((rd_T66 l0_1 x6_1).f1)) ++ x4_1), (wrap64 ((wrap64 (x5_1 - (((rd_T66 l0_1 x6_1).f0).size : Int))) - (((rd_T66 l0_1 x6_1).f1).size : Int))), (wrap64 (x6_1 + 1)), (by first | rfl | (simp; done) | (simp [*]; done)), (by first | rfl | (simp; done) | (simp [*]; done)), (by first | rfl | (simp; done) | (simp [*]; done)), (by first | rfl | (simp; done) | (simp [*]; done)), H', ⟨by have := HK1.out; omega⟩, ⟨by (with_reducible repeat (first | refine blk_drewN ?_ _ | refine blk_drew ?_ | refine blk_alloc ?_ _)); exact BK146.out⟩, ⟨by repeat (first | (with_reducible first | exact HB.out | apply below_alloc | apply pw_below_drewN | apply below_drew1 | refine below_set ?_ GE146.out | refine below_set ?_ GE148.out) | exact HB.out)⟩⟩
              · rw [if_neg c7] at H
                exact absurd H (by simp)
            · rw [if_neg c6] at H
              exact absurd H (by simp)
          · rw [if_neg c5] at H
            exact absurd H (by simp)
        · rw [if_neg c4] at H
          exact absurd H (by simp)
      · rw [if_neg c3] at H
        have c3b0 : decide (x6_1 < (l0_1.length : Int)) = false := decide_eq_false c3
        clear c3
        obtain ⟨y152, hy152⟩ : ∃ y_ : List Int, y_ = (([(a0_0) % 256, ((l0_1.length : Int)) % 256, (Go.bits .and .i64 (x4_1.size : Int) 255) % 256, ((x4_1.size : Int) / 256) % 256] : List Int)) := ⟨_, rfl⟩
        replace H : (if 0 ≤ (wrap64 ((wrap64 (248 - (x3_1.size : Int))) - (x4_1.size : Int))) then (if (wrap64 ((wrap64 (248 - (x3_1.size : Int))) - (x4_1.size : Int)) : Int).toNat ≤ 281474976710656 then ((some (List.replicate (wrap64 ((wrap64 (248 - (x3_1.size : Int))) - (x4_1.size : Int)) : Int).toNat 0 : List Int)).bind fun y155 => (if x3_1.size + (strOfNums y155).size ≤ 9223372036854775807 then (if (x3_1 ++ (strOfNums y155)).size + x4_1.size ≤ 9223372036854775807 then (if (strOfNums y152).size + 4 ≤ 9223372036854775807 then (if ((strOfNums y152) ++ (⟨#[0, 0, 0, 0]⟩ : ByteArray)).size + ((x3_1 ++ (strOfNums y155)) ++ x4_1).size ≤ 9223372036854775807 then ((quaysideref02_Sum.f k1 (((strOfNums y152) ++ (⟨#[0, 0, 0, 0]⟩ : ByteArray)) ++ ((x3_1 ++ (strOfNums y155)) ++ x4_1))).bind fun t158 => ((quaysideref02_Put.f t158).bind fun t159 => (if (strOfNums y152).size + t159.size ≤ 9223372036854775807 then (if ((strOfNums y152) ++ t159).size + ((x3_1 ++ (strOfNums y155)) ++ x4_1).size ≤ 9223372036854775807 then (some (((strOfNums y152) ++ t159) ++ ((x3_1 ++ (strOfNums y155)) ++ x4_1))) else (none)) else (none)))) else (none)) else (none)) else (none)) else (none))) else (none)) else (none)) = some r := by first | (rw [hy152]; with_reducible exact H) | (have H2_ := (Option.bind_some _ _).symm.trans H; rw [hy152]; with_reducible exact H2_) | (have H2_ := (Option.bind_some _ _).symm.trans H; with_reducible exact H2_) | with_reducible exact H | (rw [hy152]; exact H) | exact H
        have Ny152 := Aside0.mk hy152
        clear hy152
        obtain ⟨ji16, hji16⟩ : ∃ j_ : Int, (wrap64 ((wrap64 (248 - (x3_1.size : Int))) - (x4_1.size : Int))) = j_ := ⟨_, rfl⟩
        replace H : (if 0 ≤ (ji16) then (if (ji16 : Int).toNat ≤ 281474976710656 then ((some (List.replicate (ji16 : Int).toNat 0 : List Int)).bind fun y155 => (if x3_1.size + (strOfNums y155).size ≤ 9223372036854775807 then (if (x3_1 ++ (strOfNums y155)).size + x4_1.size ≤ 9223372036854775807 then (if (strOfNums y152).size + 4 ≤ 9223372036854775807 then (if ((strOfNums y152) ++ (⟨#[0, 0, 0, 0]⟩ : ByteArray)).size + ((x3_1 ++ (strOfNums y155)) ++ x4_1).size ≤ 9223372036854775807 then ((quaysideref02_Sum.f k1 (((strOfNums y152) ++ (⟨#[0, 0, 0, 0]⟩ : ByteArray)) ++ ((x3_1 ++ (strOfNums y155)) ++ x4_1))).bind fun t158 => ((quaysideref02_Put.f t158).bind fun t159 => (if (strOfNums y152).size + t159.size ≤ 9223372036854775807 then (if ((strOfNums y152) ++ t159).size + ((x3_1 ++ (strOfNums y155)) ++ x4_1).size ≤ 9223372036854775807 then (some (((strOfNums y152) ++ t159) ++ ((x3_1 ++ (strOfNums y155)) ++ x4_1))) else (none)) else (none)))) else (none)) else (none)) else (none)) else (none))) else (none)) else (none)) = some r := by first | (rw [hji16] at H; exact H) | (simp only [hji16] at H ⊢; exact H)
        have hji16w : (IntKind.i64.wrap ((wrap64 (248 - (x3_1.size : Int))) - (x4_1.size : Int))) = ji16 := (i64_w _).trans hji16
        by_cases c17 : 0 ≤ (ji16)
        · rw [if_pos c17] at H
          have c17b0 := eq_true c17
          have c17b1 : decide (0 ≤ (ji16)) = true := decide_eq_true c17
          clear c17
          by_cases c18 : (ji16 : Int).toNat ≤ 281474976710656
          · rw [if_pos c18] at H
            have c18b0 := eq_true c18
            have c18b1 : decide ((ji16 : Int).toNat ≤ 281474976710656) = true := decide_eq_true c18
            clear c18
            obtain ⟨y155, hy155⟩ : ∃ y_ : List Int, y_ = (List.replicate (ji16 : Int).toNat 0) := ⟨_, rfl⟩
            replace H : (if x3_1.size + (strOfNums y155).size ≤ 9223372036854775807 then (if (x3_1 ++ (strOfNums y155)).size + x4_1.size ≤ 9223372036854775807 then (if (strOfNums y152).size + 4 ≤ 9223372036854775807 then (if ((strOfNums y152) ++ (⟨#[0, 0, 0, 0]⟩ : ByteArray)).size + ((x3_1 ++ (strOfNums y155)) ++ x4_1).size ≤ 9223372036854775807 then ((quaysideref02_Sum.f k1 (((strOfNums y152) ++ (⟨#[0, 0, 0, 0]⟩ : ByteArray)) ++ ((x3_1 ++ (strOfNums y155)) ++ x4_1))).bind fun t158 => ((quaysideref02_Put.f t158).bind fun t159 => (if (strOfNums y152).size + t159.size ≤ 9223372036854775807 then (if ((strOfNums y152) ++ t159).size + ((x3_1 ++ (strOfNums y155)) ++ x4_1).size ≤ 9223372036854775807 then (some (((strOfNums y152) ++ t159) ++ ((x3_1 ++ (strOfNums y155)) ++ x4_1))) else (none)) else (none)))) else (none)) else (none)) else (none)) else (none)) = some r := by first | (rw [hy155]; with_reducible exact H) | (have H2_ := (Option.bind_some _ _).symm.trans H; rw [hy155]; with_reducible exact H2_) | (have H2_ := (Option.bind_some _ _).symm.trans H; with_reducible exact H2_) | with_reducible exact H | (rw [hy155]; exact H) | exact H
            have Ny155 := Aside0.mk hy155
            clear hy155
            by_cases c19 : x3_1.size + (strOfNums y155).size ≤ 9223372036854775807
            · rw [if_pos c19] at H
              have c19b0 := eq_true c19
              have c19b1 : decide (x3_1.size + (strOfNums y155).size ≤ 9223372036854775807) = true := decide_eq_true c19
              try have c19b2 : (9223372036854775807 < x3_1.size + (strOfNums y155).size) = False := eq_false (Nat.not_lt.2 c19)
              by_cases c20 : (x3_1 ++ (strOfNums y155)).size + x4_1.size ≤ 9223372036854775807
              · rw [if_pos c20] at H
                have c20b0 := eq_true c20
                have c20b1 : decide ((x3_1 ++ (strOfNums y155)).size + x4_1.size ≤ 9223372036854775807) = true := decide_eq_true c20
                try have c20b2 : (9223372036854775807 < (x3_1 ++ (strOfNums y155)).size + x4_1.size) = False := eq_false (Nat.not_lt.2 c20)
                by_cases c21 : (strOfNums y152).size + 4 ≤ 9223372036854775807
                · rw [if_pos c21] at H
                  have c21b0 := eq_true c21
                  have c21b1 : decide ((strOfNums y152).size + 4 ≤ 9223372036854775807) = true := decide_eq_true c21
                  try have c21b2 : (9223372036854775807 < (strOfNums y152).size + 4) = False := eq_false (Nat.not_lt.2 c21)
                  by_cases c22 : ((strOfNums y152) ++ (⟨#[0, 0, 0, 0]⟩ : ByteArray)).size + ((x3_1 ++ (strOfNums y155)) ++ x4_1).size ≤ 9223372036854775807
                  · rw [if_pos c22] at H
                    have c22b0 := eq_true c22
                    have c22b1 : decide (((strOfNums y152) ++ (⟨#[0, 0, 0, 0]⟩ : ByteArray)).size + ((x3_1 ++ (strOfNums y155)) ++ x4_1).size ≤ 9223372036854775807) = true := decide_eq_true c22
                    try have c22b2 : (9223372036854775807 < ((strOfNums y152) ++ (⟨#[0, 0, 0, 0]⟩ : ByteArray)).size + ((x3_1 ++ (strOfNums y155)) ++ x4_1).size) = False := eq_false (Nat.not_lt.2 c22)
                    replace H := Option.bind_eq_some_iff.mp H
                    obtain ⟨t158, A230, H⟩ := H
                    replace H : ((quaysideref02_Put.f t158).bind fun t159 => (if (strOfNums y152).size + t159.size ≤ 9223372036854775807 then (if ((strOfNums y152) ++ t159).size + ((x3_1 ++ (strOfNums y155)) ++ x4_1).size ≤ 9223372036854775807 then (some (((strOfNums y152) ++ t159) ++ ((x3_1 ++ (strOfNums y155)) ++ x4_1))) else (none)) else (none))) = some r := H
                    have A23 := Aside0.mk A230
                    clear A230
                    replace H := Option.bind_eq_some_iff.mp H
                    obtain ⟨t159, A240, H⟩ := H
                    replace H : (if (strOfNums y152).size + t159.size ≤ 9223372036854775807 then (if ((strOfNums y152) ++ t159).size + ((x3_1 ++ (strOfNums y155)) ++ x4_1).size ≤ 9223372036854775807 then (some (((strOfNums y152) ++ t159) ++ ((x3_1 ++ (strOfNums y155)) ++ x4_1))) else (none)) else (none)) = some r := H
                    have A24 := Aside0.mk A240
                    clear A240
                    by_cases c25 : (strOfNums y152).size + t159.size ≤ 9223372036854775807
                    · rw [if_pos c25] at H
                      have c25b0 := eq_true c25
                      have c25b1 : decide ((strOfNums y152).size + t159.size ≤ 9223372036854775807) = true := decide_eq_true c25
                      try have c25b2 : (9223372036854775807 < (strOfNums y152).size + t159.size) = False := eq_false (Nat.not_lt.2 c25)
                      by_cases c26 : ((strOfNums y152) ++ t159).size + ((x3_1 ++ (strOfNums y155)) ++ x4_1).size ≤ 9223372036854775807
                      · rw [if_pos c26] at H
                        have c26b0 := eq_true c26
                        have c26b1 : decide (((strOfNums y152) ++ t159).size + ((x3_1 ++ (strOfNums y155)) ++ x4_1).size ≤ 9223372036854775807) = true := decide_eq_true c26
                        try have c26b2 : (9223372036854775807 < ((strOfNums y152) ++ t159).size + ((x3_1 ++ (strOfNums y155)) ++ x4_1).size) = False := eq_false (Nat.not_lt.2 c26)
                        obtain rfl := Option.some.inj H
                        have hcz27_0 : wr.cell? ⟨gb146, 0, none⟩ = some (.int .i64 a0_0) := (blk_cell BK146.out 0).trans rfl
                        have hcz27_1 : wr.cell? ⟨gb146, 1, none⟩ = some (.slice A0_1 l0_1.length c0_1) := (blk_cell BK146.out 1).trans rfl
                        have hfz27_0 := blk_frozen BK146.out 0
                        have hfz27_1 := blk_frozen BK146.out 1
                        have hji16v : wrap64 (248 - (x3_1.size : Int) - (x4_1.size : Int)) = ji16 := by rw [← hji16, w64sz _ (Nat.le_trans (Nat.le_add_right _ _) c19)]
                        go_wp2_with (first | ((with_reducible refine gate_dst (N := 64) rfl ?_); refine Kd.R_lit (Kd.int .u8) _ 5 ?hg (N := 64) ?hd (xs := ([(a0_0) % 256, ((l0_1.length : Int)) % 256, (Go.bits .and .i64 (x4_1.size : Int) 255) % 256, ((x4_1.size : Int) / 256) % 256] : List Int)) (inner := [.int .u8 ((a0_0) % 256), .int .u8 (((l0_1.length : Int)) % 256), .int .u8 ((Go.bits .and .i64 (x4_1.size : Int) 255) % 256), .int .u8 (((x4_1.size : Int) / 256) % 256)]) (ok := fun _ => True) (okp := fun _ => True) ?hr ?hp (fun _ hk => hk) trivial (Below.refl _ _) (Nat.le_refl _) (by simp) ?_; (case hd => rfl); (case hg => rfl); (case hr => first | (go_simp; done) | (go_simp; rfl)); (case hp => exact (Reps.one (show Kd.M (Kd.int .u8) _ _ _ ((a0_0) % 256) [.int .u8 ((a0_0) % 256)] from rfl) (Reps.one (show Kd.M (Kd.int .u8) _ _ _ (((l0_1.length : Int)) % 256) [.int .u8 (((l0_1.length : Int)) % 256)] from rfl) (Reps.one (show Kd.M (Kd.int .u8) _ _ _ ((Go.bits .and .i64 (x4_1.size : Int) 255) % 256) [.int .u8 ((Go.bits .and .i64 (x4_1.size : Int) 255) % 256)] from rfl) (Reps.one (show Kd.M (Kd.int .u8) _ _ _ (((x4_1.size : Int) / 256) % 256) [.int .u8 (((x4_1.size : Int) / 256) % 256)] from rfl) (Reps.none _ _)))))); intro v153 w28 ho29 hb hg_ hnew_; clear hg_ hnew_; (first | rw [← Ny152.out] at ho29 | (simp only [Int.reduceToNat] at ho29; rw [← Ny152.out] at ho29)); have n0_ := Aside0.mk (Kd.R_lower ho29 (below_size (by repeat (first | (with_reducible first | exact HB.out | apply below_alloc | apply pw_below_drewN | apply below_drew1 | refine below_set ?_ GE146.out) | exact HB.out)))); have n1_ := Aside0.mk (blk_below (g := gb146) (o := .cells #[.int .i64 a0_0, .slice A0_1 l0_1.length c0_1] 27 (0, 0)) (by (with_reducible repeat (first | refine blk_drewN ?_ _ | refine blk_drew ?_ | refine blk_alloc ?_ _)); exact BK146.out) hb); have n2_ := Aside0.mk (below_step (by repeat (first | (with_reducible first | exact HB.out | apply below_alloc | apply pw_below_drewN | apply below_drew1 | refine below_set ?_ GE146.out) | exact HB.out)) hb); clear BK146; clear HB; have HO154 := n0_; have BK146 := n1_; have HB := n2_; clear n0_ n1_ n2_; clear hb ho29; have hcv30 := own_string (P := Try.prog) Try.underlying30 Try.underlying5 Try.underlying9 (Kd.own_of_R HO154.out)) | ((with_reducible refine gate_dst (N := 73) rfl ?_); simp only [hji16v]; refine Kd.R_make (Kd.int .u8) _ 5 rfl (N := 73) rfl 30 _ _ rfl ji16 rfl rfl Try.underlying30 (.int .u8 0) 1 info5 rfl (by decide) (by omega) 0 (ok := fun _ => True) (okp := fun _ => True) rfl (fun _ hk => hk) trivial (of_decide_eq_true (by first | (with_reducible assumption) | assumption)) (Nat.le_trans (Nat.mul_le_mul_right _ (of_decide_eq_true (by first | (with_reducible assumption) | assumption) : ji16.toNat ≤ 281474976710656)) (by omega)) (Below.refl _ _) (Nat.le_refl _) ?_; intro v156 w31 ho32 hb hg_ hnew_; clear hg_ hnew_; (first | rw [← Ny155.out] at ho32 | (simp only [Int.reduceToNat] at ho32; rw [← Ny155.out] at ho32)); have n0_ := Aside0.mk (Kd.R_elder' (by (with_reducible repeat (first | apply Kd.R_alloc | apply Kd.R_drewN | apply Kd.R_drew)); exact HO154.out) (Kd.R_base ho32) hb); have n1_ := Aside0.mk (Kd.R_lower (Kd.R_new' ho32 (Kd.R_lt (by (with_reducible repeat (first | apply Kd.R_alloc | apply Kd.R_drewN | apply Kd.R_drew)); exact HO154.out))) (below_size (by repeat (first | (with_reducible first | exact HB.out | apply below_alloc | apply pw_below_drewN | apply below_drew1 | refine below_set ?_ GE146.out) | exact HB.out)))); have n2_ := Aside0.mk (blk_below (g := gb146) (o := .cells #[.int .i64 a0_0, .slice A0_1 l0_1.length c0_1] 27 (0, 0)) (by (with_reducible repeat (first | refine blk_drewN ?_ _ | refine blk_drew ?_ | refine blk_alloc ?_ _)); exact BK146.out) hb); have n3_ := Aside0.mk (below_step (by repeat (first | (with_reducible first | exact HB.out | apply below_alloc | apply pw_below_drewN | apply below_drew1 | refine below_set ?_ GE146.out) | exact HB.out)) hb); clear HO154; clear BK146; clear HB; have HO154 := n0_; have HO157 := n1_; have BK146 := n2_; have HB := n3_; clear n0_ n1_ n2_ n3_; clear hb ho32; have hcv33 := own_string (P := Try.prog) Try.underlying30 Try.underlying5 Try.underlying9 (Kd.own_of_R HO157.out)) | ((with_reducible refine gate_callee (f := 50) rfl ?_); refine goesL_ (some 83) rfl rfl Try.func50 (by kernel_rfl) rfl #[.string (((strOfNums y152) ++ (⟨#[0, 0, 0, 0]⟩ : ByteArray)) ++ ((x3_1 ++ (strOfNums y155)) ++ x4_1))] rfl (by (try simp only [List.map_toArray, List.map_cons, List.map_nil]); first | done | rfl | (simp only [List.length_drop, List.length_take]; rfl)) ?_; (with_reducible refine (quaysideref02_Sum.calls k1 (((strOfNums y152) ++ (⟨#[0, 0, 0, 0]⟩ : ByteArray)) ++ ((x3_1 ++ (strOfNums y155)) ++ x4_1)) t158 _ A23.out).mono ?_); rintro e w' ⟨rfl, ⟨nd, rfl⟩⟩; refine ⟨_, rfl, ?_⟩) | ((with_reducible refine gate_callee (f := 49) rfl ?_); refine goesL_ (some 84) rfl rfl Try.func49 (by kernel_rfl) rfl #[.int .i64 t158] rfl (by (try simp only [List.map_toArray, List.map_cons, List.map_nil]); first | done | rfl | (simp only [List.length_drop, List.length_take]; rfl)) ?_; (with_reducible refine (quaysideref02_Put.calls t158 t159 _ A24.out).mono ?_); rintro e w34 ⟨rfl, hb⟩; refine ⟨_, rfl, ?_⟩; have n0_ := Aside0.mk (Kd.R_below (by (with_reducible repeat (first | apply Kd.R_alloc | apply Kd.R_drewN | apply Kd.R_drew)); exact HO154.out) hb); have n1_ := Aside0.mk (Kd.R_below (by (with_reducible repeat (first | apply Kd.R_alloc | apply Kd.R_drewN | apply Kd.R_drew)); exact HO157.out) hb); have n2_ := Aside0.mk (blk_below (g := gb146) (o := .cells #[.int .i64 a0_0, .slice A0_1 l0_1.length c0_1] 27 (0, 0)) (by (with_reducible repeat (first | refine blk_drewN ?_ _ | refine blk_drew ?_ | refine blk_alloc ?_ _)); exact BK146.out) hb); have n3_ := Aside0.mk (below_step (by repeat (first | (with_reducible first | exact HB.out | apply below_alloc | apply pw_below_drewN | apply below_drew1 | refine below_set ?_ GE146.out) | exact HB.out)) hb); clear HO154; clear HO157; clear BK146; clear HB; have HO154 := n0_; have HO157 := n1_; have BK146 := n2_; have HB := n3_; clear n0_ n1_ n2_ n3_; (try clear hb); (try clear hb2); (try clear hk); (try clear hi)))
                        go_ret
                        exact ⟨by first | rfl | (simp [errW_none, errW_some] <;> rfl) | (simp only [← hji16]; first | rfl | (simp [errW_none, errW_some] <;> rfl)) | (simp [*, errW_none, errW_some] <;> rfl), by repeat (first | (with_reducible first | exact HB.out | apply below_alloc | apply pw_below_drewN | apply below_drew1 | refine below_set ?_ GE146.out) | exact HB.out)⟩
                      · rw [if_neg c26] at H
                        exact absurd H (by simp)
                    · rw [if_neg c25] at H
                      exact absurd H (by simp)
                  · rw [if_neg c22] at H
                    exact absurd H (by simp)
                · rw [if_neg c21] at H
                  exact absurd H (by simp)
              · rw [if_neg c20] at H
                exact absurd H (by simp)
            · rw [if_neg c19] at H
              exact absurd H (by simp)
          · rw [if_neg c18] at H
            exact absurd H (by simp)
        · rw [if_neg c17] at H
          exact absurd H (by simp)

end Go.Proofs.Ytinbppcfdmbclaa.Pg
