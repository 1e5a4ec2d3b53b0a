/- value.CompareRows and its function 'at', walked by hand: what they answer as plain functions. No condition beyond those that each theorem names. -/
import Derived.Test.YtccpbacnfhbdlaaDoorVax0
import Derived.Test.YtccpbacnfhbdlaaDoorVax2
import Derived.Test.YtccpbacnfhbdlaaDoorPureVal1
namespace Go.Proofs.YtccpbacnfhbdlaaDoor.Va
open Go.RowKit Go.Proofs.YtccpbacnfhbdlaaDoorW.PrintWords Go.Proofs.YtccpbacnfhbdlaaDoorW.PrintLast Go.Proofs.YtccpbacnfhbdlaaDoorW.PrintMore
attribute [local go_sem] max2_int min2_int max_two min_two max_three min_three max_four min_four   -- for this text's walks alone
set_option linter.unusedVariables false
set_option linter.unusedSimpArgs false
/-! ### value_at: function 42 -/
def value_at.f (l0 : List (S23)) (a1 : Int) : Option (Int × Int × ByteArray) := if a1 < 0 then (some (0, 0, (⟨#[]⟩ : ByteArray))) else (if a1 ≥ (l0.length : Int) then (some (0, 0, (⟨#[]⟩ : ByteArray))) else (if 0 ≤ a1 then (if a1 < (l0.length : Int) then (some ((rd_T23 l0 a1).f0, (rd_T23 l0 a1).f1, (rd_T23 l0 a1).f2)) else (none)) else (none)))
set_option maxHeartbeats 8000000 in
set_option maxRecDepth 100000 in
theorem value_at.calls (A0 : Option Addr) (c0 : Nat) (l0 : List (S23)) (a1 : Int) (r1 : Int) (r2 : Int) (r3 : ByteArray) (w : World) (hr0 : Kd.C k23 w A0 l0.length l0) (hc0 : l0.length ≤ c0) (h : value_at.f l0 a1 = some (r1, r2, r3)) :
    Calls Tryd.prog 42 #[.slice A0 l0.length c0, .int .i64 a1] w fun e w' => e = .returned (.agg #[.int .i64 r1, .int .i64 r2, .string r3]) ∧ Below w.heap.size w w' := by
  have hu23 := Tryd.underlying23
  have HR0 := Aside0.mk hr0
  have HC0 := Aside0.mk hc0
  clear hr0 hc0
  have HB := Aside0.mk (Below.refl w.heap.size w)
  have H : (if a1 < 0 then (some (0, 0, (⟨#[]⟩ : ByteArray))) else (if a1 ≥ (l0.length : Int) then (some (0, 0, (⟨#[]⟩ : ByteArray))) else (if 0 ≤ a1 then (if a1 < (l0.length : Int) then (some ((rd_T23 l0 a1).f0, (rd_T23 l0 a1).f1, (rd_T23 l0 a1).f2)) else (none)) else (none)))) = some (r1, r2, r3) := h
  clear h
  by_cases c3 : a1 < 0
  · rw [if_pos c3] at H
    have c3b0 : decide (a1 < 0) = true := decide_eq_true c3
    clear c3
    simp only [Option.some.injEq, Prod.mk.injEq] at H
    obtain ⟨rfl, rfl, rfl⟩ := H
    go_enter Tryd.func42, Tryd.ntmps42
    go_wp2_with (first | ((with_reducible refine gate_dst (N := 4) rfl ?_); (try (refine gate_guard (by rfl) ?_; dsimp only)); refine box_event ?hg (N := 4) ?hd (cs := #[.int .i64 0, .int .i64 0, .string (⟨#[]⟩ : ByteArray)]) (t := 23) ?hr ?_; (case hd => rfl); (case hg => rfl); (case hr => first | (go_simp; done) | (go_simp; rfl)); intro gb299 hg w4 hbox hb; have n0_ := Aside0.mk (below_step (by repeat (first | (with_reducible first | exact HB.out | apply below_alloc | apply pw_below_drewN | apply below_drew1) | exact HB.out)) hb); have n1_ := Aside0.mk (hbox); have n2_ := Aside0.mk ((by rw [hg]; exact (below_size (by repeat (first | (with_reducible first | exact HB.out | apply below_alloc | apply pw_below_drewN | apply below_drew1) | exact HB.out))) : w.heap.size ≤ gb299)); have n3_ := Aside0.mk ((by rw [hg]; exact (below_size (by repeat (first | (with_reducible first | exact HB.out | apply below_alloc | apply pw_below_drewN | apply below_drew1) | exact HB.out))) : w.heap.size ≤ gb299)); clear HB; have HB := n0_; have BK299 := n1_; have GW299 := n2_; have GE299 := n3_; clear n0_ n1_ n2_ n3_; clear hb hbox hg; have hcz5_0 : w4.cell? ⟨gb299, 0, none⟩ = some (.int .i64 0) := (blk_cell BK299.out 0).trans rfl; have hcz5_1 : w4.cell? ⟨gb299, 1, none⟩ = some (.int .i64 0) := (blk_cell BK299.out 1).trans rfl; have hcz5_2 : w4.cell? ⟨gb299, 2, none⟩ = some (.string (⟨#[]⟩ : ByteArray)) := (blk_cell BK299.out 2).trans rfl; have hfz5_0 := blk_frozen BK299.out 0; have hfz5_1 := blk_frozen BK299.out 1; have hfz5_2 := blk_frozen BK299.out 2))
    refine bodyPost_ret (results_cell_row rfl _ _ gb299 23 #[.int .i64 0, .int .i64 0, .string (⟨#[]⟩ : ByteArray)] (0, 0) _ rfl (by (with_reducible repeat (first | refine blk_drewN ?_ _ | refine blk_drew ?_ | refine blk_alloc ?_ _)); refine blk_put (cs := #[.int .i64 0, .int .i64 0, .string (⟨#[]⟩ : ByteArray)]) ?_ 2 _ rfl; (with_reducible repeat (first | refine blk_drewN ?_ _ | refine blk_drew ?_ | refine blk_alloc ?_ _)); refine blk_put (cs := #[.int .i64 0, .int .i64 0, .string (⟨#[]⟩ : ByteArray)]) ?_ 1 _ rfl; (with_reducible repeat (first | refine blk_drewN ?_ _ | refine blk_drew ?_ | refine blk_alloc ?_ _)); refine blk_put (cs := #[.int .i64 0, .int .i64 0, .string (⟨#[]⟩ : ByteArray)]) ?_ 0 _ rfl; (with_reducible repeat (first | refine blk_drewN ?_ _ | refine blk_drew ?_ | refine blk_alloc ?_ _)); exact BK299.out) Tryd.underlying23 rfl (by kernel_rfl)) rfl ?_
    exact ⟨by first | rfl | (simp [errW_none, errW_some] <;> rfl) | (simp [*, errW_none, errW_some] <;> rfl), by repeat (first | (with_reducible first | exact HB.out | apply below_alloc | apply pw_below_drewN | apply below_drew1 | refine below_set ?_ GE299.out) | exact HB.out)⟩
  · rw [if_neg c3] at H
    have c3b0 : decide (a1 < 0) = false := decide_eq_false c3
    clear c3
    by_cases c6 : a1 ≥ (l0.length : Int)
    · rw [if_pos c6] at H
      have c6b0 : decide ((l0.length : Int) ≤ a1) = true := decide_eq_true c6
      clear c6
      simp only [Option.some.injEq, Prod.mk.injEq] at H
      obtain ⟨rfl, rfl, rfl⟩ := H
      go_enter Tryd.func42, Tryd.ntmps42
      go_wp2_with (first | ((with_reducible refine gate_dst (N := 4) rfl ?_); (try (refine gate_guard (by rfl) ?_; dsimp only)); refine box_event ?hg (N := 4) ?hd (cs := #[.int .i64 0, .int .i64 0, .string (⟨#[]⟩ : ByteArray)]) (t := 23) ?hr ?_; (case hd => rfl); (case hg => rfl); (case hr => first | (go_simp; done) | (go_simp; rfl)); intro gb299 hg w7 hbox hb; have n0_ := Aside0.mk (below_step (by repeat (first | (with_reducible first | exact HB.out | apply below_alloc | apply pw_below_drewN | apply below_drew1) | exact HB.out)) hb); have n1_ := Aside0.mk (hbox); have n2_ := Aside0.mk ((by rw [hg]; exact (below_size (by repeat (first | (with_reducible first | exact HB.out | apply below_alloc | apply pw_below_drewN | apply below_drew1) | exact HB.out))) : w.heap.size ≤ gb299)); have n3_ := Aside0.mk ((by rw [hg]; exact (below_size (by repeat (first | (with_reducible first | exact HB.out | apply below_alloc | apply pw_below_drewN | apply below_drew1) | exact HB.out))) : w.heap.size ≤ gb299)); clear HB; have HB := n0_; have BK299 := n1_; have GW299 := n2_; have GE299 := n3_; clear n0_ n1_ n2_ n3_; clear hb hbox hg; have hcz8_0 : w7.cell? ⟨gb299, 0, none⟩ = some (.int .i64 0) := (blk_cell BK299.out 0).trans rfl; have hcz8_1 : w7.cell? ⟨gb299, 1, none⟩ = some (.int .i64 0) := (blk_cell BK299.out 1).trans rfl; have hcz8_2 : w7.cell? ⟨gb299, 2, none⟩ = some (.string (⟨#[]⟩ : ByteArray)) := (blk_cell BK299.out 2).trans rfl; have hfz8_0 := blk_frozen BK299.out 0; have hfz8_1 := blk_frozen BK299.out 1; have hfz8_2 := blk_frozen BK299.out 2))
      refine bodyPost_ret (results_cell_row rfl _ _ gb299 23 #[.int .i64 0, .int .i64 0, .string (⟨#[]⟩ : ByteArray)] (0, 0) _ rfl (by (with_reducible repeat (first | refine blk_drewN ?_ _ | refine blk_drew ?_ | refine blk_alloc ?_ _)); refine blk_put (cs := #[.int .i64 0, .int .i64 0, .string (⟨#[]⟩ : ByteArray)]) ?_ 2 _ rfl; (with_reducible repeat (first | refine blk_drewN ?_ _ | refine blk_drew ?_ | refine blk_alloc ?_ _)); refine blk_put (cs := #[.int .i64 0, .int .i64 0, .string (⟨#[]⟩ : ByteArray)]) ?_ 1 _ rfl; (with_reducible repeat (first | refine blk_drewN ?_ _ | refine blk_drew ?_ | refine blk_alloc ?_ _)); refine blk_put (cs := #[.int .i64 0, .int .i64 0, .string (⟨#[]⟩ : ByteArray)]) ?_ 0 _ rfl; (with_reducible repeat (first | refine blk_drewN ?_ _ | refine blk_drew ?_ | refine blk_alloc ?_ _)); exact BK299.out) Tryd.underlying23 rfl (by kernel_rfl)) rfl ?_
      exact ⟨by first | rfl | (simp [errW_none, errW_some] <;> rfl) | (simp [*, errW_none, errW_some] <;> rfl), by repeat (first | (with_reducible first | exact HB.out | apply below_alloc | apply pw_below_drewN | apply below_drew1 | refine below_set ?_ GE299.out) | exact HB.out)⟩
    · rw [if_neg c6] at H
      have c6b0 : decide ((l0.length : Int) ≤ a1) = false := decide_eq_false c6
      clear c6
      by_cases c9 : 0 ≤ a1
      · rw [if_pos c9] at H
        have c9b0 : decide (0 ≤ a1) = true := decide_eq_true c9
        clear c9
        by_cases c10 : a1 < (l0.length : Int)
        · rw [if_pos c10] at H
          have c10b0 : decide (a1 < (l0.length : Int)) = true := decide_eq_true c10
          clear c10
          simp only [Option.some.injEq, Prod.mk.injEq] at H
          obtain ⟨rfl, rfl, rfl⟩ := H
          go_enter Tryd.func42, Tryd.ntmps42
          go_wp2_with (first | ((with_reducible refine gate_dst (N := 4) rfl ?_); (try (refine gate_guard (by rfl) ?_; dsimp only)); refine box_event ?hg (N := 4) ?hd (cs := #[.int .i64 0, .int .i64 0, .string (⟨#[]⟩ : ByteArray)]) (t := 23) ?hr ?_; (case hd => rfl); (case hg => rfl); (case hr => first | (go_simp; done) | (go_simp; rfl)); intro gb299 hg w11 hbox hb; have n0_ := Aside0.mk (below_step (by repeat (first | (with_reducible first | exact HB.out | apply below_alloc | apply pw_below_drewN | apply below_drew1) | exact HB.out)) hb); have n1_ := Aside0.mk (hbox); have n2_ := Aside0.mk ((by rw [hg]; exact (below_size (by repeat (first | (with_reducible first | exact HB.out | apply below_alloc | apply pw_below_drewN | apply below_drew1) | exact HB.out))) : w.heap.size ≤ gb299)); have n3_ := Aside0.mk ((by rw [hg]; exact (below_size (by repeat (first | (with_reducible first | exact HB.out | apply below_alloc | apply pw_below_drewN | apply below_drew1) | exact HB.out))) : w.heap.size ≤ gb299)); clear HB; have HB := n0_; have BK299 := n1_; have GW299 := n2_; have GE299 := n3_; clear n0_ n1_ n2_ n3_; clear hb hbox hg; have p300 : 0 ≤ (a1 : Int) := of_decide_eq_true (by first | (with_reducible assumption) | assumption); have q300 : a1 < (l0.length : Int) := of_decide_eq_true (by first | (with_reducible assumption) | assumption); obtain ⟨ad300, e300, hx300_0, hx300_1, hx300_2⟩ := at_T23 HR0.out a1 p300 q300; cases e300; replace hx300_0 := (HB.out.cell (World.block_lt_of_cell? w _ hx300_0)).trans hx300_0; replace hx300_1 := (HB.out.cell (World.block_lt_of_cell? w _ hx300_1)).trans hx300_1; replace hx300_2 := (HB.out.cell (World.block_lt_of_cell? w _ hx300_2)).trans hx300_2; replace p300 := eq_true p300; replace q300 := eq_true q300; have hcz12_0 : w11.cell? ⟨gb299, 0, none⟩ = some (.int .i64 0) := (blk_cell BK299.out 0).trans rfl; have hcz12_1 : w11.cell? ⟨gb299, 1, none⟩ = some (.int .i64 0) := (blk_cell BK299.out 1).trans rfl; have hcz12_2 : w11.cell? ⟨gb299, 2, none⟩ = some (.string (⟨#[]⟩ : ByteArray)) := (blk_cell BK299.out 2).trans rfl; have hfz12_0 := blk_frozen BK299.out 0; have hfz12_1 := blk_frozen BK299.out 1; have hfz12_2 := blk_frozen BK299.out 2))
          refine bodyPost_ret (results_cell_row rfl _ _ gb299 23 #[.int .i64 ((rd_T23 l0 a1).f0), .int .i64 ((rd_T23 l0 a1).f1), .string ((rd_T23 l0 a1).f2)] (0, 0) _ rfl (by (with_reducible repeat (first | refine blk_drewN ?_ _ | refine blk_drew ?_ | refine blk_alloc ?_ _)); refine blk_put (cs := #[.int .i64 ((rd_T23 l0 a1).f0), .int .i64 ((rd_T23 l0 a1).f1), .string (⟨#[]⟩ : ByteArray)]) ?_ 2 _ rfl; (with_reducible repeat (first | refine blk_drewN ?_ _ | refine blk_drew ?_ | refine blk_alloc ?_ _)); refine blk_put (cs := #[.int .i64 ((rd_T23 l0 a1).f0), .int .i64 0, .string (⟨#[]⟩ : ByteArray)]) ?_ 1 _ rfl; (with_reducible repeat (first | refine blk_drewN ?_ _ | refine blk_drew ?_ | refine blk_alloc ?_ _)); refine blk_put (cs := #[.int .i64 0, .int .i64 0, .string (⟨#[]⟩ : ByteArray)]) ?_ 0 _ rfl; (with_reducible repeat (first | refine blk_drewN ?_ _ | refine blk_drew ?_ | refine blk_alloc ?_ _)); exact BK299.out) Tryd.underlying23 rfl (by kernel_rfl)) rfl ?_
          exact ⟨by first | rfl | (simp [errW_none, errW_some] <;> rfl) | (simp [*, errW_none, errW_some] <;> rfl), by repeat (first | (with_reducible first | exact HB.out | apply below_alloc | apply pw_below_drewN | apply below_drew1 | refine below_set ?_ GE299.out) | exact HB.out)⟩
        · rw [if_neg c10] at H
          exact absurd H (by simp)
      · rw [if_neg c9] at H
        exact absurd H (by simp)


/-- the value of a column, or the value that is none -/
def atV (l : List S23) (k : Int) : S23 := if k < 0 then ⟨0, 0, ⟨#[]⟩⟩ else if k ≥ (l.length : Int) then ⟨0, 0, ⟨#[]⟩⟩ else rd_T23 l k
theorem at_f (l : List S23) (k : Int) : value_at.f l k = some ((atV l k).f0, (atV l k).f1, (atV l k).f2) := by
  unfold value_at.f atV
  split
  · rfl
  · split
    · rfl
    · rw [if_pos (by omega), if_pos (by omega)]
def oneC (l0 l1 : List S23) (s : S44) : Int := PureVal.cV (atV l0 s.f0).f0 (atV l0 s.f0).f1 (atV l0 s.f0).f2 (atV l1 s.f0).f0 (atV l1 s.f0).f1 (atV l1 s.f0).f2
def cRows (l0 l1 : List S23) : List S44 → Int
  | [] => 0
  | s :: t => if oneC l0 l1 s = 0 then cRows l0 l1 t else if s.f1 = true then wrap64 (-oneC l0 l1 s) else oneC l0 l1 s
theorem cell_new2 (w : World) (a b : Value) (T : TypeId) : (w.alloc (.cells #[a, b] T)).cell? ⟨w.heap.size, 0, none⟩ = some a ∧ (w.alloc (.cells #[a, b] T)).cell? ⟨w.heap.size, 1, none⟩ = some b := by
  constructor
  · simp only [World.cell?, heap_alloc_new]; simp
  · simp only [World.cell?, heap_alloc_new]; simp
theorem heldC_to {W3 : World} {gr : Nat} {u0 u1 : Value} {w w' : World} (h : w.cell? ⟨gr, 0, none⟩ = some u0 ∧ w.cell? ⟨gr, 1, none⟩ = some u1 ∧ Aside0 (Below W3.heap.size W3 w)) (hb : Below w.heap.size w w') : w'.cell? ⟨gr, 0, none⟩ = some u0 ∧ w'.cell? ⟨gr, 1, none⟩ = some u1 ∧ Aside0 (Below W3.heap.size W3 w') :=
  ⟨below_cell_some hb h.1, below_cell_some hb h.2.1, ⟨h.2.2.out.trans (hb.mono h.2.2.out.size)⟩⟩
theorem heldC_below {W3 : World} {gr : Nat} {u0 u1 : Value} {w : World} (h : w.cell? ⟨gr, 0, none⟩ = some u0 ∧ w.cell? ⟨gr, 1, none⟩ = some u1 ∧ Aside0 (Below W3.heap.size W3 w)) : Below W3.heap.size W3 w := h.2.2.out
theorem wrap_up {P : Type} {k : Kd P} {w : World} {A : Option Addr} {l : List P} (h : Kd.C k w A l.length l) {i : Nat} (hi : i < l.length) : wrap64 ((i : Int) + 1) = ((i + 1 : Nat) : Int) := by
  have := h.2.1
  unfold maxLen at this
  unfold wrap64; omega
set_option maxHeartbeats 8000000 in
set_option maxRecDepth 100000 in
theorem value_CompareRowsH.calls (A0 : Option Addr) (c0 : Nat) (l0 : List (S23)) (A1 : Option Addr) (c1 : Nat) (l1 : List (S23)) (A2 : Option Addr) (c2 : Nat) (l2 : List (S44)) (w : World) (hr0 : Kd.C k23 w A0 l0.length l0) (hc0 : l0.length ≤ c0) (hr1 : Kd.C k23 w A1 l1.length l1) (hc1 : l1.length ≤ c1) (hr2 : Kd.C k44 w A2 l2.length l2) (hc2 : l2.length ≤ c2) :
    Calls Tryd.prog 23 #[.slice A0 l0.length c0, .slice A1 l1.length c1, .slice A2 l2.length c2] w fun e w' => e = .returned (.int .i64 (cRows l0 l1 l2)) ∧ Below w.heap.size w w' := by
  have hu23 := Tryd.underlying23
  have HR0 := Aside0.mk hr0
  have HC0 := Aside0.mk hc0
  have HR1 := Aside0.mk hr1
  have HC1 := Aside0.mk hc1
  have HR2 := Aside0.mk hr2
  have HC2 := Aside0.mk hc2
  clear hr0 hc0 hr1 hc1 hr2 hc2
  go_enter Tryd.func23, Tryd.ntmps23
  go_wp2
  go_loopw [13] (fun v13 wr => ∃ i : Nat, Aside0 (i ≤ l2.length) ∧ v13 = .int .i64 i ∧ Aside0 (cRows l0 l1 (l2.drop i) = cRows l0 l1 l2) ∧ Aside0 (Below w.heap.size w wr)) (fun v13 _ => l2.length - (Lib.intOf v13).toNat)
  case atStart => exact ⟨0, ⟨Nat.zero_le _⟩, rfl, ⟨by simp⟩, ⟨Below.refl _ _⟩⟩
  case round =>
    obtain ⟨i, hi, rfl, hC, HB⟩ := hrel
    by_cases hil : i < l2.length
    · have p0 : 0 ≤ (i : Int) := by omega
      have q0 : (i : Int) < (l2.length : Int) := by omega
      obtain ⟨ad, e1, hx0, hx1⟩ := at_T44 HR2.out (i : Int) p0 q0
      cases e1
      replace hx0 := (HB.out.cell (World.block_lt_of_cell? w _ hx0)).trans hx0
      replace hx1 := (HB.out.cell (World.block_lt_of_cell? w _ hx1)).trans hx1
      have d0 : decide ((i : Int) < (l2.length : Int)) = true := decide_eq_true q0
      have d1 : decide (i < l2.length) = true := decide_eq_true hil
      have d2 : (i < l2.length) = True := eq_true hil
      have d3 : (0 ≤ (i : Int)) = True := eq_true p0
      have d4 : ((i : Int) < (l2.length : Int)) = True := eq_true q0
      have HI := Aside0.mk hil
      clear hil p0 q0
      have hdrop : Aside0 (l2.drop i = rd_T44 l2 (i : Int) :: l2.drop (i + 1)) := ⟨by
        rw [List.drop_eq_getElem_cons HI.out]; congr 1
        simp [rd_T44, List.getD_eq_getElem?_getD, List.getElem?_eq_getElem HI.out]⟩
      obtain ⟨s, hs⟩ : ∃ s, rd_T44 l2 (i : Int) = s := ⟨_, rfl⟩
      rw [hs] at hx0 hx1 hdrop
      clear hs
      simp only [Int.toNat_natCast] at hx0 hx1
      have HX := Aside0.mk (And.intro hx0 hx1)
      go_upto_region 5 with fail
      obtain ⟨W3, hW3⟩ : ∃ W3, wr.alloc (.cells #[.int .i64 s.f0, .bool s.f1] 44) = W3 := ⟨_, rfl⟩
      have qv := cell_new2 wr (.int .i64 s.f0) (.bool s.f1) 44
      rw [hW3] at qv ⊢
      have HB3 : Aside0 (Below w.heap.size w W3) := ⟨by rw [← hW3]; exact below_alloc HB.out _⟩
      obtain ⟨qv0, qv1⟩ := qv
      clear hW3 hx0 hx1 HX HB
      generalize wr.heap.size = gr at *
      have HA0 : Aside0 (∀ X, Below W3.heap.size W3 X → Calls Tryd.prog 42 #[.slice A0 l0.length c0, .int .i64 s.f0] X fun e w' => e = .returned (.agg #[.int .i64 (atV l0 s.f0).f0, .int .i64 (atV l0 s.f0).f1, .string (atV l0 s.f0).f2]) ∧ Below X.heap.size X w') := ⟨fun X hX => value_at.calls A0 c0 l0 s.f0 _ _ _ X (Kd.C_below HR0.out (HB3.out.trans (hX.mono HB3.out.size))) HC0.out (at_f l0 s.f0)⟩
      have HA1 : Aside0 (∀ X, Below W3.heap.size W3 X → Calls Tryd.prog 42 #[.slice A1 l1.length c1, .int .i64 s.f0] X fun e w' => e = .returned (.agg #[.int .i64 (atV l1 s.f0).f0, .int .i64 (atV l1 s.f0).f1, .string (atV l1 s.f0).f2]) ∧ Below X.heap.size X w') := ⟨fun X hX => value_at.calls A1 c1 l1 s.f0 _ _ _ X (Kd.C_below HR1.out (HB3.out.trans (hX.mono HB3.out.size))) HC1.out (at_f l1 s.f0)⟩
      have HCm : Aside0 (∀ X : World, Calls Tryd.prog 8 #[.agg #[.int .i64 (atV l0 s.f0).f0, .int .i64 (atV l0 s.f0).f1, .string (atV l0 s.f0).f2], .agg #[.int .i64 (atV l1 s.f0).f0, .int .i64 (atV l1 s.f0).f1, .string (atV l1 s.f0).f2]] X fun e w' => e = .returned (.int .i64 (oneC l0 l1 s)) ∧ Below X.heap.size X w') := ⟨fun X => value_Compare.calls 4 _ _ _ _ _ _ _ X (PureVal.compare_f _ _ _ _ _ _ 0)⟩
      obtain ⟨o, ho⟩ : ∃ o, oneC l0 l1 s = o := ⟨_, rfl⟩
      rw [ho] at HCm
      generalize (atV l0 s.f0).f0 = x0, (atV l0 s.f0).f1 = x1, (atV l0 s.f0).f2 = x2 at HA0 HCm
      generalize (atV l1 s.f0).f0 = y0, (atV l1 s.f0).f1 = y1, (atV l1 s.f0).f2 = y2 at HA1 HCm
      have HQ := Aside0.mk (And.intro qv0 qv1)
      clear qv0 qv1
      go_region_held3 (fun w' => w'.cell? ⟨gr, 0, none⟩ = some (.int .i64 s.f0) ∧ w'.cell? ⟨gr, 1, none⟩ = some (.bool s.f1) ∧ Aside0 (Below W3.heap.size W3 w'))
        (first | exact ⟨HQ.out.1, HQ.out.2, ⟨Below.drew (Below.refl _ _)⟩⟩ | exact heldC_to (by assumption) hb4 | exact heldC_to (by assumption) hb5 | exact heldC_to (by assumption) hb6 | fail)
        (first | (go_at_call 42; with_reducible refine (HA0.out _ (heldC_below (by assumption))).mono ?_; rintro e w4 ⟨rfl, hb4⟩) | (go_at_call 42; with_reducible refine (HA1.out _ (heldC_below (by assumption))).mono ?_; rintro e w5 ⟨rfl, hb5⟩) | (go_at_call 8; with_reducible refine (HCm.out _).mono ?_; rintro e w6 ⟨rfl, hb6⟩))
      all_goals
        rename_i hH
        obtain ⟨q0, q1, q4⟩ := hH
        have HB6 : Aside0 (Below w.heap.size w w6) := ⟨HB3.out.trans (q4.out.mono HB3.out.size)⟩
        rw [hdrop.out] at hC
        have hC1 := Aside0.mk (show (if o = 0 then cRows l0 l1 (l2.drop (i + 1)) else if s.f1 = true then wrap64 (-o) else o) = cRows l0 l1 l2 from by rw [← hC.out, cRows, ho])
        clear hC HB3 HA0 HA1 HCm HQ hb4 hb5 hb6 q4
        by_cases c1 : o = 0
        · have f0 : decide (o = 0) = true := decide_eq_true c1
          have f1 : (o == 0) = true := beq_iff_eq.2 c1
          have HC3 : Aside0 (cRows l0 l1 (l2.drop (i + 1)) = cRows l0 l1 l2) := ⟨by have := hC1.out; rwa [if_pos c1] at this⟩
          clear c1 hC1
          go_wp2
          go_roundw
          case rel => exact ⟨i + 1, ⟨HI.out⟩, by rw [show wrap64 ((i : Int) + 1) = ((i + 1 : Nat) : Int) from by have := HI.out; have := HC2.out; exact wrap_up HR2.out HI.out], ⟨HC3.out⟩, ⟨HB6.out⟩⟩
          case measure => rw [show wrap64 ((i : Int) + 1) = ((i + 1 : Nat) : Int) from wrap_up HR2.out HI.out]; have := HI.out; simp [Lib.intOf]; omega
        · have f0 : decide (o = 0) = false := decide_eq_false c1
          have f1 : (o == 0) = false := beq_eq_false_iff_ne.2 c1
          have HC3 := hC1.out
          rw [if_neg c1] at HC3
          clear c1 hC1
          obtain ⟨b, hb⟩ : ∃ b, s.f1 = b := ⟨_, rfl⟩
          rw [hb] at q1 HC3
          cases b with
          | true =>
            rw [if_pos rfl] at HC3
            have HC4 := Aside0.mk HC3
            clear HC3
            go_wp2
            go_ret
            exact ⟨by rw [HC4.out]; rfl, HB6.out⟩
          | false =>
            rw [if_neg (by decide)] at HC3
            have HC4 := Aside0.mk HC3
            clear HC3
            go_wp2
            go_ret
            exact ⟨by rw [HC4.out]; rfl, HB6.out⟩
    · obtain rfl : i = l2.length := by have := hi.out; omega
      have d0 : decide ((l2.length : Int) < (l2.length : Int)) = false := decide_eq_false (by omega)
      have hC1 := Aside0.mk (show (0 : Int) = cRows l0 l1 l2 from by rw [← hC.out]; simp [cRows])
      clear hC hil hi
      go_wp2
      go_ret
      exact ⟨by first | (rw [← hC1.out]; rfl) | rw [← hC1.out], HB.out⟩

def value_CompareRows.f (l0 : List S23) (l1 : List S23) (l2 : List S44) : Option Int := some (cRows l0 l1 l2)
theorem value_CompareRows.calls (A0 : Option Addr) (c0 : Nat) (l0 : List (S23)) (A1 : Option Addr) (c1 : Nat) (l1 : List (S23)) (A2 : Option Addr) (c2 : Nat) (l2 : List (S44)) (r : Int) (w : World) (hr0 : Kd.C k23 w A0 l0.length l0) (hc0 : l0.length ≤ c0) (hr1 : Kd.C k23 w A1 l1.length l1) (hc1 : l1.length ≤ c1) (hr2 : Kd.C k44 w A2 l2.length l2) (hc2 : l2.length ≤ c2) (h : value_CompareRows.f l0 l1 l2 = some r) :
    Calls Tryd.prog 23 #[.slice A0 l0.length c0, .slice A1 l1.length c1, .slice A2 l2.length c2] w fun e w' => e = .returned (.int .i64 r) ∧ Below w.heap.size w w' := by
  obtain rfl := Option.some.inj h
  exact value_CompareRowsH.calls A0 c0 l0 A1 c1 l1 A2 c2 l2 w hr0 hc0 hr1 hc1 hr2 hc2
end Go.Proofs.YtccpbacnfhbdlaaDoor.Va
