/- Functions of the seat as plain Lean functions, each with a proof that the call answers what the function tells; written by a program of this work. No condition beyond those that each theorem names. -/
import Derived.Test.YtccpbacnfhbdlaaDoorVax0
import Derived.Test.YtccpbacnfhbdlaaDoorVax2
namespace Go.Proofs.YtccpbacnfhbdlaaDoor.Va
open Go.RowKit Go.Proofs.YtccpbacnfhbdlaaDoorW.PrintWords Go.Proofs.YtccpbacnfhbdlaaDoorW.PrintLast Go.Proofs.YtccpbacnfhbdlaaDoorW.PrintMore
attribute [local go_sem] max2_int min2_int max_two min_two max_three min_three max_four min_four   -- for this text's walks alone
set_option linter.unusedVariables false
set_option linter.unusedSimpArgs false

/-! ### quaysideref05_Check: function 11 -/
def quaysideref05_Check.f (a0_0 : Int) (a0_1 : Int) (a0_2 : ByteArray) : Option (Int) := (quaysideref05_May.f a0_0 a0_1 a0_2).bind fun t121 => (if t121 = true then (some 0) else (some 1))
set_option maxHeartbeats 8000000 in
set_option maxRecDepth 100000 in
theorem quaysideref05_Check.calls (a0_0 : Int) (a0_1 : Int) (a0_2 : ByteArray) (r : Int) (w : World) (h : quaysideref05_Check.f a0_0 a0_1 a0_2 = some r) :
    Calls Tryd.prog 11 #[.agg #[.int .i64 a0_0, .int .i64 a0_1, .string a0_2]] w fun e w' => e = .returned (.int .i64 r) ∧ Below w.heap.size w w' := by
  have hu23 := Tryd.underlying23
  have HB := Aside0.mk (Below.refl w.heap.size w)
  have H : ((quaysideref05_May.f a0_0 a0_1 a0_2).bind fun t121 => (if t121 = true then (some 0) else (some 1))) = some r := h
  clear h
  replace H := Option.bind_eq_some_iff.mp H
  obtain ⟨t121, A20, H⟩ := H
  replace H : (if t121 = true then (some 0) else (some 1)) = some r := H
  have A2 := Aside0.mk A20
  clear A20
  by_cases c3 : t121 = true
  · subst c3
    have H1 : (some 0) = some r := by rw [if_pos rfl] at H; exact H
    clear H
    have H := H1
    clear H1
    obtain rfl := Option.some.inj H
    go_enter Tryd.func11, Tryd.ntmps11
    go_wp2_with (first | ((with_reducible refine gate_dst (N := 1) rfl ?_); refine box_event ?hg (N := 1) ?hd (cs := #[.int .i64 a0_0, .int .i64 a0_1, .string a0_2]) (t := 23) ?hr ?_; (case hd => rfl); (case hg => rfl); (case hr => first | (go_simp; done) | (go_simp; rfl)); intro gb120 hg w4 hbox hb; have n0_ := Aside0.mk (below_step (by repeat (first | (with_reducible first | exact HB.out | apply below_alloc | apply pw_below_drewN | apply below_drew1) | exact HB.out)) hb); have n1_ := Aside0.mk (hbox); have n2_ := Aside0.mk ((by rw [hg]; exact (below_size (by repeat (first | (with_reducible first | exact HB.out | apply below_alloc | apply pw_below_drewN | apply below_drew1) | exact HB.out))) : w.heap.size ≤ gb120)); have n3_ := Aside0.mk ((by rw [hg]; exact (below_size (by repeat (first | (with_reducible first | exact HB.out | apply below_alloc | apply pw_below_drewN | apply below_drew1) | exact HB.out))) : w.heap.size ≤ gb120)); clear HB; have HB := n0_; have BK120 := n1_; have GW120 := n2_; have GE120 := n3_; clear n0_ n1_ n2_ n3_; clear hb hbox hg; have hcz5_0 : w4.cell? ⟨gb120, 0, none⟩ = some (.int .i64 a0_0) := (blk_cell BK120.out 0).trans rfl; have hcz5_1 : w4.cell? ⟨gb120, 1, none⟩ = some (.int .i64 a0_1) := (blk_cell BK120.out 1).trans rfl; have hcz5_2 : w4.cell? ⟨gb120, 2, none⟩ = some (.string a0_2) := (blk_cell BK120.out 2).trans rfl; have hfz5_0 := blk_frozen BK120.out 0; have hfz5_1 := blk_frozen BK120.out 1; have hfz5_2 := blk_frozen BK120.out 2) | ((with_reducible refine gate_callee (f := 29) rfl ?_); refine goesL_ (some 4) rfl rfl Tryd.func29 (by kernel_rfl) rfl #[.agg #[.int .i64 a0_0, .int .i64 a0_1, .string a0_2]] rfl (by (try simp only [List.map_toArray, List.map_cons, List.map_nil]); first | done | rfl | (simp only [List.length_drop, List.length_take]; rfl)) ?_; (with_reducible refine (quaysideref05_May.calls a0_0 a0_1 a0_2 true _ A2.out).mono ?_); rintro e w6 ⟨rfl, hb⟩; refine ⟨_, rfl, ?_⟩; have n0_ := Aside0.mk (blk_below (g := gb120) (o := .cells #[.int .i64 a0_0, .int .i64 a0_1, .string a0_2] 23 (0, 0)) (by (with_reducible repeat (first | refine blk_drewN ?_ _ | refine blk_drew ?_ | refine blk_alloc ?_ _)); exact BK120.out) hb); have n1_ := Aside0.mk (below_step (by repeat (first | (with_reducible first | exact HB.out | apply below_alloc | apply pw_below_drewN | apply below_drew1 | refine below_set ?_ GE120.out) | exact HB.out)) hb); clear BK120; clear HB; have BK120 := n0_; have HB := n1_; clear n0_ n1_; (try clear hb); (try clear hb2); (try clear hk); (try clear hi)))
    go_ret
    exact ⟨by first | rfl | (simp [errW_none, errW_some] <;> rfl) | (simp [*, errW_none, errW_some] <;> rfl), by repeat (first | (with_reducible first | exact HB.out | apply below_alloc | apply pw_below_drewN | apply below_drew1 | refine below_set ?_ GE120.out) | exact HB.out)⟩
  · replace c3 := Bool.eq_false_iff.mpr c3
    subst c3
    have H1 : (some 1) = some r := by rw [if_neg (show ¬ (false = true) by decide)] at H; exact H
    clear H
    have H := H1
    clear H1
    obtain rfl := Option.some.inj H
    go_enter Tryd.func11, Tryd.ntmps11
    go_wp2_with (first | ((with_reducible refine gate_dst (N := 1) rfl ?_); refine box_event ?hg (N := 1) ?hd (cs := #[.int .i64 a0_0, .int .i64 a0_1, .string a0_2]) (t := 23) ?hr ?_; (case hd => rfl); (case hg => rfl); (case hr => first | (go_simp; done) | (go_simp; rfl)); intro gb120 hg w7 hbox hb; have n0_ := Aside0.mk (below_step (by repeat (first | (with_reducible first | exact HB.out | apply below_alloc | apply pw_below_drewN | apply below_drew1) | exact HB.out)) hb); have n1_ := Aside0.mk (hbox); have n2_ := Aside0.mk ((by rw [hg]; exact (below_size (by repeat (first | (with_reducible first | exact HB.out | apply below_alloc | apply pw_below_drewN | apply below_drew1) | exact HB.out))) : w.heap.size ≤ gb120)); have n3_ := Aside0.mk ((by rw [hg]; exact (below_size (by repeat (first | (with_reducible first | exact HB.out | apply below_alloc | apply pw_below_drewN | apply below_drew1) | exact HB.out))) : w.heap.size ≤ gb120)); clear HB; have HB := n0_; have BK120 := n1_; have GW120 := n2_; have GE120 := n3_; clear n0_ n1_ n2_ n3_; clear hb hbox hg; have hcz8_0 : w7.cell? ⟨gb120, 0, none⟩ = some (.int .i64 a0_0) := (blk_cell BK120.out 0).trans rfl; have hcz8_1 : w7.cell? ⟨gb120, 1, none⟩ = some (.int .i64 a0_1) := (blk_cell BK120.out 1).trans rfl; have hcz8_2 : w7.cell? ⟨gb120, 2, none⟩ = some (.string a0_2) := (blk_cell BK120.out 2).trans rfl; have hfz8_0 := blk_frozen BK120.out 0; have hfz8_1 := blk_frozen BK120.out 1; have hfz8_2 := blk_frozen BK120.out 2) | ((with_reducible refine gate_callee (f := 29) rfl ?_); refine goesL_ (some 4) rfl rfl Tryd.func29 (by kernel_rfl) rfl #[.agg #[.int .i64 a0_0, .int .i64 a0_1, .string a0_2]] rfl (by (try simp only [List.map_toArray, List.map_cons, List.map_nil]); first | done | rfl | (simp only [List.length_drop, List.length_take]; rfl)) ?_; (with_reducible refine (quaysideref05_May.calls a0_0 a0_1 a0_2 false _ A2.out).mono ?_); rintro e w9 ⟨rfl, hb⟩; refine ⟨_, rfl, ?_⟩; have n0_ := Aside0.mk (blk_below (g := gb120) (o := .cells #[.int .i64 a0_0, .int .i64 a0_1, .string a0_2] 23 (0, 0)) (by (with_reducible repeat (first | refine blk_drewN ?_ _ | refine blk_drew ?_ | refine blk_alloc ?_ _)); exact BK120.out) hb); have n1_ := Aside0.mk (below_step (by repeat (first | (with_reducible first | exact HB.out | apply below_alloc | apply pw_below_drewN | apply below_drew1 | refine below_set ?_ GE120.out) | exact HB.out)) hb); clear BK120; clear HB; have BK120 := n0_; have HB := n1_; clear n0_ n1_; (try clear hb); (try clear hb2); (try clear hk); (try clear hi)))
    go_ret
    exact ⟨by first | rfl | (simp [errW_none, errW_some] <;> rfl) | (simp [*, errW_none, errW_some] <;> rfl), by repeat (first | (with_reducible first | exact HB.out | apply below_alloc | apply pw_below_drewN | apply below_drew1 | refine below_set ?_ GE120.out) | exact HB.out)⟩

-- NOT PRINTED: function 52 (abi_NoEscape)

-- NOT PRINTED: function 46 (strings_Builder_copyCheck)

-- NOT PRINTED: function 30 (strings_Builder_WriteByte)

-- NOT PRINTED: function 31 (strings_Builder_WriteString)

/-! ### value_bytes: function 32 -/
def value_bytes.l0 : Nat → List Int → Int → Int → Option (ByteArray)
  | 0, _, _, _ => none
  | k + 1, x3, x4, x18 => if x18 < 8 then (if 0 ≤ (wrap64 (8 * (wrap64 (7 - x18)))) then (if x3.length < 140737488355328 then (value_bytes.l0 k (x3 ++ [(shr .u64 x4 (wrap64 (8 * (wrap64 (7 - x18))))) % 256]) x4 (wrap64 (x18 + 1))) else (none)) else (none)) else (some (strOfNums x3))
def value_bytes.f (k : Nat) (a0_0 : Int) (a0_1 : Int) (a0_2 : ByteArray) : Option (ByteArray) := (some (([(a0_0) % 256] : List Int) : List Int)).bind fun y123 => (if a0_0 = 1 then (value_bytes.l0 k y123 (Go.bits .xor .u64 (IntKind.u64.wrap (a0_1)) 9223372036854775808) 0) else (if a0_0 = 2 then (if y123.length < 140737488355328 then ((some (y123 ++ [((a0_2.size : Int)) % 256] : List Int)).bind fun y129 => (if y129.length + a0_2.size < 140737488355328 then (some (strOfNums (y129 ++ bytesOf a0_2))) else (none))) else (none)) else (if a0_0 = 3 then (if y123.length < 140737488355328 then (some (strOfNums (y123 ++ [(a0_1) % 256]))) else (none)) else (some (strOfNums y123)))))
theorem value_bytes.mono_l : ∀ k, (∀ y0 y1 y2, LeO (value_bytes.l0 k y0 y1 y2) (value_bytes.l0 (k + 1) y0 y1 y2))
  | 0 => fun _ _ _ r h => by simp [value_bytes.l0] at h
  | k + 1 => by
    have ih0 := value_bytes.mono_l k
    · intro y0 y1 y2
      unfold value_bytes.l0
      repeat' first
      | (with_reducible exact ih0 _ _ _)
      | (with_reducible exact LeO.refl _)
      | (with_reducible exact LeO.none _)
      | (with_reducible refine LeO.ite ?_ ?_)
      | (with_reducible refine LeO.bind ?_ (fun _ => ?_))
      | exact ih0 _ _ _
      | exact LeO.none _
      | refine LeO.ite ?_ ?_
      | refine LeO.bind ?_ (fun _ => ?_)
theorem value_bytes.mono : ∀ a0 a1 a2 k, LeO (value_bytes.f k a0 a1 a2) (value_bytes.f (k + 1) a0 a1 a2) := by
  intro a0 a1 a2 k
  have ih0 := value_bytes.mono_l k
  unfold value_bytes.f
  repeat' first
      | (with_reducible exact ih0 _ _ _)
      | (with_reducible exact LeO.refl _)
      | (with_reducible exact LeO.none _)
      | (with_reducible refine LeO.ite ?_ ?_)
      | (with_reducible refine LeO.bind ?_ (fun _ => ?_))
      | exact ih0 _ _ _
      | exact LeO.none _
      | refine LeO.ite ?_ ?_
      | refine LeO.bind ?_ (fun _ => ?_)
def value_bytes.T11 : Bool × List (List Nat × List Nat) := (true, [([], []), ([], []), ([1], [1]), ([2], [2]), ([3], [3]), ([4], [4]), ([0, 5], [0, 5]), ([], []), ([7], [7]), ([6, 8, 6], [6, 8]), ([9, 9, 0, 1, 2, 3, 4, 5, 6, 7, 8, 9], [0, 9])])
def value_bytes.B11 : List Nat := [0, 0, 2, 6, 14, 30, 63, 0, 128, 511, 1023]
theorem value_bytes.tab11 : rtab .any (opsOf Tryd.f32 11) = value_bytes.T11 := by kernel_rfl
theorem value_bytes.bits11 : waitsOk value_bytes.T11.2 value_bytes.B11 = true := by kernel_rfl
set_option maxHeartbeats 8000000 in
set_option maxRecDepth 100000 in
theorem value_bytes.calls (k : Nat) (a0_0 : Int) (a0_1 : Int) (a0_2 : ByteArray) (r : ByteArray) (w : World) (h : value_bytes.f k a0_0 a0_1 a0_2 = some r) :
    Calls Tryd.prog 32 #[.agg #[.int .i64 a0_0, .int .i64 a0_1, .string a0_2]] w fun e w' => e = .returned (.string r) ∧ Below w.heap.size w w' := by
  have hu23 := Tryd.underlying23
  have HB := Aside0.mk (Below.refl w.heap.size w)
  have H : ((some (([(a0_0) % 256] : List Int) : List Int)).bind fun y123 => (if a0_0 = 1 then (value_bytes.l0 k y123 (Go.bits .xor .u64 (IntKind.u64.wrap (a0_1)) 9223372036854775808) 0) else (if a0_0 = 2 then (if y123.length < 140737488355328 then ((some (y123 ++ [((a0_2.size : Int)) % 256] : List Int)).bind fun y129 => (if y129.length + a0_2.size < 140737488355328 then (some (strOfNums (y129 ++ bytesOf a0_2))) else (none))) else (none)) else (if a0_0 = 3 then (if y123.length < 140737488355328 then (some (strOfNums (y123 ++ [(a0_1) % 256]))) else (none)) else (some (strOfNums y123)))))) = some r := h
  clear h
  obtain ⟨y123, hy123⟩ : ∃ y_ : List Int, y_ = (([(a0_0) % 256] : List Int)) := ⟨_, rfl⟩
  replace H : (if a0_0 = 1 then (value_bytes.l0 k y123 (Go.bits .xor .u64 (IntKind.u64.wrap (a0_1)) 9223372036854775808) 0) else (if a0_0 = 2 then (if y123.length < 140737488355328 then ((some (y123 ++ [((a0_2.size : Int)) % 256] : List Int)).bind fun y129 => (if y129.length + a0_2.size < 140737488355328 then (some (strOfNums (y129 ++ bytesOf a0_2))) else (none))) else (none)) else (if a0_0 = 3 then (if y123.length < 140737488355328 then (some (strOfNums (y123 ++ [(a0_1) % 256]))) else (none)) else (some (strOfNums y123))))) = some r := by first | (rw [hy123]; with_reducible exact H) | (have H2_ := (Option.bind_some _ _).symm.trans H; rw [hy123]; with_reducible exact H2_) | (have H2_ := (Option.bind_some _ _).symm.trans H; with_reducible exact H2_) | with_reducible exact H | (rw [hy123]; exact H) | exact H
  have Ny123 := Aside0.mk hy123
  clear hy123
  by_cases c2 : a0_0 = 1
  · rw [if_pos c2] at H
    have c2b0 : (a0_0 == 1) = true := beq_iff_eq.mpr c2
    have c2b1 : (a0_0 != 1) = false := bne_eq_false_iff_eq.mpr c2
    clear c2
    have H' := Aside0.mk H
    clear H
    go_enter Tryd.func32, Tryd.ntmps32
    go_wp2_with (first | ((with_reducible refine gate_dst (N := 1) rfl ?_); refine box_event ?hg (N := 1) ?hd (cs := #[.int .i64 a0_0, .int .i64 a0_1, .string a0_2]) (t := 23) ?hr ?_; (case hd => rfl); (case hg => rfl); (case hr => first | (go_simp; done) | (go_simp; rfl)); intro gb122 hg w3 hbox hb; have n0_ := Aside0.mk (below_step (by repeat (first | (with_reducible first | exact HB.out | apply below_alloc | apply pw_below_drewN | apply below_drew1) | exact HB.out)) hb); have n1_ := Aside0.mk (hbox); have n2_ := Aside0.mk ((by rw [hg]; exact (below_size (by repeat (first | (with_reducible first | exact HB.out | apply below_alloc | apply pw_below_drewN | apply below_drew1) | exact HB.out))) : w.heap.size ≤ gb122)); have n3_ := Aside0.mk ((by rw [hg]; exact (below_size (by repeat (first | (with_reducible first | exact HB.out | apply below_alloc | apply pw_below_drewN | apply below_drew1) | exact HB.out))) : w.heap.size ≤ gb122)); clear HB; have HB := n0_; have BK122 := n1_; have GW122 := n2_; have GE122 := n3_; clear n0_ n1_ n2_ n3_; clear hb hbox hg; have hcz4_0 : w3.cell? ⟨gb122, 0, none⟩ = some (.int .i64 a0_0) := (blk_cell BK122.out 0).trans rfl; have hcz4_1 : w3.cell? ⟨gb122, 1, none⟩ = some (.int .i64 a0_1) := (blk_cell BK122.out 1).trans rfl; have hcz4_2 : w3.cell? ⟨gb122, 2, none⟩ = some (.string a0_2) := (blk_cell BK122.out 2).trans rfl; have hfz4_0 := blk_frozen BK122.out 0; have hfz4_1 := blk_frozen BK122.out 1; have hfz4_2 := blk_frozen BK122.out 2) | ((with_reducible refine gate_dst (N := 9) rfl ?_); refine Kd.R_lit (Kd.int .u8) _ 5 ?hg (N := 9) ?hd (xs := ([(a0_0) % 256] : List Int)) (inner := [.int .u8 ((a0_0) % 256)]) (ok := fun _ => True) (okp := fun _ => True) ?hr ?hp (fun _ hk => hk) trivial (Below.refl _ _) (Nat.le_refl _) (by simp) ?_; (case hd => rfl); (case hg => rfl); (case hr => first | (go_simp; done) | (go_simp; rfl)); (case hp => exact (Reps.one (show Kd.M (Kd.int .u8) _ _ _ ((a0_0) % 256) [.int .u8 ((a0_0) % 256)] from rfl) (Reps.none _ _))); intro v124 w5 ho6 hb hg_ hnew_; clear hg_ hnew_; (first | rw [← Ny123.out] at ho6 | (simp only [Int.reduceToNat] at ho6; rw [← Ny123.out] at ho6)); have n0_ := Aside0.mk (Kd.R_lower ho6 (below_size (by repeat (first | (with_reducible first | exact HB.out | apply below_alloc | apply pw_below_drewN | apply below_drew1 | refine below_set ?_ GE122.out) | exact HB.out)))); have n1_ := Aside0.mk (blk_below (g := gb122) (o := .cells #[.int .i64 a0_0, .int .i64 a0_1, .string a0_2] 23 (0, 0)) (by (with_reducible repeat (first | refine blk_drewN ?_ _ | refine blk_drew ?_ | refine blk_alloc ?_ _)); exact BK122.out) hb); have n2_ := Aside0.mk (below_step (by repeat (first | (with_reducible first | exact HB.out | apply below_alloc | apply pw_below_drewN | apply below_drew1 | refine below_set ?_ GE122.out) | exact HB.out)) hb); clear BK122; clear HB; have HO125 := n0_; have BK122 := n1_; have HB := n2_; clear n0_ n1_ n2_; clear hb ho6; have hcz7_0 : w5.cell? ⟨gb122, 0, none⟩ = some (.int .i64 a0_0) := (blk_cell BK122.out 0).trans rfl; have hcz7_1 : w5.cell? ⟨gb122, 1, none⟩ = some (.int .i64 a0_1) := (blk_cell BK122.out 1).trans rfl; have hcz7_2 : w5.cell? ⟨gb122, 2, none⟩ = some (.string a0_2) := (blk_cell BK122.out 2).trans rfl; have hfz7_0 := blk_frozen BK122.out 0; have hfz7_1 := blk_frozen BK122.out 1; have hfz7_2 := blk_frozen BK122.out 2))
    go_loopg [3, 18] k (fun kq v3 v18 w' => ∃ (x3_1 : List Int) (x18_1 : Int), v18 = .int .i64 x18_1 ∧ Aside0 (value_bytes.l0 kq x3_1 (Go.bits .xor .u64 (IntKind.u64.wrap (a0_1)) 9223372036854775808) x18_1 = some r) ∧ Aside0 (kq ≤ k) ∧ Aside0 (Kd.R (Kd.int .u8) 5 w' w.heap.size (fun _ => True) v3 x3_1) ∧ Aside0 (w'.heap[gb122]? = some (.cells #[.int .i64 a0_0, .int .i64 a0_1, .string a0_2] 23 (0, 0))) ∧ Aside0 (Below w.heap.size w w'))
    case atStart => exact ⟨(y123), (0), (by first | rfl | (simp; done) | (simp [*]; done)), H', ⟨Nat.le_refl _⟩, ⟨by (with_reducible repeat (first | apply Kd.R_alloc | apply Kd.R_drewN | apply Kd.R_drew)); exact HO125.out⟩, ⟨by (with_reducible repeat (first | refine blk_drewN ?_ _ | refine blk_drew ?_ | refine blk_alloc ?_ _)); exact BK122.out⟩, ⟨by repeat (first | (with_reducible first | exact HB.out | apply below_alloc | apply pw_below_drewN | apply below_drew1 | refine below_set ?_ GE122.out) | exact HB.out)⟩⟩
    case round =>
      clear H'
      try clear c2
      try clear c2b0
      try clear c2b1
      try clear p2
      try clear c3
      try clear hcz4_0
      try clear hcz4_1
      try clear hcz4_2
      try clear hcz7_0
      try clear hcz7_1
      try clear hcz7_2
      try clear hfz4_0
      try clear hfz4_1
      try clear hfz4_2
      try clear hfz7_0
      try clear hfz7_1
      try clear hfz7_2
      obtain ⟨x3_1, x18_1, rfl, HA, HK1, HO_3, BK122, HB⟩ := hrel
      cases gk with
      | zero => exact absurd HA.out (by simp [value_bytes.l0])
      | succ k1 =>
        have H := HA.out
        clear HA
        simp only [value_bytes.l0] at H
        by_cases c8 : x18_1 < 8
        · rw [if_pos c8] at H
          have c8b0 : decide (x18_1 < 8) = true := decide_eq_true c8
          clear c8
          obtain ⟨ji9, hji9⟩ : ∃ j_ : Int, (wrap64 (8 * (wrap64 (7 - x18_1)))) = j_ := ⟨_, rfl⟩
          replace H : (if 0 ≤ (ji9) then (if x3_1.length < 140737488355328 then (value_bytes.l0 k1 (x3_1 ++ [(shr .u64 (Go.bits .xor .u64 (IntKind.u64.wrap (a0_1)) 9223372036854775808) (ji9)) % 256]) (Go.bits .xor .u64 (IntKind.u64.wrap (a0_1)) 9223372036854775808) (wrap64 (x18_1 + 1))) else (none)) else (none)) = some r := by first | (rw [hji9] at H; exact H) | (simp only [hji9] at H ⊢; exact H)
          have hji9w : (IntKind.i64.wrap (8 * (wrap64 (7 - x18_1)))) = ji9 := (i64_w _).trans hji9
          by_cases c10 : 0 ≤ (ji9)
          · rw [if_pos c10] at H
            have c10b0 := eq_true c10
            have c10b1 : decide (0 ≤ (ji9)) = true := decide_eq_true c10
            clear c10
            obtain ⟨ji11, hji11⟩ : ∃ j_ : Int, (shr .u64 (Go.bits .xor .u64 (IntKind.u64.wrap (a0_1)) 9223372036854775808) (ji9)) = j_ := ⟨_, rfl⟩
            replace H : (if x3_1.length < 140737488355328 then (value_bytes.l0 k1 (x3_1 ++ [(ji11) % 256]) (Go.bits .xor .u64 (IntKind.u64.wrap (a0_1)) 9223372036854775808) (wrap64 (x18_1 + 1))) else (none)) = some r := by first | (rw [hji11] at H; exact H) | (simp only [hji11] at H ⊢; exact H)
            have hji11_ : ((Go.bits .xor .u64 (IntKind.u64.wrap (a0_1)) 9223372036854775808) / 2 ^ min (ji9).toNat 64) = ji11 := hji11
            have hji11z : (ji9) ≤ 64 → ((Go.bits .xor .u64 (IntKind.u64.wrap (a0_1)) 9223372036854775808) / 2 ^ (ji9).toNat) = ji11 := shr_small hji11
            by_cases c12 : x3_1.length < 140737488355328
            · rw [if_pos c12] at H
              have LMc12 := Aside0.mk c12
              clear c12
              obtain ⟨y126, hy126⟩ : ∃ y_ : List Int, y_ = (x3_1 ++ [(ji11) % 256]) := ⟨_, rfl⟩
              replace H : (value_bytes.l0 k1 y126 (Go.bits .xor .u64 (IntKind.u64.wrap (a0_1)) 9223372036854775808) (wrap64 (x18_1 + 1))) = some r := by first | (rw [hy126]; with_reducible exact H) | (have H2_ := (Option.bind_some _ _).symm.trans H; rw [hy126]; with_reducible exact H2_) | (have H2_ := (Option.bind_some _ _).symm.trans H; with_reducible exact H2_) | with_reducible exact H | (rw [hy126]; exact H) | exact H
              have Ny126 := Aside0.mk hy126
              clear hy126
              have H' := Aside0.mk H
              clear H
              go_wp2_with (first | ((with_reducible refine gate_builtin (b := .append) (xs := #[.tmp 21, .tmp 28]) rfl ?_); at_builtin; refine Kd.R_append (Kd.int .u8) (w0 := w) w.heap.size rfl (.tmp 21) (.tmp 28) 53 5 (.int .u8 0) 1 rfl Tryd.underlying53 info5 rfl (by decide) (by omega) u3 x3_1 ((ji11) % 256) [.int .u8 ((ji11) % 256)] (fun _ => True) (fun _ => False) rfl rfl ?aP (fun _ hk => hk.elim) ?aF ?aO ?aB ?aS ?aL ?_; (case aP => exact rfl); (case aB => exact (by repeat (first | (with_reducible first | exact HB.out | apply below_alloc | apply pw_below_drewN | apply below_drew1 | refine below_set ?_ GE122.out) | exact HB.out))); (case aF => exact (fun _ _ => trivial)); (case aO => exact (by (with_reducible repeat (first | apply Kd.R_alloc | apply Kd.R_drewN | apply Kd.R_drew)); exact HO_3.out)); (case aS => exact (below_size (by repeat (first | (with_reducible first | exact HB.out | apply below_alloc | apply pw_below_drewN | apply below_drew1 | refine below_set ?_ GE122.out) | exact HB.out)))); (case aL => have := LMc12.out; omega); intro v127 w13 ho hb hg hat; rw [← Ny126.out] at ho; have n0_ := Aside0.mk (blk_grown (g := gb122) (o := .cells #[.int .i64 a0_0, .int .i64 a0_1, .string a0_2] 23 (0, 0)) (by (with_reducible repeat (first | refine blk_drewN ?_ _ | refine blk_drew ?_ | refine blk_alloc ?_ _)); exact BK122.out) hg (Kd.R_ne HO_3.out BK122.out (by decide))); have n1_ := Aside0.mk (hb); have n2_ := Aside0.mk (ho); clear BK122; clear HB; clear HO_3; have BK122 := n0_; have HB := n1_; have HO128 := n2_; clear n0_ n1_ n2_; clear ho hb hg hat))
              go_roundg k1
              case measure => have := HK1.out; omega
              case rel => exact ⟨(y126), (wrap64 (x18_1 + 1)), (by first | rfl | (simp; done) | (simp [*]; done)), H', ⟨by have := HK1.out; omega⟩, ⟨by (with_reducible repeat (first | apply Kd.R_alloc | apply Kd.R_drewN | apply Kd.R_drew)); exact HO128.out⟩, ⟨by (with_reducible repeat (first | refine blk_drewN ?_ _ | refine blk_drew ?_ | refine blk_alloc ?_ _)); exact BK122.out⟩, ⟨by repeat (first | (with_reducible first | exact HB.out | apply below_alloc | apply pw_below_drewN | apply below_drew1 | refine below_set ?_ GE122.out) | exact HB.out)⟩⟩
            · rw [if_neg c12] at H
              exact absurd H (by simp)
          · rw [if_neg c10] at H
            exact absurd H (by simp)
        · rw [if_neg c8] at H
          have c8b0 : decide (x18_1 < 8) = false := decide_eq_false c8
          clear c8
          obtain rfl := Option.some.inj H
          have hcv14 := own_string (P := Tryd.prog) Tryd.underlying53 Tryd.underlying5 Tryd.underlying9 (Kd.own_of_R HO_3.out)
          go_wp2
          go_ret
          exact ⟨by first | rfl | (simp [errW_none, errW_some] <;> rfl) | (simp [*, errW_none, errW_some] <;> rfl), by repeat (first | (with_reducible first | exact HB.out | apply below_alloc | apply pw_below_drewN | apply below_drew1 | refine below_set ?_ GE122.out) | exact HB.out)⟩
  · rw [if_neg c2] at H
    have c2b0 : (a0_0 == 1) = false := beq_eq_false_iff_ne.mpr c2
    have c2b1 : (a0_0 != 1) = true := bne_iff_ne.mpr c2
    by_cases c15 : a0_0 = 2
    · rw [if_pos c15] at H
      have c15b0 : (a0_0 == 2) = true := beq_iff_eq.mpr c15
      have c15b1 : (a0_0 != 2) = false := bne_eq_false_iff_eq.mpr c15
      clear c15
      by_cases c16 : y123.length < 140737488355328
      · rw [if_pos c16] at H
        have LMc16 := Aside0.mk c16
        clear c16
        obtain ⟨y129, hy129⟩ : ∃ y_ : List Int, y_ = (y123 ++ [((a0_2.size : Int)) % 256]) := ⟨_, rfl⟩
        replace H : (if y129.length + a0_2.size < 140737488355328 then (some (strOfNums (y129 ++ bytesOf a0_2))) else (none)) = some r := by first | (rw [hy129]; with_reducible exact H) | (have H2_ := (Option.bind_some _ _).symm.trans H; rw [hy129]; with_reducible exact H2_) | (have H2_ := (Option.bind_some _ _).symm.trans H; with_reducible exact H2_) | with_reducible exact H | (rw [hy129]; exact H) | exact H
        have Ny129 := Aside0.mk hy129
        clear hy129
        by_cases c17 : y129.length + a0_2.size < 140737488355328
        · rw [if_pos c17] at H
          have LMc17 := Aside0.mk c17
          clear c17
          obtain ⟨y132, hy132⟩ : ∃ y_ : List Int, y_ = (y129 ++ bytesOf a0_2) := ⟨_, rfl⟩
          replace H : (some (strOfNums y132)) = some r := by first | (rw [hy132]; with_reducible exact H) | (have H2_ := (Option.bind_some _ _).symm.trans H; rw [hy132]; with_reducible exact H2_) | (have H2_ := (Option.bind_some _ _).symm.trans H; with_reducible exact H2_) | with_reducible exact H | (rw [hy132]; exact H) | exact H
          have Ny132 := Aside0.mk hy132
          clear hy132
          obtain rfl := Option.some.inj H
          go_enter Tryd.func32, Tryd.ntmps32
          try go_wp2_with (first | ((with_reducible refine gate_dst (N := 1) rfl ?_); refine box_event ?hg (N := 1) ?hd (cs := #[.int .i64 a0_0, .int .i64 a0_1, .string a0_2]) (t := 23) ?hr ?_; (case hd => rfl); (case hg => rfl); (case hr => first | (go_simp; done) | (go_simp; rfl)); intro gb122 hg w18 hbox hb; have n0_ := Aside0.mk (below_step (by repeat (first | (with_reducible first | exact HB.out | apply below_alloc | apply pw_below_drewN | apply below_drew1) | exact HB.out)) hb); have n1_ := Aside0.mk (hbox); have n2_ := Aside0.mk ((by rw [hg]; exact (below_size (by repeat (first | (with_reducible first | exact HB.out | apply below_alloc | apply pw_below_drewN | apply below_drew1) | exact HB.out))) : w.heap.size ≤ gb122)); have n3_ := Aside0.mk ((by rw [hg]; exact (below_size (by repeat (first | (with_reducible first | exact HB.out | apply below_alloc | apply pw_below_drewN | apply below_drew1) | exact HB.out))) : w.heap.size ≤ gb122)); clear HB; have HB := n0_; have BK122 := n1_; have GW122 := n2_; have GE122 := n3_; clear n0_ n1_ n2_ n3_; clear hb hbox hg; have hcz19_0 : w18.cell? ⟨gb122, 0, none⟩ = some (.int .i64 a0_0) := (blk_cell BK122.out 0).trans rfl; have hcz19_1 : w18.cell? ⟨gb122, 1, none⟩ = some (.int .i64 a0_1) := (blk_cell BK122.out 1).trans rfl; have hcz19_2 : w18.cell? ⟨gb122, 2, none⟩ = some (.string a0_2) := (blk_cell BK122.out 2).trans rfl; have hfz19_0 := blk_frozen BK122.out 0; have hfz19_1 := blk_frozen BK122.out 1; have hfz19_2 := blk_frozen BK122.out 2) | ((with_reducible refine gate_dst (N := 9) rfl ?_); refine Kd.R_lit (Kd.int .u8) _ 5 ?hg (N := 9) ?hd (xs := ([(a0_0) % 256] : List Int)) (inner := [.int .u8 ((a0_0) % 256)]) (ok := fun _ => True) (okp := fun _ => True) ?hr ?hp (fun _ hk => hk) trivial (Below.refl _ _) (Nat.le_refl _) (by simp) ?_; (case hd => rfl); (case hg => rfl); (case hr => first | (go_simp; done) | (go_simp; rfl)); (case hp => exact (Reps.one (show Kd.M (Kd.int .u8) _ _ _ ((a0_0) % 256) [.int .u8 ((a0_0) % 256)] from rfl) (Reps.none _ _))); intro v124 w20 ho21 hb hg_ hnew_; clear hg_ hnew_; (first | rw [← Ny123.out] at ho21 | (simp only [Int.reduceToNat] at ho21; rw [← Ny123.out] at ho21)); have n0_ := Aside0.mk (Kd.R_lower ho21 (below_size (by repeat (first | (with_reducible first | exact HB.out | apply below_alloc | apply pw_below_drewN | apply below_drew1 | refine below_set ?_ GE122.out) | exact HB.out)))); have n1_ := Aside0.mk (blk_below (g := gb122) (o := .cells #[.int .i64 a0_0, .int .i64 a0_1, .string a0_2] 23 (0, 0)) (by (with_reducible repeat (first | refine blk_drewN ?_ _ | refine blk_drew ?_ | refine blk_alloc ?_ _)); exact BK122.out) hb); have n2_ := Aside0.mk (below_step (by repeat (first | (with_reducible first | exact HB.out | apply below_alloc | apply pw_below_drewN | apply below_drew1 | refine below_set ?_ GE122.out) | exact HB.out)) hb); clear BK122; clear HB; have HO125 := n0_; have BK122 := n1_; have HB := n2_; clear n0_ n1_ n2_; clear hb ho21; have hcz22_0 : w20.cell? ⟨gb122, 0, none⟩ = some (.int .i64 a0_0) := (blk_cell BK122.out 0).trans rfl; have hcz22_1 : w20.cell? ⟨gb122, 1, none⟩ = some (.int .i64 a0_1) := (blk_cell BK122.out 1).trans rfl; have hcz22_2 : w20.cell? ⟨gb122, 2, none⟩ = some (.string a0_2) := (blk_cell BK122.out 2).trans rfl; have hfz22_0 := blk_frozen BK122.out 0; have hfz22_1 := blk_frozen BK122.out 1; have hfz22_2 := blk_frozen BK122.out 2))
          have n0_ := Aside0.mk (Kd.R_drew HO125.out)
          have n1_ := Aside0.mk (blk_drew BK122.out)
          have n2_ := Aside0.mk (below_drew1 HB.out)
          clear HO125
          clear BK122
          clear HB
          have HO125 := n0_
          have BK122 := n1_
          have HB := n2_
          clear n0_ n1_ n2_
          refine start_ (n := 11) (S := fun w' => w'.cell? ⟨gb122, 0, none⟩ = some (.int .i64 a0_0) ∧ w'.cell? ⟨gb122, 1, none⟩ = some (.int .i64 a0_1) ∧ w'.cell? ⟨gb122, 2, none⟩ = some (.string a0_2)) (ds := []) #[false, false, false, false, false, false, false, false, false, false, false] (by kernel_rfl) rfl rfl ⟨(blk_cell BK122.out 0).trans rfl, (blk_cell BK122.out 1).trans rfl, (blk_cell BK122.out 2).trans rfl⟩ (fun hHeld => ?_); refine with_tabW value_bytes.tab11 value_bytes.bits11 (fun HT_ HW_ => ?_)
          generalize w20.drew = w23 at HO125 BK122 HB hHeld ⊢
          refine pure_ (i := 0) (N := some 33) (v := ?_) (a' := ?_) #[true, false, false, false, false, false, false, false, false, false, false] rfl rfl (any_of HT_.out (by kernel_rfl)) (fun _ _ _ h => h) (Or.inl ⟨by rfl, ?_⟩) ?_ ?_
          rotate_left
          · intro w'
            go_simp
            with_reducible rfl
          rotate_left
          · simp only [Act.put, List.setIfInBounds_toArray, List.set_cons_zero, List.set_cons_succ, i64_w, i32_w]
            rfl
          refine pure_ (i := 1) (N := some 34) (v := ?_) (a' := ?_) #[true, true, false, false, false, false, false, false, false, false, false] rfl rfl (any_of HT_.out (by kernel_rfl)) (fun _ _ _ h => h) (Or.inl ⟨by rfl, ?_⟩) ?_ ?_
          rotate_left
          · intro w'
            go_simp
            with_reducible rfl
          rotate_left
          · simp only [Act.put, List.setIfInBounds_toArray, List.set_cons_zero, List.set_cons_succ, i64_w, i32_w]
            rfl
          refine pure_ (i := 7) (N := some 40) (v := ?_) (a' := ?_) #[true, true, false, false, false, false, false, true, false, false, false] rfl rfl (any_of HT_.out (by kernel_rfl)) (fun _ _ _ h => h) (Or.inl ⟨by rfl, ?_⟩) ?_ ?_
          rotate_left
          · intro w'
            go_simp
            with_reducible rfl
          rotate_left
          · simp only [Act.put, List.setIfInBounds_toArray, List.set_cons_zero, List.set_cons_succ, i64_w, i32_w]
            rfl
          refine take_ (i := 2) (N := some 35) (v := ?_) (a' := ?_) #[true, true, true, false, false, false, false, true, false, false, false] rfl rfl (take_ofW HT_.out HW_.out (by kernel_rfl)) (fun _ _ _ h => h) (Or.inl ⟨by rfl, ?_⟩) hHeld ?_ ?_
          rotate_left
          · rintro w' ⟨s0, s1, s2⟩
            go_simp
            with_reducible rfl
          rotate_left
          · simp only [Act.put, List.setIfInBounds_toArray, List.set_cons_zero, List.set_cons_succ, i64_w, i32_w]
            rfl
          refine pure_ (i := 3) (N := some 36) (v := ?_) (a' := ?_) #[true, true, true, true, false, false, false, true, false, false, false] rfl rfl (any_of HT_.out (by kernel_rfl)) (fun _ _ _ h => h) (Or.inl ⟨by rfl, ?_⟩) ?_ ?_
          rotate_left
          · intro w'
            go_simp
            with_reducible rfl
          rotate_left
          · simp only [Act.put, List.setIfInBounds_toArray, List.set_cons_zero, List.set_cons_succ, i64_w, i32_w]
            rfl
          refine pure_ (i := 4) (N := some 37) (v := ?_) (a' := ?_) #[true, true, true, true, true, false, false, true, false, false, false] rfl rfl (any_of HT_.out (by kernel_rfl)) (fun _ _ _ h => h) (Or.inl ⟨by rfl, ?_⟩) ?_ ?_
          rotate_left
          · intro w'
            go_simp
            with_reducible rfl
          rotate_left
          · simp only [Act.put, List.setIfInBounds_toArray, List.set_cons_zero, List.set_cons_succ, i64_w, i32_w]
            rfl
          refine take_ (i := 8) (N := some 41) (v := ?_) (a' := ?_) #[true, true, true, true, true, false, false, true, true, false, false] rfl rfl (take_ofW HT_.out HW_.out (by kernel_rfl)) (fun _ _ _ h => h) (Or.inl ⟨by rfl, ?_⟩) hHeld ?_ ?_
          rotate_left
          · rintro w' ⟨s0, s1, s2⟩
            go_simp
            with_reducible rfl
          rotate_left
          · simp only [Act.put, List.setIfInBounds_toArray, List.set_cons_zero, List.set_cons_succ, i64_w, i32_w]
            rfl
          refine one_ (i := 5) (N := some 38) #[true, true, true, true, true, true, false, true, true, false, false] rfl rfl (one_of HT_.out (by kernel_rfl)) (by decide) (fun K hK => ?_)
          refine value_ (w1 := ?_) (v := ?_) (by rfl) rfl ?_ ?_
          rotate_left 2
          · go_simp
            constructor
            · rfl
            · rfl
          refine hK.out _ _ ⟨(blk_cell (blk_alloc BK122.out _) 0).trans rfl, (blk_cell (blk_alloc BK122.out _) 1).trans rfl, (blk_cell (blk_alloc BK122.out _) 2).trans rfl⟩ (fun hHeld => ?_)
          clear hK K
          refine norm_ (a' := ?_) ?_ ?_
          rotate_left
          · show Act.put _ (some 38) _ = _
            simp only [Act.put, List.setIfInBounds_toArray, List.set_cons_zero, List.set_cons_succ, i64_w, i32_w]
            rfl
          refine one_ (i := 6) (N := some 39) #[true, true, true, true, true, true, true, true, true, false, false] rfl rfl (one_of HT_.out (by kernel_rfl)) (by decide) (fun K hK => ?_)
          refine Kd.R_append_step (Kd.int .u8) (w0 := w) w.heap.size (by rfl) (.tmp 33) (.tmp 38) 53 5 (.int .u8 0) 1 rfl Tryd.underlying53 info5 rfl (by decide) (by omega) v124 y123 (((a0_2.size : Int)) % 256) [.int .u8 (((a0_2.size : Int)) % 256)] (fun _ => True) (fun _ => False) rfl rfl ?aP (fun _ hk => hk.elim) ?aF ?aO ?aB ?aS ?aL ?_
          (case aP => exact rfl)
          (case aB => exact (by repeat (first | (with_reducible first | exact HB.out | apply below_alloc | apply pw_below_drewN | apply below_drew1 | refine below_set ?_ GE122.out) | exact HB.out)))
          (case aF => exact (fun _ _ => trivial))
          (case aO => exact (by (with_reducible repeat (first | apply Kd.R_alloc | apply Kd.R_drewN | apply Kd.R_drew)); exact HO125.out))
          (case aS => exact (below_size (by repeat (first | (with_reducible first | exact HB.out | apply below_alloc | apply pw_below_drewN | apply below_drew1 | refine below_set ?_ GE122.out) | exact HB.out))))
          (case aL => have := LMc16.out; omega)
          intro v130 w24 ho hb hg hat
          rw [← Ny129.out] at ho
          have n0_ := Aside0.mk (blk_grown (g := gb122) (o := .cells #[.int .i64 a0_0, .int .i64 a0_1, .string a0_2] 23 (0, 0)) (by (with_reducible repeat (first | refine blk_drewN ?_ _ | refine blk_drew ?_ | refine blk_alloc ?_ _)); exact BK122.out) hg (Kd.R_ne HO125.out BK122.out (by decide)))
          have n1_ := Aside0.mk (hb)
          have n2_ := Aside0.mk (ho)
          clear BK122
          clear HB
          clear HO125
          have BK122 := n0_
          have HB := n1_
          have HO131 := n2_
          clear n0_ n1_ n2_
          clear ho hb hg hat
          refine hK.out _ _ ⟨(blk_cell BK122.out 0).trans rfl, (blk_cell BK122.out 1).trans rfl, (blk_cell BK122.out 2).trans rfl⟩ (fun hHeld => ?_)
          clear hK K
          refine norm_ (a' := ?_) ?_ ?_
          rotate_left
          · show Act.put _ (some 39) _ = _
            simp only [Act.put, List.setIfInBounds_toArray, List.set_cons_zero, List.set_cons_succ, i64_w, i32_w]
            rfl
          refine one_ (i := 9) (N := some 42) #[true, true, true, true, true, true, true, true, true, true, false] rfl rfl (one_of HT_.out (by kernel_rfl)) (by decide) (fun K hK => ?_)
          refine step_append_str (w0 := w) w.heap.size (by rfl) (.tmp 39) _ 53 9 5 rfl Tryd.underlying53 Tryd.underlying9 info5 v130 y129 a0_2 rfl rfl ?aO ?aB ?aS ?aL ?_
          (case aB => exact (by repeat (first | (with_reducible first | exact HB.out | apply below_alloc | apply pw_below_drewN | apply below_drew1 | refine below_set ?_ GE122.out) | exact HB.out)))
          (case aO => exact (Kd.own_of_R (by (with_reducible repeat (first | apply Kd.R_alloc | apply Kd.R_drewN | apply Kd.R_drew)); exact HO131.out)))
          (case aS => exact (below_size (by repeat (first | (with_reducible first | exact HB.out | apply below_alloc | apply pw_below_drewN | apply below_drew1 | refine below_set ?_ GE122.out) | exact HB.out))))
          (case aL => have := LMc17.out; omega)
          intro v133 w25 ho0 hb hg
          have ho := Kd.R_of_own (h1 := fun _ => rfl) (ok := fun _ => True) ho0 (fun _ _ => trivial)
          clear ho0
          have hat := True.intro
          rw [← Ny132.out] at ho
          change Kd.R (Kd.int .u8) 5 w25 w.heap.size (fun _ => True) v133 y132 at ho
          have n0_ := Aside0.mk (blk_grown (g := gb122) (o := .cells #[.int .i64 a0_0, .int .i64 a0_1, .string a0_2] 23 (0, 0)) (by (with_reducible repeat (first | refine blk_drewN ?_ _ | refine blk_drew ?_ | refine blk_alloc ?_ _)); exact BK122.out) hg (Kd.R_ne HO131.out BK122.out (by decide)))
          have n1_ := Aside0.mk (hb)
          have n2_ := Aside0.mk (ho)
          clear BK122
          clear HB
          clear HO131
          have BK122 := n0_
          have HB := n1_
          have HO134 := n2_
          clear n0_ n1_ n2_
          clear ho hb hg hat
          refine hK.out _ _ ⟨(blk_cell BK122.out 0).trans rfl, (blk_cell BK122.out 1).trans rfl, (blk_cell BK122.out 2).trans rfl⟩ (fun hHeld => ?_)
          clear hK K
          refine norm_ (a' := ?_) ?_ ?_
          rotate_left
          · show Act.put _ (some 42) _ = _
            simp only [Act.put, List.setIfInBounds_toArray, List.set_cons_zero, List.set_cons_succ, i64_w, i32_w]
            rfl
          refine pure_ (i := 10) (N := some 3) (v := ?_) (a' := ?_) #[true, true, true, true, true, true, true, true, true, true, true] rfl rfl (any_of HT_.out (by kernel_rfl)) (fun _ _ _ h => h) (Or.inl ⟨by rfl, ?_⟩) ?_ ?_
          rotate_left
          · intro w'
            go_simp
            with_reducible rfl
          rotate_left
          · simp only [Act.put, List.setIfInBounds_toArray, List.set_cons_zero, List.set_cons_succ, i64_w, i32_w]
            rfl
          refine done_ (done_of HT_.out (by kernel_rfl)) ?_
          have hcv26 := own_string (P := Tryd.prog) Tryd.underlying53 Tryd.underlying5 Tryd.underlying9 (Kd.own_of_R HO134.out)
          try go_wp2
          go_ret
          exact ⟨by first | rfl | (simp [errW_none, errW_some] <;> rfl) | (simp [*, errW_none, errW_some] <;> rfl), by repeat (first | (with_reducible first | exact HB.out | apply below_alloc | apply pw_below_drewN | apply below_drew1 | refine below_set ?_ GE122.out) | exact HB.out)⟩
        · rw [if_neg c17] at H
          exact absurd H (by simp)
      · rw [if_neg c16] at H
        exact absurd H (by simp)
    · rw [if_neg c15] at H
      have c15b0 : (a0_0 == 2) = false := beq_eq_false_iff_ne.mpr c15
      have c15b1 : (a0_0 != 2) = true := bne_iff_ne.mpr c15
      by_cases c27 : a0_0 = 3
      · rw [if_pos c27] at H
        have c27b0 : (a0_0 == 3) = true := beq_iff_eq.mpr c27
        have c27b1 : (a0_0 != 3) = false := bne_eq_false_iff_eq.mpr c27
        clear c27
        by_cases c28 : y123.length < 140737488355328
        · rw [if_pos c28] at H
          have LMc28 := Aside0.mk c28
          clear c28
          obtain ⟨y135, hy135⟩ : ∃ y_ : List Int, y_ = (y123 ++ [(a0_1) % 256]) := ⟨_, rfl⟩
          replace H : (some (strOfNums y135)) = some r := by first | (rw [hy135]; with_reducible exact H) | (have H2_ := (Option.bind_some _ _).symm.trans H; rw [hy135]; with_reducible exact H2_) | (have H2_ := (Option.bind_some _ _).symm.trans H; with_reducible exact H2_) | with_reducible exact H | (rw [hy135]; exact H) | exact H
          have Ny135 := Aside0.mk hy135
          clear hy135
          obtain rfl := Option.some.inj H
          go_enter Tryd.func32, Tryd.ntmps32
          go_wp2_with (first | ((with_reducible refine gate_dst (N := 1) rfl ?_); refine box_event ?hg (N := 1) ?hd (cs := #[.int .i64 a0_0, .int .i64 a0_1, .string a0_2]) (t := 23) ?hr ?_; (case hd => rfl); (case hg => rfl); (case hr => first | (go_simp; done) | (go_simp; rfl)); intro gb122 hg w29 hbox hb; have n0_ := Aside0.mk (below_step (by repeat (first | (with_reducible first | exact HB.out | apply below_alloc | apply pw_below_drewN | apply below_drew1) | exact HB.out)) hb); have n1_ := Aside0.mk (hbox); have n2_ := Aside0.mk ((by rw [hg]; exact (below_size (by repeat (first | (with_reducible first | exact HB.out | apply below_alloc | apply pw_below_drewN | apply below_drew1) | exact HB.out))) : w.heap.size ≤ gb122)); have n3_ := Aside0.mk ((by rw [hg]; exact (below_size (by repeat (first | (with_reducible first | exact HB.out | apply below_alloc | apply pw_below_drewN | apply below_drew1) | exact HB.out))) : w.heap.size ≤ gb122)); clear HB; have HB := n0_; have BK122 := n1_; have GW122 := n2_; have GE122 := n3_; clear n0_ n1_ n2_ n3_; clear hb hbox hg; have hcz30_0 : w29.cell? ⟨gb122, 0, none⟩ = some (.int .i64 a0_0) := (blk_cell BK122.out 0).trans rfl; have hcz30_1 : w29.cell? ⟨gb122, 1, none⟩ = some (.int .i64 a0_1) := (blk_cell BK122.out 1).trans rfl; have hcz30_2 : w29.cell? ⟨gb122, 2, none⟩ = some (.string a0_2) := (blk_cell BK122.out 2).trans rfl; have hfz30_0 := blk_frozen BK122.out 0; have hfz30_1 := blk_frozen BK122.out 1; have hfz30_2 := blk_frozen BK122.out 2) | ((with_reducible refine gate_dst (N := 9) rfl ?_); refine Kd.R_lit (Kd.int .u8) _ 5 ?hg (N := 9) ?hd (xs := ([(a0_0) % 256] : List Int)) (inner := [.int .u8 ((a0_0) % 256)]) (ok := fun _ => True) (okp := fun _ => True) ?hr ?hp (fun _ hk => hk) trivial (Below.refl _ _) (Nat.le_refl _) (by simp) ?_; (case hd => rfl); (case hg => rfl); (case hr => first | (go_simp; done) | (go_simp; rfl)); (case hp => exact (Reps.one (show Kd.M (Kd.int .u8) _ _ _ ((a0_0) % 256) [.int .u8 ((a0_0) % 256)] from rfl) (Reps.none _ _))); intro v124 w31 ho32 hb hg_ hnew_; clear hg_ hnew_; (first | rw [← Ny123.out] at ho32 | (simp only [Int.reduceToNat] at ho32; rw [← Ny123.out] at ho32)); have n0_ := Aside0.mk (Kd.R_lower ho32 (below_size (by repeat (first | (with_reducible first | exact HB.out | apply below_alloc | apply pw_below_drewN | apply below_drew1 | refine below_set ?_ GE122.out) | exact HB.out)))); have n1_ := Aside0.mk (blk_below (g := gb122) (o := .cells #[.int .i64 a0_0, .int .i64 a0_1, .string a0_2] 23 (0, 0)) (by (with_reducible repeat (first | refine blk_drewN ?_ _ | refine blk_drew ?_ | refine blk_alloc ?_ _)); exact BK122.out) hb); have n2_ := Aside0.mk (below_step (by repeat (first | (with_reducible first | exact HB.out | apply below_alloc | apply pw_below_drewN | apply below_drew1 | refine below_set ?_ GE122.out) | exact HB.out)) hb); clear BK122; clear HB; have HO125 := n0_; have BK122 := n1_; have HB := n2_; clear n0_ n1_ n2_; clear hb ho32; have hcz33_0 : w31.cell? ⟨gb122, 0, none⟩ = some (.int .i64 a0_0) := (blk_cell BK122.out 0).trans rfl; have hcz33_1 : w31.cell? ⟨gb122, 1, none⟩ = some (.int .i64 a0_1) := (blk_cell BK122.out 1).trans rfl; have hcz33_2 : w31.cell? ⟨gb122, 2, none⟩ = some (.string a0_2) := (blk_cell BK122.out 2).trans rfl; have hfz33_0 := blk_frozen BK122.out 0; have hfz33_1 := blk_frozen BK122.out 1; have hfz33_2 := blk_frozen BK122.out 2) | ((with_reducible refine gate_builtin (b := .append) (xs := #[.tmp 45, .tmp 49]) rfl ?_); at_builtin; refine Kd.R_append (Kd.int .u8) (w0 := w) w.heap.size rfl (.tmp 45) (.tmp 49) 53 5 (.int .u8 0) 1 rfl Tryd.underlying53 info5 rfl (by decide) (by omega) v124 y123 ((a0_1) % 256) [.int .u8 ((a0_1) % 256)] (fun _ => True) (fun _ => False) rfl rfl ?aP (fun _ hk => hk.elim) ?aF ?aO ?aB ?aS ?aL ?_; (case aP => exact rfl); (case aB => exact (by repeat (first | (with_reducible first | exact HB.out | apply below_alloc | apply pw_below_drewN | apply below_drew1 | refine below_set ?_ GE122.out) | exact HB.out))); (case aF => exact (fun _ _ => trivial)); (case aO => exact (by (with_reducible repeat (first | apply Kd.R_alloc | apply Kd.R_drewN | apply Kd.R_drew)); exact HO125.out)); (case aS => exact (below_size (by repeat (first | (with_reducible first | exact HB.out | apply below_alloc | apply pw_below_drewN | apply below_drew1 | refine below_set ?_ GE122.out) | exact HB.out)))); (case aL => have := LMc28.out; omega); intro v136 w34 ho hb hg hat; rw [← Ny135.out] at ho; have n0_ := Aside0.mk (blk_grown (g := gb122) (o := .cells #[.int .i64 a0_0, .int .i64 a0_1, .string a0_2] 23 (0, 0)) (by (with_reducible repeat (first | refine blk_drewN ?_ _ | refine blk_drew ?_ | refine blk_alloc ?_ _)); exact BK122.out) hg (Kd.R_ne HO125.out BK122.out (by decide))); have n1_ := Aside0.mk (hb); have n2_ := Aside0.mk (ho); clear BK122; clear HB; clear HO125; have BK122 := n0_; have HB := n1_; have HO137 := n2_; clear n0_ n1_ n2_; clear ho hb hg hat; have hcv35 := own_string (P := Tryd.prog) Tryd.underlying53 Tryd.underlying5 Tryd.underlying9 (Kd.own_of_R HO137.out)))
          go_ret
          exact ⟨by first | rfl | (simp [errW_none, errW_some] <;> rfl) | (simp [*, errW_none, errW_some] <;> rfl), by repeat (first | (with_reducible first | exact HB.out | apply below_alloc | apply pw_below_drewN | apply below_drew1 | refine below_set ?_ GE122.out) | exact HB.out)⟩
        · rw [if_neg c28] at H
          exact absurd H (by simp)
      · rw [if_neg c27] at H
        have c27b0 : (a0_0 == 3) = false := beq_eq_false_iff_ne.mpr c27
        have c27b1 : (a0_0 != 3) = true := bne_iff_ne.mpr c27
        obtain rfl := Option.some.inj H
        go_enter Tryd.func32, Tryd.ntmps32
        go_wp2_with (first | ((with_reducible refine gate_dst (N := 1) rfl ?_); refine box_event ?hg (N := 1) ?hd (cs := #[.int .i64 a0_0, .int .i64 a0_1, .string a0_2]) (t := 23) ?hr ?_; (case hd => rfl); (case hg => rfl); (case hr => first | (go_simp; done) | (go_simp; rfl)); intro gb122 hg w36 hbox hb; have n0_ := Aside0.mk (below_step (by repeat (first | (with_reducible first | exact HB.out | apply below_alloc | apply pw_below_drewN | apply below_drew1) | exact HB.out)) hb); have n1_ := Aside0.mk (hbox); have n2_ := Aside0.mk ((by rw [hg]; exact (below_size (by repeat (first | (with_reducible first | exact HB.out | apply below_alloc | apply pw_below_drewN | apply below_drew1) | exact HB.out))) : w.heap.size ≤ gb122)); have n3_ := Aside0.mk ((by rw [hg]; exact (below_size (by repeat (first | (with_reducible first | exact HB.out | apply below_alloc | apply pw_below_drewN | apply below_drew1) | exact HB.out))) : w.heap.size ≤ gb122)); clear HB; have HB := n0_; have BK122 := n1_; have GW122 := n2_; have GE122 := n3_; clear n0_ n1_ n2_ n3_; clear hb hbox hg; have hcz37_0 : w36.cell? ⟨gb122, 0, none⟩ = some (.int .i64 a0_0) := (blk_cell BK122.out 0).trans rfl; have hcz37_1 : w36.cell? ⟨gb122, 1, none⟩ = some (.int .i64 a0_1) := (blk_cell BK122.out 1).trans rfl; have hcz37_2 : w36.cell? ⟨gb122, 2, none⟩ = some (.string a0_2) := (blk_cell BK122.out 2).trans rfl; have hfz37_0 := blk_frozen BK122.out 0; have hfz37_1 := blk_frozen BK122.out 1; have hfz37_2 := blk_frozen BK122.out 2) | ((with_reducible refine gate_dst (N := 9) rfl ?_); refine Kd.R_lit (Kd.int .u8) _ 5 ?hg (N := 9) ?hd (xs := ([(a0_0) % 256] : List Int)) (inner := [.int .u8 ((a0_0) % 256)]) (ok := fun _ => True) (okp := fun _ => True) ?hr ?hp (fun _ hk => hk) trivial (Below.refl _ _) (Nat.le_refl _) (by simp) ?_; (case hd => rfl); (case hg => rfl); (case hr => first | (go_simp; done) | (go_simp; rfl)); (case hp => exact (Reps.one (show Kd.M (Kd.int .u8) _ _ _ ((a0_0) % 256) [.int .u8 ((a0_0) % 256)] from rfl) (Reps.none _ _))); intro v124 w38 ho39 hb hg_ hnew_; clear hg_ hnew_; (first | rw [← Ny123.out] at ho39 | (simp only [Int.reduceToNat] at ho39; rw [← Ny123.out] at ho39)); have n0_ := Aside0.mk (Kd.R_lower ho39 (below_size (by repeat (first | (with_reducible first | exact HB.out | apply below_alloc | apply pw_below_drewN | apply below_drew1 | refine below_set ?_ GE122.out) | exact HB.out)))); have n1_ := Aside0.mk (blk_below (g := gb122) (o := .cells #[.int .i64 a0_0, .int .i64 a0_1, .string a0_2] 23 (0, 0)) (by (with_reducible repeat (first | refine blk_drewN ?_ _ | refine blk_drew ?_ | refine blk_alloc ?_ _)); exact BK122.out) hb); have n2_ := Aside0.mk (below_step (by repeat (first | (with_reducible first | exact HB.out | apply below_alloc | apply pw_below_drewN | apply below_drew1 | refine below_set ?_ GE122.out) | exact HB.out)) hb); clear BK122; clear HB; have HO125 := n0_; have BK122 := n1_; have HB := n2_; clear n0_ n1_ n2_; clear hb ho39; have hcz40_0 : w38.cell? ⟨gb122, 0, none⟩ = some (.int .i64 a0_0) := (blk_cell BK122.out 0).trans rfl; have hcz40_1 : w38.cell? ⟨gb122, 1, none⟩ = some (.int .i64 a0_1) := (blk_cell BK122.out 1).trans rfl; have hcz40_2 : w38.cell? ⟨gb122, 2, none⟩ = some (.string a0_2) := (blk_cell BK122.out 2).trans rfl; have hfz40_0 := blk_frozen BK122.out 0; have hfz40_1 := blk_frozen BK122.out 1; have hfz40_2 := blk_frozen BK122.out 2; have hcv41 := own_string (P := Tryd.prog) Tryd.underlying53 Tryd.underlying5 Tryd.underlying9 (Kd.own_of_R HO125.out)))
        go_ret
        exact ⟨by first | rfl | (simp [errW_none, errW_some] <;> rfl) | (simp [*, errW_none, errW_some] <;> rfl), by repeat (first | (with_reducible first | exact HB.out | apply below_alloc | apply pw_below_drewN | apply below_drew1 | refine below_set ?_ GE122.out) | exact HB.out)⟩

-- NOT PRINTED: function 33 (strings_Builder_String)

/-! ### value_Put: function 14 -/
def value_Put.l0 : Nat → List S23 → List UInt8 → Int → Option (ByteArray × Int)
  | 0, _, _, _ => none
  | k + 1, x0, acc, i => if i < (x0.length : Int) then (if 0 ≤ i then ((value_Check.f ((rd_T23 x0 i).f0) ((rd_T23 x0 i).f1) ((rd_T23 x0 i).f2)).bind fun t => (if t = 0 then ((value_bytes.f k ((rd_T23 x0 i).f0) ((rd_T23 x0 i).f1) ((rd_T23 x0 i).f2)).bind fun s => (if acc.length + s.size ≤ 140737488355328 then (value_Put.l0 k x0 (acc ++ s.data.toList) (wrap64 (i + 1))) else none)) else (some ((⟨#[]⟩ : ByteArray), t)))) else none) else (some (⟨acc.toArray⟩, 0))
def value_Put.f (k : Nat) (l0 : List S23) : Option (ByteArray × Int) := if (l0.length : Int) > 255 then (some ((⟨#[]⟩ : ByteArray), 1)) else (value_Put.l0 k l0 [(l0.length % 256).toUInt8] 0)
theorem value_Put.mono_l : ∀ k y0 y1 y2, LeO (value_Put.l0 k y0 y1 y2) (value_Put.l0 (k + 1) y0 y1 y2)
  | 0 => fun _ _ _ r h => by simp [value_Put.l0] at h
  | k + 1 => by
    have ih0 := value_Put.mono_l k
    intro y0 y1 y2
    unfold value_Put.l0
    repeat' first
      | (with_reducible exact ih0 _ _ _)
      | (with_reducible exact value_bytes.mono _ _ _ _)
      | (with_reducible exact LeO.refl _)
      | (with_reducible exact LeO.none _)
      | (with_reducible refine LeO.ite ?_ ?_)
      | (with_reducible refine LeO.bind ?_ (fun _ => ?_))
      | exact ih0 _ _ _
      | exact value_bytes.mono _ _ _ _
      | exact LeO.none _
      | refine LeO.ite ?_ ?_
      | refine LeO.bind ?_ (fun _ => ?_)
theorem value_Put.mono : ∀ a0 k, LeO (value_Put.f k a0) (value_Put.f (k + 1) a0) := by
  intro a0 k
  unfold value_Put.f
  exact LeO.ite (LeO.refl _) (value_Put.mono_l k _ _ _)
theorem bl_own {w w' : World} {B : Nat} {e : TypeId} {v : Value} {n : Nat} {xs : List Value} (h : w.ownsRow B e 1 v n xs) (hb : Below w.heap.size w w') : w'.ownsRow B e 1 v n xs := by
  obtain ⟨h1, h2⟩ := h
  refine ⟨h1, ?_⟩
  rcases h2 with h2 | ⟨g, cap, cur, rfl, hg, hc, r⟩
  · exact .inl h2
  · refine .inr ⟨g, cap, cur, rfl, hg, ?_, r⟩
    have : g < w.heap.size := (Array.getElem?_eq_some_iff.1 hc).1
    rw [hb.block g this]; exact hc
theorem bl_keep {w w' : World} {B b : Nat} {bs : List Value} (h : Lib.IsBuilder 55 5 B b bs w) (hb : Below w.heap.size w w') : Lib.IsBuilder 55 5 B b bs w' := by
  have one : ∀ p, Lib.BuilderAt 55 5 B b p bs w → Lib.BuilderAt 55 5 B b p bs w' := by
    rintro p ⟨h1, v, h2, h3, h4⟩
    have : b < w.heap.size := (Array.getElem?_eq_some_iff.1 h2).1
    exact ⟨h1, v, by rw [hb.block b this]; exact h2, bl_own h3 hb, h4⟩
  exact h.elim (fun x => .inl (one _ x)) (fun x => .inr (one _ x))
theorem one_byte (n : Nat) (h : n ≤ 255) : ([] : List Value) ++ [.int .u8 ((n : Int) % 256)] = Lib.byteCells [(n % 256).toUInt8] := by
  have e : ((n : Int) % 256) = ((n % 256 : Nat) : Int) := by omega
  rw [e]
  simp only [Lib.byteCells, List.nil_append, List.map_cons, List.map_nil]
  congr 2
  have : (n % 256).toUInt8.toNat = n % 256 := by
    rw [Nat.toUInt8, UInt8.toNat_ofNat']
    omega
  rw [this]
theorem put_bytes (acc : List UInt8) (s : ByteArray) : Lib.byteCells acc ++ Lib.strCells s = Lib.byteCells (acc ++ s.data.toList) := by
  rw [Lib.byteCells_append]; rfl
theorem cell_new3 (w : World) (x0 x1 x2 : Value) (T : TypeId) : (w.alloc (.cells #[x0, x1, x2] T)).cell? ⟨w.heap.size, 0, none⟩ = some x0 ∧ (w.alloc (.cells #[x0, x1, x2] T)).cell? ⟨w.heap.size, 1, none⟩ = some x1 ∧ (w.alloc (.cells #[x0, x1, x2] T)).cell? ⟨w.heap.size, 2, none⟩ = some x2 := by
  refine ⟨?_, ?_, ?_⟩ <;> simp only [World.cell?, heap_alloc_new] <;> simp
set_option maxHeartbeats 8000000 in
set_option maxRecDepth 100000 in
theorem value_Put.calls (k : Nat) (A0 : Option Addr) (c0 : Nat) (l0 : List (S23)) (r1 : ByteArray) (r2 : Int) (w : World) (hr0 : Kd.C k23 w A0 l0.length l0) (hc0 : l0.length ≤ c0) (h : value_Put.f k l0 = some (r1, r2)) :
    Calls Tryd.prog 14 #[.slice A0 l0.length c0] w fun e w' => e = .returned (.tuple #[.string r1, .int .i64 r2]) ∧ Below w.heap.size w w' := by
  have hu23 := Tryd.underlying23
  have HR0 := Aside0.mk hr0
  have HC0 := Aside0.mk hc0
  clear hr0 hc0
  have HB := Aside0.mk (Below.refl w.heap.size w)
  have H : (if (l0.length : Int) > 255 then (some ((⟨#[]⟩ : ByteArray), 1)) else (value_Put.l0 k l0 [(l0.length % 256).toUInt8] 0)) = some (r1, r2) := h
  clear h
  by_cases c2 : (l0.length : Int) > 255
  · rw [if_pos c2] at H
    have c2b0 : decide (255 < (l0.length : Int)) = true := decide_eq_true c2
    have c2b1 : decide (255 < l0.length) = true := decide_eq_true (by omega)
    clear c2
    simp only [Option.some.injEq, Prod.mk.injEq] at H
    obtain ⟨rfl, rfl⟩ := H
    go_enter Tryd.func14, Tryd.ntmps14
    go_wp2
    go_ret2
    exact ⟨rfl, HB.out⟩
  · rw [if_neg c2] at H
    have HL := Aside0.mk (show l0.length ≤ 255 by omega)
    have c2b0 : decide (255 < (l0.length : Int)) = false := decide_eq_false c2
    have c2b1 : decide (255 < l0.length) = false := decide_eq_false (by omega)
    clear c2
    have H' := Aside0.mk H
    clear H
    go_enter Tryd.func14, Tryd.ntmps14
    go_wp2_with (first | (go_at_call 30; refine (Tryd.Builder_WriteByte w.heap.size w.heap.size [] _ _ (Lib.fresh_isBuilder 55 5 w) (by simp) (by simp)).mono ?_; rintro e w1 ⟨rfl, hib, hb1⟩; have HIB := Aside0.mk hib; have HB1 := Aside0.mk hb1; clear hib hb1))
    have HI0 : Aside0 (Lib.IsBuilder 55 5 w.heap.size w.heap.size (Lib.byteCells [(l0.length % 256).toUInt8]) w1) := ⟨.inr (by rw [← one_byte _ HL.out]; exact HIB.out)⟩
    have HB0 : Aside0 (Below w.heap.size w w1) := ⟨(below_alloc (Below.refl _ _) _).trans HB1.out⟩
    clear HIB HB1
    go_loopg [17] k (fun kq v17 w' => ∃ (acc : List UInt8) (i : Int), v17 = .int .i64 i ∧ Aside0 (value_Put.l0 kq l0 acc i = some (r1, r2)) ∧ Aside0 (kq ≤ k) ∧ Aside0 (Lib.IsBuilder 55 5 w.heap.size w.heap.size (Lib.byteCells acc) w') ∧ Aside0 (Below w.heap.size w w'))
    case atStart => exact ⟨_, 0, rfl, H', ⟨Nat.le_refl _⟩, HI0, HB0⟩
    case round =>
      clear H' HI0 HB0 HB
      obtain ⟨acc, i, rfl, HA, HK1, HI, HB⟩ := hrel
      cases gk with
      | zero => exact absurd HA.out (by simp [value_Put.l0])
      | succ k1 =>
        have H := HA.out
        clear HA
        simp only [value_Put.l0] at H
        by_cases c5 : i < (l0.length : Int)
        · rw [if_pos c5] at H
          have c5b0 : decide (i < (l0.length : Int)) = true := decide_eq_true c5
          by_cases c6 : 0 ≤ i
          · rw [if_pos c6] at H
            obtain ⟨t, A7, H1⟩ := Option.bind_eq_some_iff.1 H
            clear H
            have H := H1
            clear H1
            have A7' := Aside0.mk A7
            clear A7
            obtain ⟨ad, e1, hx0, hx1, hx2⟩ := at_T23 HR0.out i c6 c5
            cases e1
            replace hx0 := (HB.out.cell (World.block_lt_of_cell? w _ hx0)).trans hx0
            replace hx1 := (HB.out.cell (World.block_lt_of_cell? w _ hx1)).trans hx1
            replace hx2 := (HB.out.cell (World.block_lt_of_cell? w _ hx2)).trans hx2
            replace c6 := eq_true c6
            replace c5 := eq_true c5
            by_cases c7 : t = 0
            · subst c7
              rw [if_pos rfl] at H
              obtain ⟨s, A8, H1⟩ := Option.bind_eq_some_iff.1 H
              clear H
              have H := H1
              clear H1
              have A8' := Aside0.mk A8
              clear A8
              by_cases c9 : acc.length + s.size ≤ 140737488355328
              · rw [if_pos c9] at H
                have C9 := Aside0.mk c9
                clear c9
                have H' := Aside0.mk H
                clear H
                go_wp2_with (first
                  | (go_at_call 10; refine (value_Check.calls _ _ _ 0 _ A7'.out).mono ?_; rintro e w8 ⟨rfl, hb⟩; have HB8 := Aside0.mk (below_step (below_alloc HB.out _) hb); have HI8 := Aside0.mk (bl_keep HI.out ((below_alloc (Below.refl _ _) _).trans (hb.mono (by simp)))); have q0 := below_cell_some hb (cell_new3 (wr) _ _ _ _).1; have q1 := below_cell_some hb (cell_new3 (wr) _ _ _ _).2.1; have q2 := below_cell_some hb (cell_new3 (wr) _ _ _ _).2.2; clear hb)
                  | (go_at_call 32; refine (value_bytes.calls k1 _ _ _ s _ A8'.out).mono ?_; rintro e w9 ⟨rfl, hb⟩; have HB9 := Aside0.mk (below_step HB8.out hb); have HI9 := Aside0.mk (bl_keep HI8.out hb); clear hb HB8 HI8 q0 q1 q2)
                  | (go_at_call 31; refine (Tryd.Builder_WriteString w.heap.size w.heap.size (Lib.byteCells acc) s _ HI9.out (by rw [Lib.byteCells_length]; exact C9.out) HB9.out.size).mono ?_; rintro e w10 ⟨rfl, hi, hb⟩; have HB10 := Aside0.mk (HB9.out.trans hb); have HI10 : Aside0 (Lib.IsBuilder 55 5 w.heap.size w.heap.size (Lib.byteCells (acc ++ s.data.toList)) w10) := ⟨.inr (by rw [← put_bytes]; exact hi)⟩; clear hi hb))
                go_roundg k1
                case measure => have := HK1.out; omega
                case rel => exact ⟨acc ++ s.data.toList, _, rfl, H', ⟨by have := HK1.out; omega⟩, HI10, HB10⟩
              · rw [if_neg c9] at H
                cases H
            · rw [if_neg c7] at H
              simp only [Option.some.injEq, Prod.mk.injEq] at H
              obtain ⟨rfl, rfl⟩ := H
              have c7b0 : (t == 0) = false := by simpa using c7
              have c7b1 : decide (t = 0) = false := by simpa using c7
              have c7b2 : (t != 0) = true := by simpa using c7
              clear c7
              go_wp2_with (first
                | (go_at_call 10; refine (value_Check.calls _ _ _ t _ A7'.out).mono ?_; rintro e w8 ⟨rfl, hb⟩; have HB8 := Aside0.mk (below_step (below_alloc HB.out _) hb); have HI8 := Aside0.mk (bl_keep HI.out ((below_alloc (Below.refl _ _) _).trans (hb.mono (by simp)))); have q0 := below_cell_some hb (cell_new3 (wr) _ _ _ _).1; have q1 := below_cell_some hb (cell_new3 (wr) _ _ _ _).2.1; have q2 := below_cell_some hb (cell_new3 (wr) _ _ _ _).2.2; clear hb))
              go_ret2
              exact ⟨rfl, HB8.out⟩
          · rw [if_neg c6] at H
            cases H
        · rw [if_neg c5] at H
          have c5b0 : decide (i < (l0.length : Int)) = false := decide_eq_false c5
          clear c5
          simp only [Option.some.injEq, Prod.mk.injEq] at H
          obtain ⟨rfl, rfl⟩ := H
          go_wp2_with (first
            | (go_at_call 33; refine (Tryd.Builder_String_any w.heap.size w.heap.size acc _ HI.out HB.out.size).mono ?_; rintro e w9 ⟨rfl, hb⟩; have HB9 := Aside0.mk (HB.out.trans hb); clear hb))
          go_ret2
          exact ⟨rfl, HB9.out⟩

/-! ### value_one: function 35 -/
/-- eight bytes, the greatest first, as the code puts them together -/
def num8 (s : ByteArray) : Nat → Int
  | 0 => 0
  | j + 1 => Go.bits .or .u64 (IntKind.u64.wrap (num8 s j * 256)) (IntKind.u64.wrap (bt s (j : Int)))
def value_one.f (a0 : ByteArray) : Option (Int × Int × ByteArray × ByteArray × Bool) :=
  if a0.toList = ([] : List UInt8) then some (0, 0, (⟨#[]⟩ : ByteArray), (⟨#[]⟩ : ByteArray), false) else
  if bt a0 0 = 0 then some (0, 0, (⟨#[]⟩ : ByteArray), a0.extract 1 a0.size, true) else
  if bt a0 0 = 1 then (if (a0.size : Int) < 9 then some (1, 0, (⟨#[]⟩ : ByteArray), (⟨#[]⟩ : ByteArray), false) else
    (value_Check.f 1 (wrap64 (Go.bits .xor .u64 (num8 (a0.extract 1 a0.size) 8) 9223372036854775808)) (⟨#[]⟩ : ByteArray)).bind fun t => some (1, wrap64 (Go.bits .xor .u64 (num8 (a0.extract 1 a0.size) 8) 9223372036854775808), (⟨#[]⟩ : ByteArray), (a0.extract 1 a0.size).extract 8 (a0.extract 1 a0.size).size, t == 0)) else
  if bt a0 0 = 2 then (if (a0.size : Int) < 2 then some (2, 0, (⟨#[]⟩ : ByteArray), (⟨#[]⟩ : ByteArray), false) else
    (if (a0.size : Int) < 2 + bt (a0.extract 1 a0.size) 0 then some (2, 0, (⟨#[]⟩ : ByteArray), (⟨#[]⟩ : ByteArray), false) else
      (value_Check.f 2 0 ((a0.extract 1 a0.size).extract 1 (1 + bt (a0.extract 1 a0.size) 0).toNat)).bind fun t => some (2, 0, (a0.extract 1 a0.size).extract 1 (1 + bt (a0.extract 1 a0.size) 0).toNat, (a0.extract 1 a0.size).extract (1 + bt (a0.extract 1 a0.size) 0).toNat (a0.extract 1 a0.size).size, t == 0))) else
  if bt a0 0 = 3 then (if (a0.size : Int) < 2 then some (3, 0, (⟨#[]⟩ : ByteArray), (⟨#[]⟩ : ByteArray), false) else
    (value_Check.f 3 (bt (a0.extract 1 a0.size) 0) (⟨#[]⟩ : ByteArray)).bind fun t => some (3, bt (a0.extract 1 a0.size) 0, (⟨#[]⟩ : ByteArray), (a0.extract 1 a0.size).extract 1 (a0.extract 1 a0.size).size, t == 0)) else
  some (bt a0 0, 0, (⟨#[]⟩ : ByteArray), (⟨#[]⟩ : ByteArray), false)
theorem blk3 {w : World} {b : Nat} {x y z : Value} {T : TypeId} (h : w.heap[b]? = some (.cells #[x, y, z] T (0, 0))) : w.cell? ⟨b, 0, none⟩ = some x ∧ w.cell? ⟨b, 1, none⟩ = some y ∧ w.cell? ⟨b, 2, none⟩ = some z ∧ w.frozen? ⟨b, 0, none⟩ = false ∧ w.frozen? ⟨b, 1, none⟩ = false ∧ w.frozen? ⟨b, 2, none⟩ = false := by
  refine ⟨?_, ?_, ?_, ?_, ?_, ?_⟩ <;> simp [World.cell?, World.frozen?, h]
/-- the room of the first result stands -/
structure Res (b : Nat) (w : World) : Prop where
  out : ∃ x y z, w.heap[b]? = some (.cells #[x, y, z] 23 (0, 0))
theorem Res.below {b : Nat} {W W' : World} (h : Res b W) (hb : Below W.heap.size W W') : Res b W' := by
  obtain ⟨x, y, z, h⟩ := h.out
  exact ⟨x, y, z, blk_below h hb⟩
theorem blk3_put {b : Nat} {W : World} {x y z : Value} {T : TypeId} (h : W.heap[b]? = some (.cells #[x, y, z] T (0, 0))) (u0 u1 u2 : Value) : (((W.setCell ⟨b, 0, none⟩ u0).setCell ⟨b, 1, none⟩ u1).setCell ⟨b, 2, none⟩ u2).heap[b]? = some (.cells #[u0, u1, u2] T (0, 0)) :=
  blk_put (cs := #[u0, u1, z]) (blk_put (cs := #[u0, y, z]) (blk_put h 0 u0 rfl) 1 u1 rfl) 2 u2 rfl
theorem Res.set {b : Nat} {W : World} (h : Res b W) (u0 u1 u2 : Value) : Res b (((W.setCell ⟨b, 0, none⟩ u0).setCell ⟨b, 1, none⟩ u1).setCell ⟨b, 2, none⟩ u2) := by
  obtain ⟨x, y, z, h⟩ := h.out
  exact ⟨_, _, _, blk3_put h u0 u1 u2⟩
theorem one_to {w W W' : World} {x0 x1 x2 : Value} (h : W.cell? ⟨w.heap.size + 1, 0, none⟩ = some x0 ∧ W.cell? ⟨w.heap.size + 1, 1, none⟩ = some x1 ∧ W.cell? ⟨w.heap.size + 1, 2, none⟩ = some x2 ∧ Aside0 (Below w.heap.size w W) ∧ Res w.heap.size W) (hb : Below W.heap.size W W') :
    W'.cell? ⟨w.heap.size + 1, 0, none⟩ = some x0 ∧ W'.cell? ⟨w.heap.size + 1, 1, none⟩ = some x1 ∧ W'.cell? ⟨w.heap.size + 1, 2, none⟩ = some x2 ∧ Aside0 (Below w.heap.size w W') ∧ Res w.heap.size W' :=
  ⟨below_cell_some hb h.1, below_cell_some hb h.2.1, below_cell_some hb h.2.2.1, ⟨below_step h.2.2.2.1.out hb⟩, h.2.2.2.2.below hb⟩
theorem one_set {w W : World} {x0 x1 x2 : Value} (h : W.cell? ⟨w.heap.size + 1, 0, none⟩ = some x0 ∧ W.cell? ⟨w.heap.size + 1, 1, none⟩ = some x1 ∧ W.cell? ⟨w.heap.size + 1, 2, none⟩ = some x2 ∧ Aside0 (Below w.heap.size w W) ∧ Res w.heap.size W) (u0 u1 u2 : Value) :
    (((W.setCell ⟨w.heap.size, 0, none⟩ u0).setCell ⟨w.heap.size, 1, none⟩ u1).setCell ⟨w.heap.size, 2, none⟩ u2).cell? ⟨w.heap.size + 1, 0, none⟩ = some x0 ∧ (((W.setCell ⟨w.heap.size, 0, none⟩ u0).setCell ⟨w.heap.size, 1, none⟩ u1).setCell ⟨w.heap.size, 2, none⟩ u2).cell? ⟨w.heap.size + 1, 1, none⟩ = some x1 ∧ (((W.setCell ⟨w.heap.size, 0, none⟩ u0).setCell ⟨w.heap.size, 1, none⟩ u1).setCell ⟨w.heap.size, 2, none⟩ u2).cell? ⟨w.heap.size + 1, 2, none⟩ = some x2 ∧ Aside0 (Below w.heap.size w (((W.setCell ⟨w.heap.size, 0, none⟩ u0).setCell ⟨w.heap.size, 1, none⟩ u1).setCell ⟨w.heap.size, 2, none⟩ u2)) ∧ Res w.heap.size (((W.setCell ⟨w.heap.size, 0, none⟩ u0).setCell ⟨w.heap.size, 1, none⟩ u1).setCell ⟨w.heap.size, 2, none⟩ u2) := by
  refine ⟨?_, ?_, ?_, ⟨Below.setCell (Below.setCell (Below.setCell h.2.2.2.1.out (Nat.le_refl _) _) (Nat.le_refl _) _) (Nat.le_refl _) _⟩, h.2.2.2.2.set _ _ _⟩
  · rw [World.cell?_setCell_other _ _ _ _ (by simp), World.cell?_setCell_other _ _ _ _ (by simp), World.cell?_setCell_other _ _ _ _ (by simp)]; exact h.1
  · rw [World.cell?_setCell_other _ _ _ _ (by simp), World.cell?_setCell_other _ _ _ _ (by simp), World.cell?_setCell_other _ _ _ _ (by simp)]; exact h.2.1
  · rw [World.cell?_setCell_other _ _ _ _ (by simp), World.cell?_setCell_other _ _ _ _ (by simp), World.cell?_setCell_other _ _ _ _ (by simp)]; exact h.2.2.1
theorem one_resof {w W : World} {p q r s : Prop} (h : p ∧ q ∧ r ∧ s ∧ Res w.heap.size W) : Res w.heap.size W := h.2.2.2.2
theorem one_below {w W : World} {p q r s : Prop} {n : Nat} (h : p ∧ q ∧ r ∧ Aside0 (Below n w W) ∧ s) : Below n w W := h.2.2.2.1.out
theorem bt_tail (s : ByteArray) (h : 1 < s.size) : bt (s.extract 1 s.size) 0 = ((s[1]'h).toNat : Int) := by
  have h2 : 0 < (s.extract 1 s.size).size := by simp; omega
  rw [← bt_at (s.extract 1 s.size) 0 h2]
  congr 2
  show (s.extract 1 s.size)[0] = s[1]
  rw [ByteArray.getElem_extract]
set_option maxHeartbeats 8000000 in
set_option maxRecDepth 100000 in
theorem value_one.calls (a0 : ByteArray) (r1 : Int) (r2 : Int) (r3 : ByteArray) (r4 : ByteArray) (r5 : Bool) (w : World) (h : value_one.f a0 = some (r1, r2, r3, r4, r5)) :
    Calls Tryd.prog 35 #[.string a0] w fun e w' => e = .returned (.tuple #[.agg #[.int .i64 r1, .int .i64 r2, .string r3], .string r4, .bool r5]) ∧ Below w.heap.size w w' := by
  have hu23 := Tryd.underlying23
  have HB := Aside0.mk (Below.refl w.heap.size w)
  unfold value_one.f at h
  by_cases c0 : a0.toList = []
  · rw [if_pos c0] at h
    simp only [Option.some.injEq, Prod.mk.injEq] at h
    obtain ⟨rfl, rfl, rfl, rfl, rfl⟩ := h
    have c1 : (a0.toList == []) = true := by simpa using c0
    have c2 : a0.toList.isEmpty = true := by simpa using c0
    clear c0
    go_enter Tryd.func35, Tryd.ntmps35
    go_wp2
    refine bodyPost_ret (results_ctt rfl _ _ w.heap.size 23 _ (0, 0) _ rfl (by first | exact heap_alloc_new _ _ | exact (heap_alloc_old _ _ (by simp)).trans (heap_alloc_new _ _)) Tryd.underlying23 rfl (by kernel_rfl)) rfl ?_
    exact ⟨rfl, by repeat (first | exact HB.out | apply below_alloc)⟩
  rw [if_neg c0] at h
  have c1 : (a0.toList == []) = false := by simpa using c0
  have c2 : a0.toList.isEmpty = false := by simpa using c0
  have hsz : 0 < a0.size := by
    rcases Nat.eq_zero_or_pos a0.size with e | e
    · exfalso; apply c0; rw [ByteArray.toList_eq]; have : a0.data.toList.length = 0 := by rw [Array.length_toList]; exact e
      exact List.eq_nil_of_length_eq_zero this
    · exact e
  have c3 : decide (0 < (a0.size : Int)) = true := decide_eq_true (by omega)
  have c4 : decide (0 < a0.size) = true := decide_eq_true hsz
  have c5 : decide (1 ≤ (a0.size : Int)) = true := decide_eq_true (by omega)
  have c6 : decide (1 ≤ a0.size) = true := decide_eq_true hsz
  clear c0
  have hr := bt_range a0 0
  by_cases k0 : bt a0 0 = 0
  · rw [if_pos k0] at h
    simp only [Option.some.injEq, Prod.mk.injEq] at h
    obtain ⟨rfl, rfl, rfl, rfl, rfl⟩ := h
    clear hr
    have hx0 : ∀ h : 0 < a0.size, ((a0[0]'h).toNat : Int) = 0 := fun h => (bt_at a0 0 h).trans k0
    go_enter Tryd.func35, Tryd.ntmps35
    go_wp2
    refine bodyPost_ret (results_ctt rfl _ _ w.heap.size 23 _ (0, 0) _ rfl (by first | exact heap_alloc_new _ _ | exact (heap_alloc_old _ _ (by simp)).trans (heap_alloc_new _ _)) Tryd.underlying23 rfl (by kernel_rfl)) rfl ?_
    exact ⟨rfl, by repeat (first | exact HB.out | apply below_alloc)⟩
  rw [if_neg k0] at h
  have hs1 : (a0.extract 1 a0.size).size = a0.size - 1 := by simp
  have hb1 : ∀ h : 1 < a0.size, bt (a0.extract 1 a0.size) 0 = ((a0[1]'h).toNat : Int) := fun h => bt_tail a0 h
  obtain ⟨s1, hs⟩ : ∃ s1, a0.extract 1 a0.size = s1 := ⟨_, rfl⟩
  rw [hs] at h hs1 hb1
  by_cases k1 : bt a0 0 = 1
  · rw [if_pos k1] at h
    clear hr hb1
    have hx0 : ∀ h : 0 < a0.size, ((a0[0]'h).toNat : Int) = 1 := fun h => (bt_at a0 0 h).trans k1
    clear k0 k1
    by_cases c7 : (a0.size : Int) < 9
    · rw [if_pos c7] at h
      simp only [Option.some.injEq, Prod.mk.injEq] at h
      obtain ⟨rfl, rfl, rfl, rfl, rfl⟩ := h
      have d0 : decide (((a0.size - 1 : Nat) : Int) < 8) = true := decide_eq_true (by omega)
      have d1 : decide (a0.size - 1 < 8) = true := decide_eq_true (by omega)
      clear c7
      go_enter Tryd.func35, Tryd.ntmps35
      go_wp2
      refine bodyPost_ret (results_ctt rfl _ _ w.heap.size 23 _ (0, 0) _ rfl (by first | exact heap_alloc_new _ _ | exact (heap_alloc_old _ _ (by simp)).trans (heap_alloc_new _ _)) Tryd.underlying23 rfl (by kernel_rfl)) rfl ?_
      exact ⟨rfl, by repeat (first | exact HB.out | apply below_alloc)⟩
    · rw [if_neg c7] at h
      have d0 : decide (((a0.size - 1 : Nat) : Int) < 8) = false := decide_eq_false (by omega)
      have d1 : decide (a0.size - 1 < 8) = false := decide_eq_false (by omega)
      have HS8 : Aside0 (8 ≤ s1.size) := ⟨by omega⟩
      obtain ⟨t, A, h1⟩ := Option.bind_eq_some_iff.1 h
      clear h
      simp only [Option.some.injEq, Prod.mk.injEq] at h1
      obtain ⟨rfl, rfl, rfl, rfl, rfl⟩ := h1
      have A' := Aside0.mk A
      clear A c7
      go_enter Tryd.func35, Tryd.ntmps35
      go_wp2
      clear hs1 hs
      go_loopw [7, 39] (fun v7 v39 wr => ∃ j : Nat, Aside0 (j ≤ 8) ∧ v7 = .int .u64 (num8 s1 j) ∧ v39 = .int .i64 j ∧ wr = ((w.alloc (.cells #[.int .i64 0, .int .i64 0, .string ⟨#[]⟩] 23)).alloc (.cells #[.int .i64 1, .int .i64 0, .string ⟨#[]⟩] 23))) (fun _ v39 _ => 8 - (Lib.intOf v39).toNat)
      case atStart => exact ⟨0, ⟨by omega⟩, rfl, rfl, rfl⟩
      case round =>
        obtain ⟨j, hj, rfl, rfl, rfl⟩ := hrel
        by_cases hj8 : j < 8
        · have f0 : decide ((j : Int) < 8) = true := decide_eq_true (by omega)
          have f1 : decide (j < 8) = true := decide_eq_true hj8
          have f2 : decide ((j : Int) < (s1.size : Int)) = true := decide_eq_true (by have := HS8.out; omega)
          have f3 : decide (j < s1.size) = true := decide_eq_true (by have := HS8.out; omega)
          have f4 : ((j : Int) < (s1.size : Int)) = True := eq_true (by have := HS8.out; omega)
          have f5 : (j < s1.size) = True := eq_true (by have := HS8.out; omega)
          have f6 : (0 ≤ (j : Int)) = True := eq_true (by omega)
          have hxj : ∀ h : j < s1.size, ((s1[j]'h).toNat : Int) = bt s1 (j : Int) := fun h => bt_at s1 (j : Int) h
          have HJ8 := Aside0.mk hj8
          clear hj8
          go_wp2
          go_roundw
          case rel => exact ⟨j + 1, ⟨HJ8.out⟩, rfl, by rw [show wrap64 ((j : Int) + 1) = ((j + 1 : Nat) : Int) from by have := HJ8.out; unfold wrap64; omega], by first | trivial | rfl⟩
          case measure => have := HJ8.out; rw [show wrap64 ((j : Int) + 1) = ((j + 1 : Nat) : Int) from by unfold wrap64; omega]; simp [Lib.intOf]; omega
        · obtain rfl : j = 8 := by have := hj.out; omega
          clear hj8 hj
          go_wp2
          have qv := cell_new3 (w.alloc (.cells #[.int .i64 0, .int .i64 0, .string ⟨#[]⟩] 23)) (.int .i64 (1)) (.int .i64 (wrap64 (Go.bits .xor .u64 (num8 s1 8) 9223372036854775808))) (.string (⟨#[]⟩)) 23
          have qr : ((w.alloc (.cells #[.int .i64 0, .int .i64 0, .string ⟨#[]⟩] 23)).alloc (.cells #[.int .i64 (1), .int .i64 (wrap64 (Go.bits .xor .u64 (num8 s1 8) 9223372036854775808)), .string (⟨#[]⟩)] 23)).heap[w.heap.size]? = some (.cells #[.int .i64 0, .int .i64 0, .string ⟨#[]⟩] 23 (0, 0)) := (heap_alloc_old _ _ (by simp)).trans (heap_alloc_new _ _)
          have qb : Below w.heap.size w ((w.alloc (.cells #[.int .i64 0, .int .i64 0, .string ⟨#[]⟩] 23)).alloc (.cells #[.int .i64 (1), .int .i64 (wrap64 (Go.bits .xor .u64 (num8 s1 8) 9223372036854775808)), .string (⟨#[]⟩)] 23)) := by repeat (first | exact HB.out | apply below_alloc)
          rw [show (w.alloc (.cells #[.int .i64 0, .int .i64 0, .string ⟨#[]⟩] 23)).heap.size = w.heap.size + 1 from by simp] at qv
          generalize ((w.alloc (.cells #[.int .i64 0, .int .i64 0, .string ⟨#[]⟩] 23)).alloc (.cells #[.int .i64 (1), .int .i64 (wrap64 (Go.bits .xor .u64 (num8 s1 8) 9223372036854775808)), .string (⟨#[]⟩)] 23)) = W at qv qr qb ⊢
          have QB := Aside0.mk qb
          have QR : Res w.heap.size W := ⟨_, _, _, qr⟩
          obtain ⟨qv0, qv1, qv2⟩ := qv
          clear qb qr
          have g8 : (8 : Int) ≤ (s1.size : Int) := by have := HS8.out; omega
          have g9 : 8 ≤ s1.size := HS8.out
          go_region_held3 (fun w' => w'.cell? ⟨w.heap.size + 1, 0, none⟩ = some (.int .i64 (1)) ∧ w'.cell? ⟨w.heap.size + 1, 1, none⟩ = some (.int .i64 (wrap64 (Go.bits .xor .u64 (num8 s1 8) 9223372036854775808))) ∧ w'.cell? ⟨w.heap.size + 1, 2, none⟩ = some (.string (⟨#[]⟩)) ∧ Aside0 (Below w.heap.size w w') ∧ Res w.heap.size w')
            (first | exact ⟨qv0, qv1, qv2, QB, QR⟩ | exact ⟨qv0, qv1, qv2, ⟨below_drew1 QB.out⟩, QR.below (below_drew1 (Below.refl _ _))⟩ | exact one_to (by assumption) hb8 | exact one_set (by assumption) _ _ _ | fail)
            (first | (go_at_call 10; refine (value_Check.calls _ _ _ t _ A'.out).mono ?_; rintro e w8 ⟨rfl, hb8⟩; have QR8 := (one_resof (w := w) (by assumption)).below hb8; obtain ⟨rx, ry, rz, hrb⟩ := QR8.out; have qf := blk3 hrb; obtain ⟨g0, g1, g2, g3, g4, g5⟩ := qf; have HRB := Aside0.mk hrb; clear hrb))
          all_goals
            go_wp2
            refine bodyPost_ret (results_ctt rfl _ _ w.heap.size 23 _ (0, 0) _ rfl (blk3_put HRB.out _ _ _) Tryd.underlying23 rfl (by kernel_rfl)) rfl ?_
            exact ⟨rfl, one_below (by assumption)⟩
  rw [if_neg k1] at h
  by_cases k2 : bt a0 0 = 2
  · rw [if_pos k2] at h
    clear hr
    have hx0 : ∀ h : 0 < a0.size, ((a0[0]'h).toNat : Int) = 2 := fun h => (bt_at a0 0 h).trans k2
    clear k0 k1 k2
    by_cases c7 : (a0.size : Int) < 2
    · rw [if_pos c7] at h
      simp only [Option.some.injEq, Prod.mk.injEq] at h
      obtain ⟨rfl, rfl, rfl, rfl, rfl⟩ := h
      have d0 : decide (((a0.size - 1 : Nat) : Int) < 1) = true := decide_eq_true (by omega)
      have d1 : decide (a0.size - 1 < 1) = true := decide_eq_true (by omega)
      have d2 : a0.size - 1 = 0 := by omega
      clear c7
      go_enter Tryd.func35, Tryd.ntmps35
      go_wp2
      refine bodyPost_ret (results_ctt rfl _ _ w.heap.size 23 _ (0, 0) _ rfl (by first | exact heap_alloc_new _ _ | exact (heap_alloc_old _ _ (by simp)).trans (heap_alloc_new _ _)) Tryd.underlying23 rfl (by kernel_rfl)) rfl ?_
      exact ⟨rfl, by repeat (first | exact HB.out | apply below_alloc)⟩
    · rw [if_neg c7] at h
      have d0 : decide (((a0.size - 1 : Nat) : Int) < 1) = false := decide_eq_false (by omega)
      have d1 : decide (a0.size - 1 < 1) = false := decide_eq_false (by omega)
      have d3 : ¬ a0.size - 1 = 0 := by omega
      have d4 : (1 < a0.size) = True := eq_true (by omega)
      have d5 : (0 < a0.size - 1) = True := eq_true (by omega)
      have HS1 : Aside0 (1 ≤ s1.size) := ⟨by omega⟩
      have d6 : (0 < s1.size) = True := eq_true (by omega)
      have d7 : ((0 : Int) < (s1.size : Int)) = True := eq_true (by omega)
      have hbr := bt_range s1 0
      have hxs := bt_at s1 0
      generalize hB : bt s1 0 = B at h hb1 hbr hxs ⊢
      have hx1 : ∀ h : 1 < a0.size, ((a0[1]'h).toNat : Int) = B := fun h => (hb1 h).symm
      have hxt : ∀ h : 0 < s1.size, ((s1[0]'h).toNat : Int) = B := fun h => hxs h
      have hwB : wrap64 B = B := by unfold wrap64; omega
      have hwC : wrap64 (1 + B) = 1 + B := by unfold wrap64; omega
      have hC0 : 2 + B = (1 + B) + 1 := by omega
      rw [hC0] at h
      clear hC0
      have hC1 : 1 ≤ 1 + B := by omega
      obtain ⟨C, hC⟩ : ∃ C, 1 + B = C := ⟨_, rfl⟩
      rw [hC] at h hwC hC1
      have m1 : (1 ≤ C) = True := eq_true hC1
      have m2 : (0 ≤ C) = True := eq_true (by omega)
      have m3 : ((1 : Int) ≤ C) = True := m1
      by_cases c8 : (a0.size : Int) < C + 1
      · rw [if_pos c8] at h
        simp only [Option.some.injEq, Prod.mk.injEq] at h
        obtain ⟨rfl, rfl, rfl, rfl, rfl⟩ := h
        have e0 : decide (((a0.size - 1 : Nat) : Int) < C) = true := decide_eq_true (by omega)
        have e1 : decide ((s1.size : Int) < C) = true := decide_eq_true (by omega)
        clear c7 c8 hb1 hbr hxs hB hC1
        go_enter Tryd.func35, Tryd.ntmps35
        go_wp2
        refine bodyPost_ret (results_ctt rfl _ _ w.heap.size 23 _ (0, 0) _ rfl (by first | exact heap_alloc_new _ _ | exact (heap_alloc_old _ _ (by simp)).trans (heap_alloc_new _ _)) Tryd.underlying23 rfl (by kernel_rfl)) rfl ?_
        exact ⟨rfl, by repeat (first | exact HB.out | apply below_alloc)⟩
      · rw [if_neg c8] at h
        have e0 : decide (((a0.size - 1 : Nat) : Int) < C) = false := decide_eq_false (by omega)
        have e1 : decide ((s1.size : Int) < C) = false := decide_eq_false (by omega)
        have m4 : (C ≤ (s1.size : Int)) = True := eq_true (by omega)
        have m5 : (C ≤ ((a0.size - 1 : Nat) : Int)) = True := eq_true (by omega)
        have HC : Aside0 (1 ≤ C ∧ C ≤ (s1.size : Int)) := ⟨hC1, by omega⟩
        obtain ⟨t, A, h1⟩ := Option.bind_eq_some_iff.1 h
        clear h
        simp only [Option.some.injEq, Prod.mk.injEq] at h1
        obtain ⟨rfl, rfl, rfl, rfl, rfl⟩ := h1
        have A' := Aside0.mk A
        clear A c7 c8 hb1 hbr hxs hB hC1
        go_enter Tryd.func35, Tryd.ntmps35
        go_wp2
        clear hs hs1 hx1 hxt d3 d4 d5 d6 d7 m1 m2 m3 m4 m5
        have qv := cell_new3 (w.alloc (.cells #[.int .i64 0, .int .i64 0, .string ⟨#[]⟩] 23)) (.int .i64 (2)) (.int .i64 (0)) (.string (s1.extract 1 C.toNat)) 23
        have qr : ((w.alloc (.cells #[.int .i64 0, .int .i64 0, .string ⟨#[]⟩] 23)).alloc (.cells #[.int .i64 (2), .int .i64 (0), .string (s1.extract 1 C.toNat)] 23)).heap[w.heap.size]? = some (.cells #[.int .i64 0, .int .i64 0, .string ⟨#[]⟩] 23 (0, 0)) := (heap_alloc_old _ _ (by simp)).trans (heap_alloc_new _ _)
        have qb : Below w.heap.size w ((w.alloc (.cells #[.int .i64 0, .int .i64 0, .string ⟨#[]⟩] 23)).alloc (.cells #[.int .i64 (2), .int .i64 (0), .string (s1.extract 1 C.toNat)] 23)) := by repeat (first | exact HB.out | apply below_alloc)
        rw [show (w.alloc (.cells #[.int .i64 0, .int .i64 0, .string ⟨#[]⟩] 23)).heap.size = w.heap.size + 1 from by simp] at qv
        generalize ((w.alloc (.cells #[.int .i64 0, .int .i64 0, .string ⟨#[]⟩] 23)).alloc (.cells #[.int .i64 (2), .int .i64 (0), .string (s1.extract 1 C.toNat)] 23)) = W at qv qr qb ⊢
        have QB := Aside0.mk qb
        have QR : Res w.heap.size W := ⟨_, _, _, qr⟩
        obtain ⟨qv0, qv1, qv2⟩ := qv
        clear qb qr
        have g8 : C ≤ (s1.size : Int) := HC.out.2
        have g9 : 0 ≤ C := by have := HC.out.1; omega
        go_region_held3 (fun w' => w'.cell? ⟨w.heap.size + 1, 0, none⟩ = some (.int .i64 (2)) ∧ w'.cell? ⟨w.heap.size + 1, 1, none⟩ = some (.int .i64 (0)) ∧ w'.cell? ⟨w.heap.size + 1, 2, none⟩ = some (.string (s1.extract 1 C.toNat)) ∧ Aside0 (Below w.heap.size w w') ∧ Res w.heap.size w')
          (first | exact ⟨qv0, qv1, qv2, QB, QR⟩ | exact ⟨qv0, qv1, qv2, ⟨below_drew1 QB.out⟩, QR.below (below_drew1 (Below.refl _ _))⟩ | exact one_to (by assumption) hb8 | exact one_set (by assumption) _ _ _ | fail)
          (first | (go_at_call 10; refine (value_Check.calls _ _ _ t _ A'.out).mono ?_; rintro e w8 ⟨rfl, hb8⟩; have QR8 := (one_resof (w := w) (by assumption)).below hb8; obtain ⟨rx, ry, rz, hrb⟩ := QR8.out; have qf := blk3 hrb; obtain ⟨g0, g1, g2, g3, g4, g5⟩ := qf; have HRB := Aside0.mk hrb; clear hrb))
        all_goals
          go_wp2
          refine bodyPost_ret (results_ctt rfl _ _ w.heap.size 23 _ (0, 0) _ rfl (blk3_put HRB.out _ _ _) Tryd.underlying23 rfl (by kernel_rfl)) rfl ?_
          exact ⟨rfl, one_below (by assumption)⟩
  rw [if_neg k2] at h
  by_cases k3 : bt a0 0 = 3
  · rw [if_pos k3] at h
    clear hr
    have hx0 : ∀ h : 0 < a0.size, ((a0[0]'h).toNat : Int) = 3 := fun h => (bt_at a0 0 h).trans k3
    clear k0 k1 k2 k3
    by_cases c7 : (a0.size : Int) < 2
    · rw [if_pos c7] at h
      simp only [Option.some.injEq, Prod.mk.injEq] at h
      obtain ⟨rfl, rfl, rfl, rfl, rfl⟩ := h
      have d0 : decide (((a0.size - 1 : Nat) : Int) < 1) = true := decide_eq_true (by omega)
      have d1 : decide (a0.size - 1 < 1) = true := decide_eq_true (by omega)
      have d2 : a0.size - 1 = 0 := by omega
      clear c7
      go_enter Tryd.func35, Tryd.ntmps35
      go_wp2
      refine bodyPost_ret (results_ctt rfl _ _ w.heap.size 23 _ (0, 0) _ rfl (by first | exact heap_alloc_new _ _ | exact (heap_alloc_old _ _ (by simp)).trans (heap_alloc_new _ _)) Tryd.underlying23 rfl (by kernel_rfl)) rfl ?_
      exact ⟨rfl, by repeat (first | exact HB.out | apply below_alloc)⟩
    · rw [if_neg c7] at h
      have d0 : decide (((a0.size - 1 : Nat) : Int) < 1) = false := decide_eq_false (by omega)
      have d1 : decide (a0.size - 1 < 1) = false := decide_eq_false (by omega)
      have d3 : ¬ a0.size - 1 = 0 := by omega
      have d4 : (1 < a0.size) = True := eq_true (by omega)
      have d5 : (0 < a0.size - 1) = True := eq_true (by omega)
      have HS1 : Aside0 (1 ≤ s1.size) := ⟨by omega⟩
      have d6 : (0 < s1.size) = True := eq_true (by omega)
      have d7 : ((0 : Int) < (s1.size : Int)) = True := eq_true (by omega)
      have hbr := bt_range s1 0
      have hxs := bt_at s1 0
      generalize hB : bt s1 0 = B at h hb1 hbr hxs ⊢
      have hx1 : ∀ h : 1 < a0.size, ((a0[1]'h).toNat : Int) = B := fun h => (hb1 h).symm
      have hxt : ∀ h : 0 < s1.size, ((s1[0]'h).toNat : Int) = B := fun h => hxs h
      have hwB : wrap64 B = B := by unfold wrap64; omega
      obtain ⟨t, A, h1⟩ := Option.bind_eq_some_iff.1 h
      clear h
      simp only [Option.some.injEq, Prod.mk.injEq] at h1
      obtain ⟨rfl, rfl, rfl, rfl, rfl⟩ := h1
      have A' := Aside0.mk A
      clear A c7 hb1 hbr hxs hB
      go_enter Tryd.func35, Tryd.ntmps35
      go_wp2
      clear hs hs1 hx1 hxt d3 d4 d5 d6 d7
      have qv := cell_new3 (w.alloc (.cells #[.int .i64 0, .int .i64 0, .string ⟨#[]⟩] 23)) (.int .i64 (3)) (.int .i64 (B)) (.string (⟨#[]⟩)) 23
      have qr : ((w.alloc (.cells #[.int .i64 0, .int .i64 0, .string ⟨#[]⟩] 23)).alloc (.cells #[.int .i64 (3), .int .i64 (B), .string (⟨#[]⟩)] 23)).heap[w.heap.size]? = some (.cells #[.int .i64 0, .int .i64 0, .string ⟨#[]⟩] 23 (0, 0)) := (heap_alloc_old _ _ (by simp)).trans (heap_alloc_new _ _)
      have qb : Below w.heap.size w ((w.alloc (.cells #[.int .i64 0, .int .i64 0, .string ⟨#[]⟩] 23)).alloc (.cells #[.int .i64 (3), .int .i64 (B), .string (⟨#[]⟩)] 23)) := by repeat (first | exact HB.out | apply below_alloc)
      rw [show (w.alloc (.cells #[.int .i64 0, .int .i64 0, .string ⟨#[]⟩] 23)).heap.size = w.heap.size + 1 from by simp] at qv
      generalize ((w.alloc (.cells #[.int .i64 0, .int .i64 0, .string ⟨#[]⟩] 23)).alloc (.cells #[.int .i64 (3), .int .i64 (B), .string (⟨#[]⟩)] 23)) = W at qv qr qb ⊢
      have QB := Aside0.mk qb
      have QR : Res w.heap.size W := ⟨_, _, _, qr⟩
      obtain ⟨qv0, qv1, qv2⟩ := qv
      clear qb qr
      have g8 : (1 : Int) ≤ (s1.size : Int) := by have := HS1.out; omega
      have g9 : 0 < s1.size := HS1.out
      have g10 : (0 : Int) < (s1.size : Int) := by omega
      have g11 : ¬ s1.size = 0 := by omega
      have g12 : 1 ≤ s1.size := g9
      go_region_held3 (fun w' => w'.cell? ⟨w.heap.size + 1, 0, none⟩ = some (.int .i64 (3)) ∧ w'.cell? ⟨w.heap.size + 1, 1, none⟩ = some (.int .i64 (B)) ∧ w'.cell? ⟨w.heap.size + 1, 2, none⟩ = some (.string (⟨#[]⟩)) ∧ Aside0 (Below w.heap.size w w') ∧ Res w.heap.size w')
        (first | exact ⟨qv0, qv1, qv2, QB, QR⟩ | exact ⟨qv0, qv1, qv2, ⟨below_drew1 QB.out⟩, QR.below (below_drew1 (Below.refl _ _))⟩ | exact one_to (by assumption) hb8 | exact one_set (by assumption) _ _ _ | fail)
        (first | (go_at_call 10; refine (value_Check.calls _ _ _ t _ A'.out).mono ?_; rintro e w8 ⟨rfl, hb8⟩; have QR8 := (one_resof (w := w) (by assumption)).below hb8; obtain ⟨rx, ry, rz, hrb⟩ := QR8.out; have qf := blk3 hrb; obtain ⟨g0, g1, g2, g3, g4, g5⟩ := qf; have HRB := Aside0.mk hrb; clear hrb))
      all_goals
        go_wp2
        refine bodyPost_ret (results_ctt rfl _ _ w.heap.size 23 _ (0, 0) _ rfl (blk3_put HRB.out _ _ _) Tryd.underlying23 rfl (by kernel_rfl)) rfl ?_
        exact ⟨rfl, one_below (by assumption)⟩
  rw [if_neg k3] at h
  simp only [Option.some.injEq, Prod.mk.injEq] at h
  obtain ⟨rfl, rfl, rfl, rfl, rfl⟩ := h
  obtain ⟨K, hK⟩ : ∃ K, bt a0 0 = K := ⟨_, rfl⟩
  have hx0 : ∀ h : 0 < a0.size, ((a0[0]'h).toNat : Int) = K := fun h => (bt_at a0 0 h).trans hK
  rw [hK] at k0 k1 k2 k3 hr ⊢
  have hw : wrap64 K = K := by unfold wrap64; omega
  have e0 : (K == 0) = false := by simpa using k0
  have e1 : (K == 1) = false := by simpa using k1
  have e2 : (K == 2) = false := by simpa using k2
  have e3 : (K == 3) = false := by simpa using k3
  clear k0 k1 k2 k3 hr hK
  go_enter Tryd.func35, Tryd.ntmps35
  go_wp2
  refine bodyPost_ret (results_ctt rfl _ _ w.heap.size 23 _ (0, 0) _ rfl (by first | exact heap_alloc_new _ _ | exact (heap_alloc_old _ _ (by simp)).trans (heap_alloc_new _ _)) Tryd.underlying23 rfl (by kernel_rfl)) rfl ?_
  exact ⟨rfl, by repeat (first | exact HB.out | apply below_alloc)⟩

end Go.Proofs.YtccpbacnfhbdlaaDoor.Va
