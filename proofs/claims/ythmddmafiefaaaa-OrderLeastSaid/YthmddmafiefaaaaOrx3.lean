/- Functions of the seat as plain Lean functions, each with a proof that the call answers what the function tells; written by a program of this work. No condition beyond those that each theorem names. -/
import Derived.Test.YthmddmafiefaaaaOrx0
import Derived.Test.YthmddmafiefaaaaOrx1
import Derived.Test.YthmddmafiefaaaaOrx2
namespace Go.Proofs.Ythmddmafiefaaaa.Or
open Go.RowKit Go.Proofs.YthmddmafiefaaaaW.PrintWords Go.Proofs.YthmddmafiefaaaaW.PrintLast Go.Proofs.YthmddmafiefaaaaW.PrintMore
attribute [local go_sem] max2_int min2_int max_two min_two max_three min_three max_four min_four   -- for this text's walks alone
set_option linter.unusedVariables false
set_option linter.unusedSimpArgs false

/-! ### order_Best: function 9 -/
def order_plan_better.f (k : Nat) (l0 : List Int) (a0 : Int) (l1 : List Int) (a1 : Int) : Option Bool :=
  if l1 = [] then some true else if a0 < a1 then some true else if a0 = a1 then (slices_Compare_int_int.f k l0 l1).bind fun r => some (decide (r < 0)) else some false
set_option maxHeartbeats 4000000 in
set_option maxRecDepth 100000 in
theorem order_plan_better.calls (k : Nat) (A0 : Option Addr) (c0 : Nat) (l0 : List Int) (a0 : Int) (A1 : Option Addr) (c1 : Nat) (l1 : List Int) (a1 : Int) (r : Bool) (w : World)
    (hr0 : Kd.C (Kd.int .i64) w A0 l0.length l0) (hc0 : l0.length ≤ c0) (hr1 : Kd.C (Kd.int .i64) w A1 l1.length l1) (hc1 : l1.length ≤ c1) (hn : A1 = none ↔ l1 = []) (h : order_plan_better.f k l0 a0 l1 a1 = some r) :
    Calls Try.prog 20 #[.agg #[.slice A0 l0.length c0, .int .i64 a0], .agg #[.slice A1 l1.length c1, .int .i64 a1]] w fun e w' => e = .returned (.bool r) ∧ Below w.heap.size w w' := by
  have hnn := Lib.run_eql_slice_nil (P := Try.prog)
  have q22 : ∀ (w : World) (a : Option Addr) (n c n' c' : Nat), (binOp .eql 22 (.slice a n c) (.slice none n' c')).run Try.prog w = .ok (.bool a.isNone) w := fun w a n c n' c' => Lib.run_eql_slice_nil w _ _ a n c n' c' Try.underlying22
  clear hnn
  have HR0 := Aside0.mk hr0
  have HC0 := Aside0.mk hc0
  clear hr0 hc0
  have HR1 := Aside0.mk hr1
  have HC1 := Aside0.mk hc1
  clear hr1 hc1
  have H := h
  clear h
  unfold order_plan_better.f at H
  by_cases d1 : l1 = []
  · rw [if_pos d1] at H
    obtain rfl := Option.some.inj H
    have hA := hn.2 d1
    subst hA
    clear hn
    go_enter Try.func20, Try.ntmps20
    go_wp2
    go_ret
    exact ⟨rfl, by repeat (first | exact Below.refl _ _ | apply below_alloc)⟩
  · rw [if_neg d1] at H
    obtain ⟨ad, rfl⟩ : ∃ ad, A1 = some ad := by
      cases A1 with
      | none => exact absurd (hn.1 rfl) d1
      | some ad => exact ⟨ad, rfl⟩
    clear hn
    by_cases d2 : a0 < a1
    · rw [if_pos d2] at H
      obtain rfl := Option.some.inj H
      have d2b : decide (a0 < a1) = true := decide_eq_true d2
      clear d2
      go_enter Try.func20, Try.ntmps20
      go_wp2
      go_ret
      exact ⟨rfl, by repeat (first | exact Below.refl _ _ | apply below_alloc)⟩
    · rw [if_neg d2] at H
      have d2b : decide (a0 < a1) = false := decide_eq_false d2
      by_cases d3 : a0 = a1
      · rw [if_pos d3] at H
        obtain ⟨rc, HCm, hr⟩ := Option.bind_eq_some_iff.1 H
        obtain rfl := Option.some.inj hr
        have HCM := Aside0.mk HCm
        clear H HCm hr d2
        subst d3
        go_enter Try.func20, Try.ntmps20
        go_wp2_with (go_at_call 22; refine (slices_Compare_int_int.calls k _ _ l0 _ _ l1 rc _ ?s1 HC0.out ?s3 HC1.out HCM.out).mono ?_; (case s1 => (repeat (refine Kd.C_alloc ?_ _)); exact HR0.out); (case s3 => (repeat (refine Kd.C_alloc ?_ _)); exact HR1.out); rintro e w8 ⟨rfl, ⟨nd, rfl⟩⟩)
        go_ret
        exact ⟨by simp, by repeat (first | exact Below.refl _ _ | apply below_alloc | apply pw_below_drewN)⟩
      · rw [if_neg d3] at H
        obtain rfl := Option.some.inj H
        have d3b : (a0 == a1) = false := beq_eq_false_iff_ne.2 d3
        clear d2 d3
        go_enter Try.func20, Try.ntmps20
        go_wp2
        go_ret
        exact ⟨rfl, by repeat (first | exact Below.refl _ _ | apply below_alloc)⟩
set_option maxHeartbeats 2000000 in
set_option maxRecDepth 100000 in
theorem clone_own (b off n c : Nat) (zs : List Int) (w : World) (hz : n ≤ zs.length) (hbig : n * 8 ≤ 140737488355328) (hc : ∀ j, j < zs.length → w.cell? ⟨b, off + j, none⟩ = some (.int .i64 (zs.getD j 0))) :
    Calls Try.prog 19 #[.slice (some ⟨b, off, none⟩) n c] w fun e w' => ∃ v', e = .returned v' ∧ w'.ownsRow w.heap.size 3 1 v' n ((zs.take n).map (Value.int .i64)) ∧ v' ≠ .slice none 0 0 ∧ Below w.heap.size w w' := by
  obtain ⟨i0, hi, hz0, hz1, hz2⟩ := info_parts info3
  have q22 : ∀ (w : World) (a : Option Addr) (n c n' c' : Nat), (binOp .eql 22 (.slice a n c) (.slice none n' c')).run Try.prog w = .ok (.bool a.isNone) w := fun w a n c n' c' => Lib.run_eql_slice_nil w _ _ a n c n' c' Try.underlying22
  have A : Aside (∀ j, j < zs.length → w.cell? ⟨b, off + j, none⟩ = some (.int .i64 (zs.getD j 0))) := hc
  clear hc
  go_enter Try.func19, Try.ntmps19
  go_wp2_with (at_builtin; refine wpList_append_own _ rfl _ _ 22 rfl w.heap.size 3 i0 (.int .i64 0) 1 8 Try.underlying22 hi hz0 hz1 hz2 rfl (by decide) _ _ _ rfl (World.ownsRow_made w #[] 0 (Nat.le_refl _) (Nat.zero_le _) rfl) ⟨b, off, none⟩ n c ((zs.take n).map (Value.int .i64)) rfl ?qc1 ?qc2 ?qc3 ?qc4 ?qc5 ?qc6 ?_)
  case qc1 => simp; omega
  case qc2 =>
    intro j u hj
    have hjn : j < n ∧ j < zs.length := by
      have := (List.getElem?_eq_some_iff.1 hj).1
      simp at this
      omega
    rw [Addr.add_lit]
    refine Lib.cell?_alloc_some _ ?_
    rw [A.out j hjn.2]
    have e : ((zs.take n).map (Value.int .i64))[j]? = some (Value.int .i64 (zs.getD j 0)) := by simp [List.getD, hjn.1, List.getElem?_eq_getElem hjn.2]
    rw [e] at hj
    exact hj
  case qc3 => intro u hu; obtain ⟨x, _, rfl⟩ := List.mem_map.1 hu; rfl
  case qc4 => unfold maxLen; omega
  case qc5 => omega
  case qc6 => simp
  intro v' w1 hown hgrow hnil
  go_wp2
  go_ret
  refine ⟨v', rfl, by simpa using hown, ?_, ?_⟩
  · exact hnil
  · exact ((Below.refl _ w).alloc (Nat.le_refl _) _).grown hgrow (by simp) (by intro k hk; simp [Value.ownBlock] at hk; omega)

def plan0 : List Int × Int := ([], 0)
def tabSet (t : Int → List Int × Int) (i : Int) (p : List Int × Int) : Int → List Int × Int := fun j => if j = i then p else t j
mutual
def order_Best.l0 : Nat → List Int → List S39 → List Int → Int → (Int → List Int × Int) → Int → Int → Option (List Int × Int × Int)
  | 0, _, _, _, _, _, _, _ => none
  | k + 1, x0, x1, x2, wh, t, n, s => if s < n then (if 0 ≤ s then (if s < 64 then order_Best.l1 k x0 x1 x2 wh t n s (x0.length : Int) 0 else none) else none) else if 0 ≤ wh then (if wh < 64 then some ((t wh).1, (t wh).2, 0) else none) else none
def order_Best.l1 : Nat → List Int → List S39 → List Int → Int → (Int → List Int × Int) → Int → Int → Int → Int → Option (List Int × Int × Int)
  | 0, _, _, _, _, _, _, _, _, _ => none
  | k + 1, x0, x1, x2, wh, t, n, s, m, i => if i < m then (order_has.f s i).bind fun b => if b = true then (if 0 ≤ i then (if 0 ≤ (Go.bits .andNot .i64 s (shl .i64 1 i)) then (if (Go.bits .andNot .i64 s (shl .i64 1 i)) < 64 then (if (t (Go.bits .andNot .i64 s (shl .i64 1 i))).1.length ≤ 1000 then ((order_Rows.f k x0 x1 x2 s).bind fun rows => (order_plan_better.f k ((t (Go.bits .andNot .i64 s (shl .i64 1 i))).1 ++ [i]) (wrap64 ((t (Go.bits .andNot .i64 s (shl .i64 1 i))).2 + rows)) (t s).1 (t s).2).bind fun bt => order_Best.l1 k x0 x1 x2 wh (if bt = true then tabSet t s ((t (Go.bits .andNot .i64 s (shl .i64 1 i))).1 ++ [i], wrap64 ((t (Go.bits .andNot .i64 s (shl .i64 1 i))).2 + rows)) else t) n s m (wrap64 (i + 1))) else none) else none) else none) else none) else order_Best.l1 k x0 x1 x2 wh t n s m (wrap64 (i + 1)) else order_Best.l0 k x0 x1 x2 wh t n (wrap64 (s + 1))
end
def order_Best.f (k : Nat) (x0 : List Int) (x1 : List S39) (x2 : List Int) : Option (List Int × Int × Int) :=
  (order_may.f k x0 x1 x2).bind fun ok => if ok = true then order_Best.l0 k x0 x1 x2 (wrap64 ((shl .i64 1 (x0.length : Int)) - 1)) (fun _ => plan0) (wrap64 ((wrap64 ((shl .i64 1 (x0.length : Int)) - 1)) + 1)) 0 else some ([], 0, 1)

structure TabR (base B : Nat) (w : World) (t : Int → List Int × Int) : Prop where
  typed : ∃ cs, w.heap[B]? = some (.cells cs 42 (0, 0))
  row : ∀ i : Nat, i < 64 → ∃ v : Value, w.cell? ⟨B, i * 2, none⟩ = some v ∧ w.cell? ⟨B, i * 2 + 1, none⟩ = some (.int .i64 (t i).2) ∧ Kd.R (Kd.int .i64) 3 w base (fun k => k ≠ B) v (t i).1 ∧ (v = .slice none 0 0 ↔ (t i).1 = [])
theorem TabR.kept {base B : Nat} {w w' : World} {t : Int → List Int × Int} (h : TabR base B w t) (hk : Below w.heap.size w w') : TabR base B w' t := by
  have hkk : Kept w w' (fun _ => False) := Kept.of_below hk _
  obtain ⟨cs, hc⟩ := h.typed
  refine ⟨⟨cs, blk_kept hc hkk (fun h => h)⟩, fun i hi => ?_⟩
  obtain ⟨v, h1, h2, h3, h4⟩ := h.row i hi
  exact ⟨v, cell_kept h1 hkk (fun h => h), cell_kept h2 hkk (fun h => h), Kd.R_kept h3 hkk (fun _ _ h => h), h4⟩

def zs128 : Array Value := (List.replicate 64 [Value.slice none 0 0, .int .i64 0]).flatten.toArray
theorem z42 (w : World) : (zeroValue 42).run Try.prog w = .ok (.agg zs128) w := by kernel_rfl
theorem zs128_at : ∀ i : Nat, i < 64 → zs128[2 * i]? = some (.slice none 0 0) ∧ zs128[2 * i + 1]? = some (.int .i64 0) := by
  have aux : ∀ n i : Nat, i < n → (List.replicate n [Value.slice none 0 0, .int .i64 0]).flatten[2 * i]? = some (.slice none 0 0) ∧ (List.replicate n [Value.slice none 0 0, .int .i64 0]).flatten[2 * i + 1]? = some (.int .i64 0) := by
    intro n
    induction n with
    | zero => intro i hi; omega
    | succ n ih =>
      intro i hi
      cases i with
      | zero => exact ⟨rfl, rfl⟩
      | succ i =>
        have := ih i (by omega)
        rw [List.replicate_succ, List.flatten_cons, show 2 * (i + 1) = 2 * i + 1 + 1 from by omega]
        exact this
  intro i hi
  have := aux 64 i hi
  unfold zs128
  rw [List.getElem?_toArray, List.getElem?_toArray]
  exact this
theorem TabR.start (base : Nat) (w : World) : TabR base w.heap.size (w.alloc (.cells zs128 42)) (fun _ => plan0) := by
  refine ⟨⟨zs128, heap_alloc_new w _⟩, fun i hi => ⟨.slice none 0 0, ?_, ?_, ?_, ?_⟩⟩
  · simp only [World.cell?, heap_alloc_new]; rw [Nat.mul_comm]; simpa using (zs128_at i hi).1
  · simp only [World.cell?, heap_alloc_new]; rw [Nat.mul_comm]; simpa [plan0] using (zs128_at i hi).2
  · exact Kd.R_nil _ _ _ _ _
  · simp [plan0]

theorem order_has_below (a0 : Int) (a1 : Int) (r : Bool) (w : World) (h : order_has.f a0 a1 = some r) :
    Calls Try.prog 18 #[.int .i64 a0, .int .i64 a1] w fun e w' => e = .returned (.bool r) ∧ Below w.heap.size w w' :=
  (order_has.calls a0 a1 r w h).mono (by rintro e w' ⟨rfl, ⟨nd, rfl⟩⟩; exact ⟨rfl, pw_below_drewN (Below.refl _ _) _⟩)

theorem clone_nil (w : World) : Calls Try.prog 19 #[.slice none 0 0] w fun e w' => e = .returned (.slice none 0 0) ∧ w = w' := by
  have q22 : ∀ (w : World) (a : Option Addr) (n c n' c' : Nat), (binOp .eql 22 (.slice a n c) (.slice none n' c')).run Try.prog w = .ok (.bool a.isNone) w := fun w a n c n' c' => Lib.run_eql_slice_nil w _ _ a n c n' c' Try.underlying22
  go_enter Try.func19, Try.ntmps19
  go_wp2
  go_ret
  exact ⟨rfl, rfl⟩
/-- slices.Clone of a row of the call's own. -/
theorem clone_R (w : World) (base : Nat) (ok : Nat → Prop) (A : Option Addr) (c : Nat) (l : List Int) (h : Kd.R (Kd.int .i64) 3 w base ok (.slice A l.length c) l) (hn : .slice A l.length c = Value.slice none 0 0 ↔ l = []) (hl : l.length ≤ 1000) :
    Calls Try.prog 19 #[.slice A l.length c] w fun e w' => ∃ v', e = .returned v' ∧ w'.ownsRow w.heap.size 3 1 v' l.length (nums .i64 l) ∧ Below w.heap.size w w' ∧ (∀ k, v'.ownBlock = some k → w.heap.size ≤ k ∧ k < w'.heap.size) := by
  by_cases h0 : l = []
  · have hv := hn.2 h0
    rw [hv]
    subst h0
    refine (clone_nil w).mono ?_
    rintro e w' ⟨rfl, rfl⟩
    exact ⟨_, rfl, World.ownsRow_nil _ _ _ _, Below.refl _ _, fun k hk => by simp [Value.ownBlock] at hk⟩
  · have hlen : 0 < l.length := List.length_pos_iff.2 h0
    obtain ⟨-, css, hown, -⟩ := id h
    rcases hown.2 with ⟨h2, _⟩ | ⟨g, cap, cur, h2, _⟩
    · exact absurd (hn.1 h2) h0
    · simp only [Value.slice.injEq] at h2
      obtain ⟨rfl, -, rfl⟩ := h2
      have hcells : ∀ j, j < l.length → w.cell? ⟨g, 0 + j, none⟩ = some (.int .i64 (l.getD j 0)) := by
        intro j hj
        obtain ⟨ad, e, hcell⟩ := Kd.at_int (Kd.R_reads' h).2.2 (j : Int) (by omega) (by omega)
        cases e
        rw [Int.toNat_natCast, Addr.add_lit] at hcell
        simpa [rd] using hcell
      refine (clone_own g 0 l.length c l w (Nat.le_refl _) (by omega) hcells).mono ?_
      rintro e w' ⟨v', rfl, ho, hne, hb⟩
      rw [List.take_length] at ho
      exact ⟨v', rfl, ho, hb, ho.lt⟩
/-- What a step keeps. -/
theorem below_cell_some {w w' : World} {p : Addr} {v : Value} (h : Below w.heap.size w w') (hc : w.cell? p = some v) : w'.cell? p = some v := (h.cell (World.block_lt_of_cell? w p hc)).trans hc

theorem cell_new2 (w : World) (a b : Value) (T : TypeId) : (w.alloc (.cells #[a, b] T)).cell? ⟨w.heap.size, 0, none⟩ = some a ∧ (w.alloc (.cells #[a, b] T)).cell? ⟨w.heap.size, 1, none⟩ = some b := by
  constructor
  · simp only [World.cell?, heap_alloc_new]; simp
  · simp only [World.cell?, heap_alloc_new]; simp
theorem heldB_mk {W3 : World} {gr : Nat} {u0 u1 : Value} {w : World} (h0 : W3.cell? ⟨gr, 0, none⟩ = some u0) (h1 : W3.cell? ⟨gr, 1, none⟩ = some u1) (h : Below W3.heap.size W3 w) : w.cell? ⟨gr, 0, none⟩ = some u0 ∧ w.cell? ⟨gr, 1, none⟩ = some u1 ∧ Aside0 (Below W3.heap.size W3 w) :=
  ⟨below_cell_some h h0, below_cell_some h h1, ⟨h⟩⟩
theorem heldB_to {W3 : World} {gr : Nat} {u0 u1 : Value} {w w' : World} (h : w.cell? ⟨gr, 0, none⟩ = some u0 ∧ w.cell? ⟨gr, 1, none⟩ = some u1 ∧ Aside0 (Below W3.heap.size W3 w)) (hb : Below w.heap.size w w') : w'.cell? ⟨gr, 0, none⟩ = some u0 ∧ w'.cell? ⟨gr, 1, none⟩ = some u1 ∧ Aside0 (Below W3.heap.size W3 w') :=
  ⟨below_cell_some hb h.1, below_cell_some hb h.2.1, ⟨h.2.2.out.trans (hb.mono h.2.2.out.size)⟩⟩
theorem heldB_below {W3 : World} {gr : Nat} {u0 u1 : Value} {w : World} (h : w.cell? ⟨gr, 0, none⟩ = some u0 ∧ w.cell? ⟨gr, 1, none⟩ = some u1 ∧ Aside0 (Below W3.heap.size W3 w)) : Below W3.heap.size W3 w := h.2.2.out
theorem heldB_to2 {W3 : World} {gr : Nat} {u0 u1 : Value} {w w' : World} (hg : gr < W3.heap.size) (h : w.cell? ⟨gr, 0, none⟩ = some u0 ∧ w.cell? ⟨gr, 1, none⟩ = some u1 ∧ Aside0 (Below W3.heap.size W3 w)) (hb : Below W3.heap.size w w') : w'.cell? ⟨gr, 0, none⟩ = some u0 ∧ w'.cell? ⟨gr, 1, none⟩ = some u1 ∧ Aside0 (Below W3.heap.size W3 w') :=
  ⟨(hb.cell (p := ⟨gr, 0, none⟩) hg).trans h.1, (hb.cell (p := ⟨gr, 1, none⟩) hg).trans h.2.1, ⟨h.2.2.out.trans hb⟩⟩
def LB (w : World) (b : Nat) : Prop := w.heap[b]? = some (.cells #[.slice none 0 0, .int .i64 0] 41 (0, 0))
theorem lb_new {w : World} {b : Nat} (h : b = w.heap.size) : LB (w.alloc (.cells #[.slice none 0 0, .int .i64 0] 41)) b := by subst h; exact heap_alloc_new w _
theorem lb_lt {w : World} {b : Nat} (h : LB w b) : b < w.heap.size := blk_lt h
theorem lb_below {w w' : World} {b : Nat} (hb : Below w.heap.size w w') (h : LB w b) : LB w' b := (hb.block b (lb_lt h)).trans h
theorem lb_alloc {w : World} {b : Nat} {o : Obj} (h : LB w b) : LB (w.alloc o) b := lb_below (below_alloc (Below.refl _ _) o) h
theorem lb_grown {w w' : World} {b : Nat} {row : Option Nat} (hg : w.grownBy w' row) (hne : some b ≠ row) (h : LB w b) : LB w' b := (hg.block b (lb_lt h) hne).trans h
theorem lb_facts {w : World} {b : Nat} (h : LB w b) : w.cell? ⟨b, 0, none⟩ = some (.slice none 0 0) ∧ w.cell? ⟨b, 1, none⟩ = some (.int .i64 0) ∧ w.frozen? ⟨b, 0, none⟩ = false ∧ w.frozen? ⟨b, 1, none⟩ = false := by
  unfold LB at h
  refine ⟨?_, ?_, ?_, ?_⟩ <;> simp [World.cell?, World.frozen?, h]
theorem cell_new1 {w : World} {x : Value} {T : TypeId} {b : Nat} (h : b = w.heap.size) : (w.alloc (.cells #[x] T)).cell? ⟨b, 0, none⟩ = some x := by
  subst h
  simp only [World.cell?, heap_alloc_new]; simp
theorem cell_alloc_keep {w : World} {p : Addr} {v : Value} {o : Obj} (h : w.cell? p = some v) : (w.alloc o).cell? p = some v := below_cell_some (below_alloc (Below.refl _ _) o) h
theorem step_A {w : World} {ops : Array Oper} {o : Oper} {a : Act} {K : Act → World → Prop} {Q : Exit → Act → World → Prop} {E : Prop} (hgd : o.guard = none) (s x : Operand)
    (ho : o.op = .call { callee := .builtin .append, args := #[s, x], argTypes := #[22, 22] })
    (base : Nat) (v : Value) (n : Nat) (xs : List Value) (hs : a.eval s = v) (hown : w.ownsRow base 3 1 v n xs) (hn : n ≤ 1000) (hbase : base ≤ w.heap.size)
    (b : Nat) (u : Int) (hx : a.eval x = .slice (some ⟨b, 0, none⟩) 1 1) (hu : w.cell? ⟨b, 0, none⟩ = some (.int .i64 u))
    (h : ∀ g cap w', w'.ownsRow base 3 1 (.slice (some ⟨g, 0, none⟩) (n + 1) cap) (n + 1) (xs ++ [.int .i64 u]) → w.grownBy w' v.ownBlock → (v.ownBlock = some g ∨ g = w.heap.size) → g < w'.heap.size → K (a.put o.dst (.slice (some ⟨g, 0, none⟩) (n + 1) cap)) w') :
    if Region.wanted o (yielded ops a.tmps) = true then Oper.wp Try.prog o a w K Q else E := by
  obtain ⟨i0, hi, hz0, hz1, hz2⟩ := info_parts info3
  refine step_append_lies w hgd s x 22 ho base 3 i0 (.int .i64 0) 1 8 Try.underlying22 hi hz0 hz1 hz2 rfl (by decide) v n xs hs hown ⟨b, 0, none⟩ 1 1 [.int .i64 u] hx rfl ?_ (by intro z hz; simp at hz; subst hz; rfl) (by decide) (by unfold maxLen; omega) (by omega) hbase _ rfl h
  intro j z hj
  cases j with
  | zero => simp at hj; subst hj; simpa [Addr.add] using hu
  | succ j => simp at hj
theorem lb_new1 {w : World} {o : Obj} : LB ((w.alloc o).alloc (.cells #[.slice none 0 0, .int .i64 0] 41)) (w.heap.size + 1) := lb_new (by simp)
theorem lb_newd {w : World} : LB (w.drew.alloc (.cells #[.slice none 0 0, .int .i64 0] 41)) w.heap.size := lb_new rfl
theorem lb_newd1 {w : World} {o : Obj} : LB ((w.drew.alloc o).alloc (.cells #[.slice none 0 0, .int .i64 0] 41)) (w.heap.size + 1) := lb_new (by simp)
theorem lb_new0 {w : World} : LB (w.alloc (.cells #[.slice none 0 0, .int .i64 0] 41)) w.heap.size := lb_new rfl
theorem lt_alloc {w : World} {o : Obj} {g : Nat} (h : g < w.heap.size) : g < (w.alloc o).heap.size := by simp; omega
theorem leaf_R {w5 W : World} {base0 base g cap : Nat} {ok : Nat → Prop} {l : List Int} {x : Int} (hown : w5.ownsRow base0 3 1 (.slice (some ⟨g, 0, none⟩) (l.length + 1) cap) (l.length + 1) (nums .i64 l ++ [.int .i64 x])) (hs : W.heap[g]? = w5.heap[g]?) (hb : base ≤ g) (hok : ok g) :
    Kd.R (Kd.int .i64) 3 W base ok (.slice (some ⟨g, 0, none⟩) (l.length + 1) cap) (l ++ [x]) := by
  refine Kd.R_of_own (enc := Value.int .i64) ?_ ?_
  · obtain ⟨h1, h2⟩ := hown
    rcases h2 with ⟨h2, _⟩ | ⟨g', cap', cur, h2, h3, h4, h5, h6, h7, h8⟩
    · simp at h2
    · simp only [Value.slice.injEq, Option.some.injEq, Addr.mk.injEq] at h2
      obtain ⟨⟨rfl, -⟩, -, rfl⟩ := h2
      refine ⟨by simp [encs], .inr ⟨g, cap, cur, by simp, hb, hs.trans h4, by simpa using h5, h6, h7, ?_⟩⟩
      simpa [encs, nums] using h8
  · intro k hk
    simp [Value.ownBlock] at hk
    subst hk
    exact hok
theorem set2 {w : World} {b o : Nat} {u0 u1 z0 z1 : Value} (f0 : w.cell? ⟨b, o, none⟩ = some z0) (f1 : w.cell? ⟨b, o + 1, none⟩ = some z1) : ((w.setCell ⟨b, o, none⟩ u0).setCell ⟨b, o + 1, none⟩ u1).cell? ⟨b, o, none⟩ = some u0 ∧ ((w.setCell ⟨b, o, none⟩ u0).setCell ⟨b, o + 1, none⟩ u1).cell? ⟨b, o + 1, none⟩ = some u1 := by
  constructor
  · rw [World.cell?_setCell_other _ _ _ _ (by simp), World.cell?_setCell_same _ _ _ f0]
  · refine World.cell?_setCell_same _ _ _ (u := z1) ?_
    rw [World.cell?_setCell_other _ _ _ _ (by simp)]
    exact f1
theorem lb_set {w : World} {b : Nat} {u0 u1 : Value} (h : LB w b) : ((w.setCell ⟨b, 0, none⟩ u0).setCell ⟨b, 1, none⟩ u1).cell? ⟨b, 0, none⟩ = some u0 ∧ ((w.setCell ⟨b, 0, none⟩ u0).setCell ⟨b, 1, none⟩ u1).cell? ⟨b, 1, none⟩ = some u1 :=
  set2 (lb_facts h).1 (lb_facts h).2.1
theorem Rint_none {w : World} {base : Nat} {ok : Nat → Prop} {c : Nat} {l : List Int} (h : Kd.R (Kd.int .i64) 3 w base ok (.slice none l.length c) l) : l = [] := by
  cases l with
  | nil => rfl
  | cons x l =>
    obtain ⟨ad, e, _⟩ := Kd.at_int (Kd.R_reads' h).2.2 0 (by decide) (by simp)
    exact absurd e (by simp)
theorem hg5lo {v4 : Value} {g5 N X Y Z : Nat} (hat : v4.ownBlock = some g5 ∨ g5 = Y) (hblk : ∀ k, v4.ownBlock = some k → X ≤ k ∧ k < Z) (h1 : N ≤ X) (h2 : N ≤ Y) : N ≤ g5 := by
  rcases hat with h | h
  · exact Nat.le_trans h1 (hblk _ h).1
  · omega

theorem setCell_typed {w : World} {B : Nat} {T : TypeId} (h : ∃ cs, w.heap[B]? = some (.cells cs T (0, 0))) (p : Addr) (u : Value) : ∃ cs, (w.setCell p u).heap[B]? = some (.cells cs T (0, 0)) := by
  obtain ⟨cs, hc⟩ := h
  by_cases hb : B = p.block
  · subst hb
    apply Exists.intro
    simp only [World.setCell, Array.getElem?_modify, hc, if_true, Option.map_some]
    rfl
  · exact ⟨cs, (Below.heap_setCell w p u B hb).trans hc⟩
theorem TabR.set {base B : Nat} {w : World} {t : Int → List Int × Int} (h : TabR base B w t) {sn : Nat} (hs : sn < 64) {v5 : Value} {l : List Int} {c : Int} (hR : Kd.R (Kd.int .i64) 3 w base (fun k => k ≠ B) v5 l) (hn : v5 = .slice none 0 0 ↔ l = []) :
    TabR base B ((w.setCell ⟨B, sn * 2, none⟩ v5).setCell ⟨B, sn * 2 + 1, none⟩ (.int .i64 c)) (tabSet t sn (l, c)) := by
  have hk : Kept w ((w.setCell ⟨B, sn * 2, none⟩ v5).setCell ⟨B, sn * 2 + 1, none⟩ (.int .i64 c)) (fun k => k = B) := ((Kept.refl w (fun k => k = B)).setCell (.inl rfl) _).setCell (.inl rfl) _
  obtain ⟨cs, hc⟩ := h.typed
  refine ⟨setCell_typed (setCell_typed ⟨cs, hc⟩ _ _) _ _, fun i hi => ?_⟩
  · obtain ⟨v, h1, h2, h3, h4⟩ := h.row i hi
    by_cases hi2 : i = sn
    · subst hi2
      have := set2 (u0 := v5) (u1 := .int .i64 c) h1 h2
      exact ⟨v5, this.1, by simpa [tabSet] using this.2, by simpa [tabSet] using Kd.R_kept hR hk (fun _ h => h), by simpa [tabSet] using hn⟩
    · have e : tabSet t sn (l, c) i = t i := if_neg (by omega)
      rw [e]
      refine ⟨v, ?_, ?_, Kd.R_kept h3 hk (fun _ h => h), h4⟩
      · rw [World.cell?_setCell_other _ _ _ _ (by simp <;> omega), World.cell?_setCell_other _ _ _ _ (by simp <;> omega)]
        exact h1
      · rw [World.cell?_setCell_other _ _ _ _ (by simp <;> omega), World.cell?_setCell_other _ _ _ _ (by simp <;> omega)]
        exact h2
theorem TabR.frozen {base B : Nat} {w : World} {t : Int → List Int × Int} (h : TabR base B w t) (j : Nat) : w.frozen? ⟨B, j, none⟩ = false := by
  obtain ⟨cs, hc⟩ := h.typed
  simp [World.frozen?, hc]
theorem heldP_to {W : World} {p0 p1 p2 p3 : Addr} {u0 u1 u2 u3 : Value} {w w' : World} (h : w.cell? p0 = some u0 ∧ w.cell? p1 = some u1 ∧ w.cell? p2 = some u2 ∧ w.cell? p3 = some u3 ∧ Aside0 (Below W.heap.size W w)) (hb : Below w.heap.size w w') : w'.cell? p0 = some u0 ∧ w'.cell? p1 = some u1 ∧ w'.cell? p2 = some u2 ∧ w'.cell? p3 = some u3 ∧ Aside0 (Below W.heap.size W w') :=
  ⟨below_cell_some hb h.1, below_cell_some hb h.2.1, below_cell_some hb h.2.2.1, below_cell_some hb h.2.2.2.1, ⟨h.2.2.2.2.out.trans (hb.mono h.2.2.2.2.out.size)⟩⟩
theorem heldP_below {W : World} {p0 p1 p2 p3 : Addr} {u0 u1 u2 u3 : Value} {w : World} (h : w.cell? p0 = some u0 ∧ w.cell? p1 = some u1 ∧ w.cell? p2 = some u2 ∧ w.cell? p3 = some u3 ∧ Aside0 (Below W.heap.size W w)) : Below W.heap.size W w := h.2.2.2.2.out
theorem Rint_nilv {w : World} {base : Nat} {ok : Nat → Prop} {A : Option Addr} {c : Nat} {l : List Int} (h : Kd.R (Kd.int .i64) 3 w base ok (.slice A l.length c) l) (hv : Value.slice A l.length c = .slice none 0 0) : l = [] := by
  simp only [Value.slice.injEq] at hv
  exact List.eq_nil_of_length_eq_zero hv.2.1

/-- What stands behind the making of a plan: a block of its own that holds the longer row and the cost. -/
def Rel13 (W3 : World) (bw B : Nat) (l : List Int) (x c : Int) (v14 : Value) (wc : World) : Prop :=
  ∃ (gp : Nat) (v5 : Value), v14 = .pointer (some ⟨gp, 0, none⟩) ∧ wc.cell? ⟨gp, 0, none⟩ = some v5 ∧ wc.cell? ⟨gp, 1, none⟩ = some (.int .i64 c) ∧ Aside0 (Kd.R (Kd.int .i64) 3 wc bw (fun k => k ≠ B) v5 (l ++ [x])) ∧ Aside0 (Below W3.heap.size W3 wc) ∧ Aside0 (W3.heap.size ≤ gp)
theorem leafA {W3 w5 w6 : World} {base0 bw B g cap : Nat} {l : List Int} {x c : Int} (hown : w5.ownsRow base0 3 1 (.slice (some ⟨g, 0, none⟩) (l.length + 1) cap) (l.length + 1) (nums .i64 l ++ [.int .i64 x])) (hs6 : w6.heap[g]? = w5.heap[g]?) (hlt6 : g < w6.heap.size) (hlo : W3.heap.size ≤ g) (hbw : bw ≤ W3.heap.size) (hB : B < W3.heap.size) (h6 : W3.heap.size ≤ w6.heap.size)
    (hb : Below W3.heap.size W3 (w6.alloc (.cells #[.slice (some ⟨g, 0, none⟩) (l.length + 1) cap, .int .i64 c] 41))) :
    Rel13 W3 bw B l x c (.pointer (some ⟨w6.heap.size, 0, none⟩)) (w6.alloc (.cells #[.slice (some ⟨g, 0, none⟩) (l.length + 1) cap, .int .i64 c] 41)) :=
  ⟨_, _, rfl, (cell_new2 _ _ _ _).1, (cell_new2 _ _ _ _).2, ⟨leaf_R hown ((Below.heap_alloc w6 _ g hlt6).trans hs6) (Nat.le_trans hbw hlo) (by omega)⟩, ⟨hb⟩, ⟨h6⟩⟩
theorem leafS {W3 w5 w6 : World} {base0 bw B g gp cap : Nat} {l : List Int} {x c : Int} (hown : w5.ownsRow base0 3 1 (.slice (some ⟨g, 0, none⟩) (l.length + 1) cap) (l.length + 1) (nums .i64 l ++ [.int .i64 x])) (hs6 : w6.heap[g]? = w5.heap[g]?) (hlo : W3.heap.size ≤ g) (hbw : bw ≤ W3.heap.size) (hB : B < W3.heap.size) (hLB : LB w6 gp)
    (hb : Below W3.heap.size W3 ((w6.setCell ⟨gp, 0, none⟩ (.slice (some ⟨g, 0, none⟩) (l.length + 1) cap)).setCell ⟨gp, 1, none⟩ (.int .i64 c))) (hne : g ≠ gp) (hgp : W3.heap.size ≤ gp) :
    Rel13 W3 bw B l x c (.pointer (some ⟨gp, 0, none⟩)) ((w6.setCell ⟨gp, 0, none⟩ (.slice (some ⟨g, 0, none⟩) (l.length + 1) cap)).setCell ⟨gp, 1, none⟩ (.int .i64 c)) :=
  ⟨_, _, rfl, (lb_set hLB).1, (lb_set hLB).2, ⟨leaf_R hown (((Below.heap_setCell _ _ _ _ hne).trans (Below.heap_setCell _ _ _ _ hne)).trans hs6) (Nat.le_trans hbw hlo) (by omega)⟩, ⟨hb⟩, ⟨hgp⟩⟩
theorem ne13 {v4 : Value} {g X Y Z gp : Nat} (hat : v4.ownBlock = some g ∨ g = Y) (hblk : ∀ k, v4.ownBlock = some k → X ≤ k ∧ k < Z) (h : (gp < X ∨ Z ≤ gp) ∧ gp < Y) : g ≠ gp := by
  rcases hat with hk | hk
  · have := hblk _ hk; omega
  · omega
theorem order_plan_better.mono : ∀ a0 a1 a2 a3 k, LeO (order_plan_better.f k a0 a1 a2 a3) (order_plan_better.f (k + 1) a0 a1 a2 a3) := by
  intro a0 a1 a2 a3 k
  unfold order_plan_better.f
  repeat' first
      | exact slices_Compare_int_int.mono _ _ _
      | exact LeO.refl _
      | refine LeO.ite ?_ ?_
      | refine LeO.bind ?_ (fun _ => ?_)
theorem order_Best.mono_l : ∀ k, (∀ y0 y1 y2 y3 y4 y5 y6, LeO (order_Best.l0 k y0 y1 y2 y3 y4 y5 y6) (order_Best.l0 (k + 1) y0 y1 y2 y3 y4 y5 y6)) ∧ (∀ y0 y1 y2 y3 y4 y5 y6 y7 y8, LeO (order_Best.l1 k y0 y1 y2 y3 y4 y5 y6 y7 y8) (order_Best.l1 (k + 1) y0 y1 y2 y3 y4 y5 y6 y7 y8))
  | 0 => ⟨fun _ _ _ _ _ _ _ r h => by simp [order_Best.l0] at h, fun _ _ _ _ _ _ _ _ _ r h => by simp [order_Best.l1] at h⟩
  | k + 1 => by
    obtain ⟨ih0, ih1⟩ := order_Best.mono_l k
    refine ⟨?_, ?_⟩
    · intro y0 y1 y2 y3 y4 y5 y6
      unfold order_Best.l0
      repeat' first
      | (with_reducible exact ih1 _ _ _ _ _ _ _ _ _)
      | (with_reducible exact LeO.refl _)
      | (with_reducible refine LeO.ite ?_ ?_)
    · intro y0 y1 y2 y3 y4 y5 y6 y7 y8
      unfold order_Best.l1
      repeat' first
      | (with_reducible exact ih0 _ _ _ _ _ _ _)
      | (with_reducible exact ih1 _ _ _ _ _ _ _ _ _)
      | (with_reducible exact order_Rows.mono _ _ _ _ _)
      | (with_reducible exact order_plan_better.mono _ _ _ _ _)
      | (with_reducible exact LeO.refl _)
      | (with_reducible refine LeO.ite ?_ ?_)
      | (with_reducible refine LeO.bind ?_ (fun _ => ?_))
theorem order_Best.mono : ∀ a0 a1 a2 k, LeO (order_Best.f k a0 a1 a2) (order_Best.f (k + 1) a0 a1 a2) := by
  intro a0 a1 a2 k
  obtain ⟨ih0, ih1⟩ := order_Best.mono_l k
  unfold order_Best.f
  repeat' first
      | (with_reducible exact ih0 _ _ _ _ _ _ _)
      | (with_reducible exact order_may.mono _ _ _ _)
      | (with_reducible exact LeO.refl _)
      | (with_reducible refine LeO.ite ?_ ?_)
      | (with_reducible refine LeO.bind ?_ (fun _ => ?_))
section
attribute [local go_sem ↓] Go.wp_at_zero Go.wp_at_succ
set_option maxHeartbeats 8000000 in
set_option maxRecDepth 100000 in
theorem order_Best.calls (k : Nat) (A0 : Option Addr) (c0 : Nat) (l0 : List Int) (A1 : Option Addr) (c1 : Nat) (l1 : List (S39)) (A2 : Option Addr) (c2 : Nat) (l2 : List Int) (r1 : List Int) (r2 r3 : Int) (w : World) (hr0 : Kd.C (Kd.int .i64) w A0 l0.length l0) (hc0 : l0.length ≤ c0) (hr1 : Kd.C k39 w A1 l1.length l1) (hc1 : l1.length ≤ c1) (hr2 : Kd.C (Kd.int .i64) w A2 l2.length l2) (hc2 : l2.length ≤ c2) (h : order_Best.f k l0 l1 l2 = some (r1, r2, r3)) :
    Calls Try.prog 9 #[.slice A0 l0.length c0, .slice A1 l1.length c1, .slice A2 l2.length c2] w fun e w' => ∃ v0_ : Value, e = .returned (.tuple #[v0_, .int .i64 r2, .int .i64 r3]) ∧ Kd.R (Kd.int .i64) 3 w' w.heap.size (fun _ => True) v0_ r1 ∧ Below w.heap.size w w' := by
  have hu39 := Try.underlying39
  have hz42 := z42
  have HR0 := Aside0.mk hr0
  have HC0 := Aside0.mk hc0
  clear hr0 hc0
  have HR1 := Aside0.mk hr1
  have HC1 := Aside0.mk hc1
  clear hr1 hc1
  have HR2 := Aside0.mk hr2
  have HC2 := Aside0.mk hc2
  clear hr2 hc2
  have H := h
  clear h
  unfold order_Best.f at H
  obtain ⟨ok, hok, H1⟩ := Option.bind_eq_some_iff.1 H
  clear H
  have H := H1
  clear H1
  have HOK := Aside0.mk hok
  clear hok
  cases ok with
  | false =>
    rw [if_neg (by simp)] at H
    have H := Option.some.inj H
    simp only [Prod.mk.injEq] at H
    obtain ⟨rfl, rfl, rfl⟩ := H
    go_enter Try.func9, Try.ntmps9
    go_wp2_with (go_at_call 17; refine (order_may.calls k _ _ l0 _ _ l1 _ _ l2 false _ HR0.out HC0.out HR1.out HC1.out HR2.out HC2.out HOK.out).mono ?_; rintro e w1 ⟨rfl, hb1⟩; have HB1 := Aside0.mk hb1; clear hb1)
    go_ret3
    exact ⟨_, rfl, Kd.R_nil _ _ _ _ _, HB1.out⟩
  | true =>
    rw [if_pos rfl] at H
    have H' := Aside0.mk H
    clear H
    obtain ⟨wh, hwh⟩ : ∃ wh, wrap64 ((shl .i64 1 (l0.length : Int)) - 1) = wh := ⟨_, rfl⟩
    obtain ⟨nn, hnn⟩ : ∃ nn, wrap64 (wh + 1) = nn := ⟨_, rfl⟩
    rw [hwh, hnn] at H'
    have hwh1 : wrap64 (wrap64 (2 ^ min l0.length 64) - 1) = wh := by rw [← hwh]; unfold shl; simp [IntKind.bits, i64_w]
    go_enter Try.func9, Try.ntmps9
    go_wp2_with (go_at_call 17; refine (order_may.calls k _ _ l0 _ _ l1 _ _ l2 true _ HR0.out HC0.out HR1.out HC1.out HR2.out HC2.out HOK.out).mono ?_; rintro e w1 ⟨rfl, hb1⟩; have HB1 := Aside0.mk hb1; clear hb1)
    have HBS := Aside0.mk HB1.out.size
    have HT0 := Aside0.mk (TabR.start w.heap.size w1)
    have HB0 : Aside0 (Below w.heap.size w (w1.alloc (.cells zs128 42))) := ⟨below_alloc HB1.out _⟩
    rw [hwh1, hnn]
    clear HB1 hwh hz42 hwh1 hnn HOK
    go_loopg [26] k (fun kq v26 w' => ∃ (s : Int) (t : Int → List Int × Int), v26 = .int .i64 s ∧ Aside0 (order_Best.l0 kq l0 l1 l2 wh t nn s = some (r1, r2, r3)) ∧ Aside0 (kq ≤ k) ∧ Aside0 (Below w.heap.size w w') ∧ Aside0 (TabR w.heap.size w1.heap.size w' t))
    case atStart => exact ⟨0, _, rfl, H', ⟨Nat.le_refl _⟩, HB0, HT0⟩
    case round =>
      clear H' HT0 HB0
      obtain ⟨s, t, rfl, HA, HK1, HB, HT⟩ := hrel
      cases gk with
      | zero => exact absurd HA.out (by simp [order_Best.l0])
      | succ k1 =>
        have H := HA.out
        clear HA
        simp only [order_Best.l0] at H
        by_cases c1 : s < nn
        · rw [if_pos c1] at H
          have c1b0 : decide (s < nn) = true := decide_eq_true c1
          clear c1
          by_cases c2 : 0 ≤ s
          · rw [if_pos c2] at H
            by_cases c3 : s < 64
            · rw [if_pos c3] at H
              have HS := Aside0.mk (show 0 ≤ s ∧ s < 64 from ⟨c2, c3⟩)
              clear c2 c3
              have H' := Aside0.mk H
              clear H
              go_wp2
              go_loopg [31] k1 (fun kq v31 w' => ∃ (i : Int) (t : Int → List Int × Int), v31 = .int .i64 i ∧ Aside0 (order_Best.l1 kq l0 l1 l2 wh t nn s (l0.length : Int) i = some (r1, r2, r3)) ∧ Aside0 (kq ≤ k1) ∧ Aside0 (Below w.heap.size w w') ∧ Aside0 (TabR w.heap.size w1.heap.size w' t))
              case atStart => exact ⟨0, _, rfl, H', ⟨Nat.le_refl _⟩, HB, HT⟩
              case round =>
                clear H' HB HT c1b0
                obtain ⟨i, t, rfl, HA, HK2, HB, HT⟩ := hrel
                cases gk with
                | zero => exact absurd HA.out (by simp [order_Best.l1])
                | succ k2 =>
                  have H := HA.out
                  clear HA
                  simp only [order_Best.l1] at H
                  by_cases c1 : i < (l0.length : Int)
                  · rw [if_pos c1] at H
                    have c1b0 : decide (i < (l0.length : Int)) = true := decide_eq_true c1
                    clear c1
                    obtain ⟨b, hb, H1⟩ := Option.bind_eq_some_iff.1 H
                    clear H
                    have H := H1
                    clear H1
                    have HHas := Aside0.mk hb
                    clear hb
                    cases b with
                    | false =>
                      rw [if_neg (by simp)] at H
                      have H' := Aside0.mk H
                      clear H
                      go_wp2_with (go_at_call 18; (with_reducible refine (order_has.calls s i false _ HHas.out).mono ?_); rintro e w' ⟨rfl, ⟨nd, rfl⟩⟩)
                      go_roundg k2
                      case measure => omega
                      case rel => exact ⟨_, t, rfl, H', ⟨by have := HK2.out; omega⟩, ⟨pw_below_drewN HB.out _⟩, ⟨HT.out.kept (pw_below_drewN (Below.refl _ _) _)⟩⟩
                    | true =>
                      rw [if_pos rfl] at H
                      by_cases g1 : 0 ≤ i
                      · rw [if_pos g1] at H
                        by_cases g2 : 0 ≤ (Go.bits .andNot .i64 s (shl .i64 1 i))
                        · rw [if_pos g2] at H
                          by_cases g3 : (Go.bits .andNot .i64 s (shl .i64 1 i)) < 64
                          · rw [if_pos g3] at H
                            obtain ⟨d, hd⟩ : ∃ d : Nat, (Go.bits .andNot .i64 s (shl .i64 1 i)) = (d : Int) := ⟨(Go.bits .andNot .i64 s (shl .i64 1 i)).toNat, by omega⟩
                            rw [hd] at H g2 g3
                            obtain ⟨sn, hsn⟩ : ∃ sn : Nat, s = (sn : Int) := ⟨s.toNat, by have := HS.out; omega⟩
                            have hsn64 : sn < 64 := by have := HS.out; omega
                            subst hsn
                            obtain ⟨ii, hii⟩ : ∃ ii : Nat, i = (ii : Int) := ⟨i.toNat, by omega⟩
                            subst hii
                            by_cases g4 : (t d).1.length ≤ 1000
                            · rw [if_pos g4] at H
                              obtain ⟨rows, hrows, H1⟩ := Option.bind_eq_some_iff.1 H
                              clear H
                              obtain ⟨bt, hbt, H⟩ := Option.bind_eq_some_iff.1 H1
                              clear H1
                              have HRows := Aside0.mk hrows
                              have HBt := Aside0.mk hbt
                              have H' := Aside0.mk H
                              clear H hbt hrows
                              have hd' : Go.bits .andNot .i64 (sn : Int) (wrap64 (2 ^ min ii 64)) = (d : Int) := by rw [← hd]; unfold shl; simp [IntKind.bits, i64_w]
                              have c1b1 : decide (ii < l0.length) = true := by rw [← c1b0]; simp
                              have g3b : decide ((d : Int) < 64) = true := decide_eq_true g3
                              have g2b : decide (0 ≤ (d : Int)) = true := decide_eq_true g2
                              have HD := Aside0.mk (show d < 64 from by omega)
                              have HG4 := Aside0.mk g4
                              clear hd g4 g1
                              go_wp2_with (go_at_call 18; (with_reducible refine (order_has_below sn ii true _ HHas.out).mono ?_); rintro e w2 ⟨rfl, hb2⟩; have HB2 : Aside0 (Below w.heap.size w w2) := ⟨HB.out.trans (hb2.mono HB.out.size)⟩; have HT2 : Aside0 (TabR w.heap.size w1.heap.size w2 t) := ⟨HT.out.kept hb2⟩; clear HB HT hb2; obtain ⟨v, hv1, hv2, hv3, hv4⟩ := HT2.out.row d HD.out; obtain ⟨Av, cv, rfl⟩ := Kd.R_slice hv3; have HV := Aside0.mk (And.intro hv3 hv4); clear hv3 hv4)
                              obtain ⟨W3, hW3⟩ : ∃ W3, w2.alloc (.cells #[.slice Av (t d).1.length cv, .int .i64 (t d).2] 41) = W3 := ⟨_, rfl⟩
                              rw [hW3]
                              have hW3b : Below w2.heap.size w2 W3 := by rw [← hW3]; exact below_alloc (Below.refl _ _) _
                              have hr1 : W3.cell? ⟨w2.heap.size, 0, none⟩ = some (.slice Av (t d).1.length cv) := by rw [← hW3]; exact (cell_new2 _ _ _ _).1
                              have hr2 : W3.cell? ⟨w2.heap.size, 1, none⟩ = some (.int .i64 (t d).2) := by rw [← hW3]; exact (cell_new2 _ _ _ _).2
                              have HB3 : Aside0 (Below w.heap.size w W3) := ⟨HB2.out.trans (hW3b.mono HB2.out.size)⟩
                              have HT3 : Aside0 (TabR w.heap.size w1.heap.size W3 t) := ⟨HT2.out.kept hW3b⟩
                              have HV3 : Aside0 (Kd.R (Kd.int .i64) 3 W3 w.heap.size (fun k => k ≠ w1.heap.size) (.slice Av (t d).1.length cv) (t d).1 ∧ (Value.slice Av (t d).1.length cv = .slice none 0 0 ↔ (t d).1 = [])) := ⟨Kd.R_kept HV.out.1 (Kept.of_below hW3b (fun _ => False)) (fun _ _ h => h), HV.out.2⟩
                              clear hW3b hW3 HB2 HT2 HV hv1 hv2 c1b1 g3b g2b hd' c1b0 g3 g2
                              generalize w2.heap.size = gr at *
                              go_cut [14] (fun v14 wc => Rel13 W3 w.heap.size w1.heap.size (t d).1 (ii : Int) (IntKind.i64.wrap ((t d).2 + rows)) v14 wc)
                              case first =>
                                have hC : Aside0 (∀ X, Below W3.heap.size W3 X → Calls Try.prog 19 #[.slice Av (t d).1.length cv] X fun e w' => ∃ v', e = .returned v' ∧ w'.ownsRow X.heap.size 3 1 v' (t d).1.length (nums .i64 (t d).1) ∧ Below X.heap.size X w' ∧ (∀ k, v'.ownBlock = some k → X.heap.size ≤ k ∧ k < w'.heap.size)) := ⟨fun X hX => clone_R X w.heap.size _ Av cv (t d).1 (Kd.R_kept HV3.out.1 (Kept.of_below hX (fun _ => False)) (fun _ _ h => h)) HV3.out.2 HG4.out⟩
                                have hRw : Aside0 (∀ X, Below W3.heap.size W3 X → Calls Try.prog 13 #[.slice A0 l0.length c0, .slice A1 l1.length c1, .slice A2 l2.length c2, .int .i64 (sn : Int)] X fun e w' => e = .returned (.int .i64 rows) ∧ Below X.heap.size X w') := ⟨fun X hX => order_Rows.calls k2 _ _ l0 _ _ l1 _ _ l2 sn rows X (Kd.C_below HR0.out (HB3.out.trans (hX.mono HB3.out.size))) HC0.out (Kd.C_below HR1.out (HB3.out.trans (hX.mono HB3.out.size))) HC1.out (Kd.C_below HR2.out (HB3.out.trans (hX.mono HB3.out.size))) HC2.out HRows.out⟩
                                have HR12 := Aside0.mk (And.intro hr1 hr2)
                                have HG := Aside0.mk (World.block_lt_of_cell? W3 _ hr1)
                                have HBlt := Aside0.mk (show w1.heap.size < W3.heap.size from by obtain ⟨cs, hc⟩ := HT3.out.typed; exact blk_lt hc)
                                clear hr1 hr2
                                go_region_held3 (fun w' => w'.cell? ⟨gr, 0, none⟩ = some (.slice Av (t d).1.length cv) ∧ w'.cell? ⟨gr, 1, none⟩ = some (.int .i64 (t d).2) ∧ Aside0 (Below W3.heap.size W3 w')) (first | exact heldB_mk HR12.out.1 HR12.out.2 (Below.drew (Below.refl _ _)) | exact heldB_to (by assumption) hb4 | exact heldB_to (by assumption) hb6 | exact heldB_to (by assumption) (below_alloc (Below.refl _ _) _) | exact heldB_to2 HG.out (by assumption) hb5.out | exact heldB_to2 HG.out (by assumption) (Below.setCell (Below.setCell (Below.refl _ _) (by first | exact Nat.le_refl _ | exact Nat.le_succ _ | exact hle5.out | exact hle4w.out | exact Nat.le_succ_of_le hle4w.out | fail) _) (by first | exact Nat.le_refl _ | exact Nat.le_succ _ | exact hle5.out | exact hle4w.out | exact Nat.le_succ_of_le hle4w.out | fail) _) | exact heldB_to HS6.out (below_alloc (Below.refl _ _) _) | fail)
                                  (first | (go_at_call 19; refine (hC.out _ (heldB_below (by assumption))).mono ?_; rintro e w4 ⟨v4, rfl, own4, hb4, hblk4⟩; have hle4 := Aside0.mk (heldB_below (by assumption)).size; have hle4w := Aside0.mk (Nat.le_trans hle4.out hb4.size); (try (have hlb := (show LB w4 (W3.heap.size) from by first | ((refine lb_below hb4 ?_); (first | exact HLB.out | exact lb_alloc HLB.out | exact lb_newd | exact lb_newd1 | exact lb_alloc lb_newd | exact lb_new0 | exact lb_new1 | exact lb_alloc lb_new0 | fail); done) | fail); have hlbf := lb_facts hlb; obtain ⟨f0, f1, f2, f3⟩ := hlbf; have HLB := Aside0.mk hlb; clear hlb)); (try (have hlb := (show LB w4 (W3.heap.size + 1) from by first | ((refine lb_below hb4 ?_); (first | exact HLB.out | exact lb_alloc HLB.out | exact lb_newd | exact lb_newd1 | exact lb_alloc lb_newd | exact lb_new0 | exact lb_new1 | exact lb_alloc lb_new0 | fail); done) | fail); have hlbf := lb_facts hlb; obtain ⟨f0, f1, f2, f3⟩ := hlbf; have HLB := Aside0.mk hlb; clear hlb))) | ((refine step_A (by rfl) _ _ (by rfl) _ v4 _ _ (by rfl) (by repeat (first | exact own4 | apply World.ownsRow.alloc | fail)) HG4.out (by first | (simp; omega) | (have := hb4.size; simp at this ⊢; omega) | fail) _ _ (by rfl) (by repeat (first | exact cell_new1 (by simp) | refine cell_alloc_keep ?_ | refine below_cell_some hb4 ?_ | fail)) ?_); intro g5 cap5 w5 hown5 hgrow5 hat5 hlt5; have hb5 := Aside0.mk (Below.grown (B := W3.heap.size) (Below.refl _ _) hgrow5 (heldB_below (by assumption)).size (fun k hk => by have hk2 := hblk4 k hk; have h3 := hle4.out; first | omega | (simp at hk2 h3 ⊢; omega))); have hglo := Aside0.mk (hg5lo hat5 hblk4 hle4.out (heldB_below (by assumption)).size); have hle5 := Aside0.mk (Nat.le_trans (heldB_below (by assumption)).size hb5.out.size); (try (have hlb := (show LB w5 (W3.heap.size) from by first | ((refine lb_grown hgrow5 ?_ (?hh : _)); (case hh => first | exact HLB.out | exact lb_alloc HLB.out | exact lb_newd | exact lb_newd1 | exact lb_alloc lb_newd | exact lb_new0 | exact lb_new1 | exact lb_alloc lb_new0 | fail); (intro hh; have hk := hblk4 _ hh.symm; first | omega | (simp at hk; omega) | fail); done) | fail); have hlbf := lb_facts hlb; obtain ⟨f0, f1, f2, f3⟩ := hlbf; have HLB := Aside0.mk hlb; clear hlb)); (try (have hlb := (show LB w5 (W3.heap.size + 1) from by first | ((refine lb_grown hgrow5 ?_ (?hh : _)); (case hh => first | exact HLB.out | exact lb_alloc HLB.out | exact lb_newd | exact lb_newd1 | exact lb_alloc lb_newd | exact lb_new0 | exact lb_new1 | exact lb_alloc lb_new0 | fail); (intro hh; have hk := hblk4 _ hh.symm; first | omega | (simp at hk; omega) | fail); done) | fail); have hlbf := lb_facts hlb; obtain ⟨f0, f1, f2, f3⟩ := hlbf; have HLB := Aside0.mk hlb; clear hlb)); (try (have hlb := (show LB w5 (w4.heap.size) from by first | ((refine lb_grown hgrow5 ?_ (?hh : _)); (case hh => first | exact HLB.out | exact lb_alloc HLB.out | exact lb_newd | exact lb_newd1 | exact lb_alloc lb_newd | exact lb_new0 | exact lb_new1 | exact lb_alloc lb_new0 | fail); (intro hh; have hk := hblk4 _ hh.symm; first | omega | (simp at hk; omega) | fail); done) | fail); have hlbf := lb_facts hlb; obtain ⟨f0, f1, f2, f3⟩ := hlbf; have HLB := Aside0.mk hlb; clear hlb)); (try (have hlb := (show LB w5 (w4.heap.size + 1) from by first | ((refine lb_grown hgrow5 ?_ (?hh : _)); (case hh => first | exact HLB.out | exact lb_alloc HLB.out | exact lb_newd | exact lb_newd1 | exact lb_alloc lb_newd | exact lb_new0 | exact lb_new1 | exact lb_alloc lb_new0 | fail); (intro hh; have hk := hblk4 _ hh.symm; first | omega | (simp at hk; omega) | fail); done) | fail); have hlbf := lb_facts hlb; obtain ⟨f0, f1, f2, f3⟩ := hlbf; have HLB := Aside0.mk hlb; clear hlb))) | (go_at_call 13; refine (hRw.out _ (heldB_below (by assumption))).mono ?_; rintro e w6 ⟨rfl, hb6⟩; have HS6 := Aside0.mk (heldB_to (by assumption) hb6); have hs6 := Aside0.mk (show w6.heap[g5]? = w5.heap[g5]? from by first | exact hb6.block g5 hlt5 | exact (hb6.block g5 (lt_alloc hlt5)).trans (Below.heap_alloc _ _ _ hlt5) | fail); have hlt6 := Aside0.mk (show g5 < w6.heap.size from by first | exact Nat.lt_of_lt_of_le hlt5 hb6.size | exact Nat.lt_of_lt_of_le (lt_alloc hlt5) hb6.size | fail); (try (have hlb := (show LB w6 (W3.heap.size) from by first | ((refine lb_below hb6 ?_); (first | exact HLB.out | exact lb_alloc HLB.out | exact lb_newd | exact lb_newd1 | exact lb_alloc lb_newd | exact lb_new0 | exact lb_new1 | exact lb_alloc lb_new0 | fail); done) | fail); have hlbf := lb_facts hlb; obtain ⟨f0, f1, f2, f3⟩ := hlbf; have HLB := Aside0.mk hlb; clear hlb)); (try (have hlb := (show LB w6 (W3.heap.size + 1) from by first | ((refine lb_below hb6 ?_); (first | exact HLB.out | exact lb_alloc HLB.out | exact lb_newd | exact lb_newd1 | exact lb_alloc lb_newd | exact lb_new0 | exact lb_new1 | exact lb_alloc lb_new0 | fail); done) | fail); have hlbf := lb_facts hlb; obtain ⟨f0, f1, f2, f3⟩ := hlbf; have HLB := Aside0.mk hlb; clear hlb)); (try (have hlb := (show LB w6 (w4.heap.size) from by first | ((refine lb_below hb6 ?_); (first | exact HLB.out | exact lb_alloc HLB.out | exact lb_newd | exact lb_newd1 | exact lb_alloc lb_newd | exact lb_new0 | exact lb_new1 | exact lb_alloc lb_new0 | fail); done) | fail); have hlbf := lb_facts hlb; obtain ⟨f0, f1, f2, f3⟩ := hlbf; have HLB := Aside0.mk hlb; clear hlb)); (try (have hlb := (show LB w6 (w4.heap.size + 1) from by first | ((refine lb_below hb6 ?_); (first | exact HLB.out | exact lb_alloc HLB.out | exact lb_newd | exact lb_newd1 | exact lb_alloc lb_newd | exact lb_new0 | exact lb_new1 | exact lb_alloc lb_new0 | fail); done) | fail); have hlbf := lb_facts hlb; obtain ⟨f0, f1, f2, f3⟩ := hlbf; have HLB := Aside0.mk hlb; clear hlb)); (try (have hlb := (show LB w6 (w5.heap.size) from by first | ((refine lb_below hb6 ?_); (first | exact HLB.out | exact lb_alloc HLB.out | exact lb_newd | exact lb_newd1 | exact lb_alloc lb_newd | exact lb_new0 | exact lb_new1 | exact lb_alloc lb_new0 | fail); done) | fail); have hlbf := lb_facts hlb; obtain ⟨f0, f1, f2, f3⟩ := hlbf; have HLB := Aside0.mk hlb; clear hlb))))
                                all_goals (go_wp2; go_meet)
                                all_goals first
                                  | (case rel => exact leafA hown5 hs6.out hlt6.out hglo.out HB3.out.size HBlt.out (heldB_below HS6.out).size (heldB_below (by assumption)))
                                  | (case rel => exact leafS hown5 hs6.out hglo.out HB3.out.size HBlt.out HLB.out (heldB_below (by assumption)) (by first | (exact Nat.ne_of_lt hlt5) | (refine ne13 hat5 hblk4 ⟨?_, ?_⟩ <;> (first | (simp; done) | (simp; omega) | (have h4 := hb4.size; simp at h4 ⊢; done) | (have h4 := hb4.size; simp at h4 ⊢; omega) | (have h4 := hb4.size; simp at h4; omega) | omega)) | fail) (by first | exact Nat.le_refl _ | exact Nat.le_succ _ | exact hle5.out | exact hle4w.out | exact Nat.le_succ_of_le hle4w.out | exact (heldB_below HS6.out).size | fail))
                              case rest =>
                                clear hr1 hr2
                                obtain ⟨gp, v5, rfl, hp0, hp1, HR5, HB5, HGP⟩ := hcut
                                obtain ⟨l5, hl5⟩ : ∃ l5, (t d).1 ++ [(ii : Int)] = l5 := ⟨_, rfl⟩
                                have hl5n : l5 ≠ [] := by rw [← hl5]; simp
                                obtain ⟨cst, hcst⟩ : ∃ c, wrap64 ((t d).2 + rows) = c := ⟨_, rfl⟩
                                rw [i64_w, hcst] at hp1
                                rw [hl5] at HR5
                                rw [hl5, hcst] at HBt
                                rw [hl5, hcst] at H'
                                clear hl5 hcst HV3 HG4 HD HGP HRows HHas
                                obtain ⟨A5, c5, rfl⟩ := Kd.R_slice HR5.out
                                have HT5 : TabR w.heap.size w1.heap.size wc t := HT3.out.kept HB5.out
                                have HBc : Aside0 (Below w.heap.size w wc) := ⟨HB3.out.trans (HB5.out.mono HB3.out.size)⟩
                                obtain ⟨vs, hs0, hs1, hs2, hs3⟩ := HT5.row sn hsn64
                                obtain ⟨As, cs, rfl⟩ := Kd.R_slice hs2
                                have hBet : Aside0 (∀ X, Below wc.heap.size wc X → Calls Try.prog 20 #[.agg #[.slice A5 l5.length c5, .int .i64 cst], .agg #[.slice As (t sn).1.length cs, .int .i64 (t sn).2]] X fun e w' => e = .returned (.bool bt) ∧ Below X.heap.size X w') := ⟨fun X hX =>
                                  order_plan_better.calls k2 A5 c5 l5 cst As cs (t sn).1 (t sn).2 bt X
                                    (Kd.R_reads' (Kd.R_kept HR5.out (Kept.of_below hX (fun _ => False)) (fun _ _ h => h))).2.2 (Kd.R_reads' HR5.out).2.1
                                    (Kd.R_reads' (Kd.R_kept hs2 (Kept.of_below hX (fun _ => False)) (fun _ _ h => h))).2.2 (Kd.R_reads' hs2).2.1
                                    ⟨fun h => by subst h; exact Rint_none hs2, fun h => by have := hs3.2 h; simp only [Value.slice.injEq] at this; exact this.1⟩ HBt.out⟩
                                have HTA := Aside0.mk HT5
                                have HSI := Aside0.mk (show ((0 : Int) ≤ (sn : Int) ∧ (sn : Int) < 64) from by omega)
                                have hsI0 : (0 : Int) ≤ (sn : Int) := HSI.out.1
                                have hsI1 : (sn : Int) < 64 := HSI.out.2
                                have HP := Aside0.mk (And.intro hp0 (And.intro hp1 (And.intro hs0 hs1)))
                                clear HT5 hs2 hs3 hp0 hp1 hs0 hs1 HB3 HT3 HB5
                                go_wp2
                                go_region_held3 (fun w' => w'.cell? ⟨gp, 0, none⟩ = some (.slice A5 l5.length c5) ∧ w'.cell? ⟨gp, 1, none⟩ = some (.int .i64 cst) ∧ w'.cell? ⟨w1.heap.size, sn * 2, none⟩ = some (.slice As (t sn).1.length cs) ∧ w'.cell? ⟨w1.heap.size, sn * 2 + 1, none⟩ = some (.int .i64 (t sn).2) ∧ Aside0 (Below wc.heap.size wc w'))
                                  (first | exact ⟨HP.out.1, HP.out.2.1, HP.out.2.2.1, HP.out.2.2.2, ⟨Below.drew (Below.refl _ _)⟩⟩ | exact heldP_to (by assumption) hb7 | fail)
                                  (first | (go_at_call 20; refine (hBet.out _ (heldP_below (by assumption))).mono ?_; rintro e w7 ⟨rfl, hb7⟩))
                                rename_i hH
                                obtain ⟨q0, q1, q2, q3, q4⟩ := hH
                                have HT7 := Aside0.mk (HTA.out.kept q4.out)
                                have HB7 : Aside0 (Below w.heap.size w w7) := ⟨HBc.out.trans (q4.out.mono HBc.out.size)⟩
                                have HR7 := Aside0.mk (Kd.R_kept HR5.out (Kept.of_below q4.out (fun _ => False)) (fun _ _ h => h))
                                have hf0 := HT7.out.frozen (sn * 2)
                                have hf1 := HT7.out.frozen (sn * 2 + 1)
                                clear hb7 HBc HTA HR5 HP hBet
                                cases bt with
                                | false =>
                                  rw [if_neg (show ¬ (false = true) by decide)] at H'
                                  go_wp2
                                  go_roundg k2
                                  case measure => omega
                                  case rel => exact ⟨_, t, rfl, H', ⟨by have := HK2.out; omega⟩, HB7, HT7⟩
                                | true =>
                                  rw [if_pos rfl] at H'
                                  go_wp2
                                  go_roundg k2
                                  case measure => omega
                                  case rel =>
                                    refine ⟨_, tabSet t sn (l5, cst), rfl, H', ⟨by have := HK2.out; omega⟩, ⟨?_⟩, ⟨?_⟩⟩
                                    · exact Below.setCell (Below.setCell HB7.out HBS.out _) HBS.out _
                                    · exact HT7.out.set hsn64 HR7.out ⟨fun h => absurd (Rint_nilv HR7.out h) hl5n, fun h => absurd h hl5n⟩
                            · rw [if_neg g4] at H
                              exact absurd H (by simp)
                          · rw [if_neg g3] at H
                            exact absurd H (by simp)
                        · rw [if_neg g2] at H
                          exact absurd H (by simp)
                      · rw [if_neg g1] at H
                        exact absurd H (by simp)
                  · rw [if_neg c1] at H
                    have c1b0 : decide (i < (l0.length : Int)) = false := decide_eq_false c1
                    clear c1
                    have H' := Aside0.mk H
                    clear H
                    go_wp2
                    go_roundg k2
                    case measure => have := HK1.out; have := HK2.out; omega
                    case rel => exact ⟨_, t, rfl, H', ⟨by have := HK1.out; have := HK2.out; omega⟩, HB, HT⟩
            · rw [if_neg c3] at H
              exact absurd H (by simp)
          · rw [if_neg c2] at H
            exact absurd H (by simp)
        · rw [if_neg c1] at H
          have c1b0 : decide (s < nn) = false := decide_eq_false c1
          clear c1
          by_cases c2 : 0 ≤ wh
          · rw [if_pos c2] at H
            by_cases c3 : wh < 64
            · rw [if_pos c3] at H
              have H := Option.some.inj H
              simp only [Prod.mk.injEq] at H
              obtain ⟨rfl, rfl, rfl⟩ := H
              obtain ⟨wn, rfl⟩ : ∃ wn : Nat, wh = (wn : Int) := ⟨wh.toNat, by omega⟩
              obtain ⟨v, hv1, hv2, hv3, hv4⟩ := HT.out.row wn (by omega)
              have HR := Aside0.mk hv3
              clear hv3 hv4
              have c2b : decide ((wn : Int) < 64) = true := decide_eq_true c3
              have c2b : decide (0 ≤ (wn : Int)) = true := decide_eq_true c2
              go_wp2
              go_region
              go_wp2
              go_ret3
              exact ⟨_, rfl, Kd.R_mono (by (with_reducible repeat (first | apply Kd.R_alloc | apply Kd.R_drewN | apply Kd.R_drew)); exact HR.out) (fun _ _ => trivial), by repeat (first | (with_reducible first | exact HB.out | apply below_alloc | apply pw_below_drewN | apply below_drew1) | exact HB.out)⟩
            · rw [if_neg c3] at H
              exact absurd H (by simp)
          · rw [if_neg c2] at H
            exact absurd H (by simp)
end

/-! ### quaysideref01_SameInts: function 11 -/
def quaysideref01_SameInts.l0 : Nat → List Int → List Int → Int → Option (Bool)
  | 0, _, _, _ => none
  | k + 1, x0, x1, x5 => if x5 < (x0.length : Int) then (if 0 ≤ x5 then (if x5 < (x1.length : Int) then (if (rd x0 x5) = (rd x1 x5) then (quaysideref01_SameInts.l0 k x0 x1 (wrap64 (x5 + 1))) else (some false)) else (none)) else (none)) else (some true)
def quaysideref01_SameInts.f (k : Nat) (l0 : List Int) (l1 : List Int) : Option (Bool) := if (l0.length : Int) = (l1.length : Int) then (quaysideref01_SameInts.l0 k l0 l1 0) else (some false)
theorem quaysideref01_SameInts.mono_l : ∀ k, (∀ y0 y1 y2, LeO (quaysideref01_SameInts.l0 k y0 y1 y2) (quaysideref01_SameInts.l0 (k + 1) y0 y1 y2))
  | 0 => fun _ _ _ r h => by simp [quaysideref01_SameInts.l0] at h
  | k + 1 => by
    have ih0 := quaysideref01_SameInts.mono_l k
    · intro y0 y1 y2
      unfold quaysideref01_SameInts.l0
      repeat' first
      | (with_reducible exact ih0 _ _ _)
      | (with_reducible exact LeO.refl _)
      | (with_reducible exact LeO.none _)
      | (with_reducible refine LeO.ite ?_ ?_)
      | (with_reducible refine LeO.bind ?_ (fun _ => ?_))
      | exact ih0 _ _ _
      | exact LeO.none _
      | refine LeO.ite ?_ ?_
      | refine LeO.bind ?_ (fun _ => ?_)
theorem quaysideref01_SameInts.mono : ∀ a0 a1 k, LeO (quaysideref01_SameInts.f k a0 a1) (quaysideref01_SameInts.f (k + 1) a0 a1) := by
  intro a0 a1 k
  have ih0 := quaysideref01_SameInts.mono_l k
  unfold quaysideref01_SameInts.f
  repeat' first
      | (with_reducible exact ih0 _ _ _)
      | (with_reducible exact LeO.refl _)
      | (with_reducible exact LeO.none _)
      | (with_reducible refine LeO.ite ?_ ?_)
      | (with_reducible refine LeO.bind ?_ (fun _ => ?_))
      | exact ih0 _ _ _
      | exact LeO.none _
      | refine LeO.ite ?_ ?_
      | refine LeO.bind ?_ (fun _ => ?_)
set_option maxHeartbeats 8000000 in
set_option maxRecDepth 100000 in
theorem quaysideref01_SameInts.calls (k : Nat) (A0 : Option Addr) (c0 : Nat) (l0 : List Int) (A1 : Option Addr) (c1 : Nat) (l1 : List Int) (r : Bool) (w : World) (hr0 : Kd.C (Kd.int .i64) w A0 l0.length l0) (hc0 : l0.length ≤ c0) (hr1 : Kd.C (Kd.int .i64) w A1 l1.length l1) (hc1 : l1.length ≤ c1) (h : quaysideref01_SameInts.f k l0 l1 = some r) :
    Calls Try.prog 11 #[.slice A0 l0.length c0, .slice A1 l1.length c1] w fun e w' => e = .returned (.bool r) ∧ Drawn0 w w' := by
  have HR0 := Aside0.mk hr0
  have HC0 := Aside0.mk hc0
  clear hr0 hc0
  have HR1 := Aside0.mk hr1
  have HC1 := Aside0.mk hc1
  clear hr1 hc1
  have H : (if (l0.length : Int) = (l1.length : Int) then (quaysideref01_SameInts.l0 k l0 l1 0) else (some false)) = some r := h
  clear h
  by_cases c3 : (l0.length : Int) = (l1.length : Int)
  · rw [if_pos c3] at H
    have c3b0 : ((l0.length : Int) == (l1.length : Int)) = true := beq_iff_eq.mpr c3
    have c3b1 : ((l0.length : Int) != (l1.length : Int)) = false := bne_eq_false_iff_eq.mpr c3
    have c3b2 : (l0.length == l1.length) = true := by first | simpa using c3 | (simp at c3 ⊢; omega)
    clear c3
    have H' := Aside0.mk H
    clear H
    go_enter Try.func11, Try.ntmps11
    go_wp2
    repeat (go_quiet (fail); try go_wp2)
    go_loopg [5] k (fun kq v5 w' => ∃ (x5_1 : Int), v5 = .int .i64 x5_1 ∧ Aside0 (quaysideref01_SameInts.l0 kq l0 l1 x5_1 = some r) ∧ Aside0 (kq ≤ k) ∧ Drawn0 w w')
    case atStart => exact ⟨(0), (by first | rfl | (simp; done) | (simp [*]; done)), H', ⟨Nat.le_refl _⟩, by repeat (first | exact Drawn0.refl _ | apply Drawn0.step)⟩
    case round =>
      clear H'
      try clear c1
      try clear p2
      try clear c3
      try clear c3b0
      try clear c3b1
      try clear c3b2
      obtain ⟨x5_1, rfl, HA, HK1, ⟨m1, rfl⟩⟩ := hrel
      cases gk with
      | zero => exact absurd HA.out (by simp [quaysideref01_SameInts.l0])
      | succ k1 =>
        have H := HA.out
        clear HA
        simp only [quaysideref01_SameInts.l0] at H
        by_cases c4 : x5_1 < (l0.length : Int)
        · rw [if_pos c4] at H
          have c4b0 : decide (x5_1 < (l0.length : Int)) = true := decide_eq_true c4
          clear c4
          by_cases c5 : 0 ≤ x5_1
          · rw [if_pos c5] at H
            have c5b0 : decide (0 ≤ x5_1) = true := decide_eq_true c5
            clear c5
            by_cases c6 : x5_1 < (l1.length : Int)
            · rw [if_pos c6] at H
              have c6b0 : decide (x5_1 < (l1.length : Int)) = true := decide_eq_true c6
              clear c6
              by_cases c7 : (rd l0 x5_1) = (rd l1 x5_1)
              · rw [if_pos c7] at H
                have c7b0 : ((rd l0 x5_1) == (rd l1 x5_1)) = true := beq_iff_eq.mpr c7
                have c7b1 : ((rd l0 x5_1) != (rd l1 x5_1)) = false := bne_eq_false_iff_eq.mpr c7
                clear c7
                have H' := Aside0.mk H
                clear H
                have p121 : 0 ≤ (x5_1 : Int) := of_decide_eq_true (by first | (with_reducible assumption) | assumption)
                have q121 : x5_1 < (l0.length : Int) := of_decide_eq_true (by first | (with_reducible assumption) | assumption)
                obtain ⟨ad121, e121, hx121_0⟩ := Kd.at_int HR0.out x5_1 p121 q121
                cases e121
                replace p121 := eq_true p121
                replace q121 := eq_true q121
                have p122 : 0 ≤ (x5_1 : Int) := of_decide_eq_true (by first | (with_reducible assumption) | assumption)
                have q122 : x5_1 < (l1.length : Int) := of_decide_eq_true (by first | (with_reducible assumption) | assumption)
                obtain ⟨ad122, e122, hx122_0⟩ := Kd.at_int HR1.out x5_1 p122 q122
                cases e122
                replace p122 := eq_true p122
                replace q122 := eq_true q122
                go_wp2
                repeat (go_quiet (fail); try go_wp2)
                go_roundg k1
                case measure => have := HK1.out; omega
                case rel => exact ⟨(wrap64 (x5_1 + 1)), (by first | rfl | (simp; done) | (simp [*]; done)), H', ⟨by have := HK1.out; omega⟩, by repeat (first | exact Drawn0.refl _ | apply Drawn0.step)⟩
              · rw [if_neg c7] at H
                have c7b0 : ((rd l0 x5_1) == (rd l1 x5_1)) = false := beq_eq_false_iff_ne.mpr c7
                have c7b1 : ((rd l0 x5_1) != (rd l1 x5_1)) = true := bne_iff_ne.mpr c7
                obtain rfl := Option.some.inj H
                have p121 : 0 ≤ (x5_1 : Int) := of_decide_eq_true (by first | (with_reducible assumption) | assumption)
                have q121 : x5_1 < (l0.length : Int) := of_decide_eq_true (by first | (with_reducible assumption) | assumption)
                obtain ⟨ad121, e121, hx121_0⟩ := Kd.at_int HR0.out x5_1 p121 q121
                cases e121
                replace p121 := eq_true p121
                replace q121 := eq_true q121
                have p122 : 0 ≤ (x5_1 : Int) := of_decide_eq_true (by first | (with_reducible assumption) | assumption)
                have q122 : x5_1 < (l1.length : Int) := of_decide_eq_true (by first | (with_reducible assumption) | assumption)
                obtain ⟨ad122, e122, hx122_0⟩ := Kd.at_int HR1.out x5_1 p122 q122
                cases e122
                replace p122 := eq_true p122
                replace q122 := eq_true q122
                go_wp2
                repeat (go_quiet (fail); try go_wp2)
                go_ret
                exact ⟨by first | rfl | (simp; done) | (simp [*]; done), by repeat (first | exact Drawn0.refl _ | apply Drawn0.step)⟩
            · rw [if_neg c6] at H
              exact absurd H (by simp)
          · rw [if_neg c5] at H
            exact absurd H (by simp)
        · rw [if_neg c4] at H
          have c4b0 : decide (x5_1 < (l0.length : Int)) = false := decide_eq_false c4
          clear c4
          obtain rfl := Option.some.inj H
          go_wp2
          repeat (go_quiet (fail); try go_wp2)
          go_ret
          exact ⟨by first | rfl | (simp; done) | (simp [*]; done), by repeat (first | exact Drawn0.refl _ | apply Drawn0.step)⟩
  · rw [if_neg c3] at H
    have c3b0 : ((l0.length : Int) == (l1.length : Int)) = false := beq_eq_false_iff_ne.mpr c3
    have c3b1 : ((l0.length : Int) != (l1.length : Int)) = true := bne_iff_ne.mpr c3
    have c3b2 : (l0.length == l1.length) = false := by first | simpa using c3 | (simp at c3 ⊢; omega)
    obtain rfl := Option.some.inj H
    go_enter Try.func11, Try.ntmps11
    go_wp2
    repeat (go_quiet (fail); try go_wp2)
    go_ret
    exact ⟨by first | rfl | (simp; done) | (simp [*]; done), by repeat (first | exact Drawn0.refl _ | apply Drawn0.step)⟩

/-! ### quaysidelaw24_awake: function 8 -/
def quaysidelaw24_awake.f (k : Nat)  : Option (Bool) := (order_Best.f k (([1000, 100, 2] : List Int)) (([(⟨1, 0, 2, 0⟩ : S39)] : List (S39))) (([100] : List Int))).bind fun bt132 => ((quaysideref01_SameInts.f k bt132.1 (([2, 1, 0] : List Int))).bind fun t140 => (if t140 = true then (if bt132.2.1 = 2004 then (if bt132.2.2 = 0 then ((order_Rows.f k (([1000, 100, 2] : List Int)) ([] : List (S39)) ([] : List Int) 3).bind fun t144 => (some (t144 == 100000))) else (some false)) else (some false)) else (some false)))
theorem quaysidelaw24_awake.mono : ∀ k, LeO (quaysidelaw24_awake.f k ) (quaysidelaw24_awake.f (k + 1) ) := by
  intro  k
  unfold quaysidelaw24_awake.f
  repeat' first
      | (with_reducible exact order_Best.mono _ _ _ _)
      | (with_reducible exact order_Rows.mono _ _ _ _ _)
      | (with_reducible exact quaysideref01_SameInts.mono _ _ _)
      | (with_reducible exact LeO.refl _)
      | (with_reducible exact LeO.none _)
      | (with_reducible refine LeO.ite ?_ ?_)
      | (with_reducible refine LeO.bind ?_ (fun _ => ?_))
      | exact order_Best.mono _ _ _ _
      | exact order_Rows.mono _ _ _ _ _
      | exact quaysideref01_SameInts.mono _ _ _
      | exact LeO.none _
      | refine LeO.ite ?_ ?_
      | refine LeO.bind ?_ (fun _ => ?_)
set_option maxHeartbeats 8000000 in
set_option maxRecDepth 100000 in
theorem quaysidelaw24_awake.calls (k : Nat)  (r : Bool) (w : World) (h : quaysidelaw24_awake.f k  = some r) :
    Calls Try.prog 8 #[] w fun e w' => e = .returned (.bool r) ∧ Below w.heap.size w w' := by
  have hu39 := Try.underlying39
  have HB := Aside0.mk (Below.refl w.heap.size w)
  have H : ((order_Best.f k (([1000, 100, 2] : List Int)) (([(⟨1, 0, 2, 0⟩ : S39)] : List (S39))) (([100] : List Int))).bind fun bt132 => ((quaysideref01_SameInts.f k bt132.1 (([2, 1, 0] : List Int))).bind fun t140 => (if t140 = true then (if bt132.2.1 = 2004 then (if bt132.2.2 = 0 then ((order_Rows.f k (([1000, 100, 2] : List Int)) ([] : List (S39)) ([] : List Int) 3).bind fun t144 => (some (t144 == 100000))) else (some false)) else (some false)) else (some false)))) = some r := h
  clear h
  obtain ⟨y123, hy123⟩ : ∃ y_ : List Int, y_ = (([1000, 100, 2] : List Int)) := ⟨_, rfl⟩
  replace H : ((order_Best.f k y123 (([(⟨1, 0, 2, 0⟩ : S39)] : List (S39))) (([100] : List Int))).bind fun bt132 => ((quaysideref01_SameInts.f k bt132.1 (([2, 1, 0] : List Int))).bind fun t140 => (if t140 = true then (if bt132.2.1 = 2004 then (if bt132.2.2 = 0 then ((order_Rows.f k (([1000, 100, 2] : List Int)) ([] : List (S39)) ([] : List Int) 3).bind fun t144 => (some (t144 == 100000))) else (some false)) else (some false)) else (some false)))) = some r := by first | (rw [hy123]; with_reducible exact H) | (have H2_ := (Option.bind_some _ _).symm.trans H; rw [hy123]; with_reducible exact H2_) | (have H2_ := (Option.bind_some _ _).symm.trans H; with_reducible exact H2_) | with_reducible exact H | (rw [hy123]; exact H) | exact H
  have Ny123 := Aside0.mk hy123
  clear hy123
  obtain ⟨y126, hy126⟩ : ∃ y_ : List (S39), y_ = (([(⟨1, 0, 2, 0⟩ : S39)] : List (S39))) := ⟨_, rfl⟩
  replace H : ((order_Best.f k y123 y126 (([100] : List Int))).bind fun bt132 => ((quaysideref01_SameInts.f k bt132.1 (([2, 1, 0] : List Int))).bind fun t140 => (if t140 = true then (if bt132.2.1 = 2004 then (if bt132.2.2 = 0 then ((order_Rows.f k (([1000, 100, 2] : List Int)) ([] : List (S39)) ([] : List Int) 3).bind fun t144 => (some (t144 == 100000))) else (some false)) else (some false)) else (some false)))) = some r := by first | (rw [hy126]; with_reducible exact H) | (have H2_ := (Option.bind_some _ _).symm.trans H; rw [hy126]; with_reducible exact H2_) | (have H2_ := (Option.bind_some _ _).symm.trans H; with_reducible exact H2_) | with_reducible exact H | (rw [hy126]; exact H) | exact H
  have Ny126 := Aside0.mk hy126
  clear hy126
  obtain ⟨y129, hy129⟩ : ∃ y_ : List Int, y_ = (([100] : List Int)) := ⟨_, rfl⟩
  replace H : ((order_Best.f k y123 y126 y129).bind fun bt132 => ((quaysideref01_SameInts.f k bt132.1 (([2, 1, 0] : List Int))).bind fun t140 => (if t140 = true then (if bt132.2.1 = 2004 then (if bt132.2.2 = 0 then ((order_Rows.f k (([1000, 100, 2] : List Int)) ([] : List (S39)) ([] : List Int) 3).bind fun t144 => (some (t144 == 100000))) else (some false)) else (some false)) else (some false)))) = some r := by first | (rw [hy129]; with_reducible exact H) | (have H2_ := (Option.bind_some _ _).symm.trans H; rw [hy129]; with_reducible exact H2_) | (have H2_ := (Option.bind_some _ _).symm.trans H; with_reducible exact H2_) | with_reducible exact H | (rw [hy129]; exact H) | exact H
  have Ny129 := Aside0.mk hy129
  clear hy129
  replace H := Option.bind_eq_some_iff.mp H
  obtain ⟨⟨t132, t133, t134⟩, A10, H⟩ := H
  replace H : ((quaysideref01_SameInts.f k t132 (([2, 1, 0] : List Int))).bind fun t140 => (if t140 = true then (if t133 = 2004 then (if t134 = 0 then ((order_Rows.f k (([1000, 100, 2] : List Int)) ([] : List (S39)) ([] : List Int) 3).bind fun t144 => (some (t144 == 100000))) else (some false)) else (some false)) else (some false))) = some r := H
  have A1 := Aside0.mk A10
  clear A10
  obtain ⟨y137, hy137⟩ : ∃ y_ : List Int, y_ = (([2, 1, 0] : List Int)) := ⟨_, rfl⟩
  replace H : ((quaysideref01_SameInts.f k t132 y137).bind fun t140 => (if t140 = true then (if t133 = 2004 then (if t134 = 0 then ((order_Rows.f k (([1000, 100, 2] : List Int)) ([] : List (S39)) ([] : List Int) 3).bind fun t144 => (some (t144 == 100000))) else (some false)) else (some false)) else (some false))) = some r := by first | (rw [hy137]; with_reducible exact H) | (have H2_ := (Option.bind_some _ _).symm.trans H; rw [hy137]; with_reducible exact H2_) | (have H2_ := (Option.bind_some _ _).symm.trans H; with_reducible exact H2_) | with_reducible exact H | (rw [hy137]; exact H) | exact H
  have Ny137 := Aside0.mk hy137
  clear hy137
  replace H := Option.bind_eq_some_iff.mp H
  obtain ⟨t140, A20, H⟩ := H
  replace H : (if t140 = true then (if t133 = 2004 then (if t134 = 0 then ((order_Rows.f k (([1000, 100, 2] : List Int)) ([] : List (S39)) ([] : List Int) 3).bind fun t144 => (some (t144 == 100000))) else (some false)) else (some false)) else (some false)) = some r := H
  have A2 := Aside0.mk A20
  clear A20
  by_cases c3 : t140 = true
  · subst c3
    have H1 : (if t133 = 2004 then (if t134 = 0 then ((order_Rows.f k (([1000, 100, 2] : List Int)) ([] : List (S39)) ([] : List Int) 3).bind fun t144 => (some (t144 == 100000))) else (some false)) else (some false)) = some r := by rw [if_pos rfl] at H; exact H
    clear H
    have H := H1
    clear H1
    by_cases c4 : t133 = 2004
    · rw [if_pos c4] at H
      have c4b0 : (t133 == 2004) = true := beq_iff_eq.mpr c4
      have c4b1 : (t133 != 2004) = false := bne_eq_false_iff_eq.mpr c4
      clear c4
      by_cases c5 : t134 = 0
      · rw [if_pos c5] at H
        have c5b0 : (t134 == 0) = true := beq_iff_eq.mpr c5
        have c5b1 : (t134 != 0) = false := bne_eq_false_iff_eq.mpr c5
        clear c5
        obtain ⟨y141, hy141⟩ : ∃ y_ : List Int, y_ = (([1000, 100, 2] : List Int)) := ⟨_, rfl⟩
        replace H : ((order_Rows.f k y141 ([] : List (S39)) ([] : List Int) 3).bind fun t144 => (some (t144 == 100000))) = some r := by first | (rw [hy141]; with_reducible exact H) | (have H2_ := (Option.bind_some _ _).symm.trans H; rw [hy141]; with_reducible exact H2_) | (have H2_ := (Option.bind_some _ _).symm.trans H; with_reducible exact H2_) | with_reducible exact H | (rw [hy141]; exact H) | exact H
        have Ny141 := Aside0.mk hy141
        clear hy141
        replace H := Option.bind_eq_some_iff.mp H
        obtain ⟨t144, A60, H⟩ := H
        replace H : (some (t144 == 100000)) = some r := H
        have A6 := Aside0.mk A60
        clear A60
        obtain rfl := Option.some.inj H
        go_enter Try.func8, Try.ntmps8
        go_wp2_with (first | ((with_reducible refine gate_dst (N := 5) rfl ?_); (try (refine gate_guard (by rfl) ?_; dsimp only)); refine Kd.R_lit (Kd.int .i64) _ 3 ?hg (N := 5) ?hd (xs := ([1000, 100, 2] : List Int)) (inner := [.int .i64 1000, .int .i64 100, .int .i64 2]) (ok := fun _ => True) (okp := fun _ => True) ?hr ?hp (fun _ hk => hk) trivial (Below.refl _ _) (Nat.le_refl _) (by simp) ?_; (case hd => rfl); (case hg => rfl); (case hr => first | (go_simp; done) | (go_simp; rfl)); (case hp => exact (Reps.one (show Kd.M (Kd.int .i64) _ _ _ 1000 [.int .i64 1000] from rfl) (Reps.one (show Kd.M (Kd.int .i64) _ _ _ 100 [.int .i64 100] from rfl) (Reps.one (show Kd.M (Kd.int .i64) _ _ _ 2 [.int .i64 2] from rfl) (Reps.none _ _))))); intro v124 w7 ho8 hb hg_ hnew_; clear hg_ hnew_; (first | rw [← Ny123.out] at ho8 | (simp only [Int.reduceToNat] at ho8; rw [← Ny123.out] at ho8)); have n0_ := Aside0.mk (Kd.R_lower ho8 (below_size (by repeat (first | (with_reducible first | exact HB.out | apply below_alloc | apply pw_below_drewN | apply below_drew1) | exact HB.out)))); have n1_ := Aside0.mk (below_step (by repeat (first | (with_reducible first | exact HB.out | apply below_alloc | apply pw_below_drewN | apply below_drew1) | exact HB.out)) hb); clear HB; have HO125 := n0_; have HB := n1_; clear n0_ n1_; clear hb ho8) | ((with_reducible refine gate_dst (N := 7) rfl ?_); (try (refine gate_guard (by rfl) ?_; dsimp only)); refine Kd.R_lit k39 _ 39 ?hg (N := 7) ?hd (xs := ([(⟨1, 0, 2, 0⟩ : S39)] : List (S39))) (inner := [.int .i64 1, .int .i64 0, .int .i64 2, .int .i64 0]) (ok := fun _ => True) (okp := fun _ => True) ?hr ?hp (fun _ hk => hk) trivial (Below.refl _ _) (Nat.le_refl _) (by simp) ?_; (case hd => rfl); (case hg => rfl); (case hr => first | (go_simp; done) | (go_simp; rfl)); (case hp => exact (Reps.c4 (show Kd.M k39 _ _ _ (⟨1, 0, 2, 0⟩ : S39) [.int .i64 1, .int .i64 0, .int .i64 2, .int .i64 0] from (k39_mkM _ _ _ (⟨1, 0, 2, 0⟩ : S39) )) (Reps.none _ _))); intro v127 w9 ho10 hb hg_ hnew_; clear hg_ hnew_; (first | rw [← Ny126.out] at ho10 | (simp only [Int.reduceToNat] at ho10; rw [← Ny126.out] at ho10)); have n0_ := Aside0.mk (Kd.R_below (by (with_reducible repeat (first | apply Kd.R_alloc | apply Kd.R_drewN | apply Kd.R_drew)); exact HO125.out) hb); have n1_ := Aside0.mk (Kd.R_lower ho10 (below_size (by repeat (first | (with_reducible first | exact HB.out | apply below_alloc | apply pw_below_drewN | apply below_drew1) | exact HB.out)))); have n2_ := Aside0.mk (below_step (by repeat (first | (with_reducible first | exact HB.out | apply below_alloc | apply pw_below_drewN | apply below_drew1) | exact HB.out)) hb); clear HO125; clear HB; have HO125 := n0_; have HO128 := n1_; have HB := n2_; clear n0_ n1_ n2_; clear hb ho10) | ((with_reducible refine gate_dst (N := 8) rfl ?_); (try (refine gate_guard (by rfl) ?_; dsimp only)); refine Kd.R_lit (Kd.int .i64) _ 3 ?hg (N := 8) ?hd (xs := ([100] : List Int)) (inner := [.int .i64 100]) (ok := fun _ => True) (okp := fun _ => True) ?hr ?hp (fun _ hk => hk) trivial (Below.refl _ _) (Nat.le_refl _) (by simp) ?_; (case hd => rfl); (case hg => rfl); (case hr => first | (go_simp; done) | (go_simp; rfl)); (case hp => exact (Reps.one (show Kd.M (Kd.int .i64) _ _ _ 100 [.int .i64 100] from rfl) (Reps.none _ _))); intro v130 w11 ho12 hb hg_ hnew_; clear hg_ hnew_; (first | rw [← Ny129.out] at ho12 | (simp only [Int.reduceToNat] at ho12; rw [← Ny129.out] at ho12)); have n0_ := Aside0.mk (Kd.R_elder' (by (with_reducible repeat (first | apply Kd.R_alloc | apply Kd.R_drewN | apply Kd.R_drew)); exact HO125.out) (Kd.R_base ho12) hb); have n1_ := Aside0.mk (Kd.R_below (by (with_reducible repeat (first | apply Kd.R_alloc | apply Kd.R_drewN | apply Kd.R_drew)); exact HO128.out) hb); have n2_ := Aside0.mk (Kd.R_lower (Kd.R_new' ho12 (Kd.R_lt (by (with_reducible repeat (first | apply Kd.R_alloc | apply Kd.R_drewN | apply Kd.R_drew)); exact HO125.out))) (below_size (by repeat (first | (with_reducible first | exact HB.out | apply below_alloc | apply pw_below_drewN | apply below_drew1) | exact HB.out)))); have n3_ := Aside0.mk (below_step (by repeat (first | (with_reducible first | exact HB.out | apply below_alloc | apply pw_below_drewN | apply below_drew1) | exact HB.out)) hb); clear HO125; clear HO128; clear HB; have HO125 := n0_; have HO128 := n1_; have HO131 := n2_; have HB := n3_; clear n0_ n1_ n2_ n3_; clear hb ho12; obtain ⟨Ao13, co13, eo13⟩ := Kd.R_slice HO125.out; subst eo13; obtain ⟨Ao14, co14, eo14⟩ := Kd.R_slice HO128.out; subst eo14; obtain ⟨Ao15, co15, eo15⟩ := Kd.R_slice HO131.out; subst eo15) | ((with_reducible refine gate_callee (f := 9) rfl ?_); refine goesL_ (some 9) rfl rfl Try.func9 (by kernel_rfl) rfl #[.slice Ao13 y123.length co13, .slice Ao14 y126.length co14, .slice Ao15 y129.length co15] rfl (by (try simp only [List.map_toArray, List.map_cons, List.map_nil]); first | done | rfl | (simp only [List.length_drop, List.length_take]; rfl)) ?_; (with_reducible refine (order_Best.calls k _ _ y123 _ _ y126 _ _ y129 t132 t133 t134 _ ?side1 ?side2 ?side3 ?side4 ?side5 ?side6 A1.out).mono ?_); (case side1 => repeat (first | exact (Kd.R_reads' HO125.out).2.2 | (with_reducible refine Kd.C_alloc ?_ _) | (with_reducible refine Kd.C_drewN ?_ _) | (with_reducible refine Kd.C_drew ?_))); (case side2 => exact (Kd.R_reads' HO125.out).2.1); (case side3 => repeat (first | exact (Kd.R_reads' HO128.out).2.2 | (with_reducible refine Kd.C_alloc ?_ _) | (with_reducible refine Kd.C_drewN ?_ _) | (with_reducible refine Kd.C_drew ?_))); (case side4 => exact (Kd.R_reads' HO128.out).2.1); (case side5 => repeat (first | exact (Kd.R_reads' HO131.out).2.2 | (with_reducible refine Kd.C_alloc ?_ _) | (with_reducible refine Kd.C_drewN ?_ _) | (with_reducible refine Kd.C_drew ?_))); (case side6 => exact (Kd.R_reads' HO131.out).2.1); rintro e w16 ⟨v135, rfl, ho0, hb⟩; refine ⟨_, rfl, ?_⟩; have n0_ := Aside0.mk (Kd.R_elder' (by (with_reducible repeat (first | apply Kd.R_alloc | apply Kd.R_drewN | apply Kd.R_drew)); exact HO125.out) (Kd.R_base ho0) hb); have n1_ := Aside0.mk (Kd.R_below (by (with_reducible repeat (first | apply Kd.R_alloc | apply Kd.R_drewN | apply Kd.R_drew)); exact HO128.out) hb); have n2_ := Aside0.mk (Kd.R_elder' (by (with_reducible repeat (first | apply Kd.R_alloc | apply Kd.R_drewN | apply Kd.R_drew)); exact HO131.out) (Kd.R_base ho0) hb); have n3_ := Aside0.mk (Kd.R_lower (Kd.R_new' (Kd.R_new' ho0 (Kd.R_lt (by (with_reducible repeat (first | apply Kd.R_alloc | apply Kd.R_drewN | apply Kd.R_drew)); exact HO125.out))) (Kd.R_lt (by (with_reducible repeat (first | apply Kd.R_alloc | apply Kd.R_drewN | apply Kd.R_drew)); exact HO131.out))) (below_size (by repeat (first | (with_reducible first | exact HB.out | apply below_alloc | apply pw_below_drewN | apply below_drew1) | exact HB.out)))); have n4_ := Aside0.mk (below_step (by repeat (first | (with_reducible first | exact HB.out | apply below_alloc | apply pw_below_drewN | apply below_drew1) | exact HB.out)) hb); clear HO125; clear HO128; clear HO131; clear HB; have HO125 := n0_; have HO128 := n1_; have HO131 := n2_; have HO136 := n3_; have HB := n4_; clear n0_ n1_ n2_ n3_ n4_; (try clear hb); (try clear hb2); (try clear hk); (try clear hi); (try clear ho0)) | ((with_reducible refine gate_dst (N := 14) rfl ?_); (try (refine gate_guard (by rfl) ?_; dsimp only)); refine Kd.R_lit (Kd.int .i64) _ 3 ?hg (N := 14) ?hd (xs := ([2, 1, 0] : List Int)) (inner := [.int .i64 2, .int .i64 1, .int .i64 0]) (ok := fun _ => True) (okp := fun _ => True) ?hr ?hp (fun _ hk => hk) trivial (Below.refl _ _) (Nat.le_refl _) (by simp) ?_; (case hd => rfl); (case hg => rfl); (case hr => first | (go_simp; done) | (go_simp; rfl)); (case hp => exact (Reps.one (show Kd.M (Kd.int .i64) _ _ _ 2 [.int .i64 2] from rfl) (Reps.one (show Kd.M (Kd.int .i64) _ _ _ 1 [.int .i64 1] from rfl) (Reps.one (show Kd.M (Kd.int .i64) _ _ _ 0 [.int .i64 0] from rfl) (Reps.none _ _))))); intro v138 w17 ho18 hb hg_ hnew_; clear hg_ hnew_; (first | rw [← Ny137.out] at ho18 | (simp only [Int.reduceToNat] at ho18; rw [← Ny137.out] at ho18)); have n0_ := Aside0.mk (Kd.R_elder' (by (with_reducible repeat (first | apply Kd.R_alloc | apply Kd.R_drewN | apply Kd.R_drew)); exact HO125.out) (Kd.R_base ho18) hb); have n1_ := Aside0.mk (Kd.R_below (by (with_reducible repeat (first | apply Kd.R_alloc | apply Kd.R_drewN | apply Kd.R_drew)); exact HO128.out) hb); have n2_ := Aside0.mk (Kd.R_elder' (by (with_reducible repeat (first | apply Kd.R_alloc | apply Kd.R_drewN | apply Kd.R_drew)); exact HO131.out) (Kd.R_base ho18) hb); have n3_ := Aside0.mk (Kd.R_elder' (by (with_reducible repeat (first | apply Kd.R_alloc | apply Kd.R_drewN | apply Kd.R_drew)); exact HO136.out) (Kd.R_base ho18) hb); have n4_ := Aside0.mk (Kd.R_lower (Kd.R_new' (Kd.R_new' (Kd.R_new' ho18 (Kd.R_lt (by (with_reducible repeat (first | apply Kd.R_alloc | apply Kd.R_drewN | apply Kd.R_drew)); exact HO125.out))) (Kd.R_lt (by (with_reducible repeat (first | apply Kd.R_alloc | apply Kd.R_drewN | apply Kd.R_drew)); exact HO131.out))) (Kd.R_lt (by (with_reducible repeat (first | apply Kd.R_alloc | apply Kd.R_drewN | apply Kd.R_drew)); exact HO136.out))) (below_size (by repeat (first | (with_reducible first | exact HB.out | apply below_alloc | apply pw_below_drewN | apply below_drew1) | exact HB.out)))); have n5_ := Aside0.mk (below_step (by repeat (first | (with_reducible first | exact HB.out | apply below_alloc | apply pw_below_drewN | apply below_drew1) | exact HB.out)) hb); clear HO125; clear HO128; clear HO131; clear HO136; clear HB; have HO125 := n0_; have HO128 := n1_; have HO131 := n2_; have HO136 := n3_; have HO139 := n4_; have HB := n5_; clear n0_ n1_ n2_ n3_ n4_ n5_; clear hb ho18; obtain ⟨Ao19, co19, eo19⟩ := Kd.R_slice HO136.out; subst eo19; obtain ⟨Ao20, co20, eo20⟩ := Kd.R_slice HO139.out; subst eo20) | ((with_reducible refine gate_callee (f := 11) rfl ?_); refine goesL_ (some 15) rfl rfl Try.func11 (by kernel_rfl) rfl #[.slice Ao19 t132.length co19, .slice Ao20 y137.length co20] rfl (by (try simp only [List.map_toArray, List.map_cons, List.map_nil]); first | done | rfl | (simp only [List.length_drop, List.length_take]; rfl)) ?_; (with_reducible refine (quaysideref01_SameInts.calls k _ _ t132 _ _ y137 true _ ?side1 ?side2 ?side3 ?side4 A2.out).mono ?_); (case side1 => repeat (first | exact (Kd.R_reads' HO136.out).2.2 | (with_reducible refine Kd.C_alloc ?_ _) | (with_reducible refine Kd.C_drewN ?_ _) | (with_reducible refine Kd.C_drew ?_))); (case side2 => exact (Kd.R_reads' HO136.out).2.1); (case side3 => repeat (first | exact (Kd.R_reads' HO139.out).2.2 | (with_reducible refine Kd.C_alloc ?_ _) | (with_reducible refine Kd.C_drewN ?_ _) | (with_reducible refine Kd.C_drew ?_))); (case side4 => exact (Kd.R_reads' HO139.out).2.1); rintro e w' ⟨rfl, ⟨nd, rfl⟩⟩; refine ⟨_, rfl, ?_⟩) | ((with_reducible refine gate_dst (N := 25) rfl ?_); (try (refine gate_guard (by rfl) ?_; dsimp only)); refine Kd.R_lit (Kd.int .i64) _ 3 ?hg (N := 25) ?hd (xs := ([1000, 100, 2] : List Int)) (inner := [.int .i64 1000, .int .i64 100, .int .i64 2]) (ok := fun _ => True) (okp := fun _ => True) ?hr ?hp (fun _ hk => hk) trivial (Below.refl _ _) (Nat.le_refl _) (by simp) ?_; (case hd => rfl); (case hg => rfl); (case hr => first | (go_simp; done) | (go_simp; rfl)); (case hp => exact (Reps.one (show Kd.M (Kd.int .i64) _ _ _ 1000 [.int .i64 1000] from rfl) (Reps.one (show Kd.M (Kd.int .i64) _ _ _ 100 [.int .i64 100] from rfl) (Reps.one (show Kd.M (Kd.int .i64) _ _ _ 2 [.int .i64 2] from rfl) (Reps.none _ _))))); intro v142 w21 ho22 hb hg_ hnew_; clear hg_ hnew_; (first | rw [← Ny141.out] at ho22 | (simp only [Int.reduceToNat] at ho22; rw [← Ny141.out] at ho22)); have n0_ := Aside0.mk (Kd.R_elder' (by (with_reducible repeat (first | apply Kd.R_alloc | apply Kd.R_drewN | apply Kd.R_drew)); exact HO125.out) (Kd.R_base ho22) hb); have n1_ := Aside0.mk (Kd.R_below (by (with_reducible repeat (first | apply Kd.R_alloc | apply Kd.R_drewN | apply Kd.R_drew)); exact HO128.out) hb); have n2_ := Aside0.mk (Kd.R_elder' (by (with_reducible repeat (first | apply Kd.R_alloc | apply Kd.R_drewN | apply Kd.R_drew)); exact HO131.out) (Kd.R_base ho22) hb); have n3_ := Aside0.mk (Kd.R_elder' (by (with_reducible repeat (first | apply Kd.R_alloc | apply Kd.R_drewN | apply Kd.R_drew)); exact HO136.out) (Kd.R_base ho22) hb); have n4_ := Aside0.mk (Kd.R_elder' (by (with_reducible repeat (first | apply Kd.R_alloc | apply Kd.R_drewN | apply Kd.R_drew)); exact HO139.out) (Kd.R_base ho22) hb); have n5_ := Aside0.mk (Kd.R_lower (Kd.R_new' (Kd.R_new' (Kd.R_new' (Kd.R_new' ho22 (Kd.R_lt (by (with_reducible repeat (first | apply Kd.R_alloc | apply Kd.R_drewN | apply Kd.R_drew)); exact HO125.out))) (Kd.R_lt (by (with_reducible repeat (first | apply Kd.R_alloc | apply Kd.R_drewN | apply Kd.R_drew)); exact HO131.out))) (Kd.R_lt (by (with_reducible repeat (first | apply Kd.R_alloc | apply Kd.R_drewN | apply Kd.R_drew)); exact HO136.out))) (Kd.R_lt (by (with_reducible repeat (first | apply Kd.R_alloc | apply Kd.R_drewN | apply Kd.R_drew)); exact HO139.out))) (below_size (by repeat (first | (with_reducible first | exact HB.out | apply below_alloc | apply pw_below_drewN | apply below_drew1) | exact HB.out)))); have n6_ := Aside0.mk (below_step (by repeat (first | (with_reducible first | exact HB.out | apply below_alloc | apply pw_below_drewN | apply below_drew1) | exact HB.out)) hb); clear HO125; clear HO128; clear HO131; clear HO136; clear HO139; clear HB; have HO125 := n0_; have HO128 := n1_; have HO131 := n2_; have HO136 := n3_; have HO139 := n4_; have HO143 := n5_; have HB := n6_; clear n0_ n1_ n2_ n3_ n4_ n5_ n6_; clear hb ho22; obtain ⟨Ao23, co23, eo23⟩ := Kd.R_slice HO143.out; subst eo23) | (go_at_call 13; (refine (order_Rows.calls k _ _ y141 _ _ ([] : List (S39)) _ _ ([] : List Int) 3 t144 _ ?side1 ?side2 ?side3 ?side4 ?side5 ?side6 A6.out).mono ?_); (case side1 => repeat (first | exact (Kd.R_reads' HO143.out).2.2 | (with_reducible refine Kd.C_alloc ?_ _) | (with_reducible refine Kd.C_drewN ?_ _) | (with_reducible refine Kd.C_drew ?_))); (case side2 => exact (Kd.R_reads' HO143.out).2.1); (case side3 => exact Kd.C_nil _ _); (case side4 => exact Nat.le_refl _); (case side5 => exact Kd.C_nil _ _); (case side6 => exact Nat.le_refl _); rintro e w24 ⟨rfl, hb⟩; have n0_ := Aside0.mk (Kd.R_below (by (with_reducible repeat (first | apply Kd.R_alloc | apply Kd.R_drewN | apply Kd.R_drew)); exact HO125.out) hb); have n1_ := Aside0.mk (Kd.R_below (by (with_reducible repeat (first | apply Kd.R_alloc | apply Kd.R_drewN | apply Kd.R_drew)); exact HO128.out) hb); have n2_ := Aside0.mk (Kd.R_below (by (with_reducible repeat (first | apply Kd.R_alloc | apply Kd.R_drewN | apply Kd.R_drew)); exact HO131.out) hb); have n3_ := Aside0.mk (Kd.R_below (by (with_reducible repeat (first | apply Kd.R_alloc | apply Kd.R_drewN | apply Kd.R_drew)); exact HO136.out) hb); have n4_ := Aside0.mk (Kd.R_below (by (with_reducible repeat (first | apply Kd.R_alloc | apply Kd.R_drewN | apply Kd.R_drew)); exact HO139.out) hb); have n5_ := Aside0.mk (Kd.R_below (by (with_reducible repeat (first | apply Kd.R_alloc | apply Kd.R_drewN | apply Kd.R_drew)); exact HO143.out) hb); have n6_ := Aside0.mk (below_step (by repeat (first | (with_reducible first | exact HB.out | apply below_alloc | apply pw_below_drewN | apply below_drew1) | exact HB.out)) hb); clear HO125; clear HO128; clear HO131; clear HO136; clear HO139; clear HO143; clear HB; have HO125 := n0_; have HO128 := n1_; have HO131 := n2_; have HO136 := n3_; have HO139 := n4_; have HO143 := n5_; have HB := n6_; clear n0_ n1_ n2_ n3_ n4_ n5_ n6_; (try clear hb); (try clear hb2); (try clear hk); (try clear hi)))
        go_ret
        exact ⟨by first | rfl | (simp [errW_none, errW_some] <;> rfl) | (simp [*, errW_none, errW_some] <;> rfl), by repeat (first | (with_reducible first | exact HB.out | apply below_alloc | apply pw_below_drewN | apply below_drew1) | exact HB.out)⟩
      · rw [if_neg c5] at H
        have c5b0 : (t134 == 0) = false := beq_eq_false_iff_ne.mpr c5
        have c5b1 : (t134 != 0) = true := bne_iff_ne.mpr c5
        obtain rfl := Option.some.inj H
        go_enter Try.func8, Try.ntmps8
        go_wp2_with (first | ((with_reducible refine gate_dst (N := 5) rfl ?_); (try (refine gate_guard (by rfl) ?_; dsimp only)); refine Kd.R_lit (Kd.int .i64) _ 3 ?hg (N := 5) ?hd (xs := ([1000, 100, 2] : List Int)) (inner := [.int .i64 1000, .int .i64 100, .int .i64 2]) (ok := fun _ => True) (okp := fun _ => True) ?hr ?hp (fun _ hk => hk) trivial (Below.refl _ _) (Nat.le_refl _) (by simp) ?_; (case hd => rfl); (case hg => rfl); (case hr => first | (go_simp; done) | (go_simp; rfl)); (case hp => exact (Reps.one (show Kd.M (Kd.int .i64) _ _ _ 1000 [.int .i64 1000] from rfl) (Reps.one (show Kd.M (Kd.int .i64) _ _ _ 100 [.int .i64 100] from rfl) (Reps.one (show Kd.M (Kd.int .i64) _ _ _ 2 [.int .i64 2] from rfl) (Reps.none _ _))))); intro v124 w25 ho26 hb hg_ hnew_; clear hg_ hnew_; (first | rw [← Ny123.out] at ho26 | (simp only [Int.reduceToNat] at ho26; rw [← Ny123.out] at ho26)); have n0_ := Aside0.mk (Kd.R_lower ho26 (below_size (by repeat (first | (with_reducible first | exact HB.out | apply below_alloc | apply pw_below_drewN | apply below_drew1) | exact HB.out)))); have n1_ := Aside0.mk (below_step (by repeat (first | (with_reducible first | exact HB.out | apply below_alloc | apply pw_below_drewN | apply below_drew1) | exact HB.out)) hb); clear HB; have HO125 := n0_; have HB := n1_; clear n0_ n1_; clear hb ho26) | ((with_reducible refine gate_dst (N := 7) rfl ?_); (try (refine gate_guard (by rfl) ?_; dsimp only)); refine Kd.R_lit k39 _ 39 ?hg (N := 7) ?hd (xs := ([(⟨1, 0, 2, 0⟩ : S39)] : List (S39))) (inner := [.int .i64 1, .int .i64 0, .int .i64 2, .int .i64 0]) (ok := fun _ => True) (okp := fun _ => True) ?hr ?hp (fun _ hk => hk) trivial (Below.refl _ _) (Nat.le_refl _) (by simp) ?_; (case hd => rfl); (case hg => rfl); (case hr => first | (go_simp; done) | (go_simp; rfl)); (case hp => exact (Reps.c4 (show Kd.M k39 _ _ _ (⟨1, 0, 2, 0⟩ : S39) [.int .i64 1, .int .i64 0, .int .i64 2, .int .i64 0] from (k39_mkM _ _ _ (⟨1, 0, 2, 0⟩ : S39) )) (Reps.none _ _))); intro v127 w27 ho28 hb hg_ hnew_; clear hg_ hnew_; (first | rw [← Ny126.out] at ho28 | (simp only [Int.reduceToNat] at ho28; rw [← Ny126.out] at ho28)); have n0_ := Aside0.mk (Kd.R_below (by (with_reducible repeat (first | apply Kd.R_alloc | apply Kd.R_drewN | apply Kd.R_drew)); exact HO125.out) hb); have n1_ := Aside0.mk (Kd.R_lower ho28 (below_size (by repeat (first | (with_reducible first | exact HB.out | apply below_alloc | apply pw_below_drewN | apply below_drew1) | exact HB.out)))); have n2_ := Aside0.mk (below_step (by repeat (first | (with_reducible first | exact HB.out | apply below_alloc | apply pw_below_drewN | apply below_drew1) | exact HB.out)) hb); clear HO125; clear HB; have HO125 := n0_; have HO128 := n1_; have HB := n2_; clear n0_ n1_ n2_; clear hb ho28) | ((with_reducible refine gate_dst (N := 8) rfl ?_); (try (refine gate_guard (by rfl) ?_; dsimp only)); refine Kd.R_lit (Kd.int .i64) _ 3 ?hg (N := 8) ?hd (xs := ([100] : List Int)) (inner := [.int .i64 100]) (ok := fun _ => True) (okp := fun _ => True) ?hr ?hp (fun _ hk => hk) trivial (Below.refl _ _) (Nat.le_refl _) (by simp) ?_; (case hd => rfl); (case hg => rfl); (case hr => first | (go_simp; done) | (go_simp; rfl)); (case hp => exact (Reps.one (show Kd.M (Kd.int .i64) _ _ _ 100 [.int .i64 100] from rfl) (Reps.none _ _))); intro v130 w29 ho30 hb hg_ hnew_; clear hg_ hnew_; (first | rw [← Ny129.out] at ho30 | (simp only [Int.reduceToNat] at ho30; rw [← Ny129.out] at ho30)); have n0_ := Aside0.mk (Kd.R_elder' (by (with_reducible repeat (first | apply Kd.R_alloc | apply Kd.R_drewN | apply Kd.R_drew)); exact HO125.out) (Kd.R_base ho30) hb); have n1_ := Aside0.mk (Kd.R_below (by (with_reducible repeat (first | apply Kd.R_alloc | apply Kd.R_drewN | apply Kd.R_drew)); exact HO128.out) hb); have n2_ := Aside0.mk (Kd.R_lower (Kd.R_new' ho30 (Kd.R_lt (by (with_reducible repeat (first | apply Kd.R_alloc | apply Kd.R_drewN | apply Kd.R_drew)); exact HO125.out))) (below_size (by repeat (first | (with_reducible first | exact HB.out | apply below_alloc | apply pw_below_drewN | apply below_drew1) | exact HB.out)))); have n3_ := Aside0.mk (below_step (by repeat (first | (with_reducible first | exact HB.out | apply below_alloc | apply pw_below_drewN | apply below_drew1) | exact HB.out)) hb); clear HO125; clear HO128; clear HB; have HO125 := n0_; have HO128 := n1_; have HO131 := n2_; have HB := n3_; clear n0_ n1_ n2_ n3_; clear hb ho30; obtain ⟨Ao31, co31, eo31⟩ := Kd.R_slice HO125.out; subst eo31; obtain ⟨Ao32, co32, eo32⟩ := Kd.R_slice HO128.out; subst eo32; obtain ⟨Ao33, co33, eo33⟩ := Kd.R_slice HO131.out; subst eo33) | ((with_reducible refine gate_callee (f := 9) rfl ?_); refine goesL_ (some 9) rfl rfl Try.func9 (by kernel_rfl) rfl #[.slice Ao31 y123.length co31, .slice Ao32 y126.length co32, .slice Ao33 y129.length co33] rfl (by (try simp only [List.map_toArray, List.map_cons, List.map_nil]); first | done | rfl | (simp only [List.length_drop, List.length_take]; rfl)) ?_; (with_reducible refine (order_Best.calls k _ _ y123 _ _ y126 _ _ y129 t132 t133 t134 _ ?side1 ?side2 ?side3 ?side4 ?side5 ?side6 A1.out).mono ?_); (case side1 => repeat (first | exact (Kd.R_reads' HO125.out).2.2 | (with_reducible refine Kd.C_alloc ?_ _) | (with_reducible refine Kd.C_drewN ?_ _) | (with_reducible refine Kd.C_drew ?_))); (case side2 => exact (Kd.R_reads' HO125.out).2.1); (case side3 => repeat (first | exact (Kd.R_reads' HO128.out).2.2 | (with_reducible refine Kd.C_alloc ?_ _) | (with_reducible refine Kd.C_drewN ?_ _) | (with_reducible refine Kd.C_drew ?_))); (case side4 => exact (Kd.R_reads' HO128.out).2.1); (case side5 => repeat (first | exact (Kd.R_reads' HO131.out).2.2 | (with_reducible refine Kd.C_alloc ?_ _) | (with_reducible refine Kd.C_drewN ?_ _) | (with_reducible refine Kd.C_drew ?_))); (case side6 => exact (Kd.R_reads' HO131.out).2.1); rintro e w34 ⟨v135, rfl, ho0, hb⟩; refine ⟨_, rfl, ?_⟩; have n0_ := Aside0.mk (Kd.R_elder' (by (with_reducible repeat (first | apply Kd.R_alloc | apply Kd.R_drewN | apply Kd.R_drew)); exact HO125.out) (Kd.R_base ho0) hb); have n1_ := Aside0.mk (Kd.R_below (by (with_reducible repeat (first | apply Kd.R_alloc | apply Kd.R_drewN | apply Kd.R_drew)); exact HO128.out) hb); have n2_ := Aside0.mk (Kd.R_elder' (by (with_reducible repeat (first | apply Kd.R_alloc | apply Kd.R_drewN | apply Kd.R_drew)); exact HO131.out) (Kd.R_base ho0) hb); have n3_ := Aside0.mk (Kd.R_lower (Kd.R_new' (Kd.R_new' ho0 (Kd.R_lt (by (with_reducible repeat (first | apply Kd.R_alloc | apply Kd.R_drewN | apply Kd.R_drew)); exact HO125.out))) (Kd.R_lt (by (with_reducible repeat (first | apply Kd.R_alloc | apply Kd.R_drewN | apply Kd.R_drew)); exact HO131.out))) (below_size (by repeat (first | (with_reducible first | exact HB.out | apply below_alloc | apply pw_below_drewN | apply below_drew1) | exact HB.out)))); have n4_ := Aside0.mk (below_step (by repeat (first | (with_reducible first | exact HB.out | apply below_alloc | apply pw_below_drewN | apply below_drew1) | exact HB.out)) hb); clear HO125; clear HO128; clear HO131; clear HB; have HO125 := n0_; have HO128 := n1_; have HO131 := n2_; have HO136 := n3_; have HB := n4_; clear n0_ n1_ n2_ n3_ n4_; (try clear hb); (try clear hb2); (try clear hk); (try clear hi); (try clear ho0)) | ((with_reducible refine gate_dst (N := 14) rfl ?_); (try (refine gate_guard (by rfl) ?_; dsimp only)); refine Kd.R_lit (Kd.int .i64) _ 3 ?hg (N := 14) ?hd (xs := ([2, 1, 0] : List Int)) (inner := [.int .i64 2, .int .i64 1, .int .i64 0]) (ok := fun _ => True) (okp := fun _ => True) ?hr ?hp (fun _ hk => hk) trivial (Below.refl _ _) (Nat.le_refl _) (by simp) ?_; (case hd => rfl); (case hg => rfl); (case hr => first | (go_simp; done) | (go_simp; rfl)); (case hp => exact (Reps.one (show Kd.M (Kd.int .i64) _ _ _ 2 [.int .i64 2] from rfl) (Reps.one (show Kd.M (Kd.int .i64) _ _ _ 1 [.int .i64 1] from rfl) (Reps.one (show Kd.M (Kd.int .i64) _ _ _ 0 [.int .i64 0] from rfl) (Reps.none _ _))))); intro v138 w35 ho36 hb hg_ hnew_; clear hg_ hnew_; (first | rw [← Ny137.out] at ho36 | (simp only [Int.reduceToNat] at ho36; rw [← Ny137.out] at ho36)); have n0_ := Aside0.mk (Kd.R_elder' (by (with_reducible repeat (first | apply Kd.R_alloc | apply Kd.R_drewN | apply Kd.R_drew)); exact HO125.out) (Kd.R_base ho36) hb); have n1_ := Aside0.mk (Kd.R_below (by (with_reducible repeat (first | apply Kd.R_alloc | apply Kd.R_drewN | apply Kd.R_drew)); exact HO128.out) hb); have n2_ := Aside0.mk (Kd.R_elder' (by (with_reducible repeat (first | apply Kd.R_alloc | apply Kd.R_drewN | apply Kd.R_drew)); exact HO131.out) (Kd.R_base ho36) hb); have n3_ := Aside0.mk (Kd.R_elder' (by (with_reducible repeat (first | apply Kd.R_alloc | apply Kd.R_drewN | apply Kd.R_drew)); exact HO136.out) (Kd.R_base ho36) hb); have n4_ := Aside0.mk (Kd.R_lower (Kd.R_new' (Kd.R_new' (Kd.R_new' ho36 (Kd.R_lt (by (with_reducible repeat (first | apply Kd.R_alloc | apply Kd.R_drewN | apply Kd.R_drew)); exact HO125.out))) (Kd.R_lt (by (with_reducible repeat (first | apply Kd.R_alloc | apply Kd.R_drewN | apply Kd.R_drew)); exact HO131.out))) (Kd.R_lt (by (with_reducible repeat (first | apply Kd.R_alloc | apply Kd.R_drewN | apply Kd.R_drew)); exact HO136.out))) (below_size (by repeat (first | (with_reducible first | exact HB.out | apply below_alloc | apply pw_below_drewN | apply below_drew1) | exact HB.out)))); have n5_ := Aside0.mk (below_step (by repeat (first | (with_reducible first | exact HB.out | apply below_alloc | apply pw_below_drewN | apply below_drew1) | exact HB.out)) hb); clear HO125; clear HO128; clear HO131; clear HO136; clear HB; have HO125 := n0_; have HO128 := n1_; have HO131 := n2_; have HO136 := n3_; have HO139 := n4_; have HB := n5_; clear n0_ n1_ n2_ n3_ n4_ n5_; clear hb ho36; obtain ⟨Ao37, co37, eo37⟩ := Kd.R_slice HO136.out; subst eo37; obtain ⟨Ao38, co38, eo38⟩ := Kd.R_slice HO139.out; subst eo38) | ((with_reducible refine gate_callee (f := 11) rfl ?_); refine goesL_ (some 15) rfl rfl Try.func11 (by kernel_rfl) rfl #[.slice Ao37 t132.length co37, .slice Ao38 y137.length co38] rfl (by (try simp only [List.map_toArray, List.map_cons, List.map_nil]); first | done | rfl | (simp only [List.length_drop, List.length_take]; rfl)) ?_; (with_reducible refine (quaysideref01_SameInts.calls k _ _ t132 _ _ y137 true _ ?side1 ?side2 ?side3 ?side4 A2.out).mono ?_); (case side1 => repeat (first | exact (Kd.R_reads' HO136.out).2.2 | (with_reducible refine Kd.C_alloc ?_ _) | (with_reducible refine Kd.C_drewN ?_ _) | (with_reducible refine Kd.C_drew ?_))); (case side2 => exact (Kd.R_reads' HO136.out).2.1); (case side3 => repeat (first | exact (Kd.R_reads' HO139.out).2.2 | (with_reducible refine Kd.C_alloc ?_ _) | (with_reducible refine Kd.C_drewN ?_ _) | (with_reducible refine Kd.C_drew ?_))); (case side4 => exact (Kd.R_reads' HO139.out).2.1); rintro e w' ⟨rfl, ⟨nd, rfl⟩⟩; refine ⟨_, rfl, ?_⟩))
        go_ret
        exact ⟨by first | rfl | (simp [errW_none, errW_some] <;> rfl) | (simp [*, errW_none, errW_some] <;> rfl), by repeat (first | (with_reducible first | exact HB.out | apply below_alloc | apply pw_below_drewN | apply below_drew1) | exact HB.out)⟩
    · rw [if_neg c4] at H
      have c4b0 : (t133 == 2004) = false := beq_eq_false_iff_ne.mpr c4
      have c4b1 : (t133 != 2004) = true := bne_iff_ne.mpr c4
      obtain rfl := Option.some.inj H
      go_enter Try.func8, Try.ntmps8
      go_wp2_with (first | ((with_reducible refine gate_dst (N := 5) rfl ?_); (try (refine gate_guard (by rfl) ?_; dsimp only)); refine Kd.R_lit (Kd.int .i64) _ 3 ?hg (N := 5) ?hd (xs := ([1000, 100, 2] : List Int)) (inner := [.int .i64 1000, .int .i64 100, .int .i64 2]) (ok := fun _ => True) (okp := fun _ => True) ?hr ?hp (fun _ hk => hk) trivial (Below.refl _ _) (Nat.le_refl _) (by simp) ?_; (case hd => rfl); (case hg => rfl); (case hr => first | (go_simp; done) | (go_simp; rfl)); (case hp => exact (Reps.one (show Kd.M (Kd.int .i64) _ _ _ 1000 [.int .i64 1000] from rfl) (Reps.one (show Kd.M (Kd.int .i64) _ _ _ 100 [.int .i64 100] from rfl) (Reps.one (show Kd.M (Kd.int .i64) _ _ _ 2 [.int .i64 2] from rfl) (Reps.none _ _))))); intro v124 w39 ho40 hb hg_ hnew_; clear hg_ hnew_; (first | rw [← Ny123.out] at ho40 | (simp only [Int.reduceToNat] at ho40; rw [← Ny123.out] at ho40)); have n0_ := Aside0.mk (Kd.R_lower ho40 (below_size (by repeat (first | (with_reducible first | exact HB.out | apply below_alloc | apply pw_below_drewN | apply below_drew1) | exact HB.out)))); have n1_ := Aside0.mk (below_step (by repeat (first | (with_reducible first | exact HB.out | apply below_alloc | apply pw_below_drewN | apply below_drew1) | exact HB.out)) hb); clear HB; have HO125 := n0_; have HB := n1_; clear n0_ n1_; clear hb ho40) | ((with_reducible refine gate_dst (N := 7) rfl ?_); (try (refine gate_guard (by rfl) ?_; dsimp only)); refine Kd.R_lit k39 _ 39 ?hg (N := 7) ?hd (xs := ([(⟨1, 0, 2, 0⟩ : S39)] : List (S39))) (inner := [.int .i64 1, .int .i64 0, .int .i64 2, .int .i64 0]) (ok := fun _ => True) (okp := fun _ => True) ?hr ?hp (fun _ hk => hk) trivial (Below.refl _ _) (Nat.le_refl _) (by simp) ?_; (case hd => rfl); (case hg => rfl); (case hr => first | (go_simp; done) | (go_simp; rfl)); (case hp => exact (Reps.c4 (show Kd.M k39 _ _ _ (⟨1, 0, 2, 0⟩ : S39) [.int .i64 1, .int .i64 0, .int .i64 2, .int .i64 0] from (k39_mkM _ _ _ (⟨1, 0, 2, 0⟩ : S39) )) (Reps.none _ _))); intro v127 w41 ho42 hb hg_ hnew_; clear hg_ hnew_; (first | rw [← Ny126.out] at ho42 | (simp only [Int.reduceToNat] at ho42; rw [← Ny126.out] at ho42)); have n0_ := Aside0.mk (Kd.R_below (by (with_reducible repeat (first | apply Kd.R_alloc | apply Kd.R_drewN | apply Kd.R_drew)); exact HO125.out) hb); have n1_ := Aside0.mk (Kd.R_lower ho42 (below_size (by repeat (first | (with_reducible first | exact HB.out | apply below_alloc | apply pw_below_drewN | apply below_drew1) | exact HB.out)))); have n2_ := Aside0.mk (below_step (by repeat (first | (with_reducible first | exact HB.out | apply below_alloc | apply pw_below_drewN | apply below_drew1) | exact HB.out)) hb); clear HO125; clear HB; have HO125 := n0_; have HO128 := n1_; have HB := n2_; clear n0_ n1_ n2_; clear hb ho42) | ((with_reducible refine gate_dst (N := 8) rfl ?_); (try (refine gate_guard (by rfl) ?_; dsimp only)); refine Kd.R_lit (Kd.int .i64) _ 3 ?hg (N := 8) ?hd (xs := ([100] : List Int)) (inner := [.int .i64 100]) (ok := fun _ => True) (okp := fun _ => True) ?hr ?hp (fun _ hk => hk) trivial (Below.refl _ _) (Nat.le_refl _) (by simp) ?_; (case hd => rfl); (case hg => rfl); (case hr => first | (go_simp; done) | (go_simp; rfl)); (case hp => exact (Reps.one (show Kd.M (Kd.int .i64) _ _ _ 100 [.int .i64 100] from rfl) (Reps.none _ _))); intro v130 w43 ho44 hb hg_ hnew_; clear hg_ hnew_; (first | rw [← Ny129.out] at ho44 | (simp only [Int.reduceToNat] at ho44; rw [← Ny129.out] at ho44)); have n0_ := Aside0.mk (Kd.R_elder' (by (with_reducible repeat (first | apply Kd.R_alloc | apply Kd.R_drewN | apply Kd.R_drew)); exact HO125.out) (Kd.R_base ho44) hb); have n1_ := Aside0.mk (Kd.R_below (by (with_reducible repeat (first | apply Kd.R_alloc | apply Kd.R_drewN | apply Kd.R_drew)); exact HO128.out) hb); have n2_ := Aside0.mk (Kd.R_lower (Kd.R_new' ho44 (Kd.R_lt (by (with_reducible repeat (first | apply Kd.R_alloc | apply Kd.R_drewN | apply Kd.R_drew)); exact HO125.out))) (below_size (by repeat (first | (with_reducible first | exact HB.out | apply below_alloc | apply pw_below_drewN | apply below_drew1) | exact HB.out)))); have n3_ := Aside0.mk (below_step (by repeat (first | (with_reducible first | exact HB.out | apply below_alloc | apply pw_below_drewN | apply below_drew1) | exact HB.out)) hb); clear HO125; clear HO128; clear HB; have HO125 := n0_; have HO128 := n1_; have HO131 := n2_; have HB := n3_; clear n0_ n1_ n2_ n3_; clear hb ho44; obtain ⟨Ao45, co45, eo45⟩ := Kd.R_slice HO125.out; subst eo45; obtain ⟨Ao46, co46, eo46⟩ := Kd.R_slice HO128.out; subst eo46; obtain ⟨Ao47, co47, eo47⟩ := Kd.R_slice HO131.out; subst eo47) | ((with_reducible refine gate_callee (f := 9) rfl ?_); refine goesL_ (some 9) rfl rfl Try.func9 (by kernel_rfl) rfl #[.slice Ao45 y123.length co45, .slice Ao46 y126.length co46, .slice Ao47 y129.length co47] rfl (by (try simp only [List.map_toArray, List.map_cons, List.map_nil]); first | done | rfl | (simp only [List.length_drop, List.length_take]; rfl)) ?_; (with_reducible refine (order_Best.calls k _ _ y123 _ _ y126 _ _ y129 t132 t133 t134 _ ?side1 ?side2 ?side3 ?side4 ?side5 ?side6 A1.out).mono ?_); (case side1 => repeat (first | exact (Kd.R_reads' HO125.out).2.2 | (with_reducible refine Kd.C_alloc ?_ _) | (with_reducible refine Kd.C_drewN ?_ _) | (with_reducible refine Kd.C_drew ?_))); (case side2 => exact (Kd.R_reads' HO125.out).2.1); (case side3 => repeat (first | exact (Kd.R_reads' HO128.out).2.2 | (with_reducible refine Kd.C_alloc ?_ _) | (with_reducible refine Kd.C_drewN ?_ _) | (with_reducible refine Kd.C_drew ?_))); (case side4 => exact (Kd.R_reads' HO128.out).2.1); (case side5 => repeat (first | exact (Kd.R_reads' HO131.out).2.2 | (with_reducible refine Kd.C_alloc ?_ _) | (with_reducible refine Kd.C_drewN ?_ _) | (with_reducible refine Kd.C_drew ?_))); (case side6 => exact (Kd.R_reads' HO131.out).2.1); rintro e w48 ⟨v135, rfl, ho0, hb⟩; refine ⟨_, rfl, ?_⟩; have n0_ := Aside0.mk (Kd.R_elder' (by (with_reducible repeat (first | apply Kd.R_alloc | apply Kd.R_drewN | apply Kd.R_drew)); exact HO125.out) (Kd.R_base ho0) hb); have n1_ := Aside0.mk (Kd.R_below (by (with_reducible repeat (first | apply Kd.R_alloc | apply Kd.R_drewN | apply Kd.R_drew)); exact HO128.out) hb); have n2_ := Aside0.mk (Kd.R_elder' (by (with_reducible repeat (first | apply Kd.R_alloc | apply Kd.R_drewN | apply Kd.R_drew)); exact HO131.out) (Kd.R_base ho0) hb); have n3_ := Aside0.mk (Kd.R_lower (Kd.R_new' (Kd.R_new' ho0 (Kd.R_lt (by (with_reducible repeat (first | apply Kd.R_alloc | apply Kd.R_drewN | apply Kd.R_drew)); exact HO125.out))) (Kd.R_lt (by (with_reducible repeat (first | apply Kd.R_alloc | apply Kd.R_drewN | apply Kd.R_drew)); exact HO131.out))) (below_size (by repeat (first | (with_reducible first | exact HB.out | apply below_alloc | apply pw_below_drewN | apply below_drew1) | exact HB.out)))); have n4_ := Aside0.mk (below_step (by repeat (first | (with_reducible first | exact HB.out | apply below_alloc | apply pw_below_drewN | apply below_drew1) | exact HB.out)) hb); clear HO125; clear HO128; clear HO131; clear HB; have HO125 := n0_; have HO128 := n1_; have HO131 := n2_; have HO136 := n3_; have HB := n4_; clear n0_ n1_ n2_ n3_ n4_; (try clear hb); (try clear hb2); (try clear hk); (try clear hi); (try clear ho0)) | ((with_reducible refine gate_dst (N := 14) rfl ?_); (try (refine gate_guard (by rfl) ?_; dsimp only)); refine Kd.R_lit (Kd.int .i64) _ 3 ?hg (N := 14) ?hd (xs := ([2, 1, 0] : List Int)) (inner := [.int .i64 2, .int .i64 1, .int .i64 0]) (ok := fun _ => True) (okp := fun _ => True) ?hr ?hp (fun _ hk => hk) trivial (Below.refl _ _) (Nat.le_refl _) (by simp) ?_; (case hd => rfl); (case hg => rfl); (case hr => first | (go_simp; done) | (go_simp; rfl)); (case hp => exact (Reps.one (show Kd.M (Kd.int .i64) _ _ _ 2 [.int .i64 2] from rfl) (Reps.one (show Kd.M (Kd.int .i64) _ _ _ 1 [.int .i64 1] from rfl) (Reps.one (show Kd.M (Kd.int .i64) _ _ _ 0 [.int .i64 0] from rfl) (Reps.none _ _))))); intro v138 w49 ho50 hb hg_ hnew_; clear hg_ hnew_; (first | rw [← Ny137.out] at ho50 | (simp only [Int.reduceToNat] at ho50; rw [← Ny137.out] at ho50)); have n0_ := Aside0.mk (Kd.R_elder' (by (with_reducible repeat (first | apply Kd.R_alloc | apply Kd.R_drewN | apply Kd.R_drew)); exact HO125.out) (Kd.R_base ho50) hb); have n1_ := Aside0.mk (Kd.R_below (by (with_reducible repeat (first | apply Kd.R_alloc | apply Kd.R_drewN | apply Kd.R_drew)); exact HO128.out) hb); have n2_ := Aside0.mk (Kd.R_elder' (by (with_reducible repeat (first | apply Kd.R_alloc | apply Kd.R_drewN | apply Kd.R_drew)); exact HO131.out) (Kd.R_base ho50) hb); have n3_ := Aside0.mk (Kd.R_elder' (by (with_reducible repeat (first | apply Kd.R_alloc | apply Kd.R_drewN | apply Kd.R_drew)); exact HO136.out) (Kd.R_base ho50) hb); have n4_ := Aside0.mk (Kd.R_lower (Kd.R_new' (Kd.R_new' (Kd.R_new' ho50 (Kd.R_lt (by (with_reducible repeat (first | apply Kd.R_alloc | apply Kd.R_drewN | apply Kd.R_drew)); exact HO125.out))) (Kd.R_lt (by (with_reducible repeat (first | apply Kd.R_alloc | apply Kd.R_drewN | apply Kd.R_drew)); exact HO131.out))) (Kd.R_lt (by (with_reducible repeat (first | apply Kd.R_alloc | apply Kd.R_drewN | apply Kd.R_drew)); exact HO136.out))) (below_size (by repeat (first | (with_reducible first | exact HB.out | apply below_alloc | apply pw_below_drewN | apply below_drew1) | exact HB.out)))); have n5_ := Aside0.mk (below_step (by repeat (first | (with_reducible first | exact HB.out | apply below_alloc | apply pw_below_drewN | apply below_drew1) | exact HB.out)) hb); clear HO125; clear HO128; clear HO131; clear HO136; clear HB; have HO125 := n0_; have HO128 := n1_; have HO131 := n2_; have HO136 := n3_; have HO139 := n4_; have HB := n5_; clear n0_ n1_ n2_ n3_ n4_ n5_; clear hb ho50; obtain ⟨Ao51, co51, eo51⟩ := Kd.R_slice HO136.out; subst eo51; obtain ⟨Ao52, co52, eo52⟩ := Kd.R_slice HO139.out; subst eo52) | ((with_reducible refine gate_callee (f := 11) rfl ?_); refine goesL_ (some 15) rfl rfl Try.func11 (by kernel_rfl) rfl #[.slice Ao51 t132.length co51, .slice Ao52 y137.length co52] rfl (by (try simp only [List.map_toArray, List.map_cons, List.map_nil]); first | done | rfl | (simp only [List.length_drop, List.length_take]; rfl)) ?_; (with_reducible refine (quaysideref01_SameInts.calls k _ _ t132 _ _ y137 true _ ?side1 ?side2 ?side3 ?side4 A2.out).mono ?_); (case side1 => repeat (first | exact (Kd.R_reads' HO136.out).2.2 | (with_reducible refine Kd.C_alloc ?_ _) | (with_reducible refine Kd.C_drewN ?_ _) | (with_reducible refine Kd.C_drew ?_))); (case side2 => exact (Kd.R_reads' HO136.out).2.1); (case side3 => repeat (first | exact (Kd.R_reads' HO139.out).2.2 | (with_reducible refine Kd.C_alloc ?_ _) | (with_reducible refine Kd.C_drewN ?_ _) | (with_reducible refine Kd.C_drew ?_))); (case side4 => exact (Kd.R_reads' HO139.out).2.1); rintro e w' ⟨rfl, ⟨nd, rfl⟩⟩; refine ⟨_, rfl, ?_⟩))
      go_ret
      exact ⟨by first | rfl | (simp [errW_none, errW_some] <;> rfl) | (simp [*, errW_none, errW_some] <;> rfl), by repeat (first | (with_reducible first | exact HB.out | apply below_alloc | apply pw_below_drewN | apply below_drew1) | exact HB.out)⟩
  · replace c3 := Bool.eq_false_iff.mpr c3
    subst c3
    have H1 : (some false) = some r := by rw [if_neg (show ¬ (false = true) by decide)] at H; exact H
    clear H
    have H := H1
    clear H1
    obtain rfl := Option.some.inj H
    go_enter Try.func8, Try.ntmps8
    go_wp2_with (first | ((with_reducible refine gate_dst (N := 5) rfl ?_); (try (refine gate_guard (by rfl) ?_; dsimp only)); refine Kd.R_lit (Kd.int .i64) _ 3 ?hg (N := 5) ?hd (xs := ([1000, 100, 2] : List Int)) (inner := [.int .i64 1000, .int .i64 100, .int .i64 2]) (ok := fun _ => True) (okp := fun _ => True) ?hr ?hp (fun _ hk => hk) trivial (Below.refl _ _) (Nat.le_refl _) (by simp) ?_; (case hd => rfl); (case hg => rfl); (case hr => first | (go_simp; done) | (go_simp; rfl)); (case hp => exact (Reps.one (show Kd.M (Kd.int .i64) _ _ _ 1000 [.int .i64 1000] from rfl) (Reps.one (show Kd.M (Kd.int .i64) _ _ _ 100 [.int .i64 100] from rfl) (Reps.one (show Kd.M (Kd.int .i64) _ _ _ 2 [.int .i64 2] from rfl) (Reps.none _ _))))); intro v124 w53 ho54 hb hg_ hnew_; clear hg_ hnew_; (first | rw [← Ny123.out] at ho54 | (simp only [Int.reduceToNat] at ho54; rw [← Ny123.out] at ho54)); have n0_ := Aside0.mk (Kd.R_lower ho54 (below_size (by repeat (first | (with_reducible first | exact HB.out | apply below_alloc | apply pw_below_drewN | apply below_drew1) | exact HB.out)))); have n1_ := Aside0.mk (below_step (by repeat (first | (with_reducible first | exact HB.out | apply below_alloc | apply pw_below_drewN | apply below_drew1) | exact HB.out)) hb); clear HB; have HO125 := n0_; have HB := n1_; clear n0_ n1_; clear hb ho54) | ((with_reducible refine gate_dst (N := 7) rfl ?_); (try (refine gate_guard (by rfl) ?_; dsimp only)); refine Kd.R_lit k39 _ 39 ?hg (N := 7) ?hd (xs := ([(⟨1, 0, 2, 0⟩ : S39)] : List (S39))) (inner := [.int .i64 1, .int .i64 0, .int .i64 2, .int .i64 0]) (ok := fun _ => True) (okp := fun _ => True) ?hr ?hp (fun _ hk => hk) trivial (Below.refl _ _) (Nat.le_refl _) (by simp) ?_; (case hd => rfl); (case hg => rfl); (case hr => first | (go_simp; done) | (go_simp; rfl)); (case hp => exact (Reps.c4 (show Kd.M k39 _ _ _ (⟨1, 0, 2, 0⟩ : S39) [.int .i64 1, .int .i64 0, .int .i64 2, .int .i64 0] from (k39_mkM _ _ _ (⟨1, 0, 2, 0⟩ : S39) )) (Reps.none _ _))); intro v127 w55 ho56 hb hg_ hnew_; clear hg_ hnew_; (first | rw [← Ny126.out] at ho56 | (simp only [Int.reduceToNat] at ho56; rw [← Ny126.out] at ho56)); have n0_ := Aside0.mk (Kd.R_below (by (with_reducible repeat (first | apply Kd.R_alloc | apply Kd.R_drewN | apply Kd.R_drew)); exact HO125.out) hb); have n1_ := Aside0.mk (Kd.R_lower ho56 (below_size (by repeat (first | (with_reducible first | exact HB.out | apply below_alloc | apply pw_below_drewN | apply below_drew1) | exact HB.out)))); have n2_ := Aside0.mk (below_step (by repeat (first | (with_reducible first | exact HB.out | apply below_alloc | apply pw_below_drewN | apply below_drew1) | exact HB.out)) hb); clear HO125; clear HB; have HO125 := n0_; have HO128 := n1_; have HB := n2_; clear n0_ n1_ n2_; clear hb ho56) | ((with_reducible refine gate_dst (N := 8) rfl ?_); (try (refine gate_guard (by rfl) ?_; dsimp only)); refine Kd.R_lit (Kd.int .i64) _ 3 ?hg (N := 8) ?hd (xs := ([100] : List Int)) (inner := [.int .i64 100]) (ok := fun _ => True) (okp := fun _ => True) ?hr ?hp (fun _ hk => hk) trivial (Below.refl _ _) (Nat.le_refl _) (by simp) ?_; (case hd => rfl); (case hg => rfl); (case hr => first | (go_simp; done) | (go_simp; rfl)); (case hp => exact (Reps.one (show Kd.M (Kd.int .i64) _ _ _ 100 [.int .i64 100] from rfl) (Reps.none _ _))); intro v130 w57 ho58 hb hg_ hnew_; clear hg_ hnew_; (first | rw [← Ny129.out] at ho58 | (simp only [Int.reduceToNat] at ho58; rw [← Ny129.out] at ho58)); have n0_ := Aside0.mk (Kd.R_elder' (by (with_reducible repeat (first | apply Kd.R_alloc | apply Kd.R_drewN | apply Kd.R_drew)); exact HO125.out) (Kd.R_base ho58) hb); have n1_ := Aside0.mk (Kd.R_below (by (with_reducible repeat (first | apply Kd.R_alloc | apply Kd.R_drewN | apply Kd.R_drew)); exact HO128.out) hb); have n2_ := Aside0.mk (Kd.R_lower (Kd.R_new' ho58 (Kd.R_lt (by (with_reducible repeat (first | apply Kd.R_alloc | apply Kd.R_drewN | apply Kd.R_drew)); exact HO125.out))) (below_size (by repeat (first | (with_reducible first | exact HB.out | apply below_alloc | apply pw_below_drewN | apply below_drew1) | exact HB.out)))); have n3_ := Aside0.mk (below_step (by repeat (first | (with_reducible first | exact HB.out | apply below_alloc | apply pw_below_drewN | apply below_drew1) | exact HB.out)) hb); clear HO125; clear HO128; clear HB; have HO125 := n0_; have HO128 := n1_; have HO131 := n2_; have HB := n3_; clear n0_ n1_ n2_ n3_; clear hb ho58; obtain ⟨Ao59, co59, eo59⟩ := Kd.R_slice HO125.out; subst eo59; obtain ⟨Ao60, co60, eo60⟩ := Kd.R_slice HO128.out; subst eo60; obtain ⟨Ao61, co61, eo61⟩ := Kd.R_slice HO131.out; subst eo61) | ((with_reducible refine gate_callee (f := 9) rfl ?_); refine goesL_ (some 9) rfl rfl Try.func9 (by kernel_rfl) rfl #[.slice Ao59 y123.length co59, .slice Ao60 y126.length co60, .slice Ao61 y129.length co61] rfl (by (try simp only [List.map_toArray, List.map_cons, List.map_nil]); first | done | rfl | (simp only [List.length_drop, List.length_take]; rfl)) ?_; (with_reducible refine (order_Best.calls k _ _ y123 _ _ y126 _ _ y129 t132 t133 t134 _ ?side1 ?side2 ?side3 ?side4 ?side5 ?side6 A1.out).mono ?_); (case side1 => repeat (first | exact (Kd.R_reads' HO125.out).2.2 | (with_reducible refine Kd.C_alloc ?_ _) | (with_reducible refine Kd.C_drewN ?_ _) | (with_reducible refine Kd.C_drew ?_))); (case side2 => exact (Kd.R_reads' HO125.out).2.1); (case side3 => repeat (first | exact (Kd.R_reads' HO128.out).2.2 | (with_reducible refine Kd.C_alloc ?_ _) | (with_reducible refine Kd.C_drewN ?_ _) | (with_reducible refine Kd.C_drew ?_))); (case side4 => exact (Kd.R_reads' HO128.out).2.1); (case side5 => repeat (first | exact (Kd.R_reads' HO131.out).2.2 | (with_reducible refine Kd.C_alloc ?_ _) | (with_reducible refine Kd.C_drewN ?_ _) | (with_reducible refine Kd.C_drew ?_))); (case side6 => exact (Kd.R_reads' HO131.out).2.1); rintro e w62 ⟨v135, rfl, ho0, hb⟩; refine ⟨_, rfl, ?_⟩; have n0_ := Aside0.mk (Kd.R_elder' (by (with_reducible repeat (first | apply Kd.R_alloc | apply Kd.R_drewN | apply Kd.R_drew)); exact HO125.out) (Kd.R_base ho0) hb); have n1_ := Aside0.mk (Kd.R_below (by (with_reducible repeat (first | apply Kd.R_alloc | apply Kd.R_drewN | apply Kd.R_drew)); exact HO128.out) hb); have n2_ := Aside0.mk (Kd.R_elder' (by (with_reducible repeat (first | apply Kd.R_alloc | apply Kd.R_drewN | apply Kd.R_drew)); exact HO131.out) (Kd.R_base ho0) hb); have n3_ := Aside0.mk (Kd.R_lower (Kd.R_new' (Kd.R_new' ho0 (Kd.R_lt (by (with_reducible repeat (first | apply Kd.R_alloc | apply Kd.R_drewN | apply Kd.R_drew)); exact HO125.out))) (Kd.R_lt (by (with_reducible repeat (first | apply Kd.R_alloc | apply Kd.R_drewN | apply Kd.R_drew)); exact HO131.out))) (below_size (by repeat (first | (with_reducible first | exact HB.out | apply below_alloc | apply pw_below_drewN | apply below_drew1) | exact HB.out)))); have n4_ := Aside0.mk (below_step (by repeat (first | (with_reducible first | exact HB.out | apply below_alloc | apply pw_below_drewN | apply below_drew1) | exact HB.out)) hb); clear HO125; clear HO128; clear HO131; clear HB; have HO125 := n0_; have HO128 := n1_; have HO131 := n2_; have HO136 := n3_; have HB := n4_; clear n0_ n1_ n2_ n3_ n4_; (try clear hb); (try clear hb2); (try clear hk); (try clear hi); (try clear ho0)) | ((with_reducible refine gate_dst (N := 14) rfl ?_); (try (refine gate_guard (by rfl) ?_; dsimp only)); refine Kd.R_lit (Kd.int .i64) _ 3 ?hg (N := 14) ?hd (xs := ([2, 1, 0] : List Int)) (inner := [.int .i64 2, .int .i64 1, .int .i64 0]) (ok := fun _ => True) (okp := fun _ => True) ?hr ?hp (fun _ hk => hk) trivial (Below.refl _ _) (Nat.le_refl _) (by simp) ?_; (case hd => rfl); (case hg => rfl); (case hr => first | (go_simp; done) | (go_simp; rfl)); (case hp => exact (Reps.one (show Kd.M (Kd.int .i64) _ _ _ 2 [.int .i64 2] from rfl) (Reps.one (show Kd.M (Kd.int .i64) _ _ _ 1 [.int .i64 1] from rfl) (Reps.one (show Kd.M (Kd.int .i64) _ _ _ 0 [.int .i64 0] from rfl) (Reps.none _ _))))); intro v138 w63 ho64 hb hg_ hnew_; clear hg_ hnew_; (first | rw [← Ny137.out] at ho64 | (simp only [Int.reduceToNat] at ho64; rw [← Ny137.out] at ho64)); have n0_ := Aside0.mk (Kd.R_elder' (by (with_reducible repeat (first | apply Kd.R_alloc | apply Kd.R_drewN | apply Kd.R_drew)); exact HO125.out) (Kd.R_base ho64) hb); have n1_ := Aside0.mk (Kd.R_below (by (with_reducible repeat (first | apply Kd.R_alloc | apply Kd.R_drewN | apply Kd.R_drew)); exact HO128.out) hb); have n2_ := Aside0.mk (Kd.R_elder' (by (with_reducible repeat (first | apply Kd.R_alloc | apply Kd.R_drewN | apply Kd.R_drew)); exact HO131.out) (Kd.R_base ho64) hb); have n3_ := Aside0.mk (Kd.R_elder' (by (with_reducible repeat (first | apply Kd.R_alloc | apply Kd.R_drewN | apply Kd.R_drew)); exact HO136.out) (Kd.R_base ho64) hb); have n4_ := Aside0.mk (Kd.R_lower (Kd.R_new' (Kd.R_new' (Kd.R_new' ho64 (Kd.R_lt (by (with_reducible repeat (first | apply Kd.R_alloc | apply Kd.R_drewN | apply Kd.R_drew)); exact HO125.out))) (Kd.R_lt (by (with_reducible repeat (first | apply Kd.R_alloc | apply Kd.R_drewN | apply Kd.R_drew)); exact HO131.out))) (Kd.R_lt (by (with_reducible repeat (first | apply Kd.R_alloc | apply Kd.R_drewN | apply Kd.R_drew)); exact HO136.out))) (below_size (by repeat (first | (with_reducible first | exact HB.out | apply below_alloc | apply pw_below_drewN | apply below_drew1) | exact HB.out)))); have n5_ := Aside0.mk (below_step (by repeat (first | (with_reducible first | exact HB.out | apply below_alloc | apply pw_below_drewN | apply below_drew1) | exact HB.out)) hb); clear HO125; clear HO128; clear HO131; clear HO136; clear HB; have HO125 := n0_; have HO128 := n1_; have HO131 := n2_; have HO136 := n3_; have HO139 := n4_; have HB := n5_; clear n0_ n1_ n2_ n3_ n4_ n5_; clear hb ho64; obtain ⟨Ao65, co65, eo65⟩ := Kd.R_slice HO136.out; subst eo65; obtain ⟨Ao66, co66, eo66⟩ := Kd.R_slice HO139.out; subst eo66) | ((with_reducible refine gate_callee (f := 11) rfl ?_); refine goesL_ (some 15) rfl rfl Try.func11 (by kernel_rfl) rfl #[.slice Ao65 t132.length co65, .slice Ao66 y137.length co66] rfl (by (try simp only [List.map_toArray, List.map_cons, List.map_nil]); first | done | rfl | (simp only [List.length_drop, List.length_take]; rfl)) ?_; (with_reducible refine (quaysideref01_SameInts.calls k _ _ t132 _ _ y137 false _ ?side1 ?side2 ?side3 ?side4 A2.out).mono ?_); (case side1 => repeat (first | exact (Kd.R_reads' HO136.out).2.2 | (with_reducible refine Kd.C_alloc ?_ _) | (with_reducible refine Kd.C_drewN ?_ _) | (with_reducible refine Kd.C_drew ?_))); (case side2 => exact (Kd.R_reads' HO136.out).2.1); (case side3 => repeat (first | exact (Kd.R_reads' HO139.out).2.2 | (with_reducible refine Kd.C_alloc ?_ _) | (with_reducible refine Kd.C_drewN ?_ _) | (with_reducible refine Kd.C_drew ?_))); (case side4 => exact (Kd.R_reads' HO139.out).2.1); rintro e w' ⟨rfl, ⟨nd, rfl⟩⟩; refine ⟨_, rfl, ?_⟩))
    go_ret
    exact ⟨by first | rfl | (simp [errW_none, errW_some] <;> rfl) | (simp [*, errW_none, errW_some] <;> rfl), by repeat (first | (with_reducible first | exact HB.out | apply below_alloc | apply pw_below_drewN | apply below_drew1) | exact HB.out)⟩

end Go.Proofs.Ythmddmafiefaaaa.Or
