/- setop.both: an iterator over two, one behind the other, up to the first error. No condition beyond those that each theorem names. -/
import Derived.Test.YtghpjlohoehdnaaSeM
namespace Go.Proofs.Ytghpjlohoehdnaa.Sep
open Go Go.RowKit Go.Shelf
attribute [local go_sem] Oper.semAt_some
set_option linter.unusedVariables false
set_option linter.unusedSimpArgs false
/-- up to the first error, that one taken in -/
def cutE : List (RV × Int) → List (RV × Int)
  | [] => []
  | y :: l => if y.2 = 0 then y :: cutE l else [y]
/-- an iterator, or nil: no rows -/
def ItN (v : Value) (ys : List (RV × Int)) (R : Nat → Prop) (w : World) : Prop := (v = .nilFunc ∧ ys = []) ∨ It v ys R w
/-- the inner loop's invariant: what the outer caller holds, and what has turned since -/
def BI (J : List (RV × Int) → (Nat → Prop) → World → Prop) (dn : List (RV × Int)) (X0 : Nat → Prop) (W0 : World) (pre : List (RV × Int)) (X : Nat → Prop) (W : World) : Prop :=
  J (dn ++ pre) X W ∧ Gr X0 X W0.heap.size W0 W ∧ ∀ y ∈ pre, y.2 = 0
theorem BI.stable {J : List (RV × Int) → (Nat → Prop) → World → Prop} {dn : List (RV × Int)} {X0 : Nat → Prop} {W0 : World} {n₀ : Nat} (hJ : Stable W0.heap.size J) (hn : W0.heap.size ≤ n₀) : Stable n₀ (BI J dn X0 W0) := by
  rintro pre X W W' ⟨h1, h2, h3⟩ ha
  have ha' : Agree X W0.heap.size W W' := ⟨ha.os, ha.tape, ha.output, ha.size, fun j hj => ha.block j (by rcases hj with h | h; exact .inl h; exact .inr (by omega))⟩
  exact ⟨hJ _ _ _ _ h1 ha', ⟨ha.os.trans h2.os, ha.tape.trans h2.tape, ha.output.trans h2.output, Nat.le_trans h2.size ha.size, fun j hj hx => (ha.block j (.inr (by omega))).trans (h2.block j hj hx), h2.sub, fun j hj => Nat.lt_of_lt_of_le (h2.lt j hj) ha.size⟩, h3⟩
theorem cutE_pre : ∀ (l p : List (RV × Int)) (x : RV × Int), (∀ y ∈ p, y.2 = 0) → p ++ [x] <+: l → p ++ [x] <+: cutE l ∧ (x.2 ≠ 0 → p ++ [x] = cutE l)
  | [], p, x, _, h => by have := h.length_le; simp at this
  | y :: l, [], x, _, h => by
    obtain ⟨t, h⟩ := h
    simp only [List.nil_append, List.cons_append, List.cons.injEq] at h
    obtain ⟨rfl, rfl⟩ := h
    unfold cutE
    by_cases hx : x.2 = 0
    · rw [if_pos hx]; exact ⟨⟨_, rfl⟩, fun h => absurd hx h⟩
    · rw [if_neg hx]; exact ⟨⟨[], rfl⟩, fun _ => rfl⟩
  | y :: l, z :: p, x, hp, h => by
    obtain ⟨t, h⟩ := h
    simp only [List.cons_append, List.cons.injEq] at h
    obtain ⟨rfl, h⟩ := h
    have hz : z.2 = 0 := hp z (by simp)
    obtain ⟨h1, h2⟩ := cutE_pre l p x (fun y hy => hp y (by simp [hy])) ⟨t, h⟩
    unfold cutE
    rw [if_pos hz]
    refine ⟨?_, fun hx => ?_⟩
    · obtain ⟨u, hu⟩ := h1
      exact ⟨u, by rw [← hu]; simp⟩
    · rw [← h2 hx]; rfl
theorem cutE_all : ∀ l : List (RV × Int), (∀ y ∈ l, y.2 = 0) → cutE l = l
  | [], _ => rfl
  | y :: l, h => by unfold cutE; rw [if_pos (h y (by simp)), cutE_all l (fun z hz => h z (by simp [hz]))]
theorem Gr.put {X X' : Nat → Prop} {N D : Nat} {W W' : World} (o : Obj) (hD : N ≤ D) (h : Gr X X' N W W') : Gr X X' N W (W'.putObj D o) :=
  ⟨h.os, h.tape, h.output, by rw [World.putObj_size]; exact h.size, fun j hj hx => (World.putObj_heap_other (by omega)).trans (h.block j hj hx), h.sub, fun j hj => by rw [World.putObj_size]; exact h.lt j hj⟩
set_option maxRecDepth 100000 in
set_option maxHeartbeats 4000000 in
theorem both1_in (n : Nat) (hn : 6 ≤ n) (l A B : Nat) (ga gb : FuncId) (la lb : Array Value) (ya yb : List (RV × Int)) (Ra Rb : Nat → Prop)
    (J Jx : List (RV × Int) → (Nat → Prop) → World → Prop) (X : Nat → Prop) (W : World) (hX : ∀ j, X j → j < W.heap.size) (hJ : Stable W.heap.size J) (hJx : Stable W.heap.size Jx)
    (hA : A < W.heap.size) (hB : B < W.heap.size) (hca : W.cell? ⟨A, 0, none⟩ = some (.func (.func ga) #[] la)) (hcb : W.cell? ⟨B, 0, none⟩ = some (.func (.func gb) #[] lb))
    (ega : ∀ args w, (callFunc ga args).run Try.prog w = .ok (.enter ga args) w) (egb : ∀ args w, (callFunc gb args).run Try.prog w = .ok (.enter gb args) w)
    (hqa : ∀ n, Seq Fence.wide n Try.prog ga la enc ya Ra W) (hqb : ∀ n, Seq Fence.wide n Try.prog gb lb enc yb Rb W) (hRa : ∀ j, Ra j → j < W.heap.size ∧ ¬ X j) (hRb : ∀ j, Rb j → j < W.heap.size ∧ ¬ X j)
    (hY : ∀ pre x X1 W1, (pre ++ [x]) <+: cutE (ya ++ yb) → J pre X1 W1 → Gr X X1 W.heap.size W W1 → YieldAt Fence.wide (n - 1) Try.prog l (enc x) W1 fun e W' =>
      ∃ X', Gr X1 X' W1.heap.size W1 W' ∧ ((e = .returned (.bool true) ∧ J (pre ++ [x]) X' W') ∨ (e = .returned (.bool false) ∧ Jx (pre ++ [x]) X' W')))
    (h0 : J [] X W) :
    CallsIn Fence.wide n Try.prog 68 #[.func (.yield l) #[] #[], .pointer (some ⟨A, 0, none⟩), .pointer (some ⟨B, 0, none⟩)] W fun e W' => (∃ v, e = .returned v) ∧
      ∃ X', Gr X X' W.heap.size W W' ∧ (J (cutE (ya ++ yb)) X' W' ∨ ∃ pre, pre <+: cutE (ya ++ yb) ∧ Jx pre X' W') := by
  have hro : Fence.wide.round = none := rfl
  have h1 : 1 ≤ n := by omega
  have hfn : ∀ (w : World) (g : FuncId) (lb : Array Value), (binOp .eql 31 (.func (.func g) #[] lb) .nilFunc).run Try.prog w = .ok (.bool false) w := fun _ _ _ => rfl
  refine callsIn_of_wp_marks Try.func68 rfl trivial ?_ hro
  simp only [Try.ntmps68, List.size_toArray, List.length_cons, List.length_nil, Nat.reduceAdd, Nat.reduceSub, Array.replicate_succ, Array.replicate_zero, List.push_toArray, List.append_toArray, List.nil_append, List.cons_append]
  gi_wp2
  refine wpIn_loop_rounds 3 ?_
  have cY := (Boxed.new W 72 (.func (.yield l) #[] #[])).alloc (.cells #[.func (.func ga) #[] la, .func (.func gb) #[] lb] 31)
  have cS := World.alloc_heap_new (W.alloc (.cells #[.func (.yield l) #[] #[]] 72)) (.cells #[.func (.func ga) #[] la, .func (.func gb) #[] lb] 31)
  have hbel : Below W.heap.size W ((W.alloc (.cells #[.func (.yield l) #[] #[]] 72)).alloc (.cells #[.func (.func ga) #[] la, .func (.func gb) #[] lb] 31)) := ((Below.refl _ W).alloc (Nat.le_refl _) _).alloc (by simp) _
  have hsz : ((W.alloc (.cells #[.func (.yield l) #[] #[]] 72)).alloc (.cells #[.func (.func ga) #[] la, .func (.func gb) #[] lb] 31)).heap.size = W.heap.size + 2 := by simp
  rw [World.size_alloc] at cS
  generalize (W.alloc (.cells #[.func (.yield l) #[] #[]] 72)).alloc (.cells #[.func (.func ga) #[] la, .func (.func gb) #[] lb] 31) = W1 at cY cS hbel hsz ⊢
  have s0 : W1.cell? ⟨W.heap.size + 1, 0, none⟩ = some (.func (.func ga) #[] la) := by simp [World.cell?, cS]
  have s1 : W1.cell? ⟨W.heap.size + 1, 1, none⟩ = some (.func (.func gb) #[] lb) := by simp [World.cell?, cS]
  have hXW : ∀ j, X j → j ≠ W.heap.size ∧ j ≠ W.heap.size + 1 := fun j hj => by have := hX j hj; omega
  have hag1 : Agree X W.heap.size W W1 := ⟨hbel.os, hbel.tape, hbel.output, hbel.size, fun j hj => hbel.block j (by rcases hj with h | h; exact hX j h; exact h)⟩
  have hgr1 : Gr X X W.heap.size W W1 := ⟨hbel.os, hbel.tape, hbel.output, hbel.size, fun j hj _ => hbel.block j hj, fun j h => .inl h, fun j h => Nat.lt_of_lt_of_le (hX j h) hbel.size⟩
  let IX : Code → List (RV × Int) → (Nat → Prop) → World → Prop := fun c pre X' W' => c = .ret ∧ Gr X X' W.heap.size W W' ∧ (J (cutE (ya ++ yb)) X' W' ∨ ∃ q, q <+: cutE (ya ++ yb) ∧ Jx q X' W')
  have hIX : ∀ (n₀ : Nat), W.heap.size ≤ n₀ → ∀ c, Stable n₀ (IX c) := fun n₀ hn c pre X' A B ⟨h1, h2, h3⟩ ha => by
    have ha' : Agree X' W.heap.size A B := ⟨ha.os, ha.tape, ha.output, ha.size, fun j hj => ha.block j (by rcases hj with h | h; exact .inl h; exact .inr (by omega))⟩
    refine ⟨h1, ⟨ha.os.trans h2.os, ha.tape.trans h2.tape, ha.output.trans h2.output, Nat.le_trans h2.size ha.size, fun j hj hx => (ha.block j (.inr (by omega))).trans (h2.block j hj hx), h2.sub, fun j hj => Nat.lt_of_lt_of_le (h2.lt j hj) ha.size⟩, ?_⟩
    rcases h3 with h | ⟨q, hq, h⟩
    · exact .inl (hJ _ _ _ _ h ha')
    · exact .inr ⟨q, hq, hJx _ _ _ _ h ha'⟩
  rw [roundsIn_succ]
  gi_wp2
  refine wpIn_rangeFunc_sep hro h1 (gf := ga) (lb := la) rfl trivial ega (hqa (n - 1)) (fun _ => rfl) X hbel.size (fun j hj => ⟨(hRa j hj).1, (hRa j hj).2, hbel.block j (hRa j hj).1⟩) (fun j hj => Nat.lt_of_lt_of_le (hX j hj) hbel.size)
    (BI J [] X W) IX (BI.stable hJ hbel.size) (hIX _ hbel.size) ⟨hJ _ _ _ _ h0 hag1, hgr1, (fun _ h => by cases h)⟩ ?round ?done ?stop
  case round =>
    rintro lab pre ⟨⟨ra, rn, rc⟩, e⟩ X1 Wa hl hpre ⟨b1, b2, b3⟩ hg hXl hlt
    gi_wp2
    refine ⟨fun _ _ _ => trivial, Nat.le_refl _, trivial, trivial, trivial, ?_⟩
    intro W3 z1 z2 z3 z4 z5
    have hag3 : Agree X1 W.heap.size Wa W3 := ⟨z2, z3, z4, by omega, fun j hj => z5 j (by rintro rfl; rcases hj with h | h; exact hXl h; omega)⟩
    have hJ3 := hJ _ _ _ _ b1 hag3
    have hg3 : Gr X X1 W.heap.size W W3 := ⟨z2.trans b2.os, z3.trans b2.tape, z4.trans b2.output, by rw [z1]; exact b2.size, fun j hj hx => (z5 j (by omega)).trans (b2.block j hj hx), b2.sub, fun j hj => by rw [z1]; exact b2.lt j hj⟩
    have cY3 : W3.cell? ⟨W.heap.size, 0, none⟩ = some (.func (.yield l) #[] #[]) := (cell_of_block ((z5 _ (by omega)).trans (hg.block _ (by omega) (fun h => (hXW _ h).1 rfl))) 0).trans (Boxed.cell cY)
    have hpre2 : ([] ++ pre) ++ [((⟨ra, rn, rc⟩ : RV), e)] <+: ya ++ yb := List.IsPrefix.trans hpre (List.prefix_append _ _)
    obtain ⟨p1, p2⟩ := cutE_pre _ _ _ b3 hpre2
    obtain ⟨fn, tmps, assign, body, hy, hR⟩ := yield_wide (m := n - 1 - 1 - 1) (hY _ _ X1 W3 p1 hJ3 hg3)
    dsimp only [enc] at hy
    have hR' : RoundIn (Fence.wide.inRound lab) (n - 1 - 1 - 1) Try.prog l fn tmps assign body W3 _ := hR
    have hp0 : e ≠ 0 → pre ++ [((⟨ra, rn, rc⟩ : RV), e)] = cutE (ya ++ yb) := p2
    clear p2
    have hz3 : W3.heap.size = Wa.heap.size := z1
    by_cases he : e = 0
    · subst he
      clear hp0
      gi_wp2
      refine ⟨(fun h => by cases h), ?_⟩
      refine hR'.mono ?_
      rintro e4 W4 ⟨X4, g4, (⟨rfl, j4⟩ | ⟨rfl, j4⟩)⟩
      · gi_wp2
        have g5 := hg3.trans g4 hg3.size
        rw [hz3] at g4
        refine ⟨X4, g4, ?_, g5, ?_⟩
        · exact j4
        · intro y hy
          rcases List.mem_append.1 hy with h | h
          · exact b3 y h
          · rw [List.mem_singleton.1 h]
      · gi_wp2
        have g5 := hg3.trans g4 hg3.size
        rw [hz3] at g4
        exact ⟨X4, g4, rfl, g5, .inr ⟨_, p1, j4⟩⟩
    · have hne : (e != 0) = true := by simpa using he
      have hE := hp0 he
      clear hp0
      obtain ⟨q, hq⟩ : ∃ q, q = pre ++ [((⟨ra, rn, rc⟩ : RV), e)] := ⟨_, rfl⟩
      rw [← hq] at hE p1
      have hR2 : RoundIn (Fence.wide.inRound lab) (n - 1 - 1 - 1) Try.prog l fn tmps assign body W3 fun e W' => ∃ X', Gr X1 X' W3.heap.size W3 W' ∧ ((e = .returned (.bool true) ∧ J q X' W') ∨ (e = .returned (.bool false) ∧ Jx q X' W')) := by rw [hq]; exact hR'
      clear hq hR hR'
      rw [hE] at p1 hR2
      have hR' := hR2
      gi_wp2
      refine ⟨(fun h => by cases h), ?_⟩
      refine hR'.mono ?_
      rintro e4 W4 ⟨X4, g4, (⟨rfl, j4⟩ | ⟨rfl, j4⟩)⟩
      · gi_wp2
        have g5 := hg3.trans g4 hg3.size
        rw [hz3] at g4
        exact ⟨X4, g4, rfl, g5, .inl j4⟩
      · gi_wp2
        have g5 := hg3.trans g4 hg3.size
        rw [hz3] at g4
        exact ⟨X4, g4, rfl, g5, .inr ⟨_, p1, j4⟩⟩
  case done =>
    rintro Xd Wd ⟨b1, b2, b3⟩ hg hn hK
    have hxd : ∀ j, Xd j → X j ∨ W1.heap.size ≤ j := hg.sub
    have hx0 : ¬ Xd W.heap.size := fun h => by rcases hxd _ h with h | h; exact (hXW _ h).1 rfl; omega
    have hx1 : ¬ Xd (W.heap.size + 1) := fun h => by rcases hxd _ h with h | h; exact (hXW _ h).2 rfl; omega
    have cYd : Wd.cell? ⟨W.heap.size, 0, none⟩ = some (.func (.yield l) #[] #[]) := (cell_of_block (hg.block _ (by omega) (fun h => (hXW _ h).1 rfl)) 0).trans (Boxed.cell cY)
    have bS := hg.block (W.heap.size + 1) (by omega) (fun h => (hXW _ h).2 rfl)
    have t0 := (cell_of_block bS 0).trans s0
    have t1 := (cell_of_block bS 1).trans s1
    have hdw := hg.size
    have hb1 : J (ya ++ []) Xd Wd := by rw [List.append_nil]; exact b1
    gi_wp2
    rw [roundsIn_succ]
    gi_wp2
    refine wpIn_rangeFunc_sep hro h1 (gf := gb) (lb := lb) rfl trivial egb (hqb (n - 1)) (fun _ => rfl) Xd b2.size (fun j hj => ⟨(hRb j hj).1, (fun h => by have := (hRb j hj).1; rcases hxd j h with h | h; exact (hRb j hj).2 h; omega), b2.block j (hRb j hj).1 (hRb j hj).2⟩) b2.lt
      (BI J ya X W) IX (BI.stable hJ b2.size) (hIX _ b2.size) ⟨hb1, b2, (fun _ h => by cases h)⟩ ?round2 ?done2 ?stop2
    case round2 =>
      rintro lab pre ⟨⟨ra, rn, rc⟩, e⟩ X1 Wa hl hpre ⟨d1, d2, d3⟩ hg2 hXl hlt
      gi_wp2
      refine ⟨fun _ _ _ => trivial, Nat.le_refl _, trivial, trivial, trivial, ?_⟩
      intro W3 z1 z2 z3 z4 z5
      have hag3 : Agree X1 W.heap.size Wa W3 := ⟨z2, z3, z4, by omega, fun j hj => z5 j (by rintro rfl; rcases hj with h | h; exact hXl h; omega)⟩
      have hJ3 := hJ _ _ _ _ d1 hag3
      have hg3 : Gr X X1 W.heap.size W W3 := ⟨z2.trans d2.os, z3.trans d2.tape, z4.trans d2.output, by rw [z1]; exact d2.size, fun j hj hx => (z5 j (by omega)).trans (d2.block j hj hx), d2.sub, fun j hj => by rw [z1]; exact d2.lt j hj⟩
      have cY3 : W3.cell? ⟨W.heap.size, 0, none⟩ = some (.func (.yield l) #[] #[]) := (cell_of_block ((z5 _ (by omega)).trans (hg2.block _ (by omega) hx0)) 0).trans cYd
      have hpre2 : (ya ++ pre) ++ [((⟨ra, rn, rc⟩ : RV), e)] <+: ya ++ yb := by rw [List.append_assoc]; exact (List.prefix_append_right_inj ya).2 hpre
      have dz : ∀ y ∈ ya ++ pre, y.2 = 0 := fun y hy => (List.mem_append.1 hy).elim (b3 y) (d3 y)
      obtain ⟨p1, p2⟩ := cutE_pre _ _ _ dz hpre2
      obtain ⟨fn, tmps, assign, body, hy, hR⟩ := yield_wide (m := n - 1 - 1 - 1) (hY _ _ X1 W3 p1 hJ3 hg3)
      dsimp only [enc] at hy
      have hR' : RoundIn (Fence.wide.inRound lab) (n - 1 - 1 - 1) Try.prog l fn tmps assign body W3 _ := hR
      have hp0 : e ≠ 0 → (ya ++ pre) ++ [((⟨ra, rn, rc⟩ : RV), e)] = cutE (ya ++ yb) := p2
      clear p2
      have hz3 : W3.heap.size = Wa.heap.size := z1
      by_cases he : e = 0
      · subst he
        clear hp0
        gi_wp2
        refine ⟨(fun h => by cases h), ?_⟩
        refine hR'.mono ?_
        rintro e4 W4 ⟨X4, g4, (⟨rfl, j4⟩ | ⟨rfl, j4⟩)⟩
        · gi_wp2
          have g5 := hg3.trans g4 hg3.size
          rw [hz3] at g4
          refine ⟨X4, g4, ?_, g5, ?_⟩
          · rw [← List.append_assoc]; exact j4
          · intro y hy
            rcases List.mem_append.1 hy with h | h
            · exact d3 y h
            · rw [List.mem_singleton.1 h]
        · gi_wp2
          have g5 := hg3.trans g4 hg3.size
          rw [hz3] at g4
          exact ⟨X4, g4, rfl, g5, .inr ⟨_, p1, j4⟩⟩
      · have hne : (e != 0) = true := by simpa using he
        have hE := hp0 he
        clear hp0
        obtain ⟨q, hq⟩ : ∃ q, q = (ya ++ pre) ++ [((⟨ra, rn, rc⟩ : RV), e)] := ⟨_, rfl⟩
        rw [← hq] at hE p1
        have hR2 : RoundIn (Fence.wide.inRound lab) (n - 1 - 1 - 1) Try.prog l fn tmps assign body W3 fun e W' => ∃ X', Gr X1 X' W3.heap.size W3 W' ∧ ((e = .returned (.bool true) ∧ J q X' W') ∨ (e = .returned (.bool false) ∧ Jx q X' W')) := by rw [hq]; exact hR'
        clear hq hR hR'
        rw [hE] at p1 hR2
        have hR' := hR2
        gi_wp2
        refine ⟨(fun h => by cases h), ?_⟩
        refine hR'.mono ?_
        rintro e4 W4 ⟨X4, g4, (⟨rfl, j4⟩ | ⟨rfl, j4⟩)⟩
        · gi_wp2
          have g5 := hg3.trans g4 hg3.size
          rw [hz3] at g4
          exact ⟨X4, g4, rfl, g5, .inl j4⟩
        · gi_wp2
          have g5 := hg3.trans g4 hg3.size
          rw [hz3] at g4
          exact ⟨X4, g4, rfl, g5, .inr ⟨_, p1, j4⟩⟩
    case done2 =>
      rintro Xe We ⟨c1, c2, c3⟩ hg2 hn2 hK2
      have hlt1 := (Array.getElem?_eq_some_iff.1 hK).1
      have hw1 := hgr1.size
      have hK1 : We.heap[W1.heap.size]? = some (.deferred (some [])) := (hg2.block _ hlt1 hn).trans hK
      have hne1 : ¬ Xe W1.heap.size := fun h => by rcases hg2.sub _ h with h | h; exact hn h; omega
      have hall : cutE (ya ++ yb) = ya ++ yb := cutE_all _ (fun y hy => (List.mem_append.1 hy).elim (b3 y) (c3 y))
      have c1' : J (cutE (ya ++ yb)) Xe We := by rw [hall]; exact c1
      have j2 := hJ _ _ _ _ (hJ _ _ _ _ c1' (agree_put We (.deferred none) hn2 (Nat.le_trans hw1 (Nat.le_of_lt hlt1)))) (agree_put _ (.deferred none) hne1 hw1)
      clear c1 hall
      gi_wp2
      rw [roundsIn_succ]
      gi_wp2
      refine ⟨by simp, .inl ⟨_, _, rfl, run_takeDeferred hK2, ?_⟩⟩
      refine ⟨by simp, .inl ⟨_, _, rfl, run_takeDeferred ((World.putObj_heap_other (Nat.ne_of_lt hlt1)).trans hK1), ?_⟩⟩
      exact ⟨_, results_none rfl _ _ _, ⟨_, rfl⟩, Xe, (c2.put _ (Nat.le_trans hw1 (Nat.le_of_lt hlt1))).put _ hw1, .inl j2⟩
    case stop2 =>
      rintro c pre Xe We _ ⟨rfl, c2, c3⟩ hg2 hn2 hK2
      have hlt1 := (Array.getElem?_eq_some_iff.1 hK).1
      have hw1 := hgr1.size
      have hK1 : We.heap[W1.heap.size]? = some (.deferred (some [])) := (hg2.block _ hlt1 hn).trans hK
      have hne1 : ¬ Xe W1.heap.size := fun h => by rcases hg2.sub _ h with h | h; exact hn h; omega
      have hw2 := Nat.le_trans hw1 (Nat.le_of_lt hlt1)
      gi_wp2
      refine ⟨by simp, .inl ⟨_, _, rfl, run_takeDeferred hK2, ?_⟩⟩
      refine ⟨by simp, .inl ⟨_, _, rfl, run_takeDeferred ((World.putObj_heap_other (Nat.ne_of_lt hlt1)).trans hK1), ?_⟩⟩
      refine ⟨_, results_none rfl _ _ _, ⟨_, rfl⟩, Xe, (c2.put _ hw2).put _ hw1, ?_⟩
      rcases c3 with h | ⟨q, hq, h⟩
      · exact .inl (hJ _ _ _ _ (hJ _ _ _ _ h (agree_put We (.deferred none) hn2 hw2)) (agree_put _ (.deferred none) hne1 hw1))
      · exact .inr ⟨q, hq, hJx _ _ _ _ (hJx _ _ _ _ h (agree_put We (.deferred none) hn2 hw2)) (agree_put _ (.deferred none) hne1 hw1)⟩
  case stop =>
    rintro c pre Xd Wd _ ⟨rfl, c2, c3⟩ hg hn hK
    have hw1 := hgr1.size
    gi_wp2
    refine ⟨by simp, .inl ⟨_, _, rfl, run_takeDeferred hK, ?_⟩⟩
    refine ⟨_, results_none rfl _ _ _, ⟨_, rfl⟩, Xd, c2.put _ hw1, ?_⟩
    rcases c3 with h | ⟨q, hq, h⟩
    · exact .inl (hJ _ _ _ _ h (agree_put Wd (.deferred none) hn hw1))
    · exact .inr ⟨q, hq, hJx _ _ _ _ h (agree_put Wd (.deferred none) hn hw1)⟩
end Go.Proofs.Ytghpjlohoehdnaa.Sep
