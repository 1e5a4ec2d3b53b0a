/- scan.Collect: all rows of an iterator, as a list of clones; or its error. No condition beyond those that each theorem names. -/
import Derived.Test.YtghpjlohoehdnaaSeC
import Derived.RangeFuncNested
import Derived.Maps.OwnIn
import Derived.RangeFuncBound
namespace Go.Proofs.Ytghpjlohoehdnaa.Sep
open Go Go.RowKit Go.Shelf
attribute [local go_sem] Oper.semAt_some
set_option linter.unusedVariables false
set_option linter.unusedSimpArgs false
/-- P holds of the two lists' elements, one by one -/
def All2 {α β : Type} (P : α → β → Prop) : List α → List β → Prop
  | [], [] => True
  | a :: l, b :: m => P a b ∧ All2 P l m
  | _, _ => False
theorem All2.imp {α β : Type} {P Q : α → β → Prop} (h : ∀ a b, P a b → Q a b) : ∀ {l : List α} {m : List β}, All2 P l m → All2 Q l m
  | [], [], _ => trivial
  | a :: l, b :: m, ⟨h1, h2⟩ => ⟨h a b h1, h2.imp h⟩
theorem All2.len {α β : Type} {P : α → β → Prop} : ∀ {l : List α} {m : List β}, All2 P l m → l.length = m.length
  | [], [], _ => rfl
  | a :: l, b :: m, ⟨_, h2⟩ => by simp [h2.len]
theorem All2.snoc {α β : Type} {P : α → β → Prop} {a : α} {b : β} (h : P a b) : ∀ {l : List α} {m : List β}, All2 P l m → All2 P (l ++ [a]) (m ++ [b])
  | [], [], _ => ⟨h, trivial⟩
  | c :: l, d :: m, ⟨h1, h2⟩ => ⟨h1, h2.snoc h⟩
theorem All2.get {α β : Type} {P : α → β → Prop} : ∀ {l : List α} {m : List β}, All2 P l m → ∀ (i : Nat) a b, l[i]? = some a → m[i]? = some b → P a b
  | [], [], _, i, a, b, h1, _ => by simp at h1
  | c :: l, d :: m, ⟨h1, h2⟩, 0, a, b, e1, e2 => by simp at e1 e2; subst e1; subst e2; exact h1
  | c :: l, d :: m, ⟨h1, h2⟩, i + 1, a, b, e1, e2 => h2.get i a b (by simpa using e1) (by simpa using e2)
/-- the value v is an iterator over ys; it reads the blocks R -/
structure It (v : Value) (ys : List (RV × Int)) (R : Nat → Prop) (w : World) : Prop where
  ex : ∃ g lb, v = .func (.func g) #[] lb ∧ (∀ args w, (callFunc g args).run Try.prog w = .ok (.enter g args) w) ∧ ∀ n, Seq Fence.wide n Try.prog g lb enc ys R w
  lt : ∀ j, R j → j < w.heap.size
theorem It.later {v : Value} {ys : List (RV × Int)} {R : Nat → Prop} {w W : World} (h : It v ys R w) (hs : w.heap.size ≤ W.heap.size) (hR : ∀ j, R j → W.heap[j]? = w.heap[j]?) : It v ys R W := by
  obtain ⟨g, lb, rfl, eg, hq⟩ := h.ex
  refine ⟨⟨g, lb, rfl, eg, fun n l J Jx X W2 hs2 hR2 hX hJ hJx hY h0 => hq n l J Jx X W2 (Nat.le_trans hs hs2) (fun j hj => ?_) hX hJ hJx hY h0⟩, fun j hj => Nat.lt_of_lt_of_le (h.lt j hj) hs⟩
  obtain ⟨a, b, c⟩ := hR2 j hj
  exact ⟨h.lt j hj, b, c.trans (hR j hj)⟩
theorem infoR : (Try.prog.info? 48).map (fun i => (i.zero, i.size, i.bytes)) = some (some (.slice none 0 0), 1, 24) := by kernel_rfl
/-- what Collect's own blocks hold when pre has come -/
structure CI (N : Nat) (rows : List (List V3)) (pre : List (RV × Int)) (X : Nat → Prop) (W : World) : Prop where
  zero : ∀ y ∈ pre, y.2 = 0
  b0 : Boxed W N 22 (.slice none 0 0)
  b1 : Boxed W (N + 1) 25 (.int .i64 0)
  out : ∃ v rs, Boxed W (N + 2) 22 v ∧ W.ownsRow N 48 1 v pre.length (rs.map RV.v) ∧ (∀ j, v.ownBlock = some j → X j) ∧ All2 (fun r row => Cont W r row ∧ r.n ≤ 1000 ∧ ∀ j, r.blk j → X j ∧ N + 2 < j ∧ v.ownBlock ≠ some j) rs (rows.take pre.length)
  x0 : X N
  x1 : X (N + 1)
  x2 : X (N + 2)
  lo : ∀ j, X j → N ≤ j
theorem boxed_same {W W' : World} {B : Nat} {t : TypeId} {v : Value} (hb : W'.heap[B]? = W.heap[B]?) (h : Boxed W B t v) : Boxed W' B t v := hb.trans h
theorem ownsRow_same {W W' : World} {N : Nat} {e : TypeId} {size : Nat} {v : Value} {k : Nat} {xs : List Value} (hb : ∀ j, v.ownBlock = some j → W'.heap[j]? = W.heap[j]?) (h : W.ownsRow N e size v k xs) : W'.ownsRow N e size v k xs := by
  refine ⟨h.1, ?_⟩
  rcases h.2 with h | ⟨g, cap, cur, rfl, h1, h2, h3⟩
  · exact .inl h
  · exact .inr ⟨g, cap, cur, rfl, h1, (hb g rfl).trans h2, h3⟩
theorem CI.stable (N n₀ : Nat) (rows : List (List V3)) : Stable n₀ (CI N rows) := by
  intro pre X W W' h ha
  have hb : ∀ j, X j → W'.heap[j]? = W.heap[j]? := fun j hj => ha.block j (.inl hj)
  obtain ⟨v, rs, o1, o2, o3, o4⟩ := h.out
  refine ⟨h.zero, boxed_same (hb _ h.x0) h.b0, boxed_same (hb _ h.x1) h.b1, ⟨v, rs, boxed_same (hb _ h.x2) o1, ownsRow_same (fun j hj => hb j (o3 j hj)) o2, o3, ?_⟩, h.x0, h.x1, h.x2, h.lo⟩
  exact o4.imp fun r row hr => ⟨hr.1.same ha.size (fun j hj => hb j (hr.2.2 j hj).1), hr.2⟩
theorem size_setCell (W : World) (a : Addr) (v : Value) : (W.setCell a v).heap.size = W.heap.size := by simp [World.setCell]
theorem CI.push {N M : Nat} {rows : List (List V3)} {pre : List (RV × Int)} {X1 : Nat → Prop} {W3 W4 w5 : World} {v v' : Value} {rs : List RV} {r r' : RV} {row : List V3} {tmp : Obj}
    (hI : CI N rows pre X1 W3) (o1 : Boxed W3 (N + 2) 22 v) (o2 : W3.ownsRow N 48 1 v pre.length (rs.map RV.v)) (o3 : ∀ j, v.ownBlock = some j → X1 j)
    (o4 : All2 (fun r row => Cont W3 r row ∧ r.n ≤ 1000 ∧ ∀ j, r.blk j → X1 j ∧ N + 2 < j ∧ v.ownBlock ≠ some j) rs (rows.take pre.length)) (hM : M ≤ W3.heap.size) (hX : ∀ j, X1 j → j < M)
    (hb4 : Below W3.heap.size W3 W4) (hC : Cont W4 r' row) (hn : r'.n ≤ 1000) (hblk : ∀ j, r'.blk j → W3.heap.size ≤ j) (hown : w5.ownsRow N 48 1 v' (pre.length + 1) (rs.map RV.v ++ [r'.v]))
    (hgrow : (W4.alloc tmp).grownBy w5 v.ownBlock) (hob : v'.ownBlock = v.ownBlock ∨ v'.ownBlock = some (W4.alloc tmp).heap.size) (hrow : rows[pre.length]? = some row) :
    Gr X1 (fun j => X1 j ∨ (M ≤ j ∧ j < w5.heap.size)) M W3 (w5.setCell ⟨N + 2, 0, none⟩ v') ∧ CI N rows (pre ++ [(r, 0)]) (fun j => X1 j ∨ (M ≤ j ∧ j < w5.heap.size)) (w5.setCell ⟨N + 2, 0, none⟩ v') := by
  have hN2 : N + 2 < M := hX _ hI.x2
  have hs4 := hb4.size
  have hs5 := hgrow.size
  rw [World.size_alloc] at hs5
  have b5 : ∀ j, j < W3.heap.size → v.ownBlock ≠ some j → w5.heap[j]? = W3.heap[j]? := fun j hj hv =>
    (hgrow.block j (by rw [World.size_alloc]; omega) (fun e => hv e.symm)).trans ((Below.heap_alloc W4 tmp j (by omega)).trans (hb4.block j hj))
  have b6 : ∀ j, j ≠ N + 2 → (w5.setCell ⟨N + 2, 0, none⟩ v').heap[j]? = w5.heap[j]? := fun j hj => Below.heap_setCell _ _ _ j hj
  have nb : ∀ {B : Nat} {t : TypeId} {u : Value}, t ≠ 48 → Boxed W3 B t u → v.ownBlock ≠ some B := fun ht hb e => (hb.not_row ht o2) e.symm
  have hv5 : Boxed w5 (N + 2) 22 v := (b5 _ (by omega) (nb (by decide) o1)).trans o1
  have hv6 : Boxed (w5.setCell ⟨N + 2, 0, none⟩ v') (N + 2) 22 v' := hv5.set v'
  have ho6 : (w5.setCell ⟨N + 2, 0, none⟩ v').ownsRow N 48 1 v' (pre.length + 1) (rs.map RV.v ++ [r'.v]) := ownsRow_same (fun j hj => b6 j (by rintro rfl; exact (hv5.not_row (by decide) hown) hj.symm)) hown
  have hz : (w5.setCell ⟨N + 2, 0, none⟩ v').heap.size = w5.heap.size := size_setCell _ _ _
  have hos : (w5.setCell ⟨N + 2, 0, none⟩ v').os = w5.os ∧ (w5.setCell ⟨N + 2, 0, none⟩ v').tape = w5.tape ∧ (w5.setCell ⟨N + 2, 0, none⟩ v').output = w5.output := ⟨rfl, rfl, rfl⟩
  refine ⟨⟨hos.1.trans (hgrow.os.trans hb4.os), hos.2.1.trans (hgrow.tape.trans hb4.tape), hos.2.2.trans (hgrow.output.trans hb4.output), by rw [hz]; omega, ?_, ?_, ?_⟩, ?_⟩
  · intro j hj hx
    rw [b6 j (fun e => hx (e ▸ hI.x2)), b5 j (by omega) (fun e => hx (o3 j e))]
  · rintro j (h | h)
    · exact .inl h
    · exact .inr h.1
  · rintro j (h | h)
    · rw [hz]; have := hX j h; omega
    · rw [hz]; exact h.2
  · refine ⟨?_, ?_, ?_, ⟨v', rs ++ [r'], hv6, ?_, ?_, ?_⟩, .inl hI.x0, .inl hI.x1, .inl hI.x2, ?_⟩
    · intro y hy
      rcases List.mem_append.1 hy with h | h
      · exact hI.zero y h
      · rw [List.mem_singleton.1 h]
    · exact (b6 N (by omega)).trans ((b5 N (by omega) (nb (by decide) hI.b0)).trans hI.b0)
    · exact (b6 (N + 1) (by omega)).trans ((b5 (N + 1) (by omega) (nb (by decide) hI.b1)).trans hI.b1)
    · rw [List.length_append, List.length_singleton, List.map_append, List.map_singleton]; exact ho6
    · intro j hj
      have hlt : j < w5.heap.size := by
        rcases hown.2 with ⟨rfl, h0⟩ | ⟨g, cap, cur, rfl, h1, h2, _⟩
        · cases hj
        · injection hj with hj; rw [← hj]; exact (Array.getElem?_eq_some_iff.1 h2).1
      rcases hob with h | h
      · exact .inl (o3 j (h ▸ hj))
      · rw [h] at hj; injection hj with hj
        rw [World.size_alloc] at hj
        exact .inr ⟨by omega, hlt⟩
    · rw [List.length_append, List.length_singleton, List.take_add_one, hrow]
      have same : ∀ (q : RV) (qr : List V3), Cont W4 q qr → (∀ j, q.blk j → some j ≠ v.ownBlock ∧ j ≠ N + 2 ∧ j < W4.heap.size) → Cont (w5.setCell ⟨N + 2, 0, none⟩ v') q qr := fun q qr hq hj =>
        hq.same (by rw [hz]; omega) (fun j hb => (b6 j (hj j hb).2.1).trans ((hgrow.block j (by rw [World.size_alloc]; have := (hj j hb).2.2; omega) (hj j hb).1).trans (Below.heap_alloc W4 tmp j (hj j hb).2.2)))
      have blt : ∀ (q : RV) (qr : List V3), Cont W4 q qr → ∀ j, q.blk j → j < W4.heap.size := fun q qr hq j hj => hq.blt j hj
      have vlt : ∀ j, v.ownBlock = some j → j < M := fun j hj => hX j (o3 j hj)
      have old : ∀ (q : RV) (qr : List V3), (Cont W3 q qr ∧ q.n ≤ 1000 ∧ ∀ j, q.blk j → X1 j ∧ N + 2 < j ∧ v.ownBlock ≠ some j) →
          (Cont (w5.setCell ⟨N + 2, 0, none⟩ v') q qr ∧ q.n ≤ 1000 ∧ ∀ j, q.blk j → (X1 j ∨ (M ≤ j ∧ j < w5.heap.size)) ∧ N + 2 < j ∧ v'.ownBlock ≠ some j) := fun q qr ⟨h1, h2, h3⟩ => by
        have h4 : Cont W4 q qr := h1.same hs4 (fun j hj => hb4.block j (by have := hX j (h3 j hj).1; omega))
        refine ⟨same q qr h4 (fun j hj => ⟨fun e => (h3 j hj).2.2 e.symm, by have := (h3 j hj).2.1; omega, blt q qr h4 j hj⟩), h2, fun j hj => ⟨.inl (h3 j hj).1, (h3 j hj).2.1, fun e => ?_⟩⟩
        rcases hob with h | h
        · exact (h3 j hj).2.2 (h ▸ e)
        · rw [h] at e; injection e with e
          rw [World.size_alloc] at e
          have := blt q qr h4 j hj; omega
      refine All2.snoc ⟨same r' row hC (fun j hj => ⟨fun e => ?_, by have := hblk j hj; omega, blt r' row hC j hj⟩), hn, fun j hj => ⟨.inr ⟨by have := hblk j hj; omega, by have := blt r' row hC j hj; omega⟩, by have := hblk j hj; omega, fun e => ?_⟩⟩ (o4.imp old)
      · have := vlt j e.symm; have := hblk j hj; omega
      · rcases hob with h | h
        · have := vlt j (h ▸ e); have := hblk j hj; omega
        · rw [h] at e; injection e with e
          rw [World.size_alloc] at e
          have := blt r' row hC j hj; omega
    · rintro j (h | h)
      · exact hI.lo j h
      · omega
theorem clone_push {N M : Nat} {rows : List (List V3)} {pre : List (RV × Int)} {X1 : Nat → Prop} {W : World} {v : Value} {rs : List RV} {ra : Option Addr} {rn rc : Nat} {row : List V3}
    (hI : CI N rows pre X1 W) (o1 : Boxed W (N + 2) 22 v) (o2 : W.ownsRow N 48 1 v pre.length (rs.map RV.v)) (o3 : ∀ j, v.ownBlock = some j → X1 j)
    (o4 : All2 (fun r row => Cont W r row ∧ r.n ≤ 1000 ∧ ∀ j, r.blk j → X1 j ∧ N + 2 < j ∧ v.ownBlock ≠ some j) rs (rows.take pre.length)) (hM : M ≤ W.heap.size) (hX : ∀ j, X1 j → j < M)
    (hC : Cont W ⟨ra, rn, rc⟩ row) (hrn : rn ≤ 1000) (hrl : row.length ≤ 1000) (hpl : pre.length < 100000) (hrow : rows[pre.length]? = some row) :
    Calls Try.prog 42 #[.slice ra rn rc] W fun e w4 => ∃ qa qn qc g' cap' w5, e = .returned (.slice qa qn qc) ∧ Boxed w4 (N + 2) 22 v ∧
      (Builtin.append_ #[22, 22] 22 #[v, .slice (some ⟨w4.heap.size, 0, none⟩) 1 1]).run Try.prog (w4.alloc (.cells #[.slice qa qn qc] 48)) = .ok (.slice (some ⟨g', 0, none⟩) (pre.length + 1) cap') w5 ∧ Boxed w5 (N + 2) 22 v ∧
      Gr X1 (fun j => X1 j ∨ (M ≤ j ∧ j < w5.heap.size)) M W (w5.setCell ⟨N + 2, 0, none⟩ (.slice (some ⟨g', 0, none⟩) (pre.length + 1) cap')) ∧
      CI N rows (pre ++ [(⟨ra, rn, rc⟩, 0)]) (fun j => X1 j ∨ (M ≤ j ∧ j < w5.heap.size)) (w5.setCell ⟨N + 2, 0, none⟩ (.slice (some ⟨g', 0, none⟩) (pre.length + 1) cap')) := by
  obtain ⟨i0, hi, hz0, hz1, hz2⟩ := info_parts infoR
  refine (clone_ok ⟨ra, rn, rc⟩ row W hC (by dsimp only; omega)).mono ?_
  rintro e4 w4 ⟨⟨qa, qn, qc⟩, rfl, hC5, hblk4, hn4, hb4⟩
  have hlt4 : ∀ j, X1 j → j < W.heap.size := fun j hj => Nat.lt_of_lt_of_le (hX j hj) hM
  have o15 : Boxed w4 (N + 2) 22 v := (hb4.block _ o1.lt).trans o1
  have o25 : w4.ownsRow N 48 1 v pre.length (rs.map RV.v) := ownsRow_same (fun j hj => hb4.block j (hlt4 j (o3 j hj))) o2
  have hN := o1.lt
  have hs4 := hb4.size
  obtain ⟨v', w5, hrun, hown', hgrow, _, hob⟩ := run_append_own_at (P := Try.prog) (w := w4.alloc (.cells #[.slice qa qn qc] 48)) N 22 22 48 i0 (.slice none 0 0) 1 24 Try.underlying22 hi hz0 hz1 hz2 rfl (by decide) v pre.length (rs.map RV.v) (o25.alloc _) ⟨w4.heap.size, 0, none⟩ 1 1 [.slice qa qn qc] rfl (cell_one_new _ _ _) (by simp [Value.oneCell']) (by unfold maxLen; omega) (by omega) (by simp; omega)
  have hn5 : qn ≤ 1000 := by have h9 : qn = row.length := hn4; omega
  have hpush := CI.push (r := ⟨ra, rn, rc⟩) (r' := ⟨qa, qn, qc⟩) hI o1 o2 o3 o4 hM hX hb4 hC5 hn5 hblk4 hown' hgrow hob hrow
  obtain ⟨g', cap', rfl⟩ := ownsRow_succ hown'
  exact ⟨qa, qn, qc, g', cap', w5, rfl, o15, hrun, (o15.alloc _).kept hgrow (o15.not_row (by decide) o25), hpush.1, hpush.2⟩
theorem if_intro {c p q : Prop} [Decidable c] (hc : c) (hp : p) : if c then p else q := by rw [if_pos hc]; exact hp
/-- an append in a region, by its run -/
theorem app_step {F : Fence} {n : Nat} {o : Oper} {a : Act} {w w' : World} {v' : Value} {K : Act → World → Prop} {Q : Exit → Act → World → Prop} {s x : Operand} {t : TypeId} (hg : o.guard = none)
    (hop : o.op = .call { callee := .builtin .append, args := #[s, x], argTypes := #[t, t] }) (hrun : (Builtin.append_ #[t, t] o.type #[a.eval s, a.eval x]).run Try.prog w = .ok v' w') (h : K (a.put o.dst v') w') : Oper.wpIn F n Try.prog o a w K Q := by
  unfold Oper.wpIn
  refine ⟨by simp [Oper.about, hop, resolve, Target.leads, Sem.run_pure], ?_⟩
  rw [Oper.semAt_plain F _ _ (by rw [hop]; intro c hc'; cases hc')]
  simp [execOp, hop, resolve, invoke, builtin, hrun, Result.andThen]
  exact h
theorem res19 (N : Nat) (W : World) (a : Option Addr) (k c : Nat) (e : Int) (tmps : Array Value) (h2 : tmps.getD 2 undef = .pointer (some ⟨N, 0, none⟩)) (h3 : tmps.getD 3 undef = .pointer (some ⟨N + 1, 0, none⟩))
    (b0 : Boxed W N 22 (.slice a k c)) (b1 : Boxed W (N + 1) 25 (.int .i64 e)) : (results Try.f19 tmps).run Try.prog W = .ok (.tuple #[.slice a k c, .int .i64 e]) W := by
  have hr : Try.f19.results = #[.cell 2 22, .cell 3 25] := rfl
  have c0 := b0.cell
  have c1 := b1.cell
  have f0 := b0.frozen
  have f1 := b1.frozen
  simp only [results, hr]
  rw [Array.getD_eq_getD_getElem?] at h2 h3
  simp [Sem.run_bind, Result.andThen, h2, h3]
  go_simp
theorem ret19 {n D : Nat} {Φ : Ending → World → Prop} {tmps : Array Value} {W : World} {a : Option Addr} {k c N : Nat} {e : Int} (hK : W.heap[D]? = some (.deferred (some []))) (h2 : tmps.getD 2 undef = .pointer (some ⟨N, 0, none⟩)) (h3 : tmps.getD 3 undef = .pointer (some ⟨N + 1, 0, none⟩))
    (b0 : Boxed W N 22 (.slice a k c)) (b1 : Boxed W (N + 1) 25 (.int .i64 e)) (h : Φ (.returned (.tuple #[.slice a k c, .int .i64 e])) (W.putObj D (.deferred none))) :
    bodyPostM Fence.wide n Try.prog Try.f19 Φ .ret { tmps := tmps, defers := [{ target := .collected D, args := #[] }] } W := by
  have n0 : N ≠ D := by rintro rfl; rw [show W.heap[N]? = _ from b0] at hK; cases hK
  have n1 : N + 1 ≠ D := by rintro rfl; rw [show W.heap[N + 1]? = _ from b1] at hK; cases hK
  refine ⟨by simp, .inl ⟨_, _, rfl, run_takeDeferred hK, ?_⟩⟩
  exact ⟨_, res19 N _ a k c e tmps h2 h3 (boxed_same (World.putObj_heap_other n0) b0) (boxed_same (World.putObj_heap_other n1) b1), h⟩
set_option maxRecDepth 100000 in
set_option maxHeartbeats 4000000 in
theorem collect_in (n : Nat) (hn : 3 ≤ n) (v : Value) (ys : List (RV × Int)) (rows : List (List V3)) (R : Nat → Prop) (w : World) (hit : It v ys R w) (hlen : ys.length ≤ 100000)
    (hrows : All2 (fun y row => y.2 = 0 → Cont w y.1 row ∧ y.1.n ≤ 1000) ys rows) :
    CallsIn Fence.wide n Try.prog 19 #[v] w fun e W' => Below w.heap.size w W' ∧
      ((∃ sv rs, e = .returned (.tuple #[sv, .int .i64 0]) ∧ (∀ y ∈ ys, y.2 = 0) ∧ W'.ownsRow w.heap.size 48 1 sv ys.length (rs.map RV.v) ∧ All2 (fun r row => Cont W' r row ∧ r.n ≤ 1000 ∧ ∀ j, r.blk j → w.heap.size ≤ j) rs rows) ∨
       (∃ pre y, pre ++ [y] <+: ys ∧ (∀ z ∈ pre, z.2 = 0) ∧ y.2 ≠ 0 ∧ e = .returned (.tuple #[.slice none 0 0, .int .i64 y.2]))) := by
  obtain ⟨g, lb, rfl, eg, hq⟩ := hit.ex
  obtain ⟨i0, hi, hz0, hz1, hz2⟩ := info_parts infoR
  have hro : Fence.wide.round = none := rfl
  have hmx : Try.prog.follows .mixedOrders = true := by kernel_rfl
  have h1 : 1 ≤ n := by omega
  refine callsIn_of_wp_marks Try.func19 rfl trivial ?_ hro
  simp only [Try.ntmps19, List.size_toArray, List.length_cons, List.length_nil, Nat.reduceAdd, Nat.reduceSub, Array.replicate_succ, Array.replicate_zero, List.push_toArray, List.append_toArray, List.nil_append, List.cons_append]
  have hfn : ∀ (w : World) (g : FuncId) (lb : Array Value), (binOp .eql 31 (.func (.func g) #[] lb) .nilFunc).run Try.prog w = .ok (.bool false) w := fun _ _ _ => rfl
  gi_wp2
  have bA := Boxed.new w 22 (.slice none 0 0)
  have bB := Boxed.new (w.alloc (.cells #[.slice none 0 0] 22)) 25 (.int .i64 0)
  have bC := Boxed.new ((w.alloc (.cells #[.slice none 0 0] 22)).alloc (.cells #[.int .i64 0] 25)) 22 (.slice none 0 0)
  simp only [World.size_alloc] at bB bC
  have bA2 := (bA.alloc (.cells #[.int .i64 0] 25)).alloc (.cells #[.slice none 0 0] 22)
  have bB2 := bB.alloc (.cells #[.slice none 0 0] 22)
  have hbel : Below w.heap.size w (((w.alloc (.cells #[.slice none 0 0] 22)).alloc (.cells #[.int .i64 0] 25)).alloc (.cells #[.slice none 0 0] 22)) := (((Below.refl _ w).alloc (Nat.le_refl _) _).alloc (by simp) _).alloc (by simp; omega) _
  have hsz : (((w.alloc (.cells #[.slice none 0 0] 22)).alloc (.cells #[.int .i64 0] 25)).alloc (.cells #[.slice none 0 0] 22)).heap.size = w.heap.size + 3 := by simp
  clear bA bB
  generalize ((w.alloc (.cells #[.slice none 0 0] 22)).alloc (.cells #[.int .i64 0] 25)).alloc (.cells #[.slice none 0 0] 22) = w3 at bA2 bB2 bC hbel hsz ⊢
  refine wpIn_rangeFunc_sep hro h1 (gf := g) (lb := lb) rfl trivial eg (hq (n - 1)) (fun _ => rfl) (fun j => w.heap.size ≤ j ∧ j < w3.heap.size) hbel.size
    (fun j hj => ⟨hit.lt j hj, fun h => by have := hit.lt j hj; omega, hbel.block j (hit.lt j hj)⟩) (fun j hj => hj.2)
    (CI w.heap.size rows)
    (fun c pre X W => c = .ret ∧ ∃ p y, pre = p ++ [y] ∧ (∀ z ∈ p, z.2 = 0) ∧ y.2 ≠ 0 ∧ Boxed W w.heap.size 22 (.slice none 0 0) ∧ Boxed W (w.heap.size + 1) 25 (.int .i64 y.2) ∧ X w.heap.size ∧ X (w.heap.size + 1) ∧ ∀ j, X j → w.heap.size ≤ j)
    (CI.stable _ _ _) ?xst ?start ?round ?done ?stop
  case xst =>
    rintro c pre X W W' ⟨rfl, p, y, e1, e2, e3, e4, e5, e6, e7, e8⟩ ha
    exact ⟨rfl, p, y, e1, e2, e3, boxed_same (ha.block _ (.inl e6)) e4, boxed_same (ha.block _ (.inl e7)) e5, e6, e7, e8⟩
  case start =>
    exact ⟨(fun _ h => by cases h), bA2, bB2, ⟨.slice none 0 0, [], bC, World.ownsRow_nil _ _ _ _, (fun j h => by cases h), trivial⟩, by omega, by omega, by omega, (fun j h => h.1)⟩
  case round =>
    rintro l pre ⟨⟨ra, rn, rc⟩, e⟩ X1 W1 hl hpre hI hg hXl hlt
    gi_wp2
    refine ⟨fun _ _ _ => trivial, Nat.le_refl _, trivial, trivial, trivial, ?_⟩
    intro W3 z1 z2 z3 z4 z5
    have hag : Agree X1 0 W1 W3 := ⟨z2, z3, z4, by omega, fun j hj => z5 j (by rintro rfl; rcases hj with h | h; exact hXl h; omega)⟩
    have hI3 := CI.stable _ 0 _ _ _ _ _ hI hag
    obtain ⟨v, rs, o1, o2, o3, o4⟩ := hI3.out
    have hc0 := hI3.b0.cell
    have hf0 := hI3.b0.frozen
    have hc1 := hI3.b1.cell
    have hf1 := hI3.b1.frozen
    have hcv := o1.cell
    have hfv := o1.frozen
    have hn2 : 1 ≤ n - 1 - 1 := by omega
    have hM : W1.heap.size ≤ W3.heap.size := by omega
    have hpl : pre.length < ys.length := by have := hpre.length_le; rw [List.length_append, List.length_singleton] at this; omega
    by_cases he : e = 0
    · subst he
      have hy : ys[pre.length]? = some ((⟨ra, rn, rc⟩ : RV), (0 : Int)) := by
        obtain ⟨t, rfl⟩ := hpre
        simp
      have hlen2 := hrows.len
      obtain ⟨row, hrow⟩ : ∃ row, rows[pre.length]? = some row := ⟨rows[pre.length]'(by omega), List.getElem?_eq_getElem (by omega)⟩
      have hcont := hrows.get pre.length _ _ hy hrow rfl
      have hC3 : Cont W3 ⟨ra, rn, rc⟩ row := hcont.1.same (by have := hg.size; have := hbel.size; omega) (fun j hj => by
        have hjw : j < w.heap.size := hcont.1.blt j hj
        exact (z5 j (by omega)).trans ((hg.block j (by omega) (by omega)).trans (hbel.block j hjw)))
      have hbig : rn ≤ 1000 := hcont.2
      have hrowlen : row.length ≤ 1000 := by
        rw [hcont.1.len]; exact hbig
      have hI4 : CI w.heap.size rows pre X1 W3.drew := CI.stable _ 0 _ _ _ _ _ hI3 ⟨rfl, rfl, rfl, Nat.le_refl _, fun _ _ => rfl⟩
      have o14 : Boxed W3.drew (w.heap.size + 2) 22 v := o1
      have o24 : W3.drew.ownsRow w.heap.size 48 1 v pre.length (rs.map RV.v) := ownsRow_same (fun _ _ => rfl) o2
      have o44 : All2 (fun r row => Cont W3.drew r row ∧ r.n ≤ 1000 ∧ ∀ j, r.blk j → X1 j ∧ w.heap.size + 2 < j ∧ v.ownBlock ≠ some j) rs (rows.take pre.length) := o4.imp fun q qr h => ⟨h.1.same (Nat.le_refl _) (fun _ _ => rfl), h.2⟩
      have hC4 : Cont W3.drew ⟨ra, rn, rc⟩ row := hC3.same (Nat.le_refl _) (fun _ _ => rfl)
      have hM4 : W1.heap.size ≤ W3.drew.heap.size := hM
      have hlt4 : ∀ j, X1 j → j < W3.drew.heap.size := fun j hj => Nat.lt_of_lt_of_le (hg.lt j hj) hM
      have hback : ∀ X' W', Gr X1 X' W1.heap.size W3.drew W' → Gr X1 X' W1.heap.size W3 W' := fun X' W' h => ⟨h.os, h.tape, h.output, h.size, h.block, h.sub, h.lt⟩
      have hcv' := o14.cell
      have hfv' := o14.frozen
      gi_wp2
      refine wpIn_region_any hmx ?_
      change wpAnyIn _ _ _ _ _ _ _ _ _ (World.drew _)
      refine wpAnyIn_ready (rs := [0, 1]) (by kernel_rfl) (by simp) ?_
      refine AllReadyIn.cons rfl (fun K hK => ?_) (AllReadyIn.cons rfl (fun K hK => ?_) AllReadyIn.nil)
      · go_simp
        refine hK _ _ ?_
        clear hK K
        refine wpAnyIn_ready (rs := [1]) (by kernel_rfl) (by simp) ?_
        refine AllReadyIn.cons rfl (fun K hK => ?_) AllReadyIn.nil
        go_simp
        refine hK _ _ ?_
        clear hK K
        refine wpAnyIn_ready (rs := [2]) (by kernel_rfl) (by simp) ?_
        refine AllReadyIn.cons rfl (fun K hK => ?_) AllReadyIn.nil
        go_simp
        refine ⟨trivial, ?_⟩
        refine (CallsIn.inRound _ (callsIn_wide.2 (clone_push hI4 o14 o24 o3 o44 hM4 hg.lt hC4 hbig hrowlen (by omega) hrow))).mono ?_
        rintro e4 w4 ⟨qa, qn, qc, g', cap', w5, rfl, o15, hrun, hv5, hgr5, hci5⟩
        have hcv4 := o15.cell
        have hfv4 := o15.frozen
        have hcv6 := (o15.alloc (.cells #[.slice qa qn qc] 48)).cell
        have hcv5 := hv5.cell
        have hfv5 := hv5.frozen
        refine hK _ _ ?_
        clear hK K
        refine wpAnyIn_ready (rs := [3]) (by kernel_rfl) (by simp) ?_
        refine AllReadyIn.cons rfl (fun K hK => ?_) AllReadyIn.nil
        go_simp
        refine hK _ _ ?_
        clear hK K
        refine wpAnyIn_ready (rs := [4]) (by kernel_rfl) (by simp) ?_
        refine AllReadyIn.cons rfl (fun K hK => ?_) AllReadyIn.nil
        refine if_intro (by rfl) ?_
        refine app_step rfl rfl hrun ?_
        refine hK _ _ ?_
        clear hK K
        simp only [Act.put, List.setIfInBounds_toArray, List.set_cons_zero, List.set_cons_succ]
        refine wpAnyIn_ready (rs := [5]) (by kernel_rfl) (by simp) ?_
        refine AllReadyIn.cons rfl (fun K hK => ?_) AllReadyIn.nil
        go_simp
        refine hK _ _ ?_
        clear hK K
        refine wpAnyIn_done (by kernel_rfl) ?_ _
        gi_wp2
        exact ⟨_, hback _ _ hgr5, hci5⟩
      · go_simp
        refine hK _ _ ?_
        clear hK K
        refine wpAnyIn_ready (rs := [0, 2]) (by kernel_rfl) (by simp) ?_
        refine AllReadyIn.cons rfl (fun K hK => ?_) (AllReadyIn.cons rfl (fun K hK => ?_) AllReadyIn.nil)
        · go_simp
          refine hK _ _ ?_
          clear hK K
          refine wpAnyIn_ready (rs := [2]) (by kernel_rfl) (by simp) ?_
          refine AllReadyIn.cons rfl (fun K hK => ?_) AllReadyIn.nil
          go_simp
          refine ⟨trivial, ?_⟩
          refine (CallsIn.inRound _ (callsIn_wide.2 (clone_push hI4 o14 o24 o3 o44 hM4 hg.lt hC4 hbig hrowlen (by omega) hrow))).mono ?_
          rintro e4 w4 ⟨qa, qn, qc, g', cap', w5, rfl, o15, hrun, hv5, hgr5, hci5⟩
          have hcv4 := o15.cell
          have hfv4 := o15.frozen
          have hcv6 := (o15.alloc (.cells #[.slice qa qn qc] 48)).cell
          have hcv5 := hv5.cell
          have hfv5 := hv5.frozen
          refine hK _ _ ?_
          clear hK K
          refine wpAnyIn_ready (rs := [3]) (by kernel_rfl) (by simp) ?_
          refine AllReadyIn.cons rfl (fun K hK => ?_) AllReadyIn.nil
          go_simp
          refine hK _ _ ?_
          clear hK K
          refine wpAnyIn_ready (rs := [4]) (by kernel_rfl) (by simp) ?_
          refine AllReadyIn.cons rfl (fun K hK => ?_) AllReadyIn.nil
          refine if_intro (by rfl) ?_
          refine app_step rfl rfl hrun ?_
          refine hK _ _ ?_
          clear hK K
          simp only [Act.put, List.setIfInBounds_toArray, List.set_cons_zero, List.set_cons_succ]
          refine wpAnyIn_ready (rs := [5]) (by kernel_rfl) (by simp) ?_
          refine AllReadyIn.cons rfl (fun K hK => ?_) AllReadyIn.nil
          go_simp
          refine hK _ _ ?_
          clear hK K
          refine wpAnyIn_done (by kernel_rfl) ?_ _
          gi_wp2
          exact ⟨_, hback _ _ hgr5, hci5⟩
        · go_simp
          refine ⟨trivial, ?_⟩
          refine (CallsIn.inRound _ (callsIn_wide.2 (clone_push hI4 o14 o24 o3 o44 hM4 hg.lt hC4 hbig hrowlen (by omega) hrow))).mono ?_
          rintro e4 w4 ⟨qa, qn, qc, g', cap', w5, rfl, o15, hrun, hv5, hgr5, hci5⟩
          have hcv4 := o15.cell
          have hfv4 := o15.frozen
          have hcv6 := (o15.alloc (.cells #[.slice qa qn qc] 48)).cell
          have hcv5 := hv5.cell
          have hfv5 := hv5.frozen
          refine hK _ _ ?_
          clear hK K
          refine wpAnyIn_ready (rs := [0, 3]) (by kernel_rfl) (by simp) ?_
          refine AllReadyIn.cons rfl (fun K hK => ?_) (AllReadyIn.cons rfl (fun K hK => ?_) AllReadyIn.nil)
          · go_simp
            refine hK _ _ ?_
            clear hK K
            refine wpAnyIn_ready (rs := [3]) (by kernel_rfl) (by simp) ?_
            refine AllReadyIn.cons rfl (fun K hK => ?_) AllReadyIn.nil
            go_simp
            refine hK _ _ ?_
            clear hK K
            refine wpAnyIn_ready (rs := [4]) (by kernel_rfl) (by simp) ?_
            refine AllReadyIn.cons rfl (fun K hK => ?_) AllReadyIn.nil
            refine if_intro (by rfl) ?_
            refine app_step rfl rfl hrun ?_
            refine hK _ _ ?_
            clear hK K
            simp only [Act.put, List.setIfInBounds_toArray, List.set_cons_zero, List.set_cons_succ]
            refine wpAnyIn_ready (rs := [5]) (by kernel_rfl) (by simp) ?_
            refine AllReadyIn.cons rfl (fun K hK => ?_) AllReadyIn.nil
            go_simp
            refine hK _ _ ?_
            clear hK K
            refine wpAnyIn_done (by kernel_rfl) ?_ _
            gi_wp2
            exact ⟨_, hback _ _ hgr5, hci5⟩
          · go_simp
            refine hK _ _ ?_
            clear hK K
            refine wpAnyIn_ready (rs := [0]) (by kernel_rfl) (by simp) ?_
            refine AllReadyIn.cons rfl (fun K hK => ?_) AllReadyIn.nil
            go_simp
            refine hK _ _ ?_
            clear hK K
            refine wpAnyIn_ready (rs := [4]) (by kernel_rfl) (by simp) ?_
            refine AllReadyIn.cons rfl (fun K hK => ?_) AllReadyIn.nil
            refine if_intro (by rfl) ?_
            refine app_step rfl rfl hrun ?_
            refine hK _ _ ?_
            clear hK K
            simp only [Act.put, List.setIfInBounds_toArray, List.set_cons_zero, List.set_cons_succ]
            refine wpAnyIn_ready (rs := [5]) (by kernel_rfl) (by simp) ?_
            refine AllReadyIn.cons rfl (fun K hK => ?_) AllReadyIn.nil
            go_simp
            refine hK _ _ ?_
            clear hK K
            refine wpAnyIn_done (by kernel_rfl) ?_ _
            gi_wp2
            exact ⟨_, hback _ _ hgr5, hci5⟩
    · have hne : (e != 0) = true := by simpa using he
      gi_wp2
      refine ⟨X1, ⟨rfl, rfl, rfl, by rw [size_setCell, size_setCell]; exact Nat.le_refl _, ?_, fun j h => .inl h, fun j h => by rw [size_setCell, size_setCell]; have := hg.lt j h; omega⟩, rfl, pre, _, rfl, hI3.zero, he, ?_, ?_, hI3.x0, hI3.x1, hI3.lo⟩
      · intro j hj hx
        exact (Below.heap_setCell _ _ _ j (fun h => hx (h ▸ hI3.x1))).trans (Below.heap_setCell _ _ _ j (fun h => hx (h ▸ hI3.x0)))
      · exact (Below.heap_setCell _ _ _ _ (by dsimp only; omega)).trans (hI3.b0.set _)
      · exact Boxed.set _ ((Below.heap_setCell _ _ _ _ (by dsimp only; omega)).trans hI3.b1)
  case done =>
    intro X' W hI hg hn hK
    obtain ⟨v, rs, o1, o2, o3, o4⟩ := hI.out
    have hc0 := hI.b0.cell
    have hf0 := hI.b0.frozen
    have hc1 := hI.b1.cell
    have hf1 := hI.b1.frozen
    have hcv := o1.cell
    have hfv := o1.frozen
    have hgw := hg.size
    have hbw := hbel.size
    obtain ⟨sa, sk, sc, rfl⟩ : ∃ sa sk sc, v = .slice sa sk sc := by
      rcases o2.2 with ⟨rfl, _⟩ | ⟨gq, capq, curq, rfl, _⟩
      · exact ⟨_, _, _, rfl⟩
      · exact ⟨_, _, _, rfl⟩
    gi_wp2
    have nv : ∀ {B : Nat} {t : TypeId} {u : Value}, t ≠ 48 → Boxed W B t u → (Value.slice sa sk sc).ownBlock ≠ some B := fun ht hb e => (hb.not_row ht o2) e.symm
    have s6 : ∀ j, j ≠ w.heap.size → j ≠ w.heap.size + 1 → j ≠ w3.heap.size → (((W.setCell ⟨w.heap.size, 0, none⟩ (.slice sa sk sc)).setCell ⟨w.heap.size + 1, 0, none⟩ (.int .i64 0)).putObj w3.heap.size (.deferred none)).heap[j]? = W.heap[j]? := fun j h1 h2 h3 =>
      (World.putObj_heap_other h3).trans ((Below.heap_setCell _ _ _ j h2).trans (Below.heap_setCell _ _ _ j h1))
    have sz6 : (((W.setCell ⟨w.heap.size, 0, none⟩ (.slice sa sk sc)).setCell ⟨w.heap.size + 1, 0, none⟩ (.int .i64 0)).putObj w3.heap.size (.deferred none)).heap.size = W.heap.size := by rw [World.putObj_size, size_setCell, size_setCell]
    refine ret19 (N := w.heap.size) (e := 0) (a := sa) (k := sk) (c := sc) ?_ rfl rfl ?_ ?_ ⟨⟨hg.os.trans hbel.os, hg.tape.trans hbel.tape, hg.output.trans hbel.output, by rw [sz6]; omega, ?_⟩, .inl ⟨_, rs, rfl, hI.zero, ?_, ?_⟩⟩
    · exact (Below.heap_setCell _ _ _ _ (by dsimp only; omega)).trans ((Below.heap_setCell _ _ _ _ (by dsimp only; omega)).trans hK)
    · exact (Below.heap_setCell _ _ _ _ (by dsimp only; omega)).trans (hI.b0.set _)
    · exact Boxed.set _ ((Below.heap_setCell _ _ _ _ (by dsimp only; omega)).trans hI.b1)
    · intro j hj
      rw [s6 j (by omega) (by omega) (by omega), hg.block j (by omega) (by omega), hbel.block j hj]
    · exact ownsRow_same (fun j hj => s6 j (fun e => nv (by decide) hI.b0 (e ▸ hj)) (fun e => nv (by decide) hI.b1 (e ▸ hj)) (fun e => hn (e ▸ o3 j hj))) o2
    · have ho : rows.take ys.length = rows := List.take_of_length_le (by rw [hrows.len]; exact Nat.le_refl _)
      rw [ho] at o4
      exact o4.imp fun q qr h => ⟨h.1.same (by rw [sz6]; exact Nat.le_refl _) (fun j hj => s6 j (by have := (h.2.2 j hj).2.1; omega) (by have := (h.2.2 j hj).2.1; omega) (fun e => hn (e ▸ (h.2.2 j hj).1))), h.2.1, fun j hj => hI.lo j (h.2.2 j hj).1⟩
  case stop =>
    rintro c pre X' W hpre ⟨rfl, p, y, rfl, e2, e3, e4, e5, e6, e7, e8⟩ hg hn hK
    have hgw := hg.size
    have hbw := hbel.size
    gi_wp2
    refine ret19 (N := w.heap.size) (e := y.2) (a := none) (k := 0) (c := 0) hK rfl rfl e4 e5 ⟨⟨hg.os.trans hbel.os, hg.tape.trans hbel.tape, hg.output.trans hbel.output, by rw [World.putObj_size]; omega, ?_⟩, .inr ⟨p, y, hpre, e2, e3, rfl⟩⟩
    intro j hj
    rw [World.putObj_heap_other (by omega), hg.block j (by omega) (by omega), hbel.block j hj]
end Go.Proofs.Ytghpjlohoehdnaa.Sep
