/- setop.among: those rows of one that are, or are not, among the other's. No condition beyond those that each theorem names. -/
import Derived.Test.YtghpjlohoehdnaaSeU
import Derived.Test.YtghpjlohoehdnaaSeV
import Derived.Sort.CutIn
import Derived.Laws.EntriesVeiled
namespace Go.Proofs.Ytghpjlohoehdnaa.Sep
open Go Go.RowKit Go.Shelf
attribute [local go_sem] Oper.semAt_some
set_option linter.unusedVariables false
set_option linter.unusedSimpArgs false
/-- those rows that are (is), or are not, among rows; up to the first error -/
def amL (is : Bool) (rows : List (List V3)) : List Pr → List Pr
  | [] => []
  | p :: l => if p.1.2 = 0 then (if (rows.any fun s => eqRow s p.2) = is then p :: amL is rows l else amL is rows l) else [((RV.nil, p.1.2), [])]
theorem drop_at {ys : List Pr} {pre : List (RV × Int)} {x : RV × Int} (h : pre ++ [x] <+: ys.map Prod.fst) : ∃ row, ys.drop pre.length = (x, row) :: ys.drop (pre.length + 1) ∧ (x, row) ∈ ys := by
  obtain ⟨t, ht⟩ := h
  have hl : pre.length < ys.length := by have := congrArg List.length ht; simp at this; omega
  have hx : (ys[pre.length]).1 = x := by
    have h1 : (ys.map Prod.fst)[pre.length]? = some x := by rw [← ht]; simp
    rw [List.getElem?_map, List.getElem?_eq_getElem hl] at h1
    simpa using h1
  refine ⟨(ys[pre.length]).2, ?_, ?_⟩
  · rw [List.drop_eq_getElem_cons hl, ← hx]
  · rw [← hx]; exact List.getElem_mem hl
/-- what an adaptor's loop knows: what it has handed over, what has turned since -/
def AI (zs : List Pr) (rest : Nat → List Pr) (J : List (RV × Int) → (Nat → Prop) → World → Prop) (X0 : Nat → Prop) (W0 : World) (pre : List (RV × Int)) (X : Nat → Prop) (W : World) : Prop :=
  ∃ out, zs = out ++ rest pre.length ∧ J (out.map Prod.fst) X W ∧ Gr X0 X W0.heap.size W0 W
theorem AI.stable {zs : List Pr} {rest : Nat → List Pr} {J : List (RV × Int) → (Nat → Prop) → World → Prop} {X0 : Nat → Prop} {W0 : World} {n₀ : Nat} (hJ : Stable W0.heap.size J) (hn : W0.heap.size ≤ n₀) : Stable n₀ (AI zs rest J X0 W0) := by
  rintro pre X W W' ⟨out, h0, h1, h2⟩ ha
  have ha' : Agree X W0.heap.size W W' := ⟨ha.os, ha.tape, ha.output, ha.size, fun j hj => ha.block j (by rcases hj with h | h; exact .inl h; exact .inr (by omega))⟩
  exact ⟨out, h0, hJ _ _ _ _ h1 ha', ⟨ha.os.trans h2.os, ha.tape.trans h2.tape, ha.output.trans h2.output, Nat.le_trans h2.size ha.size, fun j hj hx => (ha.block j (.inr (by omega))).trans (h2.block j hj hx), h2.sub, fun j hj => Nat.lt_of_lt_of_le (h2.lt j hj) ha.size⟩⟩
/-- how an adaptor's loop is left ahead of its end -/
def AX (zs : List Pr) (J Jx : List (RV × Int) → (Nat → Prop) → World → Prop) (X0 : Nat → Prop) (W0 : World) (c : Code) (pre : List (RV × Int)) (X' : Nat → Prop) (W' : World) : Prop :=
  c = .ret ∧ Gr X0 X' W0.heap.size W0 W' ∧ (J (zs.map Prod.fst) X' W' ∨ ∃ q, q <+: zs.map Prod.fst ∧ Jx q X' W')
theorem AX.stable {zs : List Pr} {J Jx : List (RV × Int) → (Nat → Prop) → World → Prop} {X0 : Nat → Prop} {W0 : World} {n₀ : Nat} (hJ : Stable W0.heap.size J) (hJx : Stable W0.heap.size Jx) (hn : W0.heap.size ≤ n₀) (c : Code) : Stable n₀ (AX zs J Jx X0 W0 c) := by
  rintro pre X' A B ⟨h1, h2, h3⟩ ha
  have ha' : Agree X' W0.heap.size A B := ⟨ha.os, ha.tape, ha.output, ha.size, fun j hj => ha.block j (by rcases hj with h | h; exact .inl h; exact .inr (by omega))⟩
  refine ⟨h1, ⟨ha.os.trans h2.os, ha.tape.trans h2.tape, ha.output.trans h2.output, Nat.le_trans h2.size ha.size, fun j hj hx => (ha.block j (.inr (by omega))).trans (h2.block j hj hx), h2.sub, fun j hj => Nat.lt_of_lt_of_le (h2.lt j hj) ha.size⟩, ?_⟩
  rcases h3 with h | ⟨q, hq, h⟩
  · exact .inl (hJ _ _ _ _ h ha')
  · exact .inr ⟨q, hq, hJx _ _ _ _ h ha'⟩
theorem below_gr {X : Nat → Prop} {W W1 : World} (hX : ∀ j, X j → j < W.heap.size) (hb : Below W.heap.size W W1) : Gr X X W.heap.size W W1 :=
  ⟨hb.os, hb.tape, hb.output, hb.size, fun j hj _ => hb.block j hj, fun j h => .inl h, fun j h => Nat.lt_of_lt_of_le (hX j h) hb.size⟩
theorem below_agree {X : Nat → Prop} {W W1 : World} (hX : ∀ j, X j → j < W.heap.size) (hb : Below W.heap.size W W1) : Agree X W.heap.size W W1 :=
  ⟨hb.os, hb.tape, hb.output, hb.size, fun j hj => hb.block j (by rcases hj with h | h; exact hX j h; exact h)⟩
/-- region 11 of among's round: its slots as far as they are reckoned, and its world -/
def ISt (L : List Value) (Wd : World) (f y rv : Value) (t is g : Bool) (Post : Bool → World → Prop) (d : Nat → Bool) (a : Act) (w : World) : Prop :=
  ∃ x31 x32 x33 x34 x35 x36 x37 x38 x39 x40 x41 : Value, a = { tmps := (L ++ [x31, x32, x33, x34, x35, x36, x37, x38, x39, x40, x41]).toArray, defers := [] } ∧
    (d 0 = true → x31 = f) ∧
    (d 1 = true → x32 = rv) ∧
    (d 2 = true → x33 = .bool t) ∧
    (d 3 = true → x34 = .bool is) ∧
    (d 4 = true → x35 = .bool g) ∧
    (d 5 = true → x36 = .bool g) ∧
    (d 6 = true → g = true → x37 = y) ∧
    (d 7 = true → g = true → x38 = rv) ∧
    ((d 8 = false ∨ g = false) → Below Wd.heap.size Wd w) ∧
    (d 8 = true → g = true → ∃ b, x39 = .bool b ∧ Post b w ∧ (d 9 = true → x40 = .bool (!b)) ∧ (d 10 = true → x41 = .bool (!b))) ∧
    (d 10 = true → g = false → x41 = .bool false)
/-- what is done there has all done that it waits for -/
def ICl (d : Nat → Bool) : Prop := (d 2 = true → d 0 = true ∧ d 1 = true) ∧ (d 4 = true → d 2 = true ∧ d 3 = true) ∧ (d 5 = true → d 4 = true) ∧ (d 6 = true → d 5 = true) ∧ (d 7 = true → d 5 = true) ∧ (d 8 = true → d 6 = true ∧ d 7 = true) ∧ (d 9 = true → d 8 = true) ∧ (d 10 = true → d 9 = true)
theorem below_drew {N : Nat} {A B : World} (h : Below N A.drew B) : Below N A B := ⟨h.os, h.tape, h.output, h.size, h.block⟩
theorem if_outro {c p q : Prop} [Decidable c] (hc : ¬ c) (hp : q) : if c then p else q := by rw [if_neg hc]; exact hp
theorem cell_lt {w : World} {a : Addr} {v : Value} (h : w.cell? a = some v) : a.block < w.heap.size := by
  by_cases hlt : a.block < w.heap.size
  · exact hlt
  · unfold World.cell? at h
    rw [Array.getElem?_eq_none (by omega)] at h
    simp at h
theorem Cont.below {W W' : World} {q : RV} {row : List V3} (h : Cont W q row) (hb : Below W.heap.size W W') : Cont W' q row := h.same hb.size (fun j hj => hb.block j (h.blt j hj))
theorem Own1.below {W W' : World} {sv : Value} {rows : List (List V3)} (hb : Below W.heap.size W W') : Own1 W sv rows → Own1 W' sv rows
  | .inl h => .inl h
  | .inr ⟨b, off, c, rs, h1, h2, h3, h4⟩ => .inr ⟨b, off, c, rs, h1, Nat.lt_of_lt_of_le h2 hb.size, fun j hj => (cell_of_block (hb.block b h2) _).trans (h3 j hj), h4.imp fun q row h => ⟨h.1.below hb, h.2⟩⟩
theorem yield_mono {F : Fence} {n : Nat} {P : Program} {l : Nat} {args : Array Value} {W : World} {R R' : Ending → World → Prop} (h : YieldAt F n P l args W R) (hh : ∀ e w, R e w → R' e w) : YieldAt F n P l args W R' := by
  obtain ⟨fn, tmps, assign, body, h1, h2⟩ := h
  exact ⟨fn, tmps, assign, body, h1, h2.mono hh⟩
/-- what the caller's yield leaves behind an adaptor's own yield -/
def APost (J Jx : List (RV × Int) → (Nat → Prop) → World → Prop) (X X1 : Nat → Prop) (W : World) (M : Nat) (W3 : World) (q : List (RV × Int)) (b : Bool) (W' : World) : Prop :=
  ∃ X4, Gr X1 X4 M W3 W' ∧ Gr X X4 W.heap.size W W' ∧ (match b with | true => J q X4 W' | false => Jx q X4 W')
theorem below_step {N M : Nat} {A B C : World} (h : Below N A B) (k : Below M B C) (hM : N ≤ M) : Below N A C :=
  ⟨k.os.trans h.os, k.tape.trans h.tape, k.output.trans h.output, Nat.le_trans h.size k.size, fun j hj => (k.block j (by omega)).trans (h.block j hj)⟩
set_option maxRecDepth 100000 in
set_option maxHeartbeats 4000000 in
theorem among1_err (n : Nat) (hn : 6 ≤ n) (l A B D : Nat) (is : Bool) (ga : FuncId) (la : Array Value) (vb : Value) (pa pb : List Pr) (Ra Rb : Nat → Prop)
    (J Jx : List (RV × Int) → (Nat → Prop) → World → Prop) (X : Nat → Prop) (W : World) (hX : ∀ j, X j → j < W.heap.size) (hJ : Stable W.heap.size J) (hJx : Stable W.heap.size Jx)
    (hA : A < W.heap.size) (hB : B < W.heap.size ∧ ¬ X B) (hD : D < W.heap.size ∧ ¬ X D) (hca : W.cell? ⟨A, 0, none⟩ = some vb) (hcb : W.cell? ⟨B, 0, none⟩ = some (.func (.func ga) #[] la)) (hcd : W.cell? ⟨D, 0, none⟩ = some (.bool is))
    (ega : ∀ args w, (callFunc ga args).run Try.prog w = .ok (.enter ga args) w) (hqa : ∀ n, Seq Fence.wide n Try.prog ga la enc (pa.map Prod.fst) Ra W) (hRa : ∀ j, Ra j → j < W.heap.size ∧ ¬ X j)
    (hrows : ∀ p ∈ pa, p.1.2 = 0 → Cont W p.1.1 p.2 ∧ p.1.1.n ≤ 1000 ∧ ∀ j, p.1.1.blk j → Ra j) (hb : ItC vb pb Rb W) (hlb : pb.length ≤ 100000) (heb : errOf pb ≠ 0)
    (hY : ∀ pre x X1 W1, (pre ++ [x]) <+: ([((RV.nil, errOf pb), [])] : List Pr).map Prod.fst → J pre X1 W1 → Gr X X1 W.heap.size W W1 → YieldAt Fence.wide (n - 1) Try.prog l (enc x) W1 fun e W' =>
      ∃ X', Gr X1 X' W1.heap.size W1 W' ∧ ((e = .returned (.bool true) ∧ J (pre ++ [x]) X' W') ∨ (e = .returned (.bool false) ∧ Jx (pre ++ [x]) X' W')))
    (h0 : J [] X W) :
    CallsIn Fence.wide n Try.prog 69 #[.func (.yield l) #[] #[], .pointer (some ⟨A, 0, none⟩), .pointer (some ⟨B, 0, none⟩), .pointer (some ⟨D, 0, none⟩)] W fun e W' => (∃ v, e = .returned v) ∧
      ∃ X', Gr X X' W.heap.size W W' ∧ (J (([((RV.nil, errOf pb), [])] : List Pr).map Prod.fst) X' W' ∨ ∃ pre, pre <+: ([((RV.nil, errOf pb), [])] : List Pr).map Prod.fst ∧ Jx pre X' W') := by
  have hro : Fence.wide.round = none := rfl
  have hmx : Try.prog.follows .mixedOrders = true := by kernel_rfl
  have h1 : 1 ≤ n := by omega
  have hfn : ∀ (w : World) (g : FuncId) (lb : Array Value), (binOp .eql 31 (.func (.func g) #[] lb) .nilFunc).run Try.prog w = .ok (.bool false) w := fun _ _ _ => rfl
  have cY := Boxed.new W 72 (.func (.yield l) #[] #[])
  have hbel : Below W.heap.size W (W.alloc (.cells #[.func (.yield l) #[] #[]] 72)) := (Below.refl _ W).alloc (Nat.le_refl _) _
  have hsz : (W.alloc (.cells #[.func (.yield l) #[] #[]] 72)).heap.size = W.heap.size + 1 := by simp
  have hcaA := (cell_of_block (hbel.block A hA) 0).trans hca
  have hb1 := hb.below hbel
  refine callsIn_of_wp_marks Try.func69 rfl trivial ?_ hro
  simp only [Try.ntmps69, List.size_toArray, List.length_cons, List.length_nil, Nat.reduceAdd, Nat.reduceSub, Array.replicate_succ, Array.replicate_zero, List.push_toArray, List.append_toArray, List.nil_append, List.cons_append]
  generalize hW1 : W.alloc (.cells #[.func (.yield l) #[] #[]] 72) = W1 at cY hbel hsz hcaA hb1
  have hcol := collect_c (n - 1) (by omega) vb pb Rb W1 hb1 hlb
  generalize errOf pb = eb at heb hcol hY ⊢
  have hne : (eb != 0) = true := by simpa using heb
  gi_upto_region 2 with (refine ⟨trivial, ?_⟩; gi_at_call 19; refine hcol.mono ?_; rintro e w2 ⟨hb2, ⟨hx, _⟩ | ⟨_, rfl⟩⟩; first | exact absurd hx heb | skip)
  have hbx := below_step hbel (hb2.alloc (by have := hb2.size; omega) (.cells #[.slice none 0 0] 22)) (by omega)
  have cYx := (cell_of_block ((hb2.alloc (by have := hb2.size; omega) (.cells #[.slice none 0 0] 22)).block W.heap.size (by omega)) 0).trans (Boxed.cell cY)
  generalize w2.alloc (.cells #[.slice none 0 0] 22) = Wx at hbx cYx ⊢
  obtain ⟨fn, tmps, assign, body, hy, hR⟩ := yield_wide (m := n - 1) (hY [] (RV.nil, eb) X Wx (List.prefix_refl _) (hJ _ _ _ _ h0 (below_agree hX hbx)) (below_gr hX hbx))
  dsimp only [enc, RV.nil] at hy
  clear hY hcol hb hb1
  gi_wp2
  refine hR.mono ?_
  rintro e4 W4 ⟨X4, g4, (⟨rfl, j4⟩ | ⟨rfl, j4⟩)⟩
  · gi_wp2
    refine ⟨_, results_none rfl _ _ _, ⟨_, rfl⟩, X4, (below_gr hX hbx).trans g4 hbx.size, .inl j4⟩
  · gi_wp2
    refine ⟨_, results_none rfl _ _ _, ⟨_, rfl⟩, X4, (below_gr hX hbx).trans g4 hbx.size, .inr ⟨_, List.prefix_refl _, j4⟩⟩
set_option maxRecDepth 100000 in
set_option maxHeartbeats 4000000 in
theorem among1_ok (n : Nat) (hn : 6 ≤ n) (l A B D : Nat) (is : Bool) (ga : FuncId) (la : Array Value) (vb : Value) (pa pb : List Pr) (Ra Rb : Nat → Prop)
    (J Jx : List (RV × Int) → (Nat → Prop) → World → Prop) (X : Nat → Prop) (W : World) (hX : ∀ j, X j → j < W.heap.size) (hJ : Stable W.heap.size J) (hJx : Stable W.heap.size Jx)
    (hA : A < W.heap.size) (hB : B < W.heap.size ∧ ¬ X B) (hD : D < W.heap.size ∧ ¬ X D) (hca : W.cell? ⟨A, 0, none⟩ = some vb) (hcb : W.cell? ⟨B, 0, none⟩ = some (.func (.func ga) #[] la)) (hcd : W.cell? ⟨D, 0, none⟩ = some (.bool is))
    (ega : ∀ args w, (callFunc ga args).run Try.prog w = .ok (.enter ga args) w) (hqa : ∀ n, Seq Fence.wide n Try.prog ga la enc (pa.map Prod.fst) Ra W) (hRa : ∀ j, Ra j → j < W.heap.size ∧ ¬ X j)
    (hrows : ∀ p ∈ pa, p.1.2 = 0 → Cont W p.1.1 p.2 ∧ p.1.1.n ≤ 1000 ∧ ∀ j, p.1.1.blk j → Ra j) (hb : ItC vb pb Rb W) (hlb : pb.length ≤ 100000) (heb : errOf pb = 0) (rowsB : List (List V3)) (hrB : rowsB = pb.map Prod.snd)
    (hY : ∀ pre x X1 W1, (pre ++ [x]) <+: (amL is rowsB pa).map Prod.fst → J pre X1 W1 → Gr X X1 W.heap.size W W1 → YieldAt Fence.wide (n - 1) Try.prog l (enc x) W1 fun e W' =>
      ∃ X', Gr X1 X' W1.heap.size W1 W' ∧ ((e = .returned (.bool true) ∧ J (pre ++ [x]) X' W') ∨ (e = .returned (.bool false) ∧ Jx (pre ++ [x]) X' W')))
    (h0 : J [] X W) :
    CallsIn Fence.wide n Try.prog 69 #[.func (.yield l) #[] #[], .pointer (some ⟨A, 0, none⟩), .pointer (some ⟨B, 0, none⟩), .pointer (some ⟨D, 0, none⟩)] W fun e W' => (∃ v, e = .returned v) ∧
      ∃ X', Gr X X' W.heap.size W W' ∧ (J ((amL is rowsB pa).map Prod.fst) X' W' ∨ ∃ pre, pre <+: (amL is rowsB pa).map Prod.fst ∧ Jx pre X' W') := by
  have hro : Fence.wide.round = none := rfl
  have hmx : Try.prog.follows .mixedOrders = true := by kernel_rfl
  have h1 : 1 ≤ n := by omega
  have hfn : ∀ (w : World) (g : FuncId) (lb : Array Value), (binOp .eql 31 (.func (.func g) #[] lb) .nilFunc).run Try.prog w = .ok (.bool false) w := fun _ _ _ => rfl
  have cY := Boxed.new W 72 (.func (.yield l) #[] #[])
  have hbel : Below W.heap.size W (W.alloc (.cells #[.func (.yield l) #[] #[]] 72)) := (Below.refl _ W).alloc (Nat.le_refl _) _
  have hsz : (W.alloc (.cells #[.func (.yield l) #[] #[]] 72)).heap.size = W.heap.size + 1 := by simp
  have hcaA := (cell_of_block (hbel.block A hA) 0).trans hca
  have hb1 := hb.below hbel
  refine callsIn_of_wp_marks Try.func69 rfl trivial ?_ hro
  simp only [Try.ntmps69, List.size_toArray, List.length_cons, List.length_nil, Nat.reduceAdd, Nat.reduceSub, Array.replicate_succ, Array.replicate_zero, List.push_toArray, List.append_toArray, List.nil_append, List.cons_append]
  generalize hW1 : W.alloc (.cells #[.func (.yield l) #[] #[]] 72) = W1 at cY hbel hsz hcaA hb1
  have hcol := collect_c (n - 1) (by omega) vb pb Rb W1 hb1 hlb
  gi_upto_region 2 with (refine ⟨trivial, ?_⟩; gi_at_call 19; refine hcol.mono ?_; rintro e w2 ⟨hb2, ⟨_, sv, rfl, hz, hown⟩ | ⟨hx, _⟩⟩; (obtain ⟨sa, sk, sc, rfl⟩ := hown.shape); rotate_left; exact absurd heb hx)
  have hbx := below_step hbel (hb2.alloc (by have := hb2.size; omega) (.cells #[.slice sa sk sc] 22)) (by omega)
  have cYx := (cell_of_block ((hb2.alloc (by have := hb2.size; omega) (.cells #[.slice sa sk sc] 22)).block W.heap.size (by omega)) 0).trans (Boxed.cell cY)
  have cLx := Boxed.new w2 22 (.slice sa sk sc)
  have hownx : OwnB (fun j => W1.heap.size ≤ j ∧ j < w2.heap.size) (w2.alloc (.cells #[.slice sa sk sc] 22)) (.slice sa sk sc) (pb.map Prod.snd) := hown.same (by simp) (fun j hj => Below.heap_alloc _ _ _ hj.2)
  have hszx : w2.heap.size < (w2.alloc (.cells #[.slice sa sk sc] 22)).heap.size := by simp
  generalize w2.alloc (.cells #[.slice sa sk sc] 22) = Wx at hbx cYx cLx hownx hszx ⊢
  have hw2 := hb2.size
  have hcbx := (cell_of_block (hbx.block B hB.1) 0).trans hcb
  generalize hNL : w2.heap.size = NL at cLx hownx hszx hw2 ⊢
  clear hcol hb1 hown hb2 cY
  gi_upto_region 6 with fail
  have hby := below_step hbx ((Below.refl _ Wx).alloc (Nat.le_refl _) (.cells #[.func (.func 70) #[] #[.pointer (some ⟨NL, 0, none⟩)]] 84)) hbx.size
  have bAl := fun j (hj : j < Wx.heap.size) => Below.heap_alloc Wx (.cells #[.func (.func 70) #[] #[.pointer (some ⟨NL, 0, none⟩)]] 84) j hj
  have cYy := (cell_of_block (bAl W.heap.size (by have := hbx.size; omega)) 0).trans cYx
  have cLy := (cell_of_block (bAl NL (by omega)) 0).trans (Boxed.cell cLx)
  have cFy := Boxed.cell (Boxed.new Wx 84 (.func (.func 70) #[] #[.pointer (some ⟨NL, 0, none⟩)]))
  have hFy : Wx.heap.size < (Wx.alloc (.cells #[.func (.func 70) #[] #[.pointer (some ⟨NL, 0, none⟩)]] 84)).heap.size := by simp
  have hownx := hownx.same (W' := Wx.alloc (.cells #[.func (.func 70) #[] #[.pointer (some ⟨NL, 0, none⟩)]] 84)) (by simp) (fun j hj => bAl j (by omega))
  have hbxs := hbx.size
  generalize hNF : Wx.heap.size = NF at cFy hFy hszx hbxs ⊢
  generalize Wx.alloc (.cells #[.func (.func 70) #[] #[.pointer (some ⟨NL, 0, none⟩)]] 84) = Wy at hby cYy cLy cFy hFy hownx ⊢
  clear bAl cYx cLx hbx hcbx hNF
  have hcby := (cell_of_block (hby.block B hB.1) 0).trans hcb
  rw [← hrB] at hownx
  have hlr : rowsB.length ≤ 100000 := by rw [hrB, List.length_map]; exact hlb
  clear hrB hz heb hlb
  have hXlt : ∀ j, X j → j < Wy.heap.size := fun j hj => Nat.lt_of_lt_of_le (hX j hj) hby.size
  have hI : Stable Wy.heap.size (AI (amL is rowsB pa) (fun k => amL is rowsB (pa.drop k)) J X W) := AI.stable hJ hby.size
  have hIX : ∀ c, Stable Wy.heap.size (AX (amL is rowsB pa) J Jx X W c) := AX.stable hJ hJx hby.size
  gi_wp2
  refine wpIn_rangeFunc_sep hro h1 (gf := ga) (lb := la) rfl trivial ega (hqa (n - 1)) (fun _ => rfl) X hby.size (fun j hj => ⟨(hRa j hj).1, (hRa j hj).2, hby.block j (hRa j hj).1⟩) hXlt
    _ _ hI hIX ⟨[], rfl, hJ _ _ _ _ h0 (below_agree hX hby), below_gr hX hby⟩ ?round ?done ?stop
  case round =>
    rintro lab pre ⟨⟨ra, rn, rc⟩, e⟩ X1 Wa hl hpre ⟨out, b1, b2, b3⟩ hg hXl hlt
    obtain ⟨row, hdrop, hmem⟩ := drop_at hpre
    have b1' : Aside (amL is rowsB pa = out ++ amL is rowsB (pa.drop pre.length)) := b1
    have hdrop' : Aside (pa.drop pre.length = ((⟨ra, rn, rc⟩, e), row) :: pa.drop (pre.length + 1)) := hdrop
    clear b1 hdrop
    have hl2 : Wy.heap.size < lab := by omega
    clear hl
    gi_wp2
    refine ⟨fun _ _ _ => trivial, Nat.le_refl _, trivial, trivial, trivial, ?_⟩
    intro W3 z1 z2 z3 z4 z5
    have hag3 : Agree X1 W.heap.size Wa W3 := ⟨z2, z3, z4, by omega, fun j hj => z5 j (by rintro rfl; rcases hj with h | h; exact hXl h; have := hby.size; omega)⟩
    have hJ3 := hJ _ _ _ _ b2 hag3
    have hg3 : Gr X X1 W.heap.size W W3 := ⟨z2.trans b3.os, z3.trans b3.tape, z4.trans b3.output, by rw [z1]; exact b3.size, fun j hj hx => (z5 j (by have := hby.size; omega)).trans (b3.block j hj hx), b3.sub, fun j hj => by rw [z1]; exact b3.lt j hj⟩
    have hgy : ∀ j, j < Wy.heap.size → ¬ X j → W3.heap[j]? = Wy.heap[j]? := fun j hj hx => (z5 j (by omega)).trans (hg.block j hj hx)
    have nX : ∀ j, W.heap.size ≤ j → ¬ X j := fun j hj hx => by have := hX j hx; omega
    have cY3 := (cell_of_block (hgy W.heap.size (by omega) (nX _ (Nat.le_refl _))) 0).trans cYy
    have cL3 := (cell_of_block (hgy NL (by omega) (nX _ (by omega))) 0).trans cLy
    have cF3 := (cell_of_block (hgy NF (by omega) (nX _ (by omega))) 0).trans cFy
    have cD3 := (cell_of_block (hg3.block D hD.1 hD.2) 0).trans hcd
    have hz3 : W3.heap.size = Wa.heap.size := z1
    have b1 := b1'.out
    rw [hdrop'.out] at b1
    by_cases he : e = 0
    · subst he
      obtain ⟨r1, r2, r3⟩ := hrows _ hmem rfl
      have hC3 : Cont W3 ⟨ra, rn, rc⟩ row := r1.same hg3.size (fun j hj => hg3.block j (hRa j (r3 j hj)).1 (hRa j (r3 j hj)).2)
      have hown3 : OwnB (fun j => W1.heap.size ≤ j ∧ j < NL) W3 (.slice sa sk sc) rowsB := hownx.same (by have := hg.size; omega) (fun j hj => hgy j (by omega) (nX j (by omega)))
      clear b1
      gi_wp2
      obtain ⟨t, ht⟩ : ∃ t, (rowsB.any fun s => eqRow s row) = t := ⟨_, rfl⟩
      have hin70 := fun (w : World) (hb : Below W3.drew.heap.size W3.drew w) => in70_ok ra rn rc NL (.slice sa sk sc) rowsB row w hlr ((cell_of_block (hb.block NL (by have := hg.size; change _ < W3.heap.size; omega)) 0).trans cL3) (hown3.own.below (below_drew hb)) (hC3.below (below_drew hb))
      rw [ht] at hin70
      have hLo : ∀ (B : Nat) (v : Value), W3.cell? ⟨B, 0, none⟩ = some v → ∀ w, Below W3.drew.heap.size W3.drew w → w.cell? ⟨B, 0, none⟩ = some v := fun B v hv w hb => (cell_of_block (hb.block B (cell_lt hv)) 0).trans hv
      have hYY : (t == is) = true → ∀ w, Below W3.drew.heap.size W3.drew w → YieldAt Fence.wide (n - 1 - 1 - 1) Try.prog l (enc (⟨ra, rn, rc⟩, 0)) w fun e W' => ∃ b, e = .returned (.bool b) ∧ APost J Jx X X1 W Wa.heap.size W3 (out.map Prod.fst ++ [(⟨ra, rn, rc⟩, 0)]) b W' := by
        intro hg2 w hb
        have hpre2 : out.map Prod.fst ++ [((⟨ra, rn, rc⟩ : RV), (0 : Int))] <+: (amL is rowsB pa).map Prod.fst := by
          have b1 := b1'.out
          rw [hdrop'.out, amL, if_pos rfl, if_pos (by rw [ht]; simpa using hg2)] at b1
          rw [b1]; simp
        have hltX : ∀ j, X1 j → j < W3.drew.heap.size := fun j hj => by have := hg.lt j hj; change j < W3.heap.size; omega
        have hag : Agree X1 W.heap.size W3 w := ⟨hb.os, hb.tape, hb.output, hb.size, fun j hj => hb.block j (by rcases hj with h | h; exact hltX j h; have := hg3.size; change j < W3.heap.size; omega)⟩
        have hgw : Gr X X1 W.heap.size W w := ⟨hb.os.trans hg3.os, hb.tape.trans hg3.tape, hb.output.trans hg3.output, Nat.le_trans hg3.size hb.size, fun j hj hx => (hb.block j (Nat.lt_of_lt_of_le hj hg3.size)).trans (hg3.block j hj hx), hg3.sub, fun j hj => Nat.lt_of_lt_of_le (hg3.lt j hj) hb.size⟩
        refine yield_mono (yield_wide (hY _ _ X1 w hpre2 (hJ _ _ _ _ hJ3 hag) hgw)) ?_
        rintro e W' ⟨X4, g4, h⟩
        have g5 := hgw.trans g4 hgw.size
        have g6 : Gr X1 X4 Wa.heap.size W3 W' := ⟨g4.os.trans hb.os, g4.tape.trans hb.tape, g4.output.trans hb.output, Nat.le_trans hb.size g4.size, fun j hj hx => (g4.block j (by have := hb.size; change W3.heap.size ≤ _ at this; omega) hx).trans (hb.block j (by change j < W3.heap.size; omega)), fun j hj => (g4.sub j hj).imp id (fun h => by have := hb.size; change W3.heap.size ≤ _ at this; omega), g4.lt⟩
        rcases h with ⟨rfl, j4⟩ | ⟨rfl, j4⟩
        · exact ⟨true, rfl, X4, g6, g5, j4⟩
        · exact ⟨false, rfl, X4, g6, g5, j4⟩
      obtain ⟨g, hgg⟩ : ∃ g, (t == is) = g := ⟨_, rfl⟩
      rw [hgg] at hYY
      have hst0 : Aside (g = false → amL is rowsB pa = out ++ amL is rowsB (pa.drop (pre.length + 1))) := by
        intro hg0
        have b1 := b1'.out
        rw [hdrop'.out, amL, if_pos rfl, if_neg (by rw [ht]; rw [← hgg] at hg0; simpa using hg0)] at b1
        exact b1
      have hst1 : Aside (g = true → amL is rowsB pa = (out ++ [((⟨ra, rn, rc⟩, 0), row)]) ++ amL is rowsB (pa.drop (pre.length + 1))) := by
        intro hg0
        have b1 := b1'.out
        rw [hdrop'.out, amL, if_pos rfl, if_pos (by rw [ht]; rw [← hgg] at hg0; simpa using hg0)] at b1
        rw [b1]; simp
      clear ht
      refine wpIn_region_inv hmx (by kernel_rfl) ICl ?hcl (ISt [Value.func (Fn.yield l) #[] #[], Value.pointer (some { block := A, off := 0 }), Value.pointer (some { block := B, off := 0 }), Value.pointer (some { block := D, off := 0 }), Value.pointer (some { block := W.heap.size, off := 0 }), Value.pointer (some { block := NL, off := 0 }), Value.int IntKind.i64 0, Value.pointer (some { block := NF, off := 0 }), Value.slice ra rn rc, Value.int IntKind.i64 0, Value.tuple #[Value.slice sa sk sc, Value.int IntKind.i64 0], vb, Value.tuple #[Value.slice sa sk sc, Value.int IntKind.i64 0], Value.slice sa sk sc, Value.int IntKind.i64 0, Value.int IntKind.i64 0, Value.bool false, undef, undef, undef, Value.func (Fn.func ga) #[] la, Value.bool false, Value.func (Fn.func 70) #[] #[Value.pointer (some { block := NL, off := 0 })], Value.func (Fn.func ga) #[] la, Value.slice ra rn rc, Value.int IntKind.i64 0, Value.int IntKind.i64 0, Value.bool false, undef, undef, undef] W3.drew (.func (.func 70) #[] #[.pointer (some ⟨NL, 0, none⟩)]) (.func (.yield l) #[] #[]) (.slice ra rn rc) t is g (APost J Jx X X1 W Wa.heap.size W3 (out.map Prod.fst ++ [(⟨ra, rn, rc⟩, 0)]))) ?hst ?hops ?hend
      case hcl =>
        intro d h
        have m : ∀ (i : Nat) (o : Oper) (e : Edge), _ → d i = true → e ∈ o.after → Region.binds .any e = true → d e.on = true := fun i o e ho hd he hb => h i o ho hd e he hb
        exact ⟨fun q => ⟨m 2 _ ⟨0, .data⟩ rfl q (by simp) rfl, m 2 _ ⟨1, .data⟩ rfl q (by simp) rfl⟩, fun q => ⟨m 4 _ ⟨2, .data⟩ rfl q (by simp) rfl, m 4 _ ⟨3, .data⟩ rfl q (by simp) rfl⟩, fun q => m 5 _ ⟨4, .data⟩ rfl q (by simp) rfl, fun q => m 6 _ ⟨5, .guard⟩ rfl q (by simp) rfl, fun q => m 7 _ ⟨5, .guard⟩ rfl q (by simp) rfl, fun q => ⟨m 8 _ ⟨6, .data⟩ rfl q (by simp) rfl, m 8 _ ⟨7, .data⟩ rfl q (by simp) rfl⟩, fun q => m 9 _ ⟨8, .data⟩ rfl q (by simp) rfl, fun q => m 10 _ ⟨9, .data⟩ rfl q (by simp) rfl⟩
      case hst => exact ⟨undef, undef, undef, undef, undef, undef, undef, undef, undef, undef, undef, rfl, nofun, nofun, nofun, nofun, nofun, nofun, nofun, nofun, fun _ => Below.refl _ _, nofun, nofun⟩
      case hops =>
        refine ⟨?_, ?_, ?_, ?_, ?_, ?_, ?_, ?_, ?_, ?_, ?_, trivial⟩
        · rintro d a w hd hc hc2 ⟨x31, x32, x33, x34, x35, x36, x37, x38, x39, x40, x41, rfl, h0, h1, h2, h3, h4, h5, h6, h7, hw, h8, h10⟩ K hK
          have d8 : d 8 = false := by cases q : d 8 with | false => rfl | true => exact absurd (hc.1 (hc.2.1 (hc.2.2.1 (hc.2.2.2.1 (hc.2.2.2.2.2.1 q).1))).1).1 (by rw [hd]; decide)
          have hlow := hw (.inl d8)
          have hcell := hLo NF _ cF3 w hlow
          refine if_intro (by rfl) ?_
          go_simp
          exact hK _ _ ⟨_, x32, x33, x34, x35, x36, x37, x38, x39, x40, x41, rfl, fun _ => rfl, h1, h2, h3, h4, h5, h6, h7, hw, h8, h10⟩
        · rintro d a w hd hc hc2 ⟨x31, x32, x33, x34, x35, x36, x37, x38, x39, x40, x41, rfl, h0, h1, h2, h3, h4, h5, h6, h7, hw, h8, h10⟩ K hK
          have d8 : d 8 = false := by cases q : d 8 with | false => rfl | true => exact absurd (hc.1 (hc.2.1 (hc.2.2.1 (hc.2.2.2.1 (hc.2.2.2.2.2.1 q).1))).1).2 (by rw [hd]; decide)
          have hlow := hw (.inl d8)
          refine if_intro (by rfl) ?_
          go_simp
          exact hK _ _ ⟨x31, _, x33, x34, x35, x36, x37, x38, x39, x40, x41, rfl, h0, fun _ => rfl, h2, h3, h4, h5, h6, h7, hw, h8, h10⟩
        · rintro d a w hd hc hc2 ⟨x31, x32, x33, x34, x35, x36, x37, x38, x39, x40, x41, rfl, h0, h1, h2, h3, h4, h5, h6, h7, hw, h8, h10⟩ K hK
          have d8 : d 8 = false := by cases q : d 8 with | false => rfl | true => exact absurd (hc.2.1 (hc.2.2.1 (hc.2.2.2.1 (hc.2.2.2.2.2.1 q).1))).1 (by rw [hd]; decide)
          have hlow := hw (.inl d8)
          obtain rfl := h0 (hc2.1 rfl).1
          obtain rfl := h1 (hc2.1 rfl).2
          refine if_intro (by rfl) ?_
          go_simp
          refine ⟨trivial, (fun h => by cases h), ?_⟩
          refine (CallsIn.inRound _ (callsIn_wide.2 (hin70 w hlow))).mono ?_
          rintro e4 w4 ⟨rfl, hb4⟩
          exact hK _ _ ⟨_, _, _, x34, x35, x36, x37, x38, x39, x40, x41, rfl, h0, h1, fun _ => rfl, h3, h4, h5, h6, h7, fun _ => below_step hlow hb4 hlow.size, fun q => absurd q (by change ¬ (d 8 = true); rw [d8]; decide), h10⟩
        · rintro d a w hd hc hc2 ⟨x31, x32, x33, x34, x35, x36, x37, x38, x39, x40, x41, rfl, h0, h1, h2, h3, h4, h5, h6, h7, hw, h8, h10⟩ K hK
          have d8 : d 8 = false := by cases q : d 8 with | false => rfl | true => exact absurd (hc.2.1 (hc.2.2.1 (hc.2.2.2.1 (hc.2.2.2.2.2.1 q).1))).2 (by rw [hd]; decide)
          have hlow := hw (.inl d8)
          have hcell := hLo D _ cD3 w hlow
          refine if_intro (by rfl) ?_
          go_simp
          exact hK _ _ ⟨x31, x32, x33, _, x35, x36, x37, x38, x39, x40, x41, rfl, h0, h1, h2, fun _ => rfl, h4, h5, h6, h7, hw, h8, h10⟩
        · rintro d a w hd hc hc2 ⟨x31, x32, x33, x34, x35, x36, x37, x38, x39, x40, x41, rfl, h0, h1, h2, h3, h4, h5, h6, h7, hw, h8, h10⟩ K hK
          have d8 : d 8 = false := by cases q : d 8 with | false => rfl | true => exact absurd (hc.2.2.1 (hc.2.2.2.1 (hc.2.2.2.2.2.1 q).1)) (by rw [hd]; decide)
          have hlow := hw (.inl d8)
          obtain rfl := h2 (hc2.2.1 rfl).1
          obtain rfl := h3 (hc2.2.1 rfl).2
          refine if_intro (by rfl) ?_
          go_simp
          exact hK _ _ ⟨x31, x32, _, _, _, x36, x37, x38, x39, x40, x41, rfl, h0, h1, h2, h3, fun _ => by rw [← hgg], h5, h6, h7, hw, h8, h10⟩
        · rintro d a w hd hc hc2 ⟨x31, x32, x33, x34, x35, x36, x37, x38, x39, x40, x41, rfl, h0, h1, h2, h3, h4, h5, h6, h7, hw, h8, h10⟩ K hK
          have d8 : d 8 = false := by cases q : d 8 with | false => rfl | true => exact absurd (hc.2.2.2.1 (hc.2.2.2.2.2.1 q).1) (by rw [hd]; decide)
          have hlow := hw (.inl d8)
          obtain rfl := h4 (hc2.2.2.1 rfl)
          refine if_intro (by rfl) ?_
          go_simp
          exact hK _ _ ⟨x31, x32, x33, x34, _, _, x37, x38, x39, x40, x41, rfl, h0, h1, h2, h3, h4, fun _ => rfl, h6, h7, hw, h8, h10⟩
        · rintro d a w hd hc hc2 ⟨x31, x32, x33, x34, x35, x36, x37, x38, x39, x40, x41, rfl, h0, h1, h2, h3, h4, h5, h6, h7, hw, h8, h10⟩ K hK
          have d8 : d 8 = false := by cases q : d 8 with | false => rfl | true => exact absurd (hc.2.2.2.2.2.1 q).1 (by rw [hd]; decide)
          have hlow := hw (.inl d8)
          obtain rfl := h5 (hc2.2.2.2.1 rfl)
          cases g with
          | false =>
            refine if_outro (by change ¬ (false = true); decide) ⟨fun _ _ => trivial, hK _ _ ⟨x31, x32, x33, x34, x35, _, _, x38, x39, x40, x41, rfl, h0, h1, h2, h3, h4, h5, fun _ q => Bool.noConfusion q, h7, hw, h8, h10⟩⟩
          | true =>
            have hcell := hLo W.heap.size _ cY3 w hlow
            refine if_intro (by rfl) ?_
            go_simp
            exact hK _ _ ⟨x31, x32, x33, x34, x35, _, _, x38, x39, x40, x41, rfl, h0, h1, h2, h3, h4, h5, fun _ _ => rfl, h7, hw, h8, h10⟩
        · rintro d a w hd hc hc2 ⟨x31, x32, x33, x34, x35, x36, x37, x38, x39, x40, x41, rfl, h0, h1, h2, h3, h4, h5, h6, h7, hw, h8, h10⟩ K hK
          have d8 : d 8 = false := by cases q : d 8 with | false => rfl | true => exact absurd (hc.2.2.2.2.2.1 q).2 (by rw [hd]; decide)
          have hlow := hw (.inl d8)
          obtain rfl := h5 (hc2.2.2.2.2.1 rfl)
          cases g with
          | false =>
            refine if_outro (by change ¬ (false = true); decide) ⟨fun _ _ => trivial, hK _ _ ⟨x31, x32, x33, x34, x35, _, x37, _, x39, x40, x41, rfl, h0, h1, h2, h3, h4, h5, h6, fun _ q => Bool.noConfusion q, hw, h8, h10⟩⟩
          | true =>
            refine if_intro (by rfl) ?_
            go_simp
            exact hK _ _ ⟨x31, x32, x33, x34, x35, _, x37, _, x39, x40, x41, rfl, h0, h1, h2, h3, h4, h5, h6, fun _ _ => rfl, hw, h8, h10⟩
        · rintro d a w hd hc hc2 ⟨x31, x32, x33, x34, x35, x36, x37, x38, x39, x40, x41, rfl, h0, h1, h2, h3, h4, h5, h6, h7, hw, h8, h10⟩ K hK
          have d8 := hd
          have hlow := hw (.inl d8)
          obtain rfl := h5 (hc.2.2.2.1 (hc2.2.2.2.2.2.1 rfl).1)
          cases g with
          | false =>
            refine if_outro (by change ¬ (false = true); decide) ⟨fun _ _ => trivial, hK _ _ ⟨x31, x32, x33, x34, x35, _, x37, x38, _, x40, x41, rfl, h0, h1, h2, h3, h4, h5, h6, h7, fun _ => hlow, fun _ q => Bool.noConfusion q, h10⟩⟩
          | true =>
            obtain rfl := h6 (hc2.2.2.2.2.2.1 rfl).1 rfl
            obtain rfl := h7 (hc2.2.2.2.2.2.1 rfl).2 rfl
            obtain ⟨fn, tmps, assign, body, hy, hR⟩ := hYY rfl w hlow
            dsimp only [enc] at hy
            refine if_intro (by rfl) ?_
            go_simp
            refine ⟨(fun h => by cases h), ?_⟩
            refine (show RoundIn (Fence.wide.inRound lab) (n - 1 - 1 - 1) Try.prog l fn tmps assign body w _ from hR).mono ?_
            rintro e4 w4 ⟨b, rfl, hp⟩
            have d9 : d 9 = false := by cases q : d 9 with | false => rfl | true => exact absurd (hc.2.2.2.2.2.2.1 q) (by rw [hd]; decide)
            have d10 : d 10 = false := by cases q : d 10 with | false => rfl | true => exact absurd (hc.2.2.2.2.2.2.2 q) (by rw [d9]; decide)
            exact hK _ _ ⟨x31, x32, x33, x34, x35, _, _, _, _, x40, x41, rfl, h0, h1, h2, h3, h4, h5, h6, h7, fun q => absurd q (by rintro (q | q) <;> cases q), fun _ _ => ⟨b, rfl, hp, fun q => absurd q (by change ¬ (d 9 = true); rw [d9]; decide), fun q => absurd q (by change ¬ (d 10 = true); rw [d10]; decide)⟩, h10⟩
        · rintro d a w hd hc hc2 ⟨x31, x32, x33, x34, x35, x36, x37, x38, x39, x40, x41, rfl, h0, h1, h2, h3, h4, h5, h6, h7, hw, h8, h10⟩ K hK
          obtain ⟨e8⟩ : PLift (d 8 = true) := ⟨hc2.2.2.2.2.2.2.1 rfl⟩
          obtain rfl := h5 (hc.2.2.2.1 (hc.2.2.2.2.2.1 e8).1)
          have d10 : d 10 = false := by cases q : d 10 with | false => rfl | true => exact absurd (hc.2.2.2.2.2.2.2 q) (by rw [hd]; decide)
          cases g with
          | false => refine if_outro (by change ¬ (false = true); decide) ⟨fun _ _ => trivial, hK _ _ ⟨x31, x32, x33, x34, x35, _, x37, x38, x39, _, x41, rfl, h0, h1, h2, h3, h4, h5, h6, h7, hw, fun _ q => Bool.noConfusion q, h10⟩⟩
          | true =>
            obtain ⟨b, rfl, hp, h9, h11⟩ := h8 e8 rfl
            refine if_intro (by rfl) ?_
            go_simp
            exact hK _ _ ⟨x31, x32, x33, x34, x35, _, x37, x38, _, _, x41, rfl, h0, h1, h2, h3, h4, h5, h6, h7, hw, fun _ _ => ⟨b, rfl, hp, fun _ => rfl, fun q => absurd q (by change ¬ (d 10 = true); rw [d10]; decide)⟩, h10⟩
        · rintro d a w hd hc hc2 ⟨x31, x32, x33, x34, x35, x36, x37, x38, x39, x40, x41, rfl, h0, h1, h2, h3, h4, h5, h6, h7, hw, h8, h10⟩ K hK
          obtain ⟨e9⟩ : PLift (d 9 = true) := ⟨hc2.2.2.2.2.2.2.2 rfl⟩
          obtain ⟨e8⟩ : PLift (d 8 = true) := ⟨hc.2.2.2.2.2.2.1 e9⟩
          obtain rfl := h5 (hc.2.2.2.1 (hc.2.2.2.2.2.1 e8).1)
          refine if_intro (by rfl) ?_
          cases g with
          | false =>
            go_simp
            exact hK _ _ ⟨x31, x32, x33, x34, x35, _, x37, x38, x39, x40, _, rfl, h0, h1, h2, h3, h4, h5, h6, h7, hw, fun _ q => Bool.noConfusion q, fun _ _ => rfl⟩
          | true =>
            obtain ⟨b, rfl, hp, h9, h11⟩ := h8 e8 rfl
            obtain rfl := h9 e9
            go_simp
            exact hK _ _ ⟨x31, x32, x33, x34, x35, _, x37, x38, _, _, _, rfl, h0, h1, h2, h3, h4, h5, h6, h7, hw, fun _ _ => ⟨b, rfl, hp, fun _ => rfl, fun _ => rfl⟩, fun _ q => Bool.noConfusion q⟩
      case hend =>
        rintro d a w hall ⟨x31, x32, x33, x34, x35, x36, x37, x38, x39, x40, x41, rfl, h0, h1, h2, h3, h4, h5, h6, h7, hw, h8, h10⟩
        have dd : ∀ i, i < 11 → d i = true := hall
        obtain rfl := h5 (dd 5 (by decide))
        cases g with
        | false =>
          obtain rfl := h10 (dd 10 (by decide)) rfl
          have hlow := hw (.inr rfl)
          clear hYY hin70 hLo
          gi_wp2
          have hlow2 := below_drew hlow
          have hwa : Wa.heap.size ≤ W3.heap.size := Nat.le_of_eq hz3.symm
          have hltX : ∀ j, X1 j → j < W3.heap.size := fun j hj => Nat.lt_of_lt_of_le (hg.lt j hj) hwa
          have hag : Agree X1 W.heap.size W3 w := ⟨hlow2.os, hlow2.tape, hlow2.output, hlow2.size, fun j hj => hlow2.block j (by rcases hj with h | h; exact hltX j h; exact Nat.lt_of_lt_of_le h hg3.size)⟩
          have hgw : Gr X X1 W.heap.size W w := ⟨hlow2.os.trans hg3.os, hlow2.tape.trans hg3.tape, hlow2.output.trans hg3.output, Nat.le_trans hg3.size hlow2.size, fun j hj hx => (hlow2.block j (Nat.lt_of_lt_of_le hj hg3.size)).trans (hg3.block j hj hx), hg3.sub, fun j hj => Nat.lt_of_lt_of_le (hg3.lt j hj) hlow2.size⟩
          refine ⟨X1, ⟨hlow2.os, hlow2.tape, hlow2.output, hlow2.size, fun j hj _ => hlow2.block j (Nat.lt_of_lt_of_le hj hwa), fun j hj => .inl hj, fun j hj => Nat.lt_of_lt_of_le (hltX j hj) hlow2.size⟩, out, ?_, hJ _ _ _ _ hJ3 hag, hgw⟩
          rw [List.length_append]; exact hst0.out trivial
        | true =>
          obtain ⟨b, rfl, hp, h9, h11⟩ := h8 (dd 8 (by decide)) rfl
          obtain rfl := h11 (dd 10 (by decide))
          clear hYY hin70 hLo
          cases b with
          | true =>
            gi_wp2
            obtain ⟨X4, g6, g5, j4⟩ := hp
            refine ⟨X4, g6, out ++ [((⟨ra, rn, rc⟩, 0), row)], ?_, ?_, g5⟩
            · rw [List.length_append]; exact hst1.out trivial
            · rw [List.map_append]; exact j4
          | false =>
            gi_wp2
            obtain ⟨X4, g6, g5, j4⟩ := hp
            refine ⟨X4, g6, rfl, g5, .inr ⟨_, ?_, j4⟩⟩
            rw [hst1.out trivial]; simp
    · have hne : (e != 0) = true := by simpa using he
      rw [amL, if_neg he] at b1
      have hp1 : out.map Prod.fst ++ [((RV.nil : RV), e)] = (amL is rowsB pa).map Prod.fst := by rw [b1]; simp
      obtain ⟨fn, tmps, assign, body, hy, hR⟩ := yield_wide (m := n - 1 - 1 - 1) (hY _ (RV.nil, e) X1 W3 (by rw [hp1]; exact List.prefix_refl _) hJ3 hg3)
      dsimp only [enc, RV.nil] at hy
      have hR' : RoundIn (Fence.wide.inRound lab) (n - 1 - 1 - 1) Try.prog l fn tmps assign body W3 _ := hR
      clear hR b1
      rw [hp1] at hR'
      gi_wp2
      refine ⟨(fun h => by cases h), ?_⟩
      refine hR'.mono ?_
      rintro e4 W4 ⟨X4, g4, (⟨rfl, j4⟩ | ⟨rfl, j4⟩)⟩
      · gi_wp2
        have g5 := hg3.trans g4 hg3.size
        rw [hz3] at g4
        exact ⟨X4, g4, rfl, g5, .inl j4⟩
      · gi_wp2
        have g5 := hg3.trans g4 hg3.size
        rw [hz3] at g4
        exact ⟨X4, g4, rfl, g5, .inr ⟨_, List.prefix_refl _, j4⟩⟩
  case done =>
    rintro Xd Wd ⟨out, b1, b2, b3⟩ hg hn hK
    have b1' : amL is rowsB pa = out ++ amL is rowsB (pa.drop (pa.map Prod.fst).length) := b1
    rw [List.length_map, List.drop_length, amL, List.append_nil] at b1'
    have hb : J ((amL is rowsB pa).map Prod.fst) Xd Wd := by rw [b1']; exact b2
    clear b1 b1'
    gi_wp2
    refine ⟨by simp, .inl ⟨_, _, rfl, run_takeDeferred hK, ?_⟩⟩
    exact ⟨_, results_none rfl _ _ _, ⟨_, rfl⟩, Xd, b3.put _ hby.size, .inl (hJ _ _ _ _ hb (agree_put Wd (.deferred none) hn hby.size))⟩
  case stop =>
    rintro c pre Xd Wd _ ⟨rfl, c2, c3⟩ hg hn hK
    gi_wp2
    refine ⟨by simp, .inl ⟨_, _, rfl, run_takeDeferred hK, ?_⟩⟩
    refine ⟨_, results_none rfl _ _ _, ⟨_, rfl⟩, Xd, c2.put _ hby.size, ?_⟩
    rcases c3 with h | ⟨q, hq, h⟩
    · exact .inl (hJ _ _ _ _ h (agree_put Wd (.deferred none) hn hby.size))
    · exact .inr ⟨q, hq, hJx _ _ _ _ h (agree_put Wd (.deferred none) hn hby.size)⟩
end Go.Proofs.Ytghpjlohoehdnaa.Sep
