/- sort.Distinct: each row once. No condition beyond those that each theorem names. -/
import Derived.Test.YtghpjlohoehdnaaSeW
namespace Go.Proofs.Ytghpjlohoehdnaa.Sep
open Go Go.RowKit Go.Shelf
attribute [local go_sem] Oper.semAt_some
set_option linter.unusedVariables false
set_option linter.unusedSimpArgs false
/-- what Distinct's loop knows -/
def DI (zs : List Pr) (rest : List (List V3) → Nat → List Pr) (J : List (RV × Int) → (Nat → Prop) → World → Prop) (X0 : Nat → Prop) (W0 : World) (Mp : Nat) (pre : List (RV × Int)) (X1 : Nat → Prop) (W1 : World) : Prop :=
  ∃ (out : List Pr) (acc : List (List V3)) (Xo Xd : Nat → Prop), zs = out ++ rest acc pre.length ∧ (∀ j, X1 j ↔ Xo j ∨ Xd j) ∧ (∀ j, Xd j → ¬ Xo j ∧ W0.heap.size ≤ j) ∧ J (out.map Prod.fst) Xo W1 ∧ Gr X0 Xo W0.heap.size W0 W1 ∧ (∃ f n, DF f n Mp acc Xd W1) ∧ acc.length ≤ pre.length
theorem gr_agree {X0 Xo : Nat → Prop} {W0 W W' : World} (h2 : Gr X0 Xo W0.heap.size W0 W) (ha : Agree Xo W0.heap.size W W') : Gr X0 Xo W0.heap.size W0 W' :=
  ⟨ha.os.trans h2.os, ha.tape.trans h2.tape, ha.output.trans h2.output, Nat.le_trans h2.size ha.size, fun j hj hx => (ha.block j (.inr (by omega))).trans (h2.block j hj hx), h2.sub, fun j hj => Nat.lt_of_lt_of_le (h2.lt j hj) ha.size⟩
theorem DI.stable {zs : List Pr} {rest : List (List V3) → Nat → List Pr} {J : List (RV × Int) → (Nat → Prop) → World → Prop} {X0 : Nat → Prop} {W0 : World} {Mp n₀ : Nat} (hJ : Stable W0.heap.size J) (hn : W0.heap.size ≤ n₀) : Stable n₀ (DI zs rest J X0 W0 Mp) := by
  rintro pre X W W' ⟨out, acc, Xo, Xd, h0, h1, h2, h3, h4, ⟨f, n, h5⟩, h6⟩ ha
  have ha' : Agree Xo W0.heap.size W W' := ⟨ha.os, ha.tape, ha.output, ha.size, fun j hj => ha.block j (by rcases hj with h | h; exact .inl ((h1 j).2 (.inl h)); exact .inr (by omega))⟩
  exact ⟨out, acc, Xo, Xd, h0, h1, h2, hJ _ _ _ _ h3 ha', gr_agree h4 ha', ⟨f, n, h5.same ha.size (fun j hj => ha.block j (.inl ((h1 j).2 (.inr hj))))⟩, h6⟩
/-- how Distinct's loop is left ahead of its end -/
def DX (zs : List Pr) (J Jx : List (RV × Int) → (Nat → Prop) → World → Prop) (X0 : Nat → Prop) (W0 : World) (c : Code) (pre : List (RV × Int)) (X' : Nat → Prop) (W' : World) : Prop :=
  c = .ret ∧ ∃ Xo, (∀ j, Xo j → X' j) ∧ Gr X0 Xo W0.heap.size W0 W' ∧ (J (zs.map Prod.fst) Xo W' ∨ ∃ q, q <+: zs.map Prod.fst ∧ Jx q Xo W')
theorem DX.stable {zs : List Pr} {J Jx : List (RV × Int) → (Nat → Prop) → World → Prop} {X0 : Nat → Prop} {W0 : World} {n₀ : Nat} (hJ : Stable W0.heap.size J) (hJx : Stable W0.heap.size Jx) (hn : W0.heap.size ≤ n₀) (c : Code) : Stable n₀ (DX zs J Jx X0 W0 c) := by
  rintro pre X' A B ⟨h1, Xo, h2, h3, h4⟩ ha
  have ha' : Agree Xo W0.heap.size A B := ⟨ha.os, ha.tape, ha.output, ha.size, fun j hj => ha.block j (by rcases hj with h | h; exact .inl (h2 j h); exact .inr (by omega))⟩
  refine ⟨h1, Xo, h2, gr_agree h3 ha', ?_⟩
  rcases h4 with h | ⟨q, hq, h⟩
  · exact .inl (hJ _ _ _ _ h ha')
  · exact .inr ⟨q, hq, hJx _ _ _ _ h ha'⟩
theorem contains56 (ra : Option Addr) (rn rc B : Nat) (sv : Value) (rows : List (List V3)) (sr : List V3) (W : World) (hk : rows.length ≤ 100000) (hB : W.cell? ⟨B, 0, none⟩ = some (.slice ra rn rc)) (hl : Own1 W sv rows) (h2 : Cont W ⟨ra, rn, rc⟩ sr) :
    Calls Try.prog 55 #[sv, .func (.func 56) #[] #[.pointer (some ⟨B, 0, none⟩)]] W fun e W' => e = .returned (.bool (rows.any (fun s => eqRow s sr))) ∧ Below W.heap.size W W' := by
  rcases hl with ⟨a0, c0, rfl, rfl⟩ | ⟨b, off, c, rs, rfl, hb, hcs, hrows⟩
  · exact (contains_nil a0 c0 B W).mono (by rintro e w ⟨rfl, rfl⟩; exact ⟨rfl, Below.refl _ _⟩)
  · refine (contains_some b off c rs rows ra rn rc B sr W (by rw [hrows.len]; exact hk) hcs hrows hB h2).mono ?_
    rintro e w ⟨rfl, h1, h2, h3, h4⟩
    exact ⟨rfl, h2, h3, h4, by rw [h1]; exact Nat.le_refl _, fun j hj => by rw [h1]⟩
theorem below_new {W : World} (o : Obj) : Below W.heap.size W (W.alloc o) := (Below.refl _ W).alloc (Nat.le_refl _) o
/-- Distinct's map ahead of the store -/
def DMid (f : Int → Value) (m Mp : Nat) (hs : Int) (Bs : Nat) (Fin : World → Prop) (v' : Value) (w : World) : Prop :=
  w.cell? ⟨Bs, 0, none⟩ = some (.map (some Mp)) ∧ MapF w Mp m f ∧ ∀ w6, MapF w6 Mp (m + 1) (fun j => if j = hs then v' else f j) → w.grownBy w6 (some Mp) → w6.heap.size = w.heap.size → Fin w6
/-- region 15 of Distinct's round: its slots as far as they are reckoned, and its world -/
def DSt (L : List Value) (W5 : World) (f : Int → Value) (m Mp : Nat) (hs : Int) (ra : Option Addr) (k rc : Nat) (row : List V3) (Fin : World → Prop) (d : Nat → Bool) (a : Act) (w : World) : Prop :=
  ∃ x46 x47 x48 x49 x50 x51 x52 x53 x54 : Value, a = { tmps := (L ++ [x46, x47, x48, x49, x50, x51, x52, x53, x54, undef, undef, undef, undef]).toArray, defers := [] } ∧
    (d 0 = true → x46 = .map (some Mp)) ∧
    (d 1 = true → x47 = .int .i64 hs) ∧
    (d 2 = true → x48 = .map (some Mp)) ∧
    (d 3 = true → x49 = .int .i64 hs) ∧
    (d 4 = true → x50 = f hs) ∧
    (d 5 = true → x51 = .slice ra k rc) ∧
    (d 8 = false → Below W5.heap.size W5 w) ∧
    (d 6 = true → d 7 = false → ∃ r' : RV, x52 = r'.v ∧ Cont w r' row ∧ (∀ j, r'.blk j → W5.heap.size ≤ j) ∧ r'.n = row.length) ∧
    (d 7 = true → d 8 = false → ∃ (r' : RV) (g : Nat), x53 = .slice (some ⟨g, 0, none⟩) 1 1 ∧ w.cell? ⟨g, 0, none⟩ = some r'.v ∧ Cont w r' row ∧ (∀ j, r'.blk j → W5.heap.size ≤ j) ∧ r'.n = row.length) ∧
    (d 8 = true → d 9 = false → DMid f m Mp hs (Mp + 1) Fin x54 w) ∧
    (d 9 = true → Fin w)
/-- what is done there has all done that it waits for -/
def DCl (d : Nat → Bool) : Prop := (d 4 = true → d 2 = true ∧ d 3 = true) ∧ (d 6 = true → d 5 = true) ∧ (d 7 = true → d 6 = true) ∧ (d 8 = true → d 4 = true ∧ d 7 = true) ∧ (d 9 = true → (d 0 = true ∧ d 1 = true) ∧ d 8 = true)
/-- what holds behind the store -/
def DFin (Mp M : Nat) (acc : List (List V3)) (Xd : Nat → Prop) (W5 w6 : World) : Prop :=
  (∃ f' n', DF f' n' Mp acc (fun j => Xd j ∨ (M ≤ j ∧ j < w6.heap.size)) w6) ∧ (∀ j, j < W5.heap.size → ¬ Xd j → w6.heap[j]? = W5.heap[j]?) ∧ W5.heap.size ≤ w6.heap.size ∧ w6.os = W5.os ∧ w6.tape = W5.tape ∧ w6.output = W5.output
theorem infoR2 : (Try.prog.info? 48).map (fun i => (i.zero, i.size, i.bytes)) = some (some (.slice none 0 0), 1, 24) := by kernel_rfl
/-- the append of a clone to the list of its key -/
theorem dist_push {f : Int → Value} {m Mp M : Nat} {acc : List (List V3)} {Xd : Nat → Prop} {W5 : World} {row : List V3} {hs : Int} {k : Nat} (hD5 : DF f m Mp acc Xd W5) (hXdM : ∀ j, Xd j → j < M) (hM : M ≤ W5.heap.size) (hrl : row.length = k) (hk : k ≤ 1000)
    (hacc : acc.length ≤ 100000) (hhs : hashR row = hs) (cM5 : W5.cell? ⟨Mp + 1, 0, none⟩ = some (.map (some Mp))) (hXd' : ¬ Xd (Mp + 1)) (w : World) (r' : RV) (g : Nat) (hlow : Below W5.heap.size W5 w) (hg1 : w.cell? ⟨g, 0, none⟩ = some r'.v) (hr1 : Cont w r' row)
    (hr2 : ∀ j, r'.blk j → W5.heap.size ≤ j) (hr3 : r'.n = row.length) :
    ∃ v' w5, (Builtin.append_ #[22, 22] 22 #[f hs, .slice (some ⟨g, 0, none⟩) 1 1]).run Try.prog w = .ok v' w5 ∧ DMid f m Mp hs (Mp + 1) (DFin Mp M (acc ++ [row]) Xd W5) v' w5 := by
  subst hhs
  obtain ⟨i0, hi, hz0, hz1, hz2⟩ := info_parts infoR2
  obtain ⟨rs, o1, o2, o3⟩ := hD5.own (hashR row)
  have hfl : (acc.filter fun s => hashR s == hashR row).length ≤ acc.length := List.length_filter_le _ _
  have hrsl : rs.length ≤ acc.length := by rw [o3.len]; exact hfl
  have ow : w.ownsRow (Mp + 1) 48 1 (f (hashR row)) rs.length (rs.map RV.v) := ownsRow_same (fun j hj => hlow.block j (hD5.lt _ j hj).2) o1
  have hMpl := hD5.map.lt
  obtain ⟨v', w5, hr, h2, h3, h4, h5⟩ := run_append_own_at (P := Try.prog) w (Mp + 1) 22 22 48 i0 (.slice none 0 0) 1 24 Try.underlying22 hi hz0 hz1 hz2 rfl (by decide) (f (hashR row)) rs.length (rs.map RV.v) ow ⟨g, 0, none⟩ 1 1 [r'.v] rfl
    (fun j u hj => by
      cases j with
      | zero => simp at hj; subst hj; exact hg1
      | succ j => simp at hj) (fun u hu => by simp at hu; subst hu; rfl) (by unfold maxLen; omega) (by omega) (by have := hlow.size; omega)
  have fne : ∀ j, (f (hashR row)).ownBlock = some j → j ≠ Mp ∧ Xd j := fun j hj => ⟨by have := (hD5.lt _ j hj).1; omega, o2 j hj⟩
  refine ⟨v', w5, hr, ?_, ?_, ?_⟩
  · refine (cell_of_block ((h3.block (Mp + 1) (by have := cell_lt cM5; have := hlow.size; dsimp only at *; omega) (fun e => hXd' ((fne _ e.symm).2))).trans (hlow.block (Mp + 1) (cell_lt cM5))) 0).trans cM5
  · exact hD5.map.kept ((h3.block Mp (by have := hlow.size; omega) (fun e => (fne _ e.symm).1 rfl)).trans (hlow.block Mp hMpl))
  · intro w6 q1 q2 q3
    obtain ⟨p1, p2, p3, p4, p5, p6⟩ := hD5.push hM hXdM hlow hr1 (by omega) hr2 o3 o2 (by simpa using h2) h3 h5 q1 q2 q3
    exact ⟨⟨_, _, p1⟩, p2, p3, p4, p5, p6⟩
set_option maxRecDepth 100000 in
set_option maxHeartbeats 4000000 in
theorem dist1_in (n : Nat) (hn : 6 ≤ n) (l A : Nat) (ga : FuncId) (la : Array Value) (pa : List Pr) (Ra : Nat → Prop)
    (J Jx : List (RV × Int) → (Nat → Prop) → World → Prop) (X : Nat → Prop) (W : World) (hX : ∀ j, X j → j < W.heap.size) (hJ : Stable W.heap.size J) (hJx : Stable W.heap.size Jx)
    (hA : A < W.heap.size) (hca : W.cell? ⟨A, 0, none⟩ = some (.func (.func ga) #[] la)) (hla : pa.length ≤ 100000)
    (ega : ∀ args w, (callFunc ga args).run Try.prog w = .ok (.enter ga args) w) (hqa : ∀ n, Seq Fence.wide n Try.prog ga la enc (pa.map Prod.fst) Ra W) (hRa : ∀ j, Ra j → j < W.heap.size ∧ ¬ X j)
    (hrows : ∀ p ∈ pa, p.1.2 = 0 → Cont W p.1.1 p.2 ∧ p.1.1.n ≤ 1000 ∧ ∀ j, p.1.1.blk j → Ra j)
    (hY : ∀ pre x X1 W1, (pre ++ [x]) <+: (distL [] pa).map Prod.fst → J pre X1 W1 → Gr X X1 W.heap.size W W1 → YieldAt Fence.wide (n - 1) Try.prog l (enc x) W1 fun e W' =>
      ∃ X', Gr X1 X' W1.heap.size W1 W' ∧ ((e = .returned (.bool true) ∧ J (pre ++ [x]) X' W') ∨ (e = .returned (.bool false) ∧ Jx (pre ++ [x]) X' W')))
    (h0 : J [] X W) :
    CallsIn Fence.wide n Try.prog 54 #[.func (.yield l) #[] #[], .pointer (some ⟨A, 0, none⟩)] W fun e W' => (∃ v, e = .returned v) ∧
      ∃ X', Gr X X' W.heap.size W W' ∧ (J ((distL [] pa).map Prod.fst) X' W' ∨ ∃ pre, pre <+: (distL [] pa).map Prod.fst ∧ Jx pre X' W') := by
  have hro : Fence.wide.round = none := rfl
  have hmx : Try.prog.follows .mixedOrders = true := by kernel_rfl
  have h1 : 1 ≤ n := by omega
  have hfn : ∀ (w : World) (g : FuncId) (lb : Array Value), (binOp .eql 31 (.func (.func g) #[] lb) .nilFunc).run Try.prog w = .ok (.bool false) w := fun _ _ _ => rfl
  have hcaA := fun o => (cell_of_block ((below_new (W := W) o).block A hA) 0).trans hca
  refine callsIn_of_wp_marks Try.func54 rfl trivial ?_ hro
  simp only [Try.ntmps54, List.size_toArray, List.length_cons, List.length_nil, Nat.reduceAdd, Nat.reduceSub, Array.replicate_succ, Array.replicate_zero, List.push_toArray, List.append_toArray, List.nil_append, List.cons_append]
  have hmm := @run_makeMap Try.prog
  gi_upto_region 3 with fail
  clear hmm hcaA
  have b0 := ((Boxed.new W 72 (.func (.yield l) #[] #[])).alloc (.map #[] 0)).alloc (.cells #[.map (some (W.heap.size + 1))] 82)
  have b2 := Boxed.new ((W.alloc (.cells #[.func (.yield l) #[] #[]] 72)).alloc (.map #[] 0)) 82 (.map (some (W.heap.size + 1)))
  have hD := (DF.made (W.alloc (.cells #[.func (.yield l) #[] #[]] 72))).same (W' := ((W.alloc (.cells #[.func (.yield l) #[] #[]] 72)).alloc (.map #[] 0)).alloc (.cells #[.map (some (W.heap.size + 1))] 82)) (by simp) (fun j hj => by subst hj; exact Below.heap_alloc _ _ _ (by simp))
  have hby : Below W.heap.size W (((W.alloc (.cells #[.func (.yield l) #[] #[]] 72)).alloc (.map #[] 0)).alloc (.cells #[.map (some (W.heap.size + 1))] 82)) := (((Below.refl _ W).alloc (Nat.le_refl _) _).alloc (by simp) _).alloc (by simp; omega) _
  have hsz : (((W.alloc (.cells #[.func (.yield l) #[] #[]] 72)).alloc (.map #[] 0)).alloc (.cells #[.map (some (W.heap.size + 1))] 82)).heap.size = W.heap.size + 3 := by simp
  simp only [World.size_alloc] at b2 hD
  generalize ((W.alloc (.cells #[.func (.yield l) #[] #[]] 72)).alloc (.map #[] 0)).alloc (.cells #[.map (some (W.heap.size + 1))] 82) = Wy at b0 b2 hD hby hsz ⊢
  have cYy := Boxed.cell b0
  have cMy := Boxed.cell b2
  have hcay := (cell_of_block (hby.block A hA) 0).trans hca
  have hszl : W.heap.size + 3 ≤ Wy.heap.size := Nat.le_of_eq hsz.symm
  clear b0 b2 hsz
  obtain ⟨Mp, hMp⟩ : ∃ Mp, Mp = W.heap.size + 1 := ⟨_, rfl⟩
  rw [← hMp] at hD cMy
  have hMp1 : W.heap.size < Mp := by omega
  have hMp2 : Mp + 1 < Wy.heap.size := by omega
  gi_wp2
  rw [← hMp]
  clear hMp
  refine wpIn_rangeFunc_sep hro h1 (gf := ga) (lb := la) rfl trivial ega (hqa (n - 1)) (fun _ => rfl) (fun j => X j ∨ j = Mp) hby.size (fun j hj => ⟨(hRa j hj).1, (fun h => h.elim (hRa j hj).2 (fun e => by have := (hRa j hj).1; omega)), hby.block j (hRa j hj).1⟩)
    (fun j hj => hj.elim (fun h => Nat.lt_of_lt_of_le (hX j h) hby.size) (fun e => by omega))
    (DI (distL [] pa) (fun acc k => distL acc (pa.drop k)) J X W Mp) (DX (distL [] pa) J Jx X W) (DI.stable hJ hby.size) (DX.stable hJ hJx hby.size) ?start ?round ?done ?stop
  case start => exact ⟨[], [], X, fun j => j = Mp, rfl, fun _ => Iff.rfl, fun j hj => ⟨fun h => by have := hX j h; omega, by omega⟩, hJ _ _ _ _ h0 (below_agree hX hby), below_gr hX hby, ⟨_, _, hD⟩, Nat.le_refl _⟩
  case round =>
    rintro lab pre ⟨⟨ra, rn, rc⟩, e⟩ X1 Wa hl hpre ⟨out, acc, Xo, Xd, b1, hXX, hXd, b2, b3, ⟨f, m, hdf⟩, hacc⟩ hg hXl hlt
    obtain ⟨row, hdrop, hmem⟩ := drop_at hpre
    have b1' : Aside (distL [] pa = out ++ distL acc (pa.drop pre.length)) := b1
    have hdrop' : Aside (pa.drop pre.length = ((⟨ra, rn, rc⟩, e), row) :: pa.drop (pre.length + 1)) := hdrop
    have hl2 : Wy.heap.size < lab := by omega
    have hplen : pre.length < pa.length := by have := hpre.length_le; simp at this; omega
    clear b1 hdrop hl
    gi_wp2
    refine ⟨fun j hj _ => Below.heap_alloc _ _ _ hj, by simp, rfl, rfl, rfl, ?_⟩
    intro W3 z1 z2 z3 z4 z5
    have hz3 : W3.heap.size = Wa.heap.size + 1 := by rw [z1]; simp
    have hza : Wa.heap.size ≤ W3.heap.size := by omega
    have hga : ∀ j, j < Wa.heap.size → j ≠ lab → W3.heap[j]? = Wa.heap[j]? := fun j hj hn => (z5 j hn).trans (Below.heap_alloc _ _ _ hj)
    have cR3 : Boxed W3 Wa.heap.size 48 (.slice ra rn rc) := boxed_same (z5 _ (by omega)) (Boxed.new Wa 48 (.slice ra rn rc))
    replace z2 : W3.os = Wa.os := z2
    replace z3 : W3.tape = Wa.tape := z3
    replace z4 : W3.output = Wa.output := z4
    clear z1 z5
    have hXol : ¬ Xo lab := fun h => hXl ((hXX _).2 (.inl h))
    have hXdl : ¬ Xd lab := fun h => hXl ((hXX _).2 (.inr h))
    have hXlta : ∀ j, Xo j ∨ Xd j → j < Wa.heap.size := fun j hj => hg.lt j ((hXX j).2 hj)
    have hag3 : Agree Xo W.heap.size Wa W3 := ⟨z2, z3, z4, hza, fun j hj => hga j (by rcases hj with h | h; exact hXlta j (.inl h); have := b3.size; omega) (by rintro rfl; rcases hj with h | h; exact hXol h; have := hby.size; omega)⟩
    have hJ3 := hJ _ _ _ _ b2 hag3
    have hg3 := gr_agree b3 hag3
    have hD3 := hdf.same hza (fun j hj => hga j (hXlta j (.inr hj)) (fun e => hXdl (e ▸ hj)))
    have hgy : ∀ j, j < Wy.heap.size → ¬ X j → j ≠ Mp → W3.heap[j]? = Wy.heap[j]? := fun j hj hx hm => (hga j (by have := hg.size; omega) (by omega)).trans (hg.block j hj (fun h => h.elim hx hm))
    have nX : ∀ j, W.heap.size ≤ j → ¬ X j := fun j hj hx => by have := hX j hx; omega
    have cY3 := (cell_of_block (hgy W.heap.size (by omega) (nX _ (Nat.le_refl _)) (by omega)) 0).trans cYy
    have cM3 := (cell_of_block (hgy (Mp + 1) (by omega) (nX _ (by omega)) (by omega)) 0).trans cMy
    have b1 := b1'.out
    rw [hdrop'.out] at b1
    by_cases he : e = 0
    · subst he
      obtain ⟨r1, r2, r3⟩ := hrows _ hmem rfl
      have hC3 : Cont W3 ⟨ra, rn, rc⟩ row := r1.same hg3.size (fun j hj => hg3.block j (hRa j (r3 j hj)).1 (hRa j (r3 j hj)).2)
      have hrn : rn ≤ 1000 := r2
      have hrl : Aside (row.length = rn) := by
        exact r1.len
      clear b1 r1 r2 r3
      have cR3c := cR3.cell
      gi_wp2
      gi_loopw [24, 6] (fun i hh wr => ∃ k, k ≤ rn ∧ i = .int .i64 k ∧ hh = .int .i64 ((row.take k).foldl hashV rn) ∧ Below W3.heap.size W3 wr) (fun i _ _ => rn - (intOf i).toNat)
      case atStart => exact ⟨0, Nat.zero_le _, rfl, rfl, Below.refl _ _⟩
      case round =>
        obtain ⟨k, hk, rfl, rfl, hbw⟩ := hrel
        by_cases hlt2 : k < rn
        · obtain ⟨v, hv⟩ : ∃ v, row[k]? = some v := ⟨row[k]'(by rw [hrl.out]; exact hlt2), List.getElem?_eq_getElem _⟩
          have hst0 : (row.take (k + 1)).foldl hashV (rn : Int) = hashV ((row.take k).foldl hashV rn) v := by rw [List.take_add_one, hv]; simp
          have hst : Aside ((row.take (k + 1)).foldl hashV (rn : Int) = hashV ((row.take k).foldl hashV rn) v) := hst0
          clear hst0
          rcases hC3.below hbw with ⟨h, _⟩ | ⟨b, off, hae, _, _, hcs⟩
          · have : rn = 0 := h
            omega
          · replace hae : ra = some ⟨b, off, none⟩ := hae
            subst hae
            obtain ⟨f1, f2, f3⟩ := flat_at row k v hv
            have x1 := hcs _ _ f1
            have x2 := hcs _ _ f2
            have x3 := hcs _ _ f3
            rw [Nat.mul_comm 3 k] at x1 x2 x3
            rw [← Nat.add_assoc] at x2 x3
            clear hv f1 f2 f3 hcs
            generalize hacc' : List.foldl hashV (rn : Int) (List.take k row) = hh at hst ⊢
            clear hacc'
            gi_wp2
            go_roundw
            case rel => exact ⟨k + 1, by omega, by simp, by rw [hst.out]; rfl, hbw.alloc hbw.size _⟩
            case measure => simp [intOf]; omega
        · obtain rfl : k = rn := by omega
          have hh : (row.take k).foldl hashV (k : Int) = hashR row := by rw [List.take_of_length_le (Nat.le_of_eq hrl.out), ← hrl.out]; rfl
          rw [hh]
          clear hh
          obtain ⟨hs, hhs⟩ : ∃ hs, hashR row = hs := ⟨_, rfl⟩
          have hwf : (Lit.int .i64 hs).wf = true := by rw [← hhs]; exact hashR_wf row (by rw [hrl.out]; omega)
          rw [hhs]
          have hCw := hC3.below hbw
          have hDw := hD3.same hbw.size (fun j hj => hbw.block j (Nat.lt_of_lt_of_le (hXlta j (.inr hj)) hza))
          have hlook := hDw.map.look hs hwf
          have hown := hDw.list hs
          have cRw := (cell_of_block (hbw.block Wa.heap.size (by omega)) 0).trans cR3.cell
          have cMw := (cell_of_block (hbw.block (Mp + 1) (cell_lt cM3)) 0).trans cM3
          have hany := any_hash acc row
          rw [hhs] at hany
          have hcon := contains56 ra k rc Wa.heap.size (f hs) _ row wr (Nat.le_trans (List.length_filter_le _ _) (by omega)) cRw hown hCw
          rw [hany] at hcon
          obtain ⟨t, htt⟩ : ∃ t, (acc.any fun s => eqRow s row) = t := ⟨_, rfl⟩
          rw [htt] at hcon
          clear hany hown
          have htA : Aside ((acc.any fun s => eqRow s row) = t) := htt
          have hhA : Aside (hashR row = hs) := hhs
          clear htt hhs
          cases t with
          | true =>
            gi_wp2_with (refine ⟨trivial, (fun h => by cases h), ?_⟩; gi_at_call 55; refine (CallsIn.inRound _ (callsIn_wide.2 hcon)).mono ?_; rintro e5 W5 ⟨rfl, hb5⟩)
            have hb5' := below_step hbw hb5 hbw.size
            have hag5 : Agree Xo W.heap.size W3 W5 := ⟨hb5'.os, hb5'.tape, hb5'.output, hb5'.size, fun j hj => hb5'.block j (by rcases hj with h | h; exact Nat.lt_of_lt_of_le (hXlta j (.inl h)) hza; exact Nat.lt_of_lt_of_le h hg3.size)⟩
            refine ⟨X1, ⟨hb5'.os, hb5'.tape, hb5'.output, hb5'.size, fun j hj _ => hb5'.block j (Nat.lt_of_lt_of_le hj hza), fun j hj => .inl hj, fun j hj => Nat.lt_of_lt_of_le (hg.lt j hj) (Nat.le_trans hza hb5'.size)⟩, out, acc, Xo, Xd, ?_, hXX, hXd, hJ _ _ _ _ hJ3 hag5, gr_agree hg3 hag5, ⟨f, m, hD3.same hb5'.size (fun j hj => hb5'.block j (Nat.lt_of_lt_of_le (hXlta j (.inr hj)) hza))⟩, by rw [List.length_append]; omega⟩
            have b1 := b1'.out
            rw [hdrop'.out, distL, if_pos rfl, if_pos htA.out] at b1
            rw [b1, List.length_append]; rfl
          | false =>
            gi_upto_region 15 with (refine ⟨trivial, (fun h => by cases h), ?_⟩; gi_at_call 55; refine (CallsIn.inRound _ (callsIn_wide.2 hcon)).mono ?_; rintro e5 W5 ⟨rfl, hb5⟩)
            have hXdS : ∀ j, Xd j → j = Mp ∨ Wy.heap.size ≤ j := fun j h => (hg.sub j ((hXX j).2 (.inr h))).elim (fun q => q.elim (fun q => by have := hX j q; have := (hXd j h).2; omega) .inl) .inr
            have hXd' : ¬ Xd (Mp + 1) := fun h => by rcases hXdS _ h with h | h <;> omega
            have hb5' := below_step hbw hb5 hbw.size
            have hD5 := hDw.same hb5.size (fun j hj => hb5.block j (by have := hXlta j (.inr hj); have := hbw.size; omega))
            have hC5 := hCw.below hb5
            have cR5 := (cell_of_block (hb5.block Wa.heap.size (cell_lt cRw)) 0).trans cRw
            have cM5 := (cell_of_block (hb5.block (Mp + 1) (cell_lt cMw)) 0).trans cMw
            have hLo : ∀ (B : Nat) (v : Value), W5.cell? ⟨B, 0, none⟩ = some v → ∀ w, Below W5.heap.size W5 w → w.cell? ⟨B, 0, none⟩ = some v := fun B v hv w hb => (cell_of_block (hb.block B (cell_lt hv)) 0).trans hv
            have hsz5 : Wa.heap.size < W5.heap.size := by have := hb5'.size; omega
            have hXdM : ∀ j, Xd j → j < Wa.heap.size := fun j hj => hXlta j (.inr hj)
            have hmle : m ≤ acc.length := hD5.le
            have hpush : ∀ (w : World) (r' : RV) (g : Nat), Below W5.heap.size W5 w → w.cell? ⟨g, 0, none⟩ = some r'.v → Cont w r' row → (∀ j, r'.blk j → W5.heap.size ≤ j) → r'.n = row.length →
                ∃ v' w5, (Builtin.append_ #[22, 22] 22 #[f hs, .slice (some ⟨g, 0, none⟩) 1 1]).run Try.prog w = .ok v' w5 ∧ DMid f m Mp hs (Mp + 1) (DFin Mp Wa.heap.size (acc ++ [row]) Xd W5) v' w5 := by
              intro w r' g hlow hg1 hr1 hr2 hr3
              exact dist_push hD5 hXdM (by omega) hrl.out (by omega) (by omega) hhA.out cM5 hXd' w r' g hlow hg1 hr1 hr2 hr3
            refine wpIn_region_inv hmx (by kernel_rfl) DCl ?hcl (DSt [Value.func (Fn.yield l) #[] #[], Value.pointer (some { block := A, off := 0 }), Value.pointer (some { block := W.heap.size, off := 0 }), Value.pointer (some { block := Mp + 1, off := 0 }), Value.pointer (some { block := Wa.heap.size, off := 0 }), Value.int IntKind.i64 0, Value.int IntKind.i64 hs, undef, u8, Value.func (Fn.func ga) #[] la, Value.bool false, Value.map (some Mp), Value.func (Fn.func ga) #[] la, Value.slice ra k rc, Value.int IntKind.i64 0, Value.int IntKind.i64 0, Value.bool false, undef, undef, undef, Value.slice ra k rc, Value.int IntKind.i64 ↑k, Value.slice ra k rc, Value.int IntKind.i64 ↑k, Value.int IntKind.i64 ↑k, Value.bool false, u26, u27, u28, u29, u30, u31, u32, u33, u34, u35, u36, u37, u38, u39, u40, Value.map (some Mp), Value.int IntKind.i64 hs, f hs, Value.func (Fn.func 56) #[] #[Value.pointer (some { block := Wa.heap.size, off := 0 })], Value.bool false] W5 f m Mp hs ra k rc row (DFin Mp Wa.heap.size (acc ++ [row]) Xd W5)) ?hst ?hops ?hend
            case hcl =>
              intro d h
              have mm : ∀ (i : Nat) (o : Oper) (e : Edge), _ → d i = true → e ∈ o.after → Region.binds .any e = true → d e.on = true := fun i o e ho hd he hb => h i o ho hd e he hb
              exact ⟨fun q => ⟨mm 4 _ ⟨2, .data⟩ rfl q (by simp) rfl, mm 4 _ ⟨3, .data⟩ rfl q (by simp) rfl⟩, fun q => mm 6 _ ⟨5, .data⟩ rfl q (by simp) rfl, fun q => mm 7 _ ⟨6, .data⟩ rfl q (by simp) rfl, fun q => ⟨mm 8 _ ⟨4, .data⟩ rfl q (by simp) rfl, mm 8 _ ⟨7, .data⟩ rfl q (by simp) rfl⟩, fun q => ⟨⟨mm 9 _ ⟨0, .data⟩ rfl q (by simp) rfl, mm 9 _ ⟨1, .data⟩ rfl q (by simp) rfl⟩, mm 9 _ ⟨8, .data⟩ rfl q (by simp) rfl⟩⟩
            case hst => exact ⟨undef, undef, undef, undef, undef, undef, undef, undef, undef, rfl, nofun, nofun, nofun, nofun, nofun, nofun, fun _ => ⟨rfl, rfl, rfl, Nat.le_refl _, fun _ _ => rfl⟩, nofun, nofun, nofun, nofun⟩
            case hops =>
              refine ⟨?_, ?_, ?_, ?_, ?_, ?_, ?_, ?_, ?_, ?_, trivial⟩
              · rintro d a w hd hc hc2 ⟨x46, x47, x48, x49, x50, x51, x52, x53, x54, rfl, h0, h1, h2, h3, h4, h5, hw, h6, h7, h8, h9⟩ K hK
                have hcell : w.cell? ⟨Mp + 1, 0, none⟩ = some (.map (some Mp)) := by
                  cases q : d 8 with
                  | false => exact hLo _ _ cM5 w (hw q)
                  | true =>
                    have d9 : d 9 = false := by cases q : d 9 with | false => rfl | true => exact absurd (hc.2.2.2.2 q).1.1 (by rw [hd]; decide)
                    exact (h8 q d9).1
                refine if_intro (by rfl) ?_
                go_simp
                exact hK _ _ ⟨_, x47, x48, x49, x50, x51, x52, x53, x54, rfl, fun _ => rfl, h1, h2, h3, h4, h5, hw, h6, h7, h8, h9⟩
              · rintro d a w hd hc hc2 ⟨x46, x47, x48, x49, x50, x51, x52, x53, x54, rfl, h0, h1, h2, h3, h4, h5, hw, h6, h7, h8, h9⟩ K hK
                refine if_intro (by rfl) ?_
                go_simp
                exact hK _ _ ⟨x46, _, x48, x49, x50, x51, x52, x53, x54, rfl, h0, fun _ => rfl, h2, h3, h4, h5, hw, h6, h7, h8, h9⟩
              · rintro d a w hd hc hc2 ⟨x46, x47, x48, x49, x50, x51, x52, x53, x54, rfl, h0, h1, h2, h3, h4, h5, hw, h6, h7, h8, h9⟩ K hK
                have d8 : d 8 = false := by cases q : d 8 with | false => rfl | true => exact absurd (hc.1 (hc.2.2.2.1 q).1).1 (by rw [hd]; decide)
                have hcell := hLo _ _ cM5 w (hw d8)
                refine if_intro (by rfl) ?_
                go_simp
                exact hK _ _ ⟨x46, x47, _, x49, x50, x51, x52, x53, x54, rfl, h0, h1, fun _ => rfl, h3, h4, h5, hw, h6, h7, h8, h9⟩
              · rintro d a w hd hc hc2 ⟨x46, x47, x48, x49, x50, x51, x52, x53, x54, rfl, h0, h1, h2, h3, h4, h5, hw, h6, h7, h8, h9⟩ K hK
                refine if_intro (by rfl) ?_
                go_simp
                exact hK _ _ ⟨x46, x47, x48, _, x50, x51, x52, x53, x54, rfl, h0, h1, h2, fun _ => rfl, h4, h5, hw, h6, h7, h8, h9⟩
              · rintro d a w hd hc hc2 ⟨x46, x47, x48, x49, x50, x51, x52, x53, x54, rfl, h0, h1, h2, h3, h4, h5, hw, h6, h7, h8, h9⟩ K hK
                have d8 : d 8 = false := by cases q : d 8 with | false => rfl | true => exact absurd (hc.2.2.2.1 q).1 (by rw [hd]; decide)
                have hlk := (hD5.map.kept ((hw d8).block Mp hD5.map.lt)).look hs hwf
                obtain rfl := h2 (hc2.1 rfl).1
                obtain rfl := h3 (hc2.1 rfl).2
                refine if_intro (by rfl) ?_
                go_simp
                exact hK _ _ ⟨x46, x47, _, _, _, x51, x52, x53, x54, rfl, h0, h1, h2, h3, fun _ => rfl, h5, hw, h6, h7, h8, h9⟩
              · rintro d a w hd hc hc2 ⟨x46, x47, x48, x49, x50, x51, x52, x53, x54, rfl, h0, h1, h2, h3, h4, h5, hw, h6, h7, h8, h9⟩ K hK
                have d8 : d 8 = false := by cases q : d 8 with | false => rfl | true => exact absurd (hc.2.1 (hc.2.2.1 (hc.2.2.2.1 q).2)) (by rw [hd]; decide)
                have hcell := hLo _ _ cR5 w (hw d8)
                refine if_intro (by rfl) ?_
                go_simp
                exact hK _ _ ⟨x46, x47, x48, x49, x50, _, x52, x53, x54, rfl, h0, h1, h2, h3, h4, fun _ => rfl, hw, h6, h7, h8, h9⟩
              · rintro d a w hd hc hc2 ⟨x46, x47, x48, x49, x50, x51, x52, x53, x54, rfl, h0, h1, h2, h3, h4, h5, hw, h6, h7, h8, h9⟩ K hK
                have d8 : d 8 = false := by cases q : d 8 with | false => rfl | true => exact absurd (hc.2.2.1 (hc.2.2.2.1 q).2) (by rw [hd]; decide)
                have d7 : d 7 = false := by cases q : d 7 with | false => rfl | true => exact absurd (hc.2.2.1 q) (by rw [hd]; decide)
                obtain rfl := h5 (hc2.2.1 rfl)
                have hlow := hw d8
                refine if_intro (by rfl) ?_
                go_simp
                refine ⟨trivial, (fun h => by cases h), ?_⟩
                refine (CallsIn.inRound _ (callsIn_wide.2 (clone_ok ⟨ra, k, rc⟩ row w (hC5.below hlow) (by dsimp only; omega)))).mono ?_
                rintro e6 w6 ⟨r', rfl, hr1, hr2, hr3, hr4⟩
                exact hK _ _ ⟨x46, x47, x48, x49, x50, _, _, x53, x54, rfl, h0, h1, h2, h3, h4, h5, fun _ => below_step hlow hr4 hlow.size, fun _ _ => ⟨r', rfl, hr1, fun j hj => Nat.le_trans hlow.size (hr2 j hj), hr3⟩, fun q => absurd q (by change ¬ (d 7 = true); rw [d7]; decide), fun q => absurd q (by change ¬ (d 8 = true); rw [d8]; decide), fun q => absurd (hc.2.2.2.2 q).2 (by rw [d8]; decide)⟩
              · rintro d a w hd hc hc2 ⟨x46, x47, x48, x49, x50, x51, x52, x53, x54, rfl, h0, h1, h2, h3, h4, h5, hw, h6, h7, h8, h9⟩ K hK
                have d8 : d 8 = false := by cases q : d 8 with | false => rfl | true => exact absurd (hc.2.2.2.1 q).2 (by rw [hd]; decide)
                obtain ⟨⟨qa, qn, qc⟩, rfl, hr1, hr2, hr3⟩ := h6 (hc2.2.2.1 rfl) hd
                have hlow := hw d8
                dsimp only [RV.v]
                refine if_intro (by rfl) ?_
                go_simp
                exact hK _ _ ⟨x46, x47, x48, x49, x50, x51, _, _, x54, rfl, h0, h1, h2, h3, h4, h5, fun _ => hlow.alloc hlow.size _, fun _ q => Bool.noConfusion q, fun _ _ => ⟨⟨qa, qn, qc⟩, w.heap.size, rfl, Boxed.cell (Boxed.new w 48 (.slice qa qn qc)), hr1.below (below_new _), hr2, hr3⟩, fun q => absurd q (by change ¬ (d 8 = true); rw [d8]; decide), fun q => absurd (hc.2.2.2.2 q).2 (by rw [d8]; decide)⟩
              · rintro d a w hd hc hc2 ⟨x46, x47, x48, x49, x50, x51, x52, x53, x54, rfl, h0, h1, h2, h3, h4, h5, hw, h6, h7, h8, h9⟩ K hK
                have d9 : d 9 = false := by cases q : d 9 with | false => rfl | true => exact absurd (hc.2.2.2.2 q).2 (by rw [hd]; decide)
                obtain rfl := h4 (hc2.2.2.2.1 rfl).1
                obtain ⟨r', g, rfl, hg1, hr1, hr2, hr3⟩ := h7 (hc2.2.2.2.1 rfl).2 hd
                have hlow := hw hd
                obtain ⟨v', w5, hrun, hmid⟩ := hpush w r' g hlow hg1 hr1 hr2 hr3
                refine if_intro (by rfl) ?_
                refine app_step rfl rfl hrun ?_
                refine hK _ _ ?_
                simp only [Act.put, List.cons_append, List.nil_append, List.setIfInBounds_toArray, List.set_cons_zero, List.set_cons_succ]
                exact ⟨x46, x47, x48, x49, _, x51, x52, _, _, rfl, h0, h1, h2, h3, h4, h5, fun q => Bool.noConfusion q, fun _ q => absurd (hc.2.2.2.2 · |>.2) (fun _ => by cases q.symm.trans (hc2.2.2.2.1 rfl).2), fun _ q => Bool.noConfusion q, fun _ _ => hmid, fun q => absurd q (by change ¬ (d 9 = true); rw [d9]; decide)⟩
              · rintro d a w hd hc hc2 ⟨x46, x47, x48, x49, x50, x51, x52, x53, x54, rfl, h0, h1, h2, h3, h4, h5, hw, h6, h7, h8, h9⟩ K hK
                obtain ⟨e8⟩ : PLift (d 8 = true) := ⟨(hc2.2.2.2.2 rfl).2⟩
                obtain rfl := h0 (hc2.2.2.2.2 rfl).1.1
                obtain rfl := h1 (hc2.2.2.2.2 rfl).1.2
                obtain ⟨m1, m2, m3⟩ := h8 e8 hd
                obtain ⟨w6, hrun, n1, n2, n3⟩ := m2.store (by unfold maxLen; omega) hs hwf x54
                refine if_intro (by rfl) ?_
                go_simp
                exact hK _ _ ⟨_, _, x48, x49, x50, x51, x52, x53, x54, rfl, h0, h1, h2, h3, h4, h5, fun q => absurd q (by rw [show mark d 9 8 = d 8 from rfl, e8]; decide), fun _ q => absurd (show d 7 = false from q) (by rw [(hc.2.2.2.1 e8).2]; decide), fun p q => absurd (show d 8 = false from q) (by rw [e8]; decide), fun _ q => Bool.noConfusion q, fun _ => m3 w6 n1 n2 n3⟩
            case hend =>
              rintro d a w hall ⟨x46, x47, x48, x49, x50, x51, x52, x53, x54, rfl, h0, h1, h2, h3, h4, h5, hw, h6, h7, h8, h9⟩
              obtain ⟨⟨f', n', g1⟩, g2, g3, g4, g5, g6⟩ := h9 (hall 9 (by decide))
              clear h0 h1 h2 h3 h4 h5 hw h6 h7 h8 h9 hpush
              simp only [List.cons_append, List.nil_append]
              have hXdN : ¬ Xd W.heap.size := fun h => by rcases hXdS _ h with h | h <;> omega
              have cYw := (cell_of_block ((g2 W.heap.size (by omega) hXdN).trans (hb5'.block W.heap.size (cell_lt cY3))) 0).trans cY3
              have cRw2 := (cell_of_block (g2 Wa.heap.size hsz5 (fun h => Nat.lt_irrefl _ (hXdM _ h))) 0).trans cR5
              have hag6 : Agree Xo W.heap.size W3 w := ⟨g4.trans hb5'.os, g5.trans hb5'.tape, g6.trans hb5'.output, Nat.le_trans hb5'.size g3, fun j hj => by
                have h3 : j < W3.heap.size := by rcases hj with h | h; exact Nat.lt_of_lt_of_le (hXlta j (.inl h)) hza; exact Nat.lt_of_lt_of_le h hg3.size
                rw [g2 j (Nat.lt_of_lt_of_le h3 hb5'.size) (fun h => by rcases hj with q | q; exact (hXd j h).1 q; have := (hXd j h).2; omega), hb5'.block j h3]⟩
              have hJ6 := hJ _ _ _ _ hJ3 hag6
              have hg6 := gr_agree hg3 hag6
              have b1 := b1'.out
              rw [hdrop'.out, distL, if_pos rfl, if_neg (by rw [htA.out]; decide)] at b1
              have hpre2 : out.map Prod.fst ++ [((⟨ra, k, rc⟩ : RV), (0 : Int))] <+: (distL [] pa).map Prod.fst := by rw [b1]; simp
              obtain ⟨fn, tmps, assign, body, hy, hR⟩ := yield_wide (m := n - 1 - 1 - 1) (hY _ (⟨ra, k, rc⟩, 0) Xo w hpre2 hJ6 hg6)
              dsimp only [enc] at hy
              replace hR : RoundIn (Fence.wide.inRound lab) (n - 1 - 1 - 1) Try.prog l fn tmps assign body w _ := hR
              have hb1 : distL [] pa = (out ++ [((⟨ra, k, rc⟩, 0), row)]) ++ distL (acc ++ [row]) (pa.drop (pre.length + 1)) := by rw [b1]; simp
              have hb1A : Aside (distL [] pa = (out ++ [((⟨ra, k, rc⟩, 0), row)]) ++ distL (acc ++ [row]) (pa.drop (pre.length + 1))) := hb1
              clear hb1
              clear b1 hlook hLo
              gi_wp2
              refine ⟨(fun h => by cases h), ?_⟩
              refine hR.mono ?_
              have fin : ∀ (X4 : Nat → Prop) (W4 : World), Gr Xo X4 w.heap.size w W4 → Gr X1 (fun j => X4 j ∨ (Xd j ∨ (Wa.heap.size ≤ j ∧ j < w.heap.size))) Wa.heap.size W3 W4 ∧ Gr X X4 W.heap.size W W4 := fun X4 W4 g => by
                refine ⟨⟨g.os.trans hag6.os, g.tape.trans hag6.tape, g.output.trans hag6.output, Nat.le_trans hag6.size g.size, fun j hj hx => ?_, fun j hj => ?_, fun j hj => ?_⟩, hg6.trans g hg6.size⟩
                · rw [g.block j (by omega) (fun h => hx ((hXX j).2 (.inl h))), g2 j (by omega) (fun h => hx ((hXX j).2 (.inr h))), hb5'.block j (by omega)]
                · rcases hj with h | h | h
                  · exact (g.sub j h).imp (fun h => (hXX j).2 (.inl h)) (fun h => by omega)
                  · exact .inl ((hXX j).2 (.inr h))
                  · exact .inr h.1
                · have := g.size
                  rcases hj with h | h | h
                  · exact g.lt j h
                  · have := hXlta j (.inr h); omega
                  · omega
              rintro e4 W4 ⟨X4, g, (⟨rfl, j4⟩ | ⟨rfl, j4⟩)⟩
              · gi_wp2
                have hno : ∀ j, (Xd j ∨ (Wa.heap.size ≤ j ∧ j < w.heap.size)) → ¬ Xo j ∧ j < w.heap.size := fun j h => by
                  rcases h with h | h
                  · exact ⟨(hXd j h).1, by have := hXdM j h; omega⟩
                  · exact ⟨fun q => by have := hXlta j (.inl q); omega, h.2⟩
                refine ⟨_, (fin X4 W4 g).1, out ++ [((⟨ra, k, rc⟩, 0), row)], acc ++ [row], X4, _, ?_, fun _ => Iff.rfl, fun j hj => ⟨fun q => ?_, ?_⟩, ?_, (fin X4 W4 g).2, ⟨_, _, g1.same g.size (fun j hj => g.block j (hno j hj).2 (hno j hj).1)⟩, ?_⟩
                · rw [List.length_append]; exact hb1A.out
                · rcases g.sub j q with q | q
                  · exact (hno j hj).1 q
                  · have := (hno j hj).2; omega
                · rcases hj with h | h
                  · exact (hXd j h).2
                  · have := b3.size; omega
                · rw [List.map_append]; exact j4
                · rw [List.length_append, List.length_append]; exact Nat.succ_le_succ hacc
              · gi_wp2
                exact ⟨_, (fin X4 W4 g).1, rfl, X4, fun j h => .inl h, (fin X4 W4 g).2, .inr ⟨_, hpre2, j4⟩⟩
    · have hne : (e != 0) = true := by simpa using he
      rw [distL, if_neg he] at b1
      have hp1 : out.map Prod.fst ++ [((RV.nil : RV), e)] = (distL [] pa).map Prod.fst := by rw [b1]; simp
      have hR' := yield_wide (m := n - 1 - 1 - 1) (hY _ (RV.nil, e) Xo W3 (by rw [hp1]; exact List.prefix_refl _) hJ3 hg3)
      rw [hp1] at hR'
      obtain ⟨fn, tmps, assign, body, hy, hR⟩ := hR'
      dsimp only [enc, RV.nil] at hy
      replace hR : RoundIn (Fence.wide.inRound lab) (n - 1 - 1 - 1) Try.prog l fn tmps assign body W3 _ := hR
      clear hp1 b1
      gi_wp2
      refine ⟨(fun h => by cases h), ?_⟩
      refine hR.mono ?_
      have fin : ∀ (X4 : Nat → Prop) (W4 : World), Gr Xo X4 W3.heap.size W3 W4 → Gr X1 (fun j => X4 j ∨ Xd j) Wa.heap.size W3 W4 ∧ Gr X X4 W.heap.size W W4 := fun X4 W4 g4 =>
        ⟨⟨g4.os, g4.tape, g4.output, g4.size, fun j hj hx => g4.block j (by omega) (fun h => hx ((hXX j).2 (.inl h))), fun j hj => hj.elim (fun h => (g4.sub j h).imp (fun h => (hXX j).2 (.inl h)) (fun h => by omega)) (fun h => .inl ((hXX j).2 (.inr h))), fun j hj => hj.elim (g4.lt j) (fun h => by have := hXlta j (.inr h); have := g4.size; omega)⟩, hg3.trans g4 hg3.size⟩
      rintro e4 W4 ⟨X4, g4, (⟨rfl, j4⟩ | ⟨rfl, j4⟩)⟩
      · gi_wp2
        exact ⟨_, (fin X4 W4 g4).1, rfl, X4, fun j h => .inl h, (fin X4 W4 g4).2, .inl j4⟩
      · gi_wp2
        exact ⟨_, (fin X4 W4 g4).1, rfl, X4, fun j h => .inl h, (fin X4 W4 g4).2, .inr ⟨_, List.prefix_refl _, j4⟩⟩
  case done =>
    rintro X' Wd ⟨out, acc, Xo, Xd, b1, hXX, hXd, b2, b3, _, _⟩ hg hn hK
    have b1' : distL [] pa = out ++ distL acc (pa.drop (pa.map Prod.fst).length) := b1
    rw [List.length_map, List.drop_length, distL, List.append_nil] at b1'
    have hb : J ((distL [] pa).map Prod.fst) Xo Wd := by rw [b1']; exact b2
    clear b1 b1'
    have hno : ¬ Xo Wy.heap.size := fun h => hn ((hXX _).2 (.inl h))
    gi_wp2
    refine ⟨by simp, .inl ⟨_, _, rfl, run_takeDeferred hK, ?_⟩⟩
    exact ⟨_, results_none rfl _ _ _, ⟨_, rfl⟩, Xo, b3.put _ hby.size, .inl (hJ _ _ _ _ hb (agree_put Wd (.deferred none) hno hby.size))⟩
  case stop =>
    rintro c pre X' Wd _ ⟨rfl, Xo, c1, c2, c3⟩ hg hn hK
    have hno : ¬ Xo Wy.heap.size := fun h => hn (c1 _ h)
    gi_wp2
    refine ⟨by simp, .inl ⟨_, _, rfl, run_takeDeferred hK, ?_⟩⟩
    refine ⟨_, results_none rfl _ _ _, ⟨_, rfl⟩, Xo, c2.put _ hby.size, ?_⟩
    rcases c3 with h | ⟨q, hq, h⟩
    · exact .inl (hJ _ _ _ _ h (agree_put Wd (.deferred none) hno hby.size))
    · exact .inr ⟨q, hq, hJx _ _ _ _ h (agree_put Wd (.deferred none) hno hby.size)⟩
end Go.Proofs.Ytghpjlohoehdnaa.Sep
