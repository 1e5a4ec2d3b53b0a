/- The law's awake. No condition beyond those that each theorem names. -/
import Derived.Test.YtghpjlohoehdnaaSfH
import Derived.Test.YtghpjlohoehdnaaSfI
import Derived.Deep.RegionHeld3
import Derived.Lib.Hide
namespace Go.Proofs.Ytghpjlohoehdnaa.Sep
open Go Go.RowKit Go.Shelf
set_option linter.unusedVariables false
set_option linter.unusedSimpArgs false
structure Aside0 (p : Prop) : Prop where
  out : p
/-- a row of a number -/
def numR (n : Int) : List V3 := [⟨1, n, ⟨#[]⟩⟩]
abbrev numO (n : Int) : Obj := .cells #[.int .i64 1, .int .i64 n, .string ⟨#[]⟩] 45
set_option maxHeartbeats 1000000 in
theorem num_ok (n : Int) (W : World) : Calls Try.prog 36 #[.int .i64 n] W fun e W' => e = .returned (.slice (some ⟨W.heap.size, 0, none⟩) 1 1) ∧ W' = W.alloc (numO n) := by
  go_enter Try.func36, Try.ntmps36
  go_wp2
  go_ret
  exact ⟨rfl, rfl⟩
theorem num_cont (n : Int) (W : World) : Cont (W.alloc (numO n)) ⟨some ⟨W.heap.size, 0, none⟩, 1, 1⟩ (numR n) := by
  refine .inr ⟨W.heap.size, 0, rfl, rfl, by simp, fun j u hu => ?_⟩
  have hb : (W.alloc (numO n)).heap[W.heap.size]? = some (numO n) := World.alloc_heap_new W _
  unfold World.cell?
  simp only [hb]
  match j, hu with
  | 0, hu => simpa [numR, flat] using hu
  | 1, hu => simpa [numR, flat] using hu
  | 2, hu => simpa [numR, flat] using hu
theorem lst_three {W : World} {sv : Value} {r0 r1 r2 : List V3} (h : Lst W sv [r0, r1, r2]) : ∃ b off c q0 q1 q2, sv = .slice (some ⟨b, off, none⟩) 3 c ∧ b < W.heap.size ∧ W.cell? ⟨b, off + 2, none⟩ = some (RV.v q2) ∧ Cont W q0 r0 ∧ Cont W q1 r1 ∧ Cont W q2 r2 ∧ q2.n ≤ 1000 := by
  rcases h with ⟨a, c, _, h⟩ | ⟨b, off, c, rs, rfl, h1, _, h3, h4⟩
  · cases h
  · match rs, h4, h3 with
    | [q0, q1, q2], h4, h3 => exact ⟨b, off, c, q0, q1, q2, rfl, h1, h3 2 (by simp), h4.1.1, h4.2.1.1, h4.2.2.1.1, h4.2.2.1.2.1⟩
theorem lst_one {W : World} {sv : Value} {r0 : List V3} (h : Lst W sv [r0]) : ∃ b off c q0, sv = .slice (some ⟨b, off, none⟩) 1 c ∧ b < W.heap.size ∧ W.cell? ⟨b, off, none⟩ = some (RV.v q0) ∧ Cont W q0 r0 ∧ q0.n ≤ 1000 := by
  rcases h with ⟨a, c, _, h⟩ | ⟨b, off, c, rs, rfl, h1, _, h3, h4⟩
  · cases h
  · match rs, h4, h3 with
    | [q0], h4, h3 => exact ⟨b, off, c, q0, rfl, h1, h3 0 (by simp), h4.1.1, h4.1.2.1⟩
theorem aw_union : rowsJ 2 [numR 1, numR 2, numR 2] [numR 2, numR 3] = [numR 1, numR 2, numR 3] := by kernel_rfl
theorem aw_except : rowsJ 4 [numR 1, numR 2, numR 2] [numR 2, numR 3] = [numR 1] := by kernel_rfl
/-- awake's world when its two lists lie there -/
abbrev aw4 (W : World) : World := (((W.alloc (numO 1)).alloc (numO 2)).alloc (numO 2)).alloc (.cells #[.slice (some ⟨W.heap.size, 0, none⟩) 1 1, .slice (some ⟨W.heap.size + 1, 0, none⟩) 1 1, .slice (some ⟨W.heap.size + 1 + 1, 0, none⟩) 1 1] 48)
abbrev aw7 (W : World) : World := (((aw4 W).alloc (numO 2)).alloc (numO 3)).alloc (.cells #[.slice (some ⟨W.heap.size + 1 + 1 + 1 + 1, 0, none⟩) 1 1, .slice (some ⟨W.heap.size + 1 + 1 + 1 + 1 + 1, 0, none⟩) 1 1] 48)
theorem aw7_below (W : World) : Below W.heap.size W (aw7 W) :=
  ((((((((Below.refl _ W).alloc (Nat.le_refl _) _).alloc (by simp) _).alloc (by simp; omega) _).alloc (by simp; omega) _).alloc (by simp; omega) _).alloc (by simp; omega) _).alloc (by simp; omega) _)
theorem aw7_a (W : World) : Lst (aw7 W) (.slice (some ⟨W.heap.size + 1 + 1 + 1, 0, none⟩) 3 3) [numR 1, numR 2, numR 2] := by
  have n1 := num_cont 1 W
  have n2 := num_cont 2 (W.alloc (numO 1))
  have n3 := num_cont 2 ((W.alloc (numO 1)).alloc (numO 2))
  have hbk : (aw4 W).heap[W.heap.size + 1 + 1 + 1]? = some (.cells #[.slice (some ⟨W.heap.size, 0, none⟩) 1 1, .slice (some ⟨W.heap.size + 1, 0, none⟩) 1 1, .slice (some ⟨W.heap.size + 1 + 1, 0, none⟩) 1 1] 48) := by
    have := World.alloc_heap_new (((W.alloc (numO 1)).alloc (numO 2)).alloc (numO 2)) (.cells #[.slice (some ⟨W.heap.size, 0, none⟩) 1 1, .slice (some ⟨W.heap.size + 1, 0, none⟩) 1 1, .slice (some ⟨W.heap.size + 1 + 1, 0, none⟩) 1 1] 48)
    simpa using this
  simp only [World.size_alloc] at n2 n3
  have b47 : Below (aw4 W).heap.size (aw4 W) (aw7 W) := (((Below.refl _ (aw4 W)).alloc (Nat.le_refl _) _).alloc (by simp) _).alloc (by simp) _
  have h4 : Own1 (aw4 W) (.slice (some ⟨W.heap.size + 1 + 1 + 1, 0, none⟩) 3 3) [numR 1, numR 2, numR 2] := by
    refine .inr ⟨W.heap.size + 1 + 1 + 1, 0, 3, [⟨some ⟨W.heap.size, 0, none⟩, 1, 1⟩, ⟨some ⟨W.heap.size + 1, 0, none⟩, 1, 1⟩, ⟨some ⟨W.heap.size + 1 + 1, 0, none⟩, 1, 1⟩], rfl, by simp, fun j hj => ?_, ⟨⟨(n1.below (below_new _)).below (below_new _) |>.below (below_new _), by dsimp only; omega⟩, ⟨(n2.below (below_new _)).below (below_new _), by dsimp only; omega⟩, ⟨n3.below (below_new _), by dsimp only; omega⟩, trivial⟩⟩
    unfold World.cell?
    simp only [hbk]
    match j, hj with
    | 0, _ => rfl
    | 1, _ => rfl
    | 2, _ => rfl
  exact (h4.below b47).lst
theorem aw7_b (W : World) : Lst (aw7 W) (.slice (some ⟨W.heap.size + 1 + 1 + 1 + 1 + 1 + 1, 0, none⟩) 2 2) [numR 2, numR 3] := by
  have n1 := num_cont 2 (aw4 W)
  have n2 := num_cont 3 ((aw4 W).alloc (numO 2))
  have hbk : (aw7 W).heap[W.heap.size + 1 + 1 + 1 + 1 + 1 + 1]? = some (.cells #[.slice (some ⟨W.heap.size + 1 + 1 + 1 + 1, 0, none⟩) 1 1, .slice (some ⟨W.heap.size + 1 + 1 + 1 + 1 + 1, 0, none⟩) 1 1] 48) := by
    have := World.alloc_heap_new (((aw4 W).alloc (numO 2)).alloc (numO 3)) (.cells #[.slice (some ⟨W.heap.size + 1 + 1 + 1 + 1, 0, none⟩) 1 1, .slice (some ⟨W.heap.size + 1 + 1 + 1 + 1 + 1, 0, none⟩) 1 1] 48)
    simpa using this
  simp only [World.size_alloc] at n1 n2
  have h4 : Own1 (aw7 W) (.slice (some ⟨W.heap.size + 1 + 1 + 1 + 1 + 1 + 1, 0, none⟩) 2 2) [numR 2, numR 3] := by
    refine .inr ⟨W.heap.size + 1 + 1 + 1 + 1 + 1 + 1, 0, 2, [⟨some ⟨W.heap.size + 1 + 1 + 1 + 1, 0, none⟩, 1, 1⟩, ⟨some ⟨W.heap.size + 1 + 1 + 1 + 1 + 1, 0, none⟩, 1, 1⟩], rfl, by simp, fun j hj => ?_, ⟨⟨(n1.below (below_new _)).below (below_new _), by dsimp only; omega⟩, ⟨n2.below (below_new _), by dsimp only; omega⟩, trivial⟩⟩
    unfold World.cell?
    simp only [hbk]
    match j, hj with
    | 0, _ => rfl
    | 1, _ => rfl
  exact h4.lst
theorem cell_of_block' {W W' : World} {a : Addr} (h : W'.heap[a.block]? = W.heap[a.block]?) : W'.cell? a = W.cell? a := by
  unfold World.cell?
  simp only [h]
theorem held_mk {W3 w : World} {a0 a1 : Addr} {u0 u1 : Value} (h0 : W3.cell? a0 = some u0) (h1 : W3.cell? a1 = some u1) (h : Below W3.heap.size W3 w) : w.cell? a0 = some u0 ∧ w.cell? a1 = some u1 ∧ Aside0 (Below W3.heap.size W3 w) :=
  ⟨(cell_of_block' (h.block _ (cell_lt h0))).trans h0, (cell_of_block' (h.block _ (cell_lt h1))).trans h1, ⟨h⟩⟩
theorem num_c (n : Int) (W : World) : Calls Try.prog 36 #[.int .i64 n] W fun e W' => e = .returned (.slice (some ⟨W.heap.size, 0, none⟩) 1 1) ∧ Cont W' ⟨some ⟨W.heap.size, 0, none⟩, 1, 1⟩ (numR n) ∧ Below W.heap.size W W' :=
  (num_ok n W).mono (by rintro e w ⟨rfl, rfl⟩; exact ⟨rfl, num_cont n W, below_new _⟩)
theorem same_c {qa pa : Option Addr} {qn qc pn pc : Nat} {row : List V3} {W : World} (h1 : Cont W ⟨qa, qn, qc⟩ row) (h2 : Cont W ⟨pa, pn, pc⟩ row) (hn : qn ≤ 1000) :
    Calls Try.prog 27 #[.slice qa qn qc, .slice pa pn pc] W fun e W' => e = .returned (.bool true) ∧ Below W.heap.size W W' := by
  have := same_ok ⟨qa, qn, qc⟩ ⟨pa, pn, pc⟩ row row W h1 h2 (Nat.le_trans hn (by decide))
  rw [eqRow_refl] at this
  exact this.mono (by rintro e w ⟨rfl, h⟩; exact ⟨rfl, h.below⟩)
set_option maxRecDepth 100000 in
set_option maxHeartbeats 4000000 in
theorem awake_ok (W : World) : Calls Try.prog 12 #[] W fun e W' => e = .returned (.bool true) ∧ Below W.heap.size W W' := by
  have hmx : Try.prog.follows .mixedOrders = true := by kernel_rfl
  go_enter Try.func12, Try.ntmps12
  go_upto_region 2 with (go_at_call 36; refine (num_ok _ _).mono ?_; rintro e w' ⟨rfl, rfl⟩)
  have b7 := aw7_below W
  have la := aw7_a W
  have lb := aw7_b W
  change Code.wp _ _ _ _ (aw7 W)
  generalize aw7 W = W7 at b7 la lb ⊢
  have of2 := of_ok 2 _ _ _ _ W7 la lb (by decide) (by decide)
  rw [aw_union, show codeJ 2 = 0 from rfl] at of2
  go_upto_region 3 with (go_at_call 13; refine of2.mono ?_; rintro e w3 ⟨sx, rfl, b3, lx⟩)
  have of4 := of_ok 4 _ _ _ _ w3 (la.below b3) (lb.below b3) (by decide) (by decide)
  rw [aw_except, show codeJ 4 = 0 from rfl] at of4
  go_upto_region 4 with (go_at_call 13; refine of4.mono ?_; rintro e w4 ⟨sy, rfl, b4, ly⟩)
  have lx4 := lx.below b4
  obtain ⟨bx, ox, cx, q0, q1, q2, rfl, hbx, hx2, _, _, hq2, hn2⟩ := lst_three lx4
  obtain ⟨bY, oy, cy, p0, rfl, hbY, hy0, hp0, hnp⟩ := lst_one ly
  have b04 : Below W.heap.size W w4 := below_step (below_step b7 b3 b7.size) b4 (below_step b7 b3 b7.size).size
  obtain ⟨qa, qn, qc⟩ := q2
  obtain ⟨pa, pn, pc⟩ := p0
  dsimp only [RV.v] at hx2 hy0 hn2 hnp
  clear of2 of4 lx lx4 ly la lb b3 b4 b7
  have HX := Aside0.mk hx2
  have HY := Aside0.mk hy0
  have HQ := Aside0.mk (And.intro hq2 hp0)
  have HN := Aside0.mk (And.intro hn2 hnp)
  have HB := Aside0.mk b04
  clear hx2 hy0 hbx hbY hq2 hp0 hn2 hnp b04
  go_wp2
  go_region_held3 (fun w' => w'.cell? ⟨bx, ox + 2, none⟩ = some (.slice qa qn qc) ∧ w'.cell? ⟨bY, oy, none⟩ = some (.slice pa pn pc) ∧ Aside0 (Below w4.heap.size w4 w'))
    (first | exact held_mk HX.out HY.out (Still.drew w4).below | exact held_mk HX.out HY.out HB5.out | exact held_mk HX.out HY.out HB6.out | exact held_mk HX.out HY.out HB7.out | exact held_mk HX.out HY.out HB8.out | fail)
    (first
      | (go_at_call_of 36 (Value.int IntKind.i64 3); refine (num_c 3 _).mono ?_; rintro e w5 ⟨rfl, hc5, hb5⟩; have HC5 := Aside0.mk hc5; have HB5 := Aside0.mk (below_step (Still.drew w4).below hb5 (Nat.le_refl _)); clear hc5 hb5)
      | (go_at_call_of 27 (Value.slice qa qn qc); refine (same_c (HQ.out.1.below HB5.out) HC5.out HN.out.1).mono ?_; rintro e w6 ⟨rfl, hs6⟩; have HB6 := Aside0.mk (below_step HB5.out hs6 HB5.out.size); clear hs6)
      | (go_at_call_of 36 (Value.int IntKind.i64 1); refine (num_c 1 _).mono ?_; rintro e w7 ⟨rfl, hc7, hb7⟩; have HC7 := Aside0.mk hc7; have HB7 := Aside0.mk (below_step HB6.out hb7 HB6.out.size); clear hc7 hb7)
      | (go_at_call_of 27 (Value.slice pa pn pc); refine (same_c (HQ.out.2.below HB7.out) HC7.out HN.out.2).mono ?_; rintro e w8 ⟨rfl, hs8⟩; have HB8 := Aside0.mk (below_step HB7.out hs8 HB7.out.size); clear hs8))
  all_goals
    go_wp2
    go_ret
    exact ⟨rfl, below_step HB.out HB8.out HB.out.size⟩
end Go.Proofs.Ytghpjlohoehdnaa.Sep
