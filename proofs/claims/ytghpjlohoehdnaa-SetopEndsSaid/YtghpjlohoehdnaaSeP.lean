/- scan.Metered with no meter: an iterator of one error, where there is a row. No condition beyond those that each theorem names. -/
import Derived.Test.YtghpjlohoehdnaaSeO
namespace Go.Proofs.Ytghpjlohoehdnaa.Sep
open Go Go.RowKit Go.Shelf
attribute [local go_sem] Oper.semAt_some
set_option linter.unusedVariables false
set_option linter.unusedSimpArgs false
def badL : List (RV × Int) → List (RV × Int)
  | [] => []
  | _ :: _ => [(RV.nil, 310)]
set_option maxRecDepth 100000 in
set_option maxHeartbeats 4000000 in
theorem over1_nil (n : Nat) (hn : 6 ≤ n) (l A B Bm : Nat) (ga : FuncId) (la : Array Value) (ya : List (RV × Int)) (Ra : Nat → Prop)
    (J Jx : List (RV × Int) → (Nat → Prop) → World → Prop) (X : Nat → Prop) (W : World) (hX : ∀ j, X j → j < W.heap.size) (hJ : Stable W.heap.size J) (hJx : Stable W.heap.size Jx) (hz : ∀ y ∈ ya, y.2 = 0)
    (hA : A < W.heap.size) (hB : B < W.heap.size ∧ ¬ X B) (hBm : Bm < W.heap.size ∧ ¬ X Bm) (hca : W.cell? ⟨A, 0, none⟩ = some (.func (.func ga) #[] la)) (hcb : W.cell? ⟨B, 0, none⟩ = some (.func (.func 39) #[] #[.pointer (some ⟨Bm, 0, none⟩)])) (hcm : W.cell? ⟨Bm, 0, none⟩ = some (.pointer none))
    (ega : ∀ args w, (callFunc ga args).run Try.prog w = .ok (.enter ga args) w) (hqa : ∀ n, Seq Fence.wide n Try.prog ga la enc ya Ra W) (hRa : ∀ j, Ra j → j < W.heap.size ∧ ¬ X j)
    (hY : ∀ pre x X1 W1, (pre ++ [x]) <+: badL ya → J pre X1 W1 → Gr X X1 W.heap.size W W1 → YieldAt Fence.wide (n - 1) Try.prog l (enc x) W1 fun e W' =>
      ∃ X', Gr X1 X' W1.heap.size W1 W' ∧ ((e = .returned (.bool true) ∧ J (pre ++ [x]) X' W') ∨ (e = .returned (.bool false) ∧ Jx (pre ++ [x]) X' W')))
    (h0 : J [] X W) :
    CallsIn Fence.wide n Try.prog 66 #[.func (.yield l) #[] #[], .pointer (some ⟨A, 0, none⟩), .pointer (some ⟨B, 0, none⟩)] W fun e W' => (∃ v, e = .returned v) ∧
      ∃ X', Gr X X' W.heap.size W W' ∧ (J (badL ya) X' W' ∨ ∃ pre, pre <+: badL ya ∧ Jx pre X' W') := by
  have hro : Fence.wide.round = none := rfl
  have h1 : 1 ≤ n := by omega
  have hfn : ∀ (w : World) (g : FuncId) (lb : Array Value), (binOp .eql 31 (.func (.func g) #[] lb) .nilFunc).run Try.prog w = .ok (.bool false) w := fun _ _ _ => rfl
  have hcaA := fun o => (cell_of_block ((Below.refl W.heap.size W).alloc (Nat.le_refl _) o |>.block A hA) 0).trans hca
  refine callsIn_of_wp_marks Try.func66 rfl trivial ?_ hro
  simp only [Try.ntmps66, List.size_toArray, List.length_cons, List.length_nil, Nat.reduceAdd, Nat.reduceSub, Array.replicate_succ, Array.replicate_zero, List.push_toArray, List.append_toArray, List.nil_append, List.cons_append]
  gi_wp2
  have cY := Boxed.new W 72 (.func (.yield l) #[] #[])
  have hbel : Below W.heap.size W (W.alloc (.cells #[.func (.yield l) #[] #[]] 72)) := (Below.refl _ W).alloc (Nat.le_refl _) _
  have hsz : (W.alloc (.cells #[.func (.yield l) #[] #[]] 72)).heap.size = W.heap.size + 1 := by simp
  clear hcaA
  generalize W.alloc (.cells #[.func (.yield l) #[] #[]] 72) = W1 at cY hbel hsz ⊢
  have hXW : ∀ j, X j → j ≠ W.heap.size := fun j hj => by have := hX j hj; omega
  have hag1 : Agree X W.heap.size W W1 := ⟨hbel.os, hbel.tape, hbel.output, hbel.size, fun j hj => hbel.block j (by rcases hj with h | h; exact hX j h; exact h)⟩
  have hgr1 : Gr X X W.heap.size W W1 := ⟨hbel.os, hbel.tape, hbel.output, hbel.size, fun j hj _ => hbel.block j hj, fun j h => .inl h, fun j h => Nat.lt_of_lt_of_le (hX j h) hbel.size⟩
  let IX : Code → List (RV × Int) → (Nat → Prop) → World → Prop := fun c pre X' W' => c = .ret ∧ Gr X X' W.heap.size W W' ∧ (J (badL ya) X' W' ∨ ∃ q, q <+: badL ya ∧ Jx q X' W')
  have hIX : ∀ (n₀ : Nat), W.heap.size ≤ n₀ → ∀ c, Stable n₀ (IX c) := fun n₀ hn c pre X' A B ⟨h1, h2, h3⟩ ha => by
    have ha' : Agree X' W.heap.size A B := ⟨ha.os, ha.tape, ha.output, ha.size, fun j hj => ha.block j (by rcases hj with h | h; exact .inl h; exact .inr (by omega))⟩
    refine ⟨h1, ⟨ha.os.trans h2.os, ha.tape.trans h2.tape, ha.output.trans h2.output, Nat.le_trans h2.size ha.size, fun j hj hx => (ha.block j (.inr (by omega))).trans (h2.block j hj hx), h2.sub, fun j hj => Nat.lt_of_lt_of_le (h2.lt j hj) ha.size⟩, ?_⟩
    rcases h3 with h | ⟨q, hq, h⟩
    · exact .inl (hJ _ _ _ _ h ha')
    · exact .inr ⟨q, hq, hJx _ _ _ _ h ha'⟩
  let I : List (RV × Int) → (Nat → Prop) → World → Prop := fun pre X' W' => pre = [] ∧ BI J [] X W [] X' W'
  have hI : Stable W1.heap.size I := fun pre X' A B ⟨h1, h2⟩ ha => ⟨h1, BI.stable hJ hbel.size _ _ _ _ h2 ha⟩
  refine wpIn_rangeFunc_sep hro h1 (gf := ga) (lb := la) rfl trivial ega (hqa (n - 1)) (fun _ => rfl) X hbel.size (fun j hj => ⟨(hRa j hj).1, (hRa j hj).2, hbel.block j (hRa j hj).1⟩) (fun j hj => Nat.lt_of_lt_of_le (hX j hj) hbel.size)
    I IX hI (hIX _ hbel.size) ⟨rfl, hJ _ _ _ _ h0 hag1, hgr1, (fun _ h => by cases h)⟩ ?round ?done ?stop
  case round =>
    rintro lab pre ⟨⟨ra, rn, rc⟩, e⟩ X1 Wa hl hpre ⟨rfl, b1, b2, b3⟩ hg hXl hlt
    gi_wp2
    refine ⟨fun _ _ _ => trivial, Nat.le_refl _, trivial, trivial, trivial, ?_⟩
    intro W3 z1 z2 z3 z4 z5
    have hag3 : Agree X1 W.heap.size Wa W3 := ⟨z2, z3, z4, by omega, fun j hj => z5 j (by rintro rfl; rcases hj with h | h; exact hXl h; omega)⟩
    have hJ3 := hJ _ _ _ _ b1 hag3
    have hg3 : Gr X X1 W.heap.size W W3 := ⟨z2.trans b2.os, z3.trans b2.tape, z4.trans b2.output, by rw [z1]; exact b2.size, fun j hj hx => (z5 j (by omega)).trans (b2.block j hj hx), b2.sub, fun j hj => by rw [z1]; exact b2.lt j hj⟩
    have cY3 : W3.cell? ⟨W.heap.size, 0, none⟩ = some (.func (.yield l) #[] #[]) := (cell_of_block ((z5 _ (by omega)).trans (hg.block _ (by omega) (fun h => hXW _ h rfl))) 0).trans (Boxed.cell cY)
    have cB3 := (cell_of_block (hg3.block B hB.1 hB.2) 0).trans hcb
    have cM3 := (cell_of_block (hg3.block Bm hBm.1 hBm.2) 0).trans hcm
    obtain ⟨y0, yt, rfl⟩ : ∃ y0 yt, ya = y0 :: yt := by
      cases ya with
      | nil => have := hpre.length_le; simp at this
      | cons y0 yt => exact ⟨y0, yt, rfl⟩
    have he : e = 0 := by
      obtain ⟨t, ht⟩ := hpre
      exact hz (⟨ra, rn, rc⟩, e) (by rw [← ht]; simp)
    subst he
    obtain ⟨fn, tmps, assign, body, hy, hR⟩ := yield_wide (m := n - 1 - 1 - 1) (hY [] (RV.nil, 310) X1 W3 (List.prefix_refl _) hJ3 hg3)
    dsimp only [enc, RV.nil] at hy
    have hR' : RoundIn (Fence.wide.inRound lab) (n - 1 - 1 - 1) Try.prog l fn tmps assign body W3 _ := hR
    have hz3 : W3.heap.size = Wa.heap.size := z1
    gi_wp2_with (refine ⟨trivial, (fun h => by cases h), ?_⟩; gi_at_call 39; refine (CallsIn.inRound _ (callsIn_wide.2 (what_nil _ _ _ Bm _ cM3))).mono ?_; rintro e4 w4 ⟨rfl, rfl⟩)
    refine ⟨(fun h => by cases h), ?_⟩
    refine hR'.mono ?_
    rintro e4 W4 ⟨X4, g4, (⟨rfl, j4⟩ | ⟨rfl, j4⟩)⟩
    · gi_wp2
      have g5 := hg3.trans g4 hg3.size
      rw [hz3] at g4
      exact ⟨X4, g4, rfl, g5, .inl j4⟩
    · gi_wp2
      have g5 := hg3.trans g4 hg3.size
      rw [hz3] at g4
      exact ⟨X4, g4, rfl, g5, .inr ⟨_, List.prefix_refl _, j4⟩⟩
  case done =>
    rintro Xd Wd ⟨h5, b1, b2, b3⟩ hg hn hK
    have hw1 := hgr1.size
    have hb : J (badL ya) Xd Wd := by rw [h5]; exact b1
    gi_wp2
    refine ⟨by simp, .inl ⟨_, _, rfl, run_takeDeferred hK, ?_⟩⟩
    exact ⟨_, results_none rfl _ _ _, ⟨_, rfl⟩, Xd, b2.put _ hw1, .inl (hJ _ _ _ _ hb (agree_put Wd (.deferred none) hn hw1))⟩
  case stop =>
    rintro c pre Xd Wd _ ⟨rfl, c2, c3⟩ hg hn hK
    have hw1 := hgr1.size
    gi_wp2
    refine ⟨by simp, .inl ⟨_, _, rfl, run_takeDeferred hK, ?_⟩⟩
    refine ⟨_, results_none rfl _ _ _, ⟨_, rfl⟩, Xd, c2.put _ hw1, ?_⟩
    rcases c3 with h | ⟨q, hq, h⟩
    · exact .inl (hJ _ _ _ _ h (agree_put Wd (.deferred none) hn hw1))
    · exact .inr ⟨q, hq, hJx _ _ _ _ h (agree_put Wd (.deferred none) hn hw1)⟩
end Go.Proofs.Ytghpjlohoehdnaa.Sep
