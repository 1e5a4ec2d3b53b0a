/- Functions of the seat as plain Lean functions, each with a proof that the call answers what the function tells; written by a program of this work. No condition beyond those that each theorem names. -/
import Derived.Test.YtbmlpbgddlgdkaaDoorLxx0
import Derived.Test.YtbmlpbgddlgdkaaDoorLxx5
import Derived.Test.YtbmlpbgddlgdkaaDoorLxx7
namespace Go.Proofs.YtbmlpbgddlgdkaaDoor.Lx
open Go.RowKit Go.Proofs.YtbmlpbgddlgdkaaDoorW.PrintWords Go.Proofs.YtbmlpbgddlgdkaaDoorW.PrintLast Go.Proofs.YtbmlpbgddlgdkaaDoorW.PrintMore
attribute [local go_sem] max2_int min2_int max_two min_two max_three min_three max_four min_four   -- for this text's walks alone
set_option linter.unusedVariables false
set_option linter.unusedSimpArgs false

/-! ### quaysidelaw16_LexBlanks: function 4 -/
mutual
def quaysidelaw16_LexBlanks.j0 : Nat → ByteArray → ByteArray → Bool → Option (Bool)
  | 0, _, _, _ => none
  | k + 1, x0, x1, x22 => if x22 = true then ((quaysidelaw16_awake.f k).bind fun t205 => (some t205)) else (quaysidelaw16_LexBlanks.l0 k x0 x1 0)
def quaysidelaw16_LexBlanks.l0 : Nat → ByteArray → ByteArray → Int → Option (Bool)
  | 0, _, _, _ => none
  | k + 1, x0, x1, x5 => if x5 < (x1.size : Int) then (if 0 ≤ x5 then (if (bt x1 x5) = 10 then ((quaysidelaw16_awake.f k).bind fun t206 => (some t206)) else (if (bt x1 x5) = 42 then ((quaysidelaw16_awake.f k).bind fun t207 => (some t207)) else (if (bt x1 x5) = 47 then ((quaysidelaw16_awake.f k).bind fun t208 => (some t208)) else (quaysidelaw16_LexBlanks.l0 k x0 x1 (wrap64 (x5 + 1)))))) else (none)) else ((lex_Tokens.f k x0).bind fun bt209 => (if bt209.2.2 = 0 then (quaysidelaw16_LexBlanks.j2 k x1 bt209.1 ((bt209.1.length : Int) == 0)) else (quaysidelaw16_LexBlanks.j2 k x1 bt209.1 true)))
def quaysidelaw16_LexBlanks.j2 : Nat → ByteArray → List (S33) → Bool → Option (Bool)
  | 0, _, _, _ => none
  | k + 1, x1, x6, x59 => if x59 = true then ((quaysidelaw16_awake.f k).bind fun t214 => (some t214)) else (if 4 + x1.size ≤ 9223372036854775807 then (if ((⟨#[32, 9, 47, 42]⟩ : ByteArray) ++ x1).size + 3 ≤ 9223372036854775807 then ((quaysidelaw16_put.f k x6 (((⟨#[32, 9, 47, 42]⟩ : ByteArray) ++ x1) ++ (⟨#[42, 47, 10]⟩ : ByteArray))).bind fun t215 => ((lex_Tokens.f k t215).bind fun bt216 => (if 3 + x1.size ≤ 9223372036854775807 then (if ((⟨#[32, 45, 45]⟩ : ByteArray) ++ x1).size + 3 ≤ 9223372036854775807 then ((quaysidelaw16_put.f k x6 (((⟨#[32, 45, 45]⟩ : ByteArray) ++ x1) ++ (⟨#[13, 10, 32]⟩ : ByteArray))).bind fun t221 => ((lex_Tokens.f k t221).bind fun bt222 => (if bt216.2.2 = 2 then (quaysidelaw16_LexBlanks.j3 k x6 bt216.1 bt216.2.2 bt222.1 bt222.2.2 true) else (quaysidelaw16_LexBlanks.j3 k x6 bt216.1 bt216.2.2 bt222.1 bt222.2.2 (bt222.2.2 == 2))))) else (none)) else (none)))) else (none)) else (none))
def quaysidelaw16_LexBlanks.j3 : Nat → List (S33) → List (S33) → Int → List (S33) → Int → Bool → Option (Bool)
  | 0, _, _, _, _, _, _ => none
  | k + 1, x6, x9, x11, x12, x14, x86 => if x86 = true then ((quaysidelaw16_awake.f k).bind fun t227 => (some t227)) else (if x11 = 0 then (if x14 = 0 then ((quaysideref16_Same.f k x6 x9).bind fun t228 => (if t228 = true then ((quaysideref16_Same.f k x6 x12).bind fun t229 => (if t229 = true then ((quaysidelaw16_awake.f k).bind fun t230 => (some t230)) else (some false))) else (some false))) else (some false)) else (some false))
end
def quaysidelaw16_LexBlanks.f (k : Nat) (a0 : ByteArray) (a1 : ByteArray) : Option (Bool) := if (a0.size : Int) > 256 then (quaysidelaw16_LexBlanks.j0 k a0 a1 true) else (quaysidelaw16_LexBlanks.j0 k a0 a1 (decide ((a1.size : Int) > 20)))
theorem quaysidelaw16_LexBlanks.mono_l : ∀ k, (∀ y0 y1 y2, LeO (quaysidelaw16_LexBlanks.j0 k y0 y1 y2) (quaysidelaw16_LexBlanks.j0 (k + 1) y0 y1 y2)) ∧ (∀ y0 y1 y2, LeO (quaysidelaw16_LexBlanks.l0 k y0 y1 y2) (quaysidelaw16_LexBlanks.l0 (k + 1) y0 y1 y2)) ∧ (∀ y0 y1 y2, LeO (quaysidelaw16_LexBlanks.j2 k y0 y1 y2) (quaysidelaw16_LexBlanks.j2 (k + 1) y0 y1 y2)) ∧ (∀ y0 y1 y2 y3 y4 y5, LeO (quaysidelaw16_LexBlanks.j3 k y0 y1 y2 y3 y4 y5) (quaysidelaw16_LexBlanks.j3 (k + 1) y0 y1 y2 y3 y4 y5))
  | 0 => ⟨fun _ _ _ r h => by simp [quaysidelaw16_LexBlanks.j0] at h, fun _ _ _ r h => by simp [quaysidelaw16_LexBlanks.l0] at h, fun _ _ _ r h => by simp [quaysidelaw16_LexBlanks.j2] at h, fun _ _ _ _ _ _ r h => by simp [quaysidelaw16_LexBlanks.j3] at h⟩
  | k + 1 => by
    obtain ⟨ih0, ih1, ih2, ih3⟩ := quaysidelaw16_LexBlanks.mono_l k
    refine ⟨?_, ?_, ?_, ?_⟩
    · intro y0 y1 y2
      unfold quaysidelaw16_LexBlanks.j0
      repeat' first
      | (with_reducible exact ih0 _ _ _)
      | (with_reducible exact ih1 _ _ _)
      | (with_reducible exact ih2 _ _ _)
      | (with_reducible exact ih3 _ _ _ _ _ _)
      | (with_reducible exact lex_Tokens.mono _ _)
      | (with_reducible exact quaysidelaw16_awake.mono _)
      | (with_reducible exact quaysidelaw16_put.mono _ _ _)
      | (with_reducible exact quaysideref16_Same.mono _ _ _)
      | (with_reducible exact LeO.refl _)
      | (with_reducible exact LeO.none _)
      | (with_reducible refine LeO.ite ?_ ?_)
      | (with_reducible refine LeO.bind ?_ (fun _ => ?_))
      | exact ih0 _ _ _
      | exact ih1 _ _ _
      | exact ih2 _ _ _
      | exact ih3 _ _ _ _ _ _
      | exact lex_Tokens.mono _ _
      | exact quaysidelaw16_awake.mono _
      | exact quaysidelaw16_put.mono _ _ _
      | exact quaysideref16_Same.mono _ _ _
      | exact LeO.none _
      | refine LeO.ite ?_ ?_
      | refine LeO.bind ?_ (fun _ => ?_)
    · intro y0 y1 y2
      unfold quaysidelaw16_LexBlanks.l0
      repeat' first
      | (with_reducible exact ih0 _ _ _)
      | (with_reducible exact ih1 _ _ _)
      | (with_reducible exact ih2 _ _ _)
      | (with_reducible exact ih3 _ _ _ _ _ _)
      | (with_reducible exact lex_Tokens.mono _ _)
      | (with_reducible exact quaysidelaw16_awake.mono _)
      | (with_reducible exact quaysidelaw16_put.mono _ _ _)
      | (with_reducible exact quaysideref16_Same.mono _ _ _)
      | (with_reducible exact LeO.refl _)
      | (with_reducible exact LeO.none _)
      | (with_reducible refine LeO.ite ?_ ?_)
      | (with_reducible refine LeO.bind ?_ (fun _ => ?_))
      | exact ih0 _ _ _
      | exact ih1 _ _ _
      | exact ih2 _ _ _
      | exact ih3 _ _ _ _ _ _
      | exact lex_Tokens.mono _ _
      | exact quaysidelaw16_awake.mono _
      | exact quaysidelaw16_put.mono _ _ _
      | exact quaysideref16_Same.mono _ _ _
      | exact LeO.none _
      | refine LeO.ite ?_ ?_
      | refine LeO.bind ?_ (fun _ => ?_)
    · intro y0 y1 y2
      unfold quaysidelaw16_LexBlanks.j2
      repeat' first
      | (with_reducible exact ih0 _ _ _)
      | (with_reducible exact ih1 _ _ _)
      | (with_reducible exact ih2 _ _ _)
      | (with_reducible exact ih3 _ _ _ _ _ _)
      | (with_reducible exact lex_Tokens.mono _ _)
      | (with_reducible exact quaysidelaw16_awake.mono _)
      | (with_reducible exact quaysidelaw16_put.mono _ _ _)
      | (with_reducible exact quaysideref16_Same.mono _ _ _)
      | (with_reducible exact LeO.refl _)
      | (with_reducible exact LeO.none _)
      | (with_reducible refine LeO.ite ?_ ?_)
      | (with_reducible refine LeO.bind ?_ (fun _ => ?_))
      | exact ih0 _ _ _
      | exact ih1 _ _ _
      | exact ih2 _ _ _
      | exact ih3 _ _ _ _ _ _
      | exact lex_Tokens.mono _ _
      | exact quaysidelaw16_awake.mono _
      | exact quaysidelaw16_put.mono _ _ _
      | exact quaysideref16_Same.mono _ _ _
      | exact LeO.none _
      | refine LeO.ite ?_ ?_
      | refine LeO.bind ?_ (fun _ => ?_)
    · intro y0 y1 y2 y3 y4 y5
      unfold quaysidelaw16_LexBlanks.j3
      repeat' first
      | (with_reducible exact ih0 _ _ _)
      | (with_reducible exact ih1 _ _ _)
      | (with_reducible exact ih2 _ _ _)
      | (with_reducible exact ih3 _ _ _ _ _ _)
      | (with_reducible exact lex_Tokens.mono _ _)
      | (with_reducible exact quaysidelaw16_awake.mono _)
      | (with_reducible exact quaysidelaw16_put.mono _ _ _)
      | (with_reducible exact quaysideref16_Same.mono _ _ _)
      | (with_reducible exact LeO.refl _)
      | (with_reducible exact LeO.none _)
      | (with_reducible refine LeO.ite ?_ ?_)
      | (with_reducible refine LeO.bind ?_ (fun _ => ?_))
      | exact ih0 _ _ _
      | exact ih1 _ _ _
      | exact ih2 _ _ _
      | exact ih3 _ _ _ _ _ _
      | exact lex_Tokens.mono _ _
      | exact quaysidelaw16_awake.mono _
      | exact quaysidelaw16_put.mono _ _ _
      | exact quaysideref16_Same.mono _ _ _
      | exact LeO.none _
      | refine LeO.ite ?_ ?_
      | refine LeO.bind ?_ (fun _ => ?_)
theorem quaysidelaw16_LexBlanks.mono : ∀ a0 a1 k, LeO (quaysidelaw16_LexBlanks.f k a0 a1) (quaysidelaw16_LexBlanks.f (k + 1) a0 a1) := by
  intro a0 a1 k
  obtain ⟨ih0, ih1, ih2, ih3⟩ := quaysidelaw16_LexBlanks.mono_l k
  unfold quaysidelaw16_LexBlanks.f
  repeat' first
      | (with_reducible exact ih0 _ _ _)
      | (with_reducible exact ih1 _ _ _)
      | (with_reducible exact ih2 _ _ _)
      | (with_reducible exact ih3 _ _ _ _ _ _)
      | (with_reducible exact lex_Tokens.mono _ _)
      | (with_reducible exact quaysidelaw16_awake.mono _)
      | (with_reducible exact quaysidelaw16_put.mono _ _ _)
      | (with_reducible exact quaysideref16_Same.mono _ _ _)
      | (with_reducible exact LeO.refl _)
      | (with_reducible exact LeO.none _)
      | (with_reducible refine LeO.ite ?_ ?_)
      | (with_reducible refine LeO.bind ?_ (fun _ => ?_))
      | exact ih0 _ _ _
      | exact ih1 _ _ _
      | exact ih2 _ _ _
      | exact ih3 _ _ _ _ _ _
      | exact lex_Tokens.mono _ _
      | exact quaysidelaw16_awake.mono _
      | exact quaysidelaw16_put.mono _ _ _
      | exact quaysideref16_Same.mono _ _ _
      | exact LeO.none _
      | refine LeO.ite ?_ ?_
      | refine LeO.bind ?_ (fun _ => ?_)
set_option maxHeartbeats 8000000 in
set_option maxRecDepth 100000 in
theorem quaysidelaw16_LexBlanks.calls (k : Nat) (a0 : ByteArray) (a1 : ByteArray) (r : Bool) (w : World) (h : quaysidelaw16_LexBlanks.f k a0 a1 = some r) (hrt : Aside0 (r = true) := by first | exact ⟨rfl⟩ | exact hrt) (hML : ML w := by first | exact hML | exact ML.below HB.out hML | exact ML.below (by repeat (first | exact HB.out | apply below_alloc | apply pw_below_drewN | apply below_drew1 | exact Below.refl _ _)) hML) :
    Calls Tryd.prog 4 #[.string a0, .string a1] w fun e w' => e = .returned (.bool r) ∧ Below w.heap.size w w' := by
  have HB := Aside0.mk (Below.refl w.heap.size w)
  have H : (if (a0.size : Int) > 256 then (quaysidelaw16_LexBlanks.j0 k a0 a1 true) else (quaysidelaw16_LexBlanks.j0 k a0 a1 (decide ((a1.size : Int) > 20)))) = some r := h
  clear h
  have HC3 := Aside0.mk H
  clear H
  go_enter Tryd.func4, Tryd.ntmps4
  go_upto_region 1 with (fail)
  go_cut [22] (fun v22 wc => ∃ (kq : Nat) (x22_2 : Bool), v22 = .bool x22_2 ∧ Aside0 (quaysidelaw16_LexBlanks.j0 kq a0 a1 x22_2 = some r) ∧ Aside0 (kq ≤ k) ∧ Aside0 (Below w.heap.size w wc))
  case first =>
    have H := HC3.out
    clear HC3
    by_cases c4 : (a0.size : Int) > 256
    · rw [if_pos c4] at H
      have c4b0 : decide (256 < (a0.size : Int)) = true := decide_eq_true c4
      have c4b1 : decide (256 < a0.size) = true := decide_eq_true (by omega)
      clear c4
      (first | rw [c4b0] | (simp only [i64_w, i32_w]; rw [c4b0]) | skip)
      have H' := Aside0.mk H
      clear H
      go_wp2
      go_meet
      case rel => exact ⟨_, (true), (by first | rfl | (simp; done) | (simp [*]; done)), H', ⟨by first | omega | exact Nat.le_refl _⟩, ⟨by repeat (first | (with_reducible first | exact HB.out | apply below_alloc | apply pw_below_drewN | apply below_drew1) | exact HB.out)⟩⟩
    · rw [if_neg c4] at H
      have c4b0 : decide (256 < (a0.size : Int)) = false := decide_eq_false c4
      have c4b1 : decide (256 < a0.size) = false := decide_eq_false (by omega)
      clear c4
      (first | rw [c4b0] | (simp only [i64_w, i32_w]; rw [c4b0]) | skip)
      have H' := Aside0.mk H
      clear H
      go_wp2
      go_meet
      case rel => exact ⟨_, (decide ((a1.size : Int) > 20)), (by first | rfl | (simp; done) | (simp [*]; done)), H', ⟨by first | omega | exact Nat.le_refl _⟩, ⟨by repeat (first | (with_reducible first | exact HB.out | apply below_alloc | apply pw_below_drewN | apply below_drew1) | exact HB.out)⟩⟩
  case rest =>
    clear HC3
    try clear p2
    try clear c4
    try clear c4b0
    try clear c4b1
    obtain ⟨kq, x22_2, rfl, HA, HJ2, HB⟩ := hcut
    cases kq with
    | zero => exact absurd HA.out (by simp [quaysidelaw16_LexBlanks.j0])
    | succ kj2 =>
      have H := HA.out
      clear HA
      simp only [quaysidelaw16_LexBlanks.j0] at H
      by_cases c5 : x22_2 = true
      · subst c5
        have H1 : ((quaysidelaw16_awake.f kj2).bind fun t205 => (some t205)) = some r := by rw [if_pos rfl] at H; exact H
        clear H
        have H := H1
        clear H1
        replace H := Option.bind_eq_some_iff.mp H
        obtain ⟨t205, A60, H⟩ := H
        replace H : (some t205) = some r := H
        have A6 := Aside0.mk A60
        clear A60
        obtain rfl := Option.some.inj H
        go_wp2_with (first | ((with_reducible refine gate_callee (f := 6) rfl ?_); refine goesL_ (some 23) rfl rfl Tryd.func6 (by kernel_rfl) rfl #[] rfl (by (try simp only [List.map_toArray, List.map_cons, List.map_nil]); first | done | rfl | (simp only [List.length_drop, List.length_take]; rfl)) ?_; (with_reducible refine (quaysidelaw16_awake.calls kj2  t205 _ A6.out).mono ?_); rintro e w7 ⟨rfl, hb⟩; refine ⟨_, rfl, ?_⟩; have n0_ := Aside0.mk (below_step (by repeat (first | (with_reducible first | exact HB.out | apply below_alloc | apply pw_below_drewN | apply below_drew1) | exact HB.out)) hb); clear HB; have HB := n0_; clear n0_; (try clear hb); (try clear hb2); (try clear hk); (try clear hi)))
        go_ret
        exact ⟨by first | rfl | (simp [errW_none, errW_some] <;> rfl) | (simp [*, errW_none, errW_some] <;> rfl), by repeat (first | (with_reducible first | exact HB.out | apply below_alloc | apply pw_below_drewN | apply below_drew1) | exact HB.out)⟩
      · replace c5 := Bool.eq_false_iff.mpr c5
        subst c5
        have H1 : (quaysidelaw16_LexBlanks.l0 kj2 a0 a1 0) = some r := by rw [if_neg (show ¬ (false = true) by decide)] at H; exact H
        clear H
        have H := H1
        clear H1
        have H' := Aside0.mk H
        clear H
        go_wp2
        go_loopg [5] kj2 (fun kq v5 w' => ∃ (x5_2 : Int), v5 = .int .i64 x5_2 ∧ Aside0 (quaysidelaw16_LexBlanks.l0 kq a0 a1 x5_2 = some r) ∧ Aside0 (kq ≤ kj2) ∧ Aside0 (Below w.heap.size w w'))
        case atStart => exact ⟨(0), (by first | rfl | (simp; done) | (simp [*]; done)), H', ⟨Nat.le_refl _⟩, ⟨by repeat (first | (with_reducible first | exact HB.out | apply below_alloc | apply pw_below_drewN | apply below_drew1) | exact HB.out)⟩⟩
        case round =>
          clear H'
          try clear p2
          try clear c4
          try clear c4b0
          try clear c4b1
          try clear c5
          try clear c6
          try clear p2
          obtain ⟨x5_2, rfl, HA, HK2, HB⟩ := hrel
          cases gk with
          | zero => exact absurd HA.out (by simp [quaysidelaw16_LexBlanks.l0])
          | succ k2 =>
            have H := HA.out
            clear HA
            simp only [quaysidelaw16_LexBlanks.l0] at H
            by_cases c8 : x5_2 < (a1.size : Int)
            · rw [if_pos c8] at H
              have c8b0 : decide (x5_2 < (a1.size : Int)) = true := decide_eq_true c8
              clear c8
              by_cases c9 : 0 ≤ x5_2
              · rw [if_pos c9] at H
                have c9b0 : decide (0 ≤ x5_2) = true := decide_eq_true c9
                clear c9
                by_cases c11 : (bt a1 x5_2) = 10
                · rw [if_pos c11] at H
                  have c11b0 : ((bt a1 x5_2) == 10) = true := beq_iff_eq.mpr c11
                  have c11b1 : ((bt a1 x5_2) != 10) = false := bne_eq_false_iff_eq.mpr c11
                  clear c11
                  replace H := Option.bind_eq_some_iff.mp H
                  obtain ⟨t206, A120, H⟩ := H
                  replace H : (some t206) = some r := H
                  have A12 := Aside0.mk A120
                  clear A120
                  obtain rfl := Option.some.inj H
                  have p10 : 0 ≤ (x5_2 : Int) := of_decide_eq_true (by first | (with_reducible assumption) | assumption)
                  have q10 : x5_2 < (a1.size : Int) := of_decide_eq_true (by first | (with_reducible assumption) | assumption)
                  have hx10 := bt_at a1 x5_2
                  replace p10 := eq_true p10
                  replace q10 := eq_true q10
                  go_wp2_with (first | ((with_reducible refine gate_callee (f := 6) rfl ?_); refine goesL_ (some 46) rfl rfl Tryd.func6 (by kernel_rfl) rfl #[] rfl (by (try simp only [List.map_toArray, List.map_cons, List.map_nil]); first | done | rfl | (simp only [List.length_drop, List.length_take]; rfl)) ?_; (with_reducible refine (quaysidelaw16_awake.calls k2  t206 _ A12.out).mono ?_); rintro e w13 ⟨rfl, hb⟩; refine ⟨_, rfl, ?_⟩; have n0_ := Aside0.mk (below_step (by repeat (first | (with_reducible first | exact HB.out | apply below_alloc | apply pw_below_drewN | apply below_drew1) | exact HB.out)) hb); clear HB; have HB := n0_; clear n0_; (try clear hb); (try clear hb2); (try clear hk); (try clear hi)))
                  go_ret
                  exact ⟨by first | rfl | (simp [errW_none, errW_some] <;> rfl) | (simp [*, errW_none, errW_some] <;> rfl), by repeat (first | (with_reducible first | exact HB.out | apply below_alloc | apply pw_below_drewN | apply below_drew1) | exact HB.out)⟩
                · rw [if_neg c11] at H
                  have c11b0 : ((bt a1 x5_2) == 10) = false := beq_eq_false_iff_ne.mpr c11
                  have c11b1 : ((bt a1 x5_2) != 10) = true := bne_iff_ne.mpr c11
                  by_cases c15 : (bt a1 x5_2) = 42
                  · rw [if_pos c15] at H
                    have c15b0 : ((bt a1 x5_2) == 42) = true := beq_iff_eq.mpr c15
                    have c15b1 : ((bt a1 x5_2) != 42) = false := bne_eq_false_iff_eq.mpr c15
                    clear c15
                    replace H := Option.bind_eq_some_iff.mp H
                    obtain ⟨t207, A160, H⟩ := H
                    replace H : (some t207) = some r := H
                    have A16 := Aside0.mk A160
                    clear A160
                    obtain rfl := Option.some.inj H
                    have p10 : 0 ≤ (x5_2 : Int) := of_decide_eq_true (by first | (with_reducible assumption) | assumption)
                    have q10 : x5_2 < (a1.size : Int) := of_decide_eq_true (by first | (with_reducible assumption) | assumption)
                    have hx10 := bt_at a1 x5_2
                    replace p10 := eq_true p10
                    replace q10 := eq_true q10
                    have p14 : 0 ≤ (x5_2 : Int) := of_decide_eq_true (by first | (with_reducible assumption) | assumption)
                    have q14 : x5_2 < (a1.size : Int) := of_decide_eq_true (by first | (with_reducible assumption) | assumption)
                    have hx14 := bt_at a1 x5_2
                    replace p14 := eq_true p14
                    replace q14 := eq_true q14
                    go_wp2_with (first | ((with_reducible refine gate_callee (f := 6) rfl ?_); refine goesL_ (some 46) rfl rfl Tryd.func6 (by kernel_rfl) rfl #[] rfl (by (try simp only [List.map_toArray, List.map_cons, List.map_nil]); first | done | rfl | (simp only [List.length_drop, List.length_take]; rfl)) ?_; (with_reducible refine (quaysidelaw16_awake.calls k2  t207 _ A16.out).mono ?_); rintro e w17 ⟨rfl, hb⟩; refine ⟨_, rfl, ?_⟩; have n0_ := Aside0.mk (below_step (by repeat (first | (with_reducible first | exact HB.out | apply below_alloc | apply pw_below_drewN | apply below_drew1) | exact HB.out)) hb); clear HB; have HB := n0_; clear n0_; (try clear hb); (try clear hb2); (try clear hk); (try clear hi)))
                    go_ret
                    exact ⟨by first | rfl | (simp [errW_none, errW_some] <;> rfl) | (simp [*, errW_none, errW_some] <;> rfl), by repeat (first | (with_reducible first | exact HB.out | apply below_alloc | apply pw_below_drewN | apply below_drew1) | exact HB.out)⟩
                  · rw [if_neg c15] at H
                    have c15b0 : ((bt a1 x5_2) == 42) = false := beq_eq_false_iff_ne.mpr c15
                    have c15b1 : ((bt a1 x5_2) != 42) = true := bne_iff_ne.mpr c15
                    by_cases c19 : (bt a1 x5_2) = 47
                    · rw [if_pos c19] at H
                      have c19b0 : ((bt a1 x5_2) == 47) = true := beq_iff_eq.mpr c19
                      have c19b1 : ((bt a1 x5_2) != 47) = false := bne_eq_false_iff_eq.mpr c19
                      clear c19
                      replace H := Option.bind_eq_some_iff.mp H
                      obtain ⟨t208, A200, H⟩ := H
                      replace H : (some t208) = some r := H
                      have A20 := Aside0.mk A200
                      clear A200
                      obtain rfl := Option.some.inj H
                      have p10 : 0 ≤ (x5_2 : Int) := of_decide_eq_true (by first | (with_reducible assumption) | assumption)
                      have q10 : x5_2 < (a1.size : Int) := of_decide_eq_true (by first | (with_reducible assumption) | assumption)
                      have hx10 := bt_at a1 x5_2
                      replace p10 := eq_true p10
                      replace q10 := eq_true q10
                      have p14 : 0 ≤ (x5_2 : Int) := of_decide_eq_true (by first | (with_reducible assumption) | assumption)
                      have q14 : x5_2 < (a1.size : Int) := of_decide_eq_true (by first | (with_reducible assumption) | assumption)
                      have hx14 := bt_at a1 x5_2
                      replace p14 := eq_true p14
                      replace q14 := eq_true q14
                      have p18 : 0 ≤ (x5_2 : Int) := of_decide_eq_true (by first | (with_reducible assumption) | assumption)
                      have q18 : x5_2 < (a1.size : Int) := of_decide_eq_true (by first | (with_reducible assumption) | assumption)
                      have hx18 := bt_at a1 x5_2
                      replace p18 := eq_true p18
                      replace q18 := eq_true q18
                      go_wp2_with (first | ((with_reducible refine gate_callee (f := 6) rfl ?_); refine goesL_ (some 46) rfl rfl Tryd.func6 (by kernel_rfl) rfl #[] rfl (by (try simp only [List.map_toArray, List.map_cons, List.map_nil]); first | done | rfl | (simp only [List.length_drop, List.length_take]; rfl)) ?_; (with_reducible refine (quaysidelaw16_awake.calls k2  t208 _ A20.out).mono ?_); rintro e w21 ⟨rfl, hb⟩; refine ⟨_, rfl, ?_⟩; have n0_ := Aside0.mk (below_step (by repeat (first | (with_reducible first | exact HB.out | apply below_alloc | apply pw_below_drewN | apply below_drew1) | exact HB.out)) hb); clear HB; have HB := n0_; clear n0_; (try clear hb); (try clear hb2); (try clear hk); (try clear hi)))
                      go_ret
                      exact ⟨by first | rfl | (simp [errW_none, errW_some] <;> rfl) | (simp [*, errW_none, errW_some] <;> rfl), by repeat (first | (with_reducible first | exact HB.out | apply below_alloc | apply pw_below_drewN | apply below_drew1) | exact HB.out)⟩
                    · rw [if_neg c19] at H
                      have c19b0 : ((bt a1 x5_2) == 47) = false := beq_eq_false_iff_ne.mpr c19
                      have c19b1 : ((bt a1 x5_2) != 47) = true := bne_iff_ne.mpr c19
                      have H' := Aside0.mk H
                      clear H
                      have p10 : 0 ≤ (x5_2 : Int) := of_decide_eq_true (by first | (with_reducible assumption) | assumption)
                      have q10 : x5_2 < (a1.size : Int) := of_decide_eq_true (by first | (with_reducible assumption) | assumption)
                      have hx10 := bt_at a1 x5_2
                      replace p10 := eq_true p10
                      replace q10 := eq_true q10
                      have p14 : 0 ≤ (x5_2 : Int) := of_decide_eq_true (by first | (with_reducible assumption) | assumption)
                      have q14 : x5_2 < (a1.size : Int) := of_decide_eq_true (by first | (with_reducible assumption) | assumption)
                      have hx14 := bt_at a1 x5_2
                      replace p14 := eq_true p14
                      replace q14 := eq_true q14
                      have p18 : 0 ≤ (x5_2 : Int) := of_decide_eq_true (by first | (with_reducible assumption) | assumption)
                      have q18 : x5_2 < (a1.size : Int) := of_decide_eq_true (by first | (with_reducible assumption) | assumption)
                      have hx18 := bt_at a1 x5_2
                      replace p18 := eq_true p18
                      replace q18 := eq_true q18
                      go_wp2
                      go_roundg k2
                      case measure => have := HJ2.out; have := HK2.out; omega
                      case rel => exact ⟨(wrap64 (x5_2 + 1)), (by first | rfl | (simp; done) | (simp [*]; done)), H', ⟨by have := HJ2.out; have := HK2.out; omega⟩, ⟨by repeat (first | (with_reducible first | exact HB.out | apply below_alloc | apply pw_below_drewN | apply below_drew1) | exact HB.out)⟩⟩
              · rw [if_neg c9] at H
                exact absurd H (by simp)
            · rw [if_neg c8] at H
              have c8b0 : decide (x5_2 < (a1.size : Int)) = false := decide_eq_false c8
              clear c8
              replace H := Option.bind_eq_some_iff.mp H
              obtain ⟨⟨t209, t210, t211⟩, A220, H⟩ := H
              replace H : (if t211 = 0 then (quaysidelaw16_LexBlanks.j2 k2 a1 t209 ((t209.length : Int) == 0)) else (quaysidelaw16_LexBlanks.j2 k2 a1 t209 true)) = some r := H
              have A22 := Aside0.mk A220
              clear A220
              have HC23 := Aside0.mk H
              clear H
              go_upto_region 9 with (first | ((with_reducible refine gate_callee (f := 7) rfl ?_); refine goesL_ (some 49) rfl rfl Tryd.func7 (by kernel_rfl) rfl #[.string a0] rfl (by (try simp only [List.map_toArray, List.map_cons, List.map_nil]); first | done | rfl | (simp only [List.length_drop, List.length_take]; rfl)) ?_; (with_reducible refine (lex_Tokens.calls k2 a0 t209 t210 t211 _ A22.out).mono ?_); rintro e w24 ⟨v212, rfl, ho0, hb⟩; refine ⟨_, rfl, ?_⟩; have n0_ := Aside0.mk (Kd.R_lower ho0 (below_size (by repeat (first | (with_reducible first | exact HB.out | apply below_alloc | apply pw_below_drewN | apply below_drew1) | exact HB.out)))); have n1_ := Aside0.mk (below_step (by repeat (first | (with_reducible first | exact HB.out | apply below_alloc | apply pw_below_drewN | apply below_drew1) | exact HB.out)) hb); clear HB; have HO213 := n0_; have HB := n1_; clear n0_ n1_; (try clear hb); (try clear hb2); (try clear hk); (try clear hi); (try clear ho0)))
              (try simp only [Act.put, List.setIfInBounds_toArray, List.set_cons_zero, List.set_cons_succ])
              go_cut [59] (fun v59 wc => ∃ (kq : Nat) (x59_22 : Bool), v59 = .bool x59_22 ∧ Aside0 (quaysidelaw16_LexBlanks.j2 kq a1 t209 x59_22 = some r) ∧ Aside0 (kq ≤ k2) ∧ Aside0 (Kd.R k33 33 wc w.heap.size (fun _ => True) v212 t209) ∧ Aside0 (Below w.heap.size w wc))
              case first =>
                have H := HC23.out
                clear HC23
                by_cases c25 : t211 = 0
                · rw [if_pos c25] at H
                  have c25b0 : (t211 == 0) = true := beq_iff_eq.mpr c25
                  have c25b1 : (t211 != 0) = false := bne_eq_false_iff_eq.mpr c25
                  clear c25
                  (first | rw [c25b0] | (simp only [i64_w, i32_w]; rw [c25b0]) | skip)
                  have H' := Aside0.mk H
                  clear H
                  obtain ⟨Ao26, co26, eo26⟩ := Kd.R_slice HO213.out
                  subst eo26
                  go_wp2
                  go_meet
                  case rel => exact ⟨_, (((t209.length : Int) == 0)), (by first | rfl | (simp; done) | (simp [*]; done)), H', ⟨by have := HJ2.out; have := HK2.out; first | omega | exact Nat.le_refl _⟩, ⟨by (with_reducible repeat (first | apply Kd.R_alloc | apply Kd.R_drewN | apply Kd.R_drew)); exact HO213.out⟩, ⟨by repeat (first | (with_reducible first | exact HB.out | apply below_alloc | apply pw_below_drewN | apply below_drew1) | exact HB.out)⟩⟩
                · rw [if_neg c25] at H
                  have c25b0 : (t211 == 0) = false := beq_eq_false_iff_ne.mpr c25
                  have c25b1 : (t211 != 0) = true := bne_iff_ne.mpr c25
                  (first | rw [c25b0] | (simp only [i64_w, i32_w]; rw [c25b0]) | skip)
                  have H' := Aside0.mk H
                  clear H
                  go_wp2
                  go_meet
                  case rel => exact ⟨_, (true), (by first | rfl | (simp; done) | (simp [*]; done)), H', ⟨by have := HJ2.out; have := HK2.out; first | omega | exact Nat.le_refl _⟩, ⟨by (with_reducible repeat (first | apply Kd.R_alloc | apply Kd.R_drewN | apply Kd.R_drew)); exact HO213.out⟩, ⟨by repeat (first | (with_reducible first | exact HB.out | apply below_alloc | apply pw_below_drewN | apply below_drew1) | exact HB.out)⟩⟩
              case rest =>
                clear HC23
                try clear c1
                try clear p1
                try clear q1
                try clear hx1
                try clear c2
                try clear p2
                try clear c4
                try clear c4b0
                try clear c4b1
                try clear c5
                try clear c6
                try clear p6
                try clear c7
                try clear c8
                try clear c8b0
                try clear c9
                try clear c9b0
                try clear p10
                try clear q10
                try clear hx10
                try clear c11
                try clear c11b0
                try clear c11b1
                try clear p14
                try clear q14
                try clear hx14
                try clear c15
                try clear c15b0
                try clear c15b1
                try clear p18
                try clear q18
                try clear hx18
                try clear c19
                try clear c19b0
                try clear c19b1
                try clear c25
                try clear c25b0
                try clear c25b1
                try clear p10
                try clear p14
                try clear p18
                try clear p2
                try clear q10
                try clear q14
                try clear q18
                obtain ⟨kq, x59_22, rfl, HA, HJ22, HO_6, HB⟩ := hcut
                cases kq with
                | zero => exact absurd HA.out (by simp [quaysidelaw16_LexBlanks.j2])
                | succ kj22 =>
                  have H := HA.out
                  clear HA
                  simp only [quaysidelaw16_LexBlanks.j2] at H
                  by_cases c27 : x59_22 = true
                  · subst c27
                    have H1 : ((quaysidelaw16_awake.f kj22).bind fun t214 => (some t214)) = some r := by rw [if_pos rfl] at H; exact H
                    clear H
                    have H := H1
                    clear H1
                    replace H := Option.bind_eq_some_iff.mp H
                    obtain ⟨t214, A280, H⟩ := H
                    replace H : (some t214) = some r := H
                    have A28 := Aside0.mk A280
                    clear A280
                    obtain rfl := Option.some.inj H
                    go_wp2_with (first | ((with_reducible refine gate_callee (f := 6) rfl ?_); refine goesL_ (some 60) rfl rfl Tryd.func6 (by kernel_rfl) rfl #[] rfl (by (try simp only [List.map_toArray, List.map_cons, List.map_nil]); first | done | rfl | (simp only [List.length_drop, List.length_take]; rfl)) ?_; (with_reducible refine (quaysidelaw16_awake.calls kj22  t214 _ A28.out).mono ?_); rintro e w29 ⟨rfl, hb⟩; refine ⟨_, rfl, ?_⟩; have n0_ := Aside0.mk (Kd.R_below (by (with_reducible repeat (first | apply Kd.R_alloc | apply Kd.R_drewN | apply Kd.R_drew)); exact HO_6.out) hb); have n1_ := Aside0.mk (below_step (by repeat (first | (with_reducible first | exact HB.out | apply below_alloc | apply pw_below_drewN | apply below_drew1) | exact HB.out)) hb); clear HO_6; clear HB; have HO_6 := n0_; have HB := n1_; clear n0_ n1_; (try clear hb); (try clear hb2); (try clear hk); (try clear hi)))
                    go_ret
                    exact ⟨by first | rfl | (simp [errW_none, errW_some] <;> rfl) | (simp [*, errW_none, errW_some] <;> rfl), by repeat (first | (with_reducible first | exact HB.out | apply below_alloc | apply pw_below_drewN | apply below_drew1) | exact HB.out)⟩
                  · replace c27 := Bool.eq_false_iff.mpr c27
                    subst c27
                    have H1 : (if 4 + a1.size ≤ 9223372036854775807 then (if ((⟨#[32, 9, 47, 42]⟩ : ByteArray) ++ a1).size + 3 ≤ 9223372036854775807 then ((quaysidelaw16_put.f kj22 t209 (((⟨#[32, 9, 47, 42]⟩ : ByteArray) ++ a1) ++ (⟨#[42, 47, 10]⟩ : ByteArray))).bind fun t215 => ((lex_Tokens.f kj22 t215).bind fun bt216 => (if 3 + a1.size ≤ 9223372036854775807 then (if ((⟨#[32, 45, 45]⟩ : ByteArray) ++ a1).size + 3 ≤ 9223372036854775807 then ((quaysidelaw16_put.f kj22 t209 (((⟨#[32, 45, 45]⟩ : ByteArray) ++ a1) ++ (⟨#[13, 10, 32]⟩ : ByteArray))).bind fun t221 => ((lex_Tokens.f kj22 t221).bind fun bt222 => (if bt216.2.2 = 2 then (quaysidelaw16_LexBlanks.j3 kj22 t209 bt216.1 bt216.2.2 bt222.1 bt222.2.2 true) else (quaysidelaw16_LexBlanks.j3 kj22 t209 bt216.1 bt216.2.2 bt222.1 bt222.2.2 (bt222.2.2 == 2))))) else (none)) else (none)))) else (none)) else (none)) = some r := by rw [if_neg (show ¬ (false = true) by decide)] at H; exact H
                    clear H
                    have H := H1
                    clear H1
                    by_cases c30 : 4 + a1.size ≤ 9223372036854775807
                    · rw [if_pos c30] at H
                      have c30b0 := eq_true c30
                      have c30b1 : decide (4 + a1.size ≤ 9223372036854775807) = true := decide_eq_true c30
                      try have c30b2 : (9223372036854775807 < 4 + a1.size) = False := eq_false (Nat.not_lt.2 c30)
                      by_cases c31 : ((⟨#[32, 9, 47, 42]⟩ : ByteArray) ++ a1).size + 3 ≤ 9223372036854775807
                      · rw [if_pos c31] at H
                        have c31b0 := eq_true c31
                        have c31b1 : decide (((⟨#[32, 9, 47, 42]⟩ : ByteArray) ++ a1).size + 3 ≤ 9223372036854775807) = true := decide_eq_true c31
                        have c31s : 4 + a1.size + 3 ≤ 9223372036854775807 := by rw [ByteArray.size_append] at c31; exact c31
                        have c31q := eq_true c31s
                        have c31p : (9223372036854775807 < 4 + a1.size + 3) = False := eq_false (Nat.not_lt.2 c31s)
                        try have c31b2 : (9223372036854775807 < ((⟨#[32, 9, 47, 42]⟩ : ByteArray) ++ a1).size + 3) = False := eq_false (Nat.not_lt.2 c31)
                        replace H := Option.bind_eq_some_iff.mp H
                        obtain ⟨t215, A320, H⟩ := H
                        replace H : ((lex_Tokens.f kj22 t215).bind fun bt216 => (if 3 + a1.size ≤ 9223372036854775807 then (if ((⟨#[32, 45, 45]⟩ : ByteArray) ++ a1).size + 3 ≤ 9223372036854775807 then ((quaysidelaw16_put.f kj22 t209 (((⟨#[32, 45, 45]⟩ : ByteArray) ++ a1) ++ (⟨#[13, 10, 32]⟩ : ByteArray))).bind fun t221 => ((lex_Tokens.f kj22 t221).bind fun bt222 => (if bt216.2.2 = 2 then (quaysidelaw16_LexBlanks.j3 kj22 t209 bt216.1 bt216.2.2 bt222.1 bt222.2.2 true) else (quaysidelaw16_LexBlanks.j3 kj22 t209 bt216.1 bt216.2.2 bt222.1 bt222.2.2 (bt222.2.2 == 2))))) else (none)) else (none))) = some r := H
                        have A32 := Aside0.mk A320
                        clear A320
                        replace H := Option.bind_eq_some_iff.mp H
                        obtain ⟨⟨t216, t217, t218⟩, A330, H⟩ := H
                        replace H : (if 3 + a1.size ≤ 9223372036854775807 then (if ((⟨#[32, 45, 45]⟩ : ByteArray) ++ a1).size + 3 ≤ 9223372036854775807 then ((quaysidelaw16_put.f kj22 t209 (((⟨#[32, 45, 45]⟩ : ByteArray) ++ a1) ++ (⟨#[13, 10, 32]⟩ : ByteArray))).bind fun t221 => ((lex_Tokens.f kj22 t221).bind fun bt222 => (if t218 = 2 then (quaysidelaw16_LexBlanks.j3 kj22 t209 t216 t218 bt222.1 bt222.2.2 true) else (quaysidelaw16_LexBlanks.j3 kj22 t209 t216 t218 bt222.1 bt222.2.2 (bt222.2.2 == 2))))) else (none)) else (none)) = some r := H
                        have A33 := Aside0.mk A330
                        clear A330
                        by_cases c34 : 3 + a1.size ≤ 9223372036854775807
                        · rw [if_pos c34] at H
                          have c34b0 := eq_true c34
                          have c34b1 : decide (3 + a1.size ≤ 9223372036854775807) = true := decide_eq_true c34
                          try have c34b2 : (9223372036854775807 < 3 + a1.size) = False := eq_false (Nat.not_lt.2 c34)
                          by_cases c35 : ((⟨#[32, 45, 45]⟩ : ByteArray) ++ a1).size + 3 ≤ 9223372036854775807
                          · rw [if_pos c35] at H
                            have c35b0 := eq_true c35
                            have c35b1 : decide (((⟨#[32, 45, 45]⟩ : ByteArray) ++ a1).size + 3 ≤ 9223372036854775807) = true := decide_eq_true c35
                            have c35s : 3 + a1.size + 3 ≤ 9223372036854775807 := by rw [ByteArray.size_append] at c35; exact c35
                            have c35q := eq_true c35s
                            have c35p : (9223372036854775807 < 3 + a1.size + 3) = False := eq_false (Nat.not_lt.2 c35s)
                            try have c35b2 : (9223372036854775807 < ((⟨#[32, 45, 45]⟩ : ByteArray) ++ a1).size + 3) = False := eq_false (Nat.not_lt.2 c35)
                            replace H := Option.bind_eq_some_iff.mp H
                            obtain ⟨t221, A360, H⟩ := H
                            replace H : ((lex_Tokens.f kj22 t221).bind fun bt222 => (if t218 = 2 then (quaysidelaw16_LexBlanks.j3 kj22 t209 t216 t218 bt222.1 bt222.2.2 true) else (quaysidelaw16_LexBlanks.j3 kj22 t209 t216 t218 bt222.1 bt222.2.2 (bt222.2.2 == 2)))) = some r := H
                            have A36 := Aside0.mk A360
                            clear A360
                            replace H := Option.bind_eq_some_iff.mp H
                            obtain ⟨⟨t222, t223, t224⟩, A370, H⟩ := H
                            replace H : (if t218 = 2 then (quaysidelaw16_LexBlanks.j3 kj22 t209 t216 t218 t222 t224 true) else (quaysidelaw16_LexBlanks.j3 kj22 t209 t216 t218 t222 t224 (t224 == 2))) = some r := H
                            have A37 := Aside0.mk A370
                            clear A370
                            have HC38 := Aside0.mk H
                            clear H
                            obtain ⟨Ao39, co39, eo39⟩ := Kd.R_slice HO_6.out
                            subst eo39
                            go_upto_region 13 with (first | ((with_reducible refine gate_callee (f := 8) rfl ?_); refine goesL_ (some 66) rfl rfl Tryd.func8 (by kernel_rfl) rfl #[.slice Ao39 t209.length co39, .string (((⟨#[32, 9, 47, 42]⟩ : ByteArray) ++ a1) ++ (⟨#[42, 47, 10]⟩ : ByteArray))] rfl (by (try simp only [List.map_toArray, List.map_cons, List.map_nil]); first | done | rfl | (simp only [List.length_drop, List.length_take]; rfl)) ?_; (with_reducible refine (quaysidelaw16_put.calls kj22 _ _ t209 (((⟨#[32, 9, 47, 42]⟩ : ByteArray) ++ a1) ++ (⟨#[42, 47, 10]⟩ : ByteArray)) t215 _ ?side1 ?side2 A32.out).mono ?_); (case side1 => repeat (first | exact (Kd.R_reads' HO_6.out).2.2 | (with_reducible refine Kd.C_alloc ?_ _) | (with_reducible refine Kd.C_drewN ?_ _) | (with_reducible refine Kd.C_drew ?_))); (case side2 => exact (Kd.R_reads' HO_6.out).2.1); rintro e w40 ⟨rfl, hb⟩; refine ⟨_, rfl, ?_⟩; have n0_ := Aside0.mk (Kd.R_below (by (with_reducible repeat (first | apply Kd.R_alloc | apply Kd.R_drewN | apply Kd.R_drew)); exact HO_6.out) hb); have n1_ := Aside0.mk (below_step (by repeat (first | (with_reducible first | exact HB.out | apply below_alloc | apply pw_below_drewN | apply below_drew1) | exact HB.out)) hb); clear HO_6; clear HB; have HO_6 := n0_; have HB := n1_; clear n0_ n1_; (try clear hb); (try clear hb2); (try clear hk); (try clear hi)) | ((with_reducible refine gate_callee (f := 7) rfl ?_); refine goesL_ (some 67) rfl rfl Tryd.func7 (by kernel_rfl) rfl #[.string t215] rfl (by (try simp only [List.map_toArray, List.map_cons, List.map_nil]); first | done | rfl | (simp only [List.length_drop, List.length_take]; rfl)) ?_; (with_reducible refine (lex_Tokens.calls kj22 t215 t216 t217 t218 _ A33.out).mono ?_); rintro e w41 ⟨v219, rfl, ho0, hb⟩; refine ⟨_, rfl, ?_⟩; have n0_ := Aside0.mk (Kd.R_elder' (by (with_reducible repeat (first | apply Kd.R_alloc | apply Kd.R_drewN | apply Kd.R_drew)); exact HO_6.out) (Kd.R_base ho0) hb); have n1_ := Aside0.mk (Kd.R_lower (Kd.R_new' ho0 (Kd.R_lt (by (with_reducible repeat (first | apply Kd.R_alloc | apply Kd.R_drewN | apply Kd.R_drew)); exact HO_6.out))) (below_size (by repeat (first | (with_reducible first | exact HB.out | apply below_alloc | apply pw_below_drewN | apply below_drew1) | exact HB.out)))); have n2_ := Aside0.mk (below_step (by repeat (first | (with_reducible first | exact HB.out | apply below_alloc | apply pw_below_drewN | apply below_drew1) | exact HB.out)) hb); clear HO_6; clear HB; have HO_6 := n0_; have HO220 := n1_; have HB := n2_; clear n0_ n1_ n2_; (try clear hb); (try clear hb2); (try clear hk); (try clear hi); (try clear ho0)) | ((with_reducible refine gate_callee (f := 8) rfl ?_); refine goesL_ (some 76) rfl rfl Tryd.func8 (by kernel_rfl) rfl #[.slice Ao39 t209.length co39, .string (((⟨#[32, 45, 45]⟩ : ByteArray) ++ a1) ++ (⟨#[13, 10, 32]⟩ : ByteArray))] rfl (by (try simp only [List.map_toArray, List.map_cons, List.map_nil]); first | done | rfl | (simp only [List.length_drop, List.length_take]; rfl)) ?_; (with_reducible refine (quaysidelaw16_put.calls kj22 _ _ t209 (((⟨#[32, 45, 45]⟩ : ByteArray) ++ a1) ++ (⟨#[13, 10, 32]⟩ : ByteArray)) t221 _ ?side1 ?side2 A36.out).mono ?_); (case side1 => repeat (first | exact (Kd.R_reads' HO_6.out).2.2 | (with_reducible refine Kd.C_alloc ?_ _) | (with_reducible refine Kd.C_drewN ?_ _) | (with_reducible refine Kd.C_drew ?_))); (case side2 => exact (Kd.R_reads' HO_6.out).2.1); rintro e w42 ⟨rfl, hb⟩; refine ⟨_, rfl, ?_⟩; have n0_ := Aside0.mk (Kd.R_below (by (with_reducible repeat (first | apply Kd.R_alloc | apply Kd.R_drewN | apply Kd.R_drew)); exact HO_6.out) hb); have n1_ := Aside0.mk (Kd.R_below (by (with_reducible repeat (first | apply Kd.R_alloc | apply Kd.R_drewN | apply Kd.R_drew)); exact HO220.out) hb); have n2_ := Aside0.mk (below_step (by repeat (first | (with_reducible first | exact HB.out | apply below_alloc | apply pw_below_drewN | apply below_drew1) | exact HB.out)) hb); clear HO_6; clear HO220; clear HB; have HO_6 := n0_; have HO220 := n1_; have HB := n2_; clear n0_ n1_ n2_; (try clear hb); (try clear hb2); (try clear hk); (try clear hi)) | ((with_reducible refine gate_callee (f := 7) rfl ?_); refine goesL_ (some 77) rfl rfl Tryd.func7 (by kernel_rfl) rfl #[.string t221] rfl (by (try simp only [List.map_toArray, List.map_cons, List.map_nil]); first | done | rfl | (simp only [List.length_drop, List.length_take]; rfl)) ?_; (with_reducible refine (lex_Tokens.calls kj22 t221 t222 t223 t224 _ A37.out).mono ?_); rintro e w43 ⟨v225, rfl, ho0, hb⟩; refine ⟨_, rfl, ?_⟩; have n0_ := Aside0.mk (Kd.R_elder' (by (with_reducible repeat (first | apply Kd.R_alloc | apply Kd.R_drewN | apply Kd.R_drew)); exact HO_6.out) (Kd.R_base ho0) hb); have n1_ := Aside0.mk (Kd.R_elder' (by (with_reducible repeat (first | apply Kd.R_alloc | apply Kd.R_drewN | apply Kd.R_drew)); exact HO220.out) (Kd.R_base ho0) hb); have n2_ := Aside0.mk (Kd.R_lower (Kd.R_new' (Kd.R_new' ho0 (Kd.R_lt (by (with_reducible repeat (first | apply Kd.R_alloc | apply Kd.R_drewN | apply Kd.R_drew)); exact HO_6.out))) (Kd.R_lt (by (with_reducible repeat (first | apply Kd.R_alloc | apply Kd.R_drewN | apply Kd.R_drew)); exact HO220.out))) (below_size (by repeat (first | (with_reducible first | exact HB.out | apply below_alloc | apply pw_below_drewN | apply below_drew1) | exact HB.out)))); have n3_ := Aside0.mk (below_step (by repeat (first | (with_reducible first | exact HB.out | apply below_alloc | apply pw_below_drewN | apply below_drew1) | exact HB.out)) hb); clear HO_6; clear HO220; clear HB; have HO_6 := n0_; have HO220 := n1_; have HO226 := n2_; have HB := n3_; clear n0_ n1_ n2_ n3_; (try clear hb); (try clear hb2); (try clear hk); (try clear hi); (try clear ho0)))
                            (try simp only [Act.put, List.setIfInBounds_toArray, List.set_cons_zero, List.set_cons_succ])
                            go_cut [86] (fun v86 wc => ∃ (kq : Nat) (x86_37 : Bool), v86 = .bool x86_37 ∧ Aside0 (quaysidelaw16_LexBlanks.j3 kq t209 t216 t218 t222 t224 x86_37 = some r) ∧ Aside0 (kq ≤ kj22) ∧ Aside0 (Kd.R k33 33 wc w.heap.size (fun k_ => some k_ ≠ (v219 : Value).ownBlock ∧ some k_ ≠ (v225 : Value).ownBlock) (.slice Ao39 t209.length co39) t209) ∧ Aside0 (Kd.R k33 33 wc w.heap.size (fun k_ => some k_ ≠ ((.slice Ao39 t209.length co39) : Value).ownBlock ∧ some k_ ≠ (v225 : Value).ownBlock) v219 t216) ∧ Aside0 (Kd.R k33 33 wc w.heap.size (fun k_ => some k_ ≠ ((.slice Ao39 t209.length co39) : Value).ownBlock ∧ some k_ ≠ (v219 : Value).ownBlock) v225 t222) ∧ Aside0 (Below w.heap.size w wc))
                            case first =>
                              have H := HC38.out
                              clear HC38
                              by_cases c44 : t218 = 2
                              · rw [if_pos c44] at H
                                have c44b0 : (t218 == 2) = true := beq_iff_eq.mpr c44
                                have c44b1 : (t218 != 2) = false := bne_eq_false_iff_eq.mpr c44
                                clear c44
                                (first | rw [c44b0] | (simp only [i64_w, i32_w]; rw [c44b0]) | skip)
                                have H' := Aside0.mk H
                                clear H
                                go_wp2
                                go_meet
                                case rel => exact ⟨_, (true), (by first | rfl | (simp; done) | (simp [*]; done)), H', ⟨by have := HJ2.out; have := HK2.out; have := HJ22.out; first | omega | exact Nat.le_refl _⟩, ⟨by (with_reducible repeat (first | apply Kd.R_alloc | apply Kd.R_drewN | apply Kd.R_drew)); exact Kd.R_mono HO_6.out (fun _ hk => ⟨hk.1.2, hk.2⟩)⟩, ⟨by (with_reducible repeat (first | apply Kd.R_alloc | apply Kd.R_drewN | apply Kd.R_drew)); exact Kd.R_mono HO220.out (fun _ hk => ⟨hk.1.2, hk.2⟩)⟩, ⟨by (with_reducible repeat (first | apply Kd.R_alloc | apply Kd.R_drewN | apply Kd.R_drew)); exact Kd.R_mono HO226.out (fun _ hk => ⟨hk.1.2, hk.2⟩)⟩, ⟨by repeat (first | (with_reducible first | exact HB.out | apply below_alloc | apply pw_below_drewN | apply below_drew1) | exact HB.out)⟩⟩
                              · rw [if_neg c44] at H
                                have c44b0 : (t218 == 2) = false := beq_eq_false_iff_ne.mpr c44
                                have c44b1 : (t218 != 2) = true := bne_iff_ne.mpr c44
                                (first | rw [c44b0] | (simp only [i64_w, i32_w]; rw [c44b0]) | skip)
                                have H' := Aside0.mk H
                                clear H
                                go_wp2
                                go_meet
                                case rel => exact ⟨_, ((t224 == 2)), (by first | rfl | (simp; done) | (simp [*]; done)), H', ⟨by have := HJ2.out; have := HK2.out; have := HJ22.out; first | omega | exact Nat.le_refl _⟩, ⟨by (with_reducible repeat (first | apply Kd.R_alloc | apply Kd.R_drewN | apply Kd.R_drew)); exact Kd.R_mono HO_6.out (fun _ hk => ⟨hk.1.2, hk.2⟩)⟩, ⟨by (with_reducible repeat (first | apply Kd.R_alloc | apply Kd.R_drewN | apply Kd.R_drew)); exact Kd.R_mono HO220.out (fun _ hk => ⟨hk.1.2, hk.2⟩)⟩, ⟨by (with_reducible repeat (first | apply Kd.R_alloc | apply Kd.R_drewN | apply Kd.R_drew)); exact Kd.R_mono HO226.out (fun _ hk => ⟨hk.1.2, hk.2⟩)⟩, ⟨by repeat (first | (with_reducible first | exact HB.out | apply below_alloc | apply pw_below_drewN | apply below_drew1) | exact HB.out)⟩⟩
                            case rest =>
                              clear HC38
                              try clear c1
                              try clear p1
                              try clear q1
                              try clear hx1
                              try clear c2
                              try clear p2
                              try clear c3
                              try clear c4
                              try clear c4b0
                              try clear c4b1
                              try clear c5
                              try clear c6
                              try clear p6
                              try clear c7
                              try clear c8
                              try clear c8b0
                              try clear c9
                              try clear c9b0
                              try clear p10
                              try clear q10
                              try clear hx10
                              try clear c11
                              try clear c11b0
                              try clear c11b1
                              try clear p14
                              try clear q14
                              try clear hx14
                              try clear c15
                              try clear c15b0
                              try clear c15b1
                              try clear p18
                              try clear q18
                              try clear hx18
                              try clear c19
                              try clear c19b0
                              try clear c19b1
                              try clear c25
                              try clear c25b0
                              try clear c25b1
                              try clear c27
                              try clear c30
                              try clear c30b0
                              try clear c30b1
                              try clear c30b2
                              try clear c31
                              try clear c31b0
                              try clear c31b1
                              try clear c31b2
                              try clear c34
                              try clear c34b0
                              try clear c34b1
                              try clear c34b2
                              try clear c35
                              try clear c35b0
                              try clear c35b1
                              try clear c35b2
                              try clear c44
                              try clear c44b0
                              try clear c44b1
                              try clear p1
                              try clear p10
                              try clear p14
                              try clear p18
                              try clear p2
                              try clear p6
                              try clear q1
                              try clear q10
                              try clear q14
                              try clear q18
                              obtain ⟨kq, x86_37, rfl, HA, HJ37, HO_6, HO_9, HO_12, HB⟩ := hcut
                              cases kq with
                              | zero => exact absurd HA.out (by simp [quaysidelaw16_LexBlanks.j3])
                              | succ kj37 =>
                                have H := HA.out
                                clear HA
                                simp only [quaysidelaw16_LexBlanks.j3] at H
                                by_cases c45 : x86_37 = true
                                · subst c45
                                  have H1 : ((quaysidelaw16_awake.f kj37).bind fun t227 => (some t227)) = some r := by rw [if_pos rfl] at H; exact H
                                  clear H
                                  have H := H1
                                  clear H1
                                  replace H := Option.bind_eq_some_iff.mp H
                                  obtain ⟨t227, A460, H⟩ := H
                                  replace H : (some t227) = some r := H
                                  have A46 := Aside0.mk A460
                                  clear A460
                                  obtain rfl := Option.some.inj H
                                  go_wp2_with (first | ((with_reducible refine gate_callee (f := 6) rfl ?_); refine goesL_ (some 87) rfl rfl Tryd.func6 (by kernel_rfl) rfl #[] rfl (by (try simp only [List.map_toArray, List.map_cons, List.map_nil]); first | done | rfl | (simp only [List.length_drop, List.length_take]; rfl)) ?_; (with_reducible refine (quaysidelaw16_awake.calls kj37  t227 _ A46.out).mono ?_); rintro e w47 ⟨rfl, hb⟩; refine ⟨_, rfl, ?_⟩; have n0_ := Aside0.mk (Kd.R_below (by (with_reducible repeat (first | apply Kd.R_alloc | apply Kd.R_drewN | apply Kd.R_drew)); exact HO_6.out) hb); have n1_ := Aside0.mk (Kd.R_below (by (with_reducible repeat (first | apply Kd.R_alloc | apply Kd.R_drewN | apply Kd.R_drew)); exact HO_9.out) hb); have n2_ := Aside0.mk (Kd.R_below (by (with_reducible repeat (first | apply Kd.R_alloc | apply Kd.R_drewN | apply Kd.R_drew)); exact HO_12.out) hb); have n3_ := Aside0.mk (below_step (by repeat (first | (with_reducible first | exact HB.out | apply below_alloc | apply pw_below_drewN | apply below_drew1) | exact HB.out)) hb); clear HO_6; clear HO_9; clear HO_12; clear HB; have HO_6 := n0_; have HO_9 := n1_; have HO_12 := n2_; have HB := n3_; clear n0_ n1_ n2_ n3_; (try clear hb); (try clear hb2); (try clear hk); (try clear hi)))
                                  go_ret
                                  exact ⟨by first | rfl | (simp [errW_none, errW_some] <;> rfl) | (simp [*, errW_none, errW_some] <;> rfl), by repeat (first | (with_reducible first | exact HB.out | apply below_alloc | apply pw_below_drewN | apply below_drew1) | exact HB.out)⟩
                                · replace c45 := Bool.eq_false_iff.mpr c45
                                  subst c45
                                  have H1 : (if t218 = 0 then (if t224 = 0 then ((quaysideref16_Same.f kj37 t209 t216).bind fun t228 => (if t228 = true then ((quaysideref16_Same.f kj37 t209 t222).bind fun t229 => (if t229 = true then ((quaysidelaw16_awake.f kj37).bind fun t230 => (some t230)) else (some false))) else (some false))) else (some false)) else (some false)) = some r := by rw [if_neg (show ¬ (false = true) by decide)] at H; exact H
                                  clear H
                                  have H := H1
                                  clear H1
                                  by_cases c48 : t218 = 0
                                  · rw [if_pos c48] at H
                                    have c48b0 : (t218 == 0) = true := beq_iff_eq.mpr c48
                                    have c48b1 : (t218 != 0) = false := bne_eq_false_iff_eq.mpr c48
                                    clear c48
                                    by_cases c49 : t224 = 0
                                    · rw [if_pos c49] at H
                                      have c49b0 : (t224 == 0) = true := beq_iff_eq.mpr c49
                                      have c49b1 : (t224 != 0) = false := bne_eq_false_iff_eq.mpr c49
                                      clear c49
                                      replace H := Option.bind_eq_some_iff.mp H
                                      obtain ⟨t228, A500, H⟩ := H
                                      replace H : (if t228 = true then ((quaysideref16_Same.f kj37 t209 t222).bind fun t229 => (if t229 = true then ((quaysidelaw16_awake.f kj37).bind fun t230 => (some t230)) else (some false))) else (some false)) = some r := H
                                      have A50 := Aside0.mk A500
                                      clear A500
                                      by_cases c51 : t228 = true
                                      · subst c51
                                        have H1 : ((quaysideref16_Same.f kj37 t209 t222).bind fun t229 => (if t229 = true then ((quaysidelaw16_awake.f kj37).bind fun t230 => (some t230)) else (some false))) = some r := by rw [if_pos rfl] at H; exact H
                                        clear H
                                        have H := H1
                                        clear H1
                                        replace H := Option.bind_eq_some_iff.mp H
                                        obtain ⟨t229, A520, H⟩ := H
                                        replace H : (if t229 = true then ((quaysidelaw16_awake.f kj37).bind fun t230 => (some t230)) else (some false)) = some r := H
                                        have A52 := Aside0.mk A520
                                        clear A520
                                        by_cases c53 : t229 = true
                                        · subst c53
                                          have H1 : ((quaysidelaw16_awake.f kj37).bind fun t230 => (some t230)) = some r := by rw [if_pos rfl] at H; exact H
                                          clear H
                                          have H := H1
                                          clear H1
                                          replace H := Option.bind_eq_some_iff.mp H
                                          obtain ⟨t230, A540, H⟩ := H
                                          replace H : (some t230) = some r := H
                                          have A54 := Aside0.mk A540
                                          clear A540
                                          obtain rfl := Option.some.inj H
                                          obtain ⟨Ao55, co55, eo55⟩ := Kd.R_slice HO_9.out
                                          subst eo55
                                          go_wp2_with (first | (go_at_call 9; (with_reducible refine (quaysideref16_Same.calls kj37 _ _ t209 _ _ t216 true _ ?side1 ?side2 ?side3 ?side4 A50.out).mono ?_); (case side1 => repeat (first | exact (Kd.R_reads' HO_6.out).2.2 | (with_reducible refine Kd.C_alloc ?_ _) | (with_reducible refine Kd.C_drewN ?_ _) | (with_reducible refine Kd.C_drew ?_))); (case side2 => exact (Kd.R_reads' HO_6.out).2.1); (case side3 => repeat (first | exact (Kd.R_reads' HO_9.out).2.2 | (with_reducible refine Kd.C_alloc ?_ _) | (with_reducible refine Kd.C_drewN ?_ _) | (with_reducible refine Kd.C_drew ?_))); (case side4 => exact (Kd.R_reads' HO_9.out).2.1); rintro e w' ⟨rfl, ⟨nd, rfl⟩⟩; obtain ⟨Ao56, co56, eo56⟩ := Kd.R_slice HO_12.out; subst eo56) | (go_at_call 9; (with_reducible refine (quaysideref16_Same.calls kj37 _ _ t209 _ _ t222 true _ ?side1 ?side2 ?side3 ?side4 A52.out).mono ?_); (case side1 => repeat (first | exact (Kd.R_reads' HO_6.out).2.2 | (with_reducible refine Kd.C_alloc ?_ _) | (with_reducible refine Kd.C_drewN ?_ _) | (with_reducible refine Kd.C_drew ?_))); (case side2 => exact (Kd.R_reads' HO_6.out).2.1); (case side3 => repeat (first | exact (Kd.R_reads' HO_12.out).2.2 | (with_reducible refine Kd.C_alloc ?_ _) | (with_reducible refine Kd.C_drewN ?_ _) | (with_reducible refine Kd.C_drew ?_))); (case side4 => exact (Kd.R_reads' HO_12.out).2.1); rintro e w' ⟨rfl, ⟨nd, rfl⟩⟩) | (go_at_call 6; (with_reducible refine (quaysidelaw16_awake.calls kj37  t230 _ A54.out).mono ?_); rintro e w57 ⟨rfl, hb⟩; have n0_ := Aside0.mk (Kd.R_below (by (with_reducible repeat (first | apply Kd.R_alloc | apply Kd.R_drewN | apply Kd.R_drew)); exact HO_6.out) hb); have n1_ := Aside0.mk (Kd.R_below (by (with_reducible repeat (first | apply Kd.R_alloc | apply Kd.R_drewN | apply Kd.R_drew)); exact HO_9.out) hb); have n2_ := Aside0.mk (Kd.R_below (by (with_reducible repeat (first | apply Kd.R_alloc | apply Kd.R_drewN | apply Kd.R_drew)); exact HO_12.out) hb); have n3_ := Aside0.mk (below_step (by repeat (first | (with_reducible first | exact HB.out | apply below_alloc | apply pw_below_drewN | apply below_drew1) | exact HB.out)) hb); clear HO_6; clear HO_9; clear HO_12; clear HB; have HO_6 := n0_; have HO_9 := n1_; have HO_12 := n2_; have HB := n3_; clear n0_ n1_ n2_ n3_; (try clear hb); (try clear hb2); (try clear hk); (try clear hi)))
                                          go_ret
                                          exact ⟨by first | rfl | (simp [errW_none, errW_some] <;> rfl) | (simp [*, errW_none, errW_some] <;> rfl), by repeat (first | (with_reducible first | exact HB.out | apply below_alloc | apply pw_below_drewN | apply below_drew1) | exact HB.out)⟩
                                        · replace c53 := Bool.eq_false_iff.mpr c53
                                          subst c53
                                          have H1 : (some false) = some r := by rw [if_neg (show ¬ (false = true) by decide)] at H; exact H
                                          clear H
                                          have H := H1
                                          clear H1
                                          exact absurd (H.trans (congrArg some hrt.out)) (by simp)
                                      · replace c51 := Bool.eq_false_iff.mpr c51
                                        subst c51
                                        have H1 : (some false) = some r := by rw [if_neg (show ¬ (false = true) by decide)] at H; exact H
                                        clear H
                                        have H := H1
                                        clear H1
                                        exact absurd (H.trans (congrArg some hrt.out)) (by simp)
                                    · rw [if_neg c49] at H
                                      have c49b0 : (t224 == 0) = false := beq_eq_false_iff_ne.mpr c49
                                      have c49b1 : (t224 != 0) = true := bne_iff_ne.mpr c49
                                      exact absurd (H.trans (congrArg some hrt.out)) (by simp)
                                  · rw [if_neg c48] at H
                                    have c48b0 : (t218 == 0) = false := beq_eq_false_iff_ne.mpr c48
                                    have c48b1 : (t218 != 0) = true := bne_iff_ne.mpr c48
                                    exact absurd (H.trans (congrArg some hrt.out)) (by simp)
                          · rw [if_neg c35] at H
                            exact absurd H (by simp)
                        · rw [if_neg c34] at H
                          exact absurd H (by simp)
                      · rw [if_neg c31] at H
                        exact absurd H (by simp)
                    · rw [if_neg c30] at H
                      exact absurd H (by simp)

/-- THE ONE PURE STATEMENT of quaysidelaw16_LexBlanks: yours. -/
def quaysidelaw16_LexBlanks.Pure : Prop := ∀ (a0 : ByteArray) (a1 : ByteArray), a0.size ≤ 140737488351232 → a1.size ≤ 140737488351232 → ∃ k, quaysidelaw16_LexBlanks.f k a0 a1 = some true
theorem quaysidelaw16_LexBlanks.walk (P : quaysidelaw16_LexBlanks.Pure) (a0 : ByteArray) (a1 : ByteArray) (w : World) (w0 : a0.size ≤ 140737488351232) (w1 : a1.size ≤ 140737488351232) (hML : ML w) :
    Calls Tryd.prog 4 #[.string a0, .string a1] w fun e w' => e = .returned (.bool true) ∧ Below w.heap.size w w' := by
  obtain ⟨k, h⟩ := P a0 a1 w0 w1
  refine (quaysidelaw16_LexBlanks.calls k a0 a1 true w h).mono ?_
  rintro e w' ⟨rfl, hd⟩
  exact ⟨rfl, hd⟩

end Go.Proofs.YtbmlpbgddlgdkaaDoor.Lx
