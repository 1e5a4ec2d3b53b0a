/- Functions of the seat as plain Lean functions, each with a proof that the call answers what the function tells; written by a program of this work. No condition beyond those that each theorem names. -/
import Derived.Test.YtbmlpbgddlgdkaaDoorLxx0
import Derived.Test.YtbmlpbgddlgdkaaDoorLxx1
import Derived.Test.YtbmlpbgddlgdkaaDoorLxx3
import Derived.Test.YtbmlpbgddlgdkaaDoorLxx5
import Derived.Test.YtbmlpbgddlgdkaaDoorLxx6
namespace Go.Proofs.YtbmlpbgddlgdkaaDoor.Lx
open Go.RowKit Go.Proofs.YtbmlpbgddlgdkaaDoorW.PrintWords Go.Proofs.YtbmlpbgddlgdkaaDoorW.PrintLast Go.Proofs.YtbmlpbgddlgdkaaDoorW.PrintMore
attribute [local go_sem] max2_int min2_int max_two min_two max_three min_three max_four min_four   -- for this text's walks alone
set_option linter.unusedVariables false
set_option linter.unusedSimpArgs false

attribute [local go_sem high] eqA33
/-! ### quaysidelaw16_awake: function 6 -/
def quaysidelaw16_awake.f (k : Nat)  : Option (Bool) := (lex_Tokens.f k (⟨#[115, 101, 108, 101, 99, 116, 32, 97, 46, 98, 32, 62, 61, 32, 51, 32, 45, 45, 32, 120]⟩ : ByteArray)).bind fun bt167 => (if bt167.2.2 = 0 then (if (bt167.1.length : Int) = 7 then (if 0 < (bt167.1.length : Int) then (if (((rd_T33 bt167.1 0).f0) == 2 && ((((rd_T33 bt167.1 0).f1).toList) == ([83, 69, 76, 69, 67, 84] : List UInt8) && (((rd_T33 bt167.1 0).f2) == 0 && (((rd_T33 bt167.1 0).f3) == 0)))) = true then (if 1 < (bt167.1.length : Int) then (if (((rd_T33 bt167.1 1).f0) == 1 && ((((rd_T33 bt167.1 1).f1).toList) == ([97] : List UInt8) && (((rd_T33 bt167.1 1).f2) == 0 && (((rd_T33 bt167.1 1).f3) == 7)))) = true then (if 4 < (bt167.1.length : Int) then (if ((rd_T33 bt167.1 4).f1).toList = ([62, 61] : List UInt8) then (if 5 < (bt167.1.length : Int) then (if ((rd_T33 bt167.1 5).f2) = 3 then (if 6 < (bt167.1.length : Int) then (if ((rd_T33 bt167.1 6).f3) = 20 then ((lex_Key.f k (⟨#[70, 82, 79, 77]⟩ : ByteArray)).bind fun t177 => (if t177 = true then ((lex_Word.f k (⟨#[97]⟩ : ByteArray)).bind fun t178 => (if t178 = true then ((lex_Put.f k 1 (⟨#[102, 114, 111, 109]⟩ : ByteArray) 0 0).bind fun t179 => (some (t179.toList == ([34, 102, 114, 111, 109, 34] : List UInt8)))) else (some false))) else (some false))) else (some false)) else (none)) else (some false)) else (none)) else (some false)) else (none)) else (some false)) else (none)) else (some false)) else (none)) else (some false)) else (some false))
theorem quaysidelaw16_awake.mono : ∀ k, LeO (quaysidelaw16_awake.f k ) (quaysidelaw16_awake.f (k + 1) ) := by
  intro  k
  unfold quaysidelaw16_awake.f
  repeat' first
      | (with_reducible exact lex_Key.mono _ _)
      | (with_reducible exact lex_Put.mono _ _ _ _ _)
      | (with_reducible exact lex_Tokens.mono _ _)
      | (with_reducible exact lex_Word.mono _ _)
      | (with_reducible exact LeO.refl _)
      | (with_reducible exact LeO.none _)
      | (with_reducible refine LeO.ite ?_ ?_)
      | (with_reducible refine LeO.bind ?_ (fun _ => ?_))
      | exact lex_Key.mono _ _
      | exact lex_Put.mono _ _ _ _ _
      | exact lex_Tokens.mono _ _
      | exact lex_Word.mono _ _
      | exact LeO.none _
      | refine LeO.ite ?_ ?_
      | refine LeO.bind ?_ (fun _ => ?_)
set_option maxHeartbeats 8000000 in
set_option maxRecDepth 100000 in
theorem quaysidelaw16_awake.calls (k : Nat)  (r : Bool) (w : World) (h : quaysidelaw16_awake.f k  = some r) (hrt : Aside0 (r = true) := by first | exact ⟨rfl⟩ | exact hrt) (hML : ML w := by first | exact hML | exact ML.below HB.out hML | exact ML.below (by repeat (first | exact HB.out | apply below_alloc | apply pw_below_drewN | apply below_drew1 | exact Below.refl _ _)) hML) :
    Calls Tryd.prog 6 #[] w fun e w' => e = .returned (.bool r) ∧ Below w.heap.size w w' := by
  have hu33 := Tryd.underlying33
  have HB := Aside0.mk (Below.refl w.heap.size w)
  have H : ((lex_Tokens.f k (⟨#[115, 101, 108, 101, 99, 116, 32, 97, 46, 98, 32, 62, 61, 32, 51, 32, 45, 45, 32, 120]⟩ : ByteArray)).bind fun bt167 => (if bt167.2.2 = 0 then (if (bt167.1.length : Int) = 7 then (if 0 < (bt167.1.length : Int) then (if (((rd_T33 bt167.1 0).f0) == 2 && ((((rd_T33 bt167.1 0).f1).toList) == ([83, 69, 76, 69, 67, 84] : List UInt8) && (((rd_T33 bt167.1 0).f2) == 0 && (((rd_T33 bt167.1 0).f3) == 0)))) = true then (if 1 < (bt167.1.length : Int) then (if (((rd_T33 bt167.1 1).f0) == 1 && ((((rd_T33 bt167.1 1).f1).toList) == ([97] : List UInt8) && (((rd_T33 bt167.1 1).f2) == 0 && (((rd_T33 bt167.1 1).f3) == 7)))) = true then (if 4 < (bt167.1.length : Int) then (if ((rd_T33 bt167.1 4).f1).toList = ([62, 61] : List UInt8) then (if 5 < (bt167.1.length : Int) then (if ((rd_T33 bt167.1 5).f2) = 3 then (if 6 < (bt167.1.length : Int) then (if ((rd_T33 bt167.1 6).f3) = 20 then ((lex_Key.f k (⟨#[70, 82, 79, 77]⟩ : ByteArray)).bind fun t177 => (if t177 = true then ((lex_Word.f k (⟨#[97]⟩ : ByteArray)).bind fun t178 => (if t178 = true then ((lex_Put.f k 1 (⟨#[102, 114, 111, 109]⟩ : ByteArray) 0 0).bind fun t179 => (some (t179.toList == ([34, 102, 114, 111, 109, 34] : List UInt8)))) else (some false))) else (some false))) else (some false)) else (none)) else (some false)) else (none)) else (some false)) else (none)) else (some false)) else (none)) else (some false)) else (none)) else (some false)) else (some false))) = some r := h
  clear h
  replace H := Option.bind_eq_some_iff.mp H
  obtain ⟨⟨t167, t168, t169⟩, A10, H⟩ := H
  replace H : (if t169 = 0 then (if (t167.length : Int) = 7 then (if 0 < (t167.length : Int) then (if (((rd_T33 t167 0).f0) == 2 && ((((rd_T33 t167 0).f1).toList) == ([83, 69, 76, 69, 67, 84] : List UInt8) && (((rd_T33 t167 0).f2) == 0 && (((rd_T33 t167 0).f3) == 0)))) = true then (if 1 < (t167.length : Int) then (if (((rd_T33 t167 1).f0) == 1 && ((((rd_T33 t167 1).f1).toList) == ([97] : List UInt8) && (((rd_T33 t167 1).f2) == 0 && (((rd_T33 t167 1).f3) == 7)))) = true then (if 4 < (t167.length : Int) then (if ((rd_T33 t167 4).f1).toList = ([62, 61] : List UInt8) then (if 5 < (t167.length : Int) then (if ((rd_T33 t167 5).f2) = 3 then (if 6 < (t167.length : Int) then (if ((rd_T33 t167 6).f3) = 20 then ((lex_Key.f k (⟨#[70, 82, 79, 77]⟩ : ByteArray)).bind fun t177 => (if t177 = true then ((lex_Word.f k (⟨#[97]⟩ : ByteArray)).bind fun t178 => (if t178 = true then ((lex_Put.f k 1 (⟨#[102, 114, 111, 109]⟩ : ByteArray) 0 0).bind fun t179 => (some (t179.toList == ([34, 102, 114, 111, 109, 34] : List UInt8)))) else (some false))) else (some false))) else (some false)) else (none)) else (some false)) else (none)) else (some false)) else (none)) else (some false)) else (none)) else (some false)) else (none)) else (some false)) else (some false)) = some r := H
  have A1 := Aside0.mk A10
  clear A10
  by_cases c2 : t169 = 0
  · rw [if_pos c2] at H
    have c2b0 : (t169 == 0) = true := beq_iff_eq.mpr c2
    have c2b1 : (t169 != 0) = false := bne_eq_false_iff_eq.mpr c2
    clear c2
    by_cases c3 : (t167.length : Int) = 7
    · rw [if_pos c3] at H
      have c3b0 : ((t167.length : Int) == 7) = true := beq_iff_eq.mpr c3
      have c3b1 : ((t167.length : Int) != 7) = false := bne_eq_false_iff_eq.mpr c3
      clear c3
      by_cases c4 : 0 < (t167.length : Int)
      · rw [if_pos c4] at H
        have c4b0 : decide (0 < (t167.length : Int)) = true := decide_eq_true c4
        have c4b1 : decide (0 < t167.length) = true := decide_eq_true (by omega)
        clear c4
        by_cases c5 : (((rd_T33 t167 0).f0) == 2 && ((((rd_T33 t167 0).f1).toList) == ([83, 69, 76, 69, 67, 84] : List UInt8) && (((rd_T33 t167 0).f2) == 0 && (((rd_T33 t167 0).f3) == 0)))) = true
        · rw [if_pos c5] at H
          have c5b0 : (((rd_T33 t167 0).f0) == 2 && ((((rd_T33 t167 0).f1).toList) == ([83, 69, 76, 69, 67, 84] : List UInt8) && (((rd_T33 t167 0).f2) == 0 && (((rd_T33 t167 0).f3) == 0)))) = true := c5
          (try (have c5b1 : decide (((rd_T33 t167 0).f0) = 2 && ((((rd_T33 t167 0).f1).toList) == ([83, 69, 76, 69, 67, 84] : List UInt8) && (((rd_T33 t167 0).f2) == 0 && (((rd_T33 t167 0).f3) == 0)))) = true := by simpa using c5))
          (try (have c5b2 : (((rd_T33 t167 0).f0) == 2 && ((((rd_T33 t167 0).f1).toList) == ([83, 69, 76, 69, 67, 84] : List UInt8) && (((rd_T33 t167 0).f2) == 0 && (((rd_T33 t167 0).f3) == 0)))) = true := by simpa using c5))
          clear c5
          by_cases c6 : 1 < (t167.length : Int)
          · rw [if_pos c6] at H
            have c6b0 : decide (1 < (t167.length : Int)) = true := decide_eq_true c6
            have c6b1 : decide (1 < t167.length) = true := decide_eq_true (by omega)
            clear c6
            by_cases c7 : (((rd_T33 t167 1).f0) == 1 && ((((rd_T33 t167 1).f1).toList) == ([97] : List UInt8) && (((rd_T33 t167 1).f2) == 0 && (((rd_T33 t167 1).f3) == 7)))) = true
            · rw [if_pos c7] at H
              have c7b0 : (((rd_T33 t167 1).f0) == 1 && ((((rd_T33 t167 1).f1).toList) == ([97] : List UInt8) && (((rd_T33 t167 1).f2) == 0 && (((rd_T33 t167 1).f3) == 7)))) = true := c7
              (try (have c7b1 : decide (((rd_T33 t167 1).f0) = 1 && ((((rd_T33 t167 1).f1).toList) == ([97] : List UInt8) && (((rd_T33 t167 1).f2) == 0 && (((rd_T33 t167 1).f3) == 7)))) = true := by simpa using c7))
              (try (have c7b2 : (((rd_T33 t167 1).f0) == 1 && ((((rd_T33 t167 1).f1).toList) == ([97] : List UInt8) && (((rd_T33 t167 1).f2) == 0 && (((rd_T33 t167 1).f3) == 7)))) = true := by simpa using c7))
              clear c7
              by_cases c8 : 4 < (t167.length : Int)
              · rw [if_pos c8] at H
                have c8b0 : decide (4 < (t167.length : Int)) = true := decide_eq_true c8
                have c8b1 : decide (4 < t167.length) = true := decide_eq_true (by omega)
                clear c8
                by_cases c9 : ((rd_T33 t167 4).f1).toList = ([62, 61] : List UInt8)
                · rw [if_pos c9] at H
                  have c9b0 : (((rd_T33 t167 4).f1).toList == ([62, 61] : List UInt8)) = true := beq_iff_eq.mpr c9
                  have c9b1 : (((rd_T33 t167 4).f1).toList != ([62, 61] : List UInt8)) = false := bne_eq_false_iff_eq.mpr c9
                  clear c9
                  by_cases c10 : 5 < (t167.length : Int)
                  · rw [if_pos c10] at H
                    have c10b0 : decide (5 < (t167.length : Int)) = true := decide_eq_true c10
                    have c10b1 : decide (5 < t167.length) = true := decide_eq_true (by omega)
                    clear c10
                    by_cases c11 : ((rd_T33 t167 5).f2) = 3
                    · rw [if_pos c11] at H
                      have c11b0 : (((rd_T33 t167 5).f2) == 3) = true := beq_iff_eq.mpr c11
                      have c11b1 : (((rd_T33 t167 5).f2) != 3) = false := bne_eq_false_iff_eq.mpr c11
                      clear c11
                      by_cases c12 : 6 < (t167.length : Int)
                      · rw [if_pos c12] at H
                        have c12b0 : decide (6 < (t167.length : Int)) = true := decide_eq_true c12
                        have c12b1 : decide (6 < t167.length) = true := decide_eq_true (by omega)
                        clear c12
                        by_cases c13 : ((rd_T33 t167 6).f3) = 20
                        · rw [if_pos c13] at H
                          have c13b0 : (((rd_T33 t167 6).f3) == 20) = true := beq_iff_eq.mpr c13
                          have c13b1 : (((rd_T33 t167 6).f3) != 20) = false := bne_eq_false_iff_eq.mpr c13
                          clear c13
                          replace H := Option.bind_eq_some_iff.mp H
                          obtain ⟨t177, A140, H⟩ := H
                          replace H : (if t177 = true then ((lex_Word.f k (⟨#[97]⟩ : ByteArray)).bind fun t178 => (if t178 = true then ((lex_Put.f k 1 (⟨#[102, 114, 111, 109]⟩ : ByteArray) 0 0).bind fun t179 => (some (t179.toList == ([34, 102, 114, 111, 109, 34] : List UInt8)))) else (some false))) else (some false)) = some r := H
                          have A14 := Aside0.mk A140
                          clear A140
                          by_cases c15 : t177 = true
                          · subst c15
                            have H1 : ((lex_Word.f k (⟨#[97]⟩ : ByteArray)).bind fun t178 => (if t178 = true then ((lex_Put.f k 1 (⟨#[102, 114, 111, 109]⟩ : ByteArray) 0 0).bind fun t179 => (some (t179.toList == ([34, 102, 114, 111, 109, 34] : List UInt8)))) else (some false))) = some r := by rw [if_pos rfl] at H; exact H
                            clear H
                            have H := H1
                            clear H1
                            replace H := Option.bind_eq_some_iff.mp H
                            obtain ⟨t178, A160, H⟩ := H
                            replace H : (if t178 = true then ((lex_Put.f k 1 (⟨#[102, 114, 111, 109]⟩ : ByteArray) 0 0).bind fun t179 => (some (t179.toList == ([34, 102, 114, 111, 109, 34] : List UInt8)))) else (some false)) = some r := H
                            have A16 := Aside0.mk A160
                            clear A160
                            by_cases c17 : t178 = true
                            · subst c17
                              have H1 : ((lex_Put.f k 1 (⟨#[102, 114, 111, 109]⟩ : ByteArray) 0 0).bind fun t179 => (some (t179.toList == ([34, 102, 114, 111, 109, 34] : List UInt8)))) = some r := by rw [if_pos rfl] at H; exact H
                              clear H
                              have H := H1
                              clear H1
                              replace H := Option.bind_eq_some_iff.mp H
                              obtain ⟨t179, A180, H⟩ := H
                              replace H : (some (t179.toList == ([34, 102, 114, 111, 109, 34] : List UInt8))) = some r := H
                              have A18 := Aside0.mk A180
                              clear A180
                              obtain rfl := Option.some.inj H
                              go_enter Tryd.func6, Tryd.ntmps6
                              go_wp2_with (first | ((with_reducible refine gate_callee (f := 7) rfl ?_); refine goesL_ (some 5) rfl rfl Tryd.func7 (by kernel_rfl) rfl #[.string (⟨#[115, 101, 108, 101, 99, 116, 32, 97, 46, 98, 32, 62, 61, 32, 51, 32, 45, 45, 32, 120]⟩ : ByteArray)] rfl (by (try simp only [List.map_toArray, List.map_cons, List.map_nil]); first | done | rfl | (simp only [List.length_drop, List.length_take]; rfl)) ?_; (with_reducible refine (lex_Tokens.calls k (⟨#[115, 101, 108, 101, 99, 116, 32, 97, 46, 98, 32, 62, 61, 32, 51, 32, 45, 45, 32, 120]⟩ : ByteArray) t167 t168 t169 _ A1.out).mono ?_); rintro e w19 ⟨v170, rfl, ho0, hb⟩; refine ⟨_, rfl, ?_⟩; have n0_ := Aside0.mk (Kd.R_lower ho0 (below_size (by repeat (first | (with_reducible first | exact HB.out | apply below_alloc | apply pw_below_drewN | apply below_drew1) | exact HB.out)))); have n1_ := Aside0.mk (below_step (by repeat (first | (with_reducible first | exact HB.out | apply below_alloc | apply pw_below_drewN | apply below_drew1) | exact HB.out)) hb); clear HB; have HO171 := n0_; have HB := n1_; clear n0_ n1_; (try clear hb); (try clear hb2); (try clear hk); (try clear hi); (try clear ho0); obtain ⟨Ao20, co20, eo20⟩ := Kd.R_slice HO171.out; subst eo20; have p172 : 0 ≤ (0 : Int) := (by omega); have q172 : 0 < (t167.length : Int) := of_decide_eq_true (by first | (with_reducible assumption) | assumption); obtain ⟨ad172, e172, hx172_0, hx172_1, hx172_2, hx172_3⟩ := at_T33 (Kd.R_reads' HO171.out).2.2 0 p172 q172; cases e172; have qi172 : (0 < t167.length) = True := eq_true (by omega); (try rw [show ((0 : Int)).toNat = 0 from rfl] at hx172_0); (try rw [show 0 * 4 = 0 from rfl] at hx172_0); (try rw [Addr.add_zero'] at hx172_0); (try rw [show ((0 : Int)).toNat = 0 from rfl] at hx172_1); (try rw [show 0 * 4 = 0 from rfl] at hx172_1); (try rw [Addr.add_zero'] at hx172_1); (try rw [show ((0 : Int)).toNat = 0 from rfl] at hx172_2); (try rw [show 0 * 4 = 0 from rfl] at hx172_2); (try rw [Addr.add_zero'] at hx172_2); (try rw [show ((0 : Int)).toNat = 0 from rfl] at hx172_3); (try rw [show 0 * 4 = 0 from rfl] at hx172_3); (try rw [Addr.add_zero'] at hx172_3); replace p172 := eq_true p172; replace q172 := eq_true q172; have p173 : 0 ≤ (1 : Int) := (by omega); have q173 : 1 < (t167.length : Int) := of_decide_eq_true (by first | (with_reducible assumption) | assumption); obtain ⟨ad173, e173, hx173_0, hx173_1, hx173_2, hx173_3⟩ := at_T33 (Kd.R_reads' HO171.out).2.2 1 p173 q173; obtain rfl : ad172 = ad173 := (by injection e173); (try simp only [show (1 : Int).toNat = 1 from rfl, Nat.reduceMul, Nat.reduceEqDiff, Go.Addr.add, ↓reduceIte] at hx173_0); (try simp only [show (1 : Int).toNat = 1 from rfl, Nat.reduceMul, Nat.reduceEqDiff, Go.Addr.add, ↓reduceIte] at hx173_1); (try simp only [show (1 : Int).toNat = 1 from rfl, Nat.reduceMul, Nat.reduceEqDiff, Go.Addr.add, ↓reduceIte] at hx173_2); (try simp only [show (1 : Int).toNat = 1 from rfl, Nat.reduceMul, Nat.reduceEqDiff, Go.Addr.add, ↓reduceIte] at hx173_3); have qi173 : (1 < t167.length) = True := eq_true (by omega); (try rw [show ((1 : Int)).toNat = 1 from rfl] at hx173_0); (try rw [show 1 * 4 = 4 from rfl] at hx173_0); (try rw [show ((1 : Int)).toNat = 1 from rfl] at hx173_1); (try rw [show 1 * 4 = 4 from rfl] at hx173_1); (try rw [show ((1 : Int)).toNat = 1 from rfl] at hx173_2); (try rw [show 1 * 4 = 4 from rfl] at hx173_2); (try rw [show ((1 : Int)).toNat = 1 from rfl] at hx173_3); (try rw [show 1 * 4 = 4 from rfl] at hx173_3); replace p173 := eq_true p173; replace q173 := eq_true q173; have p174 : 0 ≤ (4 : Int) := (by omega); have q174 : 4 < (t167.length : Int) := of_decide_eq_true (by first | (with_reducible assumption) | assumption); obtain ⟨ad174, e174, hx174_0, hx174_1, hx174_2, hx174_3⟩ := at_T33 (Kd.R_reads' HO171.out).2.2 4 p174 q174; obtain rfl : ad172 = ad174 := (by injection e174); (try simp only [show (4 : Int).toNat = 4 from rfl, Nat.reduceMul, Nat.reduceEqDiff, Go.Addr.add, ↓reduceIte] at hx174_0); (try simp only [show (4 : Int).toNat = 4 from rfl, Nat.reduceMul, Nat.reduceEqDiff, Go.Addr.add, ↓reduceIte] at hx174_1); (try simp only [show (4 : Int).toNat = 4 from rfl, Nat.reduceMul, Nat.reduceEqDiff, Go.Addr.add, ↓reduceIte] at hx174_2); (try simp only [show (4 : Int).toNat = 4 from rfl, Nat.reduceMul, Nat.reduceEqDiff, Go.Addr.add, ↓reduceIte] at hx174_3); have qi174 : (4 < t167.length) = True := eq_true (by omega); (try rw [show ((4 : Int)).toNat = 4 from rfl] at hx174_0); (try rw [show 4 * 4 = 16 from rfl] at hx174_0); (try rw [show ((4 : Int)).toNat = 4 from rfl] at hx174_1); (try rw [show 4 * 4 = 16 from rfl] at hx174_1); (try rw [show ((4 : Int)).toNat = 4 from rfl] at hx174_2); (try rw [show 4 * 4 = 16 from rfl] at hx174_2); (try rw [show ((4 : Int)).toNat = 4 from rfl] at hx174_3); (try rw [show 4 * 4 = 16 from rfl] at hx174_3); replace p174 := eq_true p174; replace q174 := eq_true q174; have p175 : 0 ≤ (5 : Int) := (by omega); have q175 : 5 < (t167.length : Int) := of_decide_eq_true (by first | (with_reducible assumption) | assumption); obtain ⟨ad175, e175, hx175_0, hx175_1, hx175_2, hx175_3⟩ := at_T33 (Kd.R_reads' HO171.out).2.2 5 p175 q175; obtain rfl : ad172 = ad175 := (by injection e175); (try simp only [show (5 : Int).toNat = 5 from rfl, Nat.reduceMul, Nat.reduceEqDiff, Go.Addr.add, ↓reduceIte] at hx175_0); (try simp only [show (5 : Int).toNat = 5 from rfl, Nat.reduceMul, Nat.reduceEqDiff, Go.Addr.add, ↓reduceIte] at hx175_1); (try simp only [show (5 : Int).toNat = 5 from rfl, Nat.reduceMul, Nat.reduceEqDiff, Go.Addr.add, ↓reduceIte] at hx175_2); (try simp only [show (5 : Int).toNat = 5 from rfl, Nat.reduceMul, Nat.reduceEqDiff, Go.Addr.add, ↓reduceIte] at hx175_3); have qi175 : (5 < t167.length) = True := eq_true (by omega); (try rw [show ((5 : Int)).toNat = 5 from rfl] at hx175_0); (try rw [show 5 * 4 = 20 from rfl] at hx175_0); (try rw [show ((5 : Int)).toNat = 5 from rfl] at hx175_1); (try rw [show 5 * 4 = 20 from rfl] at hx175_1); (try rw [show ((5 : Int)).toNat = 5 from rfl] at hx175_2); (try rw [show 5 * 4 = 20 from rfl] at hx175_2); (try rw [show ((5 : Int)).toNat = 5 from rfl] at hx175_3); (try rw [show 5 * 4 = 20 from rfl] at hx175_3); replace p175 := eq_true p175; replace q175 := eq_true q175; have p176 : 0 ≤ (6 : Int) := (by omega); have q176 : 6 < (t167.length : Int) := of_decide_eq_true (by first | (with_reducible assumption) | assumption); obtain ⟨ad176, e176, hx176_0, hx176_1, hx176_2, hx176_3⟩ := at_T33 (Kd.R_reads' HO171.out).2.2 6 p176 q176; obtain rfl : ad172 = ad176 := (by injection e176); (try simp only [show (6 : Int).toNat = 6 from rfl, Nat.reduceMul, Nat.reduceEqDiff, Go.Addr.add, ↓reduceIte] at hx176_0); (try simp only [show (6 : Int).toNat = 6 from rfl, Nat.reduceMul, Nat.reduceEqDiff, Go.Addr.add, ↓reduceIte] at hx176_1); (try simp only [show (6 : Int).toNat = 6 from rfl, Nat.reduceMul, Nat.reduceEqDiff, Go.Addr.add, ↓reduceIte] at hx176_2); (try simp only [show (6 : Int).toNat = 6 from rfl, Nat.reduceMul, Nat.reduceEqDiff, Go.Addr.add, ↓reduceIte] at hx176_3); have qi176 : (6 < t167.length) = True := eq_true (by omega); (try rw [show ((6 : Int)).toNat = 6 from rfl] at hx176_0); (try rw [show 6 * 4 = 24 from rfl] at hx176_0); (try rw [show ((6 : Int)).toNat = 6 from rfl] at hx176_1); (try rw [show 6 * 4 = 24 from rfl] at hx176_1); (try rw [show ((6 : Int)).toNat = 6 from rfl] at hx176_2); (try rw [show 6 * 4 = 24 from rfl] at hx176_2); (try rw [show ((6 : Int)).toNat = 6 from rfl] at hx176_3); (try rw [show 6 * 4 = 24 from rfl] at hx176_3); replace p176 := eq_true p176; replace q176 := eq_true q176) | (go_at_call 10; (with_reducible refine (lex_Key.calls k (⟨#[70, 82, 79, 77]⟩ : ByteArray) true _ A14.out).mono ?_); rintro e w21 ⟨rfl, hb⟩; have n0_ := Aside0.mk (Kd.R_below (by (with_reducible repeat (first | apply Kd.R_alloc | apply Kd.R_drewN | apply Kd.R_drew)); exact HO171.out) hb); have n1_ := Aside0.mk (below_step (by repeat (first | (with_reducible first | exact HB.out | apply below_alloc | apply pw_below_drewN | apply below_drew1) | exact HB.out)) hb); clear HO171; clear HB; have HO171 := n0_; have HB := n1_; clear n0_ n1_; (try clear hb); (try clear hb2); (try clear hk); (try clear hi)) | (go_at_call 11; (with_reducible refine (lex_Word.calls k (⟨#[97]⟩ : ByteArray) true _ A16.out).mono ?_); rintro e w22 ⟨rfl, hb⟩; have n0_ := Aside0.mk (Kd.R_below (by (with_reducible repeat (first | apply Kd.R_alloc | apply Kd.R_drewN | apply Kd.R_drew)); exact HO171.out) hb); have n1_ := Aside0.mk (below_step (by repeat (first | (with_reducible first | exact HB.out | apply below_alloc | apply pw_below_drewN | apply below_drew1) | exact HB.out)) hb); clear HO171; clear HB; have HO171 := n0_; have HB := n1_; clear n0_ n1_; (try clear hb); (try clear hb2); (try clear hk); (try clear hi)) | (go_at_call 12; (with_reducible refine (lex_Put.calls k 1 (⟨#[102, 114, 111, 109]⟩ : ByteArray) 0 0 t179 _ A18.out).mono ?_); rintro e w23 ⟨rfl, hb⟩; have n0_ := Aside0.mk (Kd.R_below (by (with_reducible repeat (first | apply Kd.R_alloc | apply Kd.R_drewN | apply Kd.R_drew)); exact HO171.out) hb); have n1_ := Aside0.mk (below_step (by repeat (first | (with_reducible first | exact HB.out | apply below_alloc | apply pw_below_drewN | apply below_drew1) | exact HB.out)) hb); clear HO171; clear HB; have HO171 := n0_; have HB := n1_; clear n0_ n1_; (try clear hb); (try clear hb2); (try clear hk); (try clear hi)))
                              go_ret
                              exact ⟨by first | rfl | (simp [errW_none, errW_some] <;> rfl) | (simp [*, errW_none, errW_some] <;> rfl), by repeat (first | (with_reducible first | exact HB.out | apply below_alloc | apply pw_below_drewN | apply below_drew1) | exact HB.out)⟩
                            · replace c17 := Bool.eq_false_iff.mpr c17
                              subst c17
                              have H1 : (some false) = some r := by rw [if_neg (show ¬ (false = true) by decide)] at H; exact H
                              clear H
                              have H := H1
                              clear H1
                              exact absurd (H.trans (congrArg some hrt.out)) (by simp)
                          · replace c15 := Bool.eq_false_iff.mpr c15
                            subst c15
                            have H1 : (some false) = some r := by rw [if_neg (show ¬ (false = true) by decide)] at H; exact H
                            clear H
                            have H := H1
                            clear H1
                            exact absurd (H.trans (congrArg some hrt.out)) (by simp)
                        · rw [if_neg c13] at H
                          have c13b0 : (((rd_T33 t167 6).f3) == 20) = false := beq_eq_false_iff_ne.mpr c13
                          have c13b1 : (((rd_T33 t167 6).f3) != 20) = true := bne_iff_ne.mpr c13
                          exact absurd (H.trans (congrArg some hrt.out)) (by simp)
                      · rw [if_neg c12] at H
                        exact absurd H (by simp)
                    · rw [if_neg c11] at H
                      have c11b0 : (((rd_T33 t167 5).f2) == 3) = false := beq_eq_false_iff_ne.mpr c11
                      have c11b1 : (((rd_T33 t167 5).f2) != 3) = true := bne_iff_ne.mpr c11
                      exact absurd (H.trans (congrArg some hrt.out)) (by simp)
                  · rw [if_neg c10] at H
                    exact absurd H (by simp)
                · rw [if_neg c9] at H
                  have c9b0 : (((rd_T33 t167 4).f1).toList == ([62, 61] : List UInt8)) = false := beq_eq_false_iff_ne.mpr c9
                  have c9b1 : (((rd_T33 t167 4).f1).toList != ([62, 61] : List UInt8)) = true := bne_iff_ne.mpr c9
                  exact absurd (H.trans (congrArg some hrt.out)) (by simp)
              · rw [if_neg c8] at H
                exact absurd H (by simp)
            · rw [if_neg c7] at H
              have c7b0 : (((rd_T33 t167 1).f0) == 1 && ((((rd_T33 t167 1).f1).toList) == ([97] : List UInt8) && (((rd_T33 t167 1).f2) == 0 && (((rd_T33 t167 1).f3) == 7)))) = false := by simpa using c7
              (try (have c7b1 : decide (((rd_T33 t167 1).f0) = 1 && ((((rd_T33 t167 1).f1).toList) == ([97] : List UInt8) && (((rd_T33 t167 1).f2) == 0 && (((rd_T33 t167 1).f3) == 7)))) = false := by simpa using c7))
              (try (have c7b2 : (((rd_T33 t167 1).f0) == 1 && ((((rd_T33 t167 1).f1).toList) == ([97] : List UInt8) && (((rd_T33 t167 1).f2) == 0 && (((rd_T33 t167 1).f3) == 7)))) = false := by simpa using c7))
              (try (have c7b3 : ¬ (((rd_T33 t167 1).f0) = 1 && ((((rd_T33 t167 1).f1).toList) == ([97] : List UInt8) && (((rd_T33 t167 1).f2) == 0 && (((rd_T33 t167 1).f3) == 7)))) := by simpa using c7))
              clear c7
              exact absurd (H.trans (congrArg some hrt.out)) (by simp)
          · rw [if_neg c6] at H
            exact absurd H (by simp)
        · rw [if_neg c5] at H
          have c5b0 : (((rd_T33 t167 0).f0) == 2 && ((((rd_T33 t167 0).f1).toList) == ([83, 69, 76, 69, 67, 84] : List UInt8) && (((rd_T33 t167 0).f2) == 0 && (((rd_T33 t167 0).f3) == 0)))) = false := by simpa using c5
          (try (have c5b1 : decide (((rd_T33 t167 0).f0) = 2 && ((((rd_T33 t167 0).f1).toList) == ([83, 69, 76, 69, 67, 84] : List UInt8) && (((rd_T33 t167 0).f2) == 0 && (((rd_T33 t167 0).f3) == 0)))) = false := by simpa using c5))
          (try (have c5b2 : (((rd_T33 t167 0).f0) == 2 && ((((rd_T33 t167 0).f1).toList) == ([83, 69, 76, 69, 67, 84] : List UInt8) && (((rd_T33 t167 0).f2) == 0 && (((rd_T33 t167 0).f3) == 0)))) = false := by simpa using c5))
          (try (have c5b3 : ¬ (((rd_T33 t167 0).f0) = 2 && ((((rd_T33 t167 0).f1).toList) == ([83, 69, 76, 69, 67, 84] : List UInt8) && (((rd_T33 t167 0).f2) == 0 && (((rd_T33 t167 0).f3) == 0)))) := by simpa using c5))
          clear c5
          exact absurd (H.trans (congrArg some hrt.out)) (by simp)
      · rw [if_neg c4] at H
        exact absurd H (by simp)
    · rw [if_neg c3] at H
      have c3b0 : ((t167.length : Int) == 7) = false := beq_eq_false_iff_ne.mpr c3
      have c3b1 : ((t167.length : Int) != 7) = true := bne_iff_ne.mpr c3
      exact absurd (H.trans (congrArg some hrt.out)) (by simp)
  · rw [if_neg c2] at H
    have c2b0 : (t169 == 0) = false := beq_eq_false_iff_ne.mpr c2
    have c2b1 : (t169 != 0) = true := bne_iff_ne.mpr c2
    exact absurd (H.trans (congrArg some hrt.out)) (by simp)

/-! ### quaysidelaw16_put: function 8 -/
def quaysidelaw16_put.l0 : Nat → List (S33) → ByteArray → ByteArray → Int → Option (ByteArray)
  | 0, _, _, _, _ => none
  | k + 1, x0, x1, x5, x6 => if x6 < (x0.length : Int) then (if 0 ≤ x6 then ((lex_Put.f k ((rd_T33 x0 x6).f0) ((rd_T33 x0 x6).f1) ((rd_T33 x0 x6).f2) ((rd_T33 x0 x6).f3)).bind fun t181 => (if x5.size + t181.size ≤ 9223372036854775807 then (if (x5 ++ t181).size + x1.size ≤ 9223372036854775807 then (quaysidelaw16_put.l0 k x0 x1 ((x5 ++ t181) ++ x1) (wrap64 (x6 + 1))) else (none)) else (none))) else (none)) else (some x5)
def quaysidelaw16_put.f (k : Nat) (l0 : List (S33)) (a1 : ByteArray) : Option (ByteArray) := quaysidelaw16_put.l0 k l0 a1 (⟨#[]⟩ : ByteArray) 0
theorem quaysidelaw16_put.mono_l : ∀ k, (∀ y0 y1 y2 y3, LeO (quaysidelaw16_put.l0 k y0 y1 y2 y3) (quaysidelaw16_put.l0 (k + 1) y0 y1 y2 y3))
  | 0 => fun _ _ _ _ r h => by simp [quaysidelaw16_put.l0] at h
  | k + 1 => by
    have ih0 := quaysidelaw16_put.mono_l k
    · intro y0 y1 y2 y3
      unfold quaysidelaw16_put.l0
      repeat' first
      | (with_reducible exact ih0 _ _ _ _)
      | (with_reducible exact lex_Put.mono _ _ _ _ _)
      | (with_reducible exact LeO.refl _)
      | (with_reducible exact LeO.none _)
      | (with_reducible refine LeO.ite ?_ ?_)
      | (with_reducible refine LeO.bind ?_ (fun _ => ?_))
      | exact ih0 _ _ _ _
      | exact lex_Put.mono _ _ _ _ _
      | exact LeO.none _
      | refine LeO.ite ?_ ?_
      | refine LeO.bind ?_ (fun _ => ?_)
theorem quaysidelaw16_put.mono : ∀ a0 a1 k, LeO (quaysidelaw16_put.f k a0 a1) (quaysidelaw16_put.f (k + 1) a0 a1) := by
  intro a0 a1 k
  have ih0 := quaysidelaw16_put.mono_l k
  unfold quaysidelaw16_put.f
  repeat' first
      | (with_reducible exact ih0 _ _ _ _)
      | (with_reducible exact lex_Put.mono _ _ _ _ _)
      | (with_reducible exact LeO.refl _)
      | (with_reducible exact LeO.none _)
      | (with_reducible refine LeO.ite ?_ ?_)
      | (with_reducible refine LeO.bind ?_ (fun _ => ?_))
      | exact ih0 _ _ _ _
      | exact lex_Put.mono _ _ _ _ _
      | exact LeO.none _
      | refine LeO.ite ?_ ?_
      | refine LeO.bind ?_ (fun _ => ?_)
set_option maxHeartbeats 8000000 in
set_option maxRecDepth 100000 in
theorem quaysidelaw16_put.calls (k : Nat) (A0 : Option Addr) (c0 : Nat) (l0 : List (S33)) (a1 : ByteArray) (r : ByteArray) (w : World) (hr0 : Kd.C k33 w A0 l0.length l0) (hc0 : l0.length ≤ c0) (h : quaysidelaw16_put.f k l0 a1 = some r) (hML : ML w := by first | exact hML | exact ML.below HB.out hML | exact ML.below (by repeat (first | exact HB.out | apply below_alloc | apply pw_below_drewN | apply below_drew1 | exact Below.refl _ _)) hML) :
    Calls Tryd.prog 8 #[.slice A0 l0.length c0, .string a1] w fun e w' => e = .returned (.string r) ∧ Below w.heap.size w w' := by
  have hu33 := Tryd.underlying33
  have HR0 := Aside0.mk hr0
  have HC0 := Aside0.mk hc0
  clear hr0 hc0
  have HB := Aside0.mk (Below.refl w.heap.size w)
  have H : (quaysidelaw16_put.l0 k l0 a1 (⟨#[]⟩ : ByteArray) 0) = some r := h
  clear h
  have H' := Aside0.mk H
  clear H
  go_enter Tryd.func8, Tryd.ntmps8
  go_wp2
  go_loopg [5, 6] k (fun kq v5 v6 w' => ∃ (x5_1 : ByteArray) (x6_1 : Int), v5 = .string x5_1 ∧ v6 = .int .i64 x6_1 ∧ Aside0 (quaysidelaw16_put.l0 kq l0 a1 x5_1 x6_1 = some r) ∧ Aside0 (kq ≤ k) ∧ Aside0 (Below w.heap.size w w'))
  case atStart => exact ⟨((⟨#[]⟩ : ByteArray)), (0), (by first | rfl | (simp; done) | (simp [*]; done)), (by first | rfl | (simp; done) | (simp [*]; done)), H', ⟨Nat.le_refl _⟩, ⟨by repeat (first | (with_reducible first | exact HB.out | apply below_alloc | apply pw_below_drewN | apply below_drew1) | exact HB.out)⟩⟩
  case round =>
    clear H'
    try clear p2
    obtain ⟨x5_1, x6_1, rfl, rfl, HA, HK1, HB⟩ := hrel
    cases gk with
    | zero => exact absurd HA.out (by simp [quaysidelaw16_put.l0])
    | succ k1 =>
      have H := HA.out
      clear HA
      simp only [quaysidelaw16_put.l0] at H
      by_cases c3 : x6_1 < (l0.length : Int)
      · rw [if_pos c3] at H
        have c3b0 : decide (x6_1 < (l0.length : Int)) = true := decide_eq_true c3
        clear c3
        by_cases c4 : 0 ≤ x6_1
        · rw [if_pos c4] at H
          have c4b0 : decide (0 ≤ x6_1) = true := decide_eq_true c4
          clear c4
          replace H := Option.bind_eq_some_iff.mp H
          obtain ⟨t181, A50, H⟩ := H
          replace H : (if x5_1.size + t181.size ≤ 9223372036854775807 then (if (x5_1 ++ t181).size + a1.size ≤ 9223372036854775807 then (quaysidelaw16_put.l0 k1 l0 a1 ((x5_1 ++ t181) ++ a1) (wrap64 (x6_1 + 1))) else (none)) else (none)) = some r := H
          have A5 := Aside0.mk A50
          clear A50
          by_cases c6 : x5_1.size + t181.size ≤ 9223372036854775807
          · rw [if_pos c6] at H
            have c6b0 := eq_true c6
            have c6b1 : decide (x5_1.size + t181.size ≤ 9223372036854775807) = true := decide_eq_true c6
            try have c6b2 : (9223372036854775807 < x5_1.size + t181.size) = False := eq_false (Nat.not_lt.2 c6)
            by_cases c7 : (x5_1 ++ t181).size + a1.size ≤ 9223372036854775807
            · rw [if_pos c7] at H
              have c7b0 := eq_true c7
              have c7b1 : decide ((x5_1 ++ t181).size + a1.size ≤ 9223372036854775807) = true := decide_eq_true c7
              try have c7b2 : (9223372036854775807 < (x5_1 ++ t181).size + a1.size) = False := eq_false (Nat.not_lt.2 c7)
              have H' := Aside0.mk H
              clear H
              have p180 : 0 ≤ (x6_1 : Int) := of_decide_eq_true (by first | (with_reducible assumption) | assumption)
              have q180 : x6_1 < (l0.length : Int) := of_decide_eq_true (by first | (with_reducible assumption) | assumption)
              obtain ⟨ad180, e180, hx180_0, hx180_1, hx180_2, hx180_3⟩ := at_T33 HR0.out x6_1 p180 q180
              cases e180
              replace hx180_0 := (HB.out.cell (World.block_lt_of_cell? w _ hx180_0)).trans hx180_0
              replace hx180_1 := (HB.out.cell (World.block_lt_of_cell? w _ hx180_1)).trans hx180_1
              replace hx180_2 := (HB.out.cell (World.block_lt_of_cell? w _ hx180_2)).trans hx180_2
              replace hx180_3 := (HB.out.cell (World.block_lt_of_cell? w _ hx180_3)).trans hx180_3
              replace p180 := eq_true p180
              replace q180 := eq_true q180
              go_wp2_with (first | ((with_reducible refine gate_callee (f := 12) rfl ?_); refine goesL_ (some 18) rfl rfl Tryd.func12 (by kernel_rfl) rfl #[.agg #[.int .i64 ((rd_T33 l0 x6_1).f0), .string ((rd_T33 l0 x6_1).f1), .int .i64 ((rd_T33 l0 x6_1).f2), .int .i64 ((rd_T33 l0 x6_1).f3)]] rfl (by (try simp only [List.map_toArray, List.map_cons, List.map_nil]); first | done | rfl | (simp only [List.length_drop, List.length_take]; rfl)) ?_; (with_reducible refine (lex_Put.calls k1 ((rd_T33 l0 x6_1).f0) ((rd_T33 l0 x6_1).f1) ((rd_T33 l0 x6_1).f2) ((rd_T33 l0 x6_1).f3) t181 _ A5.out).mono ?_); rintro e w8 ⟨rfl, hb⟩; refine ⟨_, rfl, ?_⟩; have n0_ := Aside0.mk (below_step (by repeat (first | (with_reducible first | exact HB.out | apply below_alloc | apply pw_below_drewN | apply below_drew1) | exact HB.out)) hb); clear HB; have HB := n0_; clear n0_; (try clear hb); (try clear hb2); (try clear hk); (try clear hi)))
              go_roundg k1
              case measure => have := HK1.out; omega
              case rel => exact ⟨((x5_1 ++ t181) ++ a1), (wrap64 (x6_1 + 1)), (by first | rfl | (simp; done) | (simp [*]; done)), (by first | rfl | (simp; done) | (simp [*]; done)), H', ⟨by have := HK1.out; omega⟩, ⟨by repeat (first | (with_reducible first | exact HB.out | apply below_alloc | apply pw_below_drewN | apply below_drew1) | exact HB.out)⟩⟩
            · rw [if_neg c7] at H
              exact absurd H (by simp)
          · rw [if_neg c6] at H
            exact absurd H (by simp)
        · rw [if_neg c4] at H
          exact absurd H (by simp)
      · rw [if_neg c3] at H
        have c3b0 : decide (x6_1 < (l0.length : Int)) = false := decide_eq_false c3
        clear c3
        obtain rfl := Option.some.inj H
        go_wp2
        go_ret
        exact ⟨by first | rfl | (simp [errW_none, errW_some] <;> rfl) | (simp [*, errW_none, errW_some] <;> rfl), by repeat (first | (with_reducible first | exact HB.out | apply below_alloc | apply pw_below_drewN | apply below_drew1) | exact HB.out)⟩

/-! ### quaysideref16_Same: function 9 -/
def quaysideref16_Same.l0 : Nat → List (S33) → List (S33) → Int → Option (Bool)
  | 0, _, _, _ => none
  | k + 1, x0, x1, x5 => if x5 < (x0.length : Int) then (if 0 ≤ x5 then (if x5 < (x1.length : Int) then (if ((rd_T33 x0 x5).f0) = ((rd_T33 x1 x5).f0) then (if ((rd_T33 x0 x5).f1).toList = ((rd_T33 x1 x5).f1).toList then (if ((rd_T33 x0 x5).f2) = ((rd_T33 x1 x5).f2) then (quaysideref16_Same.l0 k x0 x1 (wrap64 (x5 + 1))) else (some false)) else (some false)) else (some false)) else (none)) else (none)) else (some true)
def quaysideref16_Same.f (k : Nat) (l0 : List (S33)) (l1 : List (S33)) : Option (Bool) := if (l0.length : Int) = (l1.length : Int) then (quaysideref16_Same.l0 k l0 l1 0) else (some false)
theorem quaysideref16_Same.mono_l : ∀ k, (∀ y0 y1 y2, LeO (quaysideref16_Same.l0 k y0 y1 y2) (quaysideref16_Same.l0 (k + 1) y0 y1 y2))
  | 0 => fun _ _ _ r h => by simp [quaysideref16_Same.l0] at h
  | k + 1 => by
    have ih0 := quaysideref16_Same.mono_l k
    · intro y0 y1 y2
      unfold quaysideref16_Same.l0
      repeat' first
      | (with_reducible exact ih0 _ _ _)
      | (with_reducible exact LeO.refl _)
      | (with_reducible exact LeO.none _)
      | (with_reducible refine LeO.ite ?_ ?_)
      | (with_reducible refine LeO.bind ?_ (fun _ => ?_))
      | exact ih0 _ _ _
      | exact LeO.none _
      | refine LeO.ite ?_ ?_
      | refine LeO.bind ?_ (fun _ => ?_)
theorem quaysideref16_Same.mono : ∀ a0 a1 k, LeO (quaysideref16_Same.f k a0 a1) (quaysideref16_Same.f (k + 1) a0 a1) := by
  intro a0 a1 k
  have ih0 := quaysideref16_Same.mono_l k
  unfold quaysideref16_Same.f
  repeat' first
      | (with_reducible exact ih0 _ _ _)
      | (with_reducible exact LeO.refl _)
      | (with_reducible exact LeO.none _)
      | (with_reducible refine LeO.ite ?_ ?_)
      | (with_reducible refine LeO.bind ?_ (fun _ => ?_))
      | exact ih0 _ _ _
      | exact LeO.none _
      | refine LeO.ite ?_ ?_
      | refine LeO.bind ?_ (fun _ => ?_)
set_option maxHeartbeats 8000000 in
set_option maxRecDepth 100000 in
theorem quaysideref16_Same.calls (k : Nat) (A0 : Option Addr) (c0 : Nat) (l0 : List (S33)) (A1 : Option Addr) (c1 : Nat) (l1 : List (S33)) (r : Bool) (w : World) (hr0 : Kd.C k33 w A0 l0.length l0) (hc0 : l0.length ≤ c0) (hr1 : Kd.C k33 w A1 l1.length l1) (hc1 : l1.length ≤ c1) (h : quaysideref16_Same.f k l0 l1 = some r) :
    Calls Tryd.prog 9 #[.slice A0 l0.length c0, .slice A1 l1.length c1] w fun e w' => e = .returned (.bool r) ∧ Drawn0 w w' := by
  have HR0 := Aside0.mk hr0
  have HC0 := Aside0.mk hc0
  clear hr0 hc0
  have HR1 := Aside0.mk hr1
  have HC1 := Aside0.mk hc1
  clear hr1 hc1
  have H : (if (l0.length : Int) = (l1.length : Int) then (quaysideref16_Same.l0 k l0 l1 0) else (some false)) = some r := h
  clear h
  by_cases c3 : (l0.length : Int) = (l1.length : Int)
  · rw [if_pos c3] at H
    have c3b0 : ((l0.length : Int) == (l1.length : Int)) = true := beq_iff_eq.mpr c3
    have c3b1 : ((l0.length : Int) != (l1.length : Int)) = false := bne_eq_false_iff_eq.mpr c3
    have c3b2 : (l0.length == l1.length) = true := by first | simpa using c3 | (simp at c3 ⊢; omega)
    clear c3
    have H' := Aside0.mk H
    clear H
    go_enter Tryd.func9, Tryd.ntmps9
    go_wp2
    repeat (go_quiet (fail); try go_wp2)
    go_loopg [5] k (fun kq v5 w' => ∃ (x5_1 : Int), v5 = .int .i64 x5_1 ∧ Aside0 (quaysideref16_Same.l0 kq l0 l1 x5_1 = some r) ∧ Aside0 (kq ≤ k) ∧ Drawn0 w w')
    case atStart => exact ⟨(0), (by first | rfl | (simp; done) | (simp [*]; done)), H', ⟨Nat.le_refl _⟩, by repeat (first | exact Drawn0.refl _ | apply Drawn0.step)⟩
    case round =>
      clear H'
      try clear c1
      try clear p2
      try clear c3
      try clear c3b0
      try clear c3b1
      try clear c3b2
      obtain ⟨x5_1, rfl, HA, HK1, ⟨m1, rfl⟩⟩ := hrel
      cases gk with
      | zero => exact absurd HA.out (by simp [quaysideref16_Same.l0])
      | succ k1 =>
        have H := HA.out
        clear HA
        simp only [quaysideref16_Same.l0] at H
        by_cases c4 : x5_1 < (l0.length : Int)
        · rw [if_pos c4] at H
          have c4b0 : decide (x5_1 < (l0.length : Int)) = true := decide_eq_true c4
          clear c4
          by_cases c5 : 0 ≤ x5_1
          · rw [if_pos c5] at H
            have c5b0 : decide (0 ≤ x5_1) = true := decide_eq_true c5
            clear c5
            by_cases c6 : x5_1 < (l1.length : Int)
            · rw [if_pos c6] at H
              have c6b0 : decide (x5_1 < (l1.length : Int)) = true := decide_eq_true c6
              clear c6
              by_cases c7 : ((rd_T33 l0 x5_1).f0) = ((rd_T33 l1 x5_1).f0)
              · rw [if_pos c7] at H
                have c7b0 : (((rd_T33 l0 x5_1).f0) == ((rd_T33 l1 x5_1).f0)) = true := beq_iff_eq.mpr c7
                have c7b1 : (((rd_T33 l0 x5_1).f0) != ((rd_T33 l1 x5_1).f0)) = false := bne_eq_false_iff_eq.mpr c7
                clear c7
                by_cases c8 : ((rd_T33 l0 x5_1).f1).toList = ((rd_T33 l1 x5_1).f1).toList
                · rw [if_pos c8] at H
                  have c8b0 : (((rd_T33 l0 x5_1).f1).toList == ((rd_T33 l1 x5_1).f1).toList) = true := beq_iff_eq.mpr c8
                  have c8b1 : (((rd_T33 l0 x5_1).f1).toList != ((rd_T33 l1 x5_1).f1).toList) = false := bne_eq_false_iff_eq.mpr c8
                  clear c8
                  by_cases c9 : ((rd_T33 l0 x5_1).f2) = ((rd_T33 l1 x5_1).f2)
                  · rw [if_pos c9] at H
                    have c9b0 : (((rd_T33 l0 x5_1).f2) == ((rd_T33 l1 x5_1).f2)) = true := beq_iff_eq.mpr c9
                    have c9b1 : (((rd_T33 l0 x5_1).f2) != ((rd_T33 l1 x5_1).f2)) = false := bne_eq_false_iff_eq.mpr c9
                    clear c9
                    have H' := Aside0.mk H
                    clear H
                    have p182 : 0 ≤ (x5_1 : Int) := of_decide_eq_true (by first | (with_reducible assumption) | assumption)
                    have q182 : x5_1 < (l0.length : Int) := of_decide_eq_true (by first | (with_reducible assumption) | assumption)
                    obtain ⟨ad182, e182, hx182_0, hx182_1, hx182_2, hx182_3⟩ := at_T33 HR0.out x5_1 p182 q182
                    cases e182
                    replace p182 := eq_true p182
                    replace q182 := eq_true q182
                    have p183 : 0 ≤ (x5_1 : Int) := of_decide_eq_true (by first | (with_reducible assumption) | assumption)
                    have q183 : x5_1 < (l1.length : Int) := of_decide_eq_true (by first | (with_reducible assumption) | assumption)
                    obtain ⟨ad183, e183, hx183_0, hx183_1, hx183_2, hx183_3⟩ := at_T33 HR1.out x5_1 p183 q183
                    cases e183
                    replace p183 := eq_true p183
                    replace q183 := eq_true q183
                    have p184 : 0 ≤ (x5_1 : Int) := of_decide_eq_true (by first | (with_reducible assumption) | assumption)
                    have q184 : x5_1 < (l0.length : Int) := of_decide_eq_true (by first | (with_reducible assumption) | assumption)
                    obtain ⟨ad184, e184, hx184_0, hx184_1, hx184_2, hx184_3⟩ := at_T33 HR0.out x5_1 p184 q184
                    obtain rfl : ad182 = ad184 := (by injection e184)
                    replace p184 := eq_true p184
                    replace q184 := eq_true q184
                    have p185 : 0 ≤ (x5_1 : Int) := of_decide_eq_true (by first | (with_reducible assumption) | assumption)
                    have q185 : x5_1 < (l1.length : Int) := of_decide_eq_true (by first | (with_reducible assumption) | assumption)
                    obtain ⟨ad185, e185, hx185_0, hx185_1, hx185_2, hx185_3⟩ := at_T33 HR1.out x5_1 p185 q185
                    obtain rfl : ad183 = ad185 := (by injection e185)
                    replace p185 := eq_true p185
                    replace q185 := eq_true q185
                    have p186 : 0 ≤ (x5_1 : Int) := of_decide_eq_true (by first | (with_reducible assumption) | assumption)
                    have q186 : x5_1 < (l0.length : Int) := of_decide_eq_true (by first | (with_reducible assumption) | assumption)
                    obtain ⟨ad186, e186, hx186_0, hx186_1, hx186_2, hx186_3⟩ := at_T33 HR0.out x5_1 p186 q186
                    obtain rfl : ad182 = ad186 := (by injection e186)
                    replace p186 := eq_true p186
                    replace q186 := eq_true q186
                    have p187 : 0 ≤ (x5_1 : Int) := of_decide_eq_true (by first | (with_reducible assumption) | assumption)
                    have q187 : x5_1 < (l1.length : Int) := of_decide_eq_true (by first | (with_reducible assumption) | assumption)
                    obtain ⟨ad187, e187, hx187_0, hx187_1, hx187_2, hx187_3⟩ := at_T33 HR1.out x5_1 p187 q187
                    obtain rfl : ad183 = ad187 := (by injection e187)
                    replace p187 := eq_true p187
                    replace q187 := eq_true q187
                    go_wp2
                    repeat (go_quiet (fail); try go_wp2)
                    go_roundg k1
                    case measure => have := HK1.out; omega
                    case rel => exact ⟨(wrap64 (x5_1 + 1)), (by first | rfl | (simp; done) | (simp [*]; done)), H', ⟨by have := HK1.out; omega⟩, by repeat (first | exact Drawn0.refl _ | apply Drawn0.step)⟩
                  · rw [if_neg c9] at H
                    have c9b0 : (((rd_T33 l0 x5_1).f2) == ((rd_T33 l1 x5_1).f2)) = false := beq_eq_false_iff_ne.mpr c9
                    have c9b1 : (((rd_T33 l0 x5_1).f2) != ((rd_T33 l1 x5_1).f2)) = true := bne_iff_ne.mpr c9
                    obtain rfl := Option.some.inj H
                    have p182 : 0 ≤ (x5_1 : Int) := of_decide_eq_true (by first | (with_reducible assumption) | assumption)
                    have q182 : x5_1 < (l0.length : Int) := of_decide_eq_true (by first | (with_reducible assumption) | assumption)
                    obtain ⟨ad182, e182, hx182_0, hx182_1, hx182_2, hx182_3⟩ := at_T33 HR0.out x5_1 p182 q182
                    cases e182
                    replace p182 := eq_true p182
                    replace q182 := eq_true q182
                    have p183 : 0 ≤ (x5_1 : Int) := of_decide_eq_true (by first | (with_reducible assumption) | assumption)
                    have q183 : x5_1 < (l1.length : Int) := of_decide_eq_true (by first | (with_reducible assumption) | assumption)
                    obtain ⟨ad183, e183, hx183_0, hx183_1, hx183_2, hx183_3⟩ := at_T33 HR1.out x5_1 p183 q183
                    cases e183
                    replace p183 := eq_true p183
                    replace q183 := eq_true q183
                    have p184 : 0 ≤ (x5_1 : Int) := of_decide_eq_true (by first | (with_reducible assumption) | assumption)
                    have q184 : x5_1 < (l0.length : Int) := of_decide_eq_true (by first | (with_reducible assumption) | assumption)
                    obtain ⟨ad184, e184, hx184_0, hx184_1, hx184_2, hx184_3⟩ := at_T33 HR0.out x5_1 p184 q184
                    obtain rfl : ad182 = ad184 := (by injection e184)
                    replace p184 := eq_true p184
                    replace q184 := eq_true q184
                    have p185 : 0 ≤ (x5_1 : Int) := of_decide_eq_true (by first | (with_reducible assumption) | assumption)
                    have q185 : x5_1 < (l1.length : Int) := of_decide_eq_true (by first | (with_reducible assumption) | assumption)
                    obtain ⟨ad185, e185, hx185_0, hx185_1, hx185_2, hx185_3⟩ := at_T33 HR1.out x5_1 p185 q185
                    obtain rfl : ad183 = ad185 := (by injection e185)
                    replace p185 := eq_true p185
                    replace q185 := eq_true q185
                    have p186 : 0 ≤ (x5_1 : Int) := of_decide_eq_true (by first | (with_reducible assumption) | assumption)
                    have q186 : x5_1 < (l0.length : Int) := of_decide_eq_true (by first | (with_reducible assumption) | assumption)
                    obtain ⟨ad186, e186, hx186_0, hx186_1, hx186_2, hx186_3⟩ := at_T33 HR0.out x5_1 p186 q186
                    obtain rfl : ad182 = ad186 := (by injection e186)
                    replace p186 := eq_true p186
                    replace q186 := eq_true q186
                    have p187 : 0 ≤ (x5_1 : Int) := of_decide_eq_true (by first | (with_reducible assumption) | assumption)
                    have q187 : x5_1 < (l1.length : Int) := of_decide_eq_true (by first | (with_reducible assumption) | assumption)
                    obtain ⟨ad187, e187, hx187_0, hx187_1, hx187_2, hx187_3⟩ := at_T33 HR1.out x5_1 p187 q187
                    obtain rfl : ad183 = ad187 := (by injection e187)
                    replace p187 := eq_true p187
                    replace q187 := eq_true q187
                    go_wp2
                    repeat (go_quiet (fail); try go_wp2)
                    go_ret
                    exact ⟨by first | rfl | (simp; done) | (simp [*]; done), by repeat (first | exact Drawn0.refl _ | apply Drawn0.step)⟩
                · rw [if_neg c8] at H
                  have c8b0 : (((rd_T33 l0 x5_1).f1).toList == ((rd_T33 l1 x5_1).f1).toList) = false := beq_eq_false_iff_ne.mpr c8
                  have c8b1 : (((rd_T33 l0 x5_1).f1).toList != ((rd_T33 l1 x5_1).f1).toList) = true := bne_iff_ne.mpr c8
                  obtain rfl := Option.some.inj H
                  have p182 : 0 ≤ (x5_1 : Int) := of_decide_eq_true (by first | (with_reducible assumption) | assumption)
                  have q182 : x5_1 < (l0.length : Int) := of_decide_eq_true (by first | (with_reducible assumption) | assumption)
                  obtain ⟨ad182, e182, hx182_0, hx182_1, hx182_2, hx182_3⟩ := at_T33 HR0.out x5_1 p182 q182
                  cases e182
                  replace p182 := eq_true p182
                  replace q182 := eq_true q182
                  have p183 : 0 ≤ (x5_1 : Int) := of_decide_eq_true (by first | (with_reducible assumption) | assumption)
                  have q183 : x5_1 < (l1.length : Int) := of_decide_eq_true (by first | (with_reducible assumption) | assumption)
                  obtain ⟨ad183, e183, hx183_0, hx183_1, hx183_2, hx183_3⟩ := at_T33 HR1.out x5_1 p183 q183
                  cases e183
                  replace p183 := eq_true p183
                  replace q183 := eq_true q183
                  have p184 : 0 ≤ (x5_1 : Int) := of_decide_eq_true (by first | (with_reducible assumption) | assumption)
                  have q184 : x5_1 < (l0.length : Int) := of_decide_eq_true (by first | (with_reducible assumption) | assumption)
                  obtain ⟨ad184, e184, hx184_0, hx184_1, hx184_2, hx184_3⟩ := at_T33 HR0.out x5_1 p184 q184
                  obtain rfl : ad182 = ad184 := (by injection e184)
                  replace p184 := eq_true p184
                  replace q184 := eq_true q184
                  have p185 : 0 ≤ (x5_1 : Int) := of_decide_eq_true (by first | (with_reducible assumption) | assumption)
                  have q185 : x5_1 < (l1.length : Int) := of_decide_eq_true (by first | (with_reducible assumption) | assumption)
                  obtain ⟨ad185, e185, hx185_0, hx185_1, hx185_2, hx185_3⟩ := at_T33 HR1.out x5_1 p185 q185
                  obtain rfl : ad183 = ad185 := (by injection e185)
                  replace p185 := eq_true p185
                  replace q185 := eq_true q185
                  go_wp2
                  repeat (go_quiet (fail); try go_wp2)
                  go_ret
                  exact ⟨by first | rfl | (simp; done) | (simp [*]; done), by repeat (first | exact Drawn0.refl _ | apply Drawn0.step)⟩
              · rw [if_neg c7] at H
                have c7b0 : (((rd_T33 l0 x5_1).f0) == ((rd_T33 l1 x5_1).f0)) = false := beq_eq_false_iff_ne.mpr c7
                have c7b1 : (((rd_T33 l0 x5_1).f0) != ((rd_T33 l1 x5_1).f0)) = true := bne_iff_ne.mpr c7
                obtain rfl := Option.some.inj H
                have p182 : 0 ≤ (x5_1 : Int) := of_decide_eq_true (by first | (with_reducible assumption) | assumption)
                have q182 : x5_1 < (l0.length : Int) := of_decide_eq_true (by first | (with_reducible assumption) | assumption)
                obtain ⟨ad182, e182, hx182_0, hx182_1, hx182_2, hx182_3⟩ := at_T33 HR0.out x5_1 p182 q182
                cases e182
                replace p182 := eq_true p182
                replace q182 := eq_true q182
                have p183 : 0 ≤ (x5_1 : Int) := of_decide_eq_true (by first | (with_reducible assumption) | assumption)
                have q183 : x5_1 < (l1.length : Int) := of_decide_eq_true (by first | (with_reducible assumption) | assumption)
                obtain ⟨ad183, e183, hx183_0, hx183_1, hx183_2, hx183_3⟩ := at_T33 HR1.out x5_1 p183 q183
                cases e183
                replace p183 := eq_true p183
                replace q183 := eq_true q183
                go_wp2
                repeat (go_quiet (fail); try go_wp2)
                go_ret
                exact ⟨by first | rfl | (simp; done) | (simp [*]; done), by repeat (first | exact Drawn0.refl _ | apply Drawn0.step)⟩
            · rw [if_neg c6] at H
              exact absurd H (by simp)
          · rw [if_neg c5] at H
            exact absurd H (by simp)
        · rw [if_neg c4] at H
          have c4b0 : decide (x5_1 < (l0.length : Int)) = false := decide_eq_false c4
          clear c4
          obtain rfl := Option.some.inj H
          go_wp2
          repeat (go_quiet (fail); try go_wp2)
          go_ret
          exact ⟨by first | rfl | (simp; done) | (simp [*]; done), by repeat (first | exact Drawn0.refl _ | apply Drawn0.step)⟩
  · rw [if_neg c3] at H
    have c3b0 : ((l0.length : Int) == (l1.length : Int)) = false := beq_eq_false_iff_ne.mpr c3
    have c3b1 : ((l0.length : Int) != (l1.length : Int)) = true := bne_iff_ne.mpr c3
    have c3b2 : (l0.length == l1.length) = false := by first | simpa using c3 | (simp at c3 ⊢; omega)
    obtain rfl := Option.some.inj H
    go_enter Tryd.func9, Tryd.ntmps9
    go_wp2
    repeat (go_quiet (fail); try go_wp2)
    go_ret
    exact ⟨by first | rfl | (simp; done) | (simp [*]; done), by repeat (first | exact Drawn0.refl _ | apply Drawn0.step)⟩

/-! ### quaysidelaw16_LexBack: function 3 -/
def quaysidelaw16_LexBack.j0 : Nat → List (S33) → Bool → Option (Bool)
  | 0, _, _ => none
  | k + 1, x3, x26 => if x26 = true then ((quaysidelaw16_awake.f k).bind fun t194 => (some t194)) else ((quaysidelaw16_put.f k x3 (⟨#[32]⟩ : ByteArray)).bind fun t195 => ((lex_Tokens.f k t195).bind fun bt196 => (if bt196.2.2 = 0 then ((quaysideref16_Same.f k x3 bt196.1).bind fun t201 => (if t201 = true then ((quaysidelaw16_awake.f k).bind fun t202 => (some t202)) else (if (t195.size : Int) > 4096 then ((quaysidelaw16_awake.f k).bind fun t203 => (some t203)) else (some false)))) else (if (t195.size : Int) > 4096 then ((quaysidelaw16_awake.f k).bind fun t204 => (some t204)) else (some false)))))
def quaysidelaw16_LexBack.f (k : Nat) (a0 : ByteArray) : Option (Bool) := if (a0.size : Int) > 512 then ((quaysidelaw16_awake.f k).bind fun t188 => (some t188)) else ((lex_Tokens.f k a0).bind fun bt189 => (if bt189.2.2 = 0 then (quaysidelaw16_LexBack.j0 k bt189.1 ((bt189.1.length : Int) == 0)) else (quaysidelaw16_LexBack.j0 k bt189.1 true)))
theorem quaysidelaw16_LexBack.mono_l : ∀ k, (∀ y0 y1, LeO (quaysidelaw16_LexBack.j0 k y0 y1) (quaysidelaw16_LexBack.j0 (k + 1) y0 y1))
  | 0 => fun _ _ r h => by simp [quaysidelaw16_LexBack.j0] at h
  | k + 1 => by
    have ih0 := quaysidelaw16_LexBack.mono_l k
    · intro y0 y1
      unfold quaysidelaw16_LexBack.j0
      repeat' first
      | (with_reducible exact ih0 _ _)
      | (with_reducible exact lex_Tokens.mono _ _)
      | (with_reducible exact quaysidelaw16_awake.mono _)
      | (with_reducible exact quaysidelaw16_put.mono _ _ _)
      | (with_reducible exact quaysideref16_Same.mono _ _ _)
      | (with_reducible exact LeO.refl _)
      | (with_reducible exact LeO.none _)
      | (with_reducible refine LeO.ite ?_ ?_)
      | (with_reducible refine LeO.bind ?_ (fun _ => ?_))
      | exact ih0 _ _
      | exact lex_Tokens.mono _ _
      | exact quaysidelaw16_awake.mono _
      | exact quaysidelaw16_put.mono _ _ _
      | exact quaysideref16_Same.mono _ _ _
      | exact LeO.none _
      | refine LeO.ite ?_ ?_
      | refine LeO.bind ?_ (fun _ => ?_)
theorem quaysidelaw16_LexBack.mono : ∀ a0 k, LeO (quaysidelaw16_LexBack.f k a0) (quaysidelaw16_LexBack.f (k + 1) a0) := by
  intro a0 k
  have ih0 := quaysidelaw16_LexBack.mono_l k
  unfold quaysidelaw16_LexBack.f
  repeat' first
      | (with_reducible exact ih0 _ _)
      | (with_reducible exact lex_Tokens.mono _ _)
      | (with_reducible exact quaysidelaw16_awake.mono _)
      | (with_reducible exact quaysidelaw16_put.mono _ _ _)
      | (with_reducible exact quaysideref16_Same.mono _ _ _)
      | (with_reducible exact LeO.refl _)
      | (with_reducible exact LeO.none _)
      | (with_reducible refine LeO.ite ?_ ?_)
      | (with_reducible refine LeO.bind ?_ (fun _ => ?_))
      | exact ih0 _ _
      | exact lex_Tokens.mono _ _
      | exact quaysidelaw16_awake.mono _
      | exact quaysidelaw16_put.mono _ _ _
      | exact quaysideref16_Same.mono _ _ _
      | exact LeO.none _
      | refine LeO.ite ?_ ?_
      | refine LeO.bind ?_ (fun _ => ?_)
set_option maxHeartbeats 8000000 in
set_option maxRecDepth 100000 in
theorem quaysidelaw16_LexBack.calls (k : Nat) (a0 : ByteArray) (r : Bool) (w : World) (h : quaysidelaw16_LexBack.f k a0 = some r) (hrt : Aside0 (r = true) := by first | exact ⟨rfl⟩ | exact hrt) (hML : ML w := by first | exact hML | exact ML.below HB.out hML | exact ML.below (by repeat (first | exact HB.out | apply below_alloc | apply pw_below_drewN | apply below_drew1 | exact Below.refl _ _)) hML) :
    Calls Tryd.prog 3 #[.string a0] w fun e w' => e = .returned (.bool r) ∧ Below w.heap.size w w' := by
  have HB := Aside0.mk (Below.refl w.heap.size w)
  have H : (if (a0.size : Int) > 512 then ((quaysidelaw16_awake.f k).bind fun t188 => (some t188)) else ((lex_Tokens.f k a0).bind fun bt189 => (if bt189.2.2 = 0 then (quaysidelaw16_LexBack.j0 k bt189.1 ((bt189.1.length : Int) == 0)) else (quaysidelaw16_LexBack.j0 k bt189.1 true)))) = some r := h
  clear h
  by_cases c2 : (a0.size : Int) > 512
  · rw [if_pos c2] at H
    have c2b0 : decide (512 < (a0.size : Int)) = true := decide_eq_true c2
    have c2b1 : decide (512 < a0.size) = true := decide_eq_true (by omega)
    clear c2
    replace H := Option.bind_eq_some_iff.mp H
    obtain ⟨t188, A30, H⟩ := H
    replace H : (some t188) = some r := H
    have A3 := Aside0.mk A30
    clear A30
    obtain rfl := Option.some.inj H
    go_enter Tryd.func3, Tryd.ntmps3
    go_wp2_with (first | ((with_reducible refine gate_callee (f := 6) rfl ?_); refine goesL_ (some 13) rfl rfl Tryd.func6 (by kernel_rfl) rfl #[] rfl (by (try simp only [List.map_toArray, List.map_cons, List.map_nil]); first | done | rfl | (simp only [List.length_drop, List.length_take]; rfl)) ?_; (with_reducible refine (quaysidelaw16_awake.calls k  t188 _ A3.out).mono ?_); rintro e w4 ⟨rfl, hb⟩; refine ⟨_, rfl, ?_⟩; have n0_ := Aside0.mk (below_step (by repeat (first | (with_reducible first | exact HB.out | apply below_alloc | apply pw_below_drewN | apply below_drew1) | exact HB.out)) hb); clear HB; have HB := n0_; clear n0_; (try clear hb); (try clear hb2); (try clear hk); (try clear hi)))
    go_ret
    exact ⟨by first | rfl | (simp [errW_none, errW_some] <;> rfl) | (simp [*, errW_none, errW_some] <;> rfl), by repeat (first | (with_reducible first | exact HB.out | apply below_alloc | apply pw_below_drewN | apply below_drew1) | exact HB.out)⟩
  · rw [if_neg c2] at H
    have c2b0 : decide (512 < (a0.size : Int)) = false := decide_eq_false c2
    have c2b1 : decide (512 < a0.size) = false := decide_eq_false (by omega)
    clear c2
    replace H := Option.bind_eq_some_iff.mp H
    obtain ⟨⟨t189, t190, t191⟩, A50, H⟩ := H
    replace H : (if t191 = 0 then (quaysidelaw16_LexBack.j0 k t189 ((t189.length : Int) == 0)) else (quaysidelaw16_LexBack.j0 k t189 true)) = some r := H
    have A5 := Aside0.mk A50
    clear A50
    have HC6 := Aside0.mk H
    clear H
    go_enter Tryd.func3, Tryd.ntmps3
    go_upto_region 4 with (first | ((with_reducible refine gate_callee (f := 7) rfl ?_); refine goesL_ (some 16) rfl rfl Tryd.func7 (by kernel_rfl) rfl #[.string a0] rfl (by (try simp only [List.map_toArray, List.map_cons, List.map_nil]); first | done | rfl | (simp only [List.length_drop, List.length_take]; rfl)) ?_; (with_reducible refine (lex_Tokens.calls k a0 t189 t190 t191 _ A5.out).mono ?_); rintro e w7 ⟨v192, rfl, ho0, hb⟩; refine ⟨_, rfl, ?_⟩; have n0_ := Aside0.mk (Kd.R_lower ho0 (below_size (by repeat (first | (with_reducible first | exact HB.out | apply below_alloc | apply pw_below_drewN | apply below_drew1) | exact HB.out)))); have n1_ := Aside0.mk (below_step (by repeat (first | (with_reducible first | exact HB.out | apply below_alloc | apply pw_below_drewN | apply below_drew1) | exact HB.out)) hb); clear HB; have HO193 := n0_; have HB := n1_; clear n0_ n1_; (try clear hb); (try clear hb2); (try clear hk); (try clear hi); (try clear ho0)))
    (try simp only [Act.put, List.setIfInBounds_toArray, List.set_cons_zero, List.set_cons_succ])
    go_cut [26] (fun v26 wc => ∃ (kq : Nat) (x26_5 : Bool), v26 = .bool x26_5 ∧ Aside0 (quaysidelaw16_LexBack.j0 kq t189 x26_5 = some r) ∧ Aside0 (kq ≤ k) ∧ Aside0 (Kd.R k33 33 wc w.heap.size (fun _ => True) v192 t189) ∧ Aside0 (Below w.heap.size w wc))
    case first =>
      have H := HC6.out
      clear HC6
      by_cases c8 : t191 = 0
      · rw [if_pos c8] at H
        have c8b0 : (t191 == 0) = true := beq_iff_eq.mpr c8
        have c8b1 : (t191 != 0) = false := bne_eq_false_iff_eq.mpr c8
        clear c8
        (first | rw [c8b0] | (simp only [i64_w, i32_w]; rw [c8b0]) | skip)
        have H' := Aside0.mk H
        clear H
        obtain ⟨Ao9, co9, eo9⟩ := Kd.R_slice HO193.out
        subst eo9
        go_wp2
        go_meet
        case rel => exact ⟨_, (((t189.length : Int) == 0)), (by first | rfl | (simp; done) | (simp [*]; done)), H', ⟨by first | omega | exact Nat.le_refl _⟩, ⟨by (with_reducible repeat (first | apply Kd.R_alloc | apply Kd.R_drewN | apply Kd.R_drew)); exact HO193.out⟩, ⟨by repeat (first | (with_reducible first | exact HB.out | apply below_alloc | apply pw_below_drewN | apply below_drew1) | exact HB.out)⟩⟩
      · rw [if_neg c8] at H
        have c8b0 : (t191 == 0) = false := beq_eq_false_iff_ne.mpr c8
        have c8b1 : (t191 != 0) = true := bne_iff_ne.mpr c8
        (first | rw [c8b0] | (simp only [i64_w, i32_w]; rw [c8b0]) | skip)
        have H' := Aside0.mk H
        clear H
        go_wp2
        go_meet
        case rel => exact ⟨_, (true), (by first | rfl | (simp; done) | (simp [*]; done)), H', ⟨by first | omega | exact Nat.le_refl _⟩, ⟨by (with_reducible repeat (first | apply Kd.R_alloc | apply Kd.R_drewN | apply Kd.R_drew)); exact HO193.out⟩, ⟨by repeat (first | (with_reducible first | exact HB.out | apply below_alloc | apply pw_below_drewN | apply below_drew1) | exact HB.out)⟩⟩
    case rest =>
      clear HC6
      try clear c2
      try clear c2b0
      try clear c2b1
      try clear p2
      try clear c3
      try clear c6
      try clear c7
      try clear c8
      try clear c8b0
      try clear c8b1
      obtain ⟨kq, x26_5, rfl, HA, HJ5, HO_3, HB⟩ := hcut
      cases kq with
      | zero => exact absurd HA.out (by simp [quaysidelaw16_LexBack.j0])
      | succ kj5 =>
        have H := HA.out
        clear HA
        simp only [quaysidelaw16_LexBack.j0] at H
        by_cases c10 : x26_5 = true
        · subst c10
          have H1 : ((quaysidelaw16_awake.f kj5).bind fun t194 => (some t194)) = some r := by rw [if_pos rfl] at H; exact H
          clear H
          have H := H1
          clear H1
          replace H := Option.bind_eq_some_iff.mp H
          obtain ⟨t194, A110, H⟩ := H
          replace H : (some t194) = some r := H
          have A11 := Aside0.mk A110
          clear A110
          obtain rfl := Option.some.inj H
          go_wp2_with (first | ((with_reducible refine gate_callee (f := 6) rfl ?_); refine goesL_ (some 27) rfl rfl Tryd.func6 (by kernel_rfl) rfl #[] rfl (by (try simp only [List.map_toArray, List.map_cons, List.map_nil]); first | done | rfl | (simp only [List.length_drop, List.length_take]; rfl)) ?_; (with_reducible refine (quaysidelaw16_awake.calls kj5  t194 _ A11.out).mono ?_); rintro e w12 ⟨rfl, hb⟩; refine ⟨_, rfl, ?_⟩; have n0_ := Aside0.mk (Kd.R_below (by (with_reducible repeat (first | apply Kd.R_alloc | apply Kd.R_drewN | apply Kd.R_drew)); exact HO_3.out) hb); have n1_ := Aside0.mk (below_step (by repeat (first | (with_reducible first | exact HB.out | apply below_alloc | apply pw_below_drewN | apply below_drew1) | exact HB.out)) hb); clear HO_3; clear HB; have HO_3 := n0_; have HB := n1_; clear n0_ n1_; (try clear hb); (try clear hb2); (try clear hk); (try clear hi)))
          go_ret
          exact ⟨by first | rfl | (simp [errW_none, errW_some] <;> rfl) | (simp [*, errW_none, errW_some] <;> rfl), by repeat (first | (with_reducible first | exact HB.out | apply below_alloc | apply pw_below_drewN | apply below_drew1) | exact HB.out)⟩
        · replace c10 := Bool.eq_false_iff.mpr c10
          subst c10
          have H1 : ((quaysidelaw16_put.f kj5 t189 (⟨#[32]⟩ : ByteArray)).bind fun t195 => ((lex_Tokens.f kj5 t195).bind fun bt196 => (if bt196.2.2 = 0 then ((quaysideref16_Same.f kj5 t189 bt196.1).bind fun t201 => (if t201 = true then ((quaysidelaw16_awake.f kj5).bind fun t202 => (some t202)) else (if (t195.size : Int) > 4096 then ((quaysidelaw16_awake.f kj5).bind fun t203 => (some t203)) else (some false)))) else (if (t195.size : Int) > 4096 then ((quaysidelaw16_awake.f kj5).bind fun t204 => (some t204)) else (some false))))) = some r := by rw [if_neg (show ¬ (false = true) by decide)] at H; exact H
          clear H
          have H := H1
          clear H1
          replace H := Option.bind_eq_some_iff.mp H
          obtain ⟨t195, A130, H⟩ := H
          replace H : ((lex_Tokens.f kj5 t195).bind fun bt196 => (if bt196.2.2 = 0 then ((quaysideref16_Same.f kj5 t189 bt196.1).bind fun t201 => (if t201 = true then ((quaysidelaw16_awake.f kj5).bind fun t202 => (some t202)) else (if (t195.size : Int) > 4096 then ((quaysidelaw16_awake.f kj5).bind fun t203 => (some t203)) else (some false)))) else (if (t195.size : Int) > 4096 then ((quaysidelaw16_awake.f kj5).bind fun t204 => (some t204)) else (some false)))) = some r := H
          have A13 := Aside0.mk A130
          clear A130
          replace H := Option.bind_eq_some_iff.mp H
          obtain ⟨⟨t196, t197, t198⟩, A140, H⟩ := H
          replace H : (if t198 = 0 then ((quaysideref16_Same.f kj5 t189 t196).bind fun t201 => (if t201 = true then ((quaysidelaw16_awake.f kj5).bind fun t202 => (some t202)) else (if (t195.size : Int) > 4096 then ((quaysidelaw16_awake.f kj5).bind fun t203 => (some t203)) else (some false)))) else (if (t195.size : Int) > 4096 then ((quaysidelaw16_awake.f kj5).bind fun t204 => (some t204)) else (some false))) = some r := H
          have A14 := Aside0.mk A140
          clear A140
          by_cases c15 : t198 = 0
          · rw [if_pos c15] at H
            have c15b0 : (t198 == 0) = true := beq_iff_eq.mpr c15
            have c15b1 : (t198 != 0) = false := bne_eq_false_iff_eq.mpr c15
            clear c15
            replace H := Option.bind_eq_some_iff.mp H
            obtain ⟨t201, A160, H⟩ := H
            replace H : (if t201 = true then ((quaysidelaw16_awake.f kj5).bind fun t202 => (some t202)) else (if (t195.size : Int) > 4096 then ((quaysidelaw16_awake.f kj5).bind fun t203 => (some t203)) else (some false))) = some r := H
            have A16 := Aside0.mk A160
            clear A160
            by_cases c17 : t201 = true
            · subst c17
              have H1 : ((quaysidelaw16_awake.f kj5).bind fun t202 => (some t202)) = some r := by rw [if_pos rfl] at H; exact H
              clear H
              have H := H1
              clear H1
              replace H := Option.bind_eq_some_iff.mp H
              obtain ⟨t202, A180, H⟩ := H
              replace H : (some t202) = some r := H
              have A18 := Aside0.mk A180
              clear A180
              obtain rfl := Option.some.inj H
              obtain ⟨Ao19, co19, eo19⟩ := Kd.R_slice HO_3.out
              subst eo19
              go_wp2_with (first | ((with_reducible refine gate_callee (f := 8) rfl ?_); refine goesL_ (some 29) rfl rfl Tryd.func8 (by kernel_rfl) rfl #[.slice Ao19 t189.length co19, .string (⟨#[32]⟩ : ByteArray)] rfl (by (try simp only [List.map_toArray, List.map_cons, List.map_nil]); first | done | rfl | (simp only [List.length_drop, List.length_take]; rfl)) ?_; (with_reducible refine (quaysidelaw16_put.calls kj5 _ _ t189 (⟨#[32]⟩ : ByteArray) t195 _ ?side1 ?side2 A13.out).mono ?_); (case side1 => repeat (first | exact (Kd.R_reads' HO_3.out).2.2 | (with_reducible refine Kd.C_alloc ?_ _) | (with_reducible refine Kd.C_drewN ?_ _) | (with_reducible refine Kd.C_drew ?_))); (case side2 => exact (Kd.R_reads' HO_3.out).2.1); rintro e w20 ⟨rfl, hb⟩; refine ⟨_, rfl, ?_⟩; have n0_ := Aside0.mk (Kd.R_below (by (with_reducible repeat (first | apply Kd.R_alloc | apply Kd.R_drewN | apply Kd.R_drew)); exact HO_3.out) hb); have n1_ := Aside0.mk (below_step (by repeat (first | (with_reducible first | exact HB.out | apply below_alloc | apply pw_below_drewN | apply below_drew1) | exact HB.out)) hb); clear HO_3; clear HB; have HO_3 := n0_; have HB := n1_; clear n0_ n1_; (try clear hb); (try clear hb2); (try clear hk); (try clear hi)) | ((with_reducible refine gate_callee (f := 7) rfl ?_); refine goesL_ (some 32) rfl rfl Tryd.func7 (by kernel_rfl) rfl #[.string t195] rfl (by (try simp only [List.map_toArray, List.map_cons, List.map_nil]); first | done | rfl | (simp only [List.length_drop, List.length_take]; rfl)) ?_; (with_reducible refine (lex_Tokens.calls kj5 t195 t196 t197 t198 _ A14.out).mono ?_); rintro e w21 ⟨v199, rfl, ho0, hb⟩; refine ⟨_, rfl, ?_⟩; have n0_ := Aside0.mk (Kd.R_elder' (by (with_reducible repeat (first | apply Kd.R_alloc | apply Kd.R_drewN | apply Kd.R_drew)); exact HO_3.out) (Kd.R_base ho0) hb); have n1_ := Aside0.mk (Kd.R_lower (Kd.R_new' ho0 (Kd.R_lt (by (with_reducible repeat (first | apply Kd.R_alloc | apply Kd.R_drewN | apply Kd.R_drew)); exact HO_3.out))) (below_size (by repeat (first | (with_reducible first | exact HB.out | apply below_alloc | apply pw_below_drewN | apply below_drew1) | exact HB.out)))); have n2_ := Aside0.mk (below_step (by repeat (first | (with_reducible first | exact HB.out | apply below_alloc | apply pw_below_drewN | apply below_drew1) | exact HB.out)) hb); clear HO_3; clear HB; have HO_3 := n0_; have HO200 := n1_; have HB := n2_; clear n0_ n1_ n2_; (try clear hb); (try clear hb2); (try clear hk); (try clear hi); (try clear ho0); obtain ⟨Ao22, co22, eo22⟩ := Kd.R_slice HO200.out; subst eo22) | (go_at_call 9; (with_reducible refine (quaysideref16_Same.calls kj5 _ _ t189 _ _ t196 true _ ?side1 ?side2 ?side3 ?side4 A16.out).mono ?_); (case side1 => repeat (first | exact (Kd.R_reads' HO_3.out).2.2 | (with_reducible refine Kd.C_alloc ?_ _) | (with_reducible refine Kd.C_drewN ?_ _) | (with_reducible refine Kd.C_drew ?_))); (case side2 => exact (Kd.R_reads' HO_3.out).2.1); (case side3 => repeat (first | exact (Kd.R_reads' HO200.out).2.2 | (with_reducible refine Kd.C_alloc ?_ _) | (with_reducible refine Kd.C_drewN ?_ _) | (with_reducible refine Kd.C_drew ?_))); (case side4 => exact (Kd.R_reads' HO200.out).2.1); rintro e w' ⟨rfl, ⟨nd, rfl⟩⟩) | (go_at_call 6; (with_reducible refine (quaysidelaw16_awake.calls kj5  t202 _ A18.out).mono ?_); rintro e w23 ⟨rfl, hb⟩; have n0_ := Aside0.mk (Kd.R_below (by (with_reducible repeat (first | apply Kd.R_alloc | apply Kd.R_drewN | apply Kd.R_drew)); exact HO_3.out) hb); have n1_ := Aside0.mk (Kd.R_below (by (with_reducible repeat (first | apply Kd.R_alloc | apply Kd.R_drewN | apply Kd.R_drew)); exact HO200.out) hb); have n2_ := Aside0.mk (below_step (by repeat (first | (with_reducible first | exact HB.out | apply below_alloc | apply pw_below_drewN | apply below_drew1) | exact HB.out)) hb); clear HO_3; clear HO200; clear HB; have HO_3 := n0_; have HO200 := n1_; have HB := n2_; clear n0_ n1_ n2_; (try clear hb); (try clear hb2); (try clear hk); (try clear hi)))
              go_ret
              exact ⟨by first | rfl | (simp [errW_none, errW_some] <;> rfl) | (simp [*, errW_none, errW_some] <;> rfl), by repeat (first | (with_reducible first | exact HB.out | apply below_alloc | apply pw_below_drewN | apply below_drew1) | exact HB.out)⟩
            · replace c17 := Bool.eq_false_iff.mpr c17
              subst c17
              have H1 : (if (t195.size : Int) > 4096 then ((quaysidelaw16_awake.f kj5).bind fun t203 => (some t203)) else (some false)) = some r := by rw [if_neg (show ¬ (false = true) by decide)] at H; exact H
              clear H
              have H := H1
              clear H1
              by_cases c24 : (t195.size : Int) > 4096
              · rw [if_pos c24] at H
                have c24b0 : decide (4096 < (t195.size : Int)) = true := decide_eq_true c24
                have c24b1 : decide (4096 < t195.size) = true := decide_eq_true (by omega)
                clear c24
                replace H := Option.bind_eq_some_iff.mp H
                obtain ⟨t203, A250, H⟩ := H
                replace H : (some t203) = some r := H
                have A25 := Aside0.mk A250
                clear A250
                obtain rfl := Option.some.inj H
                obtain ⟨Ao26, co26, eo26⟩ := Kd.R_slice HO_3.out
                subst eo26
                go_wp2_with (first | ((with_reducible refine gate_callee (f := 8) rfl ?_); refine goesL_ (some 29) rfl rfl Tryd.func8 (by kernel_rfl) rfl #[.slice Ao26 t189.length co26, .string (⟨#[32]⟩ : ByteArray)] rfl (by (try simp only [List.map_toArray, List.map_cons, List.map_nil]); first | done | rfl | (simp only [List.length_drop, List.length_take]; rfl)) ?_; (with_reducible refine (quaysidelaw16_put.calls kj5 _ _ t189 (⟨#[32]⟩ : ByteArray) t195 _ ?side1 ?side2 A13.out).mono ?_); (case side1 => repeat (first | exact (Kd.R_reads' HO_3.out).2.2 | (with_reducible refine Kd.C_alloc ?_ _) | (with_reducible refine Kd.C_drewN ?_ _) | (with_reducible refine Kd.C_drew ?_))); (case side2 => exact (Kd.R_reads' HO_3.out).2.1); rintro e w27 ⟨rfl, hb⟩; refine ⟨_, rfl, ?_⟩; have n0_ := Aside0.mk (Kd.R_below (by (with_reducible repeat (first | apply Kd.R_alloc | apply Kd.R_drewN | apply Kd.R_drew)); exact HO_3.out) hb); have n1_ := Aside0.mk (below_step (by repeat (first | (with_reducible first | exact HB.out | apply below_alloc | apply pw_below_drewN | apply below_drew1) | exact HB.out)) hb); clear HO_3; clear HB; have HO_3 := n0_; have HB := n1_; clear n0_ n1_; (try clear hb); (try clear hb2); (try clear hk); (try clear hi)) | ((with_reducible refine gate_callee (f := 7) rfl ?_); refine goesL_ (some 32) rfl rfl Tryd.func7 (by kernel_rfl) rfl #[.string t195] rfl (by (try simp only [List.map_toArray, List.map_cons, List.map_nil]); first | done | rfl | (simp only [List.length_drop, List.length_take]; rfl)) ?_; (with_reducible refine (lex_Tokens.calls kj5 t195 t196 t197 t198 _ A14.out).mono ?_); rintro e w28 ⟨v199, rfl, ho0, hb⟩; refine ⟨_, rfl, ?_⟩; have n0_ := Aside0.mk (Kd.R_elder' (by (with_reducible repeat (first | apply Kd.R_alloc | apply Kd.R_drewN | apply Kd.R_drew)); exact HO_3.out) (Kd.R_base ho0) hb); have n1_ := Aside0.mk (Kd.R_lower (Kd.R_new' ho0 (Kd.R_lt (by (with_reducible repeat (first | apply Kd.R_alloc | apply Kd.R_drewN | apply Kd.R_drew)); exact HO_3.out))) (below_size (by repeat (first | (with_reducible first | exact HB.out | apply below_alloc | apply pw_below_drewN | apply below_drew1) | exact HB.out)))); have n2_ := Aside0.mk (below_step (by repeat (first | (with_reducible first | exact HB.out | apply below_alloc | apply pw_below_drewN | apply below_drew1) | exact HB.out)) hb); clear HO_3; clear HB; have HO_3 := n0_; have HO200 := n1_; have HB := n2_; clear n0_ n1_ n2_; (try clear hb); (try clear hb2); (try clear hk); (try clear hi); (try clear ho0); obtain ⟨Ao29, co29, eo29⟩ := Kd.R_slice HO200.out; subst eo29) | (go_at_call 9; (with_reducible refine (quaysideref16_Same.calls kj5 _ _ t189 _ _ t196 false _ ?side1 ?side2 ?side3 ?side4 A16.out).mono ?_); (case side1 => repeat (first | exact (Kd.R_reads' HO_3.out).2.2 | (with_reducible refine Kd.C_alloc ?_ _) | (with_reducible refine Kd.C_drewN ?_ _) | (with_reducible refine Kd.C_drew ?_))); (case side2 => exact (Kd.R_reads' HO_3.out).2.1); (case side3 => repeat (first | exact (Kd.R_reads' HO200.out).2.2 | (with_reducible refine Kd.C_alloc ?_ _) | (with_reducible refine Kd.C_drewN ?_ _) | (with_reducible refine Kd.C_drew ?_))); (case side4 => exact (Kd.R_reads' HO200.out).2.1); rintro e w' ⟨rfl, ⟨nd, rfl⟩⟩) | (go_at_call 6; (with_reducible refine (quaysidelaw16_awake.calls kj5  t203 _ A25.out).mono ?_); rintro e w30 ⟨rfl, hb⟩; have n0_ := Aside0.mk (Kd.R_below (by (with_reducible repeat (first | apply Kd.R_alloc | apply Kd.R_drewN | apply Kd.R_drew)); exact HO_3.out) hb); have n1_ := Aside0.mk (Kd.R_below (by (with_reducible repeat (first | apply Kd.R_alloc | apply Kd.R_drewN | apply Kd.R_drew)); exact HO200.out) hb); have n2_ := Aside0.mk (below_step (by repeat (first | (with_reducible first | exact HB.out | apply below_alloc | apply pw_below_drewN | apply below_drew1) | exact HB.out)) hb); clear HO_3; clear HO200; clear HB; have HO_3 := n0_; have HO200 := n1_; have HB := n2_; clear n0_ n1_ n2_; (try clear hb); (try clear hb2); (try clear hk); (try clear hi)))
                go_ret
                exact ⟨by first | rfl | (simp [errW_none, errW_some] <;> rfl) | (simp [*, errW_none, errW_some] <;> rfl), by repeat (first | (with_reducible first | exact HB.out | apply below_alloc | apply pw_below_drewN | apply below_drew1) | exact HB.out)⟩
              · rw [if_neg c24] at H
                have c24b0 : decide (4096 < (t195.size : Int)) = false := decide_eq_false c24
                have c24b1 : decide (4096 < t195.size) = false := decide_eq_false (by omega)
                clear c24
                exact absurd (H.trans (congrArg some hrt.out)) (by simp)
          · rw [if_neg c15] at H
            have c15b0 : (t198 == 0) = false := beq_eq_false_iff_ne.mpr c15
            have c15b1 : (t198 != 0) = true := bne_iff_ne.mpr c15
            by_cases c31 : (t195.size : Int) > 4096
            · rw [if_pos c31] at H
              have c31b0 : decide (4096 < (t195.size : Int)) = true := decide_eq_true c31
              have c31b1 : decide (4096 < t195.size) = true := decide_eq_true (by omega)
              clear c31
              replace H := Option.bind_eq_some_iff.mp H
              obtain ⟨t204, A320, H⟩ := H
              replace H : (some t204) = some r := H
              have A32 := Aside0.mk A320
              clear A320
              obtain rfl := Option.some.inj H
              obtain ⟨Ao33, co33, eo33⟩ := Kd.R_slice HO_3.out
              subst eo33
              go_wp2_with (first | ((with_reducible refine gate_callee (f := 8) rfl ?_); refine goesL_ (some 29) rfl rfl Tryd.func8 (by kernel_rfl) rfl #[.slice Ao33 t189.length co33, .string (⟨#[32]⟩ : ByteArray)] rfl (by (try simp only [List.map_toArray, List.map_cons, List.map_nil]); first | done | rfl | (simp only [List.length_drop, List.length_take]; rfl)) ?_; (with_reducible refine (quaysidelaw16_put.calls kj5 _ _ t189 (⟨#[32]⟩ : ByteArray) t195 _ ?side1 ?side2 A13.out).mono ?_); (case side1 => repeat (first | exact (Kd.R_reads' HO_3.out).2.2 | (with_reducible refine Kd.C_alloc ?_ _) | (with_reducible refine Kd.C_drewN ?_ _) | (with_reducible refine Kd.C_drew ?_))); (case side2 => exact (Kd.R_reads' HO_3.out).2.1); rintro e w34 ⟨rfl, hb⟩; refine ⟨_, rfl, ?_⟩; have n0_ := Aside0.mk (Kd.R_below (by (with_reducible repeat (first | apply Kd.R_alloc | apply Kd.R_drewN | apply Kd.R_drew)); exact HO_3.out) hb); have n1_ := Aside0.mk (below_step (by repeat (first | (with_reducible first | exact HB.out | apply below_alloc | apply pw_below_drewN | apply below_drew1) | exact HB.out)) hb); clear HO_3; clear HB; have HO_3 := n0_; have HB := n1_; clear n0_ n1_; (try clear hb); (try clear hb2); (try clear hk); (try clear hi)) | ((with_reducible refine gate_callee (f := 7) rfl ?_); refine goesL_ (some 32) rfl rfl Tryd.func7 (by kernel_rfl) rfl #[.string t195] rfl (by (try simp only [List.map_toArray, List.map_cons, List.map_nil]); first | done | rfl | (simp only [List.length_drop, List.length_take]; rfl)) ?_; (with_reducible refine (lex_Tokens.calls kj5 t195 t196 t197 t198 _ A14.out).mono ?_); rintro e w35 ⟨v199, rfl, ho0, hb⟩; refine ⟨_, rfl, ?_⟩; have n0_ := Aside0.mk (Kd.R_elder' (by (with_reducible repeat (first | apply Kd.R_alloc | apply Kd.R_drewN | apply Kd.R_drew)); exact HO_3.out) (Kd.R_base ho0) hb); have n1_ := Aside0.mk (Kd.R_lower (Kd.R_new' ho0 (Kd.R_lt (by (with_reducible repeat (first | apply Kd.R_alloc | apply Kd.R_drewN | apply Kd.R_drew)); exact HO_3.out))) (below_size (by repeat (first | (with_reducible first | exact HB.out | apply below_alloc | apply pw_below_drewN | apply below_drew1) | exact HB.out)))); have n2_ := Aside0.mk (below_step (by repeat (first | (with_reducible first | exact HB.out | apply below_alloc | apply pw_below_drewN | apply below_drew1) | exact HB.out)) hb); clear HO_3; clear HB; have HO_3 := n0_; have HO200 := n1_; have HB := n2_; clear n0_ n1_ n2_; (try clear hb); (try clear hb2); (try clear hk); (try clear hi); (try clear ho0)) | (go_at_call 6; (with_reducible refine (quaysidelaw16_awake.calls kj5  t204 _ A32.out).mono ?_); rintro e w36 ⟨rfl, hb⟩; have n0_ := Aside0.mk (Kd.R_below (by (with_reducible repeat (first | apply Kd.R_alloc | apply Kd.R_drewN | apply Kd.R_drew)); exact HO_3.out) hb); have n1_ := Aside0.mk (Kd.R_below (by (with_reducible repeat (first | apply Kd.R_alloc | apply Kd.R_drewN | apply Kd.R_drew)); exact HO200.out) hb); have n2_ := Aside0.mk (below_step (by repeat (first | (with_reducible first | exact HB.out | apply below_alloc | apply pw_below_drewN | apply below_drew1) | exact HB.out)) hb); clear HO_3; clear HO200; clear HB; have HO_3 := n0_; have HO200 := n1_; have HB := n2_; clear n0_ n1_ n2_; (try clear hb); (try clear hb2); (try clear hk); (try clear hi)))
              go_ret
              exact ⟨by first | rfl | (simp [errW_none, errW_some] <;> rfl) | (simp [*, errW_none, errW_some] <;> rfl), by repeat (first | (with_reducible first | exact HB.out | apply below_alloc | apply pw_below_drewN | apply below_drew1) | exact HB.out)⟩
            · rw [if_neg c31] at H
              have c31b0 : decide (4096 < (t195.size : Int)) = false := decide_eq_false c31
              have c31b1 : decide (4096 < t195.size) = false := decide_eq_false (by omega)
              clear c31
              exact absurd (H.trans (congrArg some hrt.out)) (by simp)

/-- THE ONE PURE STATEMENT of quaysidelaw16_LexBack: yours. -/
def quaysidelaw16_LexBack.Pure : Prop := ∀ (a0 : ByteArray), a0.size ≤ 140737488351232 → ∃ k, quaysidelaw16_LexBack.f k a0 = some true
theorem quaysidelaw16_LexBack.walk (P : quaysidelaw16_LexBack.Pure) (a0 : ByteArray) (w : World) (w0 : a0.size ≤ 140737488351232) (hML : ML w) :
    Calls Tryd.prog 3 #[.string a0] w fun e w' => e = .returned (.bool true) ∧ Below w.heap.size w w' := by
  obtain ⟨k, h⟩ := P a0 w0
  refine (quaysidelaw16_LexBack.calls k a0 true w h).mono ?_
  rintro e w' ⟨rfl, hd⟩
  exact ⟨rfl, hd⟩

end Go.Proofs.YtbmlpbgddlgdkaaDoor.Lx
