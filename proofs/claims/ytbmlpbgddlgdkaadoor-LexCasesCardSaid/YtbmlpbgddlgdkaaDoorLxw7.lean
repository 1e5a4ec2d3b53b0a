/- Functions of the seat as plain Lean functions, each with a proof that the call answers what the function tells; written by a program of this work. No condition beyond those that each theorem names. -/
import Derived.Test.YtbmlpbgddlgdkaaDoorLxx0
import Derived.Test.YtbmlpbgddlgdkaaDoorLxx1
import Derived.Test.YtbmlpbgddlgdkaaDoorLxx3
import Derived.Test.YtbmlpbgddlgdkaaDoorLxx5
import Derived.Test.YtbmlpbgddlgdkaaDoorLxx6
namespace Go.Proofs.YtbmlpbgddlgdkaaDoor.Lx
open Go.RowKit Go.Proofs.YtbmlpbgddlgdkaaDoorW.PrintWords Go.Proofs.YtbmlpbgddlgdkaaDoorW.PrintLast Go.Proofs.YtbmlpbgddlgdkaaDoorW.PrintMore
attribute [local go_sem] max2_int min2_int max_two min_two max_three min_three max_four min_four   -- for this text's walks alone
set_option linter.unusedVariables false
set_option linter.unusedSimpArgs false

attribute [local go_sem high] eqA33
/-! ### quaysidelaw16_awake: function 6 -/
def quaysidelaw16_awake.f (k : Nat)  : Option (Bool) := (lex_Tokens.f k (⟨#[115, 101, 108, 101, 99, 116, 32, 97, 46, 98, 32, 62, 61, 32, 51, 32, 45, 45, 32, 120]⟩ : ByteArray)).bind fun bt167 => (if bt167.2.2 = 0 then (if (bt167.1.length : Int) = 7 then (if 0 < (bt167.1.length : Int) then (if (((rd_T33 bt167.1 0).f0) == 2 && ((((rd_T33 bt167.1 0).f1).toList) == ([83, 69, 76, 69, 67, 84] : List UInt8) && (((rd_T33 bt167.1 0).f2) == 0 && (((rd_T33 bt167.1 0).f3) == 0)))) = true then (if 1 < (bt167.1.length : Int) then (if (((rd_T33 bt167.1 1).f0) == 1 && ((((rd_T33 bt167.1 1).f1).toList) == ([97] : List UInt8) && (((rd_T33 bt167.1 1).f2) == 0 && (((rd_T33 bt167.1 1).f3) == 7)))) = true then (if 4 < (bt167.1.length : Int) then (if ((rd_T33 bt167.1 4).f1).toList = ([62, 61] : List UInt8) then (if 5 < (bt167.1.length : Int) then (if ((rd_T33 bt167.1 5).f2) = 3 then (if 6 < (bt167.1.length : Int) then (if ((rd_T33 bt167.1 6).f3) = 20 then ((lex_Key.f k (⟨#[70, 82, 79, 77]⟩ : ByteArray)).bind fun t177 => (if t177 = true then ((lex_Word.f k (⟨#[97]⟩ : ByteArray)).bind fun t178 => (if t178 = true then ((lex_Put.f k 1 (⟨#[102, 114, 111, 109]⟩ : ByteArray) 0 0).bind fun t179 => (some (t179.toList == ([34, 102, 114, 111, 109, 34] : List UInt8)))) else (some false))) else (some false))) else (some false)) else (none)) else (some false)) else (none)) else (some false)) else (none)) else (some false)) else (none)) else (some false)) else (none)) else (some false)) else (some false))
theorem quaysidelaw16_awake.mono : ∀ k, LeO (quaysidelaw16_awake.f k ) (quaysidelaw16_awake.f (k + 1) ) := by
  intro  k
  unfold quaysidelaw16_awake.f
  repeat' first
      | (with_reducible exact lex_Key.mono _ _)
      | (with_reducible exact lex_Put.mono _ _ _ _ _)
      | (with_reducible exact lex_Tokens.mono _ _)
      | (with_reducible exact lex_Word.mono _ _)
      | (with_reducible exact LeO.refl _)
      | (with_reducible exact LeO.none _)
      | (with_reducible refine LeO.ite ?_ ?_)
      | (with_reducible refine LeO.bind ?_ (fun _ => ?_))
      | exact lex_Key.mono _ _
      | exact lex_Put.mono _ _ _ _ _
      | exact lex_Tokens.mono _ _
      | exact lex_Word.mono _ _
      | exact LeO.none _
      | refine LeO.ite ?_ ?_
      | refine LeO.bind ?_ (fun _ => ?_)
set_option maxHeartbeats 8000000 in
set_option maxRecDepth 100000 in
theorem quaysidelaw16_awake.calls (k : Nat)  (r : Bool) (w : World) (h : quaysidelaw16_awake.f k  = some r) (hrt : Aside0 (r = true) := by first | exact ⟨rfl⟩ | exact hrt) (hML : ML w := by first | exact hML | exact ML.below HB.out hML | exact ML.below (by repeat (first | exact HB.out | apply below_alloc | apply pw_below_drewN | apply below_drew1 | exact Below.refl _ _)) hML) :
    Calls Tryd.prog 6 #[] w fun e w' => e = .returned (.bool r) ∧ Below w.heap.size w w' := by
  have hu33 := Tryd.underlying33
  have HB := Aside0.mk (Below.refl w.heap.size w)
  have H : ((lex_Tokens.f k (⟨#[115, 101, 108, 101, 99, 116, 32, 97, 46, 98, 32, 62, 61, 32, 51, 32, 45, 45, 32, 120]⟩ : ByteArray)).bind fun bt167 => (if bt167.2.2 = 0 then (if (bt167.1.length : Int) = 7 then (if 0 < (bt167.1.length : Int) then (if (((rd_T33 bt167.1 0).f0) == 2 && ((((rd_T33 bt167.1 0).f1).toList) == ([83, 69, 76, 69, 67, 84] : List UInt8) && (((rd_T33 bt167.1 0).f2) == 0 && (((rd_T33 bt167.1 0).f3) == 0)))) = true then (if 1 < (bt167.1.length : Int) then (if (((rd_T33 bt167.1 1).f0) == 1 && ((((rd_T33 bt167.1 1).f1).toList) == ([97] : List UInt8) && (((rd_T33 bt167.1 1).f2) == 0 && (((rd_T33 bt167.1 1).f3) == 7)))) = true then (if 4 < (bt167.1.length : Int) then (if ((rd_T33 bt167.1 4).f1).toList = ([62, 61] : List UInt8) then (if 5 < (bt167.1.length : Int) then (if ((rd_T33 bt167.1 5).f2) = 3 then (if 6 < (bt167.1.length : Int) then (if ((rd_T33 bt167.1 6).f3) = 20 then ((lex_Key.f k (⟨#[70, 82, 79, 77]⟩ : ByteArray)).bind fun t177 => (if t177 = true then ((lex_Word.f k (⟨#[97]⟩ : ByteArray)).bind fun t178 => (if t178 = true then ((lex_Put.f k 1 (⟨#[102, 114, 111, 109]⟩ : ByteArray) 0 0).bind fun t179 => (some (t179.toList == ([34, 102, 114, 111, 109, 34] : List UInt8)))) else (some false))) else (some false))) else (some false)) else (none)) else (some false)) else (none)) else (some false)) else (none)) else (some false)) else (none)) else (some false)) else (none)) else (some false)) else (some false))) = some r := h
  clear h
  replace H := Option.bind_eq_some_iff.mp H
  obtain ⟨⟨t167, t168, t169⟩, A10, H⟩ := H
  replace H : (if t169 = 0 then (if (t167.length : Int) = 7 then (if 0 < (t167.length : Int) then (if (((rd_T33 t167 0).f0) == 2 && ((((rd_T33 t167 0).f1).toList) == ([83, 69, 76, 69, 67, 84] : List UInt8) && (((rd_T33 t167 0).f2) == 0 && (((rd_T33 t167 0).f3) == 0)))) = true then (if 1 < (t167.length : Int) then (if (((rd_T33 t167 1).f0) == 1 && ((((rd_T33 t167 1).f1).toList) == ([97] : List UInt8) && (((rd_T33 t167 1).f2) == 0 && (((rd_T33 t167 1).f3) == 7)))) = true then (if 4 < (t167.length : Int) then (if ((rd_T33 t167 4).f1).toList = ([62, 61] : List UInt8) then (if 5 < (t167.length : Int) then (if ((rd_T33 t167 5).f2) = 3 then (if 6 < (t167.length : Int) then (if ((rd_T33 t167 6).f3) = 20 then ((lex_Key.f k (⟨#[70, 82, 79, 77]⟩ : ByteArray)).bind fun t177 => (if t177 = true then ((lex_Word.f k (⟨#[97]⟩ : ByteArray)).bind fun t178 => (if t178 = true then ((lex_Put.f k 1 (⟨#[102, 114, 111, 109]⟩ : ByteArray) 0 0).bind fun t179 => (some (t179.toList == ([34, 102, 114, 111, 109, 34] : List UInt8)))) else (some false))) else (some false))) else (some false)) else (none)) else (some false)) else (none)) else (some false)) else (none)) else (some false)) else (none)) else (some false)) else (none)) else (some false)) else (some false)) = some r := H
  have A1 := Aside0.mk A10
  clear A10
  by_cases c2 : t169 = 0
  · rw [if_pos c2] at H
    have c2b0 : (t169 == 0) = true := beq_iff_eq.mpr c2
    have c2b1 : (t169 != 0) = false := bne_eq_false_iff_eq.mpr c2
    clear c2
    by_cases c3 : (t167.length : Int) = 7
    · rw [if_pos c3] at H
      have c3b0 : ((t167.length : Int) == 7) = true := beq_iff_eq.mpr c3
      have c3b1 : ((t167.length : Int) != 7) = false := bne_eq_false_iff_eq.mpr c3
      clear c3
      by_cases c4 : 0 < (t167.length : Int)
      · rw [if_pos c4] at H
        have c4b0 : decide (0 < (t167.length : Int)) = true := decide_eq_true c4
        have c4b1 : decide (0 < t167.length) = true := decide_eq_true (by omega)
        clear c4
        by_cases c5 : (((rd_T33 t167 0).f0) == 2 && ((((rd_T33 t167 0).f1).toList) == ([83, 69, 76, 69, 67, 84] : List UInt8) && (((rd_T33 t167 0).f2) == 0 && (((rd_T33 t167 0).f3) == 0)))) = true
        · rw [if_pos c5] at H
          have c5b0 : (((rd_T33 t167 0).f0) == 2 && ((((rd_T33 t167 0).f1).toList) == ([83, 69, 76, 69, 67, 84] : List UInt8) && (((rd_T33 t167 0).f2) == 0 && (((rd_T33 t167 0).f3) == 0)))) = true := c5
          (try (have c5b1 : decide (((rd_T33 t167 0).f0) = 2 && ((((rd_T33 t167 0).f1).toList) == ([83, 69, 76, 69, 67, 84] : List UInt8) && (((rd_T33 t167 0).f2) == 0 && (((rd_T33 t167 0).f3) == 0)))) = true := by simpa using c5))
          (try (have c5b2 : (((rd_T33 t167 0).f0) == 2 && ((((rd_T33 t167 0).f1).toList) == ([83, 69, 76, 69, 67, 84] : List UInt8) && (((rd_T33 t167 0).f2) == 0 && (((rd_T33 t167 0).f3) == 0)))) = true := by simpa using c5))
          clear c5
          by_cases c6 : 1 < (t167.length : Int)
          · rw [if_pos c6] at H
            have c6b0 : decide (1 < (t167.length : Int)) = true := decide_eq_true c6
            have c6b1 : decide (1 < t167.length) = true := decide_eq_true (by omega)
            clear c6
            by_cases c7 : (((rd_T33 t167 1).f0) == 1 && ((((rd_T33 t167 1).f1).toList) == ([97] : List UInt8) && (((rd_T33 t167 1).f2) == 0 && (((rd_T33 t167 1).f3) == 7)))) = true
            · rw [if_pos c7] at H
              have c7b0 : (((rd_T33 t167 1).f0) == 1 && ((((rd_T33 t167 1).f1).toList) == ([97] : List UInt8) && (((rd_T33 t167 1).f2) == 0 && (((rd_T33 t167 1).f3) == 7)))) = true := c7
              (try (have c7b1 : decide (((rd_T33 t167 1).f0) = 1 && ((((rd_T33 t167 1).f1).toList) == ([97] : List UInt8) && (((rd_T33 t167 1).f2) == 0 && (((rd_T33 t167 1).f3) == 7)))) = true := by simpa using c7))
              (try (have c7b2 : (((rd_T33 t167 1).f0) == 1 && ((((rd_T33 t167 1).f1).toList) == ([97] : List UInt8) && (((rd_T33 t167 1).f2) == 0 && (((rd_T33 t167 1).f3) == 7)))) = true := by simpa using c7))
              clear c7
              by_cases c8 : 4 < (t167.length : Int)
              · rw [if_pos c8] at H
                have c8b0 : decide (4 < (t167.length : Int)) = true := decide_eq_true c8
                have c8b1 : decide (4 < t167.length) = true := decide_eq_true (by omega)
                clear c8
                by_cases c9 : ((rd_T33 t167 4).f1).toList = ([62, 61] : List UInt8)
                · rw [if_pos c9] at H
                  have c9b0 : (((rd_T33 t167 4).f1).toList == ([62, 61] : List UInt8)) = true := beq_iff_eq.mpr c9
                  have c9b1 : (((rd_T33 t167 4).f1).toList != ([62, 61] : List UInt8)) = false := bne_eq_false_iff_eq.mpr c9
                  clear c9
                  by_cases c10 : 5 < (t167.length : Int)
                  · rw [if_pos c10] at H
                    have c10b0 : decide (5 < (t167.length : Int)) = true := decide_eq_true c10
                    have c10b1 : decide (5 < t167.length) = true := decide_eq_true (by omega)
                    clear c10
                    by_cases c11 : ((rd_T33 t167 5).f2) = 3
                    · rw [if_pos c11] at H
                      have c11b0 : (((rd_T33 t167 5).f2) == 3) = true := beq_iff_eq.mpr c11
                      have c11b1 : (((rd_T33 t167 5).f2) != 3) = false := bne_eq_false_iff_eq.mpr c11
                      clear c11
                      by_cases c12 : 6 < (t167.length : Int)
                      · rw [if_pos c12] at H
                        have c12b0 : decide (6 < (t167.length : Int)) = true := decide_eq_true c12
                        have c12b1 : decide (6 < t167.length) = true := decide_eq_true (by omega)
                        clear c12
                        by_cases c13 : ((rd_T33 t167 6).f3) = 20
                        · rw [if_pos c13] at H
                          have c13b0 : (((rd_T33 t167 6).f3) == 20) = true := beq_iff_eq.mpr c13
                          have c13b1 : (((rd_T33 t167 6).f3) != 20) = false := bne_eq_false_iff_eq.mpr c13
                          clear c13
                          replace H := Option.bind_eq_some_iff.mp H
                          obtain ⟨t177, A140, H⟩ := H
                          replace H : (if t177 = true then ((lex_Word.f k (⟨#[97]⟩ : ByteArray)).bind fun t178 => (if t178 = true then ((lex_Put.f k 1 (⟨#[102, 114, 111, 109]⟩ : ByteArray) 0 0).bind fun t179 => (some (t179.toList == ([34, 102, 114, 111, 109, 34] : List UInt8)))) else (some false))) else (some false)) = some r := H
                          have A14 := Aside0.mk A140
                          clear A140
                          by_cases c15 : t177 = true
                          · subst c15
                            have H1 : ((lex_Word.f k (⟨#[97]⟩ : ByteArray)).bind fun t178 => (if t178 = true then ((lex_Put.f k 1 (⟨#[102, 114, 111, 109]⟩ : ByteArray) 0 0).bind fun t179 => (some (t179.toList == ([34, 102, 114, 111, 109, 34] : List UInt8)))) else (some false))) = some r := by rw [if_pos rfl] at H; exact H
                            clear H
                            have H := H1
                            clear H1
                            replace H := Option.bind_eq_some_iff.mp H
                            obtain ⟨t178, A160, H⟩ := H
                            replace H : (if t178 = true then ((lex_Put.f k 1 (⟨#[102, 114, 111, 109]⟩ : ByteArray) 0 0).bind fun t179 => (some (t179.toList == ([34, 102, 114, 111, 109, 34] : List UInt8)))) else (some false)) = some r := H
                            have A16 := Aside0.mk A160
                            clear A160
                            by_cases c17 : t178 = true
                            · subst c17
                              have H1 : ((lex_Put.f k 1 (⟨#[102, 114, 111, 109]⟩ : ByteArray) 0 0).bind fun t179 => (some (t179.toList == ([34, 102, 114, 111, 109, 34] : List UInt8)))) = some r := by rw [if_pos rfl] at H; exact H
                              clear H
                              have H := H1
                              clear H1
                              replace H := Option.bind_eq_some_iff.mp H
                              obtain ⟨t179, A180, H⟩ := H
                              replace H : (some (t179.toList == ([34, 102, 114, 111, 109, 34] : List UInt8))) = some r := H
                              have A18 := Aside0.mk A180
                              clear A180
                              obtain rfl := Option.some.inj H
                              go_enter Tryd.func6, Tryd.ntmps6
                              go_wp2_with (first | ((with_reducible refine gate_callee (f := 7) rfl ?_); refine goesL_ (some 5) rfl rfl Tryd.func7 (by kernel_rfl) rfl #[.string (⟨#[115, 101, 108, 101, 99, 116, 32, 97, 46, 98, 32, 62, 61, 32, 51, 32, 45, 45, 32, 120]⟩ : ByteArray)] rfl (by (try simp only [List.map_toArray, List.map_cons, List.map_nil]); first | done | rfl | (simp only [List.length_drop, List.length_take]; rfl)) ?_; (with_reducible refine (lex_Tokens.calls k (⟨#[115, 101, 108, 101, 99, 116, 32, 97, 46, 98, 32, 62, 61, 32, 51, 32, 45, 45, 32, 120]⟩ : ByteArray) t167 t168 t169 _ A1.out).mono ?_); rintro e w19 ⟨v170, rfl, ho0, hb⟩; refine ⟨_, rfl, ?_⟩; have n0_ := Aside0.mk (Kd.R_lower ho0 (below_size (by repeat (first | (with_reducible first | exact HB.out | apply below_alloc | apply pw_below_drewN | apply below_drew1) | exact HB.out)))); have n1_ := Aside0.mk (below_step (by repeat (first | (with_reducible first | exact HB.out | apply below_alloc | apply pw_below_drewN | apply below_drew1) | exact HB.out)) hb); clear HB; have HO171 := n0_; have HB := n1_; clear n0_ n1_; (try clear hb); (try clear hb2); (try clear hk); (try clear hi); (try clear ho0); obtain ⟨Ao20, co20, eo20⟩ := Kd.R_slice HO171.out; subst eo20; have p172 : 0 ≤ (0 : Int) := (by omega); have q172 : 0 < (t167.length : Int) := of_decide_eq_true (by first | (with_reducible assumption) | assumption); obtain ⟨ad172, e172, hx172_0, hx172_1, hx172_2, hx172_3⟩ := at_T33 (Kd.R_reads' HO171.out).2.2 0 p172 q172; cases e172; have qi172 : (0 < t167.length) = True := eq_true (by omega); (try rw [show ((0 : Int)).toNat = 0 from rfl] at hx172_0); (try rw [show 0 * 4 = 0 from rfl] at hx172_0); (try rw [Addr.add_zero'] at hx172_0); (try rw [show ((0 : Int)).toNat = 0 from rfl] at hx172_1); (try rw [show 0 * 4 = 0 from rfl] at hx172_1); (try rw [Addr.add_zero'] at hx172_1); (try rw [show ((0 : Int)).toNat = 0 from rfl] at hx172_2); (try rw [show 0 * 4 = 0 from rfl] at hx172_2); (try rw [Addr.add_zero'] at hx172_2); (try rw [show ((0 : Int)).toNat = 0 from rfl] at hx172_3); (try rw [show 0 * 4 = 0 from rfl] at hx172_3); (try rw [Addr.add_zero'] at hx172_3); replace p172 := eq_true p172; replace q172 := eq_true q172; have p173 : 0 ≤ (1 : Int) := (by omega); have q173 : 1 < (t167.length : Int) := of_decide_eq_true (by first | (with_reducible assumption) | assumption); obtain ⟨ad173, e173, hx173_0, hx173_1, hx173_2, hx173_3⟩ := at_T33 (Kd.R_reads' HO171.out).2.2 1 p173 q173; obtain rfl : ad172 = ad173 := (by injection e173); (try simp only [show (1 : Int).toNat = 1 from rfl, Nat.reduceMul, Nat.reduceEqDiff, Go.Addr.add, ↓reduceIte] at hx173_0); (try simp only [show (1 : Int).toNat = 1 from rfl, Nat.reduceMul, Nat.reduceEqDiff, Go.Addr.add, ↓reduceIte] at hx173_1); (try simp only [show (1 : Int).toNat = 1 from rfl, Nat.reduceMul, Nat.reduceEqDiff, Go.Addr.add, ↓reduceIte] at hx173_2); (try simp only [show (1 : Int).toNat = 1 from rfl, Nat.reduceMul, Nat.reduceEqDiff, Go.Addr.add, ↓reduceIte] at hx173_3); have qi173 : (1 < t167.length) = True := eq_true (by omega); (try rw [show ((1 : Int)).toNat = 1 from rfl] at hx173_0); (try rw [show 1 * 4 = 4 from rfl] at hx173_0); (try rw [show ((1 : Int)).toNat = 1 from rfl] at hx173_1); (try rw [show 1 * 4 = 4 from rfl] at hx173_1); (try rw [show ((1 : Int)).toNat = 1 from rfl] at hx173_2); (try rw [show 1 * 4 = 4 from rfl] at hx173_2); (try rw [show ((1 : Int)).toNat = 1 from rfl] at hx173_3); (try rw [show 1 * 4 = 4 from rfl] at hx173_3); replace p173 := eq_true p173; replace q173 := eq_true q173; have p174 : 0 ≤ (4 : Int) := (by omega); have q174 : 4 < (t167.length : Int) := of_decide_eq_true (by first | (with_reducible assumption) | assumption); obtain ⟨ad174, e174, hx174_0, hx174_1, hx174_2, hx174_3⟩ := at_T33 (Kd.R_reads' HO171.out).2.2 4 p174 q174; obtain rfl : ad172 = ad174 := (by injection e174); (try simp only [show (4 : Int).toNat = 4 from rfl, Nat.reduceMul, Nat.reduceEqDiff, Go.Addr.add, ↓reduceIte] at hx174_0); (try simp only [show (4 : Int).toNat = 4 from rfl, Nat.reduceMul, Nat.reduceEqDiff, Go.Addr.add, ↓reduceIte] at hx174_1); (try simp only [show (4 : Int).toNat = 4 from rfl, Nat.reduceMul, Nat.reduceEqDiff, Go.Addr.add, ↓reduceIte] at hx174_2); (try simp only [show (4 : Int).toNat = 4 from rfl, Nat.reduceMul, Nat.reduceEqDiff, Go.Addr.add, ↓reduceIte] at hx174_3); have qi174 : (4 < t167.length) = True := eq_true (by omega); (try rw [show ((4 : Int)).toNat = 4 from rfl] at hx174_0); (try rw [show 4 * 4 = 16 from rfl] at hx174_0); (try rw [show ((4 : Int)).toNat = 4 from rfl] at hx174_1); (try rw [show 4 * 4 = 16 from rfl] at hx174_1); (try rw [show ((4 : Int)).toNat = 4 from rfl] at hx174_2); (try rw [show 4 * 4 = 16 from rfl] at hx174_2); (try rw [show ((4 : Int)).toNat = 4 from rfl] at hx174_3); (try rw [show 4 * 4 = 16 from rfl] at hx174_3); replace p174 := eq_true p174; replace q174 := eq_true q174; have p175 : 0 ≤ (5 : Int) := (by omega); have q175 : 5 < (t167.length : Int) := of_decide_eq_true (by first | (with_reducible assumption) | assumption); obtain ⟨ad175, e175, hx175_0, hx175_1, hx175_2, hx175_3⟩ := at_T33 (Kd.R_reads' HO171.out).2.2 5 p175 q175; obtain rfl : ad172 = ad175 := (by injection e175); (try simp only [show (5 : Int).toNat = 5 from rfl, Nat.reduceMul, Nat.reduceEqDiff, Go.Addr.add, ↓reduceIte] at hx175_0); (try simp only [show (5 : Int).toNat = 5 from rfl, Nat.reduceMul, Nat.reduceEqDiff, Go.Addr.add, ↓reduceIte] at hx175_1); (try simp only [show (5 : Int).toNat = 5 from rfl, Nat.reduceMul, Nat.reduceEqDiff, Go.Addr.add, ↓reduceIte] at hx175_2); (try simp only [show (5 : Int).toNat = 5 from rfl, Nat.reduceMul, Nat.reduceEqDiff, Go.Addr.add, ↓reduceIte] at hx175_3); have qi175 : (5 < t167.length) = True := eq_true (by omega); (try rw [show ((5 : Int)).toNat = 5 from rfl] at hx175_0); (try rw [show 5 * 4 = 20 from rfl] at hx175_0); (try rw [show ((5 : Int)).toNat = 5 from rfl] at hx175_1); (try rw [show 5 * 4 = 20 from rfl] at hx175_1); (try rw [show ((5 : Int)).toNat = 5 from rfl] at hx175_2); (try rw [show 5 * 4 = 20 from rfl] at hx175_2); (try rw [show ((5 : Int)).toNat = 5 from rfl] at hx175_3); (try rw [show 5 * 4 = 20 from rfl] at hx175_3); replace p175 := eq_true p175; replace q175 := eq_true q175; have p176 : 0 ≤ (6 : Int) := (by omega); have q176 : 6 < (t167.length : Int) := of_decide_eq_true (by first | (with_reducible assumption) | assumption); obtain ⟨ad176, e176, hx176_0, hx176_1, hx176_2, hx176_3⟩ := at_T33 (Kd.R_reads' HO171.out).2.2 6 p176 q176; obtain rfl : ad172 = ad176 := (by injection e176); (try simp only [show (6 : Int).toNat = 6 from rfl, Nat.reduceMul, Nat.reduceEqDiff, Go.Addr.add, ↓reduceIte] at hx176_0); (try simp only [show (6 : Int).toNat = 6 from rfl, Nat.reduceMul, Nat.reduceEqDiff, Go.Addr.add, ↓reduceIte] at hx176_1); (try simp only [show (6 : Int).toNat = 6 from rfl, Nat.reduceMul, Nat.reduceEqDiff, Go.Addr.add, ↓reduceIte] at hx176_2); (try simp only [show (6 : Int).toNat = 6 from rfl, Nat.reduceMul, Nat.reduceEqDiff, Go.Addr.add, ↓reduceIte] at hx176_3); have qi176 : (6 < t167.length) = True := eq_true (by omega); (try rw [show ((6 : Int)).toNat = 6 from rfl] at hx176_0); (try rw [show 6 * 4 = 24 from rfl] at hx176_0); (try rw [show ((6 : Int)).toNat = 6 from rfl] at hx176_1); (try rw [show 6 * 4 = 24 from rfl] at hx176_1); (try rw [show ((6 : Int)).toNat = 6 from rfl] at hx176_2); (try rw [show 6 * 4 = 24 from rfl] at hx176_2); (try rw [show ((6 : Int)).toNat = 6 from rfl] at hx176_3); (try rw [show 6 * 4 = 24 from rfl] at hx176_3); replace p176 := eq_true p176; replace q176 := eq_true q176) | (go_at_call 10; (with_reducible refine (lex_Key.calls k (⟨#[70, 82, 79, 77]⟩ : ByteArray) true _ A14.out).mono ?_); rintro e w21 ⟨rfl, hb⟩; have n0_ := Aside0.mk (Kd.R_below (by (with_reducible repeat (first | apply Kd.R_alloc | apply Kd.R_drewN | apply Kd.R_drew)); exact HO171.out) hb); have n1_ := Aside0.mk (below_step (by repeat (first | (with_reducible first | exact HB.out | apply below_alloc | apply pw_below_drewN | apply below_drew1) | exact HB.out)) hb); clear HO171; clear HB; have HO171 := n0_; have HB := n1_; clear n0_ n1_; (try clear hb); (try clear hb2); (try clear hk); (try clear hi)) | (go_at_call 11; (with_reducible refine (lex_Word.calls k (⟨#[97]⟩ : ByteArray) true _ A16.out).mono ?_); rintro e w22 ⟨rfl, hb⟩; have n0_ := Aside0.mk (Kd.R_below (by (with_reducible repeat (first | apply Kd.R_alloc | apply Kd.R_drewN | apply Kd.R_drew)); exact HO171.out) hb); have n1_ := Aside0.mk (below_step (by repeat (first | (with_reducible first | exact HB.out | apply below_alloc | apply pw_below_drewN | apply below_drew1) | exact HB.out)) hb); clear HO171; clear HB; have HO171 := n0_; have HB := n1_; clear n0_ n1_; (try clear hb); (try clear hb2); (try clear hk); (try clear hi)) | (go_at_call 12; (with_reducible refine (lex_Put.calls k 1 (⟨#[102, 114, 111, 109]⟩ : ByteArray) 0 0 t179 _ A18.out).mono ?_); rintro e w23 ⟨rfl, hb⟩; have n0_ := Aside0.mk (Kd.R_below (by (with_reducible repeat (first | apply Kd.R_alloc | apply Kd.R_drewN | apply Kd.R_drew)); exact HO171.out) hb); have n1_ := Aside0.mk (below_step (by repeat (first | (with_reducible first | exact HB.out | apply below_alloc | apply pw_below_drewN | apply below_drew1) | exact HB.out)) hb); clear HO171; clear HB; have HO171 := n0_; have HB := n1_; clear n0_ n1_; (try clear hb); (try clear hb2); (try clear hk); (try clear hi)))
                              go_ret
                              exact ⟨by first | rfl | (simp [errW_none, errW_some] <;> rfl) | (simp [*, errW_none, errW_some] <;> rfl), by repeat (first | (with_reducible first | exact HB.out | apply below_alloc | apply pw_below_drewN | apply below_drew1) | exact HB.out)⟩
                            · replace c17 := Bool.eq_false_iff.mpr c17
                              subst c17
                              have H1 : (some false) = some r := by rw [if_neg (show ¬ (false = true) by decide)] at H; exact H
                              clear H
                              have H := H1
                              clear H1
                              exact absurd (H.trans (congrArg some hrt.out)) (by simp)
                          · replace c15 := Bool.eq_false_iff.mpr c15
                            subst c15
                            have H1 : (some false) = some r := by rw [if_neg (show ¬ (false = true) by decide)] at H; exact H
                            clear H
                            have H := H1
                            clear H1
                            exact absurd (H.trans (congrArg some hrt.out)) (by simp)
                        · rw [if_neg c13] at H
                          have c13b0 : (((rd_T33 t167 6).f3) == 20) = false := beq_eq_false_iff_ne.mpr c13
                          have c13b1 : (((rd_T33 t167 6).f3) != 20) = true := bne_iff_ne.mpr c13
                          exact absurd (H.trans (congrArg some hrt.out)) (by simp)
                      · rw [if_neg c12] at H
                        exact absurd H (by simp)
                    · rw [if_neg c11] at H
                      have c11b0 : (((rd_T33 t167 5).f2) == 3) = false := beq_eq_false_iff_ne.mpr c11
                      have c11b1 : (((rd_T33 t167 5).f2) != 3) = true := bne_iff_ne.mpr c11
                      exact absurd (H.trans (congrArg some hrt.out)) (by simp)
                  · rw [if_neg c10] at H
                    exact absurd H (by simp)
                · rw [if_neg c9] at H
                  have c9b0 : (((rd_T33 t167 4).f1).toList == ([62, 61] : List UInt8)) = false := beq_eq_false_iff_ne.mpr c9
                  have c9b1 : (((rd_T33 t167 4).f1).toList != ([62, 61] : List UInt8)) = true := bne_iff_ne.mpr c9
                  exact absurd (H.trans (congrArg some hrt.out)) (by simp)
              · rw [if_neg c8] at H
                exact absurd H (by simp)
            · rw [if_neg c7] at H
              have c7b0 : (((rd_T33 t167 1).f0) == 1 && ((((rd_T33 t167 1).f1).toList) == ([97] : List UInt8) && (((rd_T33 t167 1).f2) == 0 && (((rd_T33 t167 1).f3) == 7)))) = false := by simpa using c7
              (try (have c7b1 : decide (((rd_T33 t167 1).f0) = 1 && ((((rd_T33 t167 1).f1).toList) == ([97] : List UInt8) && (((rd_T33 t167 1).f2) == 0 && (((rd_T33 t167 1).f3) == 7)))) = false := by simpa using c7))
              (try (have c7b2 : (((rd_T33 t167 1).f0) == 1 && ((((rd_T33 t167 1).f1).toList) == ([97] : List UInt8) && (((rd_T33 t167 1).f2) == 0 && (((rd_T33 t167 1).f3) == 7)))) = false := by simpa using c7))
              (try (have c7b3 : ¬ (((rd_T33 t167 1).f0) = 1 && ((((rd_T33 t167 1).f1).toList) == ([97] : List UInt8) && (((rd_T33 t167 1).f2) == 0 && (((rd_T33 t167 1).f3) == 7)))) := by simpa using c7))
              clear c7
              exact absurd (H.trans (congrArg some hrt.out)) (by simp)
          · rw [if_neg c6] at H
            exact absurd H (by simp)
        · rw [if_neg c5] at H
          have c5b0 : (((rd_T33 t167 0).f0) == 2 && ((((rd_T33 t167 0).f1).toList) == ([83, 69, 76, 69, 67, 84] : List UInt8) && (((rd_T33 t167 0).f2) == 0 && (((rd_T33 t167 0).f3) == 0)))) = false := by simpa using c5
          (try (have c5b1 : decide (((rd_T33 t167 0).f0) = 2 && ((((rd_T33 t167 0).f1).toList) == ([83, 69, 76, 69, 67, 84] : List UInt8) && (((rd_T33 t167 0).f2) == 0 && (((rd_T33 t167 0).f3) == 0)))) = false := by simpa using c5))
          (try (have c5b2 : (((rd_T33 t167 0).f0) == 2 && ((((rd_T33 t167 0).f1).toList) == ([83, 69, 76, 69, 67, 84] : List UInt8) && (((rd_T33 t167 0).f2) == 0 && (((rd_T33 t167 0).f3) == 0)))) = false := by simpa using c5))
          (try (have c5b3 : ¬ (((rd_T33 t167 0).f0) = 2 && ((((rd_T33 t167 0).f1).toList) == ([83, 69, 76, 69, 67, 84] : List UInt8) && (((rd_T33 t167 0).f2) == 0 && (((rd_T33 t167 0).f3) == 0)))) := by simpa using c5))
          clear c5
          exact absurd (H.trans (congrArg some hrt.out)) (by simp)
      · rw [if_neg c4] at H
        exact absurd H (by simp)
    · rw [if_neg c3] at H
      have c3b0 : ((t167.length : Int) == 7) = false := beq_eq_false_iff_ne.mpr c3
      have c3b1 : ((t167.length : Int) != 7) = true := bne_iff_ne.mpr c3
      exact absurd (H.trans (congrArg some hrt.out)) (by simp)
  · rw [if_neg c2] at H
    have c2b0 : (t169 == 0) = false := beq_eq_false_iff_ne.mpr c2
    have c2b1 : (t169 != 0) = true := bne_iff_ne.mpr c2
    exact absurd (H.trans (congrArg some hrt.out)) (by simp)

end Go.Proofs.YtbmlpbgddlgdkaaDoor.Lx
