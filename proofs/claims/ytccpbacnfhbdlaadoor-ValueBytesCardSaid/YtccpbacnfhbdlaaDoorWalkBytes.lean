/- The call of the law ValueBytes, walked: it returns true where the plain functions tell what it asks. Conditions: those that 'BytesTrue' names. -/
import Derived.Test.YtccpbacnfhbdlaaDoorVax4
import Derived.Test.YtccpbacnfhbdlaaDoorVax6
import Derived.Test.YtccpbacnfhbdlaaDoorVax7
import Derived.Test.YtccpbacnfhbdlaaDoorVax8
namespace Go.Proofs.YtccpbacnfhbdlaaDoor.Va
open Go.RowKit Go.Proofs.YtccpbacnfhbdlaaDoorW.PrintWords Go.Proofs.YtccpbacnfhbdlaaDoorW.PrintLast Go.Proofs.YtccpbacnfhbdlaaDoorW.PrintMore
set_option linter.unusedVariables false
set_option linter.unusedSimpArgs false
/-- what the law asks of both sides -/
structure BytesMain (k : Nat) (l0 : List S23) (a1 a : ByteArray) (e : Int) (c : List S23) (g : Int) : Prop where
  put : value_Put.f k l0 = some (a, e)
  rput : quaysideref05_Put.f k l0 = some (a, e)
  take : value_Take.f k a1 = some (c, g)
  rtake : quaysideref05_Take.f k a1 = some (c, g)
  same : quaysideref05_Same.f k c c = some true
  back : e = 0 → value_Take.f k a = some (l0, 0) ∧ quaysideref05_Same.f k l0 l0 = some true
  forth : g = 0 → value_Put.f k c = some (a1, 0)
structure BytesTrue (k : Nat) (l0 : List S23) (a1 : ByteArray) : Prop where
  light : ∃ b, quaysidelaw05_light.f k [l0] = some b ∧ (b = true → a1.size ≤ 1024 → ∃ a e c g, BytesMain k l0 a1 a e c g)
  awake : quaysidelaw05_awake.f k = some true
theorem C_one {w : World} {A : Option Addr} {c : Nat} {l : List S23} (h : k23.C w A l.length l) (hc : l.length ≤ c) (T : TypeId) : (Kd.slice 23 k23).C (w.alloc (.cells #[.slice A l.length c] T)) (some ⟨w.heap.size, 0, none⟩) [l].length [l] := by
  refine ⟨rfl, by simp, fun _ => ⟨_, rfl, fun j p hj => ?_⟩⟩
  cases j with
  | succ j => simp at hj
  | zero =>
    obtain rfl : l = p := by simpa using hj
    refine ⟨[.slice A l.length c], rfl, ⟨A, c, rfl, hc, Kd.C_alloc h _⟩, fun i u hu => ?_⟩
    cases i with
    | succ i => simp at hu
    | zero =>
      simp at hu
      subst hu
      simp [World.cell?, World.alloc, Addr.add, -World.alloc_eq]
theorem C_low {w W : World} {A : Option Addr} {n : Nat} {l : List S23} (h : k23.C w A n l) (hb : Below w.heap.size w W) : k23.C W A n l := Kd.C_below h hb
set_option maxHeartbeats 8000000 in
set_option maxRecDepth 100000 in
theorem quaysidelaw05_ValueBytes.calls (k : Nat) (A0 : Option Addr) (c0 : Nat) (l0 : List S23) (a1 : ByteArray) (w : World) (hr0 : Kd.C k23 w A0 l0.length l0) (hc0 : l0.length ≤ c0) (h : BytesTrue k l0 a1) (hML : ML w) :
    Calls Tryd.prog 4 #[.slice A0 l0.length c0, .string a1] w fun e w' => e = .returned (.bool true) ∧ Below w.heap.size w w' := by
  obtain ⟨⟨b, hL, hmain⟩, hA⟩ := h
  have HL := Aside0.mk hL
  have HA := Aside0.mk hA
  have HR0 := Aside0.mk hr0
  have HC0 := Aside0.mk hc0
  have HC1 := Aside0.mk (C_one hr0 hc0 30)
  clear hL hA hr0 hc0
  cases b with
  | false =>
    clear hmain
    go_enter Tryd.func4, Tryd.ntmps4
    go_wp2_with fail
    refine (quaysidelaw05_light.calls k _ 1 [l0] false _ HC1.out (by simp) HL.out).mono ?_; rintro e w1 ⟨rfl, hd⟩; have HB : Aside0 (Below w.heap.size w w1) := ⟨by obtain ⟨nd, rfl⟩ := hd; exact pw_below_drewN (below_alloc (Below.refl _ _) _) _⟩; clear hd
    go_wp2_with fail
    refine (quaysidelaw05_awake.calls k true _ HA.out (hML := ML.below (HB.out) hML)).mono ?_; rintro e w9 ⟨rfl, hb⟩; have HB9 := Aside0.mk (below_step HB.out hb); clear hb
    go_wp2
    go_ret
    exact ⟨rfl, HB9.out⟩
  | true =>
    by_cases c1 : a1.size ≤ 1024
    case neg =>
      clear hmain
      have d0 : decide (1024 < (a1.size : Int)) = true := decide_eq_true (by omega)
      have d1 : decide (1024 < a1.size) = true := decide_eq_true (by omega)
      clear c1
      go_enter Tryd.func4, Tryd.ntmps4
      go_wp2_with fail
      refine (quaysidelaw05_light.calls k _ 1 [l0] true _ HC1.out (by simp) HL.out).mono ?_; rintro e w1 ⟨rfl, hd⟩; have HB : Aside0 (Below w.heap.size w w1) := ⟨by obtain ⟨nd, rfl⟩ := hd; exact pw_below_drewN (below_alloc (Below.refl _ _) _) _⟩; clear hd
      go_wp2_with fail
      refine (quaysidelaw05_awake.calls k true _ HA.out (hML := ML.below (HB.out) hML)).mono ?_; rintro e w9 ⟨rfl, hb⟩; have HB9 := Aside0.mk (below_step HB.out hb); clear hb
      go_wp2
      go_ret
      exact ⟨rfl, HB9.out⟩
    have d0 : decide (1024 < (a1.size : Int)) = false := decide_eq_false (by omega)
    have d1 : decide (1024 < a1.size) = false := decide_eq_false (by omega)
    obtain ⟨a, e, c, g, hm⟩ := hmain rfl c1
    have HM := Aside0.mk hm
    clear hmain hm c1
    have tail : ∀ W : World, Below w.heap.size w W → True := fun _ _ => trivial
    by_cases ce : e = 0
    case pos =>
      have e0 : (e == 0) = true := by simpa using ce
      have e1 : decide (e = 0) = true := by simpa using ce
      have HE := Aside0.mk (HM.out.back ce)
      clear ce
      by_cases cg : g = 0
      case pos =>
        have g0 : (g == 0) = true := by simpa using cg
        have g1 : decide (g = 0) = true := by simpa using cg
        have HG := Aside0.mk (HM.out.forth cg)
        clear cg tail
        go_enter Tryd.func4, Tryd.ntmps4
        go_wp2_with fail
        refine (quaysidelaw05_light.calls k _ 1 [l0] true _ HC1.out (by simp) HL.out).mono ?_; rintro e w1 ⟨rfl, hd⟩; have HB : Aside0 (Below w.heap.size w w1) := ⟨by obtain ⟨nd, rfl⟩ := hd; exact pw_below_drewN (below_alloc (Below.refl _ _) _) _⟩; clear hd
        go_wp2_with fail
        refine (value_Put.calls k _ _ l0 a e _ (C_low HR0.out HB.out) HC0.out HM.out.put).mono ?_; rintro e2 w2 ⟨rfl, hb⟩; have HB2 := Aside0.mk (below_step HB.out hb); clear hb HB
        go_wp2_with fail
        refine (quaysideref05_Put.calls k _ _ l0 a e _ (C_low HR0.out HB2.out) HC0.out HM.out.rput).mono ?_; rintro e3 w3 ⟨rfl, hb⟩; have HB3 := Aside0.mk (below_step HB2.out hb); clear hb HB2
        go_wp2_with fail
        refine (value_Take.calls k a1 c g _ HM.out.take).mono ?_; rintro e4 w4 ⟨v4, rfl, hR, hb⟩; have HB4 := Aside0.mk (below_step HB3.out hb); obtain ⟨A4, c4, rfl⟩ := Kd.R_slice hR; have K4 := Aside0.mk (Kd.R_reads' hR); clear hb HB3 hR
        go_wp2_with fail
        refine (quaysideref05_Take.calls k a1 c g _ HM.out.rtake).mono ?_; rintro e5 w5 ⟨v5, rfl, hR, hb⟩; have HB5 := Aside0.mk (below_step HB4.out hb); have K45 := Aside0.mk (Kd.C_below K4.out.2.2 hb); obtain ⟨A5, c5, rfl⟩ := Kd.R_slice hR; have K5 := Aside0.mk (Kd.R_reads' hR); clear hb HB4 hR
        go_wp2_with fail
        refine (quaysideref05_Same.calls k _ _ c _ _ c true _ K45.out K4.out.2.1 K5.out.2.2 K5.out.2.1 HM.out.same).mono ?_; rintro e6 w6 ⟨rfl, hd⟩; have HB : Aside0 (Below w.heap.size w w6) := ⟨by obtain ⟨nd, rfl⟩ := hd; exact pw_below_drewN HB5.out _⟩; have K6 : Aside0 (k23.C w6 A4 c.length c) := ⟨by obtain ⟨nd, rfl⟩ := hd; exact Kd.C_drewN K45.out _⟩; clear hd HB5 K5 K45
        go_wp2_with fail
        refine (value_Take.calls k a l0 0 _ HE.out.1).mono ?_; rintro e7 w7 ⟨v7, rfl, hR, hb⟩; have HB7 := Aside0.mk (below_step HB.out hb); have K7 := Aside0.mk (Kd.C_below K6.out hb); obtain ⟨A7, c7, rfl⟩ := Kd.R_slice hR; have Q7 := Aside0.mk (Kd.R_reads' hR); clear hb hR K6
        go_wp2_with fail
        refine (quaysideref05_Same.calls k _ _ l0 _ _ l0 true _ Q7.out.2.2 Q7.out.2.1 (C_low HR0.out HB7.out) HC0.out HE.out.2).mono ?_; rintro e8 w8 ⟨rfl, hd⟩; have HB8 : Aside0 (Below w.heap.size w w8) := ⟨by obtain ⟨nd, rfl⟩ := hd; exact pw_below_drewN HB7.out _⟩; have K6 : Aside0 (k23.C w8 A4 c.length c) := ⟨by obtain ⟨nd, rfl⟩ := hd; exact Kd.C_drewN K7.out _⟩; clear hd HB HB7 K7 Q7; have HB := HB8; clear HB8
        go_wp2_with fail
        refine (value_Put.calls k _ _ c a1 0 _ K6.out K4.out.2.1 HG.out).mono ?_; rintro e10 w10 ⟨rfl, hb⟩; have HB10 := Aside0.mk (below_step HB.out hb); clear hb HB; have HB := HB10; clear HB10
        go_wp2_with fail
        refine (quaysidelaw05_awake.calls k true _ HA.out (hML := ML.below (HB.out) hML)).mono ?_; rintro e w9 ⟨rfl, hb⟩; have HB9 := Aside0.mk (below_step HB.out hb); clear hb
        go_wp2
        go_ret
        exact ⟨rfl, HB9.out⟩
      case neg =>
        have g0 : (g == 0) = false := by simpa using cg
        have g1 : decide (g = 0) = false := by simpa using cg
        clear cg tail
        go_enter Tryd.func4, Tryd.ntmps4
        go_wp2_with fail
        refine (quaysidelaw05_light.calls k _ 1 [l0] true _ HC1.out (by simp) HL.out).mono ?_; rintro e w1 ⟨rfl, hd⟩; have HB : Aside0 (Below w.heap.size w w1) := ⟨by obtain ⟨nd, rfl⟩ := hd; exact pw_below_drewN (below_alloc (Below.refl _ _) _) _⟩; clear hd
        go_wp2_with fail
        refine (value_Put.calls k _ _ l0 a e _ (C_low HR0.out HB.out) HC0.out HM.out.put).mono ?_; rintro e2 w2 ⟨rfl, hb⟩; have HB2 := Aside0.mk (below_step HB.out hb); clear hb HB
        go_wp2_with fail
        refine (quaysideref05_Put.calls k _ _ l0 a e _ (C_low HR0.out HB2.out) HC0.out HM.out.rput).mono ?_; rintro e3 w3 ⟨rfl, hb⟩; have HB3 := Aside0.mk (below_step HB2.out hb); clear hb HB2
        go_wp2_with fail
        refine (value_Take.calls k a1 c g _ HM.out.take).mono ?_; rintro e4 w4 ⟨v4, rfl, hR, hb⟩; have HB4 := Aside0.mk (below_step HB3.out hb); obtain ⟨A4, c4, rfl⟩ := Kd.R_slice hR; have K4 := Aside0.mk (Kd.R_reads' hR); clear hb HB3 hR
        go_wp2_with fail
        refine (quaysideref05_Take.calls k a1 c g _ HM.out.rtake).mono ?_; rintro e5 w5 ⟨v5, rfl, hR, hb⟩; have HB5 := Aside0.mk (below_step HB4.out hb); have K45 := Aside0.mk (Kd.C_below K4.out.2.2 hb); obtain ⟨A5, c5, rfl⟩ := Kd.R_slice hR; have K5 := Aside0.mk (Kd.R_reads' hR); clear hb HB4 hR
        go_wp2_with fail
        refine (quaysideref05_Same.calls k _ _ c _ _ c true _ K45.out K4.out.2.1 K5.out.2.2 K5.out.2.1 HM.out.same).mono ?_; rintro e6 w6 ⟨rfl, hd⟩; have HB : Aside0 (Below w.heap.size w w6) := ⟨by obtain ⟨nd, rfl⟩ := hd; exact pw_below_drewN HB5.out _⟩; have K6 : Aside0 (k23.C w6 A4 c.length c) := ⟨by obtain ⟨nd, rfl⟩ := hd; exact Kd.C_drewN K45.out _⟩; clear hd HB5 K5 K45
        go_wp2_with fail
        refine (value_Take.calls k a l0 0 _ HE.out.1).mono ?_; rintro e7 w7 ⟨v7, rfl, hR, hb⟩; have HB7 := Aside0.mk (below_step HB.out hb); have K7 := Aside0.mk (Kd.C_below K6.out hb); obtain ⟨A7, c7, rfl⟩ := Kd.R_slice hR; have Q7 := Aside0.mk (Kd.R_reads' hR); clear hb hR K6
        go_wp2_with fail
        refine (quaysideref05_Same.calls k _ _ l0 _ _ l0 true _ Q7.out.2.2 Q7.out.2.1 (C_low HR0.out HB7.out) HC0.out HE.out.2).mono ?_; rintro e8 w8 ⟨rfl, hd⟩; have HB8 : Aside0 (Below w.heap.size w w8) := ⟨by obtain ⟨nd, rfl⟩ := hd; exact pw_below_drewN HB7.out _⟩; have K6 : Aside0 (k23.C w8 A4 c.length c) := ⟨by obtain ⟨nd, rfl⟩ := hd; exact Kd.C_drewN K7.out _⟩; clear hd HB HB7 K7 Q7; have HB := HB8; clear HB8
        go_wp2_with fail
        refine (quaysidelaw05_awake.calls k true _ HA.out (hML := ML.below (HB.out) hML)).mono ?_; rintro e w9 ⟨rfl, hb⟩; have HB9 := Aside0.mk (below_step HB.out hb); clear hb
        go_wp2
        go_ret
        exact ⟨rfl, HB9.out⟩
    case neg =>
      have e0 : (e == 0) = false := by simpa using ce
      have e1 : decide (e = 0) = false := by simpa using ce
      clear ce
      by_cases cg : g = 0
      case pos =>
        have g0 : (g == 0) = true := by simpa using cg
        have g1 : decide (g = 0) = true := by simpa using cg
        have HG := Aside0.mk (HM.out.forth cg)
        clear cg tail
        go_enter Tryd.func4, Tryd.ntmps4
        go_wp2_with fail
        refine (quaysidelaw05_light.calls k _ 1 [l0] true _ HC1.out (by simp) HL.out).mono ?_; rintro e w1 ⟨rfl, hd⟩; have HB : Aside0 (Below w.heap.size w w1) := ⟨by obtain ⟨nd, rfl⟩ := hd; exact pw_below_drewN (below_alloc (Below.refl _ _) _) _⟩; clear hd
        go_wp2_with fail
        refine (value_Put.calls k _ _ l0 a e _ (C_low HR0.out HB.out) HC0.out HM.out.put).mono ?_; rintro e2 w2 ⟨rfl, hb⟩; have HB2 := Aside0.mk (below_step HB.out hb); clear hb HB
        go_wp2_with fail
        refine (quaysideref05_Put.calls k _ _ l0 a e _ (C_low HR0.out HB2.out) HC0.out HM.out.rput).mono ?_; rintro e3 w3 ⟨rfl, hb⟩; have HB3 := Aside0.mk (below_step HB2.out hb); clear hb HB2
        go_wp2_with fail
        refine (value_Take.calls k a1 c g _ HM.out.take).mono ?_; rintro e4 w4 ⟨v4, rfl, hR, hb⟩; have HB4 := Aside0.mk (below_step HB3.out hb); obtain ⟨A4, c4, rfl⟩ := Kd.R_slice hR; have K4 := Aside0.mk (Kd.R_reads' hR); clear hb HB3 hR
        go_wp2_with fail
        refine (quaysideref05_Take.calls k a1 c g _ HM.out.rtake).mono ?_; rintro e5 w5 ⟨v5, rfl, hR, hb⟩; have HB5 := Aside0.mk (below_step HB4.out hb); have K45 := Aside0.mk (Kd.C_below K4.out.2.2 hb); obtain ⟨A5, c5, rfl⟩ := Kd.R_slice hR; have K5 := Aside0.mk (Kd.R_reads' hR); clear hb HB4 hR
        go_wp2_with fail
        refine (quaysideref05_Same.calls k _ _ c _ _ c true _ K45.out K4.out.2.1 K5.out.2.2 K5.out.2.1 HM.out.same).mono ?_; rintro e6 w6 ⟨rfl, hd⟩; have HB : Aside0 (Below w.heap.size w w6) := ⟨by obtain ⟨nd, rfl⟩ := hd; exact pw_below_drewN HB5.out _⟩; have K6 : Aside0 (k23.C w6 A4 c.length c) := ⟨by obtain ⟨nd, rfl⟩ := hd; exact Kd.C_drewN K45.out _⟩; clear hd HB5 K5 K45
        go_wp2_with fail
        refine (value_Put.calls k _ _ c a1 0 _ K6.out K4.out.2.1 HG.out).mono ?_; rintro e10 w10 ⟨rfl, hb⟩; have HB10 := Aside0.mk (below_step HB.out hb); clear hb HB; have HB := HB10; clear HB10
        go_wp2_with fail
        refine (quaysidelaw05_awake.calls k true _ HA.out (hML := ML.below (HB.out) hML)).mono ?_; rintro e w9 ⟨rfl, hb⟩; have HB9 := Aside0.mk (below_step HB.out hb); clear hb
        go_wp2
        go_ret
        exact ⟨rfl, HB9.out⟩
      case neg =>
        have g0 : (g == 0) = false := by simpa using cg
        have g1 : decide (g = 0) = false := by simpa using cg
        clear cg tail
        go_enter Tryd.func4, Tryd.ntmps4
        go_wp2_with fail
        refine (quaysidelaw05_light.calls k _ 1 [l0] true _ HC1.out (by simp) HL.out).mono ?_; rintro e w1 ⟨rfl, hd⟩; have HB : Aside0 (Below w.heap.size w w1) := ⟨by obtain ⟨nd, rfl⟩ := hd; exact pw_below_drewN (below_alloc (Below.refl _ _) _) _⟩; clear hd
        go_wp2_with fail
        refine (value_Put.calls k _ _ l0 a e _ (C_low HR0.out HB.out) HC0.out HM.out.put).mono ?_; rintro e2 w2 ⟨rfl, hb⟩; have HB2 := Aside0.mk (below_step HB.out hb); clear hb HB
        go_wp2_with fail
        refine (quaysideref05_Put.calls k _ _ l0 a e _ (C_low HR0.out HB2.out) HC0.out HM.out.rput).mono ?_; rintro e3 w3 ⟨rfl, hb⟩; have HB3 := Aside0.mk (below_step HB2.out hb); clear hb HB2
        go_wp2_with fail
        refine (value_Take.calls k a1 c g _ HM.out.take).mono ?_; rintro e4 w4 ⟨v4, rfl, hR, hb⟩; have HB4 := Aside0.mk (below_step HB3.out hb); obtain ⟨A4, c4, rfl⟩ := Kd.R_slice hR; have K4 := Aside0.mk (Kd.R_reads' hR); clear hb HB3 hR
        go_wp2_with fail
        refine (quaysideref05_Take.calls k a1 c g _ HM.out.rtake).mono ?_; rintro e5 w5 ⟨v5, rfl, hR, hb⟩; have HB5 := Aside0.mk (below_step HB4.out hb); have K45 := Aside0.mk (Kd.C_below K4.out.2.2 hb); obtain ⟨A5, c5, rfl⟩ := Kd.R_slice hR; have K5 := Aside0.mk (Kd.R_reads' hR); clear hb HB4 hR
        go_wp2_with fail
        refine (quaysideref05_Same.calls k _ _ c _ _ c true _ K45.out K4.out.2.1 K5.out.2.2 K5.out.2.1 HM.out.same).mono ?_; rintro e6 w6 ⟨rfl, hd⟩; have HB : Aside0 (Below w.heap.size w w6) := ⟨by obtain ⟨nd, rfl⟩ := hd; exact pw_below_drewN HB5.out _⟩; have K6 : Aside0 (k23.C w6 A4 c.length c) := ⟨by obtain ⟨nd, rfl⟩ := hd; exact Kd.C_drewN K45.out _⟩; clear hd HB5 K5 K45
        go_wp2_with fail
        refine (quaysidelaw05_awake.calls k true _ HA.out (hML := ML.below (HB.out) hML)).mono ?_; rintro e w9 ⟨rfl, hb⟩; have HB9 := Aside0.mk (below_step HB.out hb); clear hb
        go_wp2
        go_ret
        exact ⟨rfl, HB9.out⟩
end Go.Proofs.YtccpbacnfhbdlaaDoor.Va
