/- slices.Equal of any two rows. No condition beyond those that each theorem names. -/
import Derived.Test.YtghpjlohoehdnaaSeF
namespace Go.Proofs.Ytghpjlohoehdnaa.Sep
open Go Go.RowKit Go.Shelf
set_option linter.unusedVariables false
set_option linter.unusedSimpArgs false
theorem eqRow_len : ∀ r s : List V3, r.length ≠ s.length → eqRow r s = false
  | [], [], h => absurd rfl h
  | [], _ :: _, _ => rfl
  | _ :: _, [], _ => rfl
  | u :: r, v :: s, h => by rw [eqRow, eqRow_len r s (by simpa using h), Bool.and_false]
set_option maxHeartbeats 1000000 in
theorem equal_len (a b : Option Addr) (n c m d : Nat) (h : n ≠ m) (W : World) : Calls Try.prog 57 #[.slice a n c, .slice b m d] W fun e W' => e = .returned (.bool false) ∧ W' = W := by
  have hne : ((n : Int) != (m : Int)) = true := by simp; omega
  have hne2 : ¬ ((n : Int) = (m : Int)) := by omega
  go_enter Try.func57, Try.ntmps57
  go_wp2
  go_ret
  exact ⟨rfl, rfl⟩
set_option maxHeartbeats 1000000 in
theorem equal_zero (a b : Option Addr) (c d : Nat) (W : World) : Calls Try.prog 57 #[.slice a 0 c, .slice b 0 d] W fun e W' => e = .returned (.bool true) ∧ W' = W := by
  go_enter Try.func57, Try.ntmps57
  go_wp2
  go_loopw [13] (fun i wr => i = .int .i64 0 ∧ wr = W) (fun _ _ => 0)
  case atStart => exact ⟨rfl, rfl⟩
  case round =>
    obtain ⟨rfl, rfl⟩ := hrel
    go_wp2
    refine bodyPost_ret (results_tmp rfl _ _ _) rfl ?_
    exact ⟨rfl, rfl⟩
theorem equal_ok (r1 r2 : RV) (s1 s2 : List V3) (W : World) (h1 : Cont W r1 s1) (h2 : Cont W r2 s2) (hn : r1.n ≤ 100000) :
    Calls Try.prog 57 #[.slice r1.a r1.n r1.c, .slice r2.a r2.n r2.c] W fun e W' => e = .returned (.bool (eqRow s1 s2)) ∧ W'.heap = W.heap ∧ W'.os = W.os ∧ W'.tape = W.tape ∧ W'.output = W.output := by
  have l1 : s1.length = r1.n := by
    exact h1.len
  have l2 : s2.length = r2.n := by
    exact h2.len
  by_cases hm : r1.n = r2.n
  · by_cases hz : r1.n = 0
    · have e1 : s1 = [] := List.eq_nil_of_length_eq_zero (by omega)
      have e2 : s2 = [] := List.eq_nil_of_length_eq_zero (by omega)
      rw [← hm, hz, e1, e2]
      refine (equal_zero r1.a r2.a r1.c r2.c W).mono ?_
      rintro e w ⟨rfl, rfl⟩
      exact ⟨rfl, rfl, rfl, rfl, rfl⟩
    · rcases h1 with ⟨h, _⟩ | ⟨b1, o1, ha, _, _, hc1⟩
      · exact absurd h hz
      rcases h2 with ⟨h, _⟩ | ⟨b2, o2, hb, _, _, hc2⟩
      · exact absurd (hm.trans h) hz
      rw [ha, hb, ← hm]
      exact equal_some b1 o1 r1.c b2 o2 r2.c r1.n s1 s2 l1 (l2.trans hm.symm) hn W hc1 hc2
  · rw [eqRow_len s1 s2 (by omega)]
    refine (equal_len r1.a r2.a r1.n r1.c r2.n r2.c hm W).mono ?_
    rintro e w ⟨rfl, rfl⟩
    exact ⟨rfl, rfl, rfl, rfl, rfl⟩
end Go.Proofs.Ytghpjlohoehdnaa.Sep
