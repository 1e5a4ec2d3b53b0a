/- slices.ContainsFunc over rows, with Distinct's predicate. No condition beyond those that each theorem names. -/
import Derived.Test.YtghpjlohoehdnaaSeI
namespace Go.Proofs.Ytghpjlohoehdnaa.Sep
open Go Go.RowKit Go.Shelf
set_option linter.unusedVariables false
set_option linter.unusedSimpArgs false
set_option maxHeartbeats 1000000 in
theorem index_nil (a : Option Addr) (c B : Nat) (W : World) : Calls Try.prog 76 #[.slice a 0 c, .func (.func 56) #[] #[.pointer (some ⟨B, 0, none⟩)]] W fun e W' => e = .returned (.int .i64 (-1)) ∧ W' = W := by
  go_enter Try.func76, Try.ntmps76
  go_wp2
  go_loopw [8] (fun i wr => i = .int .i64 0 ∧ wr = W) (fun _ _ => 0)
  case atStart => exact ⟨rfl, rfl⟩
  case round =>
    obtain ⟨rfl, rfl⟩ := hrel
    go_wp2
    refine bodyPost_ret (results_tmp rfl _ _ _) rfl ?_
    exact ⟨rfl, rfl⟩
set_option maxHeartbeats 1000000 in
theorem contains_nil (a : Option Addr) (c B : Nat) (W : World) : Calls Try.prog 55 #[.slice a 0 c, .func (.func 56) #[] #[.pointer (some ⟨B, 0, none⟩)]] W fun e W' => e = .returned (.bool false) ∧ W' = W := by
  go_enter Try.func55, Try.ntmps55
  go_wp2_with (go_at_call 76; refine (index_nil _ _ _ _).mono ?_; rintro e w' ⟨rfl, rfl⟩)
  go_ret
  exact ⟨rfl, rfl⟩
set_option maxHeartbeats 1000000 in
theorem contains_some (b off c : Nat) (rs : List RV) (rows : List (List V3)) (ra : Option Addr) (rn rc B : Nat) (sr : List V3) (W : World) (hk : rs.length ≤ 100000) (hcs : ∀ j, j < rs.length → W.cell? ⟨b, off + j, none⟩ = some ((rs[j]?.getD RV.nil).v))
    (hrows : All2 (fun q row => Cont W q row ∧ q.n ≤ 1000) rs rows) (hc : W.cell? ⟨B, 0, none⟩ = some (.slice ra rn rc)) (h2 : Cont W ⟨ra, rn, rc⟩ sr) :
    Calls Try.prog 55 #[.slice (some ⟨b, off, none⟩) rs.length c, .func (.func 56) #[] #[.pointer (some ⟨B, 0, none⟩)]] W fun e W' => e = .returned (.bool (rows.any (fun s => eqRow s sr))) ∧ W'.heap = W.heap ∧ W'.os = W.os ∧ W'.tape = W.tape ∧ W'.output = W.output := by
  have hix := index_some b off c rs rows ra rn rc B sr W hk hcs hrows hc h2
  generalize rows.any (fun s => eqRow s sr) = t at hix ⊢
  clear hcs hrows hc h2
  go_enter Try.func55, Try.ntmps55
  go_wp2_with (go_at_call 76; refine hix.mono ?_; clear hix; rintro e w' ⟨⟨z, rfl, hz⟩, hw⟩)
  go_ret
  refine ⟨?_, hw⟩
  cases t with
  | true => simp [hz]
  | false => simp [hz]
end Go.Proofs.Ytghpjlohoehdnaa.Sep
