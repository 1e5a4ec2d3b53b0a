/- scan.List hands back an iterator over its rows. No condition beyond those that each theorem names. -/
import Derived.Test.YtghpjlohoehdnaaSeK
namespace Go.Proofs.Ytghpjlohoehdnaa.Sep
open Go Go.RowKit Go.Shelf
attribute [local go_sem] Oper.semAt_some
set_option linter.unusedVariables false
set_option linter.unusedSimpArgs false
/-- the wide fence knows no depth -/
theorem round_wide {n m : Nat} {P : Program} {l : Nat} {f : FuncId} {tmps : Array Value} {assign body : Code} {w : World} {R : Ending → World → Prop} (h : RoundIn Fence.wide n P l f tmps assign body w R) : RoundIn Fence.wide m P l f tmps assign body w R :=
  ⟨h.1, fun c cs _ => h.2 c cs (room_wide _)⟩
theorem yield_wide {n m : Nat} {P : Program} {l : Nat} {args : Array Value} {W : World} {R : Ending → World → Prop} (h : YieldAt Fence.wide n P l args W R) : YieldAt Fence.wide m P l args W R := by
  obtain ⟨fn, tmps, assign, body, h1, h2⟩ := h
  exact ⟨fn, tmps, assign, body, h1, round_wide h2⟩
theorem seq_wide {α : Type} {n m : Nat} {P : Program} {g : Nat} {lb : Array Value} {encs : α → Array Value} {ys : List α} {R : Nat → Prop} {w : World} (h : Seq Fence.wide n P g lb encs ys R w) : Seq Fence.wide m P g lb encs ys R w :=
  fun l J Jx X W hs hR hX hJ hJx hY h0 => callsIn_wide.2 (callsIn_wide.1 (h l J Jx X W hs hR hX hJ hJx (fun pre x X1 W1 a b c => yield_wide (hY pre x X1 W1 a b c)) h0))
set_option maxRecDepth 100000 in
set_option maxHeartbeats 1000000 in
theorem list1_nil (F : Fence) (n : Nat) (h41 : F.fn 41) (hro : F.round = none) (l Bs k c : Nat) (hk : k = 0) (a : Option Addr) (J : World → Prop) (W : World) (hBs : W.cell? ⟨Bs, 0, none⟩ = some (.slice a k c)) (h0 : J W) :
    CallsIn F n Try.prog 41 #[.func (.yield l) #[] #[], .pointer (some ⟨Bs, 0, none⟩)] W fun e W' => (∃ v, e = .returned v) ∧ W' = W ∧ J W' := by
  subst hk
  refine callsIn_of_wp Try.func41 rfl h41 ?_ hro
  simp only [Try.ntmps41, List.size_toArray, List.length_cons, List.length_nil, Nat.reduceAdd, Nat.reduceSub, Array.replicate_succ, Array.replicate_zero, List.push_toArray, List.append_toArray, List.nil_append, List.cons_append]
  gi_wp2
  gi_loopw [7] (fun i wr => i = .int .i64 0 ∧ wr = W ∧ J wr) (fun _ _ => 0)
  case atStart => exact ⟨rfl, rfl, h0⟩
  case round =>
    obtain ⟨rfl, rfl, hJs⟩ := hrel
    gi_wp2
    go_end0
    exact ⟨⟨_, rfl⟩, rfl, hJs⟩
set_option maxHeartbeats 1000000 in
theorem list_make (n : Nat) (a : Option Addr) (k c : Nat) (w : World) :
    CallsIn Fence.wide n Try.prog 18 #[.slice a k c] w fun e w' => e = .returned (.func (.func 41) #[] #[.pointer (some ⟨w.heap.size, 0, none⟩)]) ∧ w' = w.alloc (.cells #[.slice a k c] 22) := by
  refine callsIn_of_wp Try.func18 rfl trivial ?_ rfl
  simp only [Try.ntmps18, List.size_toArray, List.length_cons, List.length_nil, Nat.reduceAdd, Nat.reduceSub, Array.replicate_succ, Array.replicate_zero, List.push_toArray, List.append_toArray, List.nil_append, List.cons_append]
  gi_wp2
  go_ret
  exact ⟨rfl, rfl⟩
/-- List's function value is an iterator over the rows. -/
theorem list_it (Bs : Nat) (sv : Value) (rs : List RV) (R : Nat → Prop) (w : World) (hBs : Bs < w.heap.size) (hR : ∀ j, R j → j < w.heap.size) (hc : w.cell? ⟨Bs, 0, none⟩ = some sv) (hr : Rows R w sv rs) (hreach : rs.length * 24 ≤ 140737488351232) :
    It (.func (.func 41) #[] #[.pointer (some ⟨Bs, 0, none⟩)]) (rs.map fun r => (r, (0 : Int))) (fun j => j = Bs ∨ R j) w := by
  refine ⟨⟨41, _, rfl, enters_of Try.func41 (by kernel_rfl) rfl, ?_⟩, fun j hj => hj.elim (fun e => e ▸ hBs) (hR j)⟩
  intro n l J Jx X W hs hRW hX hJ hJx hY h0
  -- a fence of its own depth: the wide one has none
  have hc' : W.cell? ⟨Bs, 0, none⟩ = some sv := (cell_of_block (hRW Bs (.inl rfl)).2.2 0).trans hc
  rcases hr.same (fun j hj => (hRW j (.inr hj)).2.2) with ⟨a, c, rfl, rfl⟩ | ⟨b, off, cap, rfl, hb, hcs⟩
  · exact (list1_nil Fence.wide n trivial rfl l Bs 0 c rfl a (J [] X) W hc' h0).mono fun e W' ⟨he, hw, hj⟩ => ⟨he, X, by rw [hw]; exact Gr.refl _ _ hX, .inl hj⟩
  · obtain ⟨r1, r2, r3⟩ := hRW b (.inr hb)
    rcases Nat.lt_or_ge 0 n with hn | hn
    · exact list1_in Fence.wide n trivial rfl hn l Bs b off cap rs hreach J Jx X W hX ⟨by omega, r2⟩ hY hc' hcs h0
    · have hn0 : n = 0 := by omega
      subst hn0
      exact callsIn_wide.2 (callsIn_wide.1 (list1_in Fence.wide 1 trivial rfl (Nat.le_refl _) l Bs b off cap rs hreach J Jx X W hX ⟨by omega, r2⟩ hY hc' hcs h0))
end Go.Proofs.Ytghpjlohoehdnaa.Sep
