import Derived.Test.YthmddmafiefaaaaOrx6
import Derived.Test.YthmddmafiefaaaaPureOrderRows
import Derived.Test.YthmddmafiefaaaaPureBest5
import Derived.Test.YthmddmafiefaaaaPureBest6
namespace Go.Proofs.Ythmddmafiefaaaa.PureOrd
open Go.RowKit Go.Proofs.YthmddmafiefaaaaW.PrintWords Go.Proofs.YthmddmafiefaaaaW.PrintLast Go.Proofs.YthmddmafiefaaaaW.PrintMore
open Go.Proofs.Ythmddmafiefaaaa.Or
set_option linter.unusedVariables false
set_option linter.unusedSimpArgs false
theorem Ev.ofMono {α : Type} {f : Nat → Option α} {r : α} (k0 : Nat) (h : f k0 = some r) (m : ∀ k, LeO (f k) (f (k + 1))) : Ev f r :=
  ⟨k0, fun k hk => by
    obtain ⟨d, rfl⟩ : ∃ d, k = k0 + d := ⟨k - k0, by omega⟩
    clear hk
    induction d with
    | zero => exact h
    | succ d ih => exact m (k0 + d) _ ih⟩
theorem awake_ev : Ev quaysidelaw24_awake.f true := Ev.ofMono 200 Pure.awake_true quaysidelaw24_awake.mono
theorem sameints_l0 (p : List Int) (hp : p.length ≤ 10) : ∀ (m i : Nat), i ≤ p.length → p.length - i ≤ m → Ev (fun k => quaysideref01_SameInts.l0 k p p (i : Int)) true
  | 0, i, h1, h2 => by
    refine Ev.pure 1 fun k hk => ?_
    obtain ⟨k, rfl⟩ : ∃ j, k = j + 1 := ⟨k - 1, by omega⟩
    rw [quaysideref01_SameInts.l0, if_neg (by omega)]
  | m + 1, i, h1, h2 => by
    by_cases c : i < p.length
    · refine (sameints_l0 p hp m (i + 1) (by omega) (by omega)).step 0 fun k _ => ?_
      rw [quaysideref01_SameInts.l0, if_pos (by omega), if_pos (by omega), if_pos (by omega), if_pos rfl, wrap64_id (x := (i : Int) + 1) (by omega) (by omega), show ((i + 1 : Nat) : Int) = (i : Int) + 1 from by omega]
    · exact sameints_l0 p hp 0 i h1 (by omega)
theorem sameints_ev (p : List Int) (hp : p.length ≤ 10) : Ev (fun k => quaysideref01_SameInts.f k p p) true :=
  (sameints_l0 p hp 10 0 (by omega) (by omega)).same 0 fun k _ => by unfold quaysideref01_SameInts.f; rw [if_pos rfl]; rfl
theorem may_ev (l0 : List Int) (l1 : List S39) (l2 : List Int) (hl : l1.length ≤ 20) : ∃ b, Ev (fun k => quaysideref24_May.f k l0 l1 l2) b ∧ (b = true → Ok l0 l1 l2) := by
  obtain ⟨b, hb, ok⟩ := may_ok l0 l1 l2 hl 0
  exact ⟨b, Ev.ofMono 30 hb (fun k => quaysideref24_May.mono _ _ _ k), ok⟩
/-- a best order of the whole set is a full order -/
theorem best_full {R : Int → Int} {n : Nat} (hn : n ≤ 6) {p : List Int} (h : BestOf R n (2 ^ n - 1) p) : p.length = n := by
  have h1 := fits_len hn h.1
  rw [h.2.1] at h1
  rw [h1]
  have : ∀ n : Fin 7, cnt (2 ^ n.val - 1) = n.val := fin7
  exact this ⟨n, by omega⟩
theorem full_sto {n : Nat} (hn : n ≤ 6) {q : List Int} (h : Fits n 0 q) (hl : q.length = n) : sto 0 q = 2 ^ n - 1 := by
  have h1 := fits_len hn h
  have h2 := fits_bd hn h
  exact full_set hn h2.1 h2.2 (by omega)
end Go.Proofs.Ythmddmafiefaaaa.PureOrd
namespace Go.Proofs.Ythmddmafiefaaaa.Pure
open Go.RowKit Go.Proofs.Ythmddmafiefaaaa.Or Go.Proofs.Ythmddmafiefaaaa.PureOrd Go.Proofs.YthmddmafiefaaaaW.PrintWords
set_option linter.unusedVariables false
theorem OrderBest (l0 : List Int) (l1 : List S39) (l2 : List Int) (f0 : ∀ y ∈ l0, (Lit.int .i64 y).wf = true) (f1 : ∀ y ∈ l1, (Lit.int .i64 y.f0).wf = true ∧ (Lit.int .i64 y.f1).wf = true ∧ (Lit.int .i64 y.f2).wf = true ∧ (Lit.int .i64 y.f3).wf = true) (f2 : ∀ y ∈ l2, (Lit.int .i64 y).wf = true) :
    ∃ k, quaysidelaw24_OrderBest.f k l0 l1 l2 = some true := by
  have fin : PureOrd.Ev (fun k => quaysidelaw24_OrderBest.f k l0 l1 l2) true → ∃ k, quaysidelaw24_OrderBest.f k l0 l1 l2 = some true := fun ⟨k0, h⟩ => ⟨k0, h k0 (Nat.le_refl _)⟩
  refine fin ?_
  unfold quaysidelaw24_OrderBest.f quaysidelaw24_light.f
  by_cases c : (l0.length : Int) ≤ 7
  · rw [if_pos c]
    by_cases c2 : (l1.length : Int) ≤ 20
    · obtain ⟨b, hb, hok⟩ := may_ev l0 l1 l2 (by omega)
      cases b with
      | false =>
        have e1 : PureOrd.Ev (fun k => order_Best.f k l0 l1 l2) ([], 0, 1) := by
          refine (hb.bind (g := fun k ok => if ok = true then order_Best.l0 k l0 l1 l2 (wrap64 ((shl .i64 1 (l0.length : Int)) - 1)) (fun _ => plan0) (wrap64 ((wrap64 ((shl .i64 1 (l0.length : Int)) - 1)) + 1)) 0 else some ([], 0, 1)) (r := ([], 0, 1)) (PureOrd.Ev.pure 0 fun k _ => by simp)).same 0 fun k _ => ?_
          unfold order_Best.f
          rw [may_eq l0 l1 l2 (by omega) (by omega)]
        have e2 : PureOrd.Ev (fun k => quaysideref24_Best.f k l0 l1 l2) ([], 0, 1) := by
          refine (hb.bind (g := fun k ok => if ok = true then ((quaysideref24_best.f k l0 l1 l2 ([] : List Int)).bind fun bt178 => (some (bt178.1, bt178.2, 0))) else some ([], 0, 1)) (r := ([], 0, 1)) (PureOrd.Ev.pure 0 fun k _ => by simp)).same 0 fun k _ => ?_
          unfold quaysideref24_Best.f
          rfl
        have e3 := sameints_ev [] (by simp)
        obtain ⟨k1, h1⟩ := e1
        obtain ⟨k2, h2⟩ := e2
        obtain ⟨k3, h3⟩ := e3
        obtain ⟨k4, h4⟩ := awake_ev
        refine ⟨k1 + k2 + k3 + k4, fun k hk => ?_⟩
        have h1 := h1 k (by omega)
        have h2 := h2 k (by omega)
        have h3 := h3 k (by omega)
        have h4 := h4 k (by omega)
        simp only at h1 h2 h3
        simp [c2, h1, h2, h3, h4]
      | true =>
        have ok := hok rfl
        have h6 := ok.six
        obtain ⟨p, hp, e1⟩ := order_Best_ev ok (by omega) hb
        obtain ⟨q, hq, e2⟩ := best_ev ok (by omega) hb l0.length [] trivial (by simp)
        have hpl := best_full h6 hp
        have hqs := full_sto h6 hq.1 (by simpa using hq.2.1)
        have e : p = [] ++ q := LE_anti (hp.2.2 _ hq.1 hqs) (hq.2.2 p hp.1 hpl)
        rw [← e] at e2
        have e3 := sameints_ev p (by omega)
        obtain ⟨k1, h1⟩ := e1
        obtain ⟨k2, h2⟩ := e2
        obtain ⟨k3, h3⟩ := e3
        obtain ⟨k4, h4⟩ := awake_ev
        obtain ⟨k5, h5⟩ := hb
        refine ⟨k1 + k2 + k3 + k4 + k5, fun k hk => ?_⟩
        have h1 := h1 k (by omega)
        have h2 := h2 k (by omega)
        have h3 := h3 k (by omega)
        have h4 := h4 k (by omega)
        have h5 := h5 k (by omega)
        simp only at h1 h2 h3 h5
        simp [c2, h1, quaysideref24_Best.f, h5, h2, h3, h4]
    · refine awake_ev.same 0 fun k _ => ?_
      rw [decide_eq_false c2, Option.bind_some, if_neg (by simp)]
      simp
  · rw [if_neg c]
    refine awake_ev.same 0 fun k _ => ?_
    rw [Option.bind_some, if_neg (by simp)]
    simp
end Go.Proofs.Ythmddmafiefaaaa.Pure
