import Derived.Test.YthmddmafiefaaaaOrx9
import Derived.Test.YthmddmafiefaaaaPureOrderBest
namespace Go.Proofs.Ythmddmafiefaaaa.PureOrd
open Go.RowKit Go.Proofs.YthmddmafiefaaaaW.PrintWords Go.Proofs.YthmddmafiefaaaaW.PrintLast Go.Proofs.YthmddmafiefaaaaW.PrintMore
open Go.Proofs.Ythmddmafiefaaaa.Or
set_option linter.unusedVariables false
set_option linter.unusedSimpArgs false
theorem cost_ev {l0 : List Int} {l1 : List S39} {l2 : List Int} (ok : Ok l0 l1 l2) (hl : l1.length ≤ 20) (hmay : Ev (fun k => quaysideref24_May.f k l0 l1 l2) true) (p : List Int) (hp : Fits l0.length 0 p) (hlen : p.length = l0.length) :
    Ev (fun k => order_Cost.f k l0 l1 l2 p) (Ct (Rw l0 l1 l2) 0 p, 0) := by
  have h6 := ok.six
  refine (refcost_ev ok hl hmay p hp hlen).same 30 fun k hk => ?_
  obtain ⟨d, rfl⟩ : ∃ d, k = 30 + d := ⟨k - 30, by omega⟩
  exact cost_eq l0 l1 l2 (by omega) hl p (by omega) d
/-- What is left, and what has been taken. -/
structure Taken (n : Nat) (x10 x11 : List Int) : Prop where
  fits : Fits n 0 x10
  len : x10.length + x11.length = n
  nodup : x11.Nodup
  free : ∀ a ∈ x11, 0 ≤ a ∧ a < n ∧ mem (sto 0 x10) a = false
theorem taken_step {n : Nat} (hn : n ≤ 6) {x10 x11 : List Int} (h : Taken n x10 x11) (j : Nat) (hj : j < x11.length) : Taken n (x10 ++ [rd x11 (j : Int)]) (x11.take j ++ x11.drop (j + 1)) := by
  have e : x11 = x11.take j ++ rd x11 (j : Int) :: x11.drop (j + 1) := by rw [← drop_cons x11 j hj, List.take_append_drop]
  generalize rd x11 (j : Int) = a at *
  generalize hA : x11.take j = A at *
  generalize hB : x11.drop (j + 1) = B at *
  subst e
  obtain ⟨h1, h2, h3, h4⟩ := h
  have h5 : (a :: (A ++ B)).Nodup := (List.perm_middle.nodup_iff).1 h3
  obtain ⟨a0, a1, a2⟩ := h4 a (by simp)
  have hb := fits_bd hn h1
  have hi := ins_facts hn hb.1 hb.2 a0 a1 a2
  refine ⟨?_, ?_, (List.nodup_cons.1 h5).2, fun b hb2 => ?_⟩
  · rw [Fits_append]; exact ⟨h1, a0, a1, a2, trivial⟩
  · simp at h2 ⊢; omega
  · obtain ⟨b0, b1, b2⟩ := h4 b (by simp at hb2 ⊢; rcases hb2 with h | h <;> simp [h])
    refine ⟨b0, b1, ?_⟩
    have hne : b ≠ a := fun h => (List.nodup_cons.1 h5).1 (h ▸ hb2)
    rw [sto_append]
    show mem (ins (sto 0 x10) a) b = false
    rw [hi.2.2.2.2 b b0 (by omega), b2]
    simpa using hne
theorem least_l1 {l0 : List Int} {l1 : List S39} {l2 : List Int} (ok : Ok l0 l1 l2) (hl : l1.length ≤ 20) (hmay : Ev (fun k => quaysideref24_May.f k l0 l1 l2) true) (p : List Int) (hp : BestOf (Rw l0 l1 l2) l0.length (2 ^ l0.length - 1) p) :
    ∀ (m : Nat) (x10 x11 : List Int) (w : Int), x11.length = m → Taken l0.length x10 x11 → 0 ≤ w → w ≤ 65535 →
      Ev (fun k => quaysidelaw24_OrderLeast.l1 k (Ct (Rw l0 l1 l2) 0 p) (Ct (Rw l0 l1 l2) 0 p) 0 x10 x11 w l0 l1 l2) true
  | 0, x10, x11, w, h0, ht, w0, w1 => by
    have h6 := ok.six
    have hlen : x10.length = l0.length := by have := ht.len; omega
    have hc := cost_ev ok hl hmay x10 ht.fits hlen
    have hle := LE_cost (hp.2.2 x10 ht.fits (full_sto h6 ht.fits hlen))
    obtain ⟨k1, h1⟩ := hc
    obtain ⟨k2, h2⟩ := awake_ev
    refine ⟨k1 + k2 + 1, fun k hk => ?_⟩
    obtain ⟨k, rfl⟩ : ∃ j, k = j + 1 := ⟨k - 1, by omega⟩
    have h1 := h1 k (by omega)
    have h2 := h2 k (by omega)
    simp only at h1
    simp only
    rw [quaysidelaw24_OrderLeast.l1, if_neg (by omega), h1, Option.bind_some, if_pos rfl, if_pos rfl, if_pos rfl, if_pos (by simpa using hle), h2, Option.bind_some]
  | m + 1, x10, x11, w, h0, ht, w0, w1 => by
    have h6 := ok.six
    have hlen := ht.len
    have hd0 : 0 ≤ Int.tmod w (x11.length : Int) := Int.tmod_nonneg _ w0
    have hd1 : Int.tmod w (x11.length : Int) < (x11.length : Int) := Int.tmod_lt_of_pos _ (by omega)
    have hq0 : 0 ≤ Int.tdiv w (x11.length : Int) := Int.tdiv_nonneg w0 (by omega)
    have hq1 : Int.tdiv w (x11.length : Int) ≤ w := by rw [Int.tdiv_eq_ediv_of_nonneg w0]; exact Int.ediv_le_self _ w0
    obtain ⟨j, hj⟩ : ∃ j : Nat, Int.tmod w (x11.length : Int) = (j : Int) := ⟨(Int.tmod w (x11.length : Int)).toNat, by omega⟩
    have ht2 := taken_step h6 ht j (by omega)
    have hl2 : (x11.take j ++ x11.drop (j + 1)).length = m := by simp; omega
    refine (least_l1 ok hl hmay p hp m _ _ (Int.tdiv w (x11.length : Int)) hl2 ht2 hq0 (by omega)).step 0 fun k _ => ?_
    have hbig : x11.length < 1000 := by omega
    rw [quaysidelaw24_OrderLeast.l1, if_pos (by omega), if_neg (by omega), if_pos hd0, if_pos hd1, if_pos (by omega), if_pos (by omega), Option.bind_some, hj]
    rw [if_pos (by simp; omega), Option.bind_some, wrap64_id (x := (j : Int) + 1) (by omega) (by omega), if_pos (by omega), if_pos (by omega), Option.bind_some]
    rw [if_pos (by simp; omega), wrap64_id (x := Int.tdiv w (x11.length : Int)) (by omega) (by omega)]
    rfl
def upto (i : Nat) : List Int := (List.range i).map fun (u : Nat) => (u : Int)
theorem and_bd (x : Int) : 0 ≤ Go.bits .and .i64 x 65535 ∧ Go.bits .and .i64 x 65535 ≤ 65535 := by
  have h : ((BitVec.ofInt 64 x) &&& (BitVec.ofInt 64 65535)).toNat ≤ 65535 := by
    rw [BitVec.toNat_and]
    exact Nat.le_trans Nat.and_le_right (by decide)
  show 0 ≤ IntKind.wrap .i64 (((BitVec.ofInt 64 x) &&& (BitVec.ofInt 64 65535)).toNat : Int) ∧ IntKind.wrap .i64 (((BitVec.ofInt 64 x) &&& (BitVec.ofInt 64 65535)).toNat : Int) ≤ 65535
  generalize ((BitVec.ofInt 64 x) &&& (BitVec.ofInt 64 65535)).toNat = v at h
  have : IntKind.wrap .i64 (v : Int) = v := by
    simp [IntKind.wrap, IntKind.bits, IntKind.signed]
    omega
  rw [this]
  omega
theorem least_l0 {l0 : List Int} {l1 : List S39} {l2 : List Int} (h6 : l0.length ≤ 6) (x1 x6 x8 x9 : Int) (r : Bool)
    (hr : Ev (fun k => quaysidelaw24_OrderLeast.l1 k x6 x8 x9 [] (upto l0.length) (Go.bits .and .i64 x1 65535) l0 l1 l2) r) :
    ∀ (m i : Nat), i ≤ l0.length → l0.length - i ≤ m → Ev (fun k => quaysidelaw24_OrderLeast.l0 k x1 x6 x8 x9 (upto i) (i : Int) l0 l1 l2) r
  | 0, i, h1, h2 => by
    have e : i = l0.length := by omega
    subst e
    refine hr.step 0 fun k _ => ?_
    rw [quaysidelaw24_OrderLeast.l0, if_neg (by omega)]
  | m + 1, i, h1, h2 => by
    by_cases c : i < l0.length
    · refine (least_l0 h6 x1 x6 x8 x9 r hr m (i + 1) (by omega) (by omega)).step 0 fun k _ => ?_
      have e : upto i ++ [(i : Int)] = upto (i + 1) := by simp [upto, List.range_succ]
      rw [quaysidelaw24_OrderLeast.l0, if_pos (by omega), if_pos (by simp [upto]; omega), wrap64_id (x := (i : Int) + 1) (by omega) (by omega), e]
      rfl
    · exact least_l0 h6 x1 x6 x8 x9 r hr 0 i h1 (by omega)
theorem taken_start (n : Nat) (hn : n ≤ 6) : Taken n [] (upto n) := by
  have hd : ∀ n : Fin 7, (upto n.val).Nodup := by decide +kernel
  refine ⟨trivial, by simp [upto], hd ⟨n, by omega⟩, fun a ha => ?_⟩
  simp only [upto, List.mem_map, List.mem_range] at ha
  obtain ⟨u, hu, rfl⟩ := ha
  exact ⟨by omega, by omega, mem_zero ⟨u, by omega⟩⟩
end Go.Proofs.Ythmddmafiefaaaa.PureOrd
namespace Go.Proofs.Ythmddmafiefaaaa.Pure
open Go.RowKit Go.Proofs.Ythmddmafiefaaaa.Or Go.Proofs.Ythmddmafiefaaaa.PureOrd Go.Proofs.YthmddmafiefaaaaW.PrintWords
set_option linter.unusedVariables false
theorem OrderLeast (l0 : List Int) (l1 : List S39) (l2 : List Int) (a1 : Int) (f0 : ∀ y ∈ l0, (Lit.int .i64 y).wf = true) (f1 : ∀ y ∈ l1, (Lit.int .i64 y.f0).wf = true ∧ (Lit.int .i64 y.f1).wf = true ∧ (Lit.int .i64 y.f2).wf = true ∧ (Lit.int .i64 y.f3).wf = true) (f2 : ∀ y ∈ l2, (Lit.int .i64 y).wf = true) (w1 : (Lit.int .i64 a1).wf = true) :
    ∃ k, quaysidelaw24_OrderLeast.f k l0 l1 l2 a1 = some true := by
  have fin : PureOrd.Ev (fun k => quaysidelaw24_OrderLeast.f k l0 l1 l2 a1) true → ∃ k, quaysidelaw24_OrderLeast.f k l0 l1 l2 a1 = some true := fun ⟨k0, h⟩ => ⟨k0, h k0 (Nat.le_refl _)⟩
  refine fin ?_
  unfold quaysidelaw24_OrderLeast.f quaysidelaw24_light.f
  by_cases c : (l0.length : Int) ≤ 7
  · rw [if_pos c]
    by_cases c2 : (l1.length : Int) ≤ 20
    · obtain ⟨b, hb, hok⟩ := may_ev l0 l1 l2 (by omega)
      cases b with
      | false =>
        have e1 : PureOrd.Ev (fun k => order_Best.f k l0 l1 l2) ([], 0, 1) := by
          refine (hb.bind (g := fun k ok => if ok = true then order_Best.l0 k l0 l1 l2 (wrap64 ((shl .i64 1 (l0.length : Int)) - 1)) (fun _ => plan0) (wrap64 ((wrap64 ((shl .i64 1 (l0.length : Int)) - 1)) + 1)) 0 else some ([], 0, 1)) (r := ([], 0, 1)) (PureOrd.Ev.pure 0 fun k _ => by simp)).same 0 fun k _ => ?_
          unfold order_Best.f
          rw [may_eq l0 l1 l2 (by omega) (by omega)]
        obtain ⟨k1, h1⟩ := e1
        obtain ⟨k4, h4⟩ := awake_ev
        refine ⟨k1 + k4, fun k hk => ?_⟩
        have h1 := h1 k (by omega)
        have h4 := h4 k (by omega)
        simp only at h1
        simp [c2, h1, h4]
      | true =>
        have ok := hok rfl
        have h6 := ok.six
        obtain ⟨p, hp, e1⟩ := order_Best_ev ok (by omega) hb
        have e2 := cost_ev ok (by omega) hb p hp.1 (best_full h6 hp)
        have e3 := least_l0 h6 a1 _ _ _ _ (least_l1 ok (by omega) hb p hp (upto l0.length).length [] (upto l0.length) _ rfl (taken_start _ h6) (and_bd a1).1 (and_bd a1).2) l0.length 0 (by omega) (by omega)
        obtain ⟨k1, h1⟩ := e1
        obtain ⟨k2, h2⟩ := e2
        obtain ⟨k3, h3⟩ := e3
        refine ⟨k1 + k2 + k3, fun k hk => ?_⟩
        have h1 := h1 k (by omega)
        have h2 := h2 k (by omega)
        have h3 := h3 k (by omega)
        simp only at h1 h2 h3
        have h3' : quaysidelaw24_OrderLeast.l0 k a1 (Ct (Rw l0 l1 l2) 0 p) (Ct (Rw l0 l1 l2) 0 p) 0 [] 0 l0 l1 l2 = some true := h3
        simp [c2, h1, h2, h3']
    · refine awake_ev.same 0 fun k _ => ?_
      rw [decide_eq_false c2, Option.bind_some, if_neg (by simp)]
      simp
  · rw [if_neg c]
    refine awake_ev.same 0 fun k _ => ?_
    rw [Option.bind_some, if_neg (by simp)]
    simp
end Go.Proofs.Ythmddmafiefaaaa.Pure
