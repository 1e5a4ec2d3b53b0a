import Derived.Test.YthmddmafiefaaaaOrx6
import Derived.Test.YthmddmafiefaaaaPureOrd
import Derived.Test.YthmddmafiefaaaaPureOrderCosts
import Derived.Test.YthmddmafiefaaaaPureBest4
namespace Go.Proofs.Ythmddmafiefaaaa.PureOrd
open Go.RowKit Go.Proofs.YthmddmafiefaaaaW.PrintWords Go.Proofs.YthmddmafiefaaaaW.PrintLast Go.Proofs.YthmddmafiefaaaaW.PrintMore
open Go.Proofs.Ythmddmafiefaaaa.Or
set_option linter.unusedVariables false
set_option linter.unusedSimpArgs false
/-- the best of all that begin so -/
def BestFrom (R : Int → Int) (n : Nat) (b : List Int) (D : Nat) (q : List Int) : Prop :=
  Fits n 0 (b ++ q) ∧ q.length = D ∧ ∀ q', Fits n 0 (b ++ q') → q'.length = D → LE R (b ++ q) (b ++ q')
theorem best_l1 (l0 : List Int) (l1 : List S39) (l2 b x12 : List Int) (x13 x14 : Int) (hb : b.length ≤ 10) (r : List Int × Int) : ∀ (m j : Nat) (x15 : Bool), j ≤ b.length → b.length - j ≤ m →
    Ev (fun k => quaysideref24_best.l1 k l0 l1 l2 b x12 x13 x14 (x15 || (b.drop j).contains x14) (b.length : Int)) r → Ev (fun k => quaysideref24_best.l1 k l0 l1 l2 b x12 x13 x14 x15 (j : Int)) r
  | 0, j, x15, h1, h2, h => by
    have e : j = b.length := by omega
    subst e
    simpa [List.drop_length] using h
  | m + 1, j, x15, h1, h2, h => by
    by_cases c : j < b.length
    · rw [drop_cons b j c, List.contains_cons, ← Bool.or_assoc] at h
      have ih := best_l1 l0 l1 l2 b x12 x13 x14 hb r m (j + 1) _ (by omega) (by omega) h
      refine ih.step 0 fun k _ => ?_
      rw [quaysideref24_best.l1, if_pos (by omega)]
      rw [wrap64_id (x := (j : Int) + 1) (by omega) (by omega), show ((j + 1 : Nat) : Int) = (j : Int) + 1 from by omega]
      cases x15 with
      | true => rw [if_pos rfl, Bool.true_or]
      | false =>
        rw [if_neg (by simp), if_pos (by omega), Bool.false_or]
        have : (rd b (j : Int) == x14) = (x14 == rd b (j : Int)) := by rw [Bool.eq_iff_iff]; simp; exact eq_comm
        rw [this]
    · have e : j = b.length := by omega
      subst e
      simpa [List.drop_length] using h
theorem best_l0 {l0 : List Int} {l1 : List S39} {l2 : List Int} (ok : Ok l0 l1 l2) (hl : l1.length ≤ 20) (b : List Int) (D : Nat) (hb : Fits l0.length 0 b) (hlen : b.length + (D + 1) = l0.length)
    (ihD : ∀ t : Int, 0 ≤ t → t < l0.length → mem (sto 0 b) t = false → ∃ q, BestFrom (Rw l0 l1 l2) l0.length (b ++ [t]) D q ∧ Ev (fun k => quaysideref24_best.f k l0 l1 l2 (b ++ [t])) (b ++ [t] ++ q, Ct (Rw l0 l1 l2) 0 (b ++ [t] ++ q))) :
    ∀ (m : Nat) (i : Int) (out : List Int) (least : Int), 0 ≤ i → i ≤ l0.length → (l0.length : Int) - i ≤ m →
      ((least = -1 ∧ ∀ u : Int, 0 ≤ u → u < i → mem (sto 0 b) u = true) ∨
        ∃ a q, 0 ≤ a ∧ a < i ∧ out = b ++ a :: q ∧ q.length = D ∧ Fits l0.length 0 out ∧ least = Ct (Rw l0 l1 l2) 0 out ∧ ∀ a' q', a' < i → q'.length = D → Fits l0.length 0 (b ++ a' :: q') → LE (Rw l0 l1 l2) out (b ++ a' :: q')) →
      ∃ q, BestFrom (Rw l0 l1 l2) l0.length b (D + 1) q ∧ Ev (fun k => quaysideref24_best.l0 k l0 l1 l2 b out least i) (b ++ q, Ct (Rw l0 l1 l2) 0 (b ++ q)) := by
  have h6 := ok.six
  have hz : (0 : Int) < 2 ^ l0.length := by
    have : ∀ n : Fin 7, (0 : Int) < 2 ^ n.val := by decide +kernel
    exact this ⟨l0.length, by omega⟩
  obtain ⟨s0, s1, s2, s3⟩ := sto_facts h6 b 0 (Int.le_refl _) hz hb
  rw [cnt_zero, Nat.zero_add] at s2
  have hmb : ∀ u : Int, 0 ≤ u → u < 6 → mem (sto 0 b) u = b.contains u := by
    intro u u0 u1
    rw [s3 u u0 u1]
    have := mem_zero ⟨u.toNat, by omega⟩
    simp only [Int.toNat_of_nonneg u0] at this
    rw [this, Bool.false_or]
  have hfit : ∀ (a : Int) (q : List Int), Fits l0.length 0 (b ++ a :: q) → 0 ≤ a ∧ a < l0.length ∧ mem (sto 0 b) a = false := by
    intro a q h
    rw [Fits_append] at h
    exact ⟨h.2.1, h.2.2.1, h.2.2.2.1⟩
  intro m
  induction m with
  | zero =>
    intro i out least h0 h1 h2 hinv
    have e : i = l0.length := by omega
    subst e
    rcases hinv with ⟨_, hinv⟩ | ⟨a, q, a0, a1, rfl, hq, hf, rfl, hall⟩
    · obtain ⟨u, u0, u1, hu⟩ := unused h6 s0 s1 (by omega)
      rw [hinv u u0 u1] at hu
      cases hu
    · refine ⟨a :: q, ⟨hf, by simp [hq], fun q' hf' hq' => ?_⟩, Ev.pure 1 fun k hk => ?_⟩
      · cases q' with
        | nil => simp at hq'
        | cons a' q' => exact hall a' q' (hfit a' q' hf').2.1 (by simpa using hq') hf'
      · obtain ⟨k, rfl⟩ : ∃ j, k = j + 1 := ⟨k - 1, by omega⟩
        rw [quaysideref24_best.l0, if_neg (by omega)]
  | succ m ih =>
    intro i out least h0 h1 h2 hinv
    by_cases c : i < (l0.length : Int)
    · have key : ∀ out' least', ((least' = -1 ∧ ∀ u : Int, 0 ≤ u → u < i + 1 → mem (sto 0 b) u = true) ∨
          ∃ a q, 0 ≤ a ∧ a < i + 1 ∧ out' = b ++ a :: q ∧ q.length = D ∧ Fits l0.length 0 out' ∧ least' = Ct (Rw l0 l1 l2) 0 out' ∧ ∀ a' q', a' < i + 1 → q'.length = D → Fits l0.length 0 (b ++ a' :: q') → LE (Rw l0 l1 l2) out' (b ++ a' :: q')) →
          (∀ r, Ev (fun k => quaysideref24_best.l0 k l0 l1 l2 b out' least' (i + 1)) r → Ev (fun k => quaysideref24_best.l1 k l0 l1 l2 b out least i (b.contains i) (b.length : Int)) r) →
          ∃ q, BestFrom (Rw l0 l1 l2) l0.length b (D + 1) q ∧ Ev (fun k => quaysideref24_best.l0 k l0 l1 l2 b out least i) (b ++ q, Ct (Rw l0 l1 l2) 0 (b ++ q)) := by
        intro out' least' hinv' hstep
        obtain ⟨q, hq, hev⟩ := ih (i + 1) out' least' (by omega) (by omega) (by omega) hinv'
        refine ⟨q, hq, ?_⟩
        have h3 := best_l1 l0 l1 l2 b out least i (by omega) _ b.length 0 false (by omega) (by omega) (by simpa using hstep _ hev)
        refine h3.step 0 fun k _ => ?_
        rw [quaysideref24_best.l0, if_pos c]
        rfl
      cases hm : b.contains i with
      | true =>
        refine key out least ?_ ?_
        · rcases hinv with ⟨e, hinv⟩ | ⟨a, q, a0, a1, e1, hq, hf, e2, hall⟩
          · refine .inl ⟨e, fun u u0 u1 => ?_⟩
            by_cases e3 : u = i
            · subst e3; rw [hmb u u0 (by omega)]; exact hm
            · exact hinv u u0 (by omega)
          · refine .inr ⟨a, q, a0, by omega, e1, hq, hf, e2, fun a' q' ha' hq' hf' => ?_⟩
            by_cases e3 : a' = i
            · subst e3
              have := (hfit _ _ hf').2.2
              rw [hmb a' h0 (by omega), hm] at this
              cases this
            · exact hall a' q' (by omega) hq' hf'
        · intro r hr
          rw [hm]
          refine hr.step 0 fun k _ => ?_
          rw [quaysideref24_best.l1, if_neg (by omega), if_pos rfl, wrap64_id (x := i + 1) (by omega) (by omega)]
      | false =>
        have hmi : mem (sto 0 b) i = false := by rw [hmb i h0 (by omega)]; exact hm
        obtain ⟨q, hq, hev⟩ := ihD i h0 c hmi
        have e : ∀ q' : List Int, b ++ [i] ++ q' = b ++ i :: q' := fun q' => by simp
        obtain ⟨b1, b2, b3⟩ := hq
        rw [e] at b1 hev
        have b3' : ∀ q', Fits l0.length 0 (b ++ i :: q') → q'.length = D → LE (Rw l0 l1 l2) (b ++ i :: q) (b ++ i :: q') := by
          intro q' h h'
          have := b3 q' (by rw [e]; exact h) h'
          rwa [e, e] at this
        have hun : ∀ k, quaysideref24_best.l1 (k + 1) l0 l1 l2 b out least i false (b.length : Int) = ((quaysideref24_best.f k l0 l1 l2 (b ++ [i])).bind fun bt173 => (if least < 0 then (quaysideref24_best.l0 k l0 l1 l2 b bt173.1 bt173.2 (wrap64 (i + 1))) else (if bt173.2 < least then (quaysideref24_best.l0 k l0 l1 l2 b bt173.1 bt173.2 (wrap64 (i + 1))) else (quaysideref24_best.l0 k l0 l1 l2 b out least (wrap64 (i + 1)))))) := by
          intro k
          rw [quaysideref24_best.l1, if_neg (by omega), if_neg (by simp), if_pos (by simp; omega), Option.bind_some, if_pos (by simp; omega)]
          rfl
        have cp := (Ct_bd (R := Rw l0 l1 l2) (fun m => Rw_bd ok hl m) (b ++ i :: q) 0).1
        have hbind : ∀ (r : List Int × Int) (g : Nat → List Int × Int → Option (List Int × Int)), Ev (fun k => g k (b ++ i :: q, Ct (Rw l0 l1 l2) 0 (b ++ i :: q))) r → (∀ k, quaysideref24_best.l1 (k + 1) l0 l1 l2 b out least i false (b.length : Int) = (quaysideref24_best.f k l0 l1 l2 (b ++ [i])).bind (g k)) → Ev (fun k => quaysideref24_best.l1 k l0 l1 l2 b out least i false (b.length : Int)) r := by
          intro r g h1 h2
          exact (hev.bind (g := g) h1).step 0 fun k _ => h2 k
        rcases hinv with ⟨e1, hinv⟩ | ⟨a, qa, a0, a1, e1, hqa, hfa, e2, hall⟩
        · refine key (b ++ i :: q) (Ct (Rw l0 l1 l2) 0 (b ++ i :: q)) ?_ ?_
          · refine .inr ⟨i, q, h0, by omega, rfl, b2, b1, rfl, fun a' q' ha' hq' hf' => ?_⟩
            by_cases e3 : a' = i
            · subst e3; exact b3' q' hf' hq'
            · have h4 := hfit _ _ hf'
              rw [hinv a' h4.1 (by omega)] at h4
              cases h4.2.2
          · intro r hr
            rw [hm]
            refine hbind r _ (hr.same 0 fun k _ => ?_) hun
            simp only
            rw [if_pos (by omega), wrap64_id (x := i + 1) (by omega) (by omega)]
        · have cq := (Ct_bd (R := Rw l0 l1 l2) (fun m => Rw_bd ok hl m) out 0).1
          by_cases c2 : Ct (Rw l0 l1 l2) 0 (b ++ i :: q) < least
          · refine key (b ++ i :: q) (Ct (Rw l0 l1 l2) 0 (b ++ i :: q)) ?_ ?_
            · refine .inr ⟨i, q, h0, by omega, rfl, b2, b1, rfl, fun a' q' ha' hq' hf' => ?_⟩
              by_cases e3 : a' = i
              · subst e3; exact b3' q' hf' hq'
              · have := LE_cost (hall a' q' (by omega) hq' hf')
                exact .inl (by omega)
            · intro r hr
              rw [hm]
              refine hbind r _ (hr.same 0 fun k _ => ?_) hun
              simp only
              rw [if_neg (by omega), if_pos c2, wrap64_id (x := i + 1) (by omega) (by omega)]
          · refine key out least ?_ ?_
            · refine .inr ⟨a, qa, a0, by omega, e1, hqa, hfa, e2, fun a' q' ha' hq' hf' => ?_⟩
              by_cases e3 : a' = i
              · subst e3
                have h5 := LE_cost (b3' q' hf' hq')
                by_cases e4 : Ct (Rw l0 l1 l2) 0 out < Ct (Rw l0 l1 l2) 0 (b ++ a' :: q')
                · exact .inl e4
                · refine .inr ⟨by omega, ?_⟩
                  rw [e1, lexLt_pre]
                  simp only [lexLt, Bool.or_eq_false_iff, Bool.and_eq_false_iff, decide_eq_false_iff_not]
                  exact ⟨by omega, .inl (by omega)⟩
              · exact hall a' q' (by omega) hq' hf'
            · intro r hr
              rw [hm]
              refine hbind r _ (hr.same 0 fun k _ => ?_) hun
              simp only
              rw [if_neg (by omega), if_neg c2, wrap64_id (x := i + 1) (by omega) (by omega)]
    · exact (ih i out least h0 h1 (by omega) hinv)
theorem refcost_ev {l0 : List Int} {l1 : List S39} {l2 : List Int} (ok : Ok l0 l1 l2) (hl : l1.length ≤ 20) (hmay : Ev (fun k => quaysideref24_May.f k l0 l1 l2) true) (p : List Int) (hp : Fits l0.length 0 p) (hlen : p.length = l0.length) :
    Ev (fun k => quaysideref24_Cost.f k l0 l1 l2 p) (Ct (Rw l0 l1 l2) 0 p, 0) := by
  have h6 := ok.six
  obtain ⟨k0, h0⟩ := hmay
  refine ⟨k0 + 60, fun k hk => ?_⟩
  have := h0 k (by omega)
  obtain ⟨d, rfl⟩ : ∃ d, k = d + 60 := ⟨k - 60, by omega⟩
  simp only at this
  unfold quaysideref24_Cost.f
  show (quaysideref24_May.f (d + 60) l0 l1 l2).bind _ = _
  rw [this, Option.bind_some, if_pos rfl, show d + 60 = (d + 59) + 1 from by omega]
  rw [quaysideref24_Cost.j0, if_neg (by simp [hlen])]
  have := refcost_l0 ok hl p (by omega) 10 (d + 18) 0 0 0 (by omega) (by omega) (by omega) (by omega) (by simpa using hp)
  rw [show 10 + 31 + (d + 18) = d + 59 from by omega] at this
  simpa using this
theorem best_ev {l0 : List Int} {l1 : List S39} {l2 : List Int} (ok : Ok l0 l1 l2) (hl : l1.length ≤ 20) (hmay : Ev (fun k => quaysideref24_May.f k l0 l1 l2) true) : ∀ (D : Nat) (b : List Int), Fits l0.length 0 b → b.length + D = l0.length →
    ∃ q, BestFrom (Rw l0 l1 l2) l0.length b D q ∧ Ev (fun k => quaysideref24_best.f k l0 l1 l2 b) (b ++ q, Ct (Rw l0 l1 l2) 0 (b ++ q))
  | 0, b, hb, hlen => by
    refine ⟨[], ⟨by simpa using hb, rfl, fun q' _ h => ?_⟩, ?_⟩
    · rw [List.eq_nil_of_length_eq_zero h]; exact LE_refl _
    · obtain ⟨k0, h0⟩ := refcost_ev ok hl hmay b hb (by omega)
      refine ⟨k0 + 1, fun k hk => ?_⟩
      obtain ⟨k, rfl⟩ : ∃ j, k = j + 1 := ⟨k - 1, by omega⟩
      have := h0 k (by omega)
      simp only at this
      simp only
      rw [quaysideref24_best.f, if_pos (by omega), this, Option.bind_some]
      simp
  | D + 1, b, hb, hlen => by
    have h6 := ok.six
    obtain ⟨q, hq, hev⟩ := best_l0 ok hl b D hb hlen (fun t t0 t1 hm => best_ev ok hl hmay D (b ++ [t]) (by rw [Fits_append]; exact ⟨hb, t0, t1, hm, trivial⟩) (by simp; omega)) l0.length 0 [] (-1) (Int.le_refl _) (by omega) (by omega) (.inl ⟨rfl, fun u _ _ => by omega⟩)
    refine ⟨q, hq, hev.step 0 fun k _ => ?_⟩
    rw [quaysideref24_best.f, if_neg (by omega)]
end Go.Proofs.Ythmddmafiefaaaa.PureOrd
