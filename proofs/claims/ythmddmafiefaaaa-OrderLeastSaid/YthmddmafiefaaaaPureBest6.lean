import Derived.Test.YthmddmafiefaaaaOrx3
import Derived.Test.YthmddmafiefaaaaPureOrd
import Derived.Test.YthmddmafiefaaaaPureOrderCosts
import Derived.Test.YthmddmafiefaaaaPureBest4
namespace Go.Proofs.Ythmddmafiefaaaa.PureOrd
open Go.RowKit Go.Proofs.YthmddmafiefaaaaW.PrintWords Go.Proofs.YthmddmafiefaaaaW.PrintLast Go.Proofs.YthmddmafiefaaaaW.PrintMore
open Go.Proofs.Ythmddmafiefaaaa.Or
set_option linter.unusedVariables false
set_option linter.unusedSimpArgs false
/-- the best order of a set -/
def BestOf (R : Int → Int) (n : Nat) (S : Int) (p : List Int) : Prop :=
  Fits n 0 p ∧ sto 0 p = S ∧ ∀ p', Fits n 0 p' → sto 0 p' = S → LE R p p'
def Good (R : Int → Int) (n : Nat) (t : Int → List Int × Int) (S : Int) : Prop := BestOf R n S (t S).1 ∧ (t S).2 = Ct R 0 (t S).1
/-- is a row better than another? -/
def btr (l0 : List Int) (a0 : Int) (l1 : List Int) (a1 : Int) : Bool := if l1 = [] then true else if a0 < a1 then true else if a0 = a1 then lexLt l0 l1 else false
theorem better_ev (l0 : List Int) (a0 : Int) (l1 : List Int) (a1 : Int) (h : l0.length ≤ 10) : Ev (fun k => order_plan_better.f k l0 a0 l1 a1) (btr l0 a0 l1 a1) := by
  refine ⟨11, fun k hk => ?_⟩
  obtain ⟨d, rfl⟩ : ∃ d, k = 11 + d := ⟨k - 11, by omega⟩
  simp only [order_plan_better.f, btr]
  split
  · rfl
  · split
    · rfl
    · split
      · obtain ⟨r, hr, hl⟩ := compare_f l0 l1 h d
        rw [hr, Option.bind_some]
        congr 1
        rw [Bool.eq_iff_iff, decide_eq_true_iff]
        exact hl
      · rfl
theorem two_pos {n : Nat} (hn : n ≤ 6) : (0 : Int) < 2 ^ n := by
  have : ∀ n : Fin 7, (0 : Int) < 2 ^ n.val := by decide +kernel
  exact this ⟨n, by omega⟩
theorem fits_len {n : Nat} (hn : n ≤ 6) {p : List Int} (h : Fits n 0 p) : p.length = cnt (sto 0 p) := by
  have := (sto_facts hn p 0 (Int.le_refl _) (two_pos hn) h).2.2.1
  rw [cnt_zero] at this
  omega
theorem fits_bd {n : Nat} (hn : n ≤ 6) {p : List Int} (h : Fits n 0 p) : 0 ≤ sto 0 p ∧ sto 0 p < 2 ^ n := by
  have := sto_facts hn p 0 (Int.le_refl _) (two_pos hn) h
  exact ⟨this.1, this.2.1⟩
theorem cnt_le (s : Int) : cnt s ≤ 6 := by
  have := List.length_filter_le (fun (u : Nat) => mem s (u : Int)) (List.range 6)
  simpa [cnt] using this
theorem fits_end {n : Nat} (hn : n ≤ 6) {q : List Int} {a : Int} (h : Fits n 0 (q ++ [a])) : Fits n 0 q ∧ 0 ≤ a ∧ a < n ∧ mem (sto 0 q) a = false ∧ sto 0 (q ++ [a]) = ins (sto 0 q) a ∧ del (sto 0 (q ++ [a])) a = sto 0 q ∧ mem (sto 0 (q ++ [a])) a = true := by
  rw [Fits_append] at h
  obtain ⟨h1, h2, h3, h4, _⟩ := h
  have hb := fits_bd hn h1
  have e := ins_facts hn hb.1 hb.2 h2 h3 h4
  have e1 : sto 0 (q ++ [a]) = ins (sto 0 q) a := by rw [sto_append]; rfl
  refine ⟨h1, h2, h3, h4, e1, ?_, ?_⟩
  · rw [e1]; exact e.2.2.2.1
  · rw [e1, e.2.2.2.2 a h2 (by omega)]; simp
theorem lexLt_neg {p q r : List Int} (h : lexLt q p = false) (h' : lexLt r q = false) : lexLt r p = false := by
  cases c : lexLt r p with
  | false => rfl
  | true =>
    cases d : lexLt q r with
    | true => rw [lexLt_trans q r p d c] at h; cases h
    | false => rw [lexLt_tri q r d h', c] at h; cases h
/-- What stands about a set whose last tables below i have been tried. -/
def Part (R : Int → Int) (n : Nat) (t : Int → List Int × Int) (s i : Int) : Prop :=
  (t s = plan0 ∧ ∀ u : Int, 0 ≤ u → u < i → mem s u = false) ∨
  ((t s).1 ≠ [] ∧ Fits n 0 (t s).1 ∧ sto 0 (t s).1 = s ∧ (t s).2 = Ct R 0 (t s).1 ∧ ∀ q a, a < i → Fits n 0 (q ++ [a]) → sto 0 (q ++ [a]) = s → LE R (t s).1 (q ++ [a]))
theorem part_done {R : Int → Int} {n : Nat} (hn : n ≤ 6) {t : Int → List Int × Int} {s : Int} (s0 : 0 ≤ s) (s1 : s < 2 ^ n) (h : Part R n t s n) : Good R n t s := by
  rcases h with ⟨h1, h2⟩ | ⟨h1, h2, h3, h4, h5⟩
  · have hs : s = 0 := by
      by_cases c : 0 < s
      · obtain ⟨u, u0, u1, hu⟩ := used hn c s1
        rw [h2 u u0 u1] at hu
        cases hu
      · omega
    subst hs
    unfold Good
    rw [h1]
    refine ⟨⟨trivial, rfl, fun p' hp hs => ?_⟩, rfl⟩
    have := fits_len hn hp
    rw [hs, cnt_zero] at this
    rw [List.eq_nil_of_length_eq_zero this]
    exact LE_refl _
  · refine ⟨⟨h2, h3, fun p' hp hs => ?_⟩, h4⟩
    rcases List.eq_nil_or_concat p' with e | ⟨q, a, e⟩
    · subst e
      have e1 : s = 0 := hs.symm
      have : (t s).1.length = 0 := by rw [fits_len hn h2, h3, e1, cnt_zero]
      exact absurd (List.eq_nil_of_length_eq_zero this) h1
    · subst e
      rw [List.concat_eq_append] at *
      exact h5 q a (fits_end hn hp).2.2.1 hp hs
theorem part_skip {R : Int → Int} {n : Nat} (hn : n ≤ 6) {t : Int → List Int × Int} {s i : Int} (h : Part R n t s i) (hm : mem s i = false) : Part R n t s (i + 1) := by
  rcases h with ⟨h1, h2⟩ | ⟨h1, h2, h3, h4, h5⟩
  · refine .inl ⟨h1, fun u u0 u1 => ?_⟩
    by_cases e : u = i
    · rw [e]; exact hm
    · exact h2 u u0 (by omega)
  · refine .inr ⟨h1, h2, h3, h4, fun q a ha hf hs => ?_⟩
    by_cases e : a = i
    · subst e
      have := (fits_end hn hf).2.2.2.2.2.2
      rw [hs, hm] at this
      cases this
    · exact h5 q a (by omega) hf hs
theorem part_step {R : Int → Int} {n : Nat} (hn : n ≤ 6) {t : Int → List Int × Int} {s i : Int} (s0 : 0 ≤ s) (s1 : s < 2 ^ n) (i0 : 0 ≤ i) (i1 : i < n) (h : Part R n t s i) (hm : mem s i = true) (hg : Good R n t (del s i)) :
    Part R n (if btr ((t (del s i)).1 ++ [i]) ((t (del s i)).2 + R s) (t s).1 (t s).2 = true then tabSet t s ((t (del s i)).1 ++ [i], (t (del s i)).2 + R s) else t) s (i + 1) := by
  obtain ⟨⟨g1, g2, g3⟩, g4⟩ := hg
  obtain ⟨d0, d1, d2, d3⟩ := del_facts hn s0 s1 i0 i1 hm
  have hfit : Fits n 0 ((t (del s i)).1 ++ [i]) := by rw [Fits_append]; exact ⟨g1, i0, i1, by rw [g2]; exact d3, trivial⟩
  have hsto : sto 0 ((t (del s i)).1 ++ [i]) = s := by rw [sto_append, g2]; exact d2
  have hct : (t (del s i)).2 + R s = Ct R 0 ((t (del s i)).1 ++ [i]) := by rw [Ct_append, g2, g4]; simp only [Ct, d2]; omega
  have hbest : ∀ q, Fits n 0 (q ++ [i]) → sto 0 (q ++ [i]) = s → LE R ((t (del s i)).1 ++ [i]) (q ++ [i]) := by
    intro q hf hs
    have e := fits_end hn hf
    have e1 : sto 0 q = del s i := by rw [← e.2.2.2.2.2.1, hs]
    have l1 := fits_len hn g1
    have l2 := fits_len hn e.1
    rw [g2] at l1
    rw [e1] at l2
    unfold LE
    rw [Ct_append, Ct_append, g2, e1, lexLt_end _ _ _ (by omega)]
    rcases g3 q e.1 e1 with h | ⟨h, h'⟩
    · exact .inl (by omega)
    · exact .inr ⟨by omega, h'⟩
  rw [hct]
  generalize hcand : (t (del s i)).1 ++ [i] = cand at *
  have hne : cand ≠ [] := by rw [← hcand]; simp
  have new : ∀ (hb : ∀ q a, a < i → Fits n 0 (q ++ [a]) → sto 0 (q ++ [a]) = s → LE R cand (q ++ [a])), Part R n (tabSet t s (cand, Ct R 0 cand)) s (i + 1) := by
    intro hb
    have e : tabSet t s (cand, Ct R 0 cand) s = (cand, Ct R 0 cand) := if_pos rfl
    unfold Part
    rw [e]
    refine .inr ⟨hne, hfit, hsto, rfl, fun q a ha hf hs => ?_⟩
    by_cases e : a = i
    · subst e; exact hbest q hf hs
    · exact hb q a (by omega) hf hs
  rcases h with ⟨h1, h2⟩ | ⟨h1, h2, h3, h4, h5⟩
  · have e : btr cand (Ct R 0 cand) (t s).1 (t s).2 = true := by rw [h1]; rfl
    rw [if_pos e]
    refine new fun q a ha hf hs => ?_
    have e2 := fits_end hn hf
    have := e2.2.2.2.2.2.2
    rw [hs, h2 a e2.2.1 ha] at this
    cases this
  · have e : btr cand (Ct R 0 cand) (t s).1 (t s).2 = (if Ct R 0 cand < Ct R 0 (t s).1 then true else if Ct R 0 cand = Ct R 0 (t s).1 then lexLt cand (t s).1 else false) := by
      unfold btr; rw [if_neg h1, h4]
    rw [e]
    have old : (∀ q, Fits n 0 (q ++ [i]) → sto 0 (q ++ [i]) = s → LE R (t s).1 (q ++ [i])) → Part R n t s (i + 1) := by
      intro hb
      refine .inr ⟨h1, h2, h3, h4, fun q a ha hf hs => ?_⟩
      by_cases e : a = i
      · subst e; exact hb q hf hs
      · exact h5 q a (by omega) hf hs
    by_cases c1 : Ct R 0 cand < Ct R 0 (t s).1
    · rw [if_pos c1, if_pos rfl]
      exact new fun q a ha hf hs => by
        have := LE_cost (h5 q a ha hf hs)
        exact .inl (by omega)
    · rw [if_neg c1]
      by_cases c2 : Ct R 0 cand = Ct R 0 (t s).1
      · rw [if_pos c2]
        cases c3 : lexLt cand (t s).1 with
        | true =>
          rw [if_pos rfl]
          refine new fun q a ha hf hs => ?_
          refine LE_trans (q := (t s).1) (.inr ⟨c2, ?_⟩) (h5 q a ha hf hs)
          cases c4 : lexLt (t s).1 cand with
          | false => rfl
          | true => have := lexLt_trans _ _ _ c3 c4; rw [lexLt_irrefl] at this; cases this
        | false =>
          rw [if_neg (by simp)]
          exact old fun q hf hs => LE_trans (q := cand) (.inr ⟨c2.symm, c3⟩) (hbest q hf hs)
      · rw [if_neg c2, if_neg (by simp)]
        exact old fun q hf hs => LE_trans (q := cand) (.inl (by omega)) (hbest q hf hs)
theorem tab_l1 {l0 : List Int} {l1 : List S39} {l2 : List Int} (ok : Ok l0 l1 l2) (hl : l1.length ≤ 20) (wh N s : Int) (s0 : 0 ≤ s) (s1 : s < 2 ^ l0.length) :
    ∀ (m : Nat) (i : Int) (t : Int → List Int × Int), 0 ≤ i → i ≤ l0.length → (l0.length : Int) - i ≤ m →
      (∀ S : Int, 0 ≤ S → S < s → Good (Rw l0 l1 l2) l0.length t S) → (∀ S : Int, s < S → t S = plan0) → Part (Rw l0 l1 l2) l0.length t s i →
      ∃ t', (∀ S : Int, 0 ≤ S → S < s + 1 → Good (Rw l0 l1 l2) l0.length t' S) ∧ (∀ S : Int, s < S → t' S = plan0) ∧
        ∀ r, Ev (fun k => order_Best.l0 k l0 l1 l2 wh t' N (s + 1)) r → Ev (fun k => order_Best.l1 k l0 l1 l2 wh t N s (l0.length : Int) i) r := by
  have h6 := ok.six
  have h64 := two_n h6
  have fin : ∀ (t : Int → List Int × Int), (∀ S : Int, 0 ≤ S → S < s → Good (Rw l0 l1 l2) l0.length t S) → (∀ S : Int, s < S → t S = plan0) → Part (Rw l0 l1 l2) l0.length t s l0.length →
      ∃ t', (∀ S : Int, 0 ≤ S → S < s + 1 → Good (Rw l0 l1 l2) l0.length t' S) ∧ (∀ S : Int, s < S → t' S = plan0) ∧
        ∀ r, Ev (fun k => order_Best.l0 k l0 l1 l2 wh t' N (s + 1)) r → Ev (fun k => order_Best.l1 k l0 l1 l2 wh t N s (l0.length : Int) (l0.length : Int)) r := by
    intro t hg hp hpart
    refine ⟨t, fun S S0 S1 => ?_, hp, fun r hr => ?_⟩
    · by_cases e : S = s
      · rw [e]; exact part_done h6 s0 s1 hpart
      · exact hg S S0 (by omega)
    · refine hr.step 0 fun k _ => ?_
      rw [order_Best.l1, if_neg (by omega), wrap64_id (x := s + 1) (by omega) (by omega)]
  intro m
  induction m with
  | zero =>
    intro i t h0 h1 h2 hg hp hpart
    have e : i = l0.length := by omega
    subst e
    exact fin t hg hp hpart
  | succ m ih =>
    intro i t h0 h1 h2 hg hp hpart
    by_cases c : i < (l0.length : Int)
    · cases hm : mem s i with
      | false =>
        obtain ⟨t', a1, a2, a3⟩ := ih (i + 1) t (by omega) (by omega) (by omega) hg hp (part_skip h6 hpart hm)
        refine ⟨t', a1, a2, fun r hr => (a3 r hr).step 0 fun k _ => ?_⟩
        unfold mem at hm
        rw [order_Best.l1, if_pos c, has_f _ _ h0, Option.bind_some, hm, if_neg (by simp), wrap64_id (x := i + 1) (by omega) (by omega)]
      | true =>
        obtain ⟨d0, d1, d2, d3⟩ := del_facts h6 s0 s1 h0 c hm
        have hgd := hg (del s i) d0 d1
        have hps := part_step h6 s0 s1 h0 c hpart hm hgd
        have hlen : (t (del s i)).1.length ≤ 6 := by rw [fits_len h6 hgd.1.1]; exact cnt_le _
        have hcb := Ct_bd (R := Rw l0 l1 l2) (fun m => Rw_bd ok hl m) (t (del s i)).1 0
        have hrb := Rw_bd ok hl s
        have hw : wrap64 ((t (del s i)).2 + Rw l0 l1 l2 s) = (t (del s i)).2 + Rw l0 l1 l2 s := by
          rw [hgd.2]; exact wrap64_id (by omega) (by omega)
        generalize ht2 : (if btr ((t (del s i)).1 ++ [i]) ((t (del s i)).2 + Rw l0 l1 l2 s) (t s).1 (t s).2 = true then tabSet t s ((t (del s i)).1 ++ [i], (t (del s i)).2 + Rw l0 l1 l2 s) else t) = t2 at hps
        have hoth : ∀ S, S ≠ s → t2 S = t S := by
          intro S hS
          rw [← ht2]
          split
          · exact if_neg hS
          · rfl
        obtain ⟨t', a1, a2, a3⟩ := ih (i + 1) t2 (by omega) (by omega) (by omega)
          (fun S S0 S1 => by have := hg S S0 S1; unfold Good at *; rw [hoth S (by omega)]; exact this) (fun S hS => by rw [hoth S (by omega)]; exact hp S hS) hps
        refine ⟨t', a1, a2, fun r hr => ?_⟩
        have h7 := a3 r hr
        have hm2 := hm
        unfold mem at hm2
        have hrows : Ev (fun k => order_Rows.f k l0 l1 l2 s) (Rw l0 l1 l2 s) := ⟨30, fun k hk => by
          obtain ⟨d, rfl⟩ : ∃ d, k = 30 + d := ⟨k - 30, by omega⟩
          exact rows_Rw ok hl s d⟩
        have hbt := better_ev ((t (del s i)).1 ++ [i]) ((t (del s i)).2 + Rw l0 l1 l2 s) (t s).1 (t s).2 (by simp; omega)
        have hinner := hbt.bind (g := fun k bt => order_Best.l1 k l0 l1 l2 wh (if bt = true then tabSet t s ((t (del s i)).1 ++ [i], (t (del s i)).2 + Rw l0 l1 l2 s) else t) N s (l0.length : Int) (i + 1)) (r := r) (by rw [ht2]; exact h7)
        have houter := hrows.bind (g := fun k rows => (order_plan_better.f k ((t (del s i)).1 ++ [i]) (wrap64 ((t (del s i)).2 + rows)) (t s).1 (t s).2).bind fun bt => order_Best.l1 k l0 l1 l2 wh (if bt = true then tabSet t s ((t (del s i)).1 ++ [i], wrap64 ((t (del s i)).2 + rows)) else t) N s (l0.length : Int) (i + 1)) (r := r) (by simp only [hw]; exact hinner)
        refine houter.step 0 fun k _ => ?_
        rw [order_Best.l1, if_pos c, has_f _ _ h0, Option.bind_some, hm2, if_pos rfl, if_pos h0]
        change (if 0 ≤ del s i then (if del s i < 64 then (if (t (del s i)).1.length ≤ 1000 then _ else _) else _) else _) = _
        rw [if_pos d0, if_pos (by omega), if_pos (by omega), wrap64_id (x := i + 1) (by omega) (by omega)]
        rfl
    · have e : i = l0.length := by omega
      subst e
      exact fin t hg hp hpart
theorem tab_l0 {l0 : List Int} {l1 : List S39} {l2 : List Int} (ok : Ok l0 l1 l2) (hl : l1.length ≤ 20) :
    ∀ (m : Nat) (s : Int) (t : Int → List Int × Int), 0 ≤ s → s ≤ 2 ^ l0.length → (2 : Int) ^ l0.length - s ≤ m →
      (∀ S : Int, 0 ≤ S → S < s → Good (Rw l0 l1 l2) l0.length t S) → (∀ S : Int, s ≤ S → t S = plan0) →
      ∃ p, BestOf (Rw l0 l1 l2) l0.length (2 ^ l0.length - 1) p ∧ Ev (fun k => order_Best.l0 k l0 l1 l2 (2 ^ l0.length - 1) t (2 ^ l0.length) s) (p, Ct (Rw l0 l1 l2) 0 p, 0) := by
  have h6 := ok.six
  have h64 := two_n h6
  have hpos := two_pos h6
  have fin : ∀ t, (∀ S : Int, 0 ≤ S → S < 2 ^ l0.length → Good (Rw l0 l1 l2) l0.length t S) → ∃ p, BestOf (Rw l0 l1 l2) l0.length (2 ^ l0.length - 1) p ∧ Ev (fun k => order_Best.l0 k l0 l1 l2 (2 ^ l0.length - 1) t (2 ^ l0.length) (2 ^ l0.length)) (p, Ct (Rw l0 l1 l2) 0 p, 0) := by
    intro t hg
    have := hg (2 ^ l0.length - 1) (by omega) (by omega)
    refine ⟨_, this.1, Ev.pure 1 fun k hk => ?_⟩
    obtain ⟨k, rfl⟩ : ∃ j, k = j + 1 := ⟨k - 1, by omega⟩
    rw [order_Best.l0, if_neg (by omega), if_pos (by omega), if_pos (by omega), this.2]
  intro m
  induction m with
  | zero =>
    intro s t h0 h1 h2 hg hp
    have e : s = 2 ^ l0.length := by omega
    subst e
    exact fin t hg
  | succ m ih =>
    intro s t h0 h1 h2 hg hp
    by_cases c : s < 2 ^ l0.length
    · obtain ⟨t', a1, a2, a3⟩ := tab_l1 ok hl (2 ^ l0.length - 1) (2 ^ l0.length) s h0 c l0.length 0 t (Int.le_refl _) (by omega) (by omega) hg (fun S hS => hp S (by omega)) (.inl ⟨hp s (Int.le_refl _), fun u _ _ => by omega⟩)
      obtain ⟨p, hb, hev⟩ := ih (s + 1) t' (by omega) (by omega) (by omega) a1 (fun S hS => a2 S (by omega))
      refine ⟨p, hb, (a3 _ hev).step 0 fun k _ => ?_⟩
      rw [order_Best.l0, if_pos c, if_pos h0, if_pos (by omega)]
    · have e : s = 2 ^ l0.length := by omega
      subst e
      exact fin t hg
theorem order_Best_ev {l0 : List Int} {l1 : List S39} {l2 : List Int} (ok : Ok l0 l1 l2) (hl : l1.length ≤ 20) (hmay : Ev (fun k => quaysideref24_May.f k l0 l1 l2) true) :
    ∃ p, BestOf (Rw l0 l1 l2) l0.length (2 ^ l0.length - 1) p ∧ Ev (fun k => order_Best.f k l0 l1 l2) (p, Ct (Rw l0 l1 l2) 0 p, 0) := by
  have h6 := ok.six
  have h64 := two_n h6
  have hpos := two_pos h6
  obtain ⟨p, hb, hev⟩ := tab_l0 ok hl 64 0 (fun _ => plan0) (Int.le_refl _) (by omega) (by omega) (fun S _ _ => by omega) (fun S _ => rfl)
  refine ⟨p, hb, ?_⟩
  have hs : shl .i64 1 (l0.length : Int) = 2 ^ l0.length := by
    have : ∀ n : Fin 7, shl .i64 1 (n.val : Int) = 2 ^ n.val := by decide +kernel
    exact this ⟨l0.length, by omega⟩
  have h2 := hmay.bind (g := fun k ok => if ok = true then order_Best.l0 k l0 l1 l2 (2 ^ l0.length - 1) (fun _ => plan0) (2 ^ l0.length) 0 else some ([], 0, 1)) (r := (p, Ct (Rw l0 l1 l2) 0 p, 0)) (by simpa using hev)
  refine h2.same 0 fun k _ => ?_
  unfold order_Best.f
  rw [may_eq l0 l1 l2 (by omega) hl, hs, wrap64_id (x := 2 ^ l0.length - 1) (by omega) (by omega), show (2 : Int) ^ l0.length - 1 + 1 = 2 ^ l0.length from by omega, wrap64_id (x := 2 ^ l0.length) (by omega) (by omega)]
end Go.Proofs.Ythmddmafiefaaaa.PureOrd
