/- What is split and joined again is the same (PageSplits): walked, it answers true. Condition: the number is of 64 bits. -/
import Derived.Test.YtinbppcfdmbclaaPageMade
namespace Go.Proofs.Ytinbppcfdmbclaa.Pg
open Go.RowKit Go.Proofs.YtinbppcfdmbclaaW.PrintWords Go.Proofs.YtinbppcfdmbclaaW.PrintLast Go.Proofs.YtinbppcfdmbclaaW.PrintMore
set_option linter.unusedVariables false
set_option linter.unusedSimpArgs false
theorem and_mask255s (a : Int) : ∃ k : Nat, Go.bits .and .i64 a 255 = (k : Int) ∧ k ≤ 255 := by
  have e : Go.bits .and .i64 a 255 = a % 256 := Aid.and_mask a 8 (by decide)
  exact ⟨(a % 256).toNat, by rw [e]; omega, by omega⟩
theorem few_l0 (l : List S66) : ∀ (d i k : Nat), 40 ≤ i + d → 2 * d + 3 ≤ k → ∃ b, quaysidelaw12_few.l0 k l (i : Int) = some b ∧ (b = true → l.length ≤ 40)
  | 0, i, k, h, hk => by
    obtain ⟨k, rfl⟩ : ∃ m, k = m + 1 + 1 := ⟨k - 2, by omega⟩
    simp only [quaysidelaw12_few.l0]
    by_cases hi : (i : Int) < (l.length : Int)
    · rw [if_pos hi]
      simp only [quaysidelaw12_few.j1]
      rw [if_neg (by simp; omega)]
      exact ⟨_, rfl, fun h => by have := of_decide_eq_true h; omega⟩
    · rw [if_neg hi]
      simp only [quaysidelaw12_few.j1]
      rw [if_neg (by simp)]
      exact ⟨_, rfl, fun h => by have := of_decide_eq_true h; omega⟩
  | d + 1, i, k, h, hk => by
    obtain ⟨k, rfl⟩ : ∃ m, k = m + 1 + 1 := ⟨k - 2, by omega⟩
    simp only [quaysidelaw12_few.l0]
    by_cases hi : (i : Int) < (l.length : Int)
    · rw [if_pos hi]
      simp only [quaysidelaw12_few.j1]
      by_cases h40 : (i : Int) < 40
      · rw [if_pos (decide_eq_true h40), if_pos (by omega), if_pos hi]
        by_cases c1 : (((rd_T66 l (i : Int)).f0).size : Int) > 200
        · rw [if_pos c1]; exact ⟨_, rfl, fun h => by cases h⟩
        · rw [if_neg c1]
          by_cases c2 : (((rd_T66 l (i : Int)).f1).size : Int) > 200
          · rw [if_pos c2]; exact ⟨_, rfl, fun h => by cases h⟩
          · rw [if_neg c2, show (i : Int) + 1 = ((i + 1 : Nat) : Int) from by omega, wrapn _ (by omega)]
            exact few_l0 l d (i + 1) k (by omega) (by omega)
      · rw [if_neg (by simp; omega)]
        exact ⟨_, rfl, fun h => by have := of_decide_eq_true h; omega⟩
    · rw [if_neg hi]
      simp only [quaysidelaw12_few.j1]
      rw [if_neg (by simp)]
      exact ⟨_, rfl, fun h => by have := of_decide_eq_true h; omega⟩
theorem few_f (l : List S66) : ∃ b, quaysidelaw12_few.f 90 l = some b ∧ (b = true → l.length ≤ 40) := few_l0 l 40 0 90 (by omega) (by omega)
/-- the key at a place -/
def keyAt (L : List S66) (k : Nat) : ByteArray := match L[k]? with
  | some c => c.f0
  | none => ⟨#[]⟩
def valAt (L : List S66) (k : Nat) : ByteArray := match L[k]? with
  | some c => c.f1
  | none => ⟨#[]⟩
theorem At_any {w : World} {g : Nat} {kind : UInt8} {L : List S66} (h : PGL w g kind L) (k : Nat) : Calls Try.prog 19 #[.pointer (some ⟨g, 0, none⟩), .int .i64 (k : Int)] w fun e w' => e = .returned (.tuple #[.string (keyAt L k), .string (valAt L k)]) ∧ Below w.heap.size w w' := by
  by_cases hk : k < L.length
  · have := At_cell h k hk
    rwa [show L[k].f0 = keyAt L k from by unfold keyAt; rw [List.getElem?_eq_getElem hk], show L[k].f1 = valAt L k from by unfold valAt; rw [List.getElem?_eq_getElem hk]] at this
  · have e0 : keyAt L k = ⟨#[]⟩ := by unfold keyAt; rw [List.getElem?_eq_none (by omega)]
    have e1 : valAt L k = ⟨#[]⟩ := by unfold valAt; rw [List.getElem?_eq_none (by omega)]
    rw [e0, e1]
    exact (At_none h (k : Int) (Or.inr (by omega))).mono fun e w' ⟨h1, h2⟩ => ⟨h1, by subst h2; exact Below.refl _ _⟩
theorem first_drop (L : List S66) (k : Nat) : firstK (L.drop k) = keyAt L k := by
  by_cases hk : k < L.length
  · rw [List.drop_eq_getElem_cons hk]
    unfold keyAt; rw [List.getElem?_eq_getElem hk]; rfl
  · rw [List.drop_of_length_le (by omega)]
    unfold keyAt; rw [List.getElem?_eq_none (by omega)]; rfl
theorem last_take (L : List S66) (k : Nat) (h0 : 0 < k) (hk : k ≤ L.length) : lastK (L.take k) = (L[k - 1]'(by omega)).f0 := by
  unfold lastK
  rw [List.getLast?_take, if_neg (by omega), List.getElem?_eq_getElem (by omega)]; rfl
/-- the first part, and the rest behind it -/
theorem join_back {L : List S66} (h : Cells L) (kind : UInt8) (k : Nat) : joinR kind (L.take k) kind (L.drop k) = (0, L) := by
  have hb : behindB (L.take k) (L.drop k) = true := by
    by_cases h1 : L.take k = []
    · simp [behindB, h1]
    · by_cases h2 : L.drop k = []
      · simp [behindB, h2]
      · have hk : k < L.length := by
          rcases Nat.lt_or_ge k L.length with h | h
          · exact h
          · exact absurd (List.drop_of_length_le h) h2
        have h0 : 0 < k := by
          rcases Nat.eq_zero_or_pos k with h | h
          · subst h; exact absurd rfl h1
          · exact h
        have e1 := last_take L k h0 (by omega)
        have e2 : firstK (L.drop k) = L[k].f0 := by rw [List.drop_eq_getElem_cons hk]; rfl
        have := asc_lt h.asc (k - 1) k (by omega) hk (by omega)
        simp only [behindB, e1, e2, this, Bool.or_true]
  unfold joinR
  rw [if_pos ⟨rfl, hb⟩, List.take_append_drop, if_pos h.fits]
/-- the rest, and the first part behind it: they are told -/
theorem join_wrong {L : List S66} (h : Cells L) (kind : UInt8) (k : Nat) (h0 : 0 < k) (hk : k < L.length) : joinR kind (L.drop k) kind (L.take k) = (1, L.drop k) := by
  have hb : behindB (L.drop k) (L.take k) = false := by
    have h1 : (L.drop k).isEmpty = false := by rw [List.drop_eq_getElem_cons hk]; rfl
    have h2 : (L.take k).isEmpty = false := by
      obtain ⟨j, rfl⟩ : ∃ j, k = j + 1 := ⟨k - 1, by omega⟩
      cases L with
      | nil => simp at hk
      | cons c t => rfl
    have e1 : lastK (L.drop k) = (L[L.length - 1]'(by omega)).f0 := by
      unfold lastK
      rw [List.getLast?_drop, if_neg (by omega), List.getLast?_eq_getElem?, List.getElem?_eq_getElem (by omega)]
    have e2 : firstK (L.take k) = (L[0]'(by omega)).f0 := by
      obtain ⟨j, rfl⟩ : ∃ j, k = j + 1 := ⟨k - 1, by omega⟩
      cases L with
      | nil => simp at hk
      | cons c t => rfl
    have := less_asymm (asc_lt h.asc 0 (L.length - 1) (by omega) (by omega) (by omega))
    simp only [behindB, h1, h2, e1, e2, this, Bool.or_false]
  unfold joinR
  rw [if_neg (by simp [hb])]
set_option maxRecDepth 100000 in
set_option maxHeartbeats 1000000 in
theorem Splits_ok (w : World) (A : Option Addr) (c : Nat) (l : List S66) (at' : Int) (hr : Kd.C k66 w A l.length l) (hc : l.length ≤ c) : Calls Try.prog 6 #[.slice A l.length c, .int .i64 at'] w fun e w' => e = .returned (.bool true) ∧ Below w.heap.size w w' := by
  obtain ⟨b, hfew, hb⟩ := few_f l
  have HF := Aside0.mk (quaysidelaw12_few.calls 90 A c l b w hr hc hfew)
  obtain ⟨sk, hsk, hsk2⟩ := and_mask255s at'
  have HR := Aside0.mk hr
  clear hr hfew
  cases b with
  | false =>
    clear hb
    go_enter Try.func6, Try.ntmps6
    go_wp2_with fail
    refine HF.out.mono ?_; rintro e w1 ⟨rfl, ⟨nd, rfl⟩⟩
    go_wp2_with fail
    refine (awake_ok _).mono ?_; rintro e w2 ⟨rfl, hb2⟩
    go_wp2_with fail
    go_ret
    exact ⟨rfl, below_step (pw_below_drewN (Below.refl _ _) nd) hb2⟩
  | true =>
    have hl := hb rfl
    clear hb
    go_enter Try.func6, Try.ntmps6
    go_wp2_with fail
    refine HF.out.mono ?_; rintro e w1 ⟨rfl, ⟨nd, rfl⟩⟩
    go_wp2_with fail
    refine (made_ok _ A c l (Kd.C_drewN HR.out nd) hc hl).mono ?_; rintro e w1 ⟨g, vq, L, rfl, hg, hp1, ho1, hb1⟩
    obtain ⟨Av, cv, hv⟩ := Kd.R_slice ho1
    subst hv
    have H1 := Aside0.mk hp1
    have B1 := Aside0.mk (below_step (pw_below_drewN (Below.refl w.heap.size w) nd) hb1)
    have HG := Aside0.mk (show w.heap.size ≤ g from by simpa using hg)
    clear hp1 ho1 hb1 hg HF HR
    go_wp2_with fail
    obtain ⟨s0, hs0⟩ : ∃ s0, bytesR (encB (by_ 7) L) = s0 := ⟨_, rfl⟩
    have HS := Aside0.mk hs0
    have hsh := H1.out.short.1
    obtain ⟨kk, hkk⟩ : ∃ kk, sk % (L.length + 1) = kk := ⟨_, rfl⟩
    have hkl : kk ≤ L.length := by have := Nat.mod_lt sk (show 0 < L.length + 1 by omega); omega
    have q0 : (sk : Int) % ((L.length : Int) + 1) = (kk : Int) := by rw [← hkk, Int.natCast_emod]; rfl
    clear hs0 hkk
    have hB2 := Aside0.mk (below_alloc (Below.refl w1.heap.size w1) (.cells #[.int .i64 7, .slice Av L.length cv] 27))
    have H2 := Aside0.mk (H1.out.below hB2.out)
    have B2 := Aside0.mk (below_step B1.out hB2.out)
    refine (show Calls Try.prog 12 #[.pointer (some ⟨g, 0, none⟩)] _ fun e w' => e = .returned (.string s0) ∧ Below _ _ w' from by have := Bytes_pg H2.out.pg; rwa [HS.out] at this).mono ?_; rintro e w3 ⟨rfl, hb3⟩
    have H3 := Aside0.mk (H2.out.below hb3)
    have B3 := Aside0.mk (below_step B2.out hb3)
    clear hb3 H2 B2 hB2 H1 B1
    go_wp2_with fail
    refine (Len_L H3.out).mono ?_; rintro e wA ⟨rfl, rfl⟩
    go_wp2_with fail
    refine (At_any H3.out kk).mono ?_; rintro e w4 ⟨rfl, hb4⟩
    have H4 := Aside0.mk (H3.out.below hb4)
    have B4 := Aside0.mk (below_step B3.out hb4)
    clear hb4 H3 B3
    go_wp2_with fail
    refine (Split_ok H4.out kk hkl (by decide)).mono ?_; rintro e w5 ⟨g2, rfl, hg2, hp5, hq5, hb5⟩
    have H5 := Aside0.mk (And.intro hp5 hq5)
    have HNe := Aside0.mk (show g ≠ g2 from by have := H4.out.pg.lt; omega)
    have HCs := Aside0.mk H4.out.cells
    have B5 := Aside0.mk (BelX.below B4.out (Nat.le_trans HG.out (Nat.le_of_lt H4.out.pg.lt)) HG.out hb5)
    have HG2 := Aside0.mk (show w.heap.size ≤ g2 from Nat.le_trans B4.out.size hg2)
    have ht1 : (L.take kk).length = kk := by rw [List.length_take]; omega
    have ht2 : (L.drop kk).length = L.length - kk := List.length_drop
    have HL1 := Aside0.mk (show Calls Try.prog 21 #[.pointer (some ⟨g, 0, none⟩)] w5 fun e w' => e = .returned (.int .i64 (kk : Int)) ∧ w' = w5 from by have := Len_L hp5; rwa [ht1] at this)
    have HL2 := Aside0.mk (show Calls Try.prog 21 #[.pointer (some ⟨g2, 0, none⟩)] w5 fun e w' => e = .returned (.int .i64 ((L.length : Int) - (kk : Int))) ∧ w' = w5 from by have := Len_L hq5; rwa [ht2, show ((L.length - kk : Nat) : Int) = (L.length : Int) - (kk : Int) from by omega] at this)
    have HA2 := Aside0.mk (show Calls Try.prog 19 #[.pointer (some ⟨g2, 0, none⟩), .int .i64 0] w5 fun e w' => e = .returned (.tuple #[.string (keyAt L kk), .string (firstV (L.drop kk))]) ∧ Below w5.heap.size w5 w' from by have := At_first hq5; rwa [first_drop] at this)
    clear hp5 hq5 hb5 hg2 ht1 ht2 H4 B4
    go_wp2_with fail
    refine HL1.out.mono ?_; rintro e wB ⟨rfl, rfl⟩
    go_wp2_with fail
    refine HL2.out.mono ?_; rintro e wC ⟨rfl, rfl⟩
    go_wp2_with fail
    refine HA2.out.mono ?_; rintro e w6 ⟨rfl, hb6⟩
    have H6 := Aside0.mk (And.intro (H5.out.1.below hb6) (H5.out.2.below hb6))
    have B6 := Aside0.mk (below_step B5.out hb6)
    clear hb6 H5 B5 HL1 HL2 HA2
    have HJ1 := Aside0.mk (show ∀ W, PGL W g (by_ 7) (L.take kk) → PGL W g2 (by_ 7) (L.drop kk) → Calls Try.prog 23 #[.pointer (some ⟨g, 0, none⟩), .pointer (some ⟨g2, 0, none⟩)] W fun e w' => e = .returned (.int .i64 0) ∧ PGL w' g (by_ 7) L ∧ BelX g W w' from fun W h1 h2 => by
      have := Join_any h1 h2 HNe.out
      rw [join_back HCs.out] at this
      exact this.mono fun e w' ⟨a, b, _, d⟩ => ⟨a, b, d⟩)
    have HW := Aside0.mk (show 0 < kk → kk < L.length → ∀ W, PGL W g (by_ 7) (L.take kk) → PGL W g2 (by_ 7) (L.drop kk) → Calls Try.prog 23 #[.pointer (some ⟨g2, 0, none⟩), .pointer (some ⟨g, 0, none⟩)] W fun e w' => e = .returned (.int .i64 1) ∧ PGL w' g2 (by_ 7) (L.drop kk) ∧ PGL w' g (by_ 7) (L.take kk) ∧ BelX g2 W w' from fun hk0 hk1 W h1 h2 => by
      have := Join_any h2 h1 (fun e => HNe.out e.symm)
      rw [join_wrong HCs.out _ kk hk0 hk1] at this
      exact this)
    by_cases hk1 : kk < L.length
    · have dA : decide (0 < (L.length : Int) - (kk : Int)) = true := decide_eq_true (by omega)
      by_cases hk0 : 0 < kk
      · have dB : decide (0 < (kk : Int)) = true := decide_eq_true (by omega)
        have dB' : decide (0 < kk) = true := decide_eq_true hk0
        have HWk := Aside0.mk (HW.out hk0 hk1)
        clear HW
        go_wp2_with fail
        refine (HWk.out _ H6.out.1 H6.out.2).mono ?_; rintro e w7 ⟨rfl, hq7, hp7, hb7⟩
        have H7 := Aside0.mk (And.intro hp7 hq7)
        have B7 := Aside0.mk (BelX.below B6.out (Nat.le_trans HG2.out (Nat.le_of_lt H6.out.2.pg.lt)) HG2.out hb7)
        clear hq7 hp7 hb7 H6 B6 HWk
        go_wp2_with fail
        refine (HJ1.out _ H7.out.1 H7.out.2).mono ?_; rintro e w8 ⟨rfl, hp8, hb8⟩
        have H8 := Aside0.mk hp8
        have B8 := Aside0.mk (BelX.below B7.out (Nat.le_trans HG.out (Nat.le_of_lt H7.out.1.pg.lt)) HG.out hb8)
        clear hp8 hb8 H7 B7
        go_wp2_with fail
        refine (show Calls Try.prog 12 #[.pointer (some ⟨g, 0, none⟩)] w8 fun e w' => e = .returned (.string s0) ∧ Below w8.heap.size w8 w' from by have := Bytes_pg H8.out.pg; rwa [HS.out] at this).mono ?_; rintro e w9 ⟨rfl, hb9⟩
        have B9 := Aside0.mk (below_step B8.out hb9)
        clear hb9 B8 H8
        go_wp2_with fail
        refine (awake_ok _).mono ?_; rintro e wZ ⟨rfl, hbZ⟩
        go_wp2_with fail
        go_ret
        exact ⟨rfl, below_step B9.out hbZ⟩
      · have dB : decide (0 < (kk : Int)) = false := decide_eq_false (by omega)
        have dB' : decide (0 < kk) = false := decide_eq_false hk0
        clear HW
        go_wp2_with fail
        refine (HJ1.out _ H6.out.1 H6.out.2).mono ?_; rintro e w8 ⟨rfl, hp8, hb8⟩
        have H8 := Aside0.mk hp8
        have B8 := Aside0.mk (BelX.below B6.out (Nat.le_trans HG.out (Nat.le_of_lt H6.out.1.pg.lt)) HG.out hb8)
        clear hp8 hb8 H6 B6
        go_wp2_with fail
        refine (show Calls Try.prog 12 #[.pointer (some ⟨g, 0, none⟩)] w8 fun e w' => e = .returned (.string s0) ∧ Below w8.heap.size w8 w' from by have := Bytes_pg H8.out.pg; rwa [HS.out] at this).mono ?_; rintro e w9 ⟨rfl, hb9⟩
        have B9 := Aside0.mk (below_step B8.out hb9)
        clear hb9 B8 H8
        go_wp2_with fail
        refine (awake_ok _).mono ?_; rintro e wZ ⟨rfl, hbZ⟩
        go_wp2_with fail
        go_ret
        exact ⟨rfl, below_step B9.out hbZ⟩
    · have dA : decide (0 < (L.length : Int) - (kk : Int)) = false := decide_eq_false (by omega)
      clear HW
      go_wp2_with fail
      refine (HJ1.out _ H6.out.1 H6.out.2).mono ?_; rintro e w8 ⟨rfl, hp8, hb8⟩
      have H8 := Aside0.mk hp8
      have B8 := Aside0.mk (BelX.below B6.out (Nat.le_trans HG.out (Nat.le_of_lt H6.out.1.pg.lt)) HG.out hb8)
      clear hp8 hb8 H6 B6
      go_wp2_with fail
      refine (show Calls Try.prog 12 #[.pointer (some ⟨g, 0, none⟩)] w8 fun e w' => e = .returned (.string s0) ∧ Below w8.heap.size w8 w' from by have := Bytes_pg H8.out.pg; rwa [HS.out] at this).mono ?_; rintro e w9 ⟨rfl, hb9⟩
      have B9 := Aside0.mk (below_step B8.out hb9)
      clear hb9 B8 H8
      go_wp2_with fail
      refine (awake_ok _).mono ?_; rintro e wZ ⟨rfl, hbZ⟩
      go_wp2_with fail
      go_ret
      exact ⟨rfl, below_step B9.out hbZ⟩
end Go.Proofs.Ytinbppcfdmbclaa.Pg
