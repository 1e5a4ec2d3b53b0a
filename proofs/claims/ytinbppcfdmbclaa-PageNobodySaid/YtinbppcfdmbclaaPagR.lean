/- A page's Join, walked. No condition beyond those that each theorem names. -/
import Derived.Test.YtinbppcfdmbclaaPagQ
import Derived.WalkLawsBesides
namespace Go.Proofs.Ytinbppcfdmbclaa.Pg
open Go.RowKit Go.Proofs.YtinbppcfdmbclaaW.PrintWords Go.Proofs.YtinbppcfdmbclaaW.PrintLast Go.Proofs.YtinbppcfdmbclaaW.PrintMore
set_option linter.unusedVariables false
set_option linter.unusedSimpArgs false
/-- the last cell's key; the first one's -/
def lastK (L : List S66) : ByteArray := match L.getLast? with
  | some c => c.f0
  | none => ⟨#[]⟩
def lastV (L : List S66) : ByteArray := match L.getLast? with
  | some c => c.f1
  | none => ⟨#[]⟩
def firstK (L : List S66) : ByteArray := match L with
  | c :: _ => c.f0
  | [] => ⟨#[]⟩
def firstV (L : List S66) : ByteArray := match L with
  | c :: _ => c.f1
  | [] => ⟨#[]⟩
/-- do the cells of one list stand behind those of another? -/
def behindB (P Q : List S66) : Bool := P.isEmpty || Q.isEmpty || Op.bytesLess (lastK P).toList (firstK Q).toList
/-- what Join answers, and the cells that it leaves -/
def joinR (kp : UInt8) (P : List S66) (kq : UInt8) (Q : List S66) : Int × List S66 :=
  if kp = kq ∧ behindB P Q = true then (if Fits (P ++ Q) then (0, P ++ Q) else (2, P)) else (1, P)
theorem At_last {w : World} {g : Nat} {kind : UInt8} {L : List S66} (h : PGL w g kind L) : Calls Try.prog 19 #[.pointer (some ⟨g, 0, none⟩), .int .i64 ((L.length : Int) - 1)] w fun e w' => e = .returned (.tuple #[.string (lastK L), .string (lastV L)]) ∧ Below w.heap.size w w' := by
  by_cases h0 : L = []
  · subst h0
    exact (At_none h _ (Or.inl (by simp))).mono fun e w' ⟨h1, h2⟩ => ⟨h1, by subst h2; exact Below.refl _ _⟩
  · have hl : 0 < L.length := List.length_pos_iff.2 h0
    have := At_cell h (L.length - 1) (by omega)
    rw [show ((L.length - 1 : Nat) : Int) = (L.length : Int) - 1 from by omega] at this
    have e1 : L.getLast? = some (L[L.length - 1]'(by omega)) := by rw [List.getLast?_eq_getElem?, List.getElem?_eq_getElem (by omega)]
    rwa [show L[L.length - 1].f0 = lastK L from by unfold lastK; rw [e1], show L[L.length - 1].f1 = lastV L from by unfold lastV; rw [e1]] at this
theorem At_first {w : World} {g : Nat} {kind : UInt8} {L : List S66} (h : PGL w g kind L) : Calls Try.prog 19 #[.pointer (some ⟨g, 0, none⟩), .int .i64 0] w fun e w' => e = .returned (.tuple #[.string (firstK L), .string (firstV L)]) ∧ Below w.heap.size w w' := by
  cases L with
  | nil => exact (At_none h _ (Or.inr (by simp))).mono fun e w' ⟨h1, h2⟩ => ⟨h1, by subst h2; exact Below.refl _ _⟩
  | cons c t => exact At_cell h 0 (by simp)
theorem used_L {w : World} {g : Nat} {kind : UInt8} {L : List S66} (h : PGL w g kind L) : Calls Try.prog 34 #[.pointer (some ⟨g, 0, none⟩)] w fun e w' => e = .returned (.int .i64 (total L : Int)) ∧ Below w.heap.size w w' := by
  have := used_pg h.pg
  rwa [enc_used _ _ h.cells.fits] at this
theorem join_cells {P Q : List S66} (hp : Cells P) (hq : Cells Q) (hb : behindB P Q = true) (hf : Fits (P ++ Q)) : Cells (P ++ Q) := by
  refine ⟨hf, fun c hc => ?_, ?_⟩
  · rcases List.mem_append.1 hc with h | h
    · exact hp.each c h
    · exact hq.each c h
  · refine List.pairwise_append.2 ⟨hp.asc, hq.asc, fun c hc d hd => ?_⟩
    cases Q with
    | nil => cases hd
    | cons q t =>
      have hpe : P ≠ [] := fun e => by subst e; cases hc
      have hl : Op.bytesLess (lastK P).toList q.f0.toList = true := by
        have : P.isEmpty = false := by cases P with
          | nil => exact absurd rfl hpe
          | cons _ _ => rfl
        simpa [behindB, firstK, this] using hb
      have h1 : Op.bytesLess c.f0.toList q.f0.toList = true := by
        obtain ⟨i, hi, rfl⟩ := List.getElem_of_mem hc
        have e1 : P.getLast? = some (P[P.length - 1]'(by omega)) := by rw [List.getLast?_eq_getElem?, List.getElem?_eq_getElem (by omega)]
        have e2 : lastK P = (P[P.length - 1]'(by omega)).f0 := by unfold lastK; rw [e1]
        rw [e2] at hl
        by_cases h0 : i = P.length - 1
        · subst h0; exact hl
        · exact less_trans (asc_lt hp.asc i (P.length - 1) hi (by omega) (by omega)) hl
      rcases List.mem_cons.1 hd with rfl | hd
      · exact h1
      · exact less_trans h1 ((List.pairwise_cons.1 hq.asc).1 d hd)
set_option maxHeartbeats 4000000 in
theorem Join_kind {w : World} {g g2 : Nat} {kp kq : UInt8} {P Q : List S66} (hp : PGL w g kp P) (hq : PGL w g2 kq Q) (hk : kp ≠ kq) : Calls Try.prog 23 #[.pointer (some ⟨g, 0, none⟩), .pointer (some ⟨g2, 0, none⟩)] w fun e w' => e = .returned (.int .i64 1) ∧ w' = w := by
  have HGp := Aside0.mk (given_pg hp.pg)
  have HGq := Aside0.mk (given_pg hq.pg)
  have HKp := Aside0.mk (Kind_L hp)
  have HKq := Aside0.mk (Kind_L hq)
  have hne : kp.toNat ≠ kq.toNat := fun e => hk (UInt8.toNat_inj.1 e)
  have d0 : ((kp.toNat : Int) != (kq.toNat : Int)) = true := by simp; omega
  have d0' : ((kp.toNat : Int) == (kq.toNat : Int)) = false := by simp; omega
  have d1 : (kp.toNat != kq.toNat) = true := by simp; exact hne
  have d1' : (kp.toNat == kq.toNat) = false := by simp; exact hne
  clear hp hq hne hk
  go_enter Try.func23, Try.ntmps23
  go_wp2_with fail
  refine HGp.out.mono ?_; rintro e w' ⟨rfl, rfl⟩
  go_wp2_with fail
  refine HGq.out.mono ?_; rintro e w' ⟨rfl, rfl⟩
  go_wp2_with fail
  refine HKp.out.mono ?_; rintro e w' ⟨rfl, rfl⟩
  go_wp2_with fail
  refine HKq.out.mono ?_; rintro e w' ⟨rfl, rfl⟩
  go_wp2_with fail
  go_ret
  exact ⟨rfl, rfl⟩
set_option maxHeartbeats 4000000 in
theorem Join_touch {w : World} {g g2 : Nat} {kp : UInt8} {P Q : List S66} (hp : PGL w g kp P) (hq : PGL w g2 kp Q) (hne : g ≠ g2) (hb : behindB P Q = false) : Calls Try.prog 23 #[.pointer (some ⟨g, 0, none⟩), .pointer (some ⟨g2, 0, none⟩)] w fun e w' => e = .returned (.int .i64 1) ∧ Below w.heap.size w w' := by
  have HGp := Aside0.mk (given_pg hp.pg)
  have HGq := Aside0.mk (given_pg hq.pg)
  have HKp := Aside0.mk (Kind_L hp)
  have HKq := Aside0.mk (Kind_L hq)
  have d0 : ((kp.toNat : Int) != (kp.toNat : Int)) = false := by simp
  have d1 : (kp.toNat != kp.toNat) = false := by simp
  have H := Aside0.mk (And.intro hp hq)
  have hs := hp.short
  have hs2 := hq.short
  have HF := Aside0.mk (And.intro hp.cells hq.cells)
  simp only [behindB, Bool.or_eq_false_iff] at hb
  obtain ⟨⟨hb1, hb2⟩, hb3⟩ := hb
  have l1 : 0 < P.length := by cases P with
    | nil => simp at hb1
    | cons _ _ => simp
  have l2 : 0 < Q.length := by cases Q with
    | nil => simp at hb2
    | cons _ _ => simp
  have dA : decide (0 < P.length) = true := decide_eq_true l1
  have dA' : decide (0 < (P.length : Int)) = true := decide_eq_true (by omega)
  have dB : decide (0 < Q.length) = true := decide_eq_true l2
  have dB' : decide (0 < (Q.length : Int)) = true := decide_eq_true (by omega)
  clear hb1 hb2
  clear hp hq
  go_enter Try.func23, Try.ntmps23
  go_wp2_with fail
  refine HGp.out.mono ?_; rintro e w' ⟨rfl, rfl⟩
  go_wp2_with fail
  refine HGq.out.mono ?_; rintro e w' ⟨rfl, rfl⟩
  go_wp2_with fail
  refine HKp.out.mono ?_; rintro e w' ⟨rfl, rfl⟩
  go_wp2_with fail
  refine HKq.out.mono ?_; rintro e w' ⟨rfl, rfl⟩
  clear HGp HGq HKp HKq
  go_wp2_with fail
  refine (Len_L H.out.1).mono ?_; rintro e w' ⟨rfl, rfl⟩
  go_wp2_with fail
  refine (At_last H.out.1).mono ?_; rintro e w1 ⟨rfl, hb1⟩
  have H1 := Aside0.mk (And.intro (H.out.1.below hb1) (H.out.2.below hb1))
  have HB1 := Aside0.mk hb1
  clear hb1 H
  go_wp2_with fail
  refine (At_first H1.out.2).mono ?_; rintro e w2 ⟨rfl, hb2⟩
  have H2 := Aside0.mk (And.intro (H1.out.1.below hb2) (H1.out.2.below hb2))
  have HB2 := Aside0.mk (below_step HB1.out hb2)
  clear hb2 H1 HB1
  go_wp2_with fail
  refine (Len_L H2.out.1).mono ?_; rintro e wA ⟨rfl, rfl⟩
  go_wp2_with fail
  refine (Len_L H2.out.2).mono ?_; rintro e wB ⟨rfl, rfl⟩
  go_wp2_with fail
  go_ret
  exact ⟨rfl, HB2.out⟩
set_option maxHeartbeats 4000000 in
theorem Join_full0 {w : World} {g g2 : Nat} {kp : UInt8} {P Q : List S66} (hp : PGL w g kp P) (hq : PGL w g2 kp Q) (hne : g ≠ g2) (hw : P = []) (hf : ¬ Fits (P ++ Q)) : Calls Try.prog 23 #[.pointer (some ⟨g, 0, none⟩), .pointer (some ⟨g2, 0, none⟩)] w fun e w' => e = .returned (.int .i64 2) ∧ Below w.heap.size w w' := by
  have HGp := Aside0.mk (given_pg hp.pg)
  have HGq := Aside0.mk (given_pg hq.pg)
  have HKp := Aside0.mk (Kind_L hp)
  have HKq := Aside0.mk (Kind_L hq)
  have d0 : ((kp.toNat : Int) != (kp.toNat : Int)) = false := by simp
  have d1 : (kp.toNat != kp.toNat) = false := by simp
  have H := Aside0.mk (And.intro hp hq)
  have hs := hp.short
  have hs2 := hq.short
  have HF := Aside0.mk (And.intro hp.cells hq.cells)
  have dA : decide (0 < P.length) = false := by rw [hw]; rfl
  have dA' : decide (0 < (P.length : Int)) = false := by rw [hw]; rfl
  clear hw
  have dF : decide (248 - 2 * (P.length : Int) - (total P : Int) < 2 * (Q.length : Int) + (total Q : Int)) = true := decide_eq_true (by unfold Fits at hf; rw [List.length_append, total_append] at hf; omega)
  clear hf
  clear hp hq
  go_enter Try.func23, Try.ntmps23
  go_wp2_with fail
  refine HGp.out.mono ?_; rintro e w' ⟨rfl, rfl⟩
  go_wp2_with fail
  refine HGq.out.mono ?_; rintro e w' ⟨rfl, rfl⟩
  go_wp2_with fail
  refine HKp.out.mono ?_; rintro e w' ⟨rfl, rfl⟩
  go_wp2_with fail
  refine HKq.out.mono ?_; rintro e w' ⟨rfl, rfl⟩
  clear HGp HGq HKp HKq
  go_wp2_with fail
  refine (Len_L H.out.1).mono ?_; rintro e w' ⟨rfl, rfl⟩
  go_wp2_with fail
  refine (At_last H.out.1).mono ?_; rintro e w1 ⟨rfl, hb1⟩
  have H1 := Aside0.mk (And.intro (H.out.1.below hb1) (H.out.2.below hb1))
  have HB1 := Aside0.mk hb1
  clear hb1 H
  go_wp2_with fail
  refine (At_first H1.out.2).mono ?_; rintro e w2 ⟨rfl, hb2⟩
  have H2 := Aside0.mk (And.intro (H1.out.1.below hb2) (H1.out.2.below hb2))
  have HB2 := Aside0.mk (below_step HB1.out hb2)
  clear hb2 H1 HB1
  go_wp2_with fail
  refine (Len_L H2.out.1).mono ?_; rintro e wA ⟨rfl, rfl⟩
  go_wp2_with fail
  refine (Len_L H2.out.2).mono ?_; rintro e wC ⟨rfl, rfl⟩
  go_wp2_with fail
  refine (used_L H2.out.2).mono ?_; rintro e w3 ⟨rfl, hb3⟩
  have H3 := Aside0.mk (And.intro (H2.out.1.below hb3) (H2.out.2.below hb3))
  have HB3 := Aside0.mk (below_step HB2.out hb3)
  clear hb3 H2 HB2
  go_wp2_with fail
  refine (room_L H3.out.1).mono ?_; rintro e w4 ⟨rfl, hb4⟩
  have H4 := Aside0.mk (And.intro (H3.out.1.below hb4) (H3.out.2.below hb4))
  have HB4 := Aside0.mk (below_step HB3.out hb4)
  clear hb4 H3 HB3
  go_wp2_with fail
  go_ret
  exact ⟨rfl, HB4.out⟩
set_option maxHeartbeats 4000000 in
theorem Join_full1 {w : World} {g g2 : Nat} {kp : UInt8} {P Q : List S66} (hp : PGL w g kp P) (hq : PGL w g2 kp Q) (hne : g ≠ g2) (hw : P ≠ []) (hw2 : Q = []) (hf : ¬ Fits (P ++ Q)) : Calls Try.prog 23 #[.pointer (some ⟨g, 0, none⟩), .pointer (some ⟨g2, 0, none⟩)] w fun e w' => e = .returned (.int .i64 2) ∧ Below w.heap.size w w' := by
  have HGp := Aside0.mk (given_pg hp.pg)
  have HGq := Aside0.mk (given_pg hq.pg)
  have HKp := Aside0.mk (Kind_L hp)
  have HKq := Aside0.mk (Kind_L hq)
  have d0 : ((kp.toNat : Int) != (kp.toNat : Int)) = false := by simp
  have d1 : (kp.toNat != kp.toNat) = false := by simp
  have H := Aside0.mk (And.intro hp hq)
  have hs := hp.short
  have hs2 := hq.short
  have HF := Aside0.mk (And.intro hp.cells hq.cells)
  have l1 : 0 < P.length := List.length_pos_iff.2 hw
  have dA : decide (0 < P.length) = true := decide_eq_true l1
  have dA' : decide (0 < (P.length : Int)) = true := decide_eq_true (by omega)
  clear hw
  have dB : decide (0 < Q.length) = false := by rw [hw2]; rfl
  have dB' : decide (0 < (Q.length : Int)) = false := by rw [hw2]; rfl
  clear hw2
  have dF : decide (248 - 2 * (P.length : Int) - (total P : Int) < 2 * (Q.length : Int) + (total Q : Int)) = true := decide_eq_true (by unfold Fits at hf; rw [List.length_append, total_append] at hf; omega)
  clear hf
  clear hp hq
  go_enter Try.func23, Try.ntmps23
  go_wp2_with fail
  refine HGp.out.mono ?_; rintro e w' ⟨rfl, rfl⟩
  go_wp2_with fail
  refine HGq.out.mono ?_; rintro e w' ⟨rfl, rfl⟩
  go_wp2_with fail
  refine HKp.out.mono ?_; rintro e w' ⟨rfl, rfl⟩
  go_wp2_with fail
  refine HKq.out.mono ?_; rintro e w' ⟨rfl, rfl⟩
  clear HGp HGq HKp HKq
  go_wp2_with fail
  refine (Len_L H.out.1).mono ?_; rintro e w' ⟨rfl, rfl⟩
  go_wp2_with fail
  refine (At_last H.out.1).mono ?_; rintro e w1 ⟨rfl, hb1⟩
  have H1 := Aside0.mk (And.intro (H.out.1.below hb1) (H.out.2.below hb1))
  have HB1 := Aside0.mk hb1
  clear hb1 H
  go_wp2_with fail
  refine (At_first H1.out.2).mono ?_; rintro e w2 ⟨rfl, hb2⟩
  have H2 := Aside0.mk (And.intro (H1.out.1.below hb2) (H1.out.2.below hb2))
  have HB2 := Aside0.mk (below_step HB1.out hb2)
  clear hb2 H1 HB1
  go_wp2_with fail
  refine (Len_L H2.out.1).mono ?_; rintro e wA ⟨rfl, rfl⟩
  go_wp2_with fail
  refine (Len_L H2.out.2).mono ?_; rintro e wB ⟨rfl, rfl⟩
  go_wp2_with fail
  refine (Len_L H2.out.2).mono ?_; rintro e wC ⟨rfl, rfl⟩
  go_wp2_with fail
  refine (used_L H2.out.2).mono ?_; rintro e w3 ⟨rfl, hb3⟩
  have H3 := Aside0.mk (And.intro (H2.out.1.below hb3) (H2.out.2.below hb3))
  have HB3 := Aside0.mk (below_step HB2.out hb3)
  clear hb3 H2 HB2
  go_wp2_with fail
  refine (room_L H3.out.1).mono ?_; rintro e w4 ⟨rfl, hb4⟩
  have H4 := Aside0.mk (And.intro (H3.out.1.below hb4) (H3.out.2.below hb4))
  have HB4 := Aside0.mk (below_step HB3.out hb4)
  clear hb4 H3 HB3
  go_wp2_with fail
  go_ret
  exact ⟨rfl, HB4.out⟩
set_option maxHeartbeats 4000000 in
theorem Join_full2 {w : World} {g g2 : Nat} {kp : UInt8} {P Q : List S66} (hp : PGL w g kp P) (hq : PGL w g2 kp Q) (hne : g ≠ g2) (hw : P ≠ []) (hw2 : Q ≠ []) (hw3 : Op.bytesLess (lastK P).toList (firstK Q).toList = true) (hf : ¬ Fits (P ++ Q)) : Calls Try.prog 23 #[.pointer (some ⟨g, 0, none⟩), .pointer (some ⟨g2, 0, none⟩)] w fun e w' => e = .returned (.int .i64 2) ∧ Below w.heap.size w w' := by
  have HGp := Aside0.mk (given_pg hp.pg)
  have HGq := Aside0.mk (given_pg hq.pg)
  have HKp := Aside0.mk (Kind_L hp)
  have HKq := Aside0.mk (Kind_L hq)
  have d0 : ((kp.toNat : Int) != (kp.toNat : Int)) = false := by simp
  have d1 : (kp.toNat != kp.toNat) = false := by simp
  have H := Aside0.mk (And.intro hp hq)
  have hs := hp.short
  have hs2 := hq.short
  have HF := Aside0.mk (And.intro hp.cells hq.cells)
  have l1 : 0 < P.length := List.length_pos_iff.2 hw
  have dA : decide (0 < P.length) = true := decide_eq_true l1
  have dA' : decide (0 < (P.length : Int)) = true := decide_eq_true (by omega)
  clear hw
  have l2 : 0 < Q.length := List.length_pos_iff.2 hw2
  have dB : decide (0 < Q.length) = true := decide_eq_true l2
  have dB' : decide (0 < (Q.length : Int)) = true := decide_eq_true (by omega)
  clear hw2
  have dF : decide (248 - 2 * (P.length : Int) - (total P : Int) < 2 * (Q.length : Int) + (total Q : Int)) = true := decide_eq_true (by unfold Fits at hf; rw [List.length_append, total_append] at hf; omega)
  clear hf
  clear hp hq
  go_enter Try.func23, Try.ntmps23
  go_wp2_with fail
  refine HGp.out.mono ?_; rintro e w' ⟨rfl, rfl⟩
  go_wp2_with fail
  refine HGq.out.mono ?_; rintro e w' ⟨rfl, rfl⟩
  go_wp2_with fail
  refine HKp.out.mono ?_; rintro e w' ⟨rfl, rfl⟩
  go_wp2_with fail
  refine HKq.out.mono ?_; rintro e w' ⟨rfl, rfl⟩
  clear HGp HGq HKp HKq
  go_wp2_with fail
  refine (Len_L H.out.1).mono ?_; rintro e w' ⟨rfl, rfl⟩
  go_wp2_with fail
  refine (At_last H.out.1).mono ?_; rintro e w1 ⟨rfl, hb1⟩
  have H1 := Aside0.mk (And.intro (H.out.1.below hb1) (H.out.2.below hb1))
  have HB1 := Aside0.mk hb1
  clear hb1 H
  go_wp2_with fail
  refine (At_first H1.out.2).mono ?_; rintro e w2 ⟨rfl, hb2⟩
  have H2 := Aside0.mk (And.intro (H1.out.1.below hb2) (H1.out.2.below hb2))
  have HB2 := Aside0.mk (below_step HB1.out hb2)
  clear hb2 H1 HB1
  go_wp2_with fail
  refine (Len_L H2.out.1).mono ?_; rintro e wA ⟨rfl, rfl⟩
  go_wp2_with fail
  refine (Len_L H2.out.2).mono ?_; rintro e wB ⟨rfl, rfl⟩
  go_wp2_with fail
  refine (Len_L H2.out.2).mono ?_; rintro e wC ⟨rfl, rfl⟩
  go_wp2_with fail
  refine (used_L H2.out.2).mono ?_; rintro e w3 ⟨rfl, hb3⟩
  have H3 := Aside0.mk (And.intro (H2.out.1.below hb3) (H2.out.2.below hb3))
  have HB3 := Aside0.mk (below_step HB2.out hb3)
  clear hb3 H2 HB2
  go_wp2_with fail
  refine (room_L H3.out.1).mono ?_; rintro e w4 ⟨rfl, hb4⟩
  have H4 := Aside0.mk (And.intro (H3.out.1.below hb4) (H3.out.2.below hb4))
  have HB4 := Aside0.mk (below_step HB3.out hb4)
  clear hb4 H3 HB3
  go_wp2_with fail
  go_ret
  exact ⟨rfl, HB4.out⟩
set_option maxHeartbeats 4000000 in
theorem Join_ok0 {w : World} {g g2 : Nat} {kp : UInt8} {P Q : List S66} (hp : PGL w g kp P) (hq : PGL w g2 kp Q) (hne : g ≠ g2) (hw : P = []) (hc : Cells (P ++ Q)) : Calls Try.prog 23 #[.pointer (some ⟨g, 0, none⟩), .pointer (some ⟨g2, 0, none⟩)] w fun e w' => e = .returned (.int .i64 0) ∧ PGL w' g kp (P ++ Q) ∧ PGL w' g2 kp Q ∧ BelX g w w' := by
  have HGp := Aside0.mk (given_pg hp.pg)
  have HGq := Aside0.mk (given_pg hq.pg)
  have HKp := Aside0.mk (Kind_L hp)
  have HKq := Aside0.mk (Kind_L hq)
  have d0 : ((kp.toNat : Int) != (kp.toNat : Int)) = false := by simp
  have d1 : (kp.toNat != kp.toNat) = false := by simp
  have H := Aside0.mk (And.intro hp hq)
  have hs := hp.short
  have hs2 := hq.short
  have HF := Aside0.mk (And.intro hp.cells hq.cells)
  have dA : decide (0 < P.length) = false := by rw [hw]; rfl
  have dA' : decide (0 < (P.length : Int)) = false := by rw [hw]; rfl
  clear hw
  have dF : decide (248 - 2 * (P.length : Int) - (total P : Int) < 2 * (Q.length : Int) + (total Q : Int)) = false := decide_eq_false (by have hf := hc.fits; unfold Fits at hf; rw [List.length_append, total_append] at hf; omega)
  have HC := Aside0.mk hc
  have HNe := Aside0.mk hne
  clear hc
  clear hp hq
  go_enter Try.func23, Try.ntmps23
  go_wp2_with fail
  refine HGp.out.mono ?_; rintro e w' ⟨rfl, rfl⟩
  go_wp2_with fail
  refine HGq.out.mono ?_; rintro e w' ⟨rfl, rfl⟩
  go_wp2_with fail
  refine HKp.out.mono ?_; rintro e w' ⟨rfl, rfl⟩
  go_wp2_with fail
  refine HKq.out.mono ?_; rintro e w' ⟨rfl, rfl⟩
  clear HGp HGq HKp HKq
  go_wp2_with fail
  refine (Len_L H.out.1).mono ?_; rintro e w' ⟨rfl, rfl⟩
  go_wp2_with fail
  refine (At_last H.out.1).mono ?_; rintro e w1 ⟨rfl, hb1⟩
  have H1 := Aside0.mk (And.intro (H.out.1.below hb1) (H.out.2.below hb1))
  have HB1 := Aside0.mk hb1
  clear hb1 H
  go_wp2_with fail
  refine (At_first H1.out.2).mono ?_; rintro e w2 ⟨rfl, hb2⟩
  have H2 := Aside0.mk (And.intro (H1.out.1.below hb2) (H1.out.2.below hb2))
  have HB2 := Aside0.mk (below_step HB1.out hb2)
  clear hb2 H1 HB1
  go_wp2_with fail
  refine (Len_L H2.out.1).mono ?_; rintro e wA ⟨rfl, rfl⟩
  go_wp2_with fail
  refine (Len_L H2.out.2).mono ?_; rintro e wC ⟨rfl, rfl⟩
  go_wp2_with fail
  refine (used_L H2.out.2).mono ?_; rintro e w3 ⟨rfl, hb3⟩
  have H3 := Aside0.mk (And.intro (H2.out.1.below hb3) (H2.out.2.below hb3))
  have HB3 := Aside0.mk (below_step HB2.out hb3)
  clear hb3 H2 HB2
  go_wp2_with fail
  refine (room_L H3.out.1).mono ?_; rintro e w4 ⟨rfl, hb4⟩
  have H4 := Aside0.mk (And.intro (H3.out.1.below hb4) (H3.out.2.below hb4))
  have HB4 := Aside0.mk (below_step HB3.out hb4)
  clear hb4 H3 HB3
  go_wp2_with fail
  refine (Len_L H4.out.2).mono ?_; rintro e w5 ⟨rfl, rfl⟩
  go_wp2_with fail
  clear dA dA' dF
  go_loopw [64] (fun v wr => ∃ m : Nat, v = .int .i64 (m : Int) ∧ Aside0 (m ≤ Q.length) ∧ Aside0 (PGL wr g kp (P ++ Q.take m)) ∧ Aside0 (PGL wr g2 kp Q) ∧ Aside0 (BelX g w' wr)) (fun v _ => Q.length - (Lib.intOf v).toNat)
  case atStart => exact ⟨0, rfl, ⟨by omega⟩, ⟨by rw [List.take_zero, List.append_nil]; exact H4.out.1⟩, ⟨H4.out.2⟩, ⟨BelX.of_below HB4.out⟩⟩
  case round =>
    obtain ⟨m, rfl, hM, HA, HQ, HB⟩ := hrel
    by_cases hlt : m < Q.length
    · have d1 : decide ((m : Int) < (Q.length : Int)) = true := decide_eq_true (by omega)
      have d2 : decide (m < Q.length) = true := decide_eq_true hlt
      have hc : P ++ Q.take (m + 1) = (P ++ Q.take m) ++ [Q[m]] := by rw [List.take_succ_eq_append_getElem hlt, List.append_assoc]
      have HC1 := Aside0.mk (show Cells ((P ++ Q.take m) ++ [Q[m]]) from by rw [← hc]; exact cells_sub (List.Sublist.append_left (List.take_sublist _ _) _) HC.out)
      have HC2 := Aside0.mk hc
      obtain ⟨c, hcc⟩ : ∃ c, Q[m] = c := ⟨_, rfl⟩
      rw [hcc] at HC1 HC2
      have HCC := Aside0.mk hcc
      have HLT := Aside0.mk hlt
      clear hc hcc
      go_wp2_with fail
      refine (At_cell HQ.out m HLT.out).mono ?_; rintro e w6 ⟨rfl, hb6⟩
      rw [HCC.out]
      have HA6 := Aside0.mk (HA.out.below hb6)
      have HQ6 := Aside0.mk (HQ.out.below hb6)
      have HB6 := Aside0.mk (HB.out.trans (BelX.of_below hb6))
      clear hb6 HA HQ HB
      go_wp2_with fail
      refine (Put_end HA6.out c HC1.out).mono ?_; rintro e w7 ⟨rfl, hp7, hb7⟩
      have HA7 := Aside0.mk hp7
      have HQ7 := Aside0.mk (HQ6.out.belX hb7 (fun e => HNe.out e.symm))
      have HB7 := Aside0.mk (HB6.out.trans hb7)
      clear hp7 hb7 HA6 HQ6 HB6
      go_wp2
      have q : (m : Int) + 1 = ((m + 1 : Nat) : Int) := by omega
      go_roundw
      case rel => exact ⟨m + 1, by rw [q], ⟨HLT.out⟩, ⟨by rw [HC2.out]; exact HA7.out⟩, HQ7, HB7⟩
      case measure => rw [q]; exact up_lt _ _ _ rfl HLT.out
    · have hm : m = Q.length := by have := hM.out; omega
      have d1 : decide ((m : Int) < (Q.length : Int)) = false := decide_eq_false (by omega)
      have d2 : decide (m < Q.length) = false := decide_eq_false hlt
      have HA' := Aside0.mk (show PGL wr g kp (P ++ Q) from by have := HA.out; rwa [hm, List.take_length] at this)
      clear hlt hm HA
      go_wp2_with fail
      go_ret
      exact ⟨rfl, HA'.out, HQ.out, HB.out⟩
set_option maxHeartbeats 4000000 in
theorem Join_ok1 {w : World} {g g2 : Nat} {kp : UInt8} {P Q : List S66} (hp : PGL w g kp P) (hq : PGL w g2 kp Q) (hne : g ≠ g2) (hw : P ≠ []) (hw2 : Q = []) (hc : Cells (P ++ Q)) : Calls Try.prog 23 #[.pointer (some ⟨g, 0, none⟩), .pointer (some ⟨g2, 0, none⟩)] w fun e w' => e = .returned (.int .i64 0) ∧ PGL w' g kp (P ++ Q) ∧ PGL w' g2 kp Q ∧ BelX g w w' := by
  have HGp := Aside0.mk (given_pg hp.pg)
  have HGq := Aside0.mk (given_pg hq.pg)
  have HKp := Aside0.mk (Kind_L hp)
  have HKq := Aside0.mk (Kind_L hq)
  have d0 : ((kp.toNat : Int) != (kp.toNat : Int)) = false := by simp
  have d1 : (kp.toNat != kp.toNat) = false := by simp
  have H := Aside0.mk (And.intro hp hq)
  have hs := hp.short
  have hs2 := hq.short
  have HF := Aside0.mk (And.intro hp.cells hq.cells)
  have l1 : 0 < P.length := List.length_pos_iff.2 hw
  have dA : decide (0 < P.length) = true := decide_eq_true l1
  have dA' : decide (0 < (P.length : Int)) = true := decide_eq_true (by omega)
  clear hw
  have dB : decide (0 < Q.length) = false := by rw [hw2]; rfl
  have dB' : decide (0 < (Q.length : Int)) = false := by rw [hw2]; rfl
  clear hw2
  have dF : decide (248 - 2 * (P.length : Int) - (total P : Int) < 2 * (Q.length : Int) + (total Q : Int)) = false := decide_eq_false (by have hf := hc.fits; unfold Fits at hf; rw [List.length_append, total_append] at hf; omega)
  have HC := Aside0.mk hc
  have HNe := Aside0.mk hne
  clear hc
  clear hp hq
  go_enter Try.func23, Try.ntmps23
  go_wp2_with fail
  refine HGp.out.mono ?_; rintro e w' ⟨rfl, rfl⟩
  go_wp2_with fail
  refine HGq.out.mono ?_; rintro e w' ⟨rfl, rfl⟩
  go_wp2_with fail
  refine HKp.out.mono ?_; rintro e w' ⟨rfl, rfl⟩
  go_wp2_with fail
  refine HKq.out.mono ?_; rintro e w' ⟨rfl, rfl⟩
  clear HGp HGq HKp HKq
  go_wp2_with fail
  refine (Len_L H.out.1).mono ?_; rintro e w' ⟨rfl, rfl⟩
  go_wp2_with fail
  refine (At_last H.out.1).mono ?_; rintro e w1 ⟨rfl, hb1⟩
  have H1 := Aside0.mk (And.intro (H.out.1.below hb1) (H.out.2.below hb1))
  have HB1 := Aside0.mk hb1
  clear hb1 H
  go_wp2_with fail
  refine (At_first H1.out.2).mono ?_; rintro e w2 ⟨rfl, hb2⟩
  have H2 := Aside0.mk (And.intro (H1.out.1.below hb2) (H1.out.2.below hb2))
  have HB2 := Aside0.mk (below_step HB1.out hb2)
  clear hb2 H1 HB1
  go_wp2_with fail
  refine (Len_L H2.out.1).mono ?_; rintro e wA ⟨rfl, rfl⟩
  go_wp2_with fail
  refine (Len_L H2.out.2).mono ?_; rintro e wB ⟨rfl, rfl⟩
  go_wp2_with fail
  refine (Len_L H2.out.2).mono ?_; rintro e wC ⟨rfl, rfl⟩
  go_wp2_with fail
  refine (used_L H2.out.2).mono ?_; rintro e w3 ⟨rfl, hb3⟩
  have H3 := Aside0.mk (And.intro (H2.out.1.below hb3) (H2.out.2.below hb3))
  have HB3 := Aside0.mk (below_step HB2.out hb3)
  clear hb3 H2 HB2
  go_wp2_with fail
  refine (room_L H3.out.1).mono ?_; rintro e w4 ⟨rfl, hb4⟩
  have H4 := Aside0.mk (And.intro (H3.out.1.below hb4) (H3.out.2.below hb4))
  have HB4 := Aside0.mk (below_step HB3.out hb4)
  clear hb4 H3 HB3
  go_wp2_with fail
  refine (Len_L H4.out.2).mono ?_; rintro e w5 ⟨rfl, rfl⟩
  go_wp2_with fail
  clear dA dA' dF
  go_loopw [64] (fun v wr => ∃ m : Nat, v = .int .i64 (m : Int) ∧ Aside0 (m ≤ Q.length) ∧ Aside0 (PGL wr g kp (P ++ Q.take m)) ∧ Aside0 (PGL wr g2 kp Q) ∧ Aside0 (BelX g w' wr)) (fun v _ => Q.length - (Lib.intOf v).toNat)
  case atStart => exact ⟨0, rfl, ⟨by omega⟩, ⟨by rw [List.take_zero, List.append_nil]; exact H4.out.1⟩, ⟨H4.out.2⟩, ⟨BelX.of_below HB4.out⟩⟩
  case round =>
    obtain ⟨m, rfl, hM, HA, HQ, HB⟩ := hrel
    by_cases hlt : m < Q.length
    · have d1 : decide ((m : Int) < (Q.length : Int)) = true := decide_eq_true (by omega)
      have d2 : decide (m < Q.length) = true := decide_eq_true hlt
      have hc : P ++ Q.take (m + 1) = (P ++ Q.take m) ++ [Q[m]] := by rw [List.take_succ_eq_append_getElem hlt, List.append_assoc]
      have HC1 := Aside0.mk (show Cells ((P ++ Q.take m) ++ [Q[m]]) from by rw [← hc]; exact cells_sub (List.Sublist.append_left (List.take_sublist _ _) _) HC.out)
      have HC2 := Aside0.mk hc
      obtain ⟨c, hcc⟩ : ∃ c, Q[m] = c := ⟨_, rfl⟩
      rw [hcc] at HC1 HC2
      have HCC := Aside0.mk hcc
      have HLT := Aside0.mk hlt
      clear hc hcc
      go_wp2_with fail
      refine (At_cell HQ.out m HLT.out).mono ?_; rintro e w6 ⟨rfl, hb6⟩
      rw [HCC.out]
      have HA6 := Aside0.mk (HA.out.below hb6)
      have HQ6 := Aside0.mk (HQ.out.below hb6)
      have HB6 := Aside0.mk (HB.out.trans (BelX.of_below hb6))
      clear hb6 HA HQ HB
      go_wp2_with fail
      refine (Put_end HA6.out c HC1.out).mono ?_; rintro e w7 ⟨rfl, hp7, hb7⟩
      have HA7 := Aside0.mk hp7
      have HQ7 := Aside0.mk (HQ6.out.belX hb7 (fun e => HNe.out e.symm))
      have HB7 := Aside0.mk (HB6.out.trans hb7)
      clear hp7 hb7 HA6 HQ6 HB6
      go_wp2
      have q : (m : Int) + 1 = ((m + 1 : Nat) : Int) := by omega
      go_roundw
      case rel => exact ⟨m + 1, by rw [q], ⟨HLT.out⟩, ⟨by rw [HC2.out]; exact HA7.out⟩, HQ7, HB7⟩
      case measure => rw [q]; exact up_lt _ _ _ rfl HLT.out
    · have hm : m = Q.length := by have := hM.out; omega
      have d1 : decide ((m : Int) < (Q.length : Int)) = false := decide_eq_false (by omega)
      have d2 : decide (m < Q.length) = false := decide_eq_false hlt
      have HA' := Aside0.mk (show PGL wr g kp (P ++ Q) from by have := HA.out; rwa [hm, List.take_length] at this)
      clear hlt hm HA
      go_wp2_with fail
      go_ret
      exact ⟨rfl, HA'.out, HQ.out, HB.out⟩
set_option maxHeartbeats 4000000 in
theorem Join_ok2 {w : World} {g g2 : Nat} {kp : UInt8} {P Q : List S66} (hp : PGL w g kp P) (hq : PGL w g2 kp Q) (hne : g ≠ g2) (hw : P ≠ []) (hw2 : Q ≠ []) (hw3 : Op.bytesLess (lastK P).toList (firstK Q).toList = true) (hc : Cells (P ++ Q)) : Calls Try.prog 23 #[.pointer (some ⟨g, 0, none⟩), .pointer (some ⟨g2, 0, none⟩)] w fun e w' => e = .returned (.int .i64 0) ∧ PGL w' g kp (P ++ Q) ∧ PGL w' g2 kp Q ∧ BelX g w w' := by
  have HGp := Aside0.mk (given_pg hp.pg)
  have HGq := Aside0.mk (given_pg hq.pg)
  have HKp := Aside0.mk (Kind_L hp)
  have HKq := Aside0.mk (Kind_L hq)
  have d0 : ((kp.toNat : Int) != (kp.toNat : Int)) = false := by simp
  have d1 : (kp.toNat != kp.toNat) = false := by simp
  have H := Aside0.mk (And.intro hp hq)
  have hs := hp.short
  have hs2 := hq.short
  have HF := Aside0.mk (And.intro hp.cells hq.cells)
  have l1 : 0 < P.length := List.length_pos_iff.2 hw
  have dA : decide (0 < P.length) = true := decide_eq_true l1
  have dA' : decide (0 < (P.length : Int)) = true := decide_eq_true (by omega)
  clear hw
  have l2 : 0 < Q.length := List.length_pos_iff.2 hw2
  have dB : decide (0 < Q.length) = true := decide_eq_true l2
  have dB' : decide (0 < (Q.length : Int)) = true := decide_eq_true (by omega)
  clear hw2
  have dF : decide (248 - 2 * (P.length : Int) - (total P : Int) < 2 * (Q.length : Int) + (total Q : Int)) = false := decide_eq_false (by have hf := hc.fits; unfold Fits at hf; rw [List.length_append, total_append] at hf; omega)
  have HC := Aside0.mk hc
  have HNe := Aside0.mk hne
  clear hc
  clear hp hq
  go_enter Try.func23, Try.ntmps23
  go_wp2_with fail
  refine HGp.out.mono ?_; rintro e w' ⟨rfl, rfl⟩
  go_wp2_with fail
  refine HGq.out.mono ?_; rintro e w' ⟨rfl, rfl⟩
  go_wp2_with fail
  refine HKp.out.mono ?_; rintro e w' ⟨rfl, rfl⟩
  go_wp2_with fail
  refine HKq.out.mono ?_; rintro e w' ⟨rfl, rfl⟩
  clear HGp HGq HKp HKq
  go_wp2_with fail
  refine (Len_L H.out.1).mono ?_; rintro e w' ⟨rfl, rfl⟩
  go_wp2_with fail
  refine (At_last H.out.1).mono ?_; rintro e w1 ⟨rfl, hb1⟩
  have H1 := Aside0.mk (And.intro (H.out.1.below hb1) (H.out.2.below hb1))
  have HB1 := Aside0.mk hb1
  clear hb1 H
  go_wp2_with fail
  refine (At_first H1.out.2).mono ?_; rintro e w2 ⟨rfl, hb2⟩
  have H2 := Aside0.mk (And.intro (H1.out.1.below hb2) (H1.out.2.below hb2))
  have HB2 := Aside0.mk (below_step HB1.out hb2)
  clear hb2 H1 HB1
  go_wp2_with fail
  refine (Len_L H2.out.1).mono ?_; rintro e wA ⟨rfl, rfl⟩
  go_wp2_with fail
  refine (Len_L H2.out.2).mono ?_; rintro e wB ⟨rfl, rfl⟩
  go_wp2_with fail
  refine (Len_L H2.out.2).mono ?_; rintro e wC ⟨rfl, rfl⟩
  go_wp2_with fail
  refine (used_L H2.out.2).mono ?_; rintro e w3 ⟨rfl, hb3⟩
  have H3 := Aside0.mk (And.intro (H2.out.1.below hb3) (H2.out.2.below hb3))
  have HB3 := Aside0.mk (below_step HB2.out hb3)
  clear hb3 H2 HB2
  go_wp2_with fail
  refine (room_L H3.out.1).mono ?_; rintro e w4 ⟨rfl, hb4⟩
  have H4 := Aside0.mk (And.intro (H3.out.1.below hb4) (H3.out.2.below hb4))
  have HB4 := Aside0.mk (below_step HB3.out hb4)
  clear hb4 H3 HB3
  go_wp2_with fail
  refine (Len_L H4.out.2).mono ?_; rintro e w5 ⟨rfl, rfl⟩
  go_wp2_with fail
  clear dA dA' dF
  go_loopw [64] (fun v wr => ∃ m : Nat, v = .int .i64 (m : Int) ∧ Aside0 (m ≤ Q.length) ∧ Aside0 (PGL wr g kp (P ++ Q.take m)) ∧ Aside0 (PGL wr g2 kp Q) ∧ Aside0 (BelX g w' wr)) (fun v _ => Q.length - (Lib.intOf v).toNat)
  case atStart => exact ⟨0, rfl, ⟨by omega⟩, ⟨by rw [List.take_zero, List.append_nil]; exact H4.out.1⟩, ⟨H4.out.2⟩, ⟨BelX.of_below HB4.out⟩⟩
  case round =>
    obtain ⟨m, rfl, hM, HA, HQ, HB⟩ := hrel
    by_cases hlt : m < Q.length
    · have d1 : decide ((m : Int) < (Q.length : Int)) = true := decide_eq_true (by omega)
      have d2 : decide (m < Q.length) = true := decide_eq_true hlt
      have hc : P ++ Q.take (m + 1) = (P ++ Q.take m) ++ [Q[m]] := by rw [List.take_succ_eq_append_getElem hlt, List.append_assoc]
      have HC1 := Aside0.mk (show Cells ((P ++ Q.take m) ++ [Q[m]]) from by rw [← hc]; exact cells_sub (List.Sublist.append_left (List.take_sublist _ _) _) HC.out)
      have HC2 := Aside0.mk hc
      obtain ⟨c, hcc⟩ : ∃ c, Q[m] = c := ⟨_, rfl⟩
      rw [hcc] at HC1 HC2
      have HCC := Aside0.mk hcc
      have HLT := Aside0.mk hlt
      clear hc hcc
      go_wp2_with fail
      refine (At_cell HQ.out m HLT.out).mono ?_; rintro e w6 ⟨rfl, hb6⟩
      rw [HCC.out]
      have HA6 := Aside0.mk (HA.out.below hb6)
      have HQ6 := Aside0.mk (HQ.out.below hb6)
      have HB6 := Aside0.mk (HB.out.trans (BelX.of_below hb6))
      clear hb6 HA HQ HB
      go_wp2_with fail
      refine (Put_end HA6.out c HC1.out).mono ?_; rintro e w7 ⟨rfl, hp7, hb7⟩
      have HA7 := Aside0.mk hp7
      have HQ7 := Aside0.mk (HQ6.out.belX hb7 (fun e => HNe.out e.symm))
      have HB7 := Aside0.mk (HB6.out.trans hb7)
      clear hp7 hb7 HA6 HQ6 HB6
      go_wp2
      have q : (m : Int) + 1 = ((m + 1 : Nat) : Int) := by omega
      go_roundw
      case rel => exact ⟨m + 1, by rw [q], ⟨HLT.out⟩, ⟨by rw [HC2.out]; exact HA7.out⟩, HQ7, HB7⟩
      case measure => rw [q]; exact up_lt _ _ _ rfl HLT.out
    · have hm : m = Q.length := by have := hM.out; omega
      have d1 : decide ((m : Int) < (Q.length : Int)) = false := decide_eq_false (by omega)
      have d2 : decide (m < Q.length) = false := decide_eq_false hlt
      have HA' := Aside0.mk (show PGL wr g kp (P ++ Q) from by have := HA.out; rwa [hm, List.take_length] at this)
      clear hlt hm HA
      go_wp2_with fail
      go_ret
      exact ⟨rfl, HA'.out, HQ.out, HB.out⟩
theorem Join_any {w : World} {g g2 : Nat} {kp kq : UInt8} {P Q : List S66} (hp : PGL w g kp P) (hq : PGL w g2 kq Q) (hne : g ≠ g2) : Calls Try.prog 23 #[.pointer (some ⟨g, 0, none⟩), .pointer (some ⟨g2, 0, none⟩)] w fun e w' => e = .returned (.int .i64 (joinR kp P kq Q).1) ∧ PGL w' g kp (joinR kp P kq Q).2 ∧ PGL w' g2 kq Q ∧ BelX g w w' := by
  by_cases hk : kp = kq
  · subst hk
    cases hb : behindB P Q with
    | false =>
      have e : joinR kp P kp Q = (1, P) := by unfold joinR; rw [if_neg (by simp [hb])]
      rw [e]
      exact (Join_touch hp hq hne hb).mono fun e w' ⟨h1, h2⟩ => ⟨h1, hp.below h2, hq.below h2, BelX.of_below h2⟩
    | true =>
      by_cases hf : Fits (P ++ Q)
      · have e : joinR kp P kp Q = (0, P ++ Q) := by unfold joinR; rw [if_pos ⟨rfl, hb⟩, if_pos hf]
        rw [e]
        have hc := join_cells hp.cells hq.cells hb hf
        by_cases h1 : P = []
        · exact Join_ok0 hp hq hne h1 hc
        · by_cases h2 : Q = []
          · exact Join_ok1 hp hq hne h1 h2 hc
          · refine Join_ok2 hp hq hne h1 h2 ?_ hc
            simpa [behindB, h1, h2] using hb
      · have e : joinR kp P kp Q = (2, P) := by unfold joinR; rw [if_pos ⟨rfl, hb⟩, if_neg hf]
        rw [e]
        have K : ∀ {e : Ending} {w' : World}, (e = .returned (.int .i64 2) ∧ Below w.heap.size w w') → (e = .returned (.int .i64 2) ∧ PGL w' g kp P ∧ PGL w' g2 kp Q ∧ BelX g w w') := fun ⟨h1, h2⟩ => ⟨h1, hp.below h2, hq.below h2, BelX.of_below h2⟩
        by_cases h1 : P = []
        · exact (Join_full0 hp hq hne h1 hf).mono fun _ _ h => K h
        · by_cases h2 : Q = []
          · exact (Join_full1 hp hq hne h1 h2 hf).mono fun _ _ h => K h
          · refine (Join_full2 hp hq hne h1 h2 ?_ hf).mono fun _ _ h => K h
            simpa [behindB, h1, h2] using hb
  · have e : joinR kp P kq Q = (1, P) := by unfold joinR; rw [if_neg (by simp [hk])]
    rw [e]
    exact (Join_kind hp hq hk).mono fun e w' ⟨h1, h2⟩ => by subst h2; exact ⟨h1, hp, hq, BelX.refl _ _⟩
end Go.Proofs.Ytinbppcfdmbclaa.Pg
