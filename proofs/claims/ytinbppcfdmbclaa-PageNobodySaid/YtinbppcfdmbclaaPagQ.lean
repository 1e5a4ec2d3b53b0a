/- A page's Split, walked. No condition beyond those that each theorem names. -/
import Derived.Test.YtinbppcfdmbclaaPagP
import Derived.Deep.LoopGhost
namespace Go.Proofs.Ytinbppcfdmbclaa.Pg
open Go.RowKit Go.Proofs.YtinbppcfdmbclaaW.PrintWords Go.Proofs.YtinbppcfdmbclaaW.PrintLast Go.Proofs.YtinbppcfdmbclaaW.PrintMore
set_option linter.unusedVariables false
set_option linter.unusedSimpArgs false
theorem total_sub {A B : List S66} (h : List.Sublist A B) : total A ≤ total B := by
  induction h with
  | slnil => exact Nat.le_refl _
  | cons a _ ih => rw [total]; omega
  | cons_cons a _ ih => rw [total, total]; omega
theorem cells_sub {A B : List S66} (s : List.Sublist A B) (h : Cells B) : Cells A := by
  refine ⟨?_, fun c hc => h.each c (s.subset hc), h.asc.sublist s⟩
  have h1 := h.fits
  have h2 := total_sub s
  have h3 := s.length_le
  unfold Fits at h1 ⊢; omega
theorem fN_all : ∀ (L : List S66) (key : ByteArray), (∀ c ∈ L, Op.bytesLess c.f0.toList key.toList = true) → fN L key = L.length
  | [], _, _ => rfl
  | c :: t, key, h => by rw [fN, if_pos (h c (by simp)), fN_all t key (fun x hx => h x (by simp [hx]))]; rfl
theorem put_end {L : List S66} {c : S66} (h : Cells (L ++ [c])) : putR L c.f0 c.f1 = (0, L ++ [c]) := by
  have hc := h.each c (by simp)
  have ha := List.pairwise_append.1 h.asc
  have hf := fN_all L c.f0 (fun x hx => ha.2.2 x hx c (by simp))
  have ht : there L c.f0 = false := by unfold there; rw [hf, List.getElem?_eq_none (Nat.le_refl _)]
  have hi : insL L c.f0 c.f1 = L ++ [c] := by
    rw [insL, aheadL, behindL, ht, hf, List.take_length, if_neg (by simp), List.drop_length]
  have hm : mayB c.f0 c.f1 = true := decide_eq_true hc
  rw [putR, if_pos hm, hi, if_pos h.fits]
theorem Put_end {w : World} {g : Nat} {kind : UInt8} {L : List S66} (h : PGL w g kind L) (c : S66) (hc : Cells (L ++ [c])) : Calls Try.prog 18 #[.pointer (some ⟨g, 0, none⟩), .string c.f0, .string c.f1] w fun e w' => e = .returned (.int .i64 0) ∧ PGL w' g kind (L ++ [c]) ∧ BelX g w w' := by
  have := Put_any h c.f0 c.f1
  rw [put_end hc] at this
  exact this
theorem Len_L {w : World} {g : Nat} {kind : UInt8} {L : List S66} (h : PGL w g kind L) : Calls Try.prog 21 #[.pointer (some ⟨g, 0, none⟩)] w fun e w' => e = .returned (.int .i64 (L.length : Int)) ∧ w' = w := by
  have := Len_pg h.pg
  rwa [enc_len _ _ h.cells.fits] at this
theorem Kind_L {w : World} {g : Nat} {kind : UInt8} {L : List S66} (h : PGL w g kind L) : Calls Try.prog 27 #[.pointer (some ⟨g, 0, none⟩)] w fun e w' => e = .returned (.int .i64 (kind.toNat : Int)) ∧ w' = w := by
  have := Kind_pg h.pg
  rwa [enc_kind] at this
theorem PGL.belX {w w' : World} {g g' : Nat} {kind : UInt8} {L : List S66} (h : PGL w g kind L) (k : BelX g' w w') (hne : g ≠ g') : PGL w' g kind L := ⟨h.pg.belX k hne, h.cells⟩
theorem PGL.short {w : World} {g : Nat} {kind : UInt8} {L : List S66} (h : PGL w g kind L) : L.length ≤ 124 ∧ total L ≤ 248 := by
  have := h.cells.fits; unfold Fits at this; omega
/-- all lies as it lay but two blocks: one of them new -/
theorem BelX.two {g g2 : Nat} {w a b : World} (h : BelX g w a) (k : BelX g2 a b) (hg2 : w.heap.size ≤ g2) : BelX g w b :=
  ⟨k.os.trans h.os, k.tape.trans h.tape, k.output.trans h.output, Nat.le_trans h.size k.size, fun i hi hg => (k.block i (Nat.lt_of_lt_of_le hi h.size) (by omega)).trans (h.block i hi hg)⟩
theorem by_toNat (x : UInt8) : by_ x.toNat = x := by simp [by_]
set_option maxHeartbeats 4000000 in
theorem Split_bad {w : World} {g : Nat} {kind : UInt8} {L : List S66} (h : PGL w g kind L) (k : Int) (hk : k < 0 ∨ (L.length : Int) < k) : Calls Try.prog 22 #[.pointer (some ⟨g, 0, none⟩), .int .i64 k] w fun e w' => e = .returned (.tuple #[.pointer none, .int .i64 1]) ∧ w' = w := by
  have HG := Aside0.mk (given_pg h.pg)
  have HL := Aside0.mk (Len_L h)
  clear h
  by_cases h0 : k < 0
  · have c0 : decide (k < 0) = true := decide_eq_true h0
    clear hk
    go_enter Try.func22, Try.ntmps22
    go_wp2_with (go_at_call 31; refine HG.out.mono ?_; rintro e w' ⟨rfl, rfl⟩)
    exact bodyPost_ret (results_tmp2 rfl _ _ _) rfl ⟨rfl, rfl⟩
  · have c0 : decide (k < 0) = false := decide_eq_false h0
    have c1 : decide ((L.length : Int) < k) = true := decide_eq_true (by omega)
    clear hk h0
    go_enter Try.func22, Try.ntmps22
    go_wp2_with fail
    refine HG.out.mono ?_; rintro e w' ⟨rfl, rfl⟩
    go_wp2_with fail
    refine HL.out.mono ?_; rintro e w' ⟨rfl, rfl⟩
    go_wp2_with fail
    exact bodyPost_ret (results_tmp2 rfl _ _ _) rfl ⟨rfl, rfl⟩
set_option maxHeartbeats 4000000 in
theorem Split_ok {w : World} {g : Nat} {kind : UInt8} {L : List S66} (h : PGL w g kind L) (k : Nat) (hk : k ≤ L.length) (hkind : kind ≠ 0) : Calls Try.prog 22 #[.pointer (some ⟨g, 0, none⟩), .int .i64 (k : Int)] w fun e w' => ∃ g2, e = .returned (.tuple #[.pointer (some ⟨g2, 0, none⟩), .int .i64 0]) ∧ w.heap.size ≤ g2 ∧ PGL w' g kind (L.take k) ∧ PGL w' g2 kind (L.drop k) ∧ BelX g w w' := by
  have HG := Aside0.mk (given_pg h.pg)
  have HL := Aside0.mk (Len_L h)
  have HKd := Aside0.mk (Kind_L h)
  have H := Aside0.mk h
  have hsh := h.short.1
  have hk0 : 1 ≤ kind.toNat ∧ kind.toNat ≤ 255 := by
    have := kind.toNat_lt
    refine ⟨?_, by omega⟩
    rcases Nat.eq_zero_or_pos kind.toNat with h0 | h0
    · exact absurd (UInt8.toNat_inj.1 (by simpa using h0)) hkind
    · exact h0
  have HN := Aside0.mk (New_ok w kind.toNat hk0.1 hk0.2)
  rw [by_toNat] at HN
  have c0 : decide ((k : Int) < 0) = false := decide_eq_false (by omega)
  have c1 : decide ((L.length : Int) < (k : Int)) = false := decide_eq_false (by omega)
  have c2 : decide (L.length < k) = false := decide_eq_false (by omega)
  clear h hkind
  go_enter Try.func22, Try.ntmps22
  go_wp2_with fail
  refine HG.out.mono ?_; rintro e w' ⟨rfl, rfl⟩
  go_wp2_with fail
  refine HL.out.mono ?_; rintro e w' ⟨rfl, rfl⟩
  go_wp2_with fail
  refine HKd.out.mono ?_; rintro e w' ⟨rfl, rfl⟩
  go_wp2_with fail
  refine HN.out.mono ?_; rintro e w1 ⟨g2, rfl, hg2, hp2, hb1⟩
  have HP2 := Aside0.mk hp2
  have HG2 := Aside0.mk (show w'.heap.size ≤ g2 ∧ g ≠ g2 from ⟨hg2, by have := H.out.pg.lt; omega⟩)
  have H1 := Aside0.mk (H.out.below hb1)
  have HB1 := Aside0.mk hb1
  clear hp2 hg2 hb1 HG HL HKd HN hk0
  go_wp2_with fail
  go_loopw [8] (fun v8 wr => ∃ m : Nat, v8 = .int .i64 ((k + m : Nat) : Int) ∧ Aside0 (m ≤ L.length - k) ∧ Aside0 (PGL wr g kind L) ∧ Aside0 (PGL wr g2 kind ((L.drop k).take m)) ∧ Aside0 (BelX g2 w1 wr)) (fun v8 _ => L.length - (Lib.intOf v8).toNat)
  case atStart => exact ⟨0, by simp, ⟨by omega⟩, H1, HP2, ⟨BelX.refl _ _⟩⟩
  case round =>
    obtain ⟨m, rfl, hM, HA, HQ, HB⟩ := hrel
    obtain ⟨i, hi⟩ : ∃ i, k + m = i := ⟨_, rfl⟩
    rw [hi]
    by_cases hlt : i < L.length
    · have d1 : decide ((i : Int) < (L.length : Int)) = true := decide_eq_true (by omega)
      have d2 : decide (i < L.length) = true := decide_eq_true hlt
      have hc : (L.drop k).take (m + 1) = (L.drop k).take m ++ [L[i]] := by
        rw [List.take_succ_eq_append_getElem (by rw [List.length_drop]; omega), List.getElem_drop]
        simp only [hi]
      have HC := Aside0.mk (show Cells ((L.drop k).take m ++ [L[i]]) from by rw [← hc]; exact cells_sub ((List.take_sublist _ _).trans (List.drop_sublist _ _)) HA.out.cells)
      have HC2 := Aside0.mk hc
      have HI := Aside0.mk (And.intro hi hlt)
      obtain ⟨c, hcc⟩ : ∃ c, L[i] = c := ⟨_, rfl⟩
      rw [hcc] at HC HC2
      have HCC := Aside0.mk hcc
      clear hi hc hcc
      go_wp2_with fail
      refine (Len_L HA.out).mono ?_; rintro e w3 ⟨rfl, rfl⟩
      go_wp2_with fail
      refine (At_cell HA.out i hlt).mono ?_; rintro e w4 ⟨rfl, hb4⟩
      rw [HCC.out]
      have HA4 := Aside0.mk (HA.out.below hb4)
      have HQ4 := Aside0.mk (HQ.out.below hb4)
      have HB4 := Aside0.mk (HB.out.trans (BelX.of_below hb4))
      clear hb4 HA HQ HB
      go_wp2_with fail
      refine (Put_end HQ4.out c HC.out).mono ?_; rintro e w5 ⟨rfl, hp5, hb5⟩
      have HQ5 := Aside0.mk hp5
      have HA5 := Aside0.mk (HA4.out.belX hb5 HG2.out.2)
      have HB5 := Aside0.mk (HB4.out.trans hb5)
      clear hp5 hb5 HQ4 HA4 HB4
      have HM := Aside0.mk (show k + (m + 1) = i + 1 from by have := HI.out.1; omega)
      go_wp2
      have q : (i : Int) + 1 = ((k + (m + 1) : Nat) : Int) := by have := HM.out; omega
      go_roundw
      case rel => exact ⟨m + 1, by rw [q], ⟨by have := HI.out; omega⟩, HA5, ⟨by rw [HC2.out]; exact HQ5.out⟩, HB5⟩
      case measure => rw [q]; exact up_lt _ _ _ HM.out HI.out.2
    · have hm : m = L.length - k := by have := hM.out; omega
      have d1 : decide ((i : Int) < (L.length : Int)) = false := decide_eq_false (by omega)
      have d2 : decide (i < L.length) = false := decide_eq_false hlt
      have HQ' := Aside0.mk (show PGL wr g2 kind (L.drop k) from by have := HQ.out; rwa [hm, List.take_of_length_le (by rw [List.length_drop]; omega)] at this)
      clear hi hlt hm HQ
      go_wp2_with fail
      refine (Len_L HA.out).mono ?_; rintro e w3 ⟨rfl, rfl⟩
      go_wp2_with fail
      go_loopg [] (L.length - k) (fun n wr => Aside0 (k + n ≤ L.length) ∧ Aside0 (PGL wr g kind (L.take (k + n))) ∧ Aside0 (PGL wr g2 kind (L.drop k)) ∧ Aside0 (BelX g w' wr))
      case atStart => exact ⟨⟨by omega⟩, ⟨by rw [List.take_of_length_le (by omega)]; exact HA.out⟩, HQ', ⟨((BelX.of_below HB1.out).two HB.out HG2.out.1)⟩⟩
      case round =>
        clear H HP2 H1 HB1 HA HQ' HB
        obtain ⟨hK, HA, HQ, HB⟩ := hrel
        by_cases h0 : gk = 0
        · subst h0
          have hl : (L.take (k + 0)).length = k := by rw [List.length_take, Nat.add_zero, Nat.min_eq_left hk]
          have HLn := Aside0.mk (show Calls Try.prog 21 #[.pointer (some ⟨g, 0, none⟩)] wr fun e w' => e = .returned (.int .i64 (k : Int)) ∧ w' = wr from by have := Len_L HA.out; rwa [hl] at this)
          clear hl
          go_wp2_with fail
          refine HLn.out.mono ?_; rintro e w4 ⟨rfl, rfl⟩
          go_wp2_with fail
          exact bodyPost_ret (results_tmp2 rfl _ _ _) rfl ⟨g2, rfl, HG2.out.1, HA.out, HQ.out, HB.out⟩
        · obtain ⟨m2, rfl⟩ : ∃ m2, gk = m2 + 1 := ⟨gk - 1, by omega⟩
          have hKo := hK.out
          obtain ⟨l1, hl1⟩ : ∃ l1, k + m2 = l1 := ⟨_, rfl⟩
          have hl : (L.take (k + (m2 + 1))).length = l1 + 1 := by rw [List.length_take]; omega
          have ht : L.take (k + (m2 + 1)) = L.take l1 ++ L[l1]'(by omega) :: [] := by rw [← Nat.add_assoc, hl1, List.take_succ_eq_append_getElem (by omega)]
          have htl : (L.take l1).length = l1 := by rw [List.length_take]; omega
          have HLn := Aside0.mk (show Calls Try.prog 21 #[.pointer (some ⟨g, 0, none⟩)] wr fun e w' => e = .returned (.int .i64 ((l1 : Int) + 1)) ∧ w' = wr from by have := Len_L HA.out; rwa [hl, show ((l1 + 1 : Nat) : Int) = (l1 : Int) + 1 from by omega] at this)
          have HCl := Aside0.mk (show Calls Try.prog 41 #[.pointer (some ⟨g, 0, none⟩), .int .i64 (l1 : Int)] wr fun e w' => e = .returned (.tuple #[]) ∧ PGL w' g kind (L.take l1) ∧ BelX g wr w' from by
            have h1 := HA.out
            rw [ht] at h1
            have := closes_L _ _ _ h1
            rwa [htl, List.append_nil] at this)
          have d1 : decide ((k : Int) < (l1 : Int) + 1) = true := decide_eq_true (by omega)
          have q0 : (l1 : Int) + 1 - 1 = (l1 : Int) := by omega
          have HL1 := Aside0.mk (show k + m2 = l1 ∧ k + m2 ≤ L.length from by omega)
          have hb1 : l1 ≤ 1000 := by omega
          clear hl ht htl hKo hl1 h0
          go_wp2_with fail
          refine HLn.out.mono ?_; rintro e w4 ⟨rfl, rfl⟩
          go_wp2_with fail
          refine HLn.out.mono ?_; rintro e w4 ⟨rfl, rfl⟩
          go_wp2_with fail
          refine HCl.out.mono ?_; rintro e w5 ⟨rfl, hp5, hb5⟩
          have HA5 := Aside0.mk hp5
          have HQ5 := Aside0.mk (HQ.out.belX hb5 (fun e => HG2.out.2 e.symm))
          have HB5 := Aside0.mk (HB.out.trans hb5)
          clear hp5 hb5 HLn HCl HA HQ HB
          go_wp2
          go_roundg m2
          case rel => exact ⟨⟨HL1.out.2⟩, ⟨by rw [HL1.out.1]; exact HA5.out⟩, HQ5, HB5⟩
          case measure => omega
end Go.Proofs.Ytinbppcfdmbclaa.Pg
