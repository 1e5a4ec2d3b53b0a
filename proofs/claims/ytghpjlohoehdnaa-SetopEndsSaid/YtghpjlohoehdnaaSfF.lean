/- The reference's Join, over lists of rows: its loops. No condition beyond those that each theorem names. -/
import Derived.Test.YtghpjlohoehdnaaSfE
import Derived.Deep.RegionWith
namespace Go.Proofs.Ytghpjlohoehdnaa.Sep
open Go Go.RowKit Go.Shelf
set_option linter.unusedVariables false
set_option linter.unusedSimpArgs false
set_option maxRecDepth 100000 in
set_option maxHeartbeats 1000000 in
theorem ref_no (how : Int) (h : how < 1 ∨ 4 < how) (aa ab : Option Addr) (na ca nb cb : Nat) (W : World) :
    Calls Try.prog 14 #[.int .i64 how, .slice aa na ca, .slice ab nb cb] W fun e W' => e = .returned (.tuple #[.slice none 0 0, .int .i64 1]) ∧ Below W.heap.size W W' := by
  have hb1 : (how == 1) = false := by simp; omega
  by_cases h1 : how < 1
  · have hd1 : decide (how < 1) = true := by simpa using h1
    clear h
    go_enter Try.func14, Try.ntmps14
    go_wp2
    refine bodyPost_ret (results_tmp2 rfl _ _ _) rfl ?_
    exact ⟨rfl, Below.refl _ _⟩
  · have hd1 : decide (how < 1) = false := by simpa using h1
    have h4 : 4 < how := by omega
    have hd4 : decide (4 < how) = true := by simpa using h4
    clear h
    go_enter Try.func14, Try.ntmps14
    go_wp2
    refine bodyPost_ret (results_tmp2 rfl _ _ _) rfl ?_
    exact ⟨rfl, Below.refl _ _⟩
/-- what the first loop of the reference's Join knows -/
def R1 (W : World) (how : Int) (ra rb : List (List V3)) (i o : Value) (wr : World) : Prop :=
  ∃ (j : Nat) (rsO : List RV) (rowsO : List (List V3)), j ≤ ra.length ∧ i = .int .i64 j ∧ Below W.heap.size W wr ∧ wr.ownsRow W.heap.size 48 1 o rsO.length (rsO.map RV.v) ∧ All2 (fun q row => Cont W q row ∧ q.n ≤ 1000) rsO rowsO ∧ rsO.length ≤ j ∧ refA how rb [] ra = refA how rb rowsO (ra.drop j)
/-- .. and the second -/
def R2 (W : World) (rb out0 : List (List V3)) (i o : Value) (wr : World) : Prop :=
  ∃ (j : Nat) (rsO : List RV) (rowsO : List (List V3)), j ≤ rb.length ∧ i = .int .i64 j ∧ Below W.heap.size W wr ∧ wr.ownsRow W.heap.size 48 1 o rsO.length (rsO.map RV.v) ∧ All2 (fun q row => Cont W q row ∧ q.n ≤ 1000) rsO rowsO ∧ rsO.length ≤ 90000 + j ∧ refB out0 rb = refB rowsO (rb.drop j)
theorem ref_grow {W wr w' w1 : World} {a : Option Addr} {k c : Nat} {xs : List Value} {o : Obj} (hbw : Below W.heap.size W wr) (hw : Still wr w') (hg : (w'.alloc o).grownBy w1 (Value.slice a k c).ownBlock) (ho : w'.ownsRow W.heap.size 48 1 (.slice a k c) k xs) : Below W.heap.size W w1 := by
  have h1 := below_step hbw hw.below hbw.size
  refine (h1.alloc h1.size o).grown hg (by rw [World.size_alloc]; exact Nat.le_succ_of_le h1.size) (fun j hj => ?_)
  rcases ho.2 with ⟨e, _⟩ | ⟨g, cap, cur, e, h, _⟩
  · rw [e] at hj; cases hj
  · rw [e] at hj; injection hj with hj; subst hj; exact h
set_option maxRecDepth 100000 in
set_option maxHeartbeats 4000000 in
theorem ref_2 (aa ab : Option Addr) (na ca nb cb : Nat) (ra rb : List (List V3)) (W : World) (hka : ra.length ≤ 90000) (hkb : rb.length ≤ 90000) (ha : Own1 W (.slice aa na ca) ra) (hb : Own1 W (.slice ab nb cb) rb) :
    Calls Try.prog 14 #[.int .i64 2, .slice aa na ca, .slice ab nb cb] W fun e W' => ∃ sv, e = .returned (.tuple #[sv, .int .i64 0]) ∧ Own1 W' sv (refB (refA 2 rb [] ra) rb) ∧ Below W.heap.size W W' := by
  obtain ⟨i0, hi, hz0, hz1, hz2⟩ := info_parts infoR
  have hbelow : Below W.heap.size W W := Below.refl _ _
  obtain ⟨rsa, la, pa, hca⟩ := ha.cells
  have hna : na = ra.length := by
    rcases hca with ⟨a, c, h1, h2⟩ | ⟨b, off, c, h1, _⟩
    · injection h1 with _ h1 _; rw [h1, ← la, h2]; rfl
    · injection h1 with _ h1 _; rw [h1, la]
  obtain ⟨rsb, lb, pb, hcb⟩ := hb.cells
  have hnb : nb = rb.length := by
    rcases hcb with ⟨a, c, h1, h2⟩ | ⟨b, off, c, h1, _⟩
    · injection h1 with _ h1 _; rw [h1, ← lb, h2]; rfl
    · injection h1 with _ h1 _; rw [h1, lb]
  have hcell2 : ∀ j, j < nb → ∃ b off, ab = some ⟨b, off, none⟩ ∧ b < W.heap.size ∧ W.cell? ⟨b, off + j, none⟩ = some ((rsb[j]?.getD RV.nil).v) := by
    intro j hj
    rcases hcb with ⟨a, c, h1, h2⟩ | ⟨b, off, c, h1, h2, h3⟩
    · injection h1 with _ h1 _; omega
    · injection h1 with h4 h5 _
      exact ⟨b, off, h4, h2, h3 j (by omega)⟩
  clear hcb
  have hcell : ∀ j, j < na → ∃ b off, aa = some ⟨b, off, none⟩ ∧ b < W.heap.size ∧ W.cell? ⟨b, off + j, none⟩ = some ((rsa[j]?.getD RV.nil).v) := by
    intro j hj
    rcases hca with ⟨a, c, h1, h2⟩ | ⟨b, off, c, h1, h2, h3⟩
    · injection h1 with _ h1 _; omega
    · injection h1 with h4 h5 _
      exact ⟨b, off, h4, h2, h3 j (by omega)⟩
  clear hca ha
  go_enter Try.func14, Try.ntmps14
  go_wp2
  go_loopw [9, 8] (fun i o wr => R1 W 2 ra rb i o wr) (fun i _ _ => na - (intOf i).toNat)
  case atStart => exact ⟨0, [], [], Nat.zero_le _, rfl, Below.refl _ _, World.ownsRow_nil _ _ _ _, trivial, Nat.le_refl _, rfl⟩
  case round =>
    obtain ⟨j, rsO, rowsO, hj, rfl, hbw, hO, hpO, hlO, hrf⟩ := hrel
    obtain ⟨oa, oc, rfl⟩ := own_shape hO
    by_cases hlt : j < na
    · obtain ⟨b, off, rfl, hbs, hx⟩ := hcell j hlt
      obtain ⟨q, hq⟩ : ∃ q, rsa[j]? = some q := ⟨rsa[j]'(by omega), List.getElem?_eq_getElem (by omega)⟩
      obtain ⟨row, hr⟩ : ∃ row, ra[j]? = some row := ⟨ra[j]'(by omega), List.getElem?_eq_getElem (by omega)⟩
      have hcont := pa.get j _ _ hq hr
      have hd : ra.drop j = row :: ra.drop (j + 1) := by rw [List.drop_eq_getElem_cons (by omega)]; congr 1; exact Option.some.inj ((List.getElem?_eq_getElem (by omega)).symm.trans hr)
      rw [hd, refA] at hrf
      replace hx := (cell_of_block (hbw.block b hbs) _).trans hx
      rw [hq] at hx
      obtain ⟨qa, qn, qc⟩ := q
      dsimp only [RV.v, Option.getD_some] at hx
      have hcw : ∀ w, Still wr w → w.cell? ⟨b, off + j, none⟩ = some (.slice qa qn qc) := fun w k => (k.cell _).trans hx
      have hC : ∀ w, Still wr w → Cont w ⟨qa, qn, qc⟩ row := fun w k => (hcont.1.below hbw).still k
      have hOw : ∀ w, Still wr w → w.ownsRow W.heap.size 48 1 (.slice oa rsO.length oc) rsO.length (rsO.map RV.v) := fun w k => ownsRow_still hO k
      have hO1 : ∀ w, Still wr w → Own1 w (.slice oa rsO.length oc) rowsO := fun w k => (own1_of_row rfl hO (all2_below hbw hpO)).still k
      have hlo : rowsO.length ≤ 100000 := by rw [← hpO.len]; omega
      have hhasO := fun w (k : Still wr w) => has_ok qa qn qc (.slice oa rsO.length oc) rowsO row w hlo (hO1 w k) (hC w k)
      have hlO2 : rsO.length ≤ 90000 := by omega
      have hjn : j + 1 ≤ ra.length := by omega
      have hnew : All2 (fun q row => Cont W q row ∧ q.n ≤ 1000) (rsO ++ [(⟨qa, qn, qc⟩ : RV)]) (rowsO ++ [row]) := All2.snoc (P := fun q row => Cont W q row ∧ q.n ≤ 1000) hcont hpO
      have hbase : ∀ w, Still wr w → W.heap.size ≤ w.heap.size := fun w k => by rw [k.1]; exact hbw.size
      clear hq hr hd hcell la hO hO1 hna hnb lb hcell2
      cases ht : (rowsO.any fun s => eqRow s row) with
      | true =>
        rw [ht] at hrf
        go_wp2_with (first | (go_at_call 37; refine (hhasO wr (Still.refl _)).mono ?_; rw [ht]; rintro e w' ⟨rfl, hw'⟩))
        go_roundw
        case rel => exact ⟨j + 1, rsO, rowsO, hjn, by simp, below_step hbw (hw'.below) hbw.size, hOw _ hw', hpO, by omega, by simpa using hrf⟩
        case measure => simp [intOf]; omega
      | false =>
        rw [ht] at hrf
        go_wp2_with (first | (go_at_call 37; refine (hhasO wr (Still.refl _)).mono ?_; rw [ht]; rintro e w' ⟨rfl, hw'⟩) | (at_builtin; refine wpList_append_own _ rfl _ _ 22 rfl W.heap.size 48 i0 (.slice none 0 0) 1 24 Try.underlying22 hi hz0 hz1 hz2 rfl (by decide) _ _ _ rfl ((hOw _ hw').alloc _) ⟨_, 0, none⟩ 1 1 [.slice qa qn qc] rfl rfl (cell_one_new _ _ _) (by simp [Value.oneCell']) (by unfold maxLen; omega) (by omega) (by have := hbase _ hw'; simp; omega) ?_; intro v' w1 hown hgrow hnil))
        go_roundw
        case rel => exact ⟨j + 1, rsO ++ [⟨qa, qn, qc⟩], rowsO ++ [row], hjn, by simp, ref_grow hbw hw' hgrow (hOw _ hw'), by simpa using hown, hnew, by simp; omega, by simpa using hrf⟩
        case measure => simp [intOf]; omega
    · obtain rfl : j = na := by omega
      rw [List.drop_of_length_le (by omega), refA] at hrf
      clear la hna hcell
      go_wp2
      go_loopw [11, 8] (fun i o w2 => R2 W rb (refA 2 rb [] ra) i o w2) (fun i _ _ => nb - (intOf i).toNat)
      case atStart => exact ⟨0, rsO, rowsO, Nat.zero_le _, rfl, hbw, hO, hpO, by omega, by rw [hrf]; rfl⟩
      case round =>
        obtain ⟨j2, rsP, rowsP, hj2, rfl, hbw2, hP, hpP, hlP, hrf2⟩ := hrel
        obtain ⟨oa2, oc2, rfl⟩ := own_shape hP
        clear hO
        by_cases hlt2 : j2 < nb
        · obtain ⟨b, off, rfl, hbs, hx⟩ := hcell2 j2 hlt2
          obtain ⟨q, hq⟩ : ∃ q, rsb[j2]? = some q := ⟨rsb[j2]'(by omega), List.getElem?_eq_getElem (by omega)⟩
          obtain ⟨row, hr⟩ : ∃ row, rb[j2]? = some row := ⟨rb[j2]'(by omega), List.getElem?_eq_getElem (by omega)⟩
          have hcont := pb.get j2 _ _ hq hr
          have hd : rb.drop j2 = row :: rb.drop (j2 + 1) := by rw [List.drop_eq_getElem_cons (by omega)]; congr 1; exact Option.some.inj ((List.getElem?_eq_getElem (by omega)).symm.trans hr)
          rw [hd, refB] at hrf2
          replace hx := (cell_of_block (hbw2.block b hbs) _).trans hx
          rw [hq] at hx
          obtain ⟨qa, qn, qc⟩ := q
          dsimp only [RV.v, Option.getD_some] at hx
          have hcw : ∀ w, Still wr w → w.cell? ⟨b, off + j2, none⟩ = some (.slice qa qn qc) := fun w k => (k.cell _).trans hx
          have hC : ∀ w, Still wr w → Cont w ⟨qa, qn, qc⟩ row := fun w k => (hcont.1.below hbw2).still k
          have hOw : ∀ w, Still wr w → w.ownsRow W.heap.size 48 1 (.slice oa2 rsP.length oc2) rsP.length (rsP.map RV.v) := fun w k => ownsRow_still hP k
          have hO1 : ∀ w, Still wr w → Own1 w (.slice oa2 rsP.length oc2) rowsP := fun w k => (own1_of_row rfl hP (all2_below hbw2 hpP)).still k
          have hlo : rowsP.length ≤ 200000 := by rw [← hpP.len]; omega
          have hhasO := fun w (k : Still wr w) => has_ok2 qa qn qc (.slice oa2 rsP.length oc2) rowsP row w hlo (hO1 w k) (hC w k)
          have hlO2 : rsP.length ≤ 190000 := by omega
          have hjn : j2 + 1 ≤ rb.length := by omega
          have hnew : All2 (fun q row => Cont W q row ∧ q.n ≤ 1000) (rsP ++ [(⟨qa, qn, qc⟩ : RV)]) (rowsP ++ [row]) := All2.snoc (P := fun q row => Cont W q row ∧ q.n ≤ 1000) hcont hpP
          have hbase : ∀ w, Still wr w → W.heap.size ≤ w.heap.size := fun w k => by rw [k.1]; exact hbw2.size
          clear hq hr hd hcell2 lb hP hO1 hnb
          cases ht : (rowsP.any fun s => eqRow s row) with
          | true =>
            rw [ht] at hrf2
            go_wp2_with (first | (go_at_call 37; refine (hhasO wr (Still.refl _)).mono ?_; rw [ht]; rintro e w' ⟨rfl, hw'⟩))
            go_roundw
            case rel => exact ⟨j2 + 1, rsP, rowsP, hjn, by simp, below_step hbw2 (hw'.below) hbw2.size, hOw _ hw', hpP, by omega, by simpa using hrf2⟩
            case measure => simp [intOf]; omega
          | false =>
            rw [ht] at hrf2
            go_wp2_with (first | (go_at_call 37; refine (hhasO wr (Still.refl _)).mono ?_; rw [ht]; rintro e w' ⟨rfl, hw'⟩) | (at_builtin; refine wpList_append_own _ rfl _ _ 22 rfl W.heap.size 48 i0 (.slice none 0 0) 1 24 Try.underlying22 hi hz0 hz1 hz2 rfl (by decide) _ _ _ rfl ((hOw _ hw').alloc _) ⟨_, 0, none⟩ 1 1 [.slice qa qn qc] rfl rfl (cell_one_new _ _ _) (by simp [Value.oneCell']) (by unfold maxLen; omega) (by omega) (by have := hbase _ hw'; simp; omega) ?_; intro v' w1 hown hgrow hnil))
            go_roundw
            case rel => exact ⟨j2 + 1, rsP ++ [⟨qa, qn, qc⟩], rowsP ++ [row], hjn, by simp, ref_grow hbw2 hw' hgrow (hOw _ hw'), by simpa using hown, hnew, by simp; omega, by simpa using hrf2⟩
            case measure => simp [intOf]; omega
        · obtain rfl : j2 = nb := by omega
          rw [List.drop_of_length_le (by omega), refB] at hrf2
          have hfin : Own1 wr (.slice oa2 rsP.length oc2) rowsP := own1_of_row rfl hP (all2_below hbw2 hpP)
          clear hP lb hnb hcell2
          go_wp2
          refine bodyPost_ret (results_tmp2 rfl _ _ _) rfl ?_
          exact ⟨_, rfl, by rw [hrf2]; exact hfin, hbw2⟩
set_option maxRecDepth 100000 in
set_option maxHeartbeats 4000000 in
theorem ref_3 (aa ab : Option Addr) (na ca nb cb : Nat) (ra rb : List (List V3)) (W : World) (hka : ra.length ≤ 90000) (hkb : rb.length ≤ 90000) (ha : Own1 W (.slice aa na ca) ra) (hb : Own1 W (.slice ab nb cb) rb) :
    Calls Try.prog 14 #[.int .i64 3, .slice aa na ca, .slice ab nb cb] W fun e W' => ∃ sv, e = .returned (.tuple #[sv, .int .i64 0]) ∧ Own1 W' sv (refA 3 rb [] ra) ∧ Below W.heap.size W W' := by
  obtain ⟨i0, hi, hz0, hz1, hz2⟩ := info_parts infoR
  have hbelow : Below W.heap.size W W := Below.refl _ _
  obtain ⟨rsa, la, pa, hca⟩ := ha.cells
  have hna : na = ra.length := by
    rcases hca with ⟨a, c, h1, h2⟩ | ⟨b, off, c, h1, _⟩
    · injection h1 with _ h1 _; rw [h1, ← la, h2]; rfl
    · injection h1 with _ h1 _; rw [h1, la]
  have hcell : ∀ j, j < na → ∃ b off, aa = some ⟨b, off, none⟩ ∧ b < W.heap.size ∧ W.cell? ⟨b, off + j, none⟩ = some ((rsa[j]?.getD RV.nil).v) := by
    intro j hj
    rcases hca with ⟨a, c, h1, h2⟩ | ⟨b, off, c, h1, h2, h3⟩
    · injection h1 with _ h1 _; omega
    · injection h1 with h4 h5 _
      exact ⟨b, off, h4, h2, h3 j (by omega)⟩
  clear hca ha
  go_enter Try.func14, Try.ntmps14
  go_wp2
  go_loopw [9, 8] (fun i o wr => R1 W 3 ra rb i o wr) (fun i _ _ => na - (intOf i).toNat)
  case atStart => exact ⟨0, [], [], Nat.zero_le _, rfl, Below.refl _ _, World.ownsRow_nil _ _ _ _, trivial, Nat.le_refl _, rfl⟩
  case round =>
    obtain ⟨j, rsO, rowsO, hj, rfl, hbw, hO, hpO, hlO, hrf⟩ := hrel
    obtain ⟨oa, oc, rfl⟩ := own_shape hO
    by_cases hlt : j < na
    · obtain ⟨b, off, rfl, hbs, hx⟩ := hcell j hlt
      obtain ⟨q, hq⟩ : ∃ q, rsa[j]? = some q := ⟨rsa[j]'(by omega), List.getElem?_eq_getElem (by omega)⟩
      obtain ⟨row, hr⟩ : ∃ row, ra[j]? = some row := ⟨ra[j]'(by omega), List.getElem?_eq_getElem (by omega)⟩
      have hcont := pa.get j _ _ hq hr
      have hd : ra.drop j = row :: ra.drop (j + 1) := by rw [List.drop_eq_getElem_cons (by omega)]; congr 1; exact Option.some.inj ((List.getElem?_eq_getElem (by omega)).symm.trans hr)
      rw [hd, refA] at hrf
      replace hx := (cell_of_block (hbw.block b hbs) _).trans hx
      rw [hq] at hx
      obtain ⟨qa, qn, qc⟩ := q
      dsimp only [RV.v, Option.getD_some] at hx
      have hcw : ∀ w, Still wr w → w.cell? ⟨b, off + j, none⟩ = some (.slice qa qn qc) := fun w k => (k.cell _).trans hx
      have hC : ∀ w, Still wr w → Cont w ⟨qa, qn, qc⟩ row := fun w k => (hcont.1.below hbw).still k
      have hOw : ∀ w, Still wr w → w.ownsRow W.heap.size 48 1 (.slice oa rsO.length oc) rsO.length (rsO.map RV.v) := fun w k => ownsRow_still hO k
      have hO1 : ∀ w, Still wr w → Own1 w (.slice oa rsO.length oc) rowsO := fun w k => (own1_of_row rfl hO (all2_below hbw hpO)).still k
      have hlo : rowsO.length ≤ 100000 := by rw [← hpO.len]; omega
      have hhasO := fun w (k : Still wr w) => has_ok qa qn qc (.slice oa rsO.length oc) rowsO row w hlo (hO1 w k) (hC w k)
      have hlO2 : rsO.length ≤ 90000 := by omega
      have hjn : j + 1 ≤ ra.length := by omega
      have hnew : All2 (fun q row => Cont W q row ∧ q.n ≤ 1000) (rsO ++ [(⟨qa, qn, qc⟩ : RV)]) (rowsO ++ [row]) := All2.snoc (P := fun q row => Cont W q row ∧ q.n ≤ 1000) hcont hpO
      have hbase : ∀ w, Still wr w → W.heap.size ≤ w.heap.size := fun w k => by rw [k.1]; exact hbw.size
      clear hq hr hd hcell la hO hO1 hna
      have hhasB := fun w (k : Still wr w) => has_ok qa qn qc (.slice ab nb cb) rb row w (Nat.le_trans hkb (by decide)) ((hb.below hbw).still k) (hC w k)
      cases hh : (rb.any fun s => eqRow s row) with
      | true =>
        rw [hh] at hrf
        cases ht : (rowsO.any fun s => eqRow s row) with
        | true =>
          rw [ht] at hrf
          go_wp2_with (first | (go_at_call_of 37 (Value.slice ab nb cb); refine (hhasB wr (Still.refl _)).mono ?_; rw [hh]; rintro e w0 ⟨rfl, hk0⟩) | (go_at_call_of 37 (Value.slice oa rsO.length oc); refine (hhasO w0 hk0).mono ?_; rw [ht]; rintro e w' ⟨rfl, hk1⟩; have hw' := hk0.trans hk1))
          go_roundw
          case rel => exact ⟨j + 1, rsO, rowsO, hjn, by simp, below_step hbw (hw'.below) hbw.size, hOw _ hw', hpO, by omega, by simpa using hrf⟩
          case measure => simp [intOf]; omega
        | false =>
          rw [ht] at hrf
          go_wp2_with (first | (go_at_call_of 37 (Value.slice ab nb cb); refine (hhasB wr (Still.refl _)).mono ?_; rw [hh]; rintro e w0 ⟨rfl, hk0⟩) | (go_at_call_of 37 (Value.slice oa rsO.length oc); refine (hhasO w0 hk0).mono ?_; rw [ht]; rintro e w' ⟨rfl, hk1⟩; have hw' := hk0.trans hk1) | (at_builtin; refine wpList_append_own _ rfl _ _ 22 rfl W.heap.size 48 i0 (.slice none 0 0) 1 24 Try.underlying22 hi hz0 hz1 hz2 rfl (by decide) _ _ _ rfl ((hOw _ hw').alloc _) ⟨_, 0, none⟩ 1 1 [.slice qa qn qc] rfl rfl (cell_one_new _ _ _) (by simp [Value.oneCell']) (by unfold maxLen; omega) (by omega) (by have := hbase _ hw'; simp; omega) ?_; intro v' w1 hown hgrow hnil))
          go_roundw
          case rel => exact ⟨j + 1, rsO ++ [⟨qa, qn, qc⟩], rowsO ++ [row], hjn, by simp, ref_grow hbw hw' hgrow (hOw _ hw'), by simpa using hown, hnew, by simp; omega, by simpa using hrf⟩
          case measure => simp [intOf]; omega
      | false =>
        rw [hh] at hrf
        go_wp2_with (go_at_call 37; refine (hhasB wr (Still.refl _)).mono ?_; rw [hh]; rintro e w0 ⟨rfl, hk0⟩)
        go_roundw
        case rel => exact ⟨j + 1, rsO, rowsO, hjn, by simp, below_step hbw (hk0.below) hbw.size, hOw _ hk0, hpO, by omega, by simpa using hrf⟩
        case measure => simp [intOf]; omega
    · obtain rfl : j = na := by omega
      rw [List.drop_of_length_le (by omega), refA] at hrf
      have hfin : Own1 wr (.slice oa rsO.length oc) rowsO := own1_of_row rfl hO (all2_below hbw hpO)
      clear hO la hna hcell
      go_wp2
      go_loopw [11, 8] (fun i o w2 => i = .int .i64 0 ∧ o = .slice oa rsO.length oc ∧ Still wr w2) (fun _ _ _ => 0)
      case atStart => exact ⟨rfl, rfl, Still.refl _⟩
      case round =>
        obtain ⟨rfl, rfl, hs2⟩ := hrel
        have hfin2 := hfin.still hs2
        have hb2 := below_step hbw hs2.below hbw.size
        by_cases hz : 0 < nb
        · have hd0 : decide (0 < nb) = true := by simpa using hz
          go_wp2
          refine bodyPost_ret (results_tmp2 rfl _ _ _) rfl ?_
          exact ⟨_, rfl, by rw [hrf]; exact hfin2, hb2⟩
        · obtain rfl : nb = 0 := by omega
          go_wp2
          refine bodyPost_ret (results_tmp2 rfl _ _ _) rfl ?_
          exact ⟨_, rfl, by rw [hrf]; exact hfin2, hb2⟩
set_option maxRecDepth 100000 in
set_option maxHeartbeats 4000000 in
theorem ref_4 (aa ab : Option Addr) (na ca nb cb : Nat) (ra rb : List (List V3)) (W : World) (hka : ra.length ≤ 90000) (hkb : rb.length ≤ 90000) (ha : Own1 W (.slice aa na ca) ra) (hb : Own1 W (.slice ab nb cb) rb) :
    Calls Try.prog 14 #[.int .i64 4, .slice aa na ca, .slice ab nb cb] W fun e W' => ∃ sv, e = .returned (.tuple #[sv, .int .i64 0]) ∧ Own1 W' sv (refA 4 rb [] ra) ∧ Below W.heap.size W W' := by
  obtain ⟨i0, hi, hz0, hz1, hz2⟩ := info_parts infoR
  have hbelow : Below W.heap.size W W := Below.refl _ _
  obtain ⟨rsa, la, pa, hca⟩ := ha.cells
  have hna : na = ra.length := by
    rcases hca with ⟨a, c, h1, h2⟩ | ⟨b, off, c, h1, _⟩
    · injection h1 with _ h1 _; rw [h1, ← la, h2]; rfl
    · injection h1 with _ h1 _; rw [h1, la]
  have hcell : ∀ j, j < na → ∃ b off, aa = some ⟨b, off, none⟩ ∧ b < W.heap.size ∧ W.cell? ⟨b, off + j, none⟩ = some ((rsa[j]?.getD RV.nil).v) := by
    intro j hj
    rcases hca with ⟨a, c, h1, h2⟩ | ⟨b, off, c, h1, h2, h3⟩
    · injection h1 with _ h1 _; omega
    · injection h1 with h4 h5 _
      exact ⟨b, off, h4, h2, h3 j (by omega)⟩
  clear hca ha
  go_enter Try.func14, Try.ntmps14
  go_wp2
  go_loopw [9, 8] (fun i o wr => R1 W 4 ra rb i o wr) (fun i _ _ => na - (intOf i).toNat)
  case atStart => exact ⟨0, [], [], Nat.zero_le _, rfl, Below.refl _ _, World.ownsRow_nil _ _ _ _, trivial, Nat.le_refl _, rfl⟩
  case round =>
    obtain ⟨j, rsO, rowsO, hj, rfl, hbw, hO, hpO, hlO, hrf⟩ := hrel
    obtain ⟨oa, oc, rfl⟩ := own_shape hO
    by_cases hlt : j < na
    · obtain ⟨b, off, rfl, hbs, hx⟩ := hcell j hlt
      obtain ⟨q, hq⟩ : ∃ q, rsa[j]? = some q := ⟨rsa[j]'(by omega), List.getElem?_eq_getElem (by omega)⟩
      obtain ⟨row, hr⟩ : ∃ row, ra[j]? = some row := ⟨ra[j]'(by omega), List.getElem?_eq_getElem (by omega)⟩
      have hcont := pa.get j _ _ hq hr
      have hd : ra.drop j = row :: ra.drop (j + 1) := by rw [List.drop_eq_getElem_cons (by omega)]; congr 1; exact Option.some.inj ((List.getElem?_eq_getElem (by omega)).symm.trans hr)
      rw [hd, refA] at hrf
      replace hx := (cell_of_block (hbw.block b hbs) _).trans hx
      rw [hq] at hx
      obtain ⟨qa, qn, qc⟩ := q
      dsimp only [RV.v, Option.getD_some] at hx
      have hcw : ∀ w, Still wr w → w.cell? ⟨b, off + j, none⟩ = some (.slice qa qn qc) := fun w k => (k.cell _).trans hx
      have hC : ∀ w, Still wr w → Cont w ⟨qa, qn, qc⟩ row := fun w k => (hcont.1.below hbw).still k
      have hOw : ∀ w, Still wr w → w.ownsRow W.heap.size 48 1 (.slice oa rsO.length oc) rsO.length (rsO.map RV.v) := fun w k => ownsRow_still hO k
      have hO1 : ∀ w, Still wr w → Own1 w (.slice oa rsO.length oc) rowsO := fun w k => (own1_of_row rfl hO (all2_below hbw hpO)).still k
      have hlo : rowsO.length ≤ 100000 := by rw [← hpO.len]; omega
      have hhasO := fun w (k : Still wr w) => has_ok qa qn qc (.slice oa rsO.length oc) rowsO row w hlo (hO1 w k) (hC w k)
      have hlO2 : rsO.length ≤ 90000 := by omega
      have hjn : j + 1 ≤ ra.length := by omega
      have hnew : All2 (fun q row => Cont W q row ∧ q.n ≤ 1000) (rsO ++ [(⟨qa, qn, qc⟩ : RV)]) (rowsO ++ [row]) := All2.snoc (P := fun q row => Cont W q row ∧ q.n ≤ 1000) hcont hpO
      have hbase : ∀ w, Still wr w → W.heap.size ≤ w.heap.size := fun w k => by rw [k.1]; exact hbw.size
      clear hq hr hd hcell la hO hO1 hna
      have hhasB := fun w (k : Still wr w) => has_ok qa qn qc (.slice ab nb cb) rb row w (Nat.le_trans hkb (by decide)) ((hb.below hbw).still k) (hC w k)
      cases hh : (rb.any fun s => eqRow s row) with
      | false =>
        rw [hh] at hrf
        cases ht : (rowsO.any fun s => eqRow s row) with
        | true =>
          rw [ht] at hrf
          go_wp2_with (first | (go_at_call_of 37 (Value.slice ab nb cb); refine (hhasB wr (Still.refl _)).mono ?_; rw [hh]; rintro e w0 ⟨rfl, hk0⟩) | (go_at_call_of 37 (Value.slice oa rsO.length oc); refine (hhasO w0 hk0).mono ?_; rw [ht]; rintro e w' ⟨rfl, hk1⟩; have hw' := hk0.trans hk1))
          go_roundw
          case rel => exact ⟨j + 1, rsO, rowsO, hjn, by simp, below_step hbw (hw'.below) hbw.size, hOw _ hw', hpO, by omega, by simpa using hrf⟩
          case measure => simp [intOf]; omega
        | false =>
          rw [ht] at hrf
          go_wp2_with (first | (go_at_call_of 37 (Value.slice ab nb cb); refine (hhasB wr (Still.refl _)).mono ?_; rw [hh]; rintro e w0 ⟨rfl, hk0⟩) | (go_at_call_of 37 (Value.slice oa rsO.length oc); refine (hhasO w0 hk0).mono ?_; rw [ht]; rintro e w' ⟨rfl, hk1⟩; have hw' := hk0.trans hk1) | (at_builtin; refine wpList_append_own _ rfl _ _ 22 rfl W.heap.size 48 i0 (.slice none 0 0) 1 24 Try.underlying22 hi hz0 hz1 hz2 rfl (by decide) _ _ _ rfl ((hOw _ hw').alloc _) ⟨_, 0, none⟩ 1 1 [.slice qa qn qc] rfl rfl (cell_one_new _ _ _) (by simp [Value.oneCell']) (by unfold maxLen; omega) (by omega) (by have := hbase _ hw'; simp; omega) ?_; intro v' w1 hown hgrow hnil))
          go_roundw
          case rel => exact ⟨j + 1, rsO ++ [⟨qa, qn, qc⟩], rowsO ++ [row], hjn, by simp, ref_grow hbw hw' hgrow (hOw _ hw'), by simpa using hown, hnew, by simp; omega, by simpa using hrf⟩
          case measure => simp [intOf]; omega
      | true =>
        rw [hh] at hrf
        go_wp2_with (go_at_call 37; refine (hhasB wr (Still.refl _)).mono ?_; rw [hh]; rintro e w0 ⟨rfl, hk0⟩)
        go_roundw
        case rel => exact ⟨j + 1, rsO, rowsO, hjn, by simp, below_step hbw (hk0.below) hbw.size, hOw _ hk0, hpO, by omega, by simpa using hrf⟩
        case measure => simp [intOf]; omega
    · obtain rfl : j = na := by omega
      rw [List.drop_of_length_le (by omega), refA] at hrf
      have hfin : Own1 wr (.slice oa rsO.length oc) rowsO := own1_of_row rfl hO (all2_below hbw hpO)
      clear hO la hna hcell
      go_wp2
      go_loopw [11, 8] (fun i o w2 => i = .int .i64 0 ∧ o = .slice oa rsO.length oc ∧ Still wr w2) (fun _ _ _ => 0)
      case atStart => exact ⟨rfl, rfl, Still.refl _⟩
      case round =>
        obtain ⟨rfl, rfl, hs2⟩ := hrel
        have hfin2 := hfin.still hs2
        have hb2 := below_step hbw hs2.below hbw.size
        by_cases hz : 0 < nb
        · have hd0 : decide (0 < nb) = true := by simpa using hz
          go_wp2
          refine bodyPost_ret (results_tmp2 rfl _ _ _) rfl ?_
          exact ⟨_, rfl, by rw [hrf]; exact hfin2, hb2⟩
        · obtain rfl : nb = 0 := by omega
          go_wp2
          refine bodyPost_ret (results_tmp2 rfl _ _ _) rfl ?_
          exact ⟨_, rfl, by rw [hrf]; exact hfin2, hb2⟩
end Go.Proofs.Ytghpjlohoehdnaa.Sep
