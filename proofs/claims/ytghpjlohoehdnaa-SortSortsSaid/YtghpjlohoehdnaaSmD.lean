/- A Sorter's New, Put and Rows; sort's awake and light, walked. No condition beyond those that each theorem names. -/
import Derived.Test.YtghpjlohoehdnaaSmW
/-! A Sorter's Put, walked. No condition beyond those that each theorem names. -/
namespace Go.Proofs.Ytghpjlohoehdnaa.Sep
open Go Go.RowKit Go.Shelf
set_option linter.unusedVariables false
set_option linter.unusedSimpArgs false
/-- A SORTER: what came and was laid aside, run by run; what is at hand -/
def SR (W : World) (S : Nat) (by_ : Order) (hand : Nat) (ins : List (List (List V3))) (now : List (List V3)) (k : Nat) (done : Bool) (X : Nat → Prop) : Prop :=
  ∃ (nowI : List It2) (runsI : List (List It2)) (D : Nat → Prop) (so nv rv : Value) (us : List Value), SRx W S by_ hand nowI runsI k done X D so nv rv us ∧ nowI.map Prod.snd = now ∧
    runsI.map (List.map Prod.snd) = ins.map (stab fun a b => cmpR a b by_) ∧ (∀ r ∈ ins, r ≠ []) ∧ ins.flatten.length + now.length = k ∧ k ≤ 80000 ∧ 2 ≤ hand ∧ hand ≤ 65536
theorem SR.xlt {W : World} {S : Nat} {by_ : Order} {hand : Nat} {ins : List (List (List V3))} {now : List (List V3)} {k : Nat} {done : Bool} {X : Nat → Prop} (h : SR W S by_ hand ins now k done X) : ∀ j, X j → j < W.heap.size := by
  obtain ⟨nowI, runsI, D, so, nv, rv, us, h1, _⟩ := h
  exact h1.xlt
theorem SR.below {W W' : World} {S : Nat} {by_ : Order} {hand : Nat} {ins : List (List (List V3))} {now : List (List V3)} {k : Nat} {done : Bool} {X : Nat → Prop} (h : SR W S by_ hand ins now k done X) (hb : Below W.heap.size W W') : SR W' S by_ hand ins now k done X := by
  obtain ⟨nowI, runsI, D, so, nv, rv, us, h1, h2⟩ := h
  exact ⟨nowI, runsI, D, so, nv, rv, us, h1.below hb, h2⟩
theorem laysR_props {α : Type} {hand : Nat} (hh : 2 ≤ hand) : ∀ (f : Nat) (l : List (List α)), (∀ r ∈ l, r ≠ []) → (∀ r ∈ laysR hand f l, r ≠ []) ∧ (laysR hand f l).flatten = l.flatten
  | 0, l, h => ⟨h, rfl⟩
  | f + 1, l, h => by
    rw [laysR]
    split
    · exact ⟨h, rfl⟩
    · rename_i hlt
      split
      · exact ⟨h, rfl⟩
      · have h2 := laysR_props hh f (l.take (l.length - hand) ++ [(l.drop (l.length - hand)).flatten]) (by
          intro r hr
          rcases List.mem_append.1 hr with h1 | h1
          · exact h r (List.mem_of_mem_take h1)
          · rw [List.mem_singleton.1 h1]
            intro h0
            have h3 := flatten_ge (l := l.drop (l.length - hand)) fun r hr => h r (List.mem_of_mem_drop hr)
            rw [h0, List.length_drop] at h3
            simp at h3
            omega)
        refine ⟨h2.1, h2.2.trans ?_⟩
        rw [List.flatten_append, List.flatten_singleton, ← List.flatten_append, List.take_append_drop]
/-- what Put makes of a Sorter -/
def putP {α : Type} (hand : Nat) (ins : List (List α)) (now : List α) (r : α) : List (List α) × List α :=
  if hand ≤ now.length + 1 then (laysL hand (ins ++ [now ++ [r]]), []) else (ins, now ++ [r])
theorem own_shift {W W' : World} {N : Nat} {v : Value} {n : Nat} {xs : List Value} (h : W.ownsRow N 48 1 v n xs) (hb : Below W.heap.size W W') : W'.ownsRow N 48 1 v n xs :=
  ownsRow_same (fun j hj => hb.block j (own_ge h j hj).2) h
/-- what the region that appends needs, and gives -/
theorem push_facts {W : World} {S : Nat} {by_ : Order} {hand : Nat} {nowI : List It2} {runsI : List (List It2)} {k : Nat} {done : Bool} {X D : Nat → Prop} {so nv rv : Value} {us : List Value} {nn : Nat} (hnn : nowI.length = nn)
    (h : SRx W S by_ hand nowI runsI k done X D so nv rv us) (W2 : World) (q : RV) (row : List V3) (hb : Below W.heap.size W W2) (hC : Cont W2 q row) (hn : q.n ≤ 1000) (hblk : ∀ j, q.blk j → W.heap.size ≤ j) (tmp : Obj) (g5 cap5 : Nat) (w5 : World)
    (hown : w5.ownsRow 0 48 1 (.slice (some ⟨g5, 0, none⟩) (nn + 1) cap5) (nn + 1) (nowI.map vI ++ [q.v])) (hgrow : (W2.alloc tmp).grownBy w5 nv.ownBlock) (hat : nv.ownBlock = some g5 ∨ g5 = (W2.alloc tmp).heap.size) :
    w5.cell? ⟨S, 2, none⟩ = some nv ∧ w5.frozen? ⟨S, 2, none⟩ = false ∧ ∃ X' D', SRx (w5.setCell ⟨S, 2, none⟩ (.slice (some ⟨g5, 0, none⟩) (nn + 1) cap5)) S by_ hand (nowI ++ [(q, row)]) runsI k done X' D' so (.slice (some ⟨g5, 0, none⟩) (nn + 1) cap5) rv us ∧
      Gr X X' W.heap.size W (w5.setCell ⟨S, 2, none⟩ (.slice (some ⟨g5, 0, none⟩) (nn + 1) cap5)) := by
  subst hnn
  have hSr : nv.ownBlock ≠ some S := fun e => (h.nblk S e).2.2 rfl
  have hS5 : w5.heap[S]? = W.heap[S]? := (hgrow.block S (by rw [World.size_alloc]; have := h.slt; have := hb.size; omega) (fun e => hSr e.symm)).trans ((Below.heap_alloc W2 tmp S (by have := h.slt; have := hb.size; omega)).trans (hb.block S h.slt))
  have hcs := hS5.trans h.cells
  have hob : (Value.slice (some ⟨g5, 0, none⟩) (nowI.length + 1) cap5).ownBlock = nv.ownBlock ∨ (Value.slice (some ⟨g5, 0, none⟩) (nowI.length + 1) cap5).ownBlock = some (W2.alloc tmp).heap.size := by
    rcases hat with e | e
    · exact .inl e.symm
    · exact .inr (congrArg some e)
  obtain ⟨r1, r2⟩ := h.push (r := q) (row := row) hb hC hn hblk hown hgrow hob
  exact ⟨cell_of_cells hcs rfl, frozen_of_cells hcs 2, _, _, r1, r2⟩
set_option maxRecDepth 100000 in
set_option maxHeartbeats 8000000 in
/-- PUT: a row is taken. -/
theorem put_ok (S : Nat) (by_ : Order) (hand : Nat) (ins : List (List (List V3))) (now : List (List V3)) (k : Nat) (X : Nat → Prop) (W : World) (h : SR W S by_ hand ins now k false X) (hk : k < 80000)
    (hst : hand ≤ now.length + 1 → StabOK (now.length + 1) by_) (ra : Option Addr) (rn rc : Nat) (row : List V3) (hC : Cont W ⟨ra, rn, rc⟩ row) (hn : rn ≤ 1000) (hdis : ∀ j, (RV.mk ra rn rc).blk j → j ≠ S) :
    Calls Try.prog 22 #[.pointer (some ⟨S, 0, none⟩), .slice ra rn rc] W fun e W' => e = .returned (.int .i64 0) ∧ ∃ X', Gr X X' W.heap.size W W' ∧ SR W' S by_ hand (putP hand ins now row).1 (putP hand ins now row).2 (k + 1) false X' := by
  have hmx : Try.prog.follows .mixedOrders = true := by kernel_rfl
  obtain ⟨i0, hi, hz0, hz1, hz2⟩ := info_parts infoC49
  obtain ⟨nowI, runsI, D, so, nv, rv, us, hx, e1, e2, e3, e4, e5, e6, e7⟩ := h
  obtain ⟨na, nc, rfl⟩ := own_slice hx.nown
  obtain ⟨nn, hnn⟩ : ∃ nn, nowI.length = nn := ⟨_, rfl⟩
  rw [hnn] at hx
  have hnow : now.length = nn := by rw [← e1, List.length_map]; exact hnn
  have c1 : W.cell? ⟨S, 1, none⟩ = some (.int .i64 hand) := cell_of_cells hx.cells rfl
  have c4 : W.cell? ⟨S, 4, none⟩ = some (.int .i64 k) := cell_of_cells hx.cells rfl
  have c5 : W.cell? ⟨S, 5, none⟩ = some (.bool false) := cell_of_cells hx.cells rfl
  have f4 := frozen_of_cells hx.cells 4
  have HG := Aside0.mk (given_ok S hand W c1 (by omega))
  have hkw : IntKind.i64.wrap ((k : Int) + 1) = ((k + 1 : Nat) : Int) := by rw [IntKind.wrap_i64]; omega
  have dk1 : decide (1048576 ≤ k) = false := by simp <;> omega
  have dk2 : decide ((1048576 : Int) ≤ (k : Int)) = false := by simp <;> omega
  have HE := Aside0.mk (And.intro e1 (And.intro e2 (And.intro e3 (And.intro e4 (And.intro e5 (And.intro hst (And.intro hnn (And.intro hnow (And.intro e6 e7)))))))))
  have HX := Aside0.mk hx
  have HC := Aside0.mk hC
  clear hst hC hx e1 e2 e3 e4 e5 hnn hnow
  go_enter Try.func22, Try.ntmps22
  go_upto_region 6 with (first | (go_at_call 47; refine HG.out.mono ?_; rintro e w3 ⟨rfl, rfl⟩) | fail)
  have hx5 : SRx (w3.setCell ⟨S, 4, none⟩ (.int .i64 ((k : Int) + 1))) S by_ hand nowI runsI (k + 1) false X D so (.slice na nn nc) rv us := HX.out.setn (k + 1)
  have HG5 := Aside0.mk (gr_set HX.out.xlt (a := ⟨S, 4, none⟩) (.int .i64 ((k : Int) + 1)) HX.out.xS)
  have hC5 : Cont (w3.setCell ⟨S, 4, none⟩ (.int .i64 ((k : Int) + 1))) ⟨ra, rn, rc⟩ row := HC.out.same (by rw [size_setCell]; exact Nat.le_refl _) (fun j hj => Below.heap_setCell _ _ _ j (hdis j hj))
  have c2 : (w3.setCell ⟨S, 4, none⟩ (.int .i64 ((k : Int) + 1))).cell? ⟨S, 2, none⟩ = some (.slice na nn nc) := cell_of_cells hx5.cells rfl
  generalize w3.setCell ⟨S, 4, none⟩ (.int .i64 ((k : Int) + 1)) = w5 at hx5 HG5 hC5 c2 ⊢
  have HX5 := Aside0.mk hx5
  have HOwn := Aside0.mk hx5.nown
  have HCl := Aside0.mk (fun (w : World) (hb : Below w5.heap.size w5 w) => clone_ok ⟨ra, rn, rc⟩ row w (hC5.below hb) (by dsimp only; omega))
  have HRow := Aside0.mk (show row.length ≤ 1000 from by rw [hC5.len]; exact hn)
  have HA := Aside0.mk (fun W2 q hb hC hn hblk tmp g5 cap5 w6 => push_facts HE.out.2.2.2.2.2.2.1 hx5 W2 q row hb hC hn hblk tmp g5 cap5 w6)
  have hnb : nn ≤ 80000 := by have := HE.out; omega
  clear hx5 hC5 HC HX HG c1 c4 c5 f4 dk1 dk2 hkw hdis
  go_cut [] from 28 to 50 (fun wc => ∃ (X' D' : Nat → Prop) (q : RV) (g5 cap5 : Nat), Aside0 (SRx wc S by_ hand (nowI ++ [(q, row)]) runsI (k + 1) false X' D' so (.slice (some ⟨g5, 0, none⟩) (nn + 1) cap5) rv us) ∧ Aside0 (Gr X X' w5.heap.size w5 wc))
  case first =>
    go_region_law (first
      | (have _q := hown9; refine step_append_lies _ rfl _ _ 22 rfl 0 48 i0 (.slice none 0 0) 1 24 Try.underlying22 hi hz0 hz1 hz2 rfl (by decide) (.slice na nn nc) nn (nowI.map vI) rfl (hown9.alloc _) ⟨_, 0, none⟩ 1 1 [.slice qa qn qc] rfl rfl (cell_one_new _ _ _) (by simp [Value.oneCell']) (by decide) (by unfold maxLen; omega) (by omega) (Nat.zero_le _) _ rfl ?_; intro g5 cap5 w6 hown5 hgrow5 hat5 hlt5; obtain ⟨s2, f2, X5, D5, hfin, hgr⟩ := HA.out _ ⟨qa, qn, qc⟩ hb59 hc9 hqn hblk9 _ g5 cap5 w6 hown5 hgrow5 hat5; clear hown5 hgrow5 hat5 hlt5)
      | (go_simp; go_at_call 42; refine (HCl.out _ (Still.drew w5).below).mono ?_; rintro e w9 ⟨⟨qa, qn, qc⟩, rfl, hc9, hblk9, hqn9, hb9⟩; have hb59 := below_step (Still.drew w5).below hb9 (Nat.le_refl _); have hqn : qn ≤ 1000 := (by have := HRow.out; dsimp only at hqn9; omega); have hown9 := own_shift (by have := HOwn.out; rw [HE.out.2.2.2.2.2.2.1] at this; exact this) hb59; have c29 := (cell_of_block (hb59.block S HX5.out.slt) 2).trans c2; have ca29 := Lib.cell?_alloc_some (.cells #[.slice qa qn qc] 48) c29; clear hb9; go_simp)
      | fail)
    all_goals (go_wp2; go_meet; exact ⟨X5, D5, ⟨qa, qn, qc⟩, g5, cap5, ⟨hfin⟩, ⟨hgr⟩⟩)
  case rest =>
    obtain ⟨X5, D5, q, g5, cap5, HS6, HG6⟩ := hcut
    have hg6 := HG5.out.trans HG6.out HG5.out.size
    have hd2 : wc.cell? ⟨S, 2, none⟩ = some (.slice (some ⟨g5, 0, none⟩) (nn + 1) cap5) := cell_of_cells HS6.out.cells rfl
    have hd1 : wc.cell? ⟨S, 1, none⟩ = some (.int .i64 hand) := cell_of_cells HS6.out.cells rfl
    have hmapI : (nowI ++ [(q, row)]).map Prod.snd = now ++ [row] := by rw [List.map_append, HE.out.1]; rfl
    have HG7 := Aside0.mk hg6
    have HM := Aside0.mk hmapI
    clear HA HCl HOwn HX5 HG5 HG6 hg6 hmapI c2
    by_cases hlt : hand ≤ nn + 1
    · have d1 : decide (hand ≤ nn + 1) = true := by simp <;> omega
      have d2 : decide ((hand : Int) ≤ (nn : Int) + 1) = true := by simp <;> omega
      have HLays := Aside0.mk (fun (w : World) (hb : Below wc.heap.size wc w) => lays_ok S by_ hand (nowI ++ [(q, row)]) runsI (k + 1) false X5 D5 so (.slice (some ⟨g5, 0, none⟩) (nn + 1) cap5) rv us w (HS6.out.below hb) e6 (by simp)
        (by rw [List.length_append, HE.out.2.2.2.2.2.2.1]; have := HE.out.2.2.2.2.2.1 (by rw [HE.out.2.2.2.2.2.2.2.1]; exact hlt); rw [HE.out.2.2.2.2.2.2.2.1] at this; exact this) ins HE.out.2.1 HE.out.2.2.1
        (by rw [List.length_append, HE.out.2.2.2.2.2.2.1]; have := HE.out.2.2.2.1; have := HE.out.2.2.2.2.2.2.2.1; simp only [List.length_singleton]; omega))
      go_wp2
      go_quiet (fail)
      have hbq := below_drewN (Below.refl wc.heap.size wc) nq
      have HLq := Aside0.mk (HLays.out _ hbq)
      have HGq := Aside0.mk (HG7.out.trans (below_gr HG7.out.lt hbq) HG7.out.size)
      clear hbq hd1 hd2 HG7 HS6 HLays d1 d2
      generalize wc.drewN nq = wq at HLq HGq ⊢
      go_wp2_with (first | (go_at_call 48; refine HLq.out.mono ?_; rintro e w8 ⟨rfl, X8, D8, rv8, us8, runs8, hG8, hS8, hr8⟩) | fail)
      refine bodyPost_ret (results_tmp rfl _ _ _) rfl ?_
      refine ⟨rfl, X8, HGq.out.trans hG8 HGq.out.size, ?_⟩
      have hne : ∀ r ∈ ins ++ [now ++ [row]], r ≠ [] := fun r hr => by
        rcases List.mem_append.1 hr with h | h
        · exact HE.out.2.2.1 r h
        · rw [List.mem_singleton.1 h]; simp
      obtain ⟨p1, p2⟩ := laysR_props e6 (ins ++ [now ++ [row]]).length (ins ++ [now ++ [row]]) hne
      have hpp : putP hand ins now row = (laysL hand (ins ++ [now ++ [row]]), []) := by
        unfold putP
        rw [if_pos (by rw [HE.out.2.2.2.2.2.2.2.1]; exact hlt)]
      rw [hpp]
      refine ⟨[], runs8, D8, so, .slice none 0 0, rv8, us8, hS8, rfl, ?_, p1, ?_, by omega, e6, e7⟩
      · rw [hr8, HM.out]
      · have h4 := HE.out.2.2.2.1
        have h5 : (laysL hand (ins ++ [now ++ [row]])).flatten = (ins ++ [now ++ [row]]).flatten := p2
        show (laysL hand (ins ++ [now ++ [row]])).flatten.length + 0 = k + 1
        rw [h5]
        simp only [List.flatten_append, List.flatten_singleton, List.length_append, List.length_singleton]
        omega
    · have d1 : decide (hand ≤ nn + 1) = false := by simp <;> omega
      have d2 : decide ((hand : Int) ≤ (nn : Int) + 1) = false := by simp <;> omega
      go_wp2
      go_quiet (fail)
      have hbq := below_drewN (Below.refl wc.heap.size wc) nq
      have HGq := Aside0.mk (HG7.out.trans (below_gr HG7.out.lt hbq) HG7.out.size)
      have HSq := Aside0.mk (HS6.out.below hbq)
      clear hbq hd1 hd2 HG7 HS6 d1 d2
      generalize wc.drewN nq = wq at HGq HSq ⊢
      go_wp2
      refine bodyPost_ret (results_tmp rfl _ _ _) rfl ?_
      refine ⟨rfl, X5, HGq.out, ?_⟩
      have hpp : putP hand ins now row = (ins, now ++ [row]) := by
        unfold putP
        rw [if_neg (by rw [HE.out.2.2.2.2.2.2.2.1]; exact hlt)]
      rw [hpp]
      refine ⟨nowI ++ [(q, row)], runsI, D5, so, _, rv, us, HSq.out, HM.out, HE.out.2.1, HE.out.2.2.1, ?_, by omega, e6, e7⟩
      have h4 := HE.out.2.2.2.1
      simp only [List.length_append, List.length_singleton]
      omega
end Go.Proofs.Ytghpjlohoehdnaa.Sep

/-! A Sorter's Rows, and Put when all is over, walked. No condition beyond those that each theorem names. -/
namespace Go.Proofs.Ytghpjlohoehdnaa.Sep
open Go Go.RowKit Go.Shelf
set_option linter.unusedVariables false
set_option linter.unusedSimpArgs false
theorem own_one {W : World} {N : Nat} {T : TypeId} {v : Value} {n : Nat} {L : List Value} (h : W.ownsRow N T 1 v n L) : (v = .slice none 0 0 ∧ n = 0 ∧ L = []) ∨ ∃ g cap, v = .slice (some ⟨g, 0, none⟩) n cap ∧ N ≤ g ∧ g < W.heap.size ∧ n ≤ cap ∧ ∀ j u, L[j]? = some u → W.cell? ⟨g, j, none⟩ = some u := by
  rcases h.2 with ⟨e, h0⟩ | ⟨g, cap, cur, e, h1, h2, h3, h4, h5, h6⟩
  · refine .inl ⟨e, h0, List.eq_nil_of_length_eq_zero ?_⟩
    rw [h.1, h0]
  · refine .inr ⟨g, cap, e, h1, (Array.getElem?_eq_some_iff.1 h2).1, h3, fun j u hu => ?_⟩
    have hj := (List.getElem?_eq_some_iff.1 hu).1
    have hl := h.1
    unfold World.cell?
    simp only [h2]
    rw [← h6, List.getElem?_take_of_lt (by omega), Array.getElem?_toList] at hu
    simpa using hu
theorem cl49_ok (v : Value) (n : Nat) (L : List Value) (w : World) (h : w.ownsRow 0 48 1 v n L) (h1 : ∀ u ∈ L, u.oneCell' = true) (hn : n ≤ 100000) :
    Calls Try.prog 49 #[v] w fun e w' => ∃ v', e = .returned v' ∧ w'.ownsRow w.heap.size 48 1 v' n L ∧ Below w.heap.size w w' := by
  rcases own_one h with ⟨rfl, rfl, rfl⟩ | ⟨g, cap, rfl, _, _, _, hc⟩
  · refine (cl49_none 0 0 w).mono ?_
    rintro e w' ⟨rfl, rfl⟩
    exact ⟨_, rfl, World.ownsRow_nil _ _ _ _, Below.refl _ _⟩
  · rcases Nat.eq_zero_or_pos n with h0 | h0
    · subst h0
      have hL : L = [] := List.eq_nil_of_length_eq_zero (by have := h.1; omega)
      subst hL
      exact cl49_zero ⟨g, 0, none⟩ cap w
    · refine (cl49_some g 0 n cap L w (by have := h.1; omega) h1 (by omega) (fun j u hu => by rw [Nat.zero_add]; exact hc j u hu)).mono ?_
      rintro e w' ⟨v', rfl, h2, _, h3⟩
      exact ⟨v', rfl, h2, h3⟩
theorem cl53_ok (v : Value) (n : Nat) (L : List Value) (w : World) (h : w.ownsRow 0 22 1 v n L) (h1 : ∀ u ∈ L, u.oneCell' = true) (hn : n ≤ 100000) :
    Calls Try.prog 53 #[v] w fun e w' => ∃ v', e = .returned v' ∧ w'.ownsRow w.heap.size 22 1 v' n L ∧ Below w.heap.size w w' := by
  rcases own_one h with ⟨rfl, rfl, rfl⟩ | ⟨g, cap, rfl, _, _, _, hc⟩
  · refine (cl53_none 0 0 w).mono ?_
    rintro e w' ⟨rfl, rfl⟩
    exact ⟨_, rfl, World.ownsRow_nil _ _ _ _, Below.refl _ _⟩
  · exact cl53_take g n cap L w (by have := h.1; omega) h1 hn hc
theorem run_of_own {P : Nat → Prop} {N : Nat} {W : World} {v : Value} {its : List It2} (h : W.ownsRow N 48 1 v its.length (its.map vI)) (hg : ∀ i ∈ its, GoodI P W i) : RunV (fun j => P j ∨ (N ≤ j ∧ j < W.heap.size)) W v its := by
  rcases own_one h with ⟨rfl, h0, _⟩ | ⟨g, cap, rfl, h1, h2, h3, hc⟩
  · exact .inl ⟨_, _, rfl, List.eq_nil_of_length_eq_zero h0⟩
  · refine .inr ⟨g, 0, cap, rfl, .inr ⟨h1, h2⟩, h2, h3, fun j i hi => ?_, fun i hi => (hg i hi).mono fun _ => .inl⟩
    rw [Nat.zero_add]
    exact hc j _ (by rw [List.getElem?_map, hi]; rfl)
/-- a list of rows of one's own is put in order -/
theorem sort_own (S : Nat) (by_ : Order) (nowI : List It2) (v : Value) (M : Nat) (w : World) (h : w.ownsRow M 48 1 v nowI.length (nowI.map vI)) (hst : nowI ≠ [] → StabOK nowI.length by_)
    (hC : ∀ g cap, v = .slice (some ⟨g, 0, none⟩) nowI.length cap → CmpFn w g nowI (fun a b => cmpR a b by_) (.pointer (some ⟨S, 0, none⟩))) :
    Calls Try.prog 50 #[v, .func (.func 51) #[.pointer (some ⟨S, 0, none⟩)] #[]] w fun e w' => e = .returned (.tuple #[]) ∧ ∃ nowJ : List It2, nowJ.length = nowI.length ∧ (∀ i ∈ nowJ, i ∈ nowI) ∧ nowJ.map Prod.snd = stab (fun a b => cmpR a b by_) (nowI.map Prod.snd) ∧
      w'.ownsRow M 48 1 v nowJ.length (nowJ.map vI) ∧ Below M w w' := by
  by_cases hn : nowI = []
  · subst hn
    obtain ⟨a, c, rfl⟩ := own_slice h
    refine (sortStable_nil a c _ w).mono ?_
    rintro e w' ⟨rfl, rfl⟩
    exact ⟨rfl, [], rfl, (fun i h => by cases h), rfl, h, Below.refl _ _⟩
  · obtain ⟨g, cap, spare, rfl, hR, hc, hm, hM⟩ := rowB_of_own h hn
    refine (hst hn g cap nowI spare S w rfl hR (hC g cap rfl)).mono ?_
    rintro e w' ⟨rfl, nowJ, h1, h2, h3, h4, h5⟩
    refine ⟨rfl, nowJ, h1, h2, h3, ?_, ⟨h5.os, h5.tape, h5.output, h5.size, fun j hj => h5.block j (by have := hR.lt; omega) (by omega)⟩⟩
    rw [← h1]
    exact own_of_rowB h4 (by omega) hm hM
set_option maxRecDepth 100000 in
set_option maxHeartbeats 8000000 in
/-- ROWS: all rows in order. -/
theorem rows_ok2 (S : Nat) (by_ : Order) (hand : Nat) (ins : List (List (List V3))) (now : List (List V3)) (k : Nat) (done : Bool) (X : Nat → Prop) (W : World) (h : SR W S by_ hand ins now k done X) (hst : now ≠ [] → StabOK now.length by_) :
    Calls Try.prog 24 #[.pointer (some ⟨S, 0, none⟩)] W fun e W' => ∃ g lb prs R, e = .returned (.func (.func g) #[] lb) ∧ Gr X X W.heap.size W W' ∧ SR W' S by_ hand ins now k true X ∧ ItC (.func (.func g) #[] lb) prs R W' ∧
      prs.map Prod.snd = stab (fun a b => cmpR a b by_) (ins.flatten ++ now) ∧ (∀ p ∈ prs, p.1.2 = 0) ∧ ∀ j, R j → X j ∨ W.heap.size ≤ j := by
  have hmx : Try.prog.follows .mixedOrders = true := by kernel_rfl
  obtain ⟨i0, hi, hz0, hz1, hz2⟩ := info_parts infoC53
  obtain ⟨nowI, runsI, D, so, nv, rv, us, hx, e1, e2, e3, e4, e5, e6, e7⟩ := h
  obtain ⟨na, nc, rfl⟩ := own_slice hx.nown
  obtain ⟨ra, rc, rfl⟩ := own_slice hx.rown
  have hnow : now.length = nowI.length := by rw [← e1, List.length_map]
  have c1 : W.cell? ⟨S, 1, none⟩ = some (.int .i64 hand) := cell_of_cells hx.cells rfl
  have c5 : W.cell? ⟨S, 5, none⟩ = some (.bool done) := cell_of_cells hx.cells rfl
  have f5 := frozen_of_cells hx.cells 5
  have HG := Aside0.mk (given_ok S hand W c1 (by omega))
  have hx5 := hx.setd true
  have hg5 := gr_set hx.xlt (a := ⟨S, 5, none⟩) (.bool true) hx.xS
  have c2 : (W.setCell ⟨S, 5, none⟩ (.bool true)).cell? ⟨S, 2, none⟩ = some (.slice na nowI.length nc) := cell_of_cells hx5.cells rfl
  have HE := Aside0.mk (And.intro e1 (And.intro e2 (And.intro e3 (And.intro e4 (And.intro e5 (And.intro hst hnow))))))
  have HW := Aside0.mk (And.intro hx5 hg5)
  clear hst hx e1 e2 e3 e4 e5 hnow hx5 hg5
  go_enter Try.func24, Try.ntmps24
  go_upto_region 4 with (first | (go_at_call 47; refine HG.out.mono ?_; rintro e w3 ⟨rfl, hw3⟩; cases hw3) | fail)
  generalize W.setCell ⟨S, 5, none⟩ (.bool true) = w5 at HW c2 ⊢
  have hone : ∀ u ∈ us, u.oneCell' = true := fun u hu => by
    obtain ⟨j, hj, rfl⟩ := List.getElem_of_mem hu
    have hl := HW.out.1.runs.len
    obtain ⟨a, c, e⟩ := (HW.out.1.runs.get j _ _ (List.getElem?_eq_getElem hj) (List.getElem?_eq_getElem (by omega))).shape
    rw [e]; rfl
  have hone1 : ∀ u ∈ nowI.map vI, u.oneCell' = true := fun u hu => by
    obtain ⟨i, _, rfl⟩ := List.mem_map.1 hu
    rfl
  have hub : us.length ≤ 80000 := by
    have h1 := HW.out.1.runs.len
    have h2 := congrArg List.length HE.out.2.1
    rw [List.length_map, List.length_map] at h2
    have h3 := flatten_ge HE.out.2.2.1
    have h4 := HE.out.2.2.2
    omega
  have hnb : nowI.length ≤ 80000 := by have h4 := HE.out.2.2.2; omega
  have HCl := Aside0.mk (cl49_ok _ _ _ w5 HW.out.1.nown hone1 (by omega))
  have HCn := Aside0.mk (fun (v1 : Value) (w6 : World) (ho : w6.ownsRow w5.heap.size 48 1 v1 nowI.length (nowI.map vI)) (hb : Below w5.heap.size w5 w6) => sort_own S by_ nowI v1 w5.heap.size w6 ho (fun hn => by
      have h1 := HE.out.2.2.2.2.2.1 (by rw [← HE.out.1]; intro h0; exact hn (List.map_eq_nil_iff.1 h0))
      rw [HE.out.2.2.2.2.2.2] at h1
      exact h1) (by
      rintro g cap rfl w hn x hxm y hym
      have hgN : w5.heap.size ≤ g := (own_ge ho g rfl).1
      have hmd := HW.out.1.md
      refine hmd.cmp ⟨Nat.le_trans hb.size hn.size, ?_⟩ ((HW.out.1.nitems x hxm).mono fun _ => .inl) ((HW.out.1.nitems y hym).mono fun _ => .inl)
      rintro j (hj | rfl)
      · have hjl := HW.out.1.xlt j (HW.out.1.dX j hj)
        exact (hn.block j (Nat.lt_of_lt_of_le hjl hb.size) (by omega)).trans (hb.block j hjl)
      · have hjl := HW.out.1.slt
        exact (hn.block j (Nat.lt_of_lt_of_le hjl hb.size) (by omega)).trans (hb.block j hjl)))
  have HC53 := Aside0.mk (fun (w7 : World) (hb : Below w5.heap.size w5 w7) => cl53_ok _ _ _ w7 (HW.out.1.below hb).rown hone (by omega))
  have hmk := fun (w : World) (g c : Nat) => merge_ok S (some ⟨g, 0, none⟩) (us.length + 1) c w
  clear hone hone1
  go_wp2_with (first
    | (go_at_call 49; refine HCl.out.mono ?_; rintro e w6 ⟨v1, rfl, ho6, hb6⟩; obtain ⟨va, vc, hv1⟩ := own_slice ho6; subst hv1)
    | (go_at_call 50; refine (HCn.out _ w6 ho6 hb6).mono ?_; rintro e w7 ⟨rfl, nowJ, hj1, hj2, hj3, ho7, hb7⟩; have HJ7 := Aside0.mk (And.intro hj1 (And.intro hj2 (And.intro hj3 ho7))); clear hj1 hj2 hj3 ho7 ho6; have hb57 := below_step hb6 hb7 (Nat.le_refl _); have c37 : w7.cell? ⟨S, 3, none⟩ = some (.slice ra us.length rc) := cell_of_cells (HW.out.1.below hb57).cells rfl)
    | (go_at_call 53; refine (HC53.out w7 hb57).mono ?_; rintro e w8 ⟨v2, rfl, ho8, hb8⟩; have hb58 := below_step hb57 hb8 hb57.size; obtain ⟨xa, xc, hv2⟩ := own_slice ho8; subst hv2)
    | (at_builtin; refine wpList_append_lies _ rfl _ _ 64 rfl w5.heap.size 22 i0 (.slice none 0 0) 1 24 Try.underlying64 hi hz0 hz1 hz2 rfl (by decide) (.slice xa us.length xc) us.length us rfl ((ownsRow_base ho8 hb57.size).alloc _) ⟨_, 0, none⟩ 1 1 [.slice va nowI.length vc] rfl rfl (cell_one_new _ _ _) (by simp [Value.oneCell']) (by decide) (by unfold maxLen; omega) (by omega) (by rw [World.size_alloc]; have := hb58.size; omega) _ rfl ?_; intro g9 cap9 w9 ho9 hgr9 hat9 hlt9)
    | (go_at_call 52; refine (hmk _ _ _).mono ?_; rintro e w10 ⟨rfl, b1, b2, hb10⟩)
    | fail)
  refine bodyPost_ret (results_tmp rfl _ _ _) rfl ?_
  obtain ⟨hj1, hj2, hj3, ho7⟩ := HJ7.out
  obtain ⟨hx5, hg5⟩ := HW.out
  have hb79 : Below w7.heap.size w7 w9 := (hb8.alloc hb8.size _).grown hgr9 (by rw [World.size_alloc]; have := hb8.size; omega) (fun j hj => (own_ge ho8 j hj).1)
  have hb710 := below_step hb79 hb10 hb79.size
  have hb510 := below_step hb57 hb710 hb57.size
  have hag5 : Ag (fun j => D j ∨ j = S) w5 w10 := ⟨hb510.size, by
    rintro j (hj | rfl)
    · exact hb510.block j (hx5.xlt j (hx5.dX j hj))
    · exact hb510.block j hx5.slt⟩
  have hagD : Ag D w5 w7 := ⟨hb57.size, fun j hj => hb57.block j (hx5.xlt j (hx5.dX j hj))⟩
  have hag7 : Ag (fun j => D j ∨ (w5.heap.size ≤ j ∧ j < w7.heap.size)) w7 w10 := ⟨hb710.size, by
    rintro j (hj | hj)
    · exact hb710.block j (Nat.lt_of_lt_of_le (hx5.xlt j (hx5.dX j hj)) hb57.size)
    · exact hb710.block j hj.2⟩
  have hrunJ := (run_of_own ho7 fun i hi => (hx5.nitems i (hj2 i hi)).ag hagD).ag hag7
  have hu9 : (us ++ [Value.slice va nowI.length vc]).length = us.length + 1 := by simp
  rcases own_one ho9 with ⟨h0, _⟩ | ⟨g', cap', e9, q1, q2, q3, q4⟩
  · cases h0
  · injection e9 with e9 _ e9c
    injection e9 with e9
    injection e9 with e9 _ _
    subst e9
    have hs7 := hb57.size
    have hs9 := hb79.size
    have hs10 := hb10.size
    have hl1 := b1.lt
    have hl2 := b2.lt
    have hins : (runsI ++ [nowJ]).map (List.map Prod.snd) = (ins ++ [now]).map (stab fun a b => cmpR a b by_) := by
      rw [List.map_append, List.map_append, HE.out.2.1, List.map_singleton, List.map_singleton, hj3, HE.out.1]
    have hit := merge_it w9.heap.size (w9.heap.size + 1) S g9 0 cap9 (us.length + 1) so by_ (runsI ++ [nowJ]) (us ++ [Value.slice va nowI.length vc]) (fun j => (D j ∨ j = S) ∨ (w5.heap.size ≤ j ∧ j < w10.heap.size)) w10
      (by
        rintro j ((hj | rfl) | hj)
        · have := hx5.xlt j (hx5.dX j hj); omega
        · have := hx5.slt; omega
        · exact hj.2)
      (.inr ⟨by omega, by omega⟩) (.inr ⟨by omega, by omega⟩) b1.cell b2.cell (.inr ⟨q1, by omega⟩)
      (fun j u hu => by rw [Nat.zero_add]; exact (cell_of_block (hb10.block g9 q2) _).trans (q4 j u hu)) hu9 (by omega) (by omega)
      (by have h := hx5.md.ag hag5; exact ⟨h.cell, .inl h.rS, h.ord.mono fun _ => .inl, h.short⟩)
      (All2.snoc (hrunJ.mono fun j hj => by
          rcases hj with hj | hj
          · exact .inl (.inl hj)
          · exact .inr ⟨hj.1, by omega⟩) (hx5.runs.imp fun _ _ hr => ((hr.mono (Q := fun j => D j ∨ j = S) fun _ => .inl).ag hag5).mono fun _ => .inl))
    have hms := merged_stab (cmpR_ord by_) (runsI ++ [nowJ]) (ins ++ [now]) hins
    refine ⟨_, _, _, _, rfl, hg5.trans (below_gr hg5.lt hb510) hg5.size, ⟨nowI, runsI, D, so, _, _, us, hx5.below hb510, HE.out.1, HE.out.2.1, HE.out.2.2.1, HE.out.2.2.2.1, HE.out.2.2.2.2.1, e6, e7⟩, hit, ?_, ?_, ?_⟩
    · rw [List.map_map]
      have e9 : (ins ++ [now]).flatten = ins.flatten ++ now := by rw [List.flatten_append, List.flatten_singleton]
      rw [e9] at hms
      exact hms
    · intro p hp
      obtain ⟨i, _, rfl⟩ := List.mem_map.1 hp
      rfl
    · rintro j ((hj | rfl) | hj)
      · exact .inl (hx5.dX j hj)
      · exact .inl hx5.xS
      · exact .inr (Nat.le_trans hg5.size hj.1)
/-- ROWS: all rows in order. -/
theorem rows_ok (S : Nat) (by_ : Order) (hand : Nat) (ins : List (List (List V3))) (now : List (List V3)) (k : Nat) (done : Bool) (X : Nat → Prop) (W : World) (h : SR W S by_ hand ins now k done X) (hst : now ≠ [] → StabOK now.length by_) :
    Calls Try.prog 24 #[.pointer (some ⟨S, 0, none⟩)] W fun e W' => ∃ g lb prs R, e = .returned (.func (.func g) #[] lb) ∧ Gr X X W.heap.size W W' ∧ SR W' S by_ hand ins now k true X ∧ ItC (.func (.func g) #[] lb) prs R W' ∧
      prs.map Prod.snd = stab (fun a b => cmpR a b by_) (ins.flatten ++ now) ∧ ∀ p ∈ prs, p.1.2 = 0 :=
  (rows_ok2 S by_ hand ins now k done X W h hst).mono fun e W' ⟨g, lb, prs, R, h1, h2, h3, h4, h5, h6, _⟩ => ⟨g, lb, prs, R, h1, h2, h3, h4, h5, h6⟩
set_option maxHeartbeats 4000000 in
/-- PUT when all is over: an error, nothing else. -/
theorem put_done (S hand : Nat) (r : Value) (W : World) (h1 : W.cell? ⟨S, 1, none⟩ = some (.int .i64 hand)) (h5 : W.cell? ⟨S, 5, none⟩ = some (.bool true)) (h0 : 0 < hand) :
    Calls Try.prog 22 #[.pointer (some ⟨S, 0, none⟩), r] W fun e W' => e = .returned (.int .i64 1) ∧ Below W.heap.size W W' := by
  have hmx : Try.prog.follows .mixedOrders = true := by kernel_rfl
  have HG := Aside0.mk (given_ok S hand W h1 h0)
  go_enter Try.func22, Try.ntmps22
  go_wp2_with (first | (go_at_call 47; refine HG.out.mono ?_; rintro e w3 ⟨rfl, hw3⟩; cases hw3) | fail)
  refine bodyPost_ret (results_tmp rfl _ _ _) rfl ?_
  exact ⟨rfl, Below.refl _ _⟩
end Go.Proofs.Ytghpjlohoehdnaa.Sep

/-! A new Sorter; sort's awake. No condition beyond those that each theorem names. -/
namespace Go.Proofs.Ytghpjlohoehdnaa.Sep
open Go Go.RowKit Go.Shelf
set_option linter.unusedVariables false
set_option linter.unusedSimpArgs false
/-- slices.Clone of an order: a new one -/
theorem cl46_r (so : Value) (by_ : Order) (w : World) (ho : Ord w so by_) (hby : by_.length ≤ 1000) :
    Calls Try.prog 46 #[so] w fun e w' => ∃ so', e = .returned so' ∧ OrdR (fun j => w.heap.size ≤ j ∧ j < w'.heap.size) w' so' by_ ∧ Below w.heap.size w w' := by
  rcases ho with ⟨a, c, rfl, rfl⟩ | ⟨b, off, c, rfl, h1, h2⟩
  · cases a with
    | none =>
      refine (cl46_none 0 c w).mono ?_
      rintro e w' ⟨rfl, rfl⟩
      exact ⟨_, rfl, .inl ⟨none, 0, rfl, rfl⟩, Below.refl _ _⟩
    | some a =>
      refine (cl46_zero a c w).mono ?_
      rintro e w' ⟨v', rfl, hown, hb⟩
      rcases hown.2 with ⟨rfl, _⟩ | ⟨g, cap, cur, rfl, _⟩
      · exact ⟨_, rfl, .inl ⟨none, 0, rfl, rfl⟩, hb⟩
      · exact ⟨_, rfl, .inl ⟨some ⟨g, 0, none⟩, cap, rfl, rfl⟩, hb⟩
  · refine (cl46_some b off by_.length c (flatO by_) w (flatO_len by_) (flatO_one by_) (by omega) (flatO_cell by_ h2)).mono ?_
    rintro e w' ⟨v', rfl, hown, hne, hb⟩
    rcases hown.2 with ⟨rfl, _⟩ | ⟨g, cap, cur, rfl, hg, hgb, k1, k2, k3, k4⟩
    · exact absurd rfl hne
    · have hgl := (Array.getElem?_eq_some_iff.1 hgb).1
      refine ⟨_, rfl, .inr ⟨g, 0, cap, rfl, ⟨hg, hgl⟩, hgl, ?_⟩, hb⟩
      intro j p hp
      have hf := flatO_at by_ j p hp
      have hcell : ∀ i u, (flatO by_)[i]? = some u → w'.cell? ⟨g, i, none⟩ = some u := by
        intro i u hj
        rw [← k4] at hj
        have hj2 := (List.getElem?_eq_some_iff.1 hj).1
        rw [List.length_take] at hj2
        rw [List.getElem?_take_of_lt (by omega)] at hj
        rw [Array.getElem?_toList] at hj
        unfold World.cell?
        simp only [hgb]
        simpa using hj
      have e1 : (0 : Nat) + j * 2 = j * 2 := by omega
      rw [e1]
      exact ⟨hcell _ _ hf.1, hcell _ _ hf.2⟩
theorem OrdR.shape {R : Nat → Prop} {W : World} {so : Value} {by_ : Order} : OrdR R W so by_ → ∃ a n c, so = .slice a n c
  | .inl ⟨a, c, h, _⟩ => ⟨_, _, _, h⟩
  | .inr ⟨b, off, c, h, _⟩ => ⟨_, _, _, h⟩
set_option maxRecDepth 100000 in
set_option maxHeartbeats 4000000 in
/-- NEW: a sorter, of which nothing has been taken. -/
theorem new_sr (so : Value) (by_ : Order) (n : Nat) (w : World) (ho : Ord w so by_) (hby : by_.length ≤ 1000) (h2 : 2 ≤ n) (hn : n ≤ 65536) :
    Calls Try.prog 21 #[so, .int .i64 n] w fun e w' => ∃ S, e = .returned (.tuple #[.pointer (some ⟨S, 0, none⟩), .int .i64 0]) ∧ w.heap.size ≤ S ∧ SR w' S by_ n [] [] 0 false (fun j => w.heap.size ≤ j ∧ j < w'.heap.size) ∧ Below w.heap.size w w' := by
  have hmx : Try.prog.follows .mixedOrders = true := by kernel_rfl
  have HC := Aside0.mk (cl46_r so by_ w ho hby)
  have HBy := Aside0.mk hby
  clear ho hby
  have d1 : decide ((n : Int) < 2) = false := by simp; omega
  have d2 : decide ((65536 : Int) < (n : Int)) = false := by simp; omega
  have d3 : decide (n < 2) = false := by simp; omega
  have d4 : decide (65536 < n) = false := by simp; omega
  go_enter Try.func21, Try.ntmps21
  go_wp2_with (first | (go_at_call 46; refine HC.out.mono ?_; rintro e w3 ⟨so', rfl, ho3, hb3⟩; obtain ⟨oa, on, oc, rfl⟩ := ho3.shape; have HO3 := Aside0.mk ho3; have HB3 := Aside0.mk hb3; clear ho3 hb3))
  refine bodyPost_ret (results_tmp2 rfl _ _ _) rfl ?_
  have hb := HB3.out
  refine ⟨w3.heap.size, rfl, hb.size, ?_, hb.alloc hb.size _⟩
  have hag : Ag (fun j => w.heap.size ≤ j ∧ j < w3.heap.size) w3 (w3.alloc (.cells #[.slice oa on oc, .int .i64 n, .slice none 0 0, .slice none 0 0, .int .i64 0, .bool false] 66)) := ⟨by simp, fun j hj => Below.heap_alloc _ _ _ hj.2⟩
  have hz : (w3.alloc (.cells #[.slice oa on oc, .int .i64 n, .slice none 0 0, .slice none 0 0, .int .i64 0, .bool false] 66)).heap.size = w3.heap.size + 1 := by simp
  have hs := hb.size
  refine ⟨[], [], fun j => w.heap.size ≤ j ∧ j < w3.heap.size, .slice oa on oc, .slice none 0 0, .slice none 0 0, [], ⟨alloc_new _ _, ⟨hs, by omega⟩, fun h => by omega, fun j hj => ⟨hj.1, by omega⟩, fun j hj => hj.2, HO3.out.ag hag, HBy.out, World.ownsRow_nil _ _ _ _, (fun j hj => by cases hj), (fun i hi => by cases hi), World.ownsRow_nil _ _ _ _, (fun j hj => by cases hj), trivial⟩, rfl, rfl, (fun r hr => by cases hr), rfl, by omega, h2, hn⟩
/-- NEW with too few or too many: an error. -/
theorem new_err (so : Value) (n : Int) (w : World) (h : n < 2 ∨ 65536 < n) : Calls Try.prog 21 #[so, .int .i64 n] w fun e w' => e = .returned (.tuple #[.pointer none, .int .i64 1]) ∧ w' = w := by
  have hmx : Try.prog.follows .mixedOrders = true := by kernel_rfl
  by_cases h1 : n < 2
  · have d1 : decide (n < 2) = true := by simpa using h1
    go_enter Try.func21, Try.ntmps21
    go_wp2
    refine bodyPost_ret (results_tmp2 rfl _ _ _) rfl ?_
    exact ⟨rfl, rfl⟩
  · have d1 : decide (n < 2) = false := by simpa using h1
    have d2 : decide (65536 < n) = true := by simp; omega
    go_enter Try.func21, Try.ntmps21
    go_wp2
    refine bodyPost_ret (results_tmp2 rfl _ _ _) rfl ?_
    exact ⟨rfl, rfl⟩
theorem res23 (N : Nat) (W : World) (v : V3) (tmps : Array Value) (h4 : tmps.getD 2 undef = .pointer (some ⟨N, 0, none⟩)) (hb : W.heap[N]? = some (vO v)) :
    (results Try.f23 tmps).run Try.prog W = .ok (.agg #[.int .i64 v.k, .int .i64 v.n, .string v.s]) W := by
  have hr : Try.f23.results = #[.cell 2 45] := rfl
  have x0 : W.cell? ⟨N, 0, none⟩ = some (.int .i64 v.k) := by unfold World.cell?; simp only [hb]; rfl
  have x1 : W.cell? ⟨N, 1, none⟩ = some (.int .i64 v.n) := by unfold World.cell?; simp only [hb]; rfl
  have x2 : W.cell? ⟨N, 2, none⟩ = some (.string v.s) := by unfold World.cell?; simp only [hb]; rfl
  have u := Try.underlying45
  simp only [results, hr]
  rw [Array.getD_eq_getD_getElem?] at h4
  simp [Sem.run_bind, Result.andThen, h4]
  go_simp
theorem num23_ok (n : Int) (W : World) : Calls Try.prog 23 #[.int .i64 n] W fun e W' => e = .returned (.agg #[.int .i64 1, .int .i64 n, .string ⟨#[]⟩]) ∧ Below W.heap.size W W' := by
  go_enter Try.func23, Try.ntmps23
  go_wp2
  refine bodyPost_ret (res23 W.heap.size _ ⟨1, n, ⟨#[]⟩⟩ _ rfl (World.alloc_heap_new W _)) rfl ?_
  exact ⟨rfl, below_new _⟩
/-- what changes blocks from N on alone is Below N -/
theorem gr_below {X X' : Nat → Prop} {N : Nat} {W W' : World} (h : Gr X X' W.heap.size W W') (hX : ∀ j, X j → N ≤ j) (hN : N ≤ W.heap.size) : Below N W W' ∧ ∀ j, X' j → N ≤ j :=
  ⟨⟨h.os, h.tape, h.output, h.size, fun j hj => h.block j (by omega) (fun hx => by have := hX j hx; omega)⟩, fun j hj => by
    rcases h.sub j hj with h1 | h1
    · exact hX j h1
    · omega⟩
theorem aw_sorted : stab (fun a b => cmpR a b [(0, false)]) ([[numR 3, numR 1]].flatten ++ [numR 2]) = [numR 1, numR 2, numR 3] := by kernel_rfl
theorem SR.slt {W : World} {S : Nat} {by_ : Order} {hand : Nat} {ins : List (List (List V3))} {now : List (List V3)} {k : Nat} {done : Bool} {X : Nat → Prop} (h : SR W S by_ hand ins now k done X) : S < W.heap.size := by
  obtain ⟨nowI, runsI, D, so, nv, rv, us, h1, _⟩ := h
  exact h1.slt
/-- Put of a row of one number that has just been made -/
theorem put_num (m : Int) (S : Nat) (by_ : Order) (hand : Nat) (ins : List (List (List V3))) (now : List (List V3)) (k : Nat) (X : Nat → Prop) (W : World) (h : SR W S by_ hand ins now k false X) (hk : k < 80000) (hh : hand ≤ 19) (hnow : now.length < hand) :
    Calls Try.prog 22 #[.pointer (some ⟨S, 0, none⟩), .slice (some ⟨W.heap.size, 0, none⟩) 1 1] (W.alloc (numO m)) fun e W' => e = .returned (.int .i64 0) ∧ ∃ X', Gr X X' W.heap.size W W' ∧ SR W' S by_ hand (putP hand ins now (numR m)).1 (putP hand ins now (numR m)).2 (k + 1) false X' := by
  have hb : Below W.heap.size W (W.alloc (numO m)) := (Below.refl _ W).alloc (Nat.le_refl _) _
  have hg := below_gr h.xlt hb
  refine (put_ok S by_ hand ins now k X (W.alloc (numO m)) (h.below hb) hk (fun _ => stabOK_small _ _ (by omega)) (some ⟨W.heap.size, 0, none⟩) 1 1 (numR m) (num_cont m W) (by decide) ?_).mono ?_
  · rintro j ⟨_, o, t, e⟩
    injection e with e
    injection e with e _ _
    have := h.slt
    omega
  · rintro e W' ⟨rfl, X', g, s⟩
    exact ⟨rfl, X', hg.trans g hg.size, s⟩
theorem own_three {P : Nat → Prop} {W : World} {sv : Value} {r0 r1 r2 : List V3} (h : OwnB P W sv [r0, r1, r2]) : ∃ b off c q0 q1 q2, sv = .slice (some ⟨b, off, none⟩) 3 c ∧ W.cell? ⟨b, off, none⟩ = some (RV.v q0) ∧ W.cell? ⟨b, off + 2, none⟩ = some (RV.v q2) ∧ Cont W q0 r0 ∧ Cont W q2 r2 ∧ Cont W q1 r1 := by
  rcases h with ⟨_, _, _, h⟩ | ⟨b, off, c, rs, rfl, _, _, h3, h4⟩
  · cases h
  · have hl := h4.len
    obtain ⟨q0, q1, q2, rfl⟩ : ∃ q0 q1 q2, rs = [q0, q1, q2] := by
      match rs, hl with
      | [a, b, c], _ => exact ⟨a, b, c, rfl⟩
    obtain ⟨⟨k0, _⟩, ⟨k1, _⟩, ⟨k2, _⟩, _⟩ := h4
    exact ⟨b, off, c, q0, q1, q2, rfl, h3 0 (by simp), h3 2 (by simp), k0, k2, k1⟩
theorem num_one {W : World} {q : RV} {m : Int} (h : Cont W q (numR m)) : ∃ bq oq c, q = ⟨some ⟨bq, oq, none⟩, 1, c⟩ ∧ W.cell? ⟨bq, oq + 1, none⟩ = some (.int .i64 m) := by
  rcases h with ⟨_, h⟩ | ⟨b, off, h1, h2, _, h4⟩
  · cases h
  · obtain ⟨a, n, c⟩ := q
    have h1 : a = some ⟨b, off, none⟩ := h1
    have h2 : 1 = n := h2
    subst h1 h2
    exact ⟨b, off, c, rfl, h4 1 _ rfl⟩
theorem SR.nums {W : World} {S : Nat} {by_ : Order} {hand : Nat} {ins : List (List (List V3))} {now : List (List V3)} {k : Nat} {done : Bool} {X : Nat → Prop} (h : SR W S by_ hand ins now k done X) : W.cell? ⟨S, 1, none⟩ = some (.int .i64 hand) ∧ W.cell? ⟨S, 5, none⟩ = some (.bool done) := by
  obtain ⟨nowI, runsI, D, so, nv, rv, us, h1, _⟩ := h
  exact ⟨cell_of_cells h1.cells rfl, cell_of_cells h1.cells rfl⟩
set_option maxRecDepth 100000 in
set_option maxHeartbeats 8000000 in
/-- SORT's AWAKE. -/
theorem awake25_ok (W : World) : Calls Try.prog 25 #[] W fun e W' => e = .returned (.bool true) ∧ Below W.heap.size W W' := by
  have hmx : Try.prog.follows .mixedOrders = true := by kernel_rfl
  have q37 : ∀ (w : World) (S : Nat), (binOp .eql 37 (.pointer (some ⟨S, 0, none⟩)) (.pointer none)).run Try.prog w = .ok (.bool false) w := fun w S => rfl
  have hb1 : Below W.heap.size W (W.alloc (.cells #[.int .i64 0, .bool false] 41)) := (Below.refl _ W).alloc (Nat.le_refl _) _
  have ho : Ord (W.alloc (.cells #[.int .i64 0, .bool false] 41)) (.slice (some ⟨W.heap.size, 0, none⟩) 1 1) [(0, false)] := .inr ⟨W.heap.size, 0, 1, rfl, by simp, by
    intro j p hp
    cases j with
    | zero => cases hp; exact box2 W (.int .i64 0) (.bool false) 41
    | succ j => simp at hp⟩
  have HNew := Aside0.mk (new_sr _ [(0, false)] 2 _ ho (by decide) (by decide) (by decide))
  have HB1 := Aside0.mk hb1
  clear ho hb1
  go_enter Try.func25, Try.ntmps25
  go_upto_region 2 with (first | (go_at_call 21; refine HNew.out.mono ?_; rintro e w1 ⟨S, rfl, hS, hsr1, hb2⟩; have HB2 := Aside0.mk (below_step HB1.out hb2 HB1.out.size); (obtain ⟨X1, hsr1', hX1⟩ : ∃ X1, SR w1 S [(0, false)] 2 [] [] 0 false X1 ∧ ∀ j, X1 j → W.heap.size ≤ j := ⟨_, hsr1, fun j hj => Nat.le_trans HB1.out.size hj.1⟩); have HR1 := Aside0.mk (And.intro hsr1' hX1); clear hsr1 hsr1' hX1 hS hb2) | fail)
  go_upto_region 4 with (first
    | (go_at_call_of 23 (Value.int IntKind.i64 3); refine (num23_ok 3 _).mono ?_; rintro e w2 ⟨rfl, hb2⟩; have HS2 := Aside0.mk (HR1.out.1.below hb2); have HB3 := Aside0.mk (below_step HB2.out hb2 HB2.out.size); have HP2 := Aside0.mk (put_num 3 S [(0, false)] 2 [] [] 0 X1 w2 HS2.out (by decide) (by decide) (by decide)); clear hb2)
    | (go_at_call_of 23 (Value.int IntKind.i64 1); refine (num23_ok 1 _).mono ?_; rintro e w4 ⟨rfl, hb4⟩; have HS4 := Aside0.mk (HS3.out.1.below hb4); have HB5 := Aside0.mk (below_step HB4.out hb4 HB4.out.size); have HP4 := Aside0.mk (put_num 1 S [(0, false)] 2 [] [numR 3] 1 X3 w4 HS4.out (by decide) (by decide) (by decide)); clear hb4)
    | (go_at_call_of 23 (Value.int IntKind.i64 2); refine (num23_ok 2 _).mono ?_; rintro e w6 ⟨rfl, hb6⟩; have HS6 := Aside0.mk (HS5.out.1.below hb6); have HB7 := Aside0.mk (below_step HB6.out hb6 HB6.out.size); have HP6 := Aside0.mk (put_num 2 S [(0, false)] 2 [[numR 3, numR 1]] [] 2 X5 w6 HS6.out (by decide) (by decide) (by decide)); clear hb6)
    | (go_at_call 22; refine HP6.out.mono ?_; rintro e w7 ⟨rfl, X7, hg7, hs7⟩; (obtain ⟨hq7, hX7⟩ := gr_below hg7 HS5.out.2 HB7.out.size); have HS7 := Aside0.mk (And.intro hs7 hX7); have HB8 := Aside0.mk (below_step HB7.out hq7 (Nat.le_refl _)); clear hg7 hs7 hq7 hX7)
    | (go_at_call 22; refine HP4.out.mono ?_; rintro e w5 ⟨rfl, X5, hg5, hs5⟩; (obtain ⟨hq5, hX5⟩ := gr_below hg5 HS3.out.2 HB5.out.size); have HS5 := Aside0.mk (And.intro (show SR w5 S [(0, false)] 2 [[numR 3, numR 1]] [] 2 false X5 from hs5) hX5); have HB6 := Aside0.mk (below_step HB5.out hq5 (Nat.le_refl _)); clear hg5 hs5 hq5 hX5)
    | (go_at_call 22; refine HP2.out.mono ?_; rintro e w3 ⟨rfl, X3, hg3, hs3⟩; (obtain ⟨hq3, hX3⟩ := gr_below hg3 HR1.out.2 HB3.out.size); have HS3 := Aside0.mk (And.intro (show SR w3 S [(0, false)] 2 [] [numR 3] 1 false X3 from hs3) hX3); have HB4 := Aside0.mk (below_step HB3.out hq3 (Nat.le_refl _)); clear hg3 hs3 hq3 hX3)
    | fail)
  have HRows := Aside0.mk (rows_ok S [(0, false)] 2 [[numR 3, numR 1]] [numR 2] 3 false X7 w7 HS7.out.1 (fun _ => stabOK_small _ _ (by decide)))
  go_upto_region 5 with (first
    | (go_at_call 24; refine HRows.out.mono ?_; rintro e w8 ⟨gf, lb, prs, R8, rfl, hg8, hs8, hit8, hp8, hz8⟩; (obtain ⟨hq8, hX8⟩ := gr_below hg8 HS7.out.2 HB8.out.size); have HB9 := Aside0.mk (below_step HB8.out hq8 (Nat.le_refl _)); have HS8 := Aside0.mk hs8; rw [aw_sorted] at hp8; have HCol := Aside0.mk (callsIn_wide.1 (collect_c 3 (Nat.le_refl _) _ prs R8 w8 hit8 (by have := congrArg List.length hp8; rw [List.length_map] at this; rw [this]; decide))); have HP8 := Aside0.mk (And.intro hp8 hz8); clear hg8 hs8 hit8 hp8 hz8 hq8 hX8)
    | (go_at_call 19; refine HCol.out.mono ?_; rintro e w9 ⟨hb9, ⟨_, sv, rfl, _, hown⟩ | ⟨hx, _⟩⟩; rotate_left; exact absurd (errOf_zero _ HP8.out.2) hx)
    | fail)
  have hrows := hown
  rw [HP8.out.1] at hrows
  obtain ⟨b, off, c, q0, q1, q2, rfl, hl0, hl2, hq0, hq2, _⟩ := own_three hrows
  obtain ⟨b0, o0, c0, rfl, h01⟩ := num_one hq0
  obtain ⟨b2, o2, c2, rfl, h21⟩ := num_one hq2
  have HB10 := Aside0.mk (below_step HB9.out hb9 HB9.out.size)
  obtain ⟨hS1, hS5⟩ := SR.nums (HS8.out.below hb9)
  have HPD := Aside0.mk (put_done S 2 (.slice none 0 0) w9 hS1 hS5 (by decide))
  dsimp only [RV.v] at hl0 hl2
  clear hown hrows hq0 hq2 hb9 hS1 hS5
  go_wp2_with (first | (go_at_call 22; refine HPD.out.mono ?_; rintro e w10 ⟨rfl, hb10⟩) | fail)
  refine bodyPost_ret (results_tmp rfl _ _ _) rfl ?_
  exact ⟨rfl, below_step HB10.out hb10 HB10.out.size⟩
end Go.Proofs.Ytghpjlohoehdnaa.Sep

/-! The law's light, walked: few rows, of few values. No condition beyond those that each theorem names. -/
namespace Go.Proofs.Ytghpjlohoehdnaa.Sep
open Go Go.RowKit Go.Shelf
set_option linter.unusedVariables false
set_option linter.unusedSimpArgs false
/-- what light answers -/
def LP26 (m : Nat) (rows : List (List V3)) (W : World) (e : Ending) (W' : World) : Prop := ∃ t, e = .returned (.bool t) ∧ (t = true → rows.length ≤ m ∧ ∀ row ∈ rows, row.length ≤ 6) ∧ W' = W
set_option maxRecDepth 100000 in
set_option maxHeartbeats 4000000 in
theorem light26_some (m : Nat) (hm : m ≤ 1000) (b off c : Nat) (rs : List RV) (rows : List (List V3)) (W : World) (hb : b < W.heap.size) (hcs : ∀ j, j < rs.length → W.cell? ⟨b, off + j, none⟩ = some ((rs[j]?.getD RV.nil).v)) (hr : All2 (fun q row => Cont W q row) rs rows) :
    Calls Try.prog 26 #[.slice (some ⟨b, off, none⟩) rs.length c, .int .i64 m] W (LP26 m rows W) := by
  have hcsA : Aside (∀ j, j < rs.length → W.cell? ⟨b, off + j, none⟩ = some ((rs[j]?.getD RV.nil).v)) := hcs
  clear hcs
  go_enter Try.func26, Try.ntmps26
  go_wp2
  go_loopw [5] (fun i wr => ∃ (j : Nat), j ≤ rs.length ∧ j ≤ m ∧ i = .int .i64 j ∧ wr = W ∧ ∀ k row, k < j → rows[k]? = some row → row.length ≤ 6) (fun i _ => m - (intOf i).toNat)
  case atStart => exact ⟨0, Nat.zero_le _, Nat.zero_le _, rfl, rfl, fun k row h _ => absurd h (Nat.not_lt_zero k)⟩
  case round =>
    obtain ⟨j, hj, hj30, rfl, rfl, hall⟩ := hrel
    by_cases hlt : j < rs.length
    · have hd1 : decide ((j : Int) < (rs.length : Int)) = true := by simpa using hlt
      by_cases hlt30 : j < m
      · obtain ⟨q, hq⟩ : ∃ q, rs[j]? = some q := ⟨rs[j], List.getElem?_eq_getElem hlt⟩
        obtain ⟨row, hrow⟩ : ∃ row, rows[j]? = some row := ⟨rows[j]'(by rw [← hr.len]; exact hlt), List.getElem?_eq_getElem _⟩
        have hC := hr.get j _ _ hq hrow
        have hx := hcsA.out j hlt
        have hi30 : decide ((j : Int) < (m : Int)) = true := by simp; omega
        have hwj : IntKind.i64.wrap ((j : Int) + 1) = (j : Int) + 1 := by rw [IntKind.wrap_i64]; omega
        rw [hq] at hx
        obtain ⟨qa, qn, qc⟩ := q
        dsimp only [RV.v, Option.getD_some] at hx
        have hl := hC.len
        dsimp only at hl
        have hlA : Aside (row.length = qn) := hl
        clear hl hq
        by_cases hq6 : qn ≤ 6
        · have hnext : ∀ k row, k < j + 1 → rows[k]? = some row → row.length ≤ 6 := fun k r h1 h2 => by
            by_cases hk : k = j
            · subst hk
              rw [hrow] at h2
              injection h2 with h2
              subst h2
              rw [hlA.out]; exact hq6
            · exact hall k r (by omega) h2
          have hd6 : decide (6 < (qn : Int)) = false := by simp; omega
          clear hrow hall
          go_wp2
          go_loopw [6] (fun i w2 => ∃ (k : Nat), k ≤ qn ∧ i = .int .i64 k ∧ w2 = wr) (fun i _ => qn - (intOf i).toNat)
          case atStart => exact ⟨0, Nat.zero_le _, rfl, rfl⟩
          case round =>
            obtain ⟨k, hk, rfl, rfl⟩ := hrel
            by_cases hk2 : k < qn
            · obtain ⟨v, hv⟩ : ∃ v, row[k]? = some v := ⟨row[k]'(by rw [hlA.out]; exact hk2), List.getElem?_eq_getElem _⟩
              obtain ⟨f1, f2, f3⟩ := flat_at row k v hv
              rcases hC with ⟨h, _⟩ | ⟨b2, off2, hae, _, _, hcs2⟩
              · have : qn = 0 := h
                omega
              · replace hae : qa = some ⟨b2, off2, none⟩ := hae
                subst hae
                have x3 := hcs2 _ _ f3
                rw [Nat.mul_comm 3 k, ← Nat.add_assoc] at x3
                clear hv f1 f2 f3 hcs2
                by_cases h64 : v.s.size ≤ 64
                · have hd64 : decide (64 < (v.s.size : Int)) = false := by simp; omega
                  go_wp2
                  go_roundw
                  case rel => exact ⟨k + 1, by omega, by simp, by trivial⟩
                  case measure => simp [intOf]; omega
                · have hd64 : decide (64 < (v.s.size : Int)) = true := by simp; omega
                  go_wp2
                  refine bodyPost_ret (results_tmp rfl _ _ _) rfl ?_
                  exact ⟨false, rfl, (fun h => by cases h), rfl⟩
            · obtain rfl : k = qn := by omega
              go_wp2
              go_roundw
              case rel => exact ⟨j + 1, by omega, by omega, by simp <;> omega, by trivial, hnext⟩
              case measure => simp [intOf]; omega
        · have hd6 : decide (6 < (qn : Int)) = true := by simp; omega
          clear hrow hall
          go_wp2
          refine bodyPost_ret (results_tmp rfl _ _ _) rfl ?_
          exact ⟨false, rfl, (fun h => by cases h), rfl⟩
      · have hd2 : decide ((j : Int) < (m : Int)) = false := by simp; omega
        by_cases h30 : rs.length ≤ m
        · omega
        · have hd3 : decide ((rs.length : Int) ≤ (m : Int)) = false := by simp; omega
          have hd4 : decide (rs.length ≤ m) = false := by simp; omega
          clear hall
          go_wp2
          refine bodyPost_ret (results_tmp rfl _ _ _) rfl ?_
          exact ⟨false, rfl, (fun h => by cases h), rfl⟩
    · have hd1 : decide ((j : Int) < (rs.length : Int)) = false := by simp; omega
      have hfin : Aside (rows.length ≤ m ∧ ∀ row ∈ rows, row.length ≤ 6) := by
        have hl := hr.len
        show rows.length ≤ m ∧ ∀ row ∈ rows, row.length ≤ 6
        refine ⟨by omega, fun row hm => ?_⟩
        obtain ⟨k, hk, e⟩ := List.mem_iff_getElem.1 hm
        exact hall k row (by omega) (by rw [← e]; exact List.getElem?_eq_getElem hk)
      have hd3 : decide ((rs.length : Int) ≤ (m : Int)) = true := by simp; omega
      have hd4 : decide (rs.length ≤ m) = true := by simp; omega
      clear hall
      go_wp2
      refine bodyPost_ret (results_tmp rfl _ _ _) rfl ?_
      exact ⟨true, rfl, fun _ => hfin.out, rfl⟩
set_option maxRecDepth 100000 in
set_option maxHeartbeats 1000000 in
theorem light26_nil (m : Nat) (a : Option Addr) (c : Nat) (W : World) : Calls Try.prog 26 #[.slice a 0 c, .int .i64 m] W fun e W' => e = .returned (.bool true) ∧ W' = W := by
  go_enter Try.func26, Try.ntmps26
  go_wp2
  go_loopw [5] (fun i wr => i = .int .i64 0 ∧ wr = W) (fun _ _ => 0)
  case atStart => exact ⟨rfl, rfl⟩
  case round =>
    obtain ⟨rfl, rfl⟩ := hrel
    go_wp2
    refine bodyPost_ret (results_tmp rfl _ _ _) rfl ?_
    exact ⟨rfl, rfl⟩
theorem light26_ok (m : Nat) (hm : m ≤ 1000) (sv : Value) (rows : List (List V3)) (W : World) (h : Raw W sv rows) :
    Calls Try.prog 26 #[sv, .int .i64 m] W fun e W' => ∃ t, e = .returned (.bool t) ∧ (t = true → rows.length ≤ m ∧ ∀ row ∈ rows, row.length ≤ 6) ∧ W' = W := by
  rcases h with ⟨a, c, rfl, rfl⟩ | ⟨b, off, c, rs, rfl, hb, hcs, hr⟩
  · exact (light26_nil m a c W).mono (by rintro e w ⟨rfl, rfl⟩; exact ⟨true, rfl, fun _ => ⟨by simp, fun row h => by cases h⟩, rfl⟩)
  · exact light26_some m hm b off c rs rows W hb hcs hr
end Go.Proofs.Ytghpjlohoehdnaa.Sep
