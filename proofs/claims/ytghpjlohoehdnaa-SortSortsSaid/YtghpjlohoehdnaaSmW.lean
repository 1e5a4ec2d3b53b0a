/- A Sorter lays aside what is at hand, walked. No condition beyond those that each theorem names. -/
import Derived.Test.YtghpjlohoehdnaaSmC
import Derived.Deep.CutRange
import Derived.RegionTactic
import Derived.Deep.RegionLaw
/-! lays, walked: the rows at hand become a run; runs of one length are merged. No condition beyond those that each theorem names. -/
namespace Go.Proofs.Ytghpjlohoehdnaa.Sep
open Go Go.RowKit Go.Shelf
set_option linter.unusedVariables false
set_option linter.unusedSimpArgs false
/-- SortStableFunc puts so many rows in order -/
def StabOK (m : Nat) (by_ : Order) : Prop := ∀ (g cap : Nat) (its : List It2) (spare : List Value) (S : Nat) (W : World), its.length = m → RowB W g its spare → CmpFn W g its (fun a b => cmpR a b by_) (.pointer (some ⟨S, 0, none⟩)) →
  Calls Try.prog 50 #[.slice (some ⟨g, 0, none⟩) its.length cap, .func (.func 51) #[.pointer (some ⟨S, 0, none⟩)] #[]] W fun e W' => e = .returned (.tuple #[]) ∧ ∃ its' : List It2, its'.length = its.length ∧ (∀ i ∈ its', i ∈ its) ∧
    its'.map Prod.snd = stab (fun a b => cmpR a b by_) (its.map Prod.snd) ∧ RowB W' g its' spare ∧ Near g W W'
theorem stabOK_small (m : Nat) (by_ : Order) (hm : m ≤ 19) : StabOK m by_ := fun g cap its spare S W hl hR hC =>
  (sortStable_ok g cap its spare _ S W (by omega) hR hC).mono fun e W' ⟨h1, h2, h3⟩ => ⟨h1, _, isort_len _ _ _ _, isort_mem _ 0 its.length its (by omega), isort_stab (cmpR_ord by_) its, h2, h3⟩
/-- runs of one length are merged, as long as there are so many -/
def laysR {α : Type} (hand : Nat) : Nat → List (List α) → List (List α)
  | 0, l => l
  | f + 1, l => if l.length < hand then l else
    if ((l.drop (l.length - hand)).map List.length).any (fun n => !(n == ((l.drop (l.length - hand)).head?.getD []).length)) then l else laysR hand f (l.take (l.length - hand) ++ [(l.drop (l.length - hand)).flatten])
def laysL {α : Type} (hand : Nat) (l : List (List α)) : List (List α) := laysR hand l.length l
theorem flatten_ge {α : Type} : ∀ {l : List (List α)}, (∀ r ∈ l, r ≠ []) → l.length ≤ l.flatten.length
  | [], _ => Nat.le_refl _
  | x :: t, h => by
    have h1 := flatten_ge (l := t) fun r hr => h r (List.mem_cons_of_mem _ hr)
    have h2 : 0 < x.length := List.length_pos_iff.2 (h x (List.mem_cons_self ..))
    rw [List.flatten_cons, List.length_append, List.length_cons]
    omega
theorem own_slice {W : World} {N : Nat} {T : TypeId} {v : Value} {n : Nat} {xs : List Value} (h : W.ownsRow N T 1 v n xs) : ∃ a c, v = .slice a n c := by
  rcases h.2 with ⟨rfl, rfl⟩ | ⟨g, cap, cur, rfl, _⟩
  · exact ⟨_, _, rfl⟩
  · exact ⟨_, _, rfl⟩
/-- what the region that lays aside needs, and gives -/
theorem aside_facts {W1 : World} {S : Nat} {by_ : Order} {hand : Nat} {nowI : List It2} {runsI : List (List It2)} {k : Nat} {done : Bool} {X D : Nat → Prop} {so rv : Value} {us : List Value} {g cap : Nat} {spare : List Value} {tmp : Obj} {nn : Nat} (hnn : nowI.length = nn)
    (h : SRx W1 S by_ hand nowI runsI k done X D so (.slice (some ⟨g, 0, none⟩) nn cap) rv us) (hR : RowB W1 g nowI spare) (hc : nowI.length + spare.length = cap) (g5 cap5 : Nat) (w5 : World)
    (hown : w5.ownsRow 0 22 1 (.slice (some ⟨g5, 0, none⟩) (us.length + 1) cap5) (us.length + 1) (us ++ [.slice (some ⟨g, 0, none⟩) nn cap])) (hgrow : (W1.drew.alloc tmp).grownBy w5 rv.ownBlock) (hat : rv.ownBlock = some g5 ∨ g5 = (W1.drew.alloc tmp).heap.size) :
    w5.cell? ⟨S, 3, none⟩ = some rv ∧ w5.frozen? ⟨S, 3, none⟩ = false ∧
    (w5.setCell ⟨S, 3, none⟩ (.slice (some ⟨g5, 0, none⟩) (us.length + 1) cap5)).cell? ⟨S, 2, none⟩ = some (.slice (some ⟨g, 0, none⟩) nn cap) ∧ (w5.setCell ⟨S, 3, none⟩ (.slice (some ⟨g5, 0, none⟩) (us.length + 1) cap5)).frozen? ⟨S, 2, none⟩ = false ∧
    ∃ X' D', SRx ((w5.setCell ⟨S, 3, none⟩ (.slice (some ⟨g5, 0, none⟩) (us.length + 1) cap5)).setCell ⟨S, 2, none⟩ (.slice none 0 0)) S by_ hand [] (runsI ++ [nowI]) k done X' D' so (.slice none 0 0) (.slice (some ⟨g5, 0, none⟩) (us.length + 1) cap5) (us ++ [.slice (some ⟨g, 0, none⟩) nn cap]) ∧
      Gr X X' W1.heap.size W1 ((w5.setCell ⟨S, 3, none⟩ (.slice (some ⟨g5, 0, none⟩) (us.length + 1) cap5)).setCell ⟨S, 2, none⟩ (.slice none 0 0)) := by
  subst hnn
  have hb : Below W1.heap.size W1 W1.drew := (Still.drew W1).below
  have hSr : rv.ownBlock ≠ some S := fun e => (h.rblk S e).2.2.1 rfl
  have hS5 : w5.heap[S]? = W1.heap[S]? := (hgrow.block S (by rw [World.size_alloc]; have := h.slt; exact Nat.lt_succ_of_lt this) (fun e => hSr e.symm)).trans (Below.heap_alloc W1.drew tmp S h.slt)
  have hcs := hS5.trans h.cells
  have hcs2 := set_cells hcs 3 (.slice (some ⟨g5, 0, none⟩) (us.length + 1) cap5)
  refine ⟨cell_of_cells hcs rfl, frozen_of_cells hcs 3, cell_of_cells hcs2 rfl, frozen_of_cells hcs2 2, _, _, h.aside hR hc hb hown hgrow ?_ (by rw [size_setCell, size_setCell]) ⟨rfl, rfl, rfl⟩ (fun j hj => ?_) (fun cs hcs => ?_)⟩
  · rcases hat with e | e
    · exact .inl e
    · exact .inr (congrArg some e)
  · exact (Below.heap_setCell _ _ _ j hj).trans (Below.heap_setCell _ _ _ j hj)
  · exact set_cells (set_cells hcs 3 _) 2 _
theorem laysR_lt {α : Type} {hand : Nat} {l : List (List α)} (h : l.length < hand) : ∀ f, laysR hand f l = l
  | 0 => rfl
  | f + 1 => by rw [laysR, if_pos h]
theorem heldS_alloc {W w : World} {a0 a1 : Addr} {u0 u1 : Value} (h : w.cell? a0 = some u0 ∧ w.cell? a1 = some u1 ∧ Aside0 (Below W.heap.size W w)) (o : Obj) :
    (w.alloc o).cell? a0 = some u0 ∧ (w.alloc o).cell? a1 = some u1 ∧ Aside0 (Below W.heap.size W (w.alloc o)) :=
  ⟨Lib.cell?_alloc_some _ h.1, Lib.cell?_alloc_some _ h.2.1, ⟨h.2.2.out.alloc h.2.2.out.size _⟩⟩
theorem heldS_al0 {W : World} {a0 a1 : Addr} {u0 u1 : Value} (h0 : W.cell? a0 = some u0) (h1 : W.cell? a1 = some u1) (o : Obj) :
    (W.alloc o).drew.cell? a0 = some u0 ∧ (W.alloc o).drew.cell? a1 = some u1 ∧ Aside0 (Below W.heap.size W (W.alloc o).drew) :=
  have h := heldS_alloc ⟨h0, h1, ⟨Below.refl W.heap.size W⟩⟩ o
  ⟨h.1, h.2.1, ⟨h.2.2.out.os, h.2.2.out.tape, h.2.2.out.output, h.2.2.out.size, h.2.2.out.block⟩⟩
theorem cell_one_new2 (w : World) {T : TypeId} (v : Value) : ((w.alloc (.cells #[v] T)).drewN 1).cell? ⟨w.heap.size, 0, none⟩ = some v := (Boxed.new w T v).cell
theorem bd_al (W : World) (o : Obj) : Below W.heap.size W (W.alloc o).drew :=
  have h := (Below.refl W.heap.size W).alloc (Nat.le_refl _) o
  ⟨h.os, h.tape, h.output, h.size, h.block⟩
theorem heldS_set {W w : World} {a0 a1 b : Addr} {u0 u1 : Value} (h0 : W.cell? a0 = some u0) (h1 : W.cell? a1 = some u1) (h : w.cell? a0 = some u0 ∧ w.cell? a1 = some u1 ∧ Aside0 (Below W.heap.size W w)) (hb : W.heap.size ≤ b.block) (v : Value) :
    (w.setCell b v).cell? a0 = some u0 ∧ (w.setCell b v).cell? a1 = some u1 ∧ Aside0 (Below W.heap.size W (w.setCell b v)) :=
  have hB : Below W.heap.size W (w.setCell b v) := ⟨h.2.2.out.os, h.2.2.out.tape, h.2.2.out.output, by rw [size_setCell]; exact h.2.2.out.size, fun j hj => (Below.heap_setCell _ _ _ j (by omega)).trans (h.2.2.out.block j hj)⟩
  ⟨(cell_of_block' (hB.block a0.block (cell_lt h0))).trans h0, (cell_of_block' (hB.block a1.block (cell_lt h1))).trans h1, ⟨hB⟩⟩
set_option maxRecDepth 100000 in
set_option maxHeartbeats 8000000 in
theorem lays_ok (S : Nat) (by_ : Order) (hand : Nat) (nowI : List It2) (runsI : List (List It2)) (k : Nat) (done : Bool) (X D : Nat → Prop) (so nv rv : Value) (us : List Value) (W : World) (h : SRx W S by_ hand nowI runsI k done X D so nv rv us)
    (hh : 2 ≤ hand) (hn : nowI ≠ []) (hs : StabOK nowI.length by_) (ins : List (List (List V3))) (hins : runsI.map (List.map Prod.snd) = ins.map (stab fun a b => cmpR a b by_)) (hne : ∀ r ∈ ins, r ≠ []) (hsz : ins.flatten.length + nowI.length ≤ 90000) :
    Calls Try.prog 48 #[.pointer (some ⟨S, 0, none⟩)] W fun e W' => e = .returned (.tuple #[]) ∧ ∃ X' D' rv' us' runsI', Gr X X' W.heap.size W W' ∧ SRx W' S by_ hand [] runsI' k done X' D' so (.slice none 0 0) rv' us' ∧
      runsI'.map (List.map Prod.snd) = (laysL hand (ins ++ [nowI.map Prod.snd])).map (stab fun a b => cmpR a b by_) := by
  have hmx : Try.prog.follows .mixedOrders = true := by kernel_rfl
  obtain ⟨g, cap, spare, rfl, hRow, hcap, hmaxl, _⟩ := rowB_of_own h.nown hn
  have HSort := Aside0.mk (hs g cap nowI spare S W rfl hRow h.cmpFn)
  have c2 := cell_of_cells h.cells (j := 2) rfl
  have HH := Aside0.mk h
  have HIn := Aside0.mk (And.intro hins (And.intro hne hsz))
  have HCp := Aside0.mk (And.intro hcap hmaxl)
  have HN := Aside0.mk hn
  obtain ⟨nn, hnn⟩ : ∃ nn, nowI.length = nn := ⟨_, rfl⟩
  have HNN := Aside0.mk hnn
  rw [hnn] at HSort c2
  clear hs hins hne hsz hcap hmaxl h hRow hn hnn
  obtain ⟨i0, hi, hz0, hz1, hz2⟩ := info_parts infoC53
  obtain ⟨fin, hfin⟩ : ∃ fin, laysL hand (ins ++ [nowI.map Prod.snd]) = fin := ⟨_, rfl⟩
  have HFin := Aside0.mk hfin
  rw [hfin]
  clear hfin
  go_enter Try.func48, Try.ntmps48
  go_wp2_with (first | (go_at_call 50; refine HSort.out.mono ?_; rintro e w1 ⟨rfl, nowJ, hl1, hm1, hst1, hR1, hN1⟩) | fail)
  obtain ⟨hS1, hG1⟩ := SRx.sorted HH.out HCp.out.1 HCp.out.2 hR1 hN1 (by rw [HNN.out]; exact hl1) hm1
  rw [HNN.out] at hS1
  obtain ⟨ra, rc, rfl⟩ := own_slice hS1.rown
  have c2 : w1.cell? ⟨S, 2, none⟩ = some (.slice (some ⟨g, 0, none⟩) nn cap) := cell_of_cells hS1.cells rfl
  have c3 : w1.cell? ⟨S, 3, none⟩ = some (.slice ra us.length rc) := cell_of_cells hS1.cells rfl
  have HOwn := Aside0.mk hS1.rown
  have HA := Aside0.mk (fun tmp g5 cap5 w5 => aside_facts (tmp := tmp) hl1 hS1 hR1 (by have := HCp.out.1; have := HNN.out; omega) g5 cap5 w5)
  have H1 := Aside0.mk (And.intro hG1 (And.intro hst1 hl1))
  have hul := hS1.rown.1
  have HRl := Aside0.mk hS1.runs.len
  clear hl1 hm1 hst1 hR1 hN1 hS1 hG1 HSort HH
  obtain ⟨nu, hnu⟩ : ∃ nu, us.length = nu := ⟨_, rfl⟩
  have HU := Aside0.mk hnu
  rw [hnu] at c3 HOwn HA
  have hnub : nu ≤ 90000 := by
    have e1 := HRl.out
    have e2 := congrArg List.length HIn.out.1
    rw [List.length_map, List.length_map] at e2
    have e3 := flatten_ge HIn.out.2.1
    have e4 := HIn.out.2.2
    omega
  clear hnu hul
  have ca3 : (w1.alloc (.cells #[.slice (some ⟨g, 0, none⟩) nn cap] 22)).cell? ⟨S, 3, none⟩ = some (.slice ra nu rc) := Lib.cell?_alloc_some _ c3
  go_cut [] from 12 to 27 (fun wc => ∃ (X' D' : Nat → Prop) (g5 cap5 : Nat), Aside0 (SRx wc S by_ hand [] (runsI ++ [nowJ]) k done X' D' so (.slice none 0 0) (.slice (some ⟨g5, 0, none⟩) (nu + 1) cap5) (us ++ [.slice (some ⟨g, 0, none⟩) nn cap])) ∧ Aside0 (Gr X X' w1.heap.size w1 wc))
  case first =>
    go_region_law (first | (go_loud (refine step_append_lies _ rfl _ _ 64 rfl 0 22 i0 (.slice none 0 0) 1 24 Try.underlying64 hi hz0 hz1 hz2 rfl (by decide) (.slice ra nu rc) nu us rfl ((show w1.drew.ownsRow 0 22 1 (.slice ra nu rc) nu us from HOwn.out).alloc _) ⟨_, 0, none⟩ 1 1 [.slice (some ⟨g, 0, none⟩) nn cap] rfl rfl (cell_one_new _ _ _) (by simp [Value.oneCell']) (by decide) (by unfold maxLen; omega) (by omega) (Nat.zero_le _) _ rfl ?_); intro g5 cap5 w5 hown5 hgrow5 hat5 hlt5; obtain ⟨s3, f3, s2, f2, X5, D5, hfin, hgr⟩ := HA.out _ g5 cap5 w5 hown5 hgrow5 hat5) | fail)
    all_goals (go_wp2; go_meet; exact ⟨X5, D5, g5, cap5, ⟨hfin⟩, ⟨hgr⟩⟩)
  case rest =>
    obtain ⟨X5, D5, g5, cap5, HS5, HG5⟩ := hcut
    have HQ : Aside0 (∃ (rI : List (List It2)) (uq : List Value), SRx wc S by_ hand [] rI k done X5 D5 so (.slice none 0 0) (.slice (some ⟨g5, 0, none⟩) uq.length cap5) uq ∧ Gr X X5 W.heap.size W wc ∧ rI.map (List.map Prod.snd) = (ins ++ [nowI.map Prod.snd]).map (stab fun a b => cmpR a b by_)) := ⟨by
      refine ⟨runsI ++ [nowJ], us ++ [.slice (some ⟨g, 0, none⟩) nn cap], by have := HS5.out; rw [List.length_append, List.length_singleton, HU.out]; exact this, H1.out.1.trans HG5.out H1.out.1.size, ?_⟩
      rw [List.map_append, List.map_append, HIn.out.1, List.map_singleton, List.map_singleton, H1.out.2.1]⟩
    clear HS5 HG5 HA HOwn HU H1 HCp c2 c3 ca3 HRl
    have HIn2 := Aside0.mk (show (∀ r ∈ ins ++ [nowI.map Prod.snd], r ≠ []) ∧ (ins ++ [nowI.map Prod.snd]).flatten.length ≤ 90000 from by
      refine ⟨fun r hr => ?_, ?_⟩
      · rcases List.mem_append.1 hr with h | h
        · exact HIn.out.2.1 r h
        · rw [List.mem_singleton.1 h]
          intro h0
          exact HN.out (List.map_eq_nil_iff.1 h0)
      · have := HIn.out.2.2
        simpa using this)
    obtain ⟨f0, hf0⟩ : ∃ f0, (ins ++ [nowI.map Prod.snd]).length = f0 := ⟨_, rfl⟩
    have HF0 := Aside0.mk hf0
    clear hf0
    go_wp2
    go_loopg [3] f0 (fun kq v3 wr => ∃ (insq : List (List (List V3))) (rI : List (List It2)) (Xq Dq : Nat → Prop) (gq cq nz : Nat) (uq : List Value), Aside0 (uq.length = nz ∧ SRx wr S by_ hand [] rI k done Xq Dq so (.slice none 0 0) (.slice (some ⟨gq, 0, none⟩) nz cq) uq) ∧ Aside0 (Gr X Xq W.heap.size W wr) ∧
      Aside0 (rI.map (List.map Prod.snd) = insq.map (stab fun a b => cmpR a b by_) ∧ (∀ r ∈ insq, r ≠ []) ∧ insq.flatten.length ≤ 90000 ∧ insq.length ≤ kq ∧ laysR hand kq insq = fin))
    case atStart =>
      obtain ⟨rI, uq, q1, q2, q3⟩ := HQ.out
      exact ⟨_, rI, X5, D5, g5, cap5, uq.length, uq, ⟨rfl, q1⟩, ⟨q2⟩, ⟨q3, HIn2.out.1, HIn2.out.2, Nat.le_of_eq HF0.out, by rw [← HFin.out, ← HF0.out]; rfl⟩⟩
    case round =>
      obtain ⟨insq, rI, Xq, Dq, gq, cq, nz, uq, HS, HG, HI⟩ := hrel
      clear HIn HIn2 HF0 HQ HN
      have hc3 : wr.cell? ⟨S, 3, none⟩ = some (.slice (some ⟨gq, 0, none⟩) nz cq) := cell_of_cells HS.out.2.cells rfl
      have hc1 : wr.cell? ⟨S, 1, none⟩ = some (.int .i64 hand) := cell_of_cells HS.out.2.cells rfl
      by_cases hlt : nz < hand
      · have d1 : decide (hand ≤ nz) = false := by simp <;> omega
        have d2 : decide ((hand : Int) ≤ (nz : Int)) = false := by simp <;> omega
        go_wp2
        go_quiet (fail)
        go_wp2
        go_end0
        have hlen := HS.out.2.runs.len
        have hl2 := congrArg List.length HI.out.1
        rw [List.length_map, List.length_map] at hl2
        have h5 := HI.out.2.2.2.2
        rw [laysR_lt (by have := HS.out.1; omega)] at h5
        refine ⟨rfl, Xq, Dq, _, uq, rI, HG.out.trans (below_gr HG.out.lt (below_drewN (Below.refl _ _) _)) HG.out.size, HS.out.2.below (below_drewN (Below.refl _ _) _), ?_⟩
        rw [HI.out.1, h5]
      · have hl2 : nz - hand < nz := by omega
        have hle : hand ≤ nz := by omega
        obtain ⟨lo, hlo⟩ : ∃ lo, nz - hand = lo := ⟨_, rfl⟩
        have hw : IntKind.i64.wrap ((nz : Int) - (hand : Int)) = (lo : Int) := by
          have hb : nz ≤ 90000 := by
            have h1 := HS.out.2.runs.len
            have h2 := congrArg List.length HI.out.1
            rw [List.length_map, List.length_map] at h2
            have h3 := flatten_ge HI.out.2.1
            have h4 := HI.out.2.2.1
            have h5 := HS.out.1
            omega
          rw [IntKind.wrap_i64]
          omega
        have d1 : decide (hand ≤ nz) = true := by simp <;> omega
        have d2 : decide ((hand : Int) ≤ (nz : Int)) = true := by simp <;> omega
        have hlonz : lo < nz := by omega
        have hi1 : (0 : Int) ≤ (lo : Int) := by omega
        have hi2 : (lo : Int) ≤ (nz : Int) := by omega
        have HLo := Aside0.mk (And.intro hlo hle)
        clear hlo hl2 hlt hle
        go_wp2
        go_quiet (fail)
        go_wp2
        have HSz := HS.out.2.rown
        obtain ⟨hcq, hcql⟩ : nz ≤ cq ∧ cq ≠ lo := by
          rcases HSz.2 with ⟨h0, _⟩ | ⟨g', cap', cur', h0, _, _, h3, _⟩
          · cases h0
          · injection h0 with _ _ h0
            subst h0
            have := HS.out.1
            constructor <;> omega
        clear HSz
        have hbq := below_drewN (Below.refl wr.heap.size wr) nq
        replace hc3 := (cell_of_block (hbq.block S HS.out.2.slt) 3).trans hc3
        replace hc1 := (cell_of_block (hbq.block S HS.out.2.slt) 1).trans hc1
        replace HS := Aside0.mk (And.intro HS.out.1 (HS.out.2.below hbq))
        replace HG := Aside0.mk (HG.out.trans (below_gr HG.out.lt hbq) HG.out.size)
        clear hbq
        generalize wr.drewN nq = wq at hc3 hc1 HS HG ⊢
        go_cut [2] from 38 to 84 (fun v2 wc => ∃ (Bl : Nat), v2 = .pointer (some ⟨Bl, 0, none⟩) ∧ Aside0 (wc.cell? ⟨Bl, 0, none⟩ = some (.slice (some ⟨gq, lo, none⟩) (nz - lo) (cq - lo))) ∧ Aside0 (Below wq.heap.size wq wc) ∧ Aside0 (wq.heap.size ≤ Bl))
        case first =>
          go_region_held3 (fun w' => w'.cell? ⟨S, 3, none⟩ = some (.slice (some ⟨gq, 0, none⟩) nz cq) ∧ w'.cell? ⟨S, 1, none⟩ = some (.int .i64 hand) ∧ Aside0 (Below wq.heap.size wq w'))
            (first | exact ⟨hc3, hc1, ⟨(Still.drew wq).below⟩⟩ | exact heldS_al0 hc3 hc1 _ | exact heldS_alloc (by assumption) _ | exact heldS_set hc3 hc1 (by assumption) (Nat.le_refl _) _ | fail)
            (fail)
          go_wp2
          go_meet
          exact ⟨wq.heap.size, rfl, ⟨cell_one_new2 wq _⟩, ⟨(below_drewN ((Below.refl wq.heap.size wq).alloc (Nat.le_refl _) _) 1)⟩, ⟨Nat.le_refl _⟩⟩
        case rest =>
          obtain ⟨Bl, rfl, HBl, HBw, HBlt⟩ := hcut
          have HIl := Aside0.mk (show uq.length = nz ∧ rI.length = nz ∧ insq.length = nz from by
            have h1 := HS.out.2.runs.len
            have h2 := congrArg List.length HI.out.1
            rw [List.length_map, List.length_map] at h2
            have h3 := HS.out.1
            omega)
          have hlb : ∃ spare', LB wq gq 22 uq spare' := by
            have h1 := HS.out.2.rown
            obtain ⟨g', cap', sp', e1, _, _, e2, _⟩ := lb_of_row h1 (by have := HIl.out.1; omega)
            injection e1 with e1 _ _
            injection e1 with e1
            injection e1 with e1 _ _
            subst e1
            exact ⟨sp', e2⟩
          obtain ⟨spare', hlb⟩ := hlb
          have hgqw : gq < wq.heap.size := hlb.lt
          have HLB := Aside0.mk hlb
          have HLens := Aside0.mk (all2_drop lo (lens_of HS.out.2.runs HI.out.1))
          have hBlw : Bl < wc.heap.size := cell_lt HBl.out
          have hcB := HBl.out
          have HCo := Aside0.mk (contains72 gq lo (cq - lo) Bl (uq.drop lo) ((insq.map List.length).drop lo) (((insq.drop lo).head?.getD []).length) (nz - lo) wc (by have := HI.out.2.2.1; have := flatten_ge HI.out.2.1; have := HIl.out; omega) (by rw [List.length_drop]; have := HIl.out; omega) HLens.out
            (fun j u hu => by
              rw [List.getElem?_drop] at hu
              exact (cell_of_block (HBw.out.block gq hgqw) _).trans (HLB.out.cell hu)) hcB (by
              rw [List.head?_drop, List.getElem?_map, List.head?_drop, List.getElem?_eq_getElem (by have := HIl.out; omega)]
              rfl))
          clear hlb
          obtain ⟨t, ht⟩ : ∃ t, ((insq.map List.length).drop lo).any (fun n => !(n == ((insq.drop lo).head?.getD []).length)) = t := ⟨_, rfl⟩
          rw [ht] at HCo
          have HT := Aside0.mk ht
          clear ht
          obtain ⟨f, hf⟩ : ∃ f, gk = f + 1 := ⟨gk - 1, by have := HI.out.2.2.2.1; have := HIl.out; omega⟩
          have HF := Aside0.mk hf
          have HL5 := Aside0.mk (show (if t = true then insq else laysR hand f (insq.take lo ++ [(insq.drop lo).flatten])) = fin from by
            have h5 := HI.out.2.2.2.2
            rw [hf, laysR, if_neg (by have := HIl.out; have := HLo.out; omega)] at h5
            have e1 : insq.length - hand = lo := by have := HIl.out; have := HLo.out; omega
            rw [e1, List.map_drop, HT.out] at h5
            exact h5)
          clear hf HT
          cases t with
          | true =>
            go_wp2_with (first | (go_at_call 72; refine HCo.out.mono ?_; rintro e w6 ⟨rfl, rfl⟩) | fail)
            refine bodyPost_ret (results_none rfl _ _ _) rfl ?_
            refine ⟨rfl, Xq, Dq, _, uq, rI, HG.out.trans (below_gr HG.out.lt HBw.out) HG.out.size, HS.out.2.below HBw.out, ?_⟩
            rw [HI.out.1, show insq = fin from HL5.out]
          | false =>
            have HL6 := Aside0.mk (show laysR hand f (insq.take lo ++ [(insq.drop lo).flatten]) = fin from HL5.out)
            clear HL5
            have hmk := fun (w : World) => merge_ok S (some ⟨gq, lo, none⟩) (nz - lo) (cq - lo) w
            have HMC := Aside0.mk (fun (w7 : World) (b1 : Boxed w7 wc.heap.size 37 (.pointer (some ⟨S, 0, none⟩))) (b2 : Boxed w7 (wc.heap.size + 1) 64 (.slice (some ⟨gq, lo, none⟩) (nz - lo) (cq - lo))) (hb7 : Below wc.heap.size wc w7) => by
              have hbw7 : Below wq.heap.size wq w7 := below_step HBw.out hb7 HBw.out.size
              have hag : Ag (fun j => Dq j ∨ j = S) wq w7 := ⟨hbw7.size, by
                rintro j (hj | rfl)
                · exact hbw7.block j (HS.out.2.xlt j (HS.out.2.dX j hj))
                · exact hbw7.block j HS.out.2.slt⟩
              exact merge_collect wc.heap.size (wc.heap.size + 1) S gq lo (cq - lo) (nz - lo) so by_ (rI.drop lo) (uq.drop lo) (fun j => (Dq j ∨ j = S) ∨ j = gq ∨ j = wc.heap.size ∨ j = wc.heap.size + 1) w7
                (by
                  have h1 := hbw7.size
                  have h2 := b1.lt
                  have h3 := b2.lt
                  rintro j ((hj | rfl) | rfl | rfl | rfl)
                  · exact Nat.lt_of_lt_of_le (HS.out.2.xlt j (HS.out.2.dX j hj)) h1
                  · exact Nat.lt_of_lt_of_le HS.out.2.slt h1
                  · exact Nat.lt_of_lt_of_le HLB.out.lt h1
                  · exact h2
                  · exact h3)
                (.inr (.inr (.inl rfl))) (.inr (.inr (.inr rfl))) b1.cell b2.cell (.inr (.inl rfl))
                (fun j u hu => by
                  rw [List.getElem?_drop] at hu
                  exact (cell_of_block (hbw7.block gq HLB.out.lt) _).trans (HLB.out.cell hu)) (by rw [List.length_drop]; have := HIl.out; omega) (by omega) (by have := HI.out.2.2.1; have := flatten_ge HI.out.2.1; have := HIl.out; omega)
                (by have h := HS.out.2.md.ag hag; exact ⟨h.cell, .inl h.rS, h.ord.mono fun _ => .inl, h.short⟩)
                ((all2_drop lo HS.out.2.runs).imp fun _ _ hr => ((hr.mono (Q := fun j => Dq j ∨ j = S) fun _ => .inl).ag hag).mono fun _ => .inl)
                (insq.drop lo) (by rw [List.map_drop, List.map_drop, HI.out.1])
                (by
                  have h1 := HI.out.2.2.1
                  have h2 : insq.flatten.length = (insq.take lo).flatten.length + (insq.drop lo).flatten.length := by rw [← List.length_append, ← List.flatten_append, List.take_append_drop]
                  omega))
            go_wp2_with (first | (go_at_call 72; refine HCo.out.mono ?_; rintro e w6 ⟨rfl, rfl⟩) | (go_at_call 52; refine (hmk _).mono ?_; rintro e w7 ⟨rfl, b1, b2, hb7⟩; have HMC2 := HMC.out w7 b1 b2 hb7; clear b1 b2) | (go_at_call 19; refine HMC2.mono ?_; rintro e w8 ⟨hb8, sv, whole, rfl, hrun8, hst8⟩) | fail)
            have hb68 : Below wq.heap.size wq w8 := below_step (below_step HBw.out hb7 HBw.out.size) hb8 (by have := HBw.out.size; have := hb7.size; omega)
            have hd3 : w8.cell? ⟨S, 3, none⟩ = some (.slice (some ⟨gq, 0, none⟩) nz cq) := (cell_of_block (hb68.block S HS.out.2.slt) 3).trans hc3
            have hd1 : w8.cell? ⟨S, 1, none⟩ = some (.int .i64 hand) := (cell_of_block (hb68.block S HS.out.2.slt) 1).trans hc1
            obtain ⟨sa, sc, hsv⟩ := hrun8.shape
            obtain ⟨wl, hwl⟩ : ∃ wl, whole.length = wl := ⟨_, rfl⟩
            rw [hwl] at hsv
            subst hsv
            have hda3 : (w8.alloc (.cells #[.slice sa wl sc] 22)).cell? ⟨S, 3, none⟩ = some (.slice (some ⟨gq, 0, none⟩) nz cq) := Lib.cell?_alloc_some _ hd3
            have hda1 : (w8.alloc (.cells #[.slice sa wl sc] 22)).cell? ⟨S, 1, none⟩ = some (.int .i64 hand) := Lib.cell?_alloc_some _ hd1
            have hone : ∀ u ∈ uq.take lo, u.oneCell' = true := fun u hu => by
              obtain ⟨j, hj, rfl⟩ := List.getElem_of_mem (List.mem_of_mem_take hu)
              have hl := HS.out.2.runs.len
              obtain ⟨a, c, e⟩ := (HS.out.2.runs.get j _ _ (List.getElem?_eq_getElem hj) (List.getElem?_eq_getElem (by omega))).shape
              rw [e]; rfl
            have hlob : lo ≤ 90000 := by
              have h1 := HI.out.2.2.1
              have h2 := flatten_ge HI.out.2.1
              have h3 := HIl.out
              omega
            have HCl := Aside0.mk (fun (w : World) (hb : Below w8.heap.size w8 w) => cl53_take gq lo cq (uq.take lo) w (by rw [List.length_take]; have := HIl.out; omega) hone (by omega) (fun j u hu => by
              have hj := (List.getElem?_eq_some_iff.1 hu).1
              rw [List.length_take] at hj
              rw [List.getElem?_take_of_lt (by omega)] at hu
              exact (cell_of_block ((below_step hb68 hb hb68.size).block gq HLB.out.lt) _).trans (HLB.out.cell hu)))
            have HFin6 : Aside0 (∀ (g10 cap10 : Nat) (w10 : World), Below w8.heap.size w8 w10 → w10.ownsRow w8.heap.size 22 1 (.slice (some ⟨g10, 0, none⟩) (lo + 1) cap10) (lo + 1) (uq.take lo ++ [.slice sa wl sc]) →
                w10.cell? ⟨S, 3, none⟩ = some (.slice (some ⟨gq, 0, none⟩) nz cq) ∧ w10.frozen? ⟨S, 3, none⟩ = false ∧ ∃ (insz : List (List (List V3))) (rI2 : List (List It2)) (Xz Dz : Nat → Prop) (uz : List Value),
                  Aside0 (uz.length = lo + 1 ∧ SRx (w10.setCell ⟨S, 3, none⟩ (.slice (some ⟨g10, 0, none⟩) (lo + 1) cap10)) S by_ hand [] rI2 k done Xz Dz so (.slice none 0 0) (.slice (some ⟨g10, 0, none⟩) (lo + 1) cap10) uz) ∧
                  Aside0 (Gr X Xz W.heap.size W (w10.setCell ⟨S, 3, none⟩ (.slice (some ⟨g10, 0, none⟩) (lo + 1) cap10))) ∧
                  Aside0 (rI2.map (List.map Prod.snd) = insz.map (stab fun a b => cmpR a b by_) ∧ (∀ r ∈ insz, r ≠ []) ∧ insz.flatten.length ≤ 90000 ∧ insz.length ≤ f ∧ laysR hand f insz = fin)) := ⟨by
              intro g10 cap10 w10 hb10 hown10
              have hbq : Below wq.heap.size wq w10 := below_step hb68 hb10 hb68.size
              have hSc := (hbq.block S HS.out.2.slt).trans HS.out.2.cells
              have hlu : (uq.take lo ++ [Value.slice sa wl sc]).length = lo + 1 := by
                rw [List.length_append, List.length_take, List.length_singleton]
                have := HIl.out
                omega
              have hag : Ag Dq wq w10 := ⟨hbq.size, fun j hj => hbq.block j (HS.out.2.xlt j (HS.out.2.dX j hj))⟩
              have hag8 : Ag (fun j => w7.heap.size ≤ j ∧ j < w8.heap.size) w8 w10 := ⟨hb10.size, fun j hj => hb10.block j hj.2⟩
              have hs7 : wq.heap.size ≤ w7.heap.size := Nat.le_trans HBw.out.size hb7.size
              obtain ⟨q1, q2⟩ := HS.out.2.newruns (M := w8.heap.size) (us' := uq.take lo ++ [Value.slice sa wl sc]) (runsI' := rI.take lo ++ [whole]) hbq hb68.size hb10.size (by rw [hlu]; exact ownsRow_base hown10 (Nat.zero_le _)) (fun j hj => (own_ge hown10 j hj).1)
                (All2.snoc ((hrun8.ag hag8).mono fun j hj => .inr ⟨by omega, hj.2⟩) ((all2_take lo HS.out.2.runs).imp fun _ _ hr => (hr.ag hag).mono fun _ => .inl))
              refine ⟨cell_of_cells hSc rfl, frozen_of_cells hSc 3, insq.take lo ++ [(insq.drop lo).flatten], rI.take lo ++ [whole], _, _, uq.take lo ++ [Value.slice sa wl sc], ⟨hlu, q1⟩, ⟨HG.out.trans q2 HG.out.size⟩, ⟨?_, ?_, ?_, ?_, HL6.out⟩⟩
              · rw [List.map_append, List.map_append, List.map_take, List.map_take, HI.out.1, List.map_singleton, List.map_singleton, hst8]
              · intro r hr
                rcases List.mem_append.1 hr with h | h
                · exact HI.out.2.1 r (List.mem_of_mem_take h)
                · rw [List.mem_singleton.1 h]
                  intro h0
                  have h1 := flatten_ge (l := insq.drop lo) fun r hr => HI.out.2.1 r (List.mem_of_mem_drop hr)
                  rw [h0, List.length_drop] at h1
                  have := HIl.out
                  simp at h1
                  omega
              · rw [List.flatten_append, List.flatten_singleton, List.length_append, ← List.length_append, ← List.flatten_append, List.take_append_drop]
                exact HI.out.2.2.1
              · rw [List.length_append, List.length_take, List.length_singleton]
                have := HIl.out
                have := HLo.out
                have := HI.out.2.2.2.1
                have := HF.out
                omega⟩
            have hM8 : w8.heap.size ≤ (w8.alloc (.cells #[.slice sa wl sc] 22)).heap.size := by rw [World.size_alloc]; omega
            clear hone hb68 hrun8 hst8 HMC2 HMC hb8 hb7 HCo HLens hcB HBl HL6
            have hi3 : (lo : Int) ≤ (cq : Int) := by omega
            have hcn8 : (w8.alloc (.cells #[.slice sa wl sc] 22)).cell? ⟨w8.heap.size, 0, none⟩ = some (.slice sa wl sc) := (Boxed.new w8 22 (.slice sa wl sc)).cell
            have HN8 := Aside0.mk (And.intro hcn8 hM8)
            clear hcn8 hM8 HIl HLo HLB HI HS HG HFin d1 d2 HNN hgqw hBlw HBw HBlt hlonz hcql c2 hc3 hc1 hi2
            go_region_law (first
              | (have _q := hcn9; refine step_append_lies _ rfl _ _ 64 rfl w8.heap.size 22 i0 (.slice none 0 0) 1 24 Try.underlying64 hi hz0 hz1 hz2 rfl (by decide) v4 lo (uq.take lo) rfl hown9 ⟨_, 0, none⟩ 1 1 [.slice sa wl sc] rfl rfl (fun j u hu => by cases j with | zero => (simp at hu; subst hu; exact hcn9) | succ j => simp at hu) (by simp [Value.oneCell']) (by decide) (by unfold maxLen; omega) (by omega) hb89.size _ rfl ?_; intro g10 cap10 w10 hown10 hgrow10 hat10 hlt10; obtain ⟨s3, f3, HRel⟩ := HFin6.out g10 cap10 w10 ((hb89.grown hgrow10 hb89.size (fun j hj => (own_ge hown9 j hj).1))) hown10; clear hown10 hgrow10 hat10 hlt10)
              | (have _q := hown9; refine step_append_lies _ rfl _ _ 64 rfl w8.heap.size 22 i0 (.slice none 0 0) 1 24 Try.underlying64 hi hz0 hz1 hz2 rfl (by decide) v4 lo (uq.take lo) rfl (hown9.alloc _) ⟨_, 0, none⟩ 1 1 [.slice sa wl sc] rfl rfl (cell_one_new _ _ _) (by simp [Value.oneCell']) (by decide) (by unfold maxLen; omega) (by omega) (by rw [World.size_alloc]; have := hb89.size; omega) _ rfl ?_; intro g10 cap10 w10 hown10 hgrow10 hat10 hlt10; obtain ⟨s3, f3, HRel⟩ := HFin6.out g10 cap10 w10 (((hb89.alloc hb89.size _).grown hgrow10 (by rw [World.size_alloc]; have := hb89.size; omega) (fun j hj => (own_ge hown9 j hj).1))) hown10; clear hown10 hgrow10 hat10 hlt10)
              | (go_simp; go_at_call 53; first
                | (refine (HCl.out _ (Still.drew w8).below).mono ?_; rintro e w9 ⟨v4, rfl, hown9, hb9⟩; have hb89 := below_step (Still.drew w8).below hb9 (Nat.le_refl _); replace hown9 := ownsRow_base hown9 (show w8.heap.size ≤ _ from Nat.le_refl _); clear hb9)
                | (refine (HCl.out _ (bd_al w8 _)).mono ?_; rintro e w9 ⟨v4, rfl, hown9, hb9⟩; have hb89 := below_step (bd_al w8 (.cells #[.slice sa wl sc] 22)) hb9 (bd_al w8 (.cells #[.slice sa wl sc] 22)).size; have hcn9 := (cell_of_block (hb9.block w8.heap.size (cell_lt HN8.out.1)) 0).trans HN8.out.1; replace hown9 := ownsRow_base hown9 HN8.out.2; clear hb9)
                 go_simp)
              | fail)
            all_goals
              obtain ⟨insz, rI2, Xz, Dz, uz, r1, r2, r3⟩ := HRel
              clear hb89 hown9
              go_wp2
              go_roundg f
              case measure => rw [HF.out]; exact Nat.lt_succ_self _
              case rel => exact ⟨insz, rI2, Xz, Dz, g10, cap10, lo + 1, uz, r1, r2, r3⟩
end Go.Proofs.Ytghpjlohoehdnaa.Sep
