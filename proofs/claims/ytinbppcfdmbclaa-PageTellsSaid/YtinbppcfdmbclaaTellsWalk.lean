/- Up to four bytes in a row of a page that are others are told (PageTells): walked. Conditions: what the bytes come to is handed in. -/
import Derived.Test.YtinbppcfdmbclaaPageReadNo
import Derived.Test.YtinbppcfdmbclaaPageSplitsWalk
import Derived.Lib.Hide
import Derived.RegionTactic
import Derived.ChangeAlike
namespace Go.Proofs.Ytinbppcfdmbclaa.Pg
open Go.RowKit Go.Proofs.YtinbppcfdmbclaaW.PrintWords Go.Proofs.YtinbppcfdmbclaaW.PrintLast Go.Proofs.YtinbppcfdmbclaaW.PrintMore
set_option linter.unusedVariables false
set_option linter.unusedSimpArgs false
/-- the block of a text's bytes, while they are written over -/
def Room (wr : World) (g n : Nat) (xs : List Int) : Prop := ∃ cs : Array Value, wr.heap[g]? = some (.cells cs 5 (cs.size, cs.size + 1)) ∧ n ≤ cs.size ∧ xs.length = n ∧ ∀ j, j < n → cs[j]? = some (.int .u8 (xs.getD j 0))
theorem Room.cell {wr : World} {g n : Nat} {xs : List Int} (h : Room wr g n xs) (j : Nat) (hj : j < n) : wr.cell? ⟨g, j, none⟩ = some (.int .u8 (xs.getD j 0)) := by
  obtain ⟨cs, h1, h2, h3, h4⟩ := h
  simp only [World.cell?, h1]
  exact h4 j hj
theorem Room.free {wr : World} {g n : Nat} {xs : List Int} (h : Room wr g n xs) (j : Nat) (hj : j < n) : wr.frozen? ⟨g, j, none⟩ = false := by
  obtain ⟨cs, h1, h2, h3, h4⟩ := h
  simp only [World.frozen?, h1]
  simp; omega
theorem Room.set {wr : World} {g n : Nat} {xs : List Int} (h : Room wr g n xs) (j : Nat) (hj : j < n) (x : Int) : Room (wr.setCell ⟨g, j, none⟩ (.int .u8 x)).drew g n (xs.set j x) := by
  obtain ⟨cs, h1, h2, h3, h4⟩ := h
  have hlt : g < wr.heap.size := by
    rcases Nat.lt_or_ge g wr.heap.size with q | q
    · exact q
    · rw [Array.getElem?_eq_none q] at h1; cases h1
  refine ⟨cs.setIfInBounds j (.int .u8 x), ?_, by simpa using h2, by simpa using h3, fun i hi => ?_⟩
  · show (wr.setCell ⟨g, j, none⟩ (.int .u8 x)).heap[g]? = _
    simp only [World.setCell, Array.getElem?_modify, if_pos, h1, Option.map_some]
    simp
  · by_cases e : i = j
    · subst e
      rw [Array.getElem?_setIfInBounds_self_of_lt (by omega)]
      simp [List.getD_eq_getElem?_getD, List.getElem?_set_self (show i < xs.length by omega)]
    · rw [Array.getElem?_setIfInBounds_ne (fun h => e h.symm), h4 i hi]
      simp [List.getD_eq_getElem?_getD, List.getElem?_set_ne (fun h => e h.symm)]
theorem Room.of_bytes (W : World) (s : ByteArray) : Room (Lib.bytesWorld W 5 s) W.heap.size s.size (bytesOf s) := by
  refine ⟨Lib.bytesCells W 5 s, Lib.bytesWorld_at_new W 5 s, ?_, by simp [bytesOf], fun j hj => ?_⟩
  · unfold Lib.bytesCells
    rw [Array.size_append, Array.size_map]
    exact Nat.le_add_right _ _
  · have hl : j < s.data.size := hj
    unfold Lib.bytesCells
    rw [Array.getElem?_append_left (by rw [Array.size_map]; exact hl)]
    simp [bytesOf, hl]
    exact ⟨_, Array.getElem?_eq_getElem hl, by rw [Array.getElem?_eq_getElem hl]; rfl⟩
/-- the byte by which the byte at a place is turned -/
def turn (a2 : Int) (j : Nat) : Int := Go.bits .and .i64 (a2 / 2 ^ (8 * j)) 255 % 256
/-- the bytes, the first ones of the four turned: but for the sum's -/
def turnedP (xs : List Int) (m : Nat) (a2 : Int) : Nat → List Int
  | 0 => xs
  | j + 1 => if m + j < 4 ∨ 8 ≤ m + j then (turnedP xs m a2 j).set (m + j) (Go.bits .xor .u8 ((turnedP xs m a2 j).getD (m + j) 0) (turn a2 j)) else turnedP xs m a2 j
theorem turnedP_length (xs : List Int) (m : Nat) (a2 : Int) (j : Nat) : (turnedP xs m a2 j).length = xs.length := by
  induction j with
  | zero => rfl
  | succ j ih =>
    unfold turnedP
    split
    · rw [List.length_set]; exact ih
    · exact ih
theorem Room.lt {wr : World} {g n : Nat} {xs : List Int} (h : Room wr g n xs) : g < wr.heap.size := by
  obtain ⟨cs, h1, _⟩ := h
  exact (Array.getElem?_eq_some_iff.1 h1).1
theorem Room.below {wr w1 : World} {g n : Nat} {xs : List Int} (h : Room wr g n xs) (hb : Below wr.heap.size wr w1) : Room w1 g n xs := by
  have hl := h.lt
  obtain ⟨cs, h1, h2, h3, h4⟩ := h
  exact ⟨cs, (hb.block g hl).trans h1, h2, h3, h4⟩
theorem Room.str {wr : World} {g n : Nat} {xs : List Int} (h : Room wr g n xs) (hn : n < 9223372036854775808) (c : Nat) : (convert 30 9 (.slice (some ⟨g, 0, none⟩) n c)).run Try.prog wr = .ok (.string (strOfNums xs)) wr := by
  have hl : xs.length = n := by obtain ⟨_, _, _, h3, _⟩ := h; exact h3
  refine string_of_reads (P := Try.prog) (src := 30) (dst := 9) (e := 5) Try.underlying30 Try.underlying5 Try.underlying9 ⟨hl, by omega, fun _ => ⟨_, rfl, fun i hi' => ?_⟩⟩
  rw [show (⟨g, 0, none⟩ : Addr).add i = ⟨g, i, none⟩ from by simp [Addr.add]; intro h; exact h.symm]
  exact h.cell i hi'
set_option maxRecDepth 100000 in
set_option maxHeartbeats 2000000 in
theorem Tells_ok (w : World) (A : Option Addr) (c : Nat) (l : List S66) (a1 a2 : Int) (hr : Kd.C k66 w A l.length l) (hc : l.length ≤ c)
    (hpure : ∀ (L : List S66) (m : Nat), Cells L → m + 4 ≤ 256 → strOfNums (turnedP (bytesOf (bytesR (encB (by_ 7) L))) m a2 4) = bytesR (encB (by_ 7) L) ∨ ¬ readP (strOfNums (turnedP (bytesOf (bytesR (encB (by_ 7) L))) m a2 4))) :
    Calls Try.prog 3 #[.slice A l.length c, .int .i64 a1, .int .i64 a2] w fun e w' => e = .returned (.bool true) ∧ Below w.heap.size w w' := by
  obtain ⟨b, hfew, hb⟩ := few_f l
  have HF := Aside0.mk (quaysidelaw12_few.calls 90 A c l b w hr hc hfew)
  obtain ⟨sk, hsk, hsk2⟩ := and_mask255s a1
  have HR := Aside0.mk hr
  have HPure := Aside0.mk hpure
  clear hr hfew hpure
  cases b with
  | false =>
    clear hb
    go_enter Try.func3, Try.ntmps3
    go_wp2_with fail
    refine HF.out.mono ?_; rintro e w1 ⟨rfl, ⟨nd, rfl⟩⟩
    go_wp2_with fail
    refine (awake_ok _).mono ?_; rintro e w2 ⟨rfl, hb2⟩
    go_wp2_with fail
    go_ret
    exact ⟨rfl, below_step (pw_below_drewN (Below.refl _ _) nd) hb2⟩
  | true =>
    have hl := hb rfl
    obtain ⟨k0, hk0⟩ : ∃ k0, sk % 249 = k0 := ⟨_, rfl⟩
    have hk0l : k0 ≤ 248 := by omega
    have q0 : (sk : Int) % 249 = (k0 : Int) := by omega
    obtain ⟨m, hm⟩ : ∃ m, (if 1 ≤ k0 then k0 + 4 else 0) = m := ⟨_, rfl⟩
    have hmm : m + 4 ≤ 256 := by rw [← hm]; split <;> omega
    clear hb hk0
    by_cases h1 : 1 ≤ k0
    all_goals
      first
        | (rw [if_pos h1] at hm
           have q4 : (k0 : Int) + 4 = (m : Int) := by omega
           have dk : decide (1 ≤ (k0 : Int)) = true := decide_eq_true (by omega)
           have dk' : decide (1 ≤ k0) = true := decide_eq_true h1)
        | (rw [if_neg h1] at hm
           have q4 : (k0 : Int) = (m : Int) := by omega
           have dk : decide (1 ≤ (m : Int)) = false := decide_eq_false (by omega)
           have dk' : decide (1 ≤ m) = false := decide_eq_false (by omega))
      clear hm h1
      go_enter Try.func3, Try.ntmps3
      go_wp2_with fail
      refine HF.out.mono ?_; rintro e w1 ⟨rfl, ⟨nd, rfl⟩⟩
      go_wp2_with fail
      refine (made_ok _ A c l (Kd.C_drewN HR.out nd) hc hl).mono ?_; rintro e w1 ⟨g, vq, L, rfl, hg, hp1, ho1, hb1⟩
      obtain ⟨Av, cv, hv⟩ := Kd.R_slice ho1
      subst hv
      have H1 := Aside0.mk hp1
      have B1 := Aside0.mk (below_step (pw_below_drewN (Below.refl w.heap.size w) nd) hb1)
      have HG := Aside0.mk (show w.heap.size ≤ g from by simpa using hg)
      clear hp1 ho1 hb1 hg HF HR
      go_wp2_with fail
      obtain ⟨s0, hs0⟩ : ∃ s0, bytesR (encB (by_ 7) L) = s0 := ⟨_, rfl⟩
      have hsz : s0.size = 256 := by rw [← hs0]; exact bytesR_size _ H1.out.pg.len
      have HSz := Aside0.mk hsz
      have HS := Aside0.mk hs0
      have HPL := Aside0.mk (HPure.out L m H1.out.cells hmm)
      rw [hs0] at HPL
      obtain ⟨t0, ht0⟩ : ∃ t0, strOfNums (turnedP (bytesOf s0) m a2 4) = t0 := ⟨_, rfl⟩
      rw [ht0] at HPL
      have HT := Aside0.mk ht0
      clear hs0 ht0
      have hconv := fun W : World => Lib.run_convert_string_bytes (P := Try.prog) W 9 30 5 s0 Try.underlying9 Try.underlying30 Try.underlying5
      rw [hsz] at hconv
      have hB2 := Aside0.mk (below_alloc (Below.refl w1.heap.size w1) (.cells #[.int .i64 7, .slice Av L.length cv] 27))
      have H2 := Aside0.mk (H1.out.below hB2.out)
      have B2 := Aside0.mk (below_step B1.out hB2.out)
      refine (show Calls Try.prog 12 #[.pointer (some ⟨g, 0, none⟩)] _ fun e w' => e = .returned (.string s0) ∧ Below _ _ w' from by have := Bytes_pg H2.out.pg; rwa [HS.out] at this).mono ?_; rintro e w3 ⟨rfl, hb3⟩
      have H3 := Aside0.mk (H2.out.below hb3)
      have B3 := Aside0.mk (below_step B2.out hb3)
      clear hb3 H2 B2 hB2 H1 B1 hsz
      go_wp2_with fail
      simp only [q0, q4]
      obtain ⟨gb, hgb⟩ : ∃ gb, w3.heap.size = gb := ⟨_, rfl⟩
      have hr0 : Room (Lib.bytesWorld w3 5 s0) w3.heap.size 256 (bytesOf s0) := by have := Room.of_bytes w3 s0; rwa [HSz.out] at this
      have hb0 : Below w.heap.size w (Lib.bytesWorld w3 5 s0) := bytes_below B3.out B3.out.size 5 s0
      have hb3' : Below w3.heap.size w3 (Lib.bytesWorld w3 5 s0) := bytes_below (Below.refl _ _) (Nat.le_refl _) 5 s0
      have HR0 := Aside0.mk (And.intro hr0 (And.intro (H3.out.below hb3') hb0))
      have HGb := Aside0.mk (show g ≠ w3.heap.size ∧ w.heap.size ≤ w3.heap.size from ⟨by have := H3.out.pg.lt; omega, B3.out.size⟩)
      rw [hgb] at HR0 HGb ⊢
      generalize hcap : grownCap w3 256 0 5 = cap
      generalize hW : Lib.bytesWorld w3 5 s0 = W3 at *
      clear q0 q4 dk dk' hconv hr0 hb0 hb3' hgb hcap hW H3 B3 hsk
      go_loopw [12] (fun v wr => ∃ (j : Nat), v = .int .i64 (j : Int) ∧ Aside0 (j ≤ 4) ∧ Aside0 (Room wr gb 256 (turnedP (bytesOf s0) m a2 j) ∧ PGL wr g (by_ 7) L ∧ Below w.heap.size w wr)) (fun v _ => 4 - (Lib.intOf v).toNat)
      case atStart => exact ⟨0, rfl, ⟨by omega⟩, HR0⟩
      case round =>
        clear HR0
        obtain ⟨j, rfl, hJ, hI⟩ := hrel
        have hJo := hJ.out
        by_cases hlt : j < 4
        · have d1 : decide ((j : Int) < 4) = true := decide_eq_true (by omega)
          have d2 : decide (j < 4) = true := decide_eq_true hlt
          obtain ⟨p, hp⟩ : ∃ p, m + j = p := ⟨_, rfl⟩
          have qp : (m : Int) + (j : Int) = (p : Int) := by omega
          have HPp := Aside0.mk (show p < 256 ∧ m + j = p from ⟨by omega, hp⟩)
          have HLT := Aside0.mk hlt
          by_cases hskip : p < 4 ∨ 8 ≤ p
          · have HNext := Aside0.mk (show turnedP (bytesOf s0) m a2 (j + 1) = (turnedP (bytesOf s0) m a2 j).set p (Go.bits .xor .u8 ((turnedP (bytesOf s0) m a2 j).getD p 0) (turn a2 j)) from by rw [turnedP, hp, if_pos hskip])
            obtain ⟨x, hx⟩ : ∃ x, x = (turnedP (bytesOf s0) m a2 j).getD p 0 := ⟨_, rfl⟩
            have hcl : wr.cell? ⟨gb, p, none⟩ = some (.int .u8 x) := by rw [hx]; exact hI.out.1.cell p (by omega)
            have hfr : wr.frozen? ⟨gb, p, none⟩ = false := hI.out.1.free p (by omega)
            have HX := Aside0.mk hx
            have h255 : Go.bits .and .i64 (p : Int) 255 = (p : Int) := by
              have e : Go.bits .and .i64 (p : Int) 255 = (p : Int) % 256 := Aid.and_mask (p : Int) 8 (by decide)
              rw [e]; omega
            have h3 : (p < 256) = True := eq_true (by omega)
            have h4 : ((p : Int) < 256) = True := eq_true (by omega)
            clear hx hp
            rcases hskip with hsk4 | hsk8
            all_goals
              first
                | (have dA : decide ((p : Int) < 4) = true := decide_eq_true (by omega)
                   have dA' : decide (p < 4) = true := decide_eq_true hsk4)
                | (have dA : decide ((p : Int) < 4) = false := decide_eq_false (by omega)
                   have dA' : decide (p < 4) = false := decide_eq_false (by omega)
                   have dB : decide (8 ≤ (p : Int)) = true := decide_eq_true (by omega)
                   have dB' : decide (8 ≤ p) = true := decide_eq_true hsk8)
              go_wp2
              go_region
              go_wp2
              have HSt := Aside0.mk (show Room (wr.setCell ⟨gb, p, none⟩ (.int .u8 (Go.bits .xor .u8 x (turn a2 j)))).drew gb 256 (turnedP (bytesOf s0) m a2 (j + 1)) ∧ PGL (wr.setCell ⟨gb, p, none⟩ (.int .u8 (Go.bits .xor .u8 x (turn a2 j)))).drew g (by_ 7) L ∧ Below w.heap.size w (wr.setCell ⟨gb, p, none⟩ (.int .u8 (Go.bits .xor .u8 x (turn a2 j)))).drew from by
                have h := hI.out.1.set p HPp.out.1 (Go.bits .xor .u8 x (turn a2 j))
                rw [HNext.out, ← HX.out]
                exact ⟨h, ⟨⟨(Below.heap_setCell _ ⟨gb, p, none⟩ _ g HGb.out.1).trans hI.out.2.1.pg.blk, hI.out.2.1.pg.len⟩, hI.out.2.1.cells⟩, below_drew1 (below_set hI.out.2.2 HGb.out.2)⟩)
              have q1 : (j : Int) + 1 = ((j + 1 : Nat) : Int) := by omega
              go_roundw
              case rel => exact ⟨j + 1, by rw [q1], ⟨by have := HLT.out; omega⟩, HSt⟩
              case measure => rw [q1]; exact up_lt _ _ _ rfl HLT.out
          · have HNext := Aside0.mk (show turnedP (bytesOf s0) m a2 (j + 1) = turnedP (bytesOf s0) m a2 j from by rw [turnedP, hp, if_neg hskip])
            have dA : decide ((p : Int) < 4) = false := decide_eq_false (by omega)
            have dA' : decide (p < 4) = false := decide_eq_false (by omega)
            have dB : decide (8 ≤ (p : Int)) = false := decide_eq_false (by omega)
            have dB' : decide (8 ≤ p) = false := decide_eq_false (by omega)
            clear hp hskip
            go_wp2
            have q1 : (j : Int) + 1 = ((j + 1 : Nat) : Int) := by omega
            go_roundw
            case rel => exact ⟨j + 1, by rw [q1], ⟨by have := HLT.out; omega⟩, ⟨by rw [HNext.out]; exact hI.out⟩⟩
            case measure => rw [q1]; exact up_lt _ _ _ rfl HLT.out
        · obtain rfl : j = 4 := by omega
          have hstr := hI.out.1.str (by omega) cap
          rw [HT.out] at hstr
          have HI4 := Aside0.mk (show Room wr gb 256 (turnedP (bytesOf s0) m a2 4) from hI.out.1)
          have HP4 := Aside0.mk hI.out.2.1
          have HB4 := Aside0.mk hI.out.2.2
          clear hI hJo hJ hlt
          rcases HPL.out with heq | hno
          · have HEq := Aside0.mk heq
            have f0 : (t0.toList == s0.toList) = true := beq_iff_eq.2 (by rw [heq])
            have f1 : decide (t0 = s0) = true := decide_eq_true heq
            clear heq
            go_wp2_with fail
            refine (Read_yes (by_ 7) L (by decide) HP4.out.cells t0 (HEq.out.trans HS.out.symm)).mono ?_; rintro e w10 ⟨g3, rfl, hg3, hp10, hb10⟩
            have HR10 := Aside0.mk (HI4.out.below hb10)
            have HP10 := Aside0.mk (HP4.out.below hb10)
            have HB10 := Aside0.mk (below_step HB4.out hb10)
            clear hg3 hp10 hb10 HI4 HP4 HB4 hstr
            have HStr := Aside0.mk (fun (W : World) (hb : Below w10.heap.size w10 W) => show (convert 30 9 (.slice (some ⟨gb, 0, none⟩) 256 cap)).run Try.prog W = .ok (.string t0) W from by have := (HR10.out.below hb).str (by omega) cap; rwa [HT.out] at this)
            have HBy := Aside0.mk (fun (W : World) (hb : Below w10.heap.size w10 W) => show Calls Try.prog 12 #[.pointer (some ⟨g, 0, none⟩)] W fun e w' => e = .returned (.string s0) ∧ Below W.heap.size W w' from by have := Bytes_pg (HP10.out.below hb).pg; rwa [HS.out] at this)
            go_wp2_with fail
            go_region_held3 (fun w' => (convert 30 9 (.slice (some ⟨gb, 0, none⟩) 256 cap)).run Try.prog w' = .ok (.string t0) w' ∧ Aside0 True) (first | exact ⟨HStr.out _ (below_drew1 (Below.refl _ _)), ⟨trivial⟩⟩ | exact ⟨HStr.out _ (by assumption), ⟨trivial⟩⟩ | fail) (first | (go_simp; go_at_call 12; refine (HBy.out _ (below_drew1 (Below.refl _ _))).mono ?_; rintro e w11 ⟨rfl, hb11⟩; have hbb11 := below_step (below_drew1 (Below.refl w10.heap.size w10)) hb11; go_simp) | fail)
            all_goals
              have HB11 := Aside0.mk (below_step HB10.out (by assumption : Below w10.heap.size w10 _))
              go_wp2_with fail
              refine (awake_ok _).mono ?_; rintro e wZ ⟨rfl, hbZ⟩
              go_wp2_with fail
              go_ret
              exact ⟨rfl, below_step HB11.out hbZ⟩
          · have HNo := Aside0.mk hno
            have HNe := Aside0.mk (show t0 ≠ s0 from fun e => hno ⟨by_ 7, L, by decide, HP4.out.cells, e.trans HS.out.symm⟩)
            have f0 : (t0.toList == s0.toList) = false := beq_eq_false_iff_ne.2 (fun e => HNe.out (ba_ext (by rw [← ba_list, ← ba_list]; exact e)))
            have f1 : decide (t0 = s0) = false := decide_eq_false HNe.out
            clear hno
            go_wp2_with fail
            refine (Read_no t0 HNo.out).mono ?_; rintro e w10 ⟨rfl, hb10⟩
            have HR10 := Aside0.mk (HI4.out.below hb10)
            have HP10 := Aside0.mk (HP4.out.below hb10)
            have HB10 := Aside0.mk (below_step HB4.out hb10)
            clear hb10 HI4 HP4 HB4 hstr
            have HStr := Aside0.mk (fun (W : World) (hb : Below w10.heap.size w10 W) => show (convert 30 9 (.slice (some ⟨gb, 0, none⟩) 256 cap)).run Try.prog W = .ok (.string t0) W from by have := (HR10.out.below hb).str (by omega) cap; rwa [HT.out] at this)
            have HBy := Aside0.mk (fun (W : World) (hb : Below w10.heap.size w10 W) => show Calls Try.prog 12 #[.pointer (some ⟨g, 0, none⟩)] W fun e w' => e = .returned (.string s0) ∧ Below W.heap.size W w' from by have := Bytes_pg (HP10.out.below hb).pg; rwa [HS.out] at this)
            go_wp2_with fail
            go_region_held3 (fun w' => (convert 30 9 (.slice (some ⟨gb, 0, none⟩) 256 cap)).run Try.prog w' = .ok (.string t0) w' ∧ Aside0 True) (first | exact ⟨HStr.out _ (below_drew1 (Below.refl _ _)), ⟨trivial⟩⟩ | exact ⟨HStr.out _ (by assumption), ⟨trivial⟩⟩ | fail) (first | (go_simp; go_at_call 12; refine (HBy.out _ (below_drew1 (Below.refl _ _))).mono ?_; rintro e w11 ⟨rfl, hb11⟩; have hbb11 := below_step (below_drew1 (Below.refl w10.heap.size w10)) hb11; go_simp) | fail)
            all_goals
              have HB11 := Aside0.mk (below_step HB10.out (by assumption : Below w10.heap.size w10 _))
              go_wp2_with fail
              refine (awake_ok _).mono ?_; rintro e wZ ⟨rfl, hbZ⟩
              go_wp2_with fail
              go_ret
              exact ⟨rfl, below_step HB11.out hbZ⟩
end Go.Proofs.Ytinbppcfdmbclaa.Pg
