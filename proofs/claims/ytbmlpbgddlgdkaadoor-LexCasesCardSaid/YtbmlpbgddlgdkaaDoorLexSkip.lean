/- Blanks and remarks, walked. No condition beyond those that each theorem names. -/
import Derived.Test.YtbmlpbgddlgdkaaDoorProg
import Derived.Below
import Derived.Deep.Draws
import Derived.Deep.AppendLies
import Derived.Maps.AppendAt
import Derived.OwnWalk
import Derived.Laws.BytesArg
import Derived.Laws.MakeOwn
import Derived.Laws.OwnMore
import Derived.Deep.OwnRows
import Derived.Tactics
import Derived.Lib.ConvBytes
import Derived.Laws.Slices
import Derived.WalkKit
import Derived.KernelRfl
import Derived.RowKit3
import Derived.Deep.LoopGhost
import Derived.Deep.QuietTactic
import Derived.BigQuiet
import Derived.WideLaws
import Derived.Deep.DeepCutAuto
import Derived.Deep.CutBlock
import Derived.Deep.RegionHeld3
import Derived.Laws.Rows
import Derived.Lib.AppendStr
import Derived.ArgAppend
import Derived.Laws.IdiomCopy
import Derived.OrdersHeld
import Derived.Laws.BitsLemmas
import Derived.RowKit
import Derived.Test.YtbmlpbgddlgdkaaDoorShelf
import Derived.Deep.RegionHeld3
import Derived.Outline
import Derived.Lib.Hide
import Derived.Lib.Walk
import Derived.Lib.SliceRun
import Derived.Lib.OwnBridge
import Derived.WalkSpells
import Derived.Deep.DrawnRows
import Derived.Test.YtbmlpbgddlgdkaaDoorWWords
import Derived.Test.YtbmlpbgddlgdkaaDoorWLast
import Derived.Test.YtbmlpbgddlgdkaaDoorWTab
import Derived.Test.YtbmlpbgddlgdkaaDoorWFour
import Derived.Test.YtbmlpbgddlgdkaaDoorWQPut
import Derived.Test.YtbmlpbgddlgdkaaDoorWApart
import Derived.Test.YtbmlpbgddlgdkaaDoorWArr
import Derived.Test.YtbmlpbgddlgdkaaDoorWZeros
import Derived.Test.YtbmlpbgddlgdkaaDoorWFoot
import Derived.Test.YtbmlpbgddlgdkaaDoorWKept
import Derived.Test.YtbmlpbgddlgdkaaDoorWShare
import Derived.Test.YtbmlpbgddlgdkaaDoorWN
import Derived.Test.YtbmlpbgddlgdkaaDoorWFootNe
import Derived.Test.YtbmlpbgddlgdkaaDoorWAt
import Derived.Test.YtbmlpbgddlgdkaaDoorWEqStruct
import Derived.Test.YtbmlpbgddlgdkaaDoorWRepsOne
import Derived.Test.YtbmlpbgddlgdkaaDoorWInv
import Derived.Test.YtbmlpbgddlgdkaaDoorWInvWords
import Derived.Test.YtbmlpbgddlgdkaaDoorWGuard
import Derived.Test.YtbmlpbgddlgdkaaDoorWNEv
import Derived.Test.YtbmlpbgddlgdkaaDoorWMore
import Derived.Lib.DecodeN
import Derived.Lib.RuneCount
import Derived.Lib.OthersKept
import Derived.OneCell
import Derived.Test.YtbmlpbgddlgdkaaDoorLexFns
import Derived.Test.YtbmlpbgddlgdkaaDoorLexQuo
import Derived.Test.YtbmlpbgddlgdkaaDoorShelf
namespace Go.Proofs.YtbmlpbgddlgdkaaDoor.Lx
open Go.RowKit Go.Proofs.YtbmlpbgddlgdkaaDoorW.PrintWords Go.Proofs.YtbmlpbgddlgdkaaDoorW.PrintLast Go.Proofs.YtbmlpbgddlgdkaaDoorW.PrintMore
set_option linter.unusedVariables false
set_option linter.unusedSimpArgs false
theorem ext_list (s : ByteArray) (i : Nat) : (s.extract i s.size).data.toList = s.data.toList.drop i := by
  have hl : s.data.toList.length = s.size := by rw [Array.length_toList]; rfl
  rw [ByteArray.data_extract, Array.toList_extract, List.extract_eq_take_drop, List.take_of_length_le (by rw [List.length_drop]; omega)]
theorem ext_size (s : ByteArray) (i : Nat) : (s.extract i s.size).size = s.size - i := by rw [ByteArray.size_extract]; omega
theorem BelG.refl (g : Nat) (w : World) : BelG g w w := ⟨rfl, rfl, rfl, Nat.le_refl _, fun _ _ _ => rfl⟩
theorem BelG.trans {g : Nat} {a b c : World} (h : BelG g a b) (k : BelG g b c) : BelG g a c :=
  ⟨k.os.trans h.os, k.tape.trans h.tape, k.output.trans h.output, Nat.le_trans h.size k.size, fun i hi hg => (k.block i (Nat.lt_of_lt_of_le hi h.size) hg).trans (h.block i hi hg)⟩
set_option maxRecDepth 100000 in
set_option maxHeartbeats 1000000 in
theorem rest_ok (s : ByteArray) (at' : Nat) (g : Nat) (w : World) (hg : w.heap[g]? = some (.cells #[.string s, .int .i64 (at' : Int)] 37 (0, 0))) (ha : at' ≤ s.size) (hs : s.size ≤ 100000) :
    Calls Tryd.prog 14 #[.pointer (some ⟨g, 0, none⟩)] w fun e w' => e = .returned (.string (s.extract at' s.size)) ∧ Below w.heap.size w w' := by
  have hu37 := Tryd.underlying37
  have hc0 : w.cell? ⟨g, 0, none⟩ = some (.string s) := (blk_cell hg 0).trans rfl
  have hc1 : w.cell? ⟨g, 1, none⟩ = some (.int .i64 (at' : Int)) := (blk_cell hg 1).trans rfl
  have h3 : (at' ≤ s.size) = True := eq_true ha
  have h4 : ((at' : Int) ≤ (s.size : Int)) = True := eq_true (by omega)
  go_enter Tryd.func14, Tryd.ntmps14
  go_wp2_with fail
  go_region
  all_goals go_wp2_with fail
  all_goals go_ret
  all_goals exact ⟨rfl, below_drew1 (Below.refl _ _)⟩
theorem skCells {wr W : World} {g : Nat} {s : ByteArray} {x : Int} (h : wr.heap[g]? = some (.cells #[.string s, .int .i64 x] 37 (0, 0))) (hb : Below wr.heap.size wr W) : W.cell? ⟨g, 1, none⟩ = some (.int .i64 x) ∧ W.frozen? ⟨g, 1, none⟩ = false := by
  have e := (hb.block g (Array.getElem?_eq_some_iff.1 h).1).trans h
  exact ⟨(blk_cell e 1).trans rfl, blk_frozen e 1⟩
theorem index_room : ∀ (s sub : List UInt8), 0 ≤ Lib.index s sub → (Lib.index s sub).toNat + sub.length ≤ s.length
  | [], sub, h => by
    unfold Lib.index at h ⊢
    cases sub with
    | nil => simp
    | cons x t => simp at h
  | b :: l, sub, h => by
    unfold Lib.index at h ⊢
    by_cases h1 : sub.isPrefixOf (b :: l) = true
    · rw [if_pos h1]
      have := (List.isPrefixOf_iff_prefix.1 h1).length_le
      simpa using this
    · rw [if_neg h1] at h ⊢
      by_cases h2 : (Lib.index l sub == -1) = true
      · rw [if_pos h2] at h; omega
      · rw [if_neg h2] at h ⊢
        have h3 := Lib.index_ge l sub
        have h4 : Lib.index l sub ≠ -1 := fun e => h2 (by rw [e]; rfl)
        have ih := index_room l sub (by omega)
        simp only [List.length_cons]
        omega
/-- how many bytes are blanks and remarks; false: a remark does not end -/
def skipL : Nat → List UInt8 → Bool × Nat
  | 0, _ => (true, 0)
  | f + 1, r =>
    if Lib.hasPrefix (r.drop (r.takeWhile (runB 26)).length) [45, 45] = true then
      ((skipL f ((r.drop (r.takeWhile (runB 26)).length).drop ((r.drop (r.takeWhile (runB 26)).length).takeWhile (runB 28)).length)).1, (r.takeWhile (runB 26)).length + ((r.drop (r.takeWhile (runB 26)).length).takeWhile (runB 28)).length + (skipL f ((r.drop (r.takeWhile (runB 26)).length).drop ((r.drop (r.takeWhile (runB 26)).length).takeWhile (runB 28)).length)).2)
    else if Lib.hasPrefix (r.drop (r.takeWhile (runB 26)).length) [47, 42] = true then
      (if Lib.index ((r.drop (r.takeWhile (runB 26)).length).drop 2) [42, 47] < 0 then (false, (r.takeWhile (runB 26)).length) else
        ((skipL f ((r.drop (r.takeWhile (runB 26)).length).drop ((Lib.index ((r.drop (r.takeWhile (runB 26)).length).drop 2) [42, 47]).toNat + 4))).1, (r.takeWhile (runB 26)).length + ((Lib.index ((r.drop (r.takeWhile (runB 26)).length).drop 2) [42, 47]).toNat + 4) + (skipL f ((r.drop (r.takeWhile (runB 26)).length).drop ((Lib.index ((r.drop (r.takeWhile (runB 26)).length).drop 2) [42, 47]).toNat + 4))).2))
    else (true, (r.takeWhile (runB 26)).length)
set_option maxRecDepth 100000 in
set_option maxHeartbeats 2000000 in
theorem skip_ok (s : ByteArray) (at' f : Nat) (g : Nat) (w : World) (hg : w.heap[g]? = some (.cells #[.string s, .int .i64 (at' : Int)] 37 (0, 0))) (ha : at' ≤ s.size) (hs : s.size ≤ 100000) (hf : s.size - at' < f) (hg0 : g ≠ 0) (m : Int) (hm : w.cell? ⟨0, 0, none⟩ = some (.int .i64 m)) :
    Calls Tryd.prog 13 #[.pointer (some ⟨g, 0, none⟩)] w fun e w' => e = .returned (.bool (skipL f (s.data.toList.drop at')).1) ∧ w'.heap[g]? = some (.cells #[.string s, .int .i64 ((at' + (skipL f (s.data.toList.drop at')).2 : Nat) : Int)] 37 (0, 0)) ∧ BelG g w w' := by
  have hu37 := Tryd.underlying37
  obtain ⟨P, hP⟩ : ∃ P, skipL f (s.data.toList.drop at') = P := ⟨_, rfl⟩
  have HP0 := Aside0.mk (show P = ((skipL f (s.data.toList.drop at')).1, (at' - at') + (skipL f (s.data.toList.drop at')).2) from by rw [hP]; simp)
  have HM := Aside0.mk hm
  have HG0 := Aside0.mk (And.intro hg0 (And.intro hs ha))
  have HG := Aside0.mk hg
  rw [hP]
  have HF := Aside0.mk hf
  clear hP hm hg0 hg hf
  go_enter Tryd.func13, Tryd.ntmps13
  go_wp2_with fail
  go_loopg [] f (fun n wr => ∃ at2 : Nat, Aside0 (wr.heap[g]? = some (.cells #[.string s, .int .i64 (at2 : Int)] 37 (0, 0))) ∧ Aside0 (at' ≤ at2 ∧ at2 ≤ s.size ∧ s.size - at2 < n ∧ P = ((skipL n (s.data.toList.drop at2)).1, (at2 - at') + (skipL n (s.data.toList.drop at2)).2)) ∧ Aside0 (BelG g w wr))
  case atStart => exact ⟨at', HG, ⟨Nat.le_refl _, HG0.out.2.2, HF.out, HP0.out⟩, ⟨BelG.refl _ _⟩⟩
  case round =>
    clear HG HP0 HF
    obtain ⟨at2, HA, HI, HB⟩ := hrel
    obtain ⟨n, rfl⟩ : ∃ n, gk = n + 1 := ⟨gk - 1, by have := HI.out; omega⟩
    have HRest := Aside0.mk (show ∀ W, Below wr.heap.size wr W → Calls Tryd.prog 14 #[.pointer (some ⟨g, 0, none⟩)] W fun e w' => e = .returned (.string (s.extract at2 s.size)) ∧ Below wr.heap.size wr w' from fun W hW =>
      (rest_ok s at2 g W ((hW.block g (Array.getElem?_eq_some_iff.1 HA.out).1).trans HA.out) HI.out.2.1 HG0.out.2.1).mono fun e w' ⟨h1, h2⟩ => ⟨h1, below_step hW h2⟩)
    have HRun := Aside0.mk (show ∀ W, Below wr.heap.size wr W → Calls Tryd.prog 20 #[.string (s.extract at2 s.size), .func (.func 26) #[] #[]] W fun e w' => e = .returned (.int .i64 (((s.data.toList.drop at2).takeWhile (runB 26)).length : Int)) ∧ Below wr.heap.size wr w' from fun W hW => by
      have := run_ok (s.extract at2 s.size) 26 (by simp [runFns]) (by rw [ext_size]; have := HG0.out; omega) W
      rw [ext_list] at this
      exact this.mono fun e w' ⟨h1, h2⟩ => ⟨h1, below_step hW h2⟩)
    have hq := skCells HA.out (Below.refl _ _)
    have hq1 := hq.1
    have hq2 := hq.2
    have hqd := skCells HA.out (below_drew1 (Below.refl _ _))
    have hqd1 := hqd.1
    have hqd2 := hqd.2
    clear hq hqd
    obtain ⟨a, haa⟩ : ∃ a, ((s.data.toList.drop at2).takeWhile (runB 26)).length = a := ⟨_, rfl⟩
    have HAA := Aside0.mk haa
    rw [haa] at HRun
    clear haa
    have hq3 : IntKind.i64.wrap ((at2 : Int) + (a : Int)) = ((at2 + a : Nat) : Int) := by
      have h1 := HI.out
      have h2 := HG0.out
      have h3 := HAA.out
      have h4 := (List.takeWhile_sublist (runB 26) (l := s.data.toList.drop at2)).length_le
      have hls : s.data.toList.length = s.size := by rw [Array.length_toList]; rfl
      rw [List.length_drop] at h4
      rw [show IntKind.i64.wrap ((at2 : Int) + (a : Int)) = wrap64 ((at2 : Int) + (a : Int)) from i64_w _]
      unfold wrap64; omega
    go_wp2_with fail
    go_cut [] from 4 to 13 (fun wc => Aside0 (wc.heap[g]? = some (.cells #[.string s, .int .i64 ((at2 + a : Nat) : Int)] 37 (0, 0))) ∧ Aside0 (BelG g wr wc))
    case first =>
      go_region_law (first
        | (go_simp; go_at_call 14; refine (HRest.out _ (by first | exact Below.refl _ _ | exact below_drew1 (Below.refl _ _) | assumption)).mono ?_; rintro e w8 ⟨rfl, hb8⟩; have hz8 := skCells HA.out hb8; have hz81 := hz8.1; have hz82 := hz8.2; clear hz8; go_simp)
        | (go_simp; go_at_call 20; refine (HRun.out _ (by assumption)).mono ?_; rintro e w9 ⟨rfl, hb9⟩; have hz9 := skCells HA.out hb9; have hz91 := hz9.1; have hz92 := hz9.2; clear hz9; go_simp))

      all_goals
        have hbl := (by assumption : Below wr.heap.size wr w9)
        have HEnd := Aside0.mk (show (w9.setCell ⟨g, 1, none⟩ (.int .i64 ((at2 + a : Nat) : Int))).heap[g]? = some (.cells #[.string s, .int .i64 ((at2 + a : Nat) : Int)] 37 (0, 0)) ∧ BelG g wr (w9.setCell ⟨g, 1, none⟩ (.int .i64 ((at2 + a : Nat) : Int))) from by
          exact ⟨blk_put ((hbl.block g (Array.getElem?_eq_some_iff.1 HA.out).1).trans HA.out) 1 _ rfl, (BelG.of_below hbl).set 1 _⟩)
        go_wp2_with fail
        go_meet
        case rel => exact ⟨⟨HEnd.out.1⟩, ⟨HEnd.out.2⟩⟩
    case rest =>
      obtain ⟨HA1, HB1⟩ := hcut
      have HBw := Aside0.mk (HB.out.trans HB1.out)
      obtain ⟨A1, hA1⟩ : ∃ A1, at2 + a = A1 := ⟨_, rfl⟩
      have hls : s.data.toList.length = s.size := by rw [Array.length_toList]; rfl
      have HI1 := Aside0.mk (show at' ≤ at2 ∧ at2 ≤ A1 ∧ A1 ≤ s.size ∧ s.size - at2 < n + 1 ∧ A1 - at2 = a from by
        have h1 := HI.out
        have h3 := HAA.out
        have h4 := (List.takeWhile_sublist (runB 26) (l := s.data.toList.drop at2)).length_le
        rw [List.length_drop] at h4
        omega)
      -- what the spec says, behind the blanks
      have HSpec := Aside0.mk (show P = ((skipL (n + 1) (s.data.toList.drop at2)).1, (at2 - at') + (skipL (n + 1) (s.data.toList.drop at2)).2) from HI.out.2.2.2)
      have HDr := Aside0.mk (show (s.data.toList.drop at2).drop a = s.data.toList.drop A1 from by rw [List.drop_drop, hA1])
      rw [hA1] at HA1
      have HRest1 := Aside0.mk (show ∀ W, Below wc.heap.size wc W → Calls Tryd.prog 14 #[.pointer (some ⟨g, 0, none⟩)] W fun e w' => e = .returned (.string (s.extract A1 s.size)) ∧ Below wc.heap.size wc w' from fun W hW =>
        (rest_ok s A1 g W ((hW.block g (Array.getElem?_eq_some_iff.1 HA1.out).1).trans HA1.out) HI1.out.2.2.1 HG0.out.2.1).mono fun e w' ⟨h1, h2⟩ => ⟨h1, below_step hW h2⟩)
      clear hA1 HRest HRun HI hq1 hq2 hqd1 hqd2 hq3 HA HB HB1
      obtain ⟨b1, hb1⟩ : ∃ b1, Lib.hasPrefix (s.data.toList.drop A1) [45, 45] = b1 := ⟨_, rfl⟩
      obtain ⟨b2, hb2⟩ : ∃ b2, Lib.hasPrefix (s.data.toList.drop A1) [47, 42] = b2 := ⟨_, rfl⟩
      have HH1 := Aside0.mk (fun W => show Calls Tryd.prog 27 #[.string (s.extract A1 s.size), .string ⟨#[45, 45]⟩] W fun e w' => e = .returned (.bool b1) ∧ w' = W from by
        have := Tryd.strings_HasPrefix (s.extract A1 s.size) ⟨#[45, 45]⟩ W
        rw [ext_list] at this
        rw [← hb1]
        exact this)
      have HH2 := Aside0.mk (fun W => show Calls Tryd.prog 27 #[.string (s.extract A1 s.size), .string ⟨#[47, 42]⟩] W fun e w' => e = .returned (.bool b2) ∧ w' = W from by
        have := Tryd.strings_HasPrefix (s.extract A1 s.size) ⟨#[47, 42]⟩ W
        rw [ext_list] at this
        rw [← hb2]
        exact this)
      have HBB := Aside0.mk (And.intro hb1 hb2)
      clear hb1 hb2 hls
      go_wp2_with fail
      refine (HRest1.out _ (Below.refl _ _)).mono ?_; rintro e w1 ⟨rfl, hw1⟩
      go_wp2_with fail
      refine (HH1.out _).mono ?_; rintro e w2 ⟨rfl, rfl⟩
      cases b1 with
      | true =>
        have HW1 := Aside0.mk hw1
        have HA2 := Aside0.mk (show w2.heap[g]? = some (.cells #[.string s, .int .i64 (A1 : Int)] 37 (0, 0)) from (hw1.block g (Array.getElem?_eq_some_iff.1 HA1.out).1).trans HA1.out)
        have HB2 := Aside0.mk (HBw.out.trans (BelG.of_below (g := g) hw1))
        obtain ⟨c, hcc⟩ : ∃ c, ((s.data.toList.drop A1).takeWhile (runB 28)).length = c := ⟨_, rfl⟩
        have hls : s.data.toList.length = s.size := by rw [Array.length_toList]; rfl
        have HC := Aside0.mk (show 1 ≤ c ∧ A1 + c ≤ s.size ∧ P = ((skipL n (s.data.toList.drop (A1 + c))).1, (A1 + c - at') + (skipL n (s.data.toList.drop (A1 + c))).2) from by
          have h1 := HI1.out
          have h4 := (List.takeWhile_sublist (runB 28) (l := s.data.toList.drop A1)).length_le
          rw [List.length_drop] at h4
          have hc1 : 1 ≤ c := by
            have hp := HBB.out.1
            cases hd : s.data.toList.drop A1 with
            | nil => rw [hd] at hp; simp [Lib.hasPrefix] at hp
            | cons x t =>
              rw [hd] at hp hcc
              simp [Lib.hasPrefix] at hp
              rw [← hcc, ← hp.1]
              show 1 ≤ (List.takeWhile (runB 28) (45 :: t)).length
              rw [List.takeWhile_cons, if_pos (by decide)]
              simp
          refine ⟨hc1, by omega, ?_⟩
          have hS := HSpec.out
          rw [skipL, HAA.out, HDr.out, if_pos HBB.out.1, hcc, List.drop_drop] at hS
          rw [hS]
          simp only [Prod.mk.injEq, true_and]
          omega)
        have HRun := Aside0.mk (show ∀ W, Below w2.heap.size w2 W → Calls Tryd.prog 20 #[.string (s.extract A1 s.size), .func (.func 28) #[] #[]] W fun e w' => e = .returned (.int .i64 (c : Int)) ∧ Below w2.heap.size w2 w' from fun W hW => by
          have := run_ok (s.extract A1 s.size) 28 (by simp [runFns]) (by rw [ext_size]; have := HG0.out; omega) W
          rw [ext_list, hcc] at this
          exact this.mono fun e w' ⟨h1, h2⟩ => ⟨h1, below_step hW h2⟩)
        have HRest2 := Aside0.mk (show ∀ W, Below w2.heap.size w2 W → Calls Tryd.prog 14 #[.pointer (some ⟨g, 0, none⟩)] W fun e w' => e = .returned (.string (s.extract A1 s.size)) ∧ Below w2.heap.size w2 w' from fun W hW =>
          (rest_ok s A1 g W ((hW.block g (Array.getElem?_eq_some_iff.1 HA2.out).1).trans HA2.out) HI1.out.2.2.1 HG0.out.2.1).mono fun e w' ⟨h1, h2⟩ => ⟨h1, below_step hW h2⟩)
        have hq := skCells HA2.out (Below.refl _ _)
        have hq1 := hq.1
        have hq2 := hq.2
        have hqd := skCells HA2.out (below_drew1 (Below.refl _ _))
        have hqd1 := hqd.1
        have hqd2 := hqd.2
        have hq3 : IntKind.i64.wrap ((A1 : Int) + (c : Int)) = ((A1 + c : Nat) : Int) := by
          have h1 := HC.out
          have h2 := HG0.out
          rw [show IntKind.i64.wrap ((A1 : Int) + (c : Int)) = wrap64 ((A1 : Int) + (c : Int)) from i64_w _]
          unfold wrap64; omega
        clear hq hqd hcc hls HRest1 HSpec HH1 HH2 HA1 hw1 HBw
        go_wp2_with fail
        go_region_law (first
          | (go_simp; go_at_call 14; refine (HRest2.out _ (by first | exact Below.refl _ _ | exact below_drew1 (Below.refl _ _) | assumption)).mono ?_; rintro e w8 ⟨rfl, hb8⟩; have hz8 := skCells HA2.out hb8; have hz81 := hz8.1; have hz82 := hz8.2; clear hz8; go_simp)
          | (go_simp; go_at_call 20; refine (HRun.out _ (by assumption)).mono ?_; rintro e w9 ⟨rfl, hb9⟩; have hz9 := skCells HA2.out hb9; have hz91 := hz9.1; have hz92 := hz9.2; clear hz9; go_simp))
        all_goals
          have hbl := (by assumption : Below w2.heap.size w2 w9)
          have HEnd := Aside0.mk (show (w9.setCell ⟨g, 1, none⟩ (.int .i64 ((A1 + c : Nat) : Int))).heap[g]? = some (.cells #[.string s, .int .i64 ((A1 + c : Nat) : Int)] 37 (0, 0)) ∧ BelG g w (w9.setCell ⟨g, 1, none⟩ (.int .i64 ((A1 + c : Nat) : Int))) from by
            exact ⟨blk_put ((hbl.block g (Array.getElem?_eq_some_iff.1 HA2.out).1).trans HA2.out) 1 _ rfl, (HB2.out.trans (BelG.of_below (g := g) hbl)).set 1 _⟩)
          go_wp2_with fail
          go_roundg n
          case rel => exact ⟨A1 + c, ⟨HEnd.out.1⟩, ⟨by have := HI1.out; have := HC.out; refine ⟨by omega, by omega, by omega, HC.out.2.2⟩⟩, ⟨HEnd.out.2⟩⟩
          case measure => omega
      | false =>
        have HA2 := Aside0.mk (show w2.heap[g]? = some (.cells #[.string s, .int .i64 (A1 : Int)] 37 (0, 0)) from (hw1.block g (Array.getElem?_eq_some_iff.1 HA1.out).1).trans HA1.out)
        have HB2 := Aside0.mk (HBw.out.trans (BelG.of_below (g := g) hw1))
        have HRest2 := Aside0.mk (show ∀ W, Below w2.heap.size w2 W → Calls Tryd.prog 14 #[.pointer (some ⟨g, 0, none⟩)] W fun e w' => e = .returned (.string (s.extract A1 s.size)) ∧ Below w2.heap.size w2 w' from fun W hW =>
          (rest_ok s A1 g W ((hW.block g (Array.getElem?_eq_some_iff.1 HA2.out).1).trans HA2.out) HI1.out.2.2.1 HG0.out.2.1).mono fun e w' ⟨h1, h2⟩ => ⟨h1, below_step hW h2⟩)
        clear hw1 HRest1 HA1 HBw HH1
        go_wp2_with fail
        refine (HRest2.out _ (Below.refl _ _)).mono ?_; rintro e w3 ⟨rfl, hw3⟩
        go_wp2_with fail
        refine (HH2.out _).mono ?_; rintro e w4 ⟨rfl, rfl⟩
        cases b2 with
        | false =>
          have HE := Aside0.mk (show P = (true, A1 - at') from by
            have hS := HSpec.out
            rw [skipL, HAA.out, HDr.out, if_neg (by rw [HBB.out.1]; decide), if_neg (by rw [HBB.out.2]; decide)] at hS
            rw [hS]
            have := HI1.out
            simp only [Prod.mk.injEq, true_and]
            omega)
          have HF := Aside0.mk (show w4.heap[g]? = some (.cells #[.string s, .int .i64 ((at' + (A1 - at') : Nat) : Int)] 37 (0, 0)) ∧ BelG g w w4 from ⟨by rw [show at' + (A1 - at') = A1 from by have := HI1.out; omega]; exact (hw3.block g (Array.getElem?_eq_some_iff.1 HA2.out).1).trans HA2.out, HB2.out.trans (BelG.of_below (g := g) hw3)⟩)
          clear hw3 HRest2 HA2 HB2
          go_wp2_with fail
          go_ret
          rw [HE.out]
          exact ⟨rfl, HF.out.1, HF.out.2⟩
        | true =>
          have HA3 := Aside0.mk (show w4.heap[g]? = some (.cells #[.string s, .int .i64 (A1 : Int)] 37 (0, 0)) from (hw3.block g (Array.getElem?_eq_some_iff.1 HA2.out).1).trans HA2.out)
          have HB3 := Aside0.mk (HB2.out.trans (BelG.of_below (g := g) hw3))
          have HRest3 := Aside0.mk (show ∀ W, Below w4.heap.size w4 W → Calls Tryd.prog 14 #[.pointer (some ⟨g, 0, none⟩)] W fun e w' => e = .returned (.string (s.extract A1 s.size)) ∧ Below w4.heap.size w4 w' from fun W hW =>
            (rest_ok s A1 g W ((hW.block g (Array.getElem?_eq_some_iff.1 HA3.out).1).trans HA3.out) HI1.out.2.2.1 HG0.out.2.1).mono fun e w' ⟨h1, h2⟩ => ⟨h1, below_step hW h2⟩)
          obtain ⟨E, hE⟩ : ∃ E, s.extract A1 s.size = E := ⟨_, rfl⟩
          have hEl : E.data.toList = s.data.toList.drop A1 := by rw [← hE, ext_list]
          have hEs : E.size = s.size - A1 := by rw [← hE, ext_size]
          have hE2 : 2 ≤ E.size := by
            have hp := HBB.out.2
            have hls : E.data.toList.length = E.size := by rw [Array.length_toList]; rfl
            rw [← hEl] at hp
            match hd : E.data.toList, hp with
            | [], hp => simp [Lib.hasPrefix] at hp
            | [x], hp => simp [Lib.hasPrefix] at hp
            | x :: y :: t, hp => rw [hd] at hls; simp at hls; omega
          obtain ⟨ix, hix⟩ : ∃ ix, Lib.index ((s.data.toList.drop A1).drop 2) [42, 47] = ix := ⟨_, rfl⟩
          have HIx := Aside0.mk (show ∀ W, Below w4.heap.size w4 W → Calls Tryd.prog 29 #[.string (E.extract 2 (s.size - A1)), .string ⟨#[42, 47]⟩] W fun e w' => e = .returned (.int .i64 ix) ∧ w' = W from fun W hW => by
            have hm2 : W.cell? ⟨0, 0, none⟩ = some (.int .i64 m) := by
              have hlt := World.block_lt_of_cell? w _ HM.out
              have hb := (HB3.out.trans (BelG.of_below (g := g) hW)).block 0 hlt (fun e => HG0.out.1 e.symm)
              have h0 := HM.out
              unfold World.cell? at h0 ⊢
              rw [hb]; exact h0
            have := Tryd.strings_Index (E.extract 2 E.size) ⟨#[42, 47]⟩ m W (by rw [ext_size]; have := HG0.out; omega) hm2
            rw [ext_list, hEl, hEs] at this
            rw [← hix]
            exact this)
          rw [hE] at HRest3
          clear hw3 HRest2 HA2 HB2 HH2
          go_wp2_with fail
          refine (HRest3.out _ (Below.refl _ _)).mono ?_; rintro e w5 ⟨rfl, hw5⟩
          have HA5 := Aside0.mk (show w5.heap[g]? = some (.cells #[.string s, .int .i64 (A1 : Int)] 37 (0, 0)) from (hw5.block g (Array.getElem?_eq_some_iff.1 HA3.out).1).trans HA3.out)
          have HB5 := Aside0.mk (HB3.out.trans (BelG.of_below (g := g) hw5))
          go_wp2_with fail
          refine (HIx.out _ hw5).mono ?_; rintro e w6 ⟨rfl, rfl⟩
          have HN := Aside0.mk (show (ix < 0 → P = (false, A1 - at')) ∧ (0 ≤ ix → A1 + (ix.toNat + 4) ≤ s.size ∧ P = ((skipL n (s.data.toList.drop (A1 + (ix.toNat + 4)))).1, (A1 + (ix.toNat + 4) - at') + (skipL n (s.data.toList.drop (A1 + (ix.toNat + 4)))).2)) from by
            have hS := HSpec.out
            have h1 := HI1.out
            rw [skipL, HAA.out, HDr.out, if_neg (by rw [HBB.out.1]; decide), if_pos (by rw [HBB.out.2]), hix] at hS
            refine ⟨fun h => ?_, fun h => ?_⟩
            · rw [if_pos h] at hS
              rw [hS]
              simp only [Prod.mk.injEq, true_and]
              omega
            · rw [if_neg (by omega), List.drop_drop] at hS
              have hr := index_room ((s.data.toList.drop A1).drop 2) [42, 47] (by rw [hix]; exact h)
              have hls : s.data.toList.length = s.size := by rw [Array.length_toList]; rfl
              rw [hix, List.length_drop, List.length_drop, hls] at hr
              simp only [List.length_cons, List.length_nil] at hr
              refine ⟨by omega, ?_⟩
              rw [hS]
              simp only [Prod.mk.injEq, true_and]
              omega)
          clear hw5 HRest3 HA3 HB3 hix hEl hEs hE2 hE HIx
          by_cases hneg : ix < 0
          · have d1 : decide (ix < 0) = true := decide_eq_true hneg
            have HE := Aside0.mk (HN.out.1 hneg)
            have HF := Aside0.mk (show w6.heap[g]? = some (.cells #[.string s, .int .i64 ((at' + (A1 - at') : Nat) : Int)] 37 (0, 0)) from by rw [show at' + (A1 - at') = A1 from by have := HI1.out; omega]; exact HA5.out)
            clear hneg HN
            go_wp2_with fail
            go_ret
            rw [HE.out]
            exact ⟨rfl, HF.out, HB5.out⟩
          · have d1 : decide (ix < 0) = false := decide_eq_false hneg
            obtain ⟨j, rfl⟩ : ∃ j : Nat, ix = (j : Int) := ⟨ix.toNat, by omega⟩
            have HE := Aside0.mk (HN.out.2 (by omega))
            simp only [Int.toNat_natCast] at HE
            have hq3 : wrap64 ((A1 : Int) + wrap64 ((j : Int) + 4)) = ((A1 + (j + 4) : Nat) : Int) := by
              have h1 := HE.out
              have h2 := HG0.out
              unfold wrap64; omega
            have hq4 : wrap64 ((j : Int) + 4) = ((j + 4 : Nat) : Int) := by
              have h1 := HE.out
              have h2 := HG0.out
              unfold wrap64; omega
            have hq5 : wrap64 ((A1 : Int) + ((j + 4 : Nat) : Int)) = ((A1 + (j + 4) : Nat) : Int) := by
              have h1 := HE.out
              have h2 := HG0.out
              unfold wrap64; omega
            have hq := skCells HA5.out (Below.refl _ _)
            have hq1 := hq.1
            have hq2 := hq.2
            clear hq hneg HN
            have HQ3 := Aside0.mk hq3
            have HEnd := Aside0.mk (show ∀ v : Int, v = ((A1 + (j + 4) : Nat) : Int) → (w6.setCell ⟨g, 1, none⟩ (.int .i64 v)).heap[g]? = some (.cells #[.string s, .int .i64 ((A1 + (j + 4) : Nat) : Int)] 37 (0, 0)) ∧ BelG g w (w6.setCell ⟨g, 1, none⟩ (.int .i64 v)) from fun v hv => by
              subst hv
              exact ⟨blk_put HA5.out 1 _ rfl, HB5.out.set 1 _⟩)
            clear hq3 hq4 hq5
            go_wp2_with fail
            go_roundg n
            case rel => exact ⟨A1 + (j + 4), ⟨(HEnd.out _ HQ3.out).1⟩, ⟨by have := HI1.out; have := HE.out; refine ⟨by omega, by omega, by omega, HE.out.2⟩⟩, ⟨(HEnd.out _ HQ3.out).2⟩⟩
            case measure => omega
end Go.Proofs.YtbmlpbgddlgdkaaDoor.Lx
