/- What stands between quotes, walked. No condition beyond those that each theorem names. -/
import Derived.Test.YtbmlpbgddlgdkaaDoorProg
import Derived.Below
import Derived.Deep.Draws
import Derived.Deep.AppendLies
import Derived.Maps.AppendAt
import Derived.OwnWalk
import Derived.Laws.BytesArg
import Derived.Laws.MakeOwn
import Derived.Laws.OwnMore
import Derived.Deep.OwnRows
import Derived.Tactics
import Derived.Lib.ConvBytes
import Derived.Laws.Slices
import Derived.WalkKit
import Derived.KernelRfl
import Derived.RowKit3
import Derived.Deep.LoopGhost
import Derived.Deep.QuietTactic
import Derived.BigQuiet
import Derived.WideLaws
import Derived.Deep.DeepCutAuto
import Derived.Deep.CutBlock
import Derived.Deep.RegionHeld3
import Derived.Laws.Rows
import Derived.Lib.AppendStr
import Derived.ArgAppend
import Derived.Laws.IdiomCopy
import Derived.OrdersHeld
import Derived.Laws.BitsLemmas
import Derived.RowKit
import Derived.Test.YtbmlpbgddlgdkaaDoorShelf
import Derived.Deep.RegionHeld3
import Derived.Outline
import Derived.Lib.Hide
import Derived.Lib.Walk
import Derived.Lib.SliceRun
import Derived.Lib.OwnBridge
import Derived.WalkSpells
import Derived.Deep.DrawnRows
import Derived.Test.YtbmlpbgddlgdkaaDoorWWords
import Derived.Test.YtbmlpbgddlgdkaaDoorWLast
import Derived.Test.YtbmlpbgddlgdkaaDoorWTab
import Derived.Test.YtbmlpbgddlgdkaaDoorWFour
import Derived.Test.YtbmlpbgddlgdkaaDoorWQPut
import Derived.Test.YtbmlpbgddlgdkaaDoorWApart
import Derived.Test.YtbmlpbgddlgdkaaDoorWArr
import Derived.Test.YtbmlpbgddlgdkaaDoorWZeros
import Derived.Test.YtbmlpbgddlgdkaaDoorWFoot
import Derived.Test.YtbmlpbgddlgdkaaDoorWKept
import Derived.Test.YtbmlpbgddlgdkaaDoorWShare
import Derived.Test.YtbmlpbgddlgdkaaDoorWN
import Derived.Test.YtbmlpbgddlgdkaaDoorWFootNe
import Derived.Test.YtbmlpbgddlgdkaaDoorWAt
import Derived.Test.YtbmlpbgddlgdkaaDoorWEqStruct
import Derived.Test.YtbmlpbgddlgdkaaDoorWRepsOne
import Derived.Test.YtbmlpbgddlgdkaaDoorWInv
import Derived.Test.YtbmlpbgddlgdkaaDoorWInvWords
import Derived.Test.YtbmlpbgddlgdkaaDoorWGuard
import Derived.Test.YtbmlpbgddlgdkaaDoorWNEv
import Derived.Test.YtbmlpbgddlgdkaaDoorWMore
import Derived.Lib.DecodeN
import Derived.Lib.RuneCount
import Derived.Lib.OthersKept
import Derived.OneCell
import Derived.Test.YtbmlpbgddlgdkaaDoorShelf
namespace Go.Proofs.YtbmlpbgddlgdkaaDoor.Lx
open Go.RowKit Go.Proofs.YtbmlpbgddlgdkaaDoorW.PrintWords Go.Proofs.YtbmlpbgddlgdkaaDoorW.PrintLast Go.Proofs.YtbmlpbgddlgdkaaDoorW.PrintMore
set_option linter.unusedVariables false
set_option linter.unusedSimpArgs false
/-- what stands between quotes, and how many bytes were read; none: they do not end -/
def quotedL (q : UInt8) : List UInt8 → Option (List UInt8 × Nat)
  | [] => none
  | c :: r => if c = q then (match r with
      | [] => some ([], 1)
      | d :: r2 => if d = q then (quotedL q r2).map (fun p => (q :: p.1, p.2 + 2)) else some ([], 1)) else (quotedL q r).map (fun p => (c :: p.1, p.2 + 1))
theorem quotedL_ne (q c : UInt8) (r : List UInt8) (h : c ≠ q) : quotedL q (c :: r) = (quotedL q r).map (fun p => (c :: p.1, p.2 + 1)) := by
  cases r <;> simp [quotedL, h]
theorem quotedL_end (q : UInt8) : quotedL q [q] = some ([], 1) := by simp [quotedL]
theorem quotedL_two (q : UInt8) (r : List UInt8) : quotedL q (q :: q :: r) = (quotedL q r).map (fun p => (q :: p.1, p.2 + 2)) := by simp [quotedL]
theorem quotedL_close (q d : UInt8) (r : List UInt8) (h : d ≠ q) : quotedL q (q :: d :: r) = some ([], 1) := by simp [quotedL, h]
/-- all lies as it lay but one block -/
structure BelG (g : Nat) (w w' : World) : Prop where
  os : w'.os = w.os
  tape : w'.tape = w.tape
  output : w'.output = w.output
  size : w.heap.size ≤ w'.heap.size
  block : ∀ k, k < w.heap.size → k ≠ g → w'.heap[k]? = w.heap[k]?
theorem BelG.of_below {g : Nat} {w w' : World} (h : Below w.heap.size w w') : BelG g w w' := ⟨h.os, h.tape, h.output, h.size, fun k hk _ => h.block k hk⟩
theorem BelG.set {g : Nat} {w W : World} (h : BelG g w W) (j : Nat) (v : Value) : BelG g w (W.setCell ⟨g, j, none⟩ v) :=
  ⟨h.os, h.tape, h.output, Nat.le_trans h.size (Nat.le_of_eq (show W.heap.size = (W.setCell ⟨g, j, none⟩ v).heap.size from by simp [World.setCell])), fun i hi hg => (Below.heap_setCell W ⟨g, j, none⟩ v i hg).trans (h.block i hi hg)⟩
theorem BelG.then_ {g : Nat} {w a b : World} (h : BelG g w a) (k : Below w.heap.size a b) : BelG g w b :=
  ⟨k.os.trans h.os, k.tape.trans h.tape, k.output.trans h.output, Nat.le_trans h.size k.size, fun i hi hg => (k.block i hi).trans (h.block i hi hg)⟩
theorem builder_far {B b : Nat} {bs : List Value} {w : World} (h : Lib.IsBuilder 67 5 B b bs w) (g j : Nat) (hg : g < B) (u : Value) : Lib.IsBuilder 67 5 B b bs (w.setCell ⟨g, j, none⟩ u) := by
  have one : ∀ p, Lib.BuilderAt 67 5 B b p bs w → Lib.BuilderAt 67 5 B b p bs (w.setCell ⟨g, j, none⟩ u) := by
    rintro p ⟨h1, v, h2, h3, h4⟩
    exact ⟨h1, v, (Below.heap_setCell w ⟨g, j, none⟩ u b (by show b ≠ g; omega)).trans h2, ownsRow_setCell_below h3 hg u, h4⟩
  exact h.elim (fun x => .inl (one _ x)) (fun x => .inr (one _ x))
theorem alloc_old' (w : World) (o : Obj) (n : Nat) (h : n < w.heap.size) : (w.alloc o).heap[n]? = w.heap[n]? := (below_alloc (Below.refl w.heap.size w) o).block n h
def QPost (s : ByteArray) (at' : Nat) (g : Nat) (w : World) (r : Option (List UInt8 × Nat)) (e : Ending) (w' : World) : Prop :=
  (match r with
  | some (t, n) => e = .returned (.tuple #[.string ⟨t.toArray⟩, .bool true]) ∧ w'.heap[g]? = some (.cells #[.string s, .int .i64 ((at' + 1 + n : Nat) : Int)] 37 (0, 0))
  | none => e = .returned (.tuple #[.string ⟨#[]⟩, .bool false]) ∧ w'.heap[g]? = some (.cells #[.string s, .int .i64 (at' : Int)] 37 (0, 0))) ∧ BelG g w w'
set_option maxRecDepth 100000 in
set_option maxHeartbeats 1000000 in
theorem quoted_ok (s : ByteArray) (at' : Nat) (q : UInt8) (g : Nat) (w : World) (hg : w.heap[g]? = some (.cells #[.string s, .int .i64 (at' : Int)] 37 (0, 0))) (hs : s.size ≤ 100000) (ha : at' < s.size) :
    Calls Tryd.prog 31 #[.pointer (some ⟨g, 0, none⟩), .int .u8 (q.toNat : Int)] w fun e w' => QPost s at' g w (quotedL q (s.data.toList.drop (at' + 1))) e w' := by
  have hu37 := Tryd.underlying37
  have hlt : g < w.heap.size := (Array.getElem?_eq_some_iff.1 hg).1
  have hgA := (alloc_old' w (.cells #[.pointer none, .slice none 0 0] 67) g hlt).trans hg
  have hc0 : (w.alloc (.cells #[.pointer none, .slice none 0 0] 67)).cell? ⟨g, 0, none⟩ = some (.string s) := (blk_cell hgA 0).trans rfl
  have hc1 : (w.alloc (.cells #[.pointer none, .slice none 0 0] 67)).cell? ⟨g, 1, none⟩ = some (.int .i64 (at' : Int)) := (blk_cell hgA 1).trans rfl
  obtain ⟨QL, hQL⟩ : ∃ QL, quotedL q (s.data.toList.drop (at' + 1)) = QL := ⟨_, rfl⟩
  have HQ0 := Aside0.mk (show QL = (quotedL q (s.data.toList.drop (at' + 1))).map (fun p => ([] ++ p.1, p.2 + (at' + 1 - (at' + 1)))) from by rw [hQL]; cases QL <;> simp)
  rw [hQL]
  clear hQL
  go_enter Tryd.func31, Tryd.ntmps31
  go_wp2_with fail
  have HG := Aside0.mk hg
  have HS := Aside0.mk (show s.size ≤ 100000 ∧ at' < s.size ∧ g < w.heap.size from ⟨hs, ha, hlt⟩)
  have HB0 := Aside0.mk (And.intro (show Lib.IsBuilder 67 5 w.heap.size w.heap.size (Lib.byteCells []) (w.alloc (.cells #[.pointer none, .slice none 0 0] 67)) from Lib.fresh_isBuilder 67 5 w) (below_alloc (Below.refl w.heap.size w) (.cells #[.pointer none, .slice none 0 0] 67)))
  clear hgA hc0 hc1 hg hs ha hlt
  generalize hW : w.alloc (.cells #[.pointer none, .slice none 0 0] 67) = W0 at *
  clear hW
  go_loopw [7] (fun v wr => ∃ (k : Nat) (acc : List UInt8), v = .int .i64 (k : Int) ∧ Aside0 (at' + 1 ≤ k ∧ k ≤ s.size ∧ acc.length ≤ k) ∧ Aside0 (Lib.IsBuilder 67 5 w.heap.size w.heap.size (Lib.byteCells acc) wr ∧ Below w.heap.size w wr) ∧ Aside0 (QL = (quotedL q (s.data.toList.drop k)).map (fun p => (acc ++ p.1, p.2 + (k - (at' + 1)))))) (fun v _ => s.size + 1 - (Lib.intOf v).toNat)
  case atStart => exact ⟨at' + 1, [], by rw [show ((at' + 1 : Nat) : Int) = (at' : Int) + 1 from by omega], ⟨by have := HS.out; refine ⟨Nat.le_refl _, by omega, Nat.zero_le _⟩⟩, HB0, HQ0⟩
  case round =>
    clear HB0 HQ0
    obtain ⟨k, acc, rfl, hI, HB, HQ⟩ := hrel
    have hIo := hI.out
    have hSo := HS.out
    have hls : s.data.toList.length = s.size := by rw [Array.length_toList]; rfl
    have hgA := (HB.out.2.block g hSo.2.2).trans HG.out
    have hc0 : wr.cell? ⟨g, 0, none⟩ = some (.string s) := (blk_cell hgA 0).trans rfl
    have hc1 : wr.cell? ⟨g, 1, none⟩ = some (.int .i64 (at' : Int)) := (blk_cell hgA 1).trans rfl
    have hf1 := blk_frozen hgA 1
    by_cases hlt : k < s.size
    · have d1 : decide ((k : Int) < (s.size : Int)) = true := decide_eq_true (by omega)
      have d2 : decide (k < s.size) = true := decide_eq_true hlt
      have h3 : (k < s.size) = True := eq_true hlt
      have h4 : ((k : Int) < (s.size : Int)) = True := eq_true (by omega)
      have hD : s.data.toList.drop k = s[k] :: s.data.toList.drop (k + 1) := by rw [List.drop_eq_getElem_cons (by omega)]; rfl
      have q1 : wrap64 ((k : Int) + 1) = ((k + 1 : Nat) : Int) := by unfold wrap64; omega
      have HK := Aside0.mk (show at' + 1 ≤ k ∧ k < s.size ∧ acc.length ≤ k ∧ s.size ≤ 100000 from ⟨hIo.1, hlt, hIo.2.2, hSo.1⟩)
      obtain ⟨c, hc⟩ : ∃ c, s[k] = c := ⟨_, rfl⟩
      have hQ := HQ.out
      rw [hD, hc] at hQ
      by_cases hcq : c = q
      · subst hcq
        have e0 : ((c.toNat : Int) != (c.toNat : Int)) = false := bne_self_eq_false _
        by_cases hend : k + 1 = s.size
        · have HQ1 := Aside0.mk (show QL = some (acc, k + 1 - (at' + 1)) from by
            rw [hQ, List.drop_of_length_le (by omega), quotedL_end]
            simp; omega)
          have f1 : ((k : Int) + 1 == (s.size : Int)) = true := beq_iff_eq.2 (by omega)
          have f2 : decide ((k : Int) + 1 = (s.size : Int)) = true := decide_eq_true (by omega)
          have HBs := Aside0.mk (builder_far HB.out.1 g 1 hSo.2.2 (.int .i64 (s.size : Int)))
          have HBel := Aside0.mk (BelG.of_below (g := g) HB.out.2)
          have HPut := Aside0.mk (blk_put hgA 1 (.int .i64 (s.size : Int)) rfl)
          have HEq := Aside0.mk (show (s.size : Int) = ((at' + 1 + (k + 1 - (at' + 1)) : Nat) : Int) from by omega)
          have HSt := Aside0.mk (Tryd.Builder_String_any w.heap.size w.heap.size acc _ HBs.out (by simp [World.setCell]; exact HBel.out.size))
          have HFar := Aside0.mk (show g < w.heap.size from hSo.2.2)
          clear hQ hD hls hIo hSo hgA HQ
          go_wp2_with fail
          refine HSt.out.mono ?_; rintro e w9 ⟨rfl, hb9⟩
          have HF := Aside0.mk (show w9.heap[g]? = some (.cells #[.string s, .int .i64 ((at' + 1 + (k + 1 - (at' + 1)) : Nat) : Int)] 37 (0, 0)) ∧ BelG g w w9 from ⟨by rw [← HEq.out]; exact (hb9.block g HFar.out).trans HPut.out, (HBel.out.set 1 _).then_ hb9⟩)
          clear hb9 HSt HB HBs HBel HPut
          go_wp2_with fail
          exact bodyPost_ret (results_tmp2 rfl _ _ _) rfl (by rw [HQ1.out]; exact ⟨⟨rfl, HF.out.1⟩, HF.out.2⟩)
        · have hlt2 : k + 1 < s.size := by omega
          obtain ⟨d, hd⟩ : ∃ d, s[k + 1]'hlt2 = d := ⟨_, rfl⟩
          have hD2 : s.data.toList.drop (k + 1) = d :: s.data.toList.drop (k + 2) := by rw [List.drop_eq_getElem_cons (by omega), ← hd]; rfl
          have f1 : ((k : Int) + 1 == (s.size : Int)) = false := beq_eq_false_iff_ne.2 (by omega)
          have f2 : decide ((k : Int) + 1 = (s.size : Int)) = false := decide_eq_false (by omega)
          have h5 : (k + 1 < s.size) = True := eq_true (by omega)
          have h6 : ((k : Int) + 1 < (s.size : Int)) = True := eq_true (by omega)
          rw [hD2] at hQ
          by_cases hdq : d = c
          · subst hdq
            have HQ1 := Aside0.mk (show QL = (quotedL d (s.data.toList.drop (k + 2))).map (fun p => ((acc ++ [d]) ++ p.1, p.2 + (k + 2 - (at' + 1)))) from by
              rw [hQ, quotedL_two, Option.map_map]
              congr 1
              funext p
              simp
              omega)
            have HWB := Aside0.mk (Tryd.Builder_WriteByte w.heap.size w.heap.size (Lib.byteCells acc) (d.toNat : Int) wr HB.out.1 (by rw [Lib.byteCells_length]; omega) HB.out.2.size)
            have q2 : wrap64 (((k + 1 : Nat) : Int) + 1) = ((k + 2 : Nat) : Int) := by unfold wrap64; omega
            have HK2 := Aside0.mk hlt2
            clear hQ hD hD2 hls hIo hSo hgA HQ
            go_wp2_with fail
            refine HWB.out.mono ?_; rintro e w9 ⟨rfl, h9, hb9⟩
            have HB9 := Aside0.mk (show Lib.IsBuilder 67 5 w.heap.size w.heap.size (Lib.byteCells (acc ++ [d])) w9 ∧ Below w.heap.size w w9 from ⟨by rw [Lib.byteCells_append]; exact Or.inr h9, HB.out.2.trans hb9⟩)
            clear h9 hb9 HWB HB hc0 hc1
            go_wp2_with fail
            have q3 : wrap64 ((k : Int) + 1 + 1) = ((k + 2 : Nat) : Int) := by have := HK.out; unfold wrap64; omega
            refine ⟨⟨k + 2, acc ++ [d], by rw [q3], ⟨by have := HK.out; have := HK2.out; simp; omega⟩, HB9, HQ1⟩, ?_⟩
            rw [q3]
            have := HK.out
            have := HK2.out
            show s.size + 1 - (k + 2) < s.size + 1 - k
            omega
          · have g0 : ((d.toNat : Int) != (c.toNat : Int)) = true := bne_iff_ne.2 (fun e => hdq (UInt8.toNat_inj.1 (by omega)))
            have HQ1 := Aside0.mk (show QL = some (acc, k + 1 - (at' + 1)) from by
              rw [hQ, quotedL_close c d _ hdq]
              simp; omega)
            have HBs := Aside0.mk (builder_far HB.out.1 g 1 hSo.2.2 (.int .i64 ((k : Int) + 1)))
            have HBel := Aside0.mk (BelG.of_below (g := g) HB.out.2)
            have HPut := Aside0.mk (blk_put hgA 1 (.int .i64 ((k : Int) + 1)) rfl)
            have HEq := Aside0.mk (show ((k : Int) + 1) = ((at' + 1 + (k + 1 - (at' + 1)) : Nat) : Int) from by omega)
            have HSt := Aside0.mk (Tryd.Builder_String_any w.heap.size w.heap.size acc _ HBs.out (by simp [World.setCell]; exact HBel.out.size))
            have HFar := Aside0.mk (show g < w.heap.size from hSo.2.2)
            clear hQ hD hD2 hls hIo hSo hgA HQ
            go_wp2_with fail
            refine HSt.out.mono ?_; rintro e w9 ⟨rfl, hb9⟩
            have HF := Aside0.mk (show w9.heap[g]? = some (.cells #[.string s, .int .i64 ((at' + 1 + (k + 1 - (at' + 1)) : Nat) : Int)] 37 (0, 0)) ∧ BelG g w w9 from ⟨by rw [← HEq.out]; exact (hb9.block g HFar.out).trans HPut.out, (HBel.out.set 1 _).then_ hb9⟩)
            clear hb9 HSt HB HBs HBel HPut
            go_wp2_with fail
            exact bodyPost_ret (results_tmp2 rfl _ _ _) rfl (by rw [HQ1.out]; exact ⟨⟨rfl, HF.out.1⟩, HF.out.2⟩)
      · have e0 : ((c.toNat : Int) != (q.toNat : Int)) = true := bne_iff_ne.2 (fun e => hcq (UInt8.toNat_inj.1 (by omega)))
        have e1 : ((c.toNat : Int) == (q.toNat : Int)) = false := beq_eq_false_iff_ne.2 (fun e => hcq (UInt8.toNat_inj.1 (by omega)))
        have e2 : decide ((c.toNat : Int) = (q.toNat : Int)) = false := decide_eq_false (fun e => hcq (UInt8.toNat_inj.1 (by omega)))
        have e3 : decide (c.toNat = q.toNat) = false := decide_eq_false (fun e => hcq (UInt8.toNat_inj.1 e))
        have HQ1 := Aside0.mk (show QL = (quotedL q (s.data.toList.drop (k + 1))).map (fun p => ((acc ++ [c]) ++ p.1, p.2 + (k + 1 - (at' + 1)))) from by
          rw [hQ, quotedL_ne q c _ hcq, Option.map_map]
          congr 1
          funext p
          simp
          omega)
        have HWB := Aside0.mk (Tryd.Builder_WriteByte w.heap.size w.heap.size (Lib.byteCells acc) (c.toNat : Int) wr HB.out.1 (by rw [Lib.byteCells_length]; omega) HB.out.2.size)
        clear hQ hD hls hIo hSo hgA HQ
        go_wp2_with fail
        refine HWB.out.mono ?_; rintro e w9 ⟨rfl, h9, hb9⟩
        have HB9 := Aside0.mk (show Lib.IsBuilder 67 5 w.heap.size w.heap.size (Lib.byteCells (acc ++ [c])) w9 ∧ Below w.heap.size w w9 from ⟨by rw [Lib.byteCells_append]; exact Or.inr h9, HB.out.2.trans hb9⟩)
        clear h9 hb9 HWB HB hc0 hc1
        go_wp2_with fail
        refine ⟨⟨k + 1, acc ++ [c], by rw [q1], ⟨by have := HK.out; simp; omega⟩, HB9, HQ1⟩, ?_⟩
        rw [q1]
        have := HK.out
        show s.size + 1 - (k + 1) < s.size + 1 - k
        omega
    · have d1 : decide ((k : Int) < (s.size : Int)) = false := decide_eq_false (by omega)
      have d2 : decide (k < s.size) = false := decide_eq_false hlt
      have HE := Aside0.mk (show QL = none from by
        have h := HQ.out
        rw [List.drop_of_length_le (by omega)] at h
        exact h)
      have HX := Aside0.mk (And.intro hgA (BelG.of_below (g := g) HB.out.2))
      clear hlt hls hgA
      go_wp2_with fail
      exact bodyPost_ret (results_tmp2 rfl _ _ _) rfl (by rw [HE.out]; exact ⟨⟨rfl, HX.out.1⟩, HX.out.2⟩)
end Go.Proofs.YtbmlpbgddlgdkaaDoor.Lx
