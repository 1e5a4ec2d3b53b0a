/- A text in capitals, walked. No condition beyond those that each theorem names. -/
import Derived.Test.YtbmlpbgddlgdkaaDoorProg
import Derived.Below
import Derived.Deep.Draws
import Derived.Deep.AppendLies
import Derived.Maps.AppendAt
import Derived.OwnWalk
import Derived.Laws.BytesArg
import Derived.Laws.MakeOwn
import Derived.Laws.OwnMore
import Derived.Deep.OwnRows
import Derived.Tactics
import Derived.Lib.ConvBytes
import Derived.Laws.Slices
import Derived.WalkKit
import Derived.KernelRfl
import Derived.RowKit3
import Derived.Deep.LoopGhost
import Derived.Deep.QuietTactic
import Derived.BigQuiet
import Derived.WideLaws
import Derived.Deep.DeepCutAuto
import Derived.Deep.CutBlock
import Derived.Deep.RegionHeld3
import Derived.Laws.Rows
import Derived.Lib.AppendStr
import Derived.ArgAppend
import Derived.Laws.IdiomCopy
import Derived.OrdersHeld
import Derived.Laws.BitsLemmas
import Derived.RowKit
import Derived.Test.YtbmlpbgddlgdkaaDoorShelf
import Derived.Deep.RegionHeld3
import Derived.Outline
import Derived.Lib.Hide
import Derived.Lib.Walk
import Derived.Lib.SliceRun
import Derived.Lib.OwnBridge
import Derived.WalkSpells
import Derived.Deep.DrawnRows
import Derived.Test.YtbmlpbgddlgdkaaDoorWWords
import Derived.Test.YtbmlpbgddlgdkaaDoorWLast
import Derived.Test.YtbmlpbgddlgdkaaDoorWTab
import Derived.Test.YtbmlpbgddlgdkaaDoorWFour
import Derived.Test.YtbmlpbgddlgdkaaDoorWQPut
import Derived.Test.YtbmlpbgddlgdkaaDoorWApart
import Derived.Test.YtbmlpbgddlgdkaaDoorWArr
import Derived.Test.YtbmlpbgddlgdkaaDoorWZeros
import Derived.Test.YtbmlpbgddlgdkaaDoorWFoot
import Derived.Test.YtbmlpbgddlgdkaaDoorWKept
import Derived.Test.YtbmlpbgddlgdkaaDoorWShare
import Derived.Test.YtbmlpbgddlgdkaaDoorWN
import Derived.Test.YtbmlpbgddlgdkaaDoorWFootNe
import Derived.Test.YtbmlpbgddlgdkaaDoorWAt
import Derived.Test.YtbmlpbgddlgdkaaDoorWEqStruct
import Derived.Test.YtbmlpbgddlgdkaaDoorWRepsOne
import Derived.Test.YtbmlpbgddlgdkaaDoorWInv
import Derived.Test.YtbmlpbgddlgdkaaDoorWInvWords
import Derived.Test.YtbmlpbgddlgdkaaDoorWGuard
import Derived.Test.YtbmlpbgddlgdkaaDoorWNEv
import Derived.Test.YtbmlpbgddlgdkaaDoorWMore
import Derived.Lib.DecodeN
import Derived.Lib.RuneCount
import Derived.Lib.OthersKept
namespace Go.Proofs.YtbmlpbgddlgdkaaDoor.Lx
open Go.RowKit Go.Proofs.YtbmlpbgddlgdkaaDoorW.PrintWords Go.Proofs.YtbmlpbgddlgdkaaDoorW.PrintLast Go.Proofs.YtbmlpbgddlgdkaaDoorW.PrintMore
set_option linter.unusedVariables false
set_option linter.unusedSimpArgs false
/-- the block of a text's bytes, while they are written over -/
def Room (wr : World) (g n : Nat) (xs : List Int) : Prop := ∃ cs : Array Value, wr.heap[g]? = some (.cells cs 5 (cs.size, cs.size + 1)) ∧ n ≤ cs.size ∧ xs.length = n ∧ ∀ j, j < n → cs[j]? = some (.int .u8 (xs.getD j 0))
theorem Room.cell {wr : World} {g n : Nat} {xs : List Int} (h : Room wr g n xs) (j : Nat) (hj : j < n) : wr.cell? ⟨g, j, none⟩ = some (.int .u8 (xs.getD j 0)) := by
  obtain ⟨cs, h1, h2, h3, h4⟩ := h
  simp only [World.cell?, h1]
  exact h4 j hj
theorem Room.free {wr : World} {g n : Nat} {xs : List Int} (h : Room wr g n xs) (j : Nat) (hj : j < n) : wr.frozen? ⟨g, j, none⟩ = false := by
  obtain ⟨cs, h1, h2, h3, h4⟩ := h
  simp only [World.frozen?, h1]
  simp; omega
theorem Room.set {wr : World} {g n : Nat} {xs : List Int} (h : Room wr g n xs) (j : Nat) (hj : j < n) (x : Int) : Room (wr.setCell ⟨g, j, none⟩ (.int .u8 x)).drew g n (xs.set j x) := by
  obtain ⟨cs, h1, h2, h3, h4⟩ := h
  have hlt : g < wr.heap.size := by
    rcases Nat.lt_or_ge g wr.heap.size with q | q
    · exact q
    · rw [Array.getElem?_eq_none q] at h1; cases h1
  refine ⟨cs.setIfInBounds j (.int .u8 x), ?_, by simpa using h2, by simpa using h3, fun i hi => ?_⟩
  · show (wr.setCell ⟨g, j, none⟩ (.int .u8 x)).heap[g]? = _
    simp only [World.setCell, Array.getElem?_modify, if_pos, h1, Option.map_some]
    simp
  · by_cases e : i = j
    · subst e
      rw [Array.getElem?_setIfInBounds_self_of_lt (by omega)]
      simp [List.getD_eq_getElem?_getD, List.getElem?_set_self (show i < xs.length by omega)]
    · rw [Array.getElem?_setIfInBounds_ne (fun h => e h.symm), h4 i hi]
      simp [List.getD_eq_getElem?_getD, List.getElem?_set_ne (fun h => e h.symm)]
theorem Room.of_bytes (W : World) (s : ByteArray) : Room (Lib.bytesWorld W 5 s) W.heap.size s.size (bytesOf s) := by
  refine ⟨Lib.bytesCells W 5 s, Lib.bytesWorld_at_new W 5 s, ?_, by simp [bytesOf], fun j hj => ?_⟩
  · unfold Lib.bytesCells
    rw [Array.size_append, Array.size_map]
    exact Nat.le_add_right _ _
  · have hl : j < s.data.size := hj
    unfold Lib.bytesCells
    rw [Array.getElem?_append_left (by rw [Array.size_map]; exact hl)]
    simp [bytesOf, hl]
    exact ⟨_, Array.getElem?_eq_getElem hl, by rw [Array.getElem?_eq_getElem hl]; rfl⟩
theorem Room.lt {wr : World} {g n : Nat} {xs : List Int} (h : Room wr g n xs) : g < wr.heap.size := by
  obtain ⟨cs, h1, _⟩ := h
  exact (Array.getElem?_eq_some_iff.1 h1).1
theorem Room.below {wr w1 : World} {g n : Nat} {xs : List Int} (h : Room wr g n xs) (hb : Below wr.heap.size wr w1) : Room w1 g n xs := by
  have hl := h.lt
  obtain ⟨cs, h1, h2, h3, h4⟩ := h
  exact ⟨cs, (hb.block g hl).trans h1, h2, h3, h4⟩
theorem Room.str {wr : World} {g n : Nat} {xs : List Int} (h : Room wr g n xs) (hn : n < 9223372036854775808) (c : Nat) : (convert 31 9 (.slice (some ⟨g, 0, none⟩) n c)).run Tryd.prog wr = .ok (.string (strOfNums xs)) wr := by
  have hl : xs.length = n := by obtain ⟨_, _, _, h3, _⟩ := h; exact h3
  refine string_of_reads (P := Tryd.prog) (src := 31) (dst := 9) (e := 5) Tryd.underlying31 Tryd.underlying5 Tryd.underlying9 ⟨hl, by omega, fun _ => ⟨_, rfl, fun i hi' => ?_⟩⟩
  rw [show (⟨g, 0, none⟩ : Addr).add i = ⟨g, i, none⟩ from by simp [Addr.add]; intro h; exact h.symm]
  exact h.cell i hi'
def capByte (c : UInt8) : UInt8 := if 97 ≤ c.toNat ∧ c.toNat ≤ 122 then c - 32 else c
def capB (a : ByteArray) : ByteArray := ⟨(a.data.toList.map capByte).toArray⟩
/-- the bytes, the first ones in capitals -/
def capsTo (s : ByteArray) (i : Nat) : List Int := (s.data.toList.take i).map (fun c => ((capByte c).toNat : Int)) ++ (s.data.toList.drop i).map (fun c => (c.toNat : Int))
theorem capsTo_length (s : ByteArray) (i : Nat) : (capsTo s i).length = s.size := by
  have : s.data.toList.length = s.size := by rw [Array.length_toList]; rfl
  simp [capsTo]; omega
theorem capsTo_zero (s : ByteArray) : capsTo s 0 = bytesOf s := by simp [capsTo, bytesOf]
theorem capsTo_all (s : ByteArray) : strOfNums (capsTo s s.size) = capB s := by
  have : s.data.toList.length = s.size := by rw [Array.length_toList]; rfl
  have e : capsTo s s.size = s.data.toList.map (fun c => ((capByte c).toNat : Int)) := by
    rw [capsTo, List.take_of_length_le (by omega), List.drop_of_length_le (by omega)]; simp
  rw [e, strOfNums, capB]
  simp
theorem capsTo_at (s : ByteArray) (i : Nat) (h : i < s.size) : (capsTo s i).getD i 0 = (s[i].toNat : Int) := by
  have hl : s.data.toList.length = s.size := by rw [Array.length_toList]; rfl
  have hlt : ((s.data.toList.take i).map (fun c => ((capByte c).toNat : Int))).length = i := by simp; omega
  rw [capsTo, List.getD_eq_getElem?_getD, List.getElem?_append_right (by omega), hlt, Nat.sub_self, List.drop_eq_getElem_cons (by omega)]
  simp
  rfl
theorem capsTo_step (s : ByteArray) (i : Nat) (h : i < s.size) : capsTo s (i + 1) = (capsTo s i).set i ((capByte s[i]).toNat : Int) := by
  have hl : s.data.toList.length = s.size := by rw [Array.length_toList]; rfl
  have hlt : ((s.data.toList.take i).map (fun c => ((capByte c).toNat : Int))).length = i := by simp; omega
  have hd : s.data.toList.drop i = s[i] :: s.data.toList.drop (i + 1) := by rw [List.drop_eq_getElem_cons (by omega)]; rfl
  have ht : s.data.toList.take (i + 1) = s.data.toList.take i ++ [s[i]] := by rw [List.take_succ_eq_append_getElem (by omega)]; rfl
  rw [capsTo, ht, capsTo, hd, List.map_append, List.append_assoc, List.set_append_right _ _ (by omega), hlt, Nat.sub_self]
  simp
set_option maxRecDepth 100000 in
set_option maxHeartbeats 1000000 in
theorem capital_ok (s : ByteArray) (hs : s.size ≤ 100000) (w : World) :
    Calls Tryd.prog 19 #[.string s] w fun e w' => e = .returned (.string (capB s)) ∧ Below w.heap.size w w' := by
  have hconv := fun W : World => Lib.run_convert_string_bytes (P := Tryd.prog) W 9 31 5 s Tryd.underlying9 Tryd.underlying31 Tryd.underlying5
  go_enter Tryd.func19, Tryd.ntmps19
  go_wp2_with fail
  have hr0 : Room (Lib.bytesWorld w 5 s) w.heap.size s.size (capsTo s 0) := by rw [capsTo_zero]; exact Room.of_bytes w s
  have HR0 := Aside0.mk (And.intro hr0 (bytes_below (Below.refl w.heap.size w) (Nat.le_refl _) 5 s))
  generalize hcap : grownCap w s.size 0 5 = cap at *
  generalize hW : Lib.bytesWorld w 5 s = W1 at *
  clear hconv hr0 hcap hW
  obtain ⟨g, hg⟩ : ∃ g, w.heap.size = g := ⟨_, rfl⟩
  have HG := Aside0.mk hg
  rw [hg] at HR0
  simp only [hg]
  clear hg
  go_loopw [10] (fun v wr => ∃ i : Nat, v = .int .i64 (i : Int) ∧ Aside0 (i ≤ s.size) ∧ Aside0 (Room wr g s.size (capsTo s i) ∧ Below g w wr)) (fun v _ => s.size - (Lib.intOf v).toNat)
  case atStart => exact ⟨0, rfl, ⟨Nat.zero_le _⟩, HR0⟩
  case round =>
    clear HR0
    obtain ⟨i, rfl, hI, HR⟩ := hrel
    have hIo := hI.out
    by_cases hlt : i < s.size
    · have d1 : decide ((i : Int) < (s.size : Int)) = true := decide_eq_true (by omega)
      have d2 : decide (i < s.size) = true := decide_eq_true hlt
      have h3 : (i < s.size) = True := eq_true hlt
      have h4 : ((i : Int) < (s.size : Int)) = True := eq_true (by omega)
      have HLT := Aside0.mk (And.intro hlt hs)
      have hcl := HR.out.1.cell i hlt
      have hfr := HR.out.1.free i hlt
      rw [capsTo_at s i hlt] at hcl
      obtain ⟨x, hx⟩ : ∃ x, s[i] = x := ⟨_, rfl⟩
      have HStep := Aside0.mk (show capsTo s (i + 1) = (capsTo s i).set i ((capByte x).toNat : Int) from by rw [← hx]; exact capsTo_step s i hlt)
      have HSame := Aside0.mk (show capByte x = x → Room wr g s.size (capsTo s (i + 1)) from fun e => by
        rw [HStep.out, e]
        have h := HR.out.1
        have e2 := capsTo_at s i hlt
        rw [hx] at e2
        have : (capsTo s i).set i (x.toNat : Int) = capsTo s i := by
          apply List.ext_getElem (by simp)
          intro j h1 h2
          by_cases ej : j = i
          · subst ej; rw [List.getElem_set_self, ← e2, List.getD_eq_getElem?_getD, List.getElem?_eq_getElem h2]; rfl
          · rw [List.getElem_set_ne (fun h => ej h.symm)]
        rw [this]; exact h)
      rw [hx] at hcl
      clear hx hlt hIo
      have hx256 := x.toNat_lt
      by_cases h97 : 97 ≤ x.toNat
      · have e1 : decide ((97 : Int) ≤ (x.toNat : Int)) = true := decide_eq_true (by omega)
        have e2 : decide (97 ≤ x.toNat) = true := decide_eq_true h97
        by_cases h122 : x.toNat ≤ 122
        · have e3 : decide ((x.toNat : Int) ≤ 122) = true := decide_eq_true (by omega)
          have e4 : decide (x.toNat ≤ 122) = true := decide_eq_true h122
          have HSt := Aside0.mk (show Room (wr.setCell ⟨g, i, none⟩ (.int .u8 ((capByte x).toNat : Int))) g s.size (capsTo s (i + 1)) ∧ Below g w (wr.setCell ⟨g, i, none⟩ (.int .u8 ((capByte x).toNat : Int))) from by
            rw [HStep.out]; refine ⟨HR.out.1.set i HLT.out.1 _, ?_⟩
            have h := HR.out.2
            have e := HG.out
            subst e
            exact below_set h (Nat.le_refl _))
          have hcb : ((capByte x).toNat : Int) = (x.toNat : Int) - 32 := by
            rw [capByte, if_pos ⟨h97, h122⟩, UInt8.toNat_sub_of_le _ _ (by rw [UInt8.le_iff_toNat_le]; show 32 ≤ x.toNat; omega)]
            show ((x.toNat - 32 : Nat) : Int) = _
            omega
          rw [hcb] at HSt
          clear HSame HStep
          go_wp2_with fail
          have q1 : wrap64 ((i : Int) + 1) = ((i + 1 : Nat) : Int) := by have := HLT.out; unfold wrap64; omega
          refine ⟨⟨i + 1, by rw [q1], ⟨by have := HLT.out; omega⟩, ⟨by have h := HSt.out; rwa [show (x.toNat : Int) - 32 = (x.toNat : Int) - 97 + 65 from by omega] at h⟩⟩, ?_⟩
          rw [q1]
          have := HLT.out
          show s.size - (i + 1) < s.size - i
          omega
        · have e3 : decide ((x.toNat : Int) ≤ 122) = false := decide_eq_false (by omega)
          have e4 : decide (x.toNat ≤ 122) = false := decide_eq_false h122
          have HSm := Aside0.mk (HSame.out (by rw [capByte, if_neg (by omega)]))
          clear HSame HStep
          go_wp2_with fail
          have q1 : wrap64 ((i : Int) + 1) = ((i + 1 : Nat) : Int) := by have := HLT.out; unfold wrap64; omega
          refine ⟨⟨i + 1, by rw [q1], ⟨by have := HLT.out; omega⟩, ⟨HSm.out, HR.out.2⟩⟩, ?_⟩
          rw [q1]
          have := HLT.out
          show s.size - (i + 1) < s.size - i
          omega
      · have e1 : decide ((97 : Int) ≤ (x.toNat : Int)) = false := decide_eq_false (by omega)
        have e2 : decide (97 ≤ x.toNat) = false := decide_eq_false h97
        have HSm := Aside0.mk (HSame.out (by rw [capByte, if_neg (by omega)]))
        clear HSame HStep
        go_wp2_with fail
        have q1 : wrap64 ((i : Int) + 1) = ((i + 1 : Nat) : Int) := by have := HLT.out; unfold wrap64; omega
        refine ⟨⟨i + 1, by rw [q1], ⟨by have := HLT.out; omega⟩, ⟨HSm.out, HR.out.2⟩⟩, ?_⟩
        rw [q1]
        have := HLT.out
        show s.size - (i + 1) < s.size - i
        omega
    · obtain rfl : i = s.size := by omega
      have hstr := HR.out.1.str (by omega) cap
      rw [capsTo_all] at hstr
      have d1 : decide ((s.size : Int) < (s.size : Int)) = false := decide_eq_false (by omega)
      go_wp2_with fail
      go_ret
      exact ⟨rfl, by have h := HR.out.2; rwa [← HG.out] at h⟩
end Go.Proofs.YtbmlpbgddlgdkaaDoor.Lx
