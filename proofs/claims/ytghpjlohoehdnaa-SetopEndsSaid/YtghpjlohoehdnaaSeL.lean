/- scan.List: the iterator over a list of rows. No condition beyond those that each theorem names. -/
import Derived.RangeFuncBox
import Derived.RangeFuncLeaves
import Derived.Shelf.Abstract
import Derived.Shelf.RegionOpen
import Derived.WalkKit
import Derived.OwnWalkIn
import Derived.TacticsInMore
import Derived.LoopNIn
import Derived.LoopIn
import Derived.Test.YtghpjlohoehdnaaProg
import Derived.Test.YtghpjlohoehdnaaSep
namespace Go.Proofs.Ytghpjlohoehdnaa.Sep
open Go Go.RowKit Go.Shelf
attribute [local go_sem] Oper.semAt_some
set_option linter.unusedVariables false
/-- a row as the machine holds it -/
structure RV where
  a : Option Addr
  n : Nat
  c : Nat
abbrev RV.v (r : RV) : Value := .slice r.a r.n r.c
def RV.nil : RV := ⟨none, 0, 0⟩
/-- what a row's iterator hands over: a row, an error's number -/
abbrev enc (x : RV × Int) : Array Value := #[.slice x.1.a x.1.n x.1.c, .int .i64 x.2]
/-- the slice sv holds the rows rs; it lies in the blocks R -/
def Rows (R : Nat → Prop) (W : World) (sv : Value) (rs : List RV) : Prop :=
  (∃ a c, sv = .slice a 0 c ∧ rs = []) ∨ ∃ b off cap, sv = .slice (some ⟨b, off, none⟩) rs.length cap ∧ R b ∧ ∀ j, j < rs.length → W.cell? ⟨b, off + j, none⟩ = some ((rs[j]?.getD RV.nil).v)
theorem cell_of_block {W W' : World} {b : Nat} (h : W'.heap[b]? = W.heap[b]?) (o : Nat) : W'.cell? ⟨b, o, none⟩ = W.cell? ⟨b, o, none⟩ := by
  unfold World.cell?
  simp only [h]
theorem frozen_of_block {W W' : World} {b : Nat} (h : W'.heap[b]? = W.heap[b]?) (o : Nat) : W'.frozen? ⟨b, o, none⟩ = W.frozen? ⟨b, o, none⟩ := by
  unfold World.frozen?
  simp only [h]
theorem Rows.same {R : Nat → Prop} {W W' : World} {sv : Value} {rs : List RV} (hR : ∀ j, R j → W'.heap[j]? = W.heap[j]?) : Rows R W sv rs → Rows R W' sv rs
  | .inl e => .inl e
  | .inr ⟨b, off, cap, e, hb, hc⟩ => .inr ⟨b, off, cap, e, hb, fun j hj => (cell_of_block (hR b hb) _).trans (hc j hj)⟩
/-- what has come when k rounds are over -/
def upto {α : Type} (f : Nat → α) (k : Nat) : List α := (List.range k).map f
theorem upto_succ {α : Type} (f : Nat → α) (k : Nat) : upto f (k + 1) = upto f k ++ [f k] := by simp [upto, List.range_succ]
theorem upto_length {α : Type} (f : Nat → α) (k : Nat) : (upto f k).length = k := by simp [upto]
theorem upto_all (rs : List RV) : upto (fun j => (rs[j]?.getD RV.nil, (0 : Int))) rs.length = rs.map (fun r => (r, 0)) := by
  apply List.ext_getElem
  · simp [upto]
  · intro i h1 h2
    have : i < rs.length := by simpa using h2
    simp [upto, this]
theorem upto_pre (rs : List RV) (k : Nat) (hk : k ≤ rs.length) : upto (fun j => (rs[j]?.getD RV.nil, (0 : Int))) k <+: rs.map (fun r => (r, 0)) := by
  rw [← upto_all]
  obtain ⟨d, hd⟩ : ∃ d, rs.length = k + d := ⟨rs.length - k, by omega⟩
  rw [hd]
  unfold upto
  rw [List.range_add, List.map_append]
  exact List.prefix_append _ _
set_option maxRecDepth 100000 in
set_option maxHeartbeats 2000000 in
theorem list1_in (F : Fence) (n : Nat) (h41 : F.fn 41) (hro : F.round = none) (hn : 1 ≤ n) (l Bs b off cap : Nat) (rs : List RV) (hreach : rs.length * 24 ≤ 140737488351232)
    (J Jx : List (RV × Int) → (Nat → Prop) → World → Prop) (X : Nat → Prop) (W : World) (hX : ∀ j, X j → j < W.heap.size) (hb : b < W.heap.size ∧ ¬ X b)
    (hY : ∀ pre x X1 W1, (pre ++ [x]) <+: rs.map (fun r => (r, (0 : Int))) → J pre X1 W1 → Gr X X1 W.heap.size W W1 → YieldAt F (n - 1) Try.prog l (enc x) W1 fun e W' =>
      ∃ X', Gr X1 X' W1.heap.size W1 W' ∧ ((e = .returned (.bool true) ∧ J (pre ++ [x]) X' W') ∨ (e = .returned (.bool false) ∧ Jx (pre ++ [x]) X' W')))
    (hBs : W.cell? ⟨Bs, 0, none⟩ = some (.slice (some ⟨b, off, none⟩) rs.length cap)) (hc : ∀ j, j < rs.length → W.cell? ⟨b, off + j, none⟩ = some ((rs[j]?.getD RV.nil).v)) (h0 : J [] X W) :
    CallsIn F n Try.prog 41 #[.func (.yield l) #[] #[], .pointer (some ⟨Bs, 0, none⟩)] W fun e W' => (∃ v, e = .returned v) ∧
      ∃ X', Gr X X' W.heap.size W W' ∧ (J (rs.map (fun r => (r, 0))) X' W' ∨ ∃ pre, pre <+: rs.map (fun r => (r, (0 : Int))) ∧ Jx pre X' W') := by
  refine callsIn_of_wp Try.func41 rfl h41 ?_ hro
  simp only [Try.ntmps41, List.size_toArray, List.length_cons, List.length_nil, Nat.reduceAdd, Nat.reduceSub, Array.replicate_succ, Array.replicate_zero, List.push_toArray, List.append_toArray, List.nil_append, List.cons_append]
  gi_wp2
  gi_loopw [7] (fun i wr => ∃ (k : Nat) (Xr : Nat → Prop), k ≤ rs.length ∧ i = .int .i64 k ∧ J (upto (fun j => (rs[j]?.getD RV.nil, (0 : Int))) k) Xr wr ∧ Gr X Xr W.heap.size W wr)
    (fun i _ => rs.length - (intOf i).toNat)
  case atStart => exact ⟨0, X, Nat.zero_le _, rfl, h0, Gr.refl _ _ hX⟩
  case round =>
    obtain ⟨k, Xr, hk, rfl, hJs, hg⟩ := hrel
    by_cases hlt : k < rs.length
    · have hcx := (cell_of_block (hg.block b hb.1 hb.2) (off + k)).trans (hc k hlt)
      have hpre := upto_pre rs (k + 1) hlt
      rw [upto_succ] at hpre
      have hsuc := upto_succ (fun j => (rs[j]?.getD RV.nil, (0 : Int))) k
      obtain ⟨r, hr⟩ : ∃ r, rs[k]?.getD RV.nil = r := ⟨_, rfl⟩
      rw [hr] at hcx hpre hsuc
      obtain ⟨ra, rn, rc⟩ := r
      obtain ⟨fn, tmps, assign, body, hy, hR⟩ := hY _ (⟨ra, rn, rc⟩, 0) Xr wr hpre hJs hg
      dsimp only [enc, RV.v] at hy hcx
      clear hr
      gi_wp2
      refine hR.mono ?_
      rintro e W3 ⟨X3, hg3, (⟨rfl, hJ3⟩ | ⟨rfl, hJx3⟩)⟩
      · gi_wp2
        go_roundw
        case rel => exact ⟨k + 1, X3, by omega, by simp, by rw [hsuc]; exact hJ3, hg.trans hg3 hg.size⟩
        case measure => simp [intOf]; omega
      · gi_wp2
        refine bodyPost_ret (results_none rfl _ _ _) rfl ?_
        exact ⟨⟨_, rfl⟩, X3, hg.trans hg3 hg.size, .inr ⟨_, hpre, hJx3⟩⟩
    · obtain rfl : k = rs.length := by omega
      gi_wp2
      go_end0
      exact ⟨⟨_, rfl⟩, Xr, hg, .inl (by rw [← upto_all]; exact hJs)⟩
end Go.Proofs.Ytghpjlohoehdnaa.Sep
