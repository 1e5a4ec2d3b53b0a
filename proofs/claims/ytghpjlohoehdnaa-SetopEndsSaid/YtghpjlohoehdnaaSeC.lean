/- slices.Clone of a row. No condition beyond those that each theorem names. -/
import Derived.Test.YtghpjlohoehdnaaSeL
import Derived.Maps.AppendAt
import Derived.OwnWalk
import Derived.Laws.Slices
import Derived.Laws.MakeOwn
import Derived.Tactics
import Derived.WalkSpells
import Derived.Lib.Hide
import Derived.Deep.LoopGhost
import Derived.Lib.Walk
import Derived.Lib.SliceRun
namespace Go.Proofs.Ytghpjlohoehdnaa.Sep
open Go Go.RowKit Go.Shelf
set_option linter.unusedVariables false
/-- a value as the machine holds it -/
structure V3 where
  k : Int
  n : Int
  s : ByteArray
def cells3 (v : V3) : List Value := [.int .i64 v.k, .int .i64 v.n, .string v.s]
/-- a row's cells -/
def flat : List V3 → List Value
  | [] => []
  | v :: r => .int .i64 v.k :: .int .i64 v.n :: .string v.s :: flat r
theorem flat_length : ∀ r : List V3, (flat r).length = r.length * 3
  | [] => rfl
  | v :: r => by simp only [flat, List.length_cons, flat_length r]; omega
theorem flat_one : ∀ r : List V3, ∀ u ∈ flat r, u.oneCell' = true
  | [], u, h => by cases h
  | v :: r, u, h => by
    simp only [flat, List.mem_cons] at h
    rcases h with rfl | rfl | rfl | h
    · rfl
    · rfl
    · rfl
    · exact flat_one r u h
/-- the row r holds the values row; an empty one may lie anywhere -/
def Cont (W : World) (r : RV) (row : List V3) : Prop :=
  (r.n = 0 ∧ row = []) ∨ ∃ b off, r.a = some ⟨b, off, none⟩ ∧ row.length = r.n ∧ b < W.heap.size ∧ ∀ j u, (flat row)[j]? = some u → W.cell? ⟨b, off + j, none⟩ = some u
/-- the block that a row lies in -/
def RV.blk (r : RV) (j : Nat) : Prop := r.n ≠ 0 ∧ ∃ off t, r.a = some ⟨j, off, t⟩
theorem Cont.same {W W' : World} {r : RV} {row : List V3} (hs : W.heap.size ≤ W'.heap.size) (hb : ∀ j, r.blk j → W'.heap[j]? = W.heap[j]?) : Cont W r row → Cont W' r row
  | .inl h => .inl h
  | .inr ⟨b, off, e, hl, hlt, hc⟩ => .inr ⟨b, off, e, hl, Nat.lt_of_lt_of_le hlt hs, fun j u hu => (cell_of_block (hb b ⟨fun h0 => by
      rw [h0] at hl
      have := List.eq_nil_of_length_eq_zero hl
      subst this
      simp [flat] at hu, off, _, e⟩) _).trans (hc j u hu)⟩
theorem Cont.blt {w : World} {q : RV} {row : List V3} (h : Cont w q row) : ∀ j, q.blk j → j < w.heap.size := fun j ⟨h0, o, t, e⟩ => by
  rcases h with ⟨h1, _⟩ | ⟨b, off, h1, _, h2, _⟩
  · exact absurd h1 h0
  · rw [h1] at e; injection e with e; injection e with e _ _; omega
theorem Cont.len {w : World} {q : RV} {row : List V3} (h : Cont w q row) : row.length = q.n := by
  rcases h with ⟨h1, h2⟩ | ⟨b, off, _, h1, _⟩
  · rw [h1, h2]; rfl
  · exact h1
theorem infoV : (Try.prog.info? 45).map (fun i => (i.zero, i.size, i.bytes)) = some (some (.agg #[.int .i64 0, .int .i64 0, .string ⟨#[]⟩]), 3, 32) := by kernel_rfl
set_option maxHeartbeats 2000000 in
set_option maxRecDepth 100000 in
theorem clone_some (b off n c : Nat) (row : List V3) (w : World) (hz : row.length = n) (hbig : n * 32 ≤ 140737488355328) (hc : ∀ j u, (flat row)[j]? = some u → w.cell? ⟨b, off + j, none⟩ = some u) :
    Calls Try.prog 42 #[.slice (some ⟨b, off, none⟩) n c] w fun e w' => ∃ v', e = .returned v' ∧ w'.ownsRow w.heap.size 45 3 v' n (flat row) ∧ v' ≠ .slice none 0 0 ∧ Below w.heap.size w w' := by
  obtain ⟨i0, hi, hz0, hz1, hz2⟩ := info_parts infoV
  have q48 : ∀ (w : World) (a : Option Addr) (n c n' c' : Nat), (binOp .eql 48 (.slice a n c) (.slice none n' c')).run Try.prog w = .ok (.bool a.isNone) w := fun w a n c n' c' => Lib.run_eql_slice_nil w _ _ a n c n' c' Try.underlying48
  have A : Aside (∀ j u, (flat row)[j]? = some u → w.cell? ⟨b, off + j, none⟩ = some u) := hc
  clear hc
  go_enter Try.func42, Try.ntmps42
  go_wp2_with (at_builtin; refine wpList_append_own _ rfl _ _ 48 rfl w.heap.size 45 i0 (.agg #[.int .i64 0, .int .i64 0, .string ⟨#[]⟩]) 3 32 Try.underlying48 hi hz0 hz1 hz2 rfl (by decide) _ _ _ rfl (World.ownsRow_made w #[] 0 (Nat.le_refl _) (Nat.zero_le _) rfl) ⟨b, off, none⟩ n c (flat row) rfl ?qc1 ?qc2 ?qc3 ?qc4 ?qc5 ?qc6 ?_)
  case qc1 => rw [flat_length, hz]
  case qc2 =>
    intro j u hj
    rw [Addr.add_lit]
    exact Lib.cell?_alloc_some _ (A.out j u hj)
  case qc3 => exact flat_one row
  case qc4 => unfold maxLen; omega
  case qc5 => omega
  case qc6 => simp
  intro v' w1 hown hgrow hnil
  go_wp2
  go_ret
  refine ⟨v', rfl, by simpa using hown, ?_, ?_⟩
  · exact hnil
  · exact ((Below.refl _ w).alloc (Nat.le_refl _) _).grown hgrow (by simp) (by intro k hk; simp [Value.ownBlock] at hk; omega)
set_option maxHeartbeats 1000000 in
theorem clone_none (n c : Nat) (w : World) : Calls Try.prog 42 #[.slice none n c] w fun e w' => e = .returned (.slice none 0 0) ∧ w' = w := by
  have q48 : ∀ (w : World) (a : Option Addr) (n c n' c' : Nat), (binOp .eql 48 (.slice a n c) (.slice none n' c')).run Try.prog w = .ok (.bool a.isNone) w := fun w a n c n' c' => Lib.run_eql_slice_nil w _ _ a n c n' c' Try.underlying48
  go_enter Try.func42, Try.ntmps42
  go_wp2
  go_ret
  exact ⟨rfl, rfl⟩
set_option maxHeartbeats 2000000 in
set_option maxRecDepth 100000 in
theorem clone_zero (a : Addr) (c : Nat) (w : World) :
    Calls Try.prog 42 #[.slice (some a) 0 c] w fun e w' => ∃ v', e = .returned v' ∧ w'.ownsRow w.heap.size 45 3 v' 0 [] ∧ Below w.heap.size w w' := by
  obtain ⟨i0, hi, hz0, hz1, hz2⟩ := info_parts infoV
  have q48 : ∀ (w : World) (a : Option Addr) (n c n' c' : Nat), (binOp .eql 48 (.slice a n c) (.slice none n' c')).run Try.prog w = .ok (.bool a.isNone) w := fun w a n c n' c' => Lib.run_eql_slice_nil w _ _ a n c n' c' Try.underlying48
  go_enter Try.func42, Try.ntmps42
  go_wp2_with (at_builtin; refine wpList_append_own _ rfl _ _ 48 rfl w.heap.size 45 i0 (.agg #[.int .i64 0, .int .i64 0, .string ⟨#[]⟩]) 3 32 Try.underlying48 hi hz0 hz1 hz2 rfl (by decide) _ _ _ rfl (World.ownsRow_made w #[] 0 (Nat.le_refl _) (Nat.zero_le _) rfl) a 0 c [] rfl ?qc1 ?qc2 ?qc3 ?qc4 ?qc5 ?qc6 ?_)
  case qc1 => rfl
  case qc2 =>
    intro j u hj
    simp at hj
  case qc3 =>
    intro u hu
    cases hu
  case qc4 => unfold maxLen; omega
  case qc5 => omega
  case qc6 => simp
  intro v' w1 hown hgrow hnil
  go_wp2
  go_ret
  refine ⟨v', rfl, by simpa using hown, ?_⟩
  exact ((Below.refl _ w).alloc (Nat.le_refl _) _).grown hgrow (by simp) (by intro k hk; simp [Value.ownBlock] at hk; omega)
/-- slices.Clone of any row: its values in a new block. -/
theorem clone_ok (r : RV) (row : List V3) (w : World) (h : Cont w r row) (hbig : r.n * 32 ≤ 140737488355328) :
    Calls Try.prog 42 #[.slice r.a r.n r.c] w fun e w' => ∃ r' : RV, e = .returned (.slice r'.a r'.n r'.c) ∧ Cont w' r' row ∧ (∀ j, r'.blk j → w.heap.size ≤ j) ∧ r'.n = row.length ∧ Below w.heap.size w w' := by
  rcases h with ⟨e2, rfl⟩ | ⟨b, off, e1, e2, e3, e4⟩
  · cases e1 : r.a with
    | none =>
      refine (clone_none r.n r.c w).mono ?_
      rintro e w' ⟨rfl, rfl⟩
      exact ⟨RV.nil, rfl, .inl ⟨rfl, rfl⟩, (by rintro j ⟨h, _⟩; exact absurd rfl h), rfl, Below.refl _ _⟩
    | some a =>
      rw [e2]
      refine (clone_zero a r.c w).mono ?_
      rintro e w' ⟨v', rfl, hown, hb⟩
      rcases hown.2 with ⟨rfl, _⟩ | ⟨g, cap, cur, rfl, _⟩
      · exact ⟨RV.nil, rfl, .inl ⟨rfl, rfl⟩, (by rintro j ⟨h, _⟩; exact absurd rfl h), rfl, hb⟩
      · exact ⟨⟨some ⟨g, 0, none⟩, 0, cap⟩, rfl, .inl ⟨rfl, rfl⟩, (by rintro j ⟨h, _⟩; exact absurd rfl h), rfl, hb⟩
  · rw [e1]
    refine (clone_some b off r.n r.c row w e2 hbig e4).mono ?_
    rintro e w' ⟨v', rfl, hown, hne, hb⟩
    rcases hown.2 with ⟨rfl, _⟩ | ⟨g, cap, cur, rfl, hg, hgb, h1, h2, h3, h4⟩
    · exact absurd rfl hne
    · refine ⟨⟨some ⟨g, 0, none⟩, r.n, cap⟩, rfl, .inr ⟨g, 0, rfl, e2, (Array.getElem?_eq_some_iff.1 hgb).1, ?_⟩, ?_, e2.symm, hb⟩
      · intro j u hj
        rw [← h4] at hj
        have hj2 := (List.getElem?_eq_some_iff.1 hj).1
        rw [List.length_take] at hj2
        rw [List.getElem?_take_of_lt (by omega)] at hj
        rw [Array.getElem?_toList] at hj
        unfold World.cell?
        simp only [hgb]
        simpa using hj
      · rintro j ⟨_, o, t, h⟩
        injection h with h
        injection h with h _ _
        omega
end Go.Proofs.Ytghpjlohoehdnaa.Sep
