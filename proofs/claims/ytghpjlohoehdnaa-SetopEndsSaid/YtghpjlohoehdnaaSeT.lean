/- A map of slices keyed by ints, as a function of its keys. No condition beyond those that each theorem names. -/
import Derived.Test.YtghpjlohoehdnaaSeJ
import Derived.Maps.Own
import Derived.Maps.Views
namespace Go.Proofs.Ytghpjlohoehdnaa.Sep
open Go Go.RowKit Go.Shelf
open Go.Maps (Keyed)
set_option linter.unusedVariables false
set_option linter.unusedSimpArgs false
/-- an element as a token -/
def RH (v : Value) : Option (DataW Value × List MemPlace) := some (.held v, [])
theorem law3 : Keyed Try.prog 3 := Maps.int_keyed Try.underlying3
theorem zero22 (w : World) : (zeroValue 22).run Try.prog w = .ok (.slice none 0 0) w := by kernel_rfl
/-- block B is a map of at most n entries that holds f's slice at each key -/
def MapF (W : World) (B n : Nat) (f : Int → Value) : Prop :=
  ∃ D : DataW Value, W.ownsMap Try.prog 3 RH B n D ∧ Maps.IsMap D ∧ ∀ h, (Lit.int .i64 h).wf = true → D.atKey (.int .i64 h) (.held (.slice none 0 0)) = .held (f h)
theorem MapF.made (w : World) : MapF (w.alloc (.map #[] 0)) w.heap.size 0 (fun _ => .slice none 0 0) :=
  ⟨.map [], World.ownsMap_made _ _ _ _, Maps.isMap_empty, fun h _ => rfl⟩
theorem MapF.kept {W W' : World} {B n : Nat} {f : Int → Value} (h : MapF W B n f) (hb : W'.heap[B]? = W.heap[B]?) : MapF W' B n f := by
  obtain ⟨D, ⟨es, clock, h1, h2⟩, hm, hf⟩ := h
  exact ⟨D, ⟨es, clock, hb.trans h1, h2⟩, hm, hf⟩
theorem MapF.lt {W : World} {B n : Nat} {f : Int → Value} (h : MapF W B n f) : B < W.heap.size := by
  obtain ⟨D, h, _⟩ := h
  exact h.lt
theorem MapF.isMap {W : World} {B n : Nat} {f : Int → Value} (h : MapF W B n f) : ∃ es clock, W.heap[B]? = some (.map es clock) := by
  obtain ⟨D, ⟨es, clock, h1, _⟩, _⟩ := h
  exact ⟨es, clock, h1⟩
theorem MapF.look {W : World} {B n : Nat} {f : Int → Value} (h : MapF W B n f) (k : Int) (hk : (Lit.int .i64 k).wf = true) : (Instr.lookup 82 (.map (some B)) (.int .i64 k) false).run Try.prog W = .ok (f k) W := by
  obtain ⟨D, ho, _, hf⟩ := h
  obtain ⟨v, ps, hrun, hv⟩ := ho.lookup (t := 82) (e := 22) law3 Try.underlying82 (zero22 W) (zd := .held (.slice none 0 0)) (zp := []) rfl (Maps.keyOf_int_mk Try.underlying3 hk)
  rw [hf k hk] at hv
  have : v = f k := by
    simp only [RH, Option.some.injEq, Prod.mk.injEq, DataW.held.injEq] at hv
    exact hv.1
  rw [← this]; exact hrun
theorem MapF.store {W : World} {B n : Nat} {f : Int → Value} (h : MapF W B n f) (hn : n < maxLen) (k : Int) (hk : (Lit.int .i64 k).wf = true) (v : Value) :
    ∃ W', (Instr.mapUpdate 82 (.map (some B)) (.int .i64 k) v).run Try.prog W = .ok () W' ∧ MapF W' B (n + 1) (fun j => if j = k then v else f j) ∧ W.grownBy W' (some B) ∧ W'.heap.size = W.heap.size := by
  obtain ⟨D, ⟨es, clock, hb, F, hs, rfl⟩, hm, hf⟩ := h
  have ho : W.ownsMap Try.prog 3 RH B n _ := ⟨es, clock, hb, F, hs, rfl⟩
  obtain ⟨es', clock', hrun, F', hput, _⟩ := Maps.fit_store (R' := RH) law3 (t := 82) (e := 22) Try.underlying82 hb F (Nat.lt_of_le_of_lt hs hn) (fun _ _ _ _ hz => hz) (Maps.keyOf_int_mk Try.underlying3 hk) (show RH v = some (.held v, []) from rfl)
  obtain ⟨W', hr2, ho2, hg⟩ := ho.update (t := 82) (e := 22) law3 Try.underlying82 hn (Maps.keyOf_int_mk Try.underlying3 hk) (show RH v = some (.held v, []) from rfl)
  refine ⟨W', hr2, ⟨_, ho2, hm.put _ _, ?_⟩, hg, ?_⟩
  · intro j hj
    by_cases e : j = k
    · subst e
      rw [Maps.atKey_put_same hm (show WideAt.IsKeyLit (Lit.int .i64 j) from trivial)]
      simp
    · rw [Maps.atKey_put_other (by simpa using e), hf j hj]
      simp [e]
  · rw [(Result.ok.inj (hr2.symm.trans hrun)).2]
    simp [ChangeMaps.setBlock]
end Go.Proofs.Ytghpjlohoehdnaa.Sep
