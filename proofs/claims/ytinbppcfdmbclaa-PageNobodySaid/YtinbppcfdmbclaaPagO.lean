/- A page's Copy, walked. No condition beyond those that each theorem names. -/
import Derived.Test.YtinbppcfdmbclaaPagN
import Derived.Laws.Rows
namespace Go.Proofs.Ytinbppcfdmbclaa.Pg
open Go.RowKit Go.Proofs.YtinbppcfdmbclaaW.PrintWords Go.Proofs.YtinbppcfdmbclaaW.PrintLast Go.Proofs.YtinbppcfdmbclaaW.PrintMore
set_option linter.unusedVariables false
set_option linter.unusedSimpArgs false
theorem pgl_size (l : List UInt8) (hl : l.length = 256) : (pgL l).toArray.size = 257 := by simp [pgL, hl]
theorem info58 : (Try.prog.info? 58).map (·.size) = some 257 := by kernel_rfl
theorem load58 {w : World} {g : Nat} {b : List UInt8} (h : PG w g b) : (loadVar 58 ⟨g, 0, none⟩).run Try.prog w = .ok (.agg (pgL b).toArray) w := by
  refine run_loadVar_row (P := Try.prog) w g 58 58 _ (0, 0) _ h.blk Try.underlying58 rfl ?_
  rw [info58, pgl_size _ h.len]
theorem pgl_one (b : List UInt8) : ∀ v ∈ pgL b, v.oneCell' = true := by
  intro v hv
  rw [pgL, List.mem_append] at hv
  rcases hv with hv | hv
  · exact u8_one b v hv
  · simp at hv; subst hv; rfl
theorem store58 (w : World) (b : List UInt8) (hb : b.length = 256) : ∃ w2, (storeVar 58 ⟨w.heap.size, 0, none⟩ (.agg (pgL b).toArray)).run Try.prog (w.alloc (.cells zero58 58)) = .ok () w2 ∧ PG w2 w.heap.size b ∧ Below w.heap.size w w2 := by
  have hg : (w.alloc (.cells zero58 58)).heap[w.heap.size]? = some (.cells zero58 58 (0, 0)) := by rw [heap_alloc_new]
  have hst := run_storeCells_at Try.prog w.heap.size 0 58 (pgL b) 0 _ (w.alloc (.cells zero58 58)) hg (by rw [zero58_size]; simp [pgL, hb]) (pgl_one b)
  have hcs : (zero58.toList.take (0 + 0) ++ pgL b ++ zero58.toList.drop (0 + 0 + (pgL b).length)) = pgL b := by
    have hz : zero58.toList.length = 257 := by rw [Array.length_toList]; exact zero58_size
    have hp : (pgL b).length = 257 := by simp [pgL, hb]
    rw [List.drop_of_length_le (by omega)]; simp
  rw [hcs] at hst
  refine ⟨(w.alloc (.cells zero58 58)).setRow w.heap.size (pgL b).toArray, ?_, ⟨setRow_heap _ _ _ _ 58 (0, 0) hg, hb⟩, ?_⟩
  · obtain ⟨i, hi, his⟩ := Option.map_eq_some_iff.1 info58
    have hsz := pgl_size b hb
    generalize hcells : (pgL b).toArray = cells at *
    have hcl : cells.toList = pgL b := by rw [← hcells]
    rw [← hcl] at hst
    simp only [storeVar, sizeOf, typeInfo, hi, Value.cells, Sem.run_bind, Sem.run_pure, Result.andThen_ok, his, hsz, bne_self_eq_false, Bool.false_eq_true, if_false]
    exact hst
  · exact ((Below.refl _ _).alloc (Nat.le_refl _) _).trans ⟨rfl, rfl, rfl, by simp [World.setRow], fun k hk => setRow_other _ _ _ _ (by omega)⟩
theorem wpList_store58 {ops : Array Oper} {rest : List Oper} {o : Oper} {a : Act} {w : World} {Q : Exit → Act → World → Prop} (ty : TypeId) (hgd : o.guard = none) (x y : Operand) (ho : o.op = .store ty x y)
    (b : Nat) (v : Value) (hx : a.eval x = .pointer (some ⟨b, 0, none⟩)) (hy : a.eval y = v) (w2 : World) (hs : (storeVar ty ⟨b, 0, none⟩ v).run Try.prog w = .ok () w2)
    (h : wpList Try.prog ops Q rest (a.put o.dst undef) w2) : wpList Try.prog ops Q (o :: rest) a w :=
  wpList_plain hgd fun _ hK => by
    unfold Oper.wp execOp
    simp only [ho, hx, hy, Instr.storeAt, Instr.sureAddr, Sem.run_bind, Sem.run_pure, Result.andThen_ok, hs]
    exact hK _ _ h
set_option maxRecDepth 100000 in
set_option maxHeartbeats 4000000 in
theorem Copy_L {w : World} {g : Nat} {kind : UInt8} {L : List S66} (h : PGL w g kind L) : Calls Try.prog 28 #[.pointer (some ⟨g, 0, none⟩)] w fun e w' => ∃ g2, e = .returned (.pointer (some ⟨g2, 0, none⟩)) ∧ w.heap.size ≤ g2 ∧ PGL w' g2 kind L ∧ Below w.heap.size w w' := by
  have HG := Aside0.mk (given_pg h.pg)
  have HBk := Aside0.mk h.pg.blk
  have HSz := Aside0.mk (show (Try.prog.info? 58).map (·.size) = some (pgL (encB kind L)).toArray.size from by rw [info58, pgl_size _ h.pg.len])
  have hz := zero58_run w
  obtain ⟨w2, hs2, hp2, hb2⟩ := store58 w _ h.pg.len
  have HS := Aside0.mk hs2
  have HP := Aside0.mk (show PGL w2 w.heap.size kind L from ⟨hp2, h.cells⟩)
  have HB := Aside0.mk hb2
  clear h hp2 hb2 hs2
  generalize (pgL (encB kind L)).toArray = C at *
  go_enter Try.func28, Try.ntmps28
  go_wp2_with fail
  refine HG.out.mono ?_; rintro e w' ⟨rfl, rfl⟩
  go_wp2_with (first | (refine wpList_load_row (P := Try.prog) rfl 58 _ rfl _ rfl 58 _ (0, 0) _ HBk.out Try.underlying58 rfl HSz.out ?_) | (refine wpList_store58 58 rfl _ _ rfl _ _ rfl rfl _ HS.out ?_))
  go_ret
  exact ⟨_, rfl, Nat.le_refl _, HP.out, HB.out⟩
end Go.Proofs.Ytinbppcfdmbclaa.Pg
