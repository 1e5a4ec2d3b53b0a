/- The reference's Join, over lists of rows. No condition beyond those that each theorem names. -/
import Derived.Test.YtghpjlohoehdnaaSfD
namespace Go.Proofs.Ytghpjlohoehdnaa.Sep
open Go Go.RowKit Go.Shelf
set_option linter.unusedVariables false
set_option linter.unusedSimpArgs false
def refA (how : Int) (b : List (List V3)) : List (List V3) → List (List V3) → List (List V3)
  | out, [] => out
  | out, r :: l => refA how b (if (how == 2 || ((how == 3) == b.any fun s => eqRow s r)) && !(out.any fun s => eqRow s r) then out ++ [r] else out) l
def refB : List (List V3) → List (List V3) → List (List V3)
  | out, [] => out
  | out, r :: l => refB (if !(out.any fun s => eqRow s r) then out ++ [r] else out) l
def refL (how : Int) (a b : List (List V3)) : List (List V3) := if how = 1 then a ++ b else if how = 2 then refB (refA 2 b [] a) b else refA how b [] a
section
variable {P : Program} {w : World} {e : TypeId}
theorem run_append_none (base : Nat) (t ty e : TypeId) (i : TypeInfo) (size c : Nat) (ht : P.underlying t = some (.slice e)) (hi : P.info? e = some i)
    (v : Value) (n : Nat) (xs : List Value) (hown : w.ownsRow base e size v n xs) :
    (Builtin.append_ #[t, t] ty #[v, .slice none 0 c]).run P w = .ok v w := by
  rcases hown.2 with ⟨rfl, rfl⟩ | ⟨g, cap, cur, rfl, _, _, hnc, _⟩
  · simp [Builtin.append_, run_underlying ht, sizeOf, typeInfo, hi, Builtin.lenOf, Builtin.firstCells]
  · simp [Builtin.append_, run_underlying ht, sizeOf, typeInfo, hi, Builtin.lenOf, Builtin.firstCells, hnc, storeCells]
end
theorem wpList_append_run {P : Program} {w w' : World} {ops : Array Oper} {rest : List Oper} {o : Oper} {a : Act} {Q : Exit → Act → World → Prop} {s x : Operand} {t : TypeId} {v' : Value} (hgd : o.guard = none)
    (ho : o.op = .call { callee := .builtin .append, args := #[s, x], argTypes := #[t, t] }) (hrun : (Builtin.append_ #[t, t] o.type #[a.eval s, a.eval x]).run P w = .ok v' w') (h : wpList P ops Q rest (a.put o.dst v') w') : wpList P ops Q (o :: rest) a w := by
  refine wpList_plain hgd fun K hK => ?_
  unfold Oper.wp
  simp [execOp, ho, resolve, invoke, builtin, hrun, Result.andThen]
  exact hK _ _ h
/-- 'append(out, l...)' of a list of rows -/
theorem append_lst {W : World} {N n : Nat} {v sv : Value} {xs : List Value} {rs : List RV} (hN : N ≤ W.heap.size) (ho : W.ownsRow N 48 1 v n xs) (hl : (∃ a c, sv = .slice a 0 c ∧ rs = []) ∨ ∃ b off c, sv = .slice (some ⟨b, off, none⟩) rs.length c ∧ ∀ j, j < rs.length → W.cell? ⟨b, off + j, none⟩ = some ((rs[j]?.getD RV.nil).v))
    (hb : n + rs.length ≤ 200000) : ∃ v' w', (Builtin.append_ #[22, 22] 22 #[v, sv]).run Try.prog W = .ok v' w' ∧ w'.ownsRow N 48 1 v' (n + rs.length) (xs ++ rs.map RV.v) ∧ W.grownBy w' v.ownBlock := by
  obtain ⟨i0, hi, hz0, hz1, hz2⟩ := info_parts infoR
  rcases hl with ⟨a, c, rfl, rfl⟩ | ⟨b, off, c, rfl, hcs⟩
  · cases a with
    | none => exact ⟨v, W, run_append_none N 22 22 48 i0 1 c Try.underlying22 hi v n xs ho, by simpa using ho, ⟨rfl, rfl, rfl, Nat.le_refl _, fun _ _ _ => rfl⟩⟩
    | some a =>
      obtain ⟨v', w', hr, h2, h3, _⟩ := run_append_own_at (P := Try.prog) W N 22 22 48 i0 (.slice none 0 0) 1 24 Try.underlying22 hi hz0 hz1 hz2 rfl (by decide) v n xs ho a 0 c [] rfl (fun j u hj => by simp at hj) (fun u hu => by cases hu) (by unfold maxLen; simp at hb; omega) (by simp at hb; omega) hN
      exact ⟨v', w', hr, by simpa using h2, h3⟩
  · obtain ⟨v', w', hr, h2, h3, _⟩ := run_append_own_at (P := Try.prog) W N 22 22 48 i0 (.slice none 0 0) 1 24 Try.underlying22 hi hz0 hz1 hz2 rfl (by decide) v n xs ho ⟨b, off, none⟩ rs.length c (rs.map RV.v) (by simp) (fun j u hj => by
        rw [Addr.add_lit]
        have hjl : j < rs.length := by have := (List.getElem?_eq_some_iff.1 hj).1; simpa using this
        rw [hcs j hjl, ← hj]
        simp [hjl]) (fun u hu => by obtain ⟨r, _, rfl⟩ := List.mem_map.1 hu; rfl) (by unfold maxLen; omega) (by omega) hN
    exact ⟨v', w', hr, h2, h3⟩
/-- a list's cells -/
theorem Own1.cells {W : World} {sv : Value} {rows : List (List V3)} : Own1 W sv rows → ∃ rs : List RV, rs.length = rows.length ∧ All2 (fun q row => Cont W q row ∧ q.n ≤ 1000) rs rows ∧
    ((∃ a c, sv = .slice a 0 c ∧ rs = []) ∨ ∃ b off c, sv = .slice (some ⟨b, off, none⟩) rs.length c ∧ b < W.heap.size ∧ ∀ j, j < rs.length → W.cell? ⟨b, off + j, none⟩ = some ((rs[j]?.getD RV.nil).v))
  | .inl ⟨a, c, h, h2⟩ => ⟨[], by rw [h2]; rfl, by rw [h2]; trivial, .inl ⟨a, c, h, rfl⟩⟩
  | .inr ⟨b, off, c, rs, h1, h2, h3, h4⟩ => ⟨rs, h4.len, h4, .inr ⟨b, off, c, h1, h2, h3⟩⟩
theorem all2_app {α β : Type} {P : α → β → Prop} : ∀ {l l' : List α} {m m' : List β}, All2 P l m → All2 P l' m' → All2 P (l ++ l') (m ++ m')
  | [], _, [], _, _, h => h
  | a :: l, _, b :: m, _, ⟨h1, h2⟩, h => ⟨h1, all2_app h2 h⟩
theorem own1_of_row {N : Nat} {W : World} {v : Value} {n : Nat} {rs : List RV} {rows : List (List V3)} (hn : n = rs.length) (h : W.ownsRow N 48 1 v n (rs.map RV.v)) (hr : All2 (fun r row => Cont W r row ∧ r.n ≤ 1000) rs rows) : Own1 W v rows := by
  have hx : W.ownsRow 0 48 1 v n (rs.map RV.v) := by
    refine ⟨h.1, ?_⟩
    rcases h.2 with h | ⟨g, cap, cur, rfl, _, h1⟩
    · exact .inl h
    · exact .inr ⟨g, cap, cur, rfl, Nat.zero_le _, h1⟩
  exact (ownB_of_row (N := 0) hn hx (hr.imp fun _ _ h => ⟨h.1, h.2, fun _ _ => Nat.zero_le _⟩)).own
theorem all2_below {W W' : World} {rs : List RV} {rows : List (List V3)} (hb : Below W.heap.size W W') (h : All2 (fun r row => Cont W r row ∧ r.n ≤ 1000) rs rows) : All2 (fun r row => Cont W' r row ∧ r.n ≤ 1000) rs rows :=
  h.imp fun _ _ h => ⟨h.1.below hb, h.2⟩
theorem own_shape {W : World} {N n : Nat} {v : Value} {xs : List Value} (h : W.ownsRow N 48 1 v n xs) : ∃ a c, v = .slice a n c := by
  rcases h.2 with ⟨rfl, h0⟩ | ⟨g, cap, cur, rfl, _⟩
  · exact ⟨_, _, by rw [h0]⟩
  · exact ⟨_, _, rfl⟩
theorem ownsRow_still {W W' : World} {N n : Nat} {v : Value} {xs : List Value} (h : W.ownsRow N 48 1 v n xs) (k : Still W W') : W'.ownsRow N 48 1 v n xs := ownsRow_same (fun j _ => by rw [k.1]) h
set_option maxRecDepth 100000 in
set_option maxHeartbeats 2000000 in
theorem ref_one (sa sb : Value) (ra rb : List (List V3)) (W : World) (hka : ra.length ≤ 90000) (hkb : rb.length ≤ 90000) (ha : Own1 W sa ra) (hb : Own1 W sb rb) :
    Calls Try.prog 14 #[.int .i64 1, sa, sb] W fun e W' => ∃ sv, e = .returned (.tuple #[sv, .int .i64 0]) ∧ Own1 W' sv (ra ++ rb) ∧ Below W.heap.size W W' := by
  obtain ⟨rsa, la, pa, ca⟩ := ha.cells
  obtain ⟨rsb, lb, pb, cb⟩ := hb.cells
  obtain ⟨v1, w1, hr1, o1, g1⟩ := append_lst (Nat.le_refl _) (World.ownsRow_nil W W.heap.size 48 1) (ca.imp id fun ⟨b, off, c, h1, _, h2⟩ => ⟨b, off, c, h1, h2⟩) (by omega)
  rw [Nat.zero_add, List.nil_append] at o1
  have b1 : Below W.heap.size W w1 := (Below.refl _ W).grown g1 (Nat.le_refl _) (fun k hk => by cases hk)
  obtain ⟨v2, w2, hr2, o2, g2⟩ := append_lst (rs := rsb) b1.size o1 (cb.imp id fun ⟨b, off, c, h1, h0, h2⟩ => ⟨b, off, c, h1, fun j hj => (cell_of_block (b1.block b h0) _).trans (h2 j hj)⟩) (by omega)
  have b2 : Below W.heap.size W w2 := b1.grown g2 b1.size (fun k hk => by
    rcases o1.2 with ⟨rfl, _⟩ | ⟨g, cap, cur, rfl, h, _⟩
    · cases hk
    · injection hk with hk; subst hk; exact h)
  have hfin : Own1 w2 v2 (ra ++ rb) := own1_of_row (n := rsa.length + rsb.length) (rs := rsa ++ rsb) (by simp) (by simpa using o2) (all2_app (all2_below b2 pa) (all2_below b2 pb))
  obtain ⟨va, vk, vc, rfl⟩ := hfin.shp
  obtain ⟨ya, yk, yc, rfl⟩ := ha.shp
  obtain ⟨za, zk, zc, rfl⟩ := hb.shp
  obtain ⟨xa, xc, rfl⟩ := own_shape o1
  clear o1 o2 g1 g2 ca cb la lb pa pb
  go_enter Try.func14, Try.ntmps14
  go_wp2_with (first | (at_builtin; refine wpList_append_run rfl rfl hr1 ?_) | (at_builtin; refine wpList_append_run rfl rfl hr2 ?_))
  refine bodyPost_ret (results_tmp2 rfl _ _ _) rfl ?_
  exact ⟨_, rfl, hfin, b2⟩
end Go.Proofs.Ytghpjlohoehdnaa.Sep
