/- A cell is taken out of a page's cells, and room is made for one: what the bytes become. No condition beyond those that each theorem names. -/
import Derived.Test.YtinbppcfdmbclaaPagH
namespace Go.Proofs.Ytinbppcfdmbclaa.Pg
open Go.RowKit
set_option linter.unusedVariables false
set_option linter.unusedSimpArgs false
theorem splice_at {b P Q R Q' : List UInt8} {o : Nat} (hb : b = P ++ (Q ++ R)) (hP : P.length = o) (hQ : Q.length = Q'.length) : splice b o Q' = P ++ (Q' ++ R) := by
  rw [hb]; exact splice_mid hP hQ
theorem part_at {b P Q R : List UInt8} {o n : Nat} (hb : b = P ++ (Q ++ R)) (hP : P.length = o) (hQ : Q.length = n) : (b.drop o).take n = Q := by
  rw [hb]; exact drop_take_mid hP hQ
theorem rep3 (a b c d : Nat) (X : List UInt8) (h : d = a + (b + c)) : List.replicate a (0 : UInt8) ++ (List.replicate b 0 ++ (List.replicate c 0 ++ X)) = List.replicate d 0 ++ X := by
  subst h
  rw [← List.append_assoc (List.replicate b 0), List.replicate_append_replicate, ← List.append_assoc, List.replicate_append_replicate]
theorem headB_length (kind : UInt8) (L : List S66) : (headB kind L).length = 8 := rfl
theorem used_head (kind x y z : UInt8) (r : List UInt8) : usedB (kind :: x :: y :: z :: r) = y.toNat + 256 * z.toNat := by simp [usedB, at_]
theorem len_head (kind x : UInt8) (r : List UInt8) : at_ (kind :: x :: r) 1 = x.toNat := by simp [at_]
theorem used_headB (kind : UInt8) (L : List S66) (r : List UInt8) (h : total L < 65536) : usedB (headB kind L ++ r) = total L := by
  rw [headB, List.cons_append, List.cons_append, List.cons_append, List.cons_append, used_head, by_at _ (show total L / 256 < 256 by omega)]
  simp [by_]; omega
theorem len_headB (kind : UInt8) (L : List S66) (r : List UInt8) (h : L.length < 256) : at_ (headB kind L ++ r) 1 = L.length := by
  rw [headB, List.cons_append, List.cons_append, len_head, by_at _ h]
theorem sets_headB (kind : UInt8) (L M : List S66) (r : List UInt8) (n u : Nat) (hn : n = M.length) (hu : u = total M) : setsB (headB kind L ++ r) n u = headB kind M ++ r := by
  subst hn; subst hu
  simp [headB, setsB]
theorem closes_L {w : World} {g : Nat} {kind : UInt8} (A B : List S66) (c : S66) (h : PGL w g kind (A ++ c :: B)) : Calls Try.prog 41 #[.pointer (some ⟨g, 0, none⟩), .int .i64 (A.length : Int)] w fun e w' => e = .returned (.tuple #[]) ∧ PGL w' g kind (A ++ B) ∧ BelX g w w' := by
  have hf := h.cells.fits
  have hla : (A ++ c :: B).length = A.length + 1 + B.length := by simp; omega
  have hta : total (A ++ c :: B) = total A + (cz c + total B) := by rw [total_append, total]
  have hlb : (A ++ B).length = A.length + B.length := by simp
  have htb : total (A ++ B) = total A + total B := total_append A B
  have hcz : 1 ≤ cz c ∧ cz c ≤ 100 := by have := h.cells.each c (by simp); unfold cz; omega
  have hcb : ∀ x ∈ B, 1 ≤ cz x := fun x hx => by have := h.cells.each x (by simp [hx]); unfold cz; omega
  have hcells : Cells (A ++ B) := by
    refine ⟨by unfold Fits at hf ⊢; omega, fun x hx => h.cells.each x (by simp at hx ⊢; rcases hx with h | h <;> simp [h]), ?_⟩
    exact h.cells.asc.sublist (List.Sublist.append_left (List.sublist_cons_self c B) A)
  unfold Fits at hf
  have ek := enc_fromB kind _ h.cells A.length (by omega)
  have ek' := enc_fromB' kind _ h.cells A.length (by omega)
  have el := enc_fromB' kind _ h.cells (A.length + B.length) (by omega)
  rw [show A ++ c :: B = (A ++ [c]) ++ B from by simp] at ek'
  rw [List.take_left' rfl] at ek
  rw [List.take_left' (by simp), total_append] at ek'
  rw [List.take_of_length_le (by omega)] at el
  simp only [total] at ek'
  have hdl := dirB_length A 256
  have hbl := dirB_length B (256 - total A - cz c)
  have hcl := cellsB_length B
  have hca := cellsB_length A
  have hcc := cellB_length c
  -- the bytes
  have hb := enc_parts kind A (c :: B)
  have hb0 : encB kind (A ++ c :: B) = headB kind (A ++ c :: B) ++ (dirB 256 A ++ ([by_ (256 - total A - cz c), by_ c.f0.size] ++ (dirB (256 - total A - cz c) B ++ (List.replicate (248 - 2 * (A.length + 1 + B.length) - (total A + (cz c + total B))) 0 ++ ((cellsB B ++ cellB c) ++ cellsB A))))) := by
    rw [hb]; simp only [dirB, cellsB, total, List.length_cons, List.cons_append, List.nil_append, List.append_assoc]
    rw [show A.length + (B.length + 1) = A.length + 1 + B.length from by omega]
  clear hb
  obtain ⟨z, hz⟩ : ∃ z, 248 - 2 * (A.length + 1 + B.length) - (total A + (cz c + total B)) = z := ⟨_, rfl⟩
  rw [hz] at hb0
  have hP : (headB kind (A ++ c :: B) ++ (dirB 256 A ++ ([by_ (256 - total A - cz c), by_ c.f0.size] ++ (dirB (256 - total A - cz c) B ++ List.replicate z 0)))).length = 256 - total (A ++ c :: B) := by
    simp only [List.length_append, headB_length, hdl, hbl, List.length_cons, List.length_nil, List.length_replicate]; omega
  have hb1 : encB kind (A ++ c :: B) = (headB kind (A ++ c :: B) ++ (dirB 256 A ++ ([by_ (256 - total A - cz c), by_ c.f0.size] ++ (dirB (256 - total A - cz c) B ++ List.replicate z 0)))) ++ (cellsB B ++ (cellB c ++ cellsB A)) := by
    rw [hb0]; simp only [List.append_assoc]
  have p1 := part_at (n := 256 - total A - cz c - (256 - total (A ++ c :: B))) hb1 hP (by omega)
  have hb2 : encB kind (A ++ c :: B) = ((headB kind (A ++ c :: B) ++ (dirB 256 A ++ ([by_ (256 - total A - cz c), by_ c.f0.size] ++ (dirB (256 - total A - cz c) B ++ List.replicate z 0)))) ++ (cellsB B ++ cellB c).take (cz c)) ++ ((cellsB B ++ cellB c).drop (cz c) ++ cellsB A) := by
    rw [hb1]
    conv => rhs; rw [List.append_assoc]; arg 2; rw [← List.append_assoc, List.take_append_drop]
    simp only [List.append_assoc]
  have q1 := splice_at (o := 256 - total (A ++ c :: B) + cz c) (Q' := cellsB B) hb2 (by rw [List.length_append, hP, List.length_take, List.length_append]; omega) (by rw [List.length_drop, List.length_append]; omega)
  rw [List.append_assoc] at q1
  have q2 := splice_at (o := 256 - total (A ++ c :: B)) (Q' := List.replicate (cz c) 0) q1 hP (by rw [List.length_take, List.length_append, List.length_replicate]; omega)
  have Q2 : closeB1 (encB kind (A ++ c :: B)) (cz c) (256 - total (A ++ c :: B)) (256 - total A - cz c) = headB kind (A ++ c :: B) ++ (dirB 256 A ++ ([by_ (256 - total A - cz c), by_ c.f0.size] ++ (dirB (256 - total A - cz c) B ++ (List.replicate z 0 ++ (List.replicate (cz c) 0 ++ (cellsB B ++ cellsB A)))))) := by
    rw [closeB1, p1, q2]; simp only [List.append_assoc]
  obtain ⟨R, hR⟩ : ∃ R, List.replicate z 0 ++ (List.replicate (cz c) 0 ++ (cellsB B ++ cellsB A)) = R := ⟨_, rfl⟩
  rw [hR] at Q2
  have Q3 : closeB1 (encB kind (A ++ c :: B)) (cz c) (256 - total (A ++ c :: B)) (256 - total A - cz c) = (headB kind (A ++ c :: B) ++ (dirB 256 A ++ [by_ (256 - total A - cz c), by_ c.f0.size])) ++ (dirB (256 - total A - cz c) B ++ R) := by
    rw [Q2]; simp only [List.append_assoc]
  have p3 := part_at (o := 8 + 2 * (A.length + 1)) (n := 8 + 2 * (A.length + 1 + B.length) - (8 + 2 * (A.length + 1))) Q3 (by simp only [List.length_append, headB_length, hdl, List.length_cons, List.length_nil]; omega) (by omega)
  have Q4 : closeB1 (encB kind (A ++ c :: B)) (cz c) (256 - total (A ++ c :: B)) (256 - total A - cz c) = (headB kind (A ++ c :: B) ++ dirB 256 A) ++ (([by_ (256 - total A - cz c), by_ c.f0.size] ++ dirB (256 - total A - cz c) B).take (2 * B.length) ++ (([by_ (256 - total A - cz c), by_ c.f0.size] ++ dirB (256 - total A - cz c) B).drop (2 * B.length) ++ R)) := by
    rw [Q2]
    conv => rhs; arg 2; rw [← List.append_assoc, List.take_append_drop]
    simp only [List.append_assoc]
  have q5 := splice_at (o := 8 + 2 * A.length) (Q' := dirB (256 - total A - cz c) B) Q4 (by rw [List.length_append, headB_length, hdl]) (by rw [List.length_take, List.length_append, hbl]; simp only [List.length_cons, List.length_nil]; omega)
  obtain ⟨Y, hY⟩ : ∃ Y, ([by_ (256 - total A - cz c), by_ c.f0.size] ++ dirB (256 - total A - cz c) B).drop (2 * B.length) = Y := ⟨_, rfl⟩
  have hYl : Y.length = 2 := by rw [← hY, List.length_drop, List.length_append, hbl]; simp
  rw [hY] at q5
  have Q5 : closeB (encB kind (A ++ c :: B)) A.length (cz c) (256 - total (A ++ c :: B)) (256 - total A - cz c) (A.length + 1 + B.length) = headB kind (A ++ c :: B) ++ (dirB 256 A ++ (dirB (256 - total A - cz c) B ++ (Y ++ R))) := by
    rw [closeB, p3, q5]; simp only [List.append_assoc]
  have Q6 := sets_headB kind (A ++ c :: B) (A ++ B) (dirB 256 A ++ (dirB (256 - total A - cz c) B ++ (Y ++ R))) (A.length + 1 + B.length - 1) (total (A ++ c :: B) - cz c) (by omega) (by omega)
  rw [← Q5] at Q6
  have Q7 : setsB (closeB (encB kind (A ++ c :: B)) A.length (cz c) (256 - total (A ++ c :: B)) (256 - total A - cz c) (A.length + 1 + B.length)) (A.length + 1 + B.length - 1) (total (A ++ c :: B) - cz c) = (headB kind (A ++ B) ++ (dirB 256 A ++ dirB (256 - total A - cz c) B)) ++ (Y ++ R) := by
    rw [Q6]; simp only [List.append_assoc]
  have q8 := splice_at (o := 8 + 2 * (A.length + 1 + B.length - 1)) (Q' := List.replicate 2 0) Q7 (by simp only [List.length_append, headB_length, hdl, hbl]; omega) (by rw [hYl, List.length_replicate])
  have hPl : (headB kind (A ++ B) ++ dirB 256 A).length = 8 + 2 * A.length := by rw [List.length_append, headB_length, hdl]
  have hfin := halfB_all (headB kind (A ++ B) ++ dirB 256 A) (List.replicate 2 0 ++ R) (256 - total A - cz c) (256 - total A) B
  have henc : halfB (headB kind (A ++ B) ++ dirB 256 A) (List.replicate 2 0 ++ R) (256 - total A - cz c) (256 - total A) B B.length = encB kind (A ++ B) := by
    rw [hfin, enc_parts, ← hR]
    simp only [List.append_assoc]
    rw [rep3 2 z (cz c) (248 - 2 * (A.length + B.length) - (total A + total B)) _ (by omega)]
  have hmain := closes_pg h.pg A.length (cz c) (256 - total (A ++ c :: B)) (256 - total A - cz c) (256 - total A) (A.length + 1 + B.length) (total (A ++ c :: B)) (halfB (headB kind (A ++ B) ++ dirB 256 A) (List.replicate 2 0 ++ R) (256 - total A - cz c) (256 - total A) B)
    (by rw [enc_len _ _ h.cells.fits, hla]) (by omega) (by omega)
    (by rw [← el]; exact congrArg _ (by omega)) (by rw [show A ++ c :: B = (A ++ [c]) ++ B from by simp, ek']; omega) ek (by omega) (by omega) (by omega) (by omega)
    (by rw [Q2, len_headB _ _ _ (by omega), hla]) (by rw [Q5, len_headB _ _ _ (by omega), hla]) (by rw [Q5, used_headB _ _ _ (by omega)]) (by omega)
    (by rw [halfB_zero, q8]; simp only [List.append_assoc]) (by rw [Q6, len_headB _ _ _ (by omega), hlb]; omega)
    (fun m hm => by rw [halfB_low _ _ _ _ _ _ _ (by rw [hPl]; omega), len_headB _ _ _ (by omega), hlb]; omega)
    (fun m hm => by
      have hm' : m < B.length := by omega
      have h1 := halfB_at (headB kind (A ++ B) ++ dirB 256 A) (List.replicate 2 0 ++ R) (256 - total A - cz c) (256 - total A) B m hm' (by omega) (hcb _ (List.getElem_mem hm')) (by omega)
      have h2 := halfB_step (headB kind (A ++ B) ++ dirB 256 A) (List.replicate 2 0 ++ R) (256 - total A - cz c) (256 - total A) B m hm'
      have h3 := total_take_le B (m + 1)
      have h4 := total_take_succ B m hm'
      have h5 := hcb _ (List.getElem_mem hm')
      rw [hPl] at h1 h2
      rw [show 8 + 2 * (A.length + m) = 8 + 2 * A.length + 2 * m from by omega, h1]
      refine ⟨by omega, ?_⟩
      rw [← h2]; congr 2; omega)
  rw [show A.length + 1 + B.length - 1 - A.length = B.length from by omega, henc] at hmain
  exact hmain.mono fun e w' ⟨h1, h2, h3⟩ => ⟨h1, ⟨h2, hcells⟩, h3⟩
end Go.Proofs.Ytinbppcfdmbclaa.Pg
