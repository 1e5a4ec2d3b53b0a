/- Room is made for a cell in a page: what the bytes become. No condition beyond those that each theorem names. -/
import Derived.Test.YtinbppcfdmbclaaPagI
namespace Go.Proofs.Ytinbppcfdmbclaa.Pg
open Go.RowKit
set_option linter.unusedVariables false
set_option linter.unusedSimpArgs false
/-- a page's head, of a count and a size -/
def headN (kind : UInt8) (n u : Nat) : List UInt8 := [kind, by_ n, by_ u, by_ (u / 256), 0, 0, 0, 0]
theorem headB_N (kind : UInt8) (L : List S66) : headB kind L = headN kind L.length (total L) := rfl
theorem headN_length (kind : UInt8) (n u : Nat) : (headN kind n u).length = 8 := rfl
theorem sets_headN (kind : UInt8) (n' u' n u : Nat) (r : List UInt8) : setsB (headN kind n' u' ++ r) n u = headN kind n u ++ r := by simp [headN, setsB]
theorem len_headN (kind : UInt8) (n u : Nat) (r : List UInt8) (h : n < 256) : at_ (headN kind n u ++ r) 1 = n := by
  rw [headN, List.cons_append, List.cons_append, len_head, by_at _ h]
theorem used_headN (kind : UInt8) (n u : Nat) (r : List UInt8) (h : u < 65536) : usedB (headN kind n u ++ r) = u := by
  rw [headN, List.cons_append, List.cons_append, List.cons_append, List.cons_append, used_head, by_at _ (show u / 256 < 256 by omega)]
  simp [by_]; omega
/-- a page's bytes with room for a cell of n bytes: X and Y are what happens to stand there -/
def opened (kind : UInt8) (A B : List S66) (n : Nat) (X Y : List UInt8) : List UInt8 :=
  headN kind (A.length + B.length + 1) (total A + total B + n) ++ (dirB 256 A ++ (Y ++ (dirB (256 - total A - n) B ++ (List.replicate (248 - 2 * (A.length + B.length + 1) - (total A + total B + n)) 0 ++ (cellsB B ++ (X ++ cellsB A))))))
theorem opened_from (kind : UInt8) (A B : List S66) (n : Nat) (X Y : List UInt8) (hA : Cells A) : fromB (opened kind A B n X Y) ((A.length : Int) - 1) = 256 - total A := by
  unfold fromB
  split
  · have : A = [] := List.eq_nil_of_length_eq_zero (by omega)
    subst this; rfl
  · have hf := hA.fits
    unfold Fits at hf
    have h0 : A.length - 1 < A.length := by omega
    have := (dir_at A 256 (A.length - 1) h0 (by omega) (by omega) (fun c hc => by have := hA.each c hc; unfold cz; omega)).1
    rw [List.take_of_length_le (by omega)] at this
    have hd := dirB_length A 256
    rw [opened, show 8 + 2 * ((A.length : Int) - 1).toNat = (headN kind (A.length + B.length + 1) (total A + total B + n)).length + 2 * (A.length - 1) from by rw [headN_length]; omega, at_append_r, at_append_l _ _ _ (by omega), this]
theorem opens_L {w : World} {g : Nat} {kind : UInt8} (A B : List S66) (n : Nat) (h : PGL w g kind (A ++ B)) (hn : 2 * (A.length + B.length + 1) + (total A + total B + n) ≤ 248) (hn1 : 1 ≤ n) :
    Calls Try.prog 42 #[.pointer (some ⟨g, 0, none⟩), .int .i64 (A.length : Int), .int .i64 (n : Int)] w fun e w' => e = .returned (.tuple #[]) ∧ ∃ X Y, X.length = n ∧ Y.length = 2 ∧ PG w' g (opened kind A B n X Y) ∧ BelX g w w' := by
  have hf := h.cells.fits
  have hla : (A ++ B).length = A.length + B.length := by simp
  have hta : total (A ++ B) = total A + total B := total_append A B
  have hcb : ∀ x ∈ B, 1 ≤ cz x := fun x hx => by have := h.cells.each x (by simp [hx]); unfold cz; omega
  have ek := enc_fromB kind _ h.cells A.length (by omega)
  have el := enc_fromB kind _ h.cells (A.length + B.length) (by omega)
  rw [List.take_left' rfl] at ek
  rw [List.take_of_length_le (by omega)] at el
  have hdl := dirB_length A 256
  have hbl := dirB_length B (256 - total A)
  have hbl' := dirB_length B (256 - total A - n)
  have hcl := cellsB_length B
  have hca := cellsB_length A
  have hb := enc_parts kind A B
  obtain ⟨z, hz⟩ : ∃ z, 248 - 2 * (A.length + B.length + 1) - (total A + total B + n) = z := ⟨_, rfl⟩
  have hb0 : encB kind (A ++ B) = (headB kind (A ++ B) ++ (dirB 256 A ++ (dirB (256 - total A) B ++ (List.replicate 2 0 ++ List.replicate z 0)))) ++ ((List.replicate n 0 ++ cellsB B) ++ cellsB A) := by
    rw [hb]
    simp only [List.append_assoc]
    rw [rep3 2 z n _ _ (show 248 - 2 * (A.length + B.length) - (total A + total B) = 2 + (z + n) from by omega)]
  clear hb
  have hP : (headB kind (A ++ B) ++ (dirB 256 A ++ (dirB (256 - total A) B ++ (List.replicate 2 0 ++ List.replicate z 0)))).length = 256 - total (A ++ B) - n := by
    simp only [List.length_append, headB_length, hdl, hbl, List.length_replicate]; omega
  have hb1 : encB kind (A ++ B) = ((headB kind (A ++ B) ++ (dirB 256 A ++ (dirB (256 - total A) B ++ (List.replicate 2 0 ++ List.replicate z 0)))) ++ List.replicate n 0) ++ (cellsB B ++ cellsB A) := by
    rw [hb0]; simp only [List.append_assoc]
  have p1 := part_at (o := 256 - total (A ++ B)) (n := 256 - total A - (256 - total (A ++ B))) hb1 (by rw [List.length_append, hP, List.length_replicate]; omega) (by omega)
  have hb2 : encB kind (A ++ B) = (headB kind (A ++ B) ++ (dirB 256 A ++ (dirB (256 - total A) B ++ (List.replicate 2 0 ++ List.replicate z 0)))) ++ ((List.replicate n 0 ++ cellsB B).take (total B) ++ ((List.replicate n 0 ++ cellsB B).drop (total B) ++ cellsB A)) := by
    rw [hb0]
    conv => rhs; arg 2; rw [← List.append_assoc, List.take_append_drop]
  have q1 := splice_at (o := 256 - total (A ++ B) - n) (Q' := cellsB B) hb2 hP (by rw [List.length_take, List.length_append, List.length_replicate]; omega)
  obtain ⟨X, hX⟩ : ∃ X, (List.replicate n 0 ++ cellsB B).drop (total B) = X := ⟨_, rfl⟩
  have hXl : X.length = n := by rw [← hX, List.length_drop, List.length_append, List.length_replicate]; omega
  rw [hX] at q1
  obtain ⟨R, hR⟩ : ∃ R, List.replicate z 0 ++ (cellsB B ++ (X ++ cellsB A)) = R := ⟨_, rfl⟩
  have Q1 : splice (encB kind (A ++ B)) (256 - total (A ++ B) - n) (cellsB B) = (headB kind (A ++ B) ++ dirB 256 A) ++ (dirB (256 - total A) B ++ (List.replicate 2 0 ++ R)) := by
    rw [q1, ← hR]; simp only [List.append_assoc]
  have p2 := part_at (o := 8 + 2 * A.length) (n := 8 + 2 * (A.length + B.length) - (8 + 2 * A.length)) Q1 (by rw [List.length_append, headB_length, hdl]) (by omega)
  have Q2 : splice (encB kind (A ++ B)) (256 - total (A ++ B) - n) (cellsB B) = ((headB kind (A ++ B) ++ dirB 256 A) ++ (dirB (256 - total A) B ++ List.replicate 2 0).take 2) ++ ((dirB (256 - total A) B ++ List.replicate 2 0).drop 2 ++ R) := by
    rw [Q1]
    conv => rhs; rw [List.append_assoc]; arg 2; rw [← List.append_assoc, List.take_append_drop]
    simp only [List.append_assoc]
  have q3 := splice_at (o := 8 + 2 * (A.length + 1)) (Q' := dirB (256 - total A) B) Q2 (by rw [List.length_append, List.length_append, headB_length, hdl, List.length_take, List.length_append, List.length_replicate]; omega) (by rw [List.length_drop, List.length_append, List.length_replicate]; omega)
  obtain ⟨Y, hY⟩ : ∃ Y, (dirB (256 - total A) B ++ List.replicate 2 0).take 2 = Y := ⟨_, rfl⟩
  have hYl : Y.length = 2 := by rw [← hY, List.length_take, List.length_append, List.length_replicate]; omega
  rw [hY] at q3
  have Q3 : openB (encB kind (A ++ B)) A.length n (256 - total (A ++ B)) (256 - total A) (A.length + B.length) = headN kind (A.length + B.length) (total A + total B) ++ ((dirB 256 A ++ Y) ++ (dirB (256 - total A) B ++ R)) := by
    rw [openB, p1, p2, q3, headB_N, hla, hta]; simp only [List.append_assoc]
  have hPl : (headN kind (A.length + B.length + 1) (total A + total B + n) ++ (dirB 256 A ++ Y)).length = 8 + 2 * (A.length + 1) := by rw [List.length_append, List.length_append, headN_length, hdl, hYl]; omega
  have hfin := halfB_all (headN kind (A.length + B.length + 1) (total A + total B + n) ++ (dirB 256 A ++ Y)) R (256 - total A) (256 - total A - n) B
  have henc : halfB (headN kind (A.length + B.length + 1) (total A + total B + n) ++ (dirB 256 A ++ Y)) R (256 - total A) (256 - total A - n) B B.length = opened kind A B n X Y := by
    rw [hfin, opened, ← hR, hz]; simp only [List.append_assoc]
  have hmain := opens_pg h.pg A.length n (256 - total (A ++ B)) (256 - total A) (A.length + B.length) (total A + total B) (halfB (headN kind (A.length + B.length + 1) (total A + total B + n) ++ (dirB 256 A ++ Y)) R (256 - total A) (256 - total A - n) B)
    (by rw [enc_len _ _ h.cells.fits, hla]) (by omega) (by omega) (by rw [← el]) ek (by omega) (by omega) (by omega)
    (by rw [Q3, len_headN _ _ _ _ (by omega)]) (by rw [Q3, used_headN _ _ _ _ (by omega)]) (by omega)
    (by rw [halfB_zero, Q3, sets_headN]; simp only [List.append_assoc])
    (fun m hm => by rw [halfB_low _ _ _ _ _ _ _ (by rw [hPl]; omega), len_headN _ _ _ _ (by omega)])
    (fun m hm => by
      have hm' : m < B.length := by omega
      have h1 := halfB_at (headN kind (A.length + B.length + 1) (total A + total B + n) ++ (dirB 256 A ++ Y)) R (256 - total A) (256 - total A - n) B m hm' (by omega) (hcb _ (List.getElem_mem hm')) (by omega)
      have h2 := halfB_step (headN kind (A.length + B.length + 1) (total A + total B + n) ++ (dirB 256 A ++ Y)) R (256 - total A) (256 - total A - n) B m hm'
      have h3 := total_take_le B (m + 1)
      rw [hPl] at h1 h2
      rw [show 8 + 2 * (A.length + 1 + m) = 8 + 2 * (A.length + 1) + 2 * m from by omega, h1]
      refine ⟨by omega, ?_⟩
      rw [← h2]; congr 2; omega)
  rw [show A.length + B.length - A.length = B.length from by omega, henc] at hmain
  exact hmain.mono fun e w' ⟨h1, h2, h3⟩ => ⟨h1, X, Y, hXl, hYl, h2, h3⟩
theorem set_two (P R : List UInt8) (y0 y1 a b : UInt8) : ((P ++ (y0 :: y1 :: R)).set P.length a).set (P.length + 1) b = P ++ (a :: b :: R) := by
  have h1 := set_append_r P (y0 :: y1 :: R) 0 a
  have h2 := set_append_r P (a :: y1 :: R) 1 b
  rw [Nat.add_zero] at h1
  rw [h1]; exact h2
/-- the room is filled with a cell -/
theorem opened_fill (kind : UInt8) (A B : List S66) (c : S66) (X Y : List UInt8) (hX : X.length = cz c) (hY : Y.length = 2) (hn : 2 * (A.length + B.length + 1) + (total A + total B + cz c) ≤ 248) :
    splice (pointsB (opened kind A B (cz c) X Y) (8 + 2 * A.length) (256 - total A - cz c) c.f0.size) (256 - total A - cz c) (cellB c) = encB kind (A ++ c :: B) := by
  have hdl := dirB_length A 256
  have hbl := dirB_length B (256 - total A - cz c)
  have hcl := cellsB_length B
  have hca := cellsB_length A
  have hcc := cellB_length c
  obtain ⟨y0, y1, rfl⟩ : ∃ y0 y1, Y = [y0, y1] := by
    match Y, hY with
    | [a, b], _ => exact ⟨a, b, rfl⟩
  obtain ⟨R, hR⟩ : ∃ R, dirB (256 - total A - cz c) B ++ (List.replicate (248 - 2 * (A.length + B.length + 1) - (total A + total B + cz c)) 0 ++ (cellsB B ++ (X ++ cellsB A))) = R := ⟨_, rfl⟩
  have hPl : (headN kind (A.length + B.length + 1) (total A + total B + cz c) ++ dirB 256 A).length = 8 + 2 * A.length := by rw [List.length_append, headN_length, hdl]
  have e1 : opened kind A B (cz c) X [y0, y1] = (headN kind (A.length + B.length + 1) (total A + total B + cz c) ++ dirB 256 A) ++ (y0 :: y1 :: R) := by
    rw [opened, hR]; simp only [List.append_assoc, List.cons_append, List.nil_append]
  have e2 : pointsB (opened kind A B (cz c) X [y0, y1]) (8 + 2 * A.length) (256 - total A - cz c) c.f0.size = (headN kind (A.length + B.length + 1) (total A + total B + cz c) ++ dirB 256 A) ++ (by_ (256 - total A - cz c) :: by_ c.f0.size :: R) := by
    rw [pointsB, e1, ← hPl, set_two]
  have e3 : pointsB (opened kind A B (cz c) X [y0, y1]) (8 + 2 * A.length) (256 - total A - cz c) c.f0.size = (headN kind (A.length + B.length + 1) (total A + total B + cz c) ++ (dirB 256 A ++ ([by_ (256 - total A - cz c), by_ c.f0.size] ++ (dirB (256 - total A - cz c) B ++ (List.replicate (248 - 2 * (A.length + B.length + 1) - (total A + total B + cz c)) 0 ++ cellsB B))))) ++ (X ++ cellsB A) := by
    rw [e2, ← hR]; simp only [List.append_assoc, List.cons_append, List.nil_append]
  rw [splice_at e3 (by simp only [List.length_append, headN_length, hdl, hbl, List.length_cons, List.length_nil, List.length_replicate]; omega) (by omega)]
  rw [enc_parts, headB_N]
  simp only [dirB, cellsB, total, total_append, List.length_append, List.length_cons, List.append_assoc, List.cons_append, List.nil_append]
  rw [show A.length + (B.length + 1) = A.length + B.length + 1 from by omega, show total A + (cz c + total B) = total A + total B + cz c from by omega]
end Go.Proofs.Ytinbppcfdmbclaa.Pg
