/- The bytes that a page of cells has, by definition; what a page's small functions read of them. No condition beyond those that each theorem names. -/
import Derived.Test.YtinbppcfdmbclaaPagB
import Derived.Lib.Bytealg
namespace Go.Proofs.Ytinbppcfdmbclaa.Pg
open Go.RowKit Go.Proofs.YtinbppcfdmbclaaW.PrintWords Go.Proofs.YtinbppcfdmbclaaW.PrintLast Go.Proofs.YtinbppcfdmbclaaW.PrintMore
set_option linter.unusedVariables false
theorem cB_zero : ∀ a b : List UInt8, Lib.compareBytes a b = 0 ↔ a = b
  | [], [] => by simp [Lib.compareBytes]
  | [], _ :: _ => by simp [Lib.compareBytes]
  | _ :: _, [] => by simp [Lib.compareBytes]
  | a :: x, b :: y => by
    simp only [Lib.compareBytes]
    by_cases c1 : a < b
    · rw [if_pos c1]
      have : a ≠ b := fun e => by subst e; exact absurd c1 (UInt8.lt_irrefl a)
      simp [this]
    · by_cases c2 : b < a
      · rw [if_neg c1, if_pos c2]
        have : a ≠ b := fun e => by subst e; exact absurd c2 (UInt8.lt_irrefl a)
        simp [this]
      · rw [if_neg c1, if_neg c2, cB_zero x y]
        have : a = b := by
          rw [UInt8.lt_iff_toNat_lt] at c1 c2
          rw [← UInt8.toNat_inj]; omega
        simp [this]
theorem cB_less : ∀ a b : List UInt8, Lib.compareBytes a b = if Op.bytesLess a b = true then -1 else if Op.bytesLess b a = true then 1 else 0
  | [], [] => rfl
  | [], _ :: _ => rfl
  | _ :: _, [] => rfl
  | a :: x, b :: y => by
    simp only [Lib.compareBytes, Op.bytesLess]
    by_cases c1 : a < b
    · simp [c1]
    · by_cases c2 : b < a
      · have : a ≠ b := fun e => by subst e; exact absurd c2 (UInt8.lt_irrefl a)
        simp [c1, c2, this]
      · have : a = b := by
          rw [UInt8.lt_iff_toNat_lt] at c1 c2
          rw [← UInt8.toNat_inj]; omega
        subst this
        rw [if_neg c1, if_neg c1, cB_less x y]
        simp [c1]
theorem cB_trans : ∀ a b c : List UInt8, Lib.compareBytes a b = -1 → Lib.compareBytes b c = -1 → Lib.compareBytes a c = -1
  | _, [], [], _, h => by simp [Lib.compareBytes] at h
  | _, _ :: _, [], _, h => by simp [Lib.compareBytes] at h
  | [], [], _ :: _, h, _ => by simp [Lib.compareBytes] at h
  | _ :: _, [], _ :: _, h, _ => by simp [Lib.compareBytes] at h
  | [], _ :: _, _ :: _, _, _ => rfl
  | a :: x, b :: y, c :: z, h1, h2 => by
    simp only [Lib.compareBytes] at *
    have key : ∀ p q : UInt8, ¬ p < q → ¬ q < p → p = q := fun p q h h' => by
      rw [UInt8.lt_iff_toNat_lt] at h h'
      rw [← UInt8.toNat_inj]; omega
    by_cases c1 : a < b
    · by_cases c2 : b < c
      · rw [if_pos (UInt8.lt_trans c1 c2)]
      · rw [if_neg c2] at h2
        by_cases c3 : c < b
        · rw [if_pos c3] at h2; cases h2
        · obtain rfl := key b c c2 c3
          rw [if_pos c1]
    · rw [if_neg c1] at h1
      by_cases c2 : b < a
      · rw [if_pos c2] at h1; cases h1
      · rw [if_neg c2] at h1
        obtain rfl := key a b c1 c2
        by_cases c3 : a < c
        · rw [if_pos c3]
        · rw [if_neg c3] at h2 ⊢
          by_cases c4 : c < a
          · rw [if_pos c4] at h2; cases h2
          · rw [if_neg c4] at h2 ⊢
            exact cB_trans x y z h1 h2
theorem cB_three (a b : List UInt8) : Lib.compareBytes a b = -1 ∨ Lib.compareBytes a b = 0 ∨ Lib.compareBytes a b = 1 := by
  rw [cB_less]; split <;> (try split) <;> simp
theorem less_irrefl (a : List UInt8) : Op.bytesLess a a = false := by
  have h := (cB_zero a a).2 rfl
  rw [cB_less] at h
  by_cases h1 : Op.bytesLess a a = true
  · rw [if_pos h1] at h; cases h
  · simpa using h1
theorem less_trans {a b c : List UInt8} (h1 : Op.bytesLess a b = true) (h2 : Op.bytesLess b c = true) : Op.bytesLess a c = true := by
  have e1 : Lib.compareBytes a b = -1 := by rw [cB_less, if_pos h1]
  have e2 : Lib.compareBytes b c = -1 := by rw [cB_less, if_pos h2]
  have e3 := cB_trans a b c e1 e2
  rw [cB_less] at e3
  by_cases h : Op.bytesLess a c = true
  · exact h
  · rw [if_neg h] at e3; split at e3 <;> cases e3
theorem less_asymm {a b : List UInt8} (h1 : Op.bytesLess a b = true) : Op.bytesLess b a = false := by
  by_cases h : Op.bytesLess b a = true
  · have := less_trans h1 h
    rw [less_irrefl] at this; cases this
  · simpa using h
theorem less_total {a b : List UInt8} (h1 : Op.bytesLess a b = false) (hne : a ≠ b) : Op.bytesLess b a = true := by
  by_cases h : Op.bytesLess b a = true
  · exact h
  · exfalso; apply hne
    rw [← cB_zero, cB_less, if_neg (by simp [h1]), if_neg h]
theorem ba_list (a : ByteArray) : a.toList = a.data.toList := ByteArray.toList_eq a
theorem ba_ext {a b : ByteArray} (h : a.data.toList = b.data.toList) : a = b := by
  cases a; cases b; simp at h; subst h; rfl
/-- how many bytes a cell has -/
def cz (c : S66) : Nat := c.f0.size + c.f1.size
def cellB (c : S66) : List UInt8 := c.f0.data.toList ++ c.f1.data.toList
theorem sz (a : ByteArray) : a.data.toList.length = a.size := by rw [Array.length_toList]; rfl
theorem cellB_length (c : S66) : (cellB c).length = cz c := by rw [cellB, List.length_append, sz, sz]; rfl
/-- how many bytes all cells have -/
def total : List S66 → Nat
  | [] => 0
  | c :: t => cz c + total t
/-- the cells' bytes: the last cell first -/
def cellsB : List S66 → List UInt8
  | [] => []
  | c :: t => cellsB t ++ cellB c
theorem cellsB_length : ∀ L : List S66, (cellsB L).length = total L
  | [] => rfl
  | c :: t => by rw [cellsB, List.length_append, cellB_length, cellsB_length t, total]; omega
/-- where each cell begins, and how long its key is -/
def dirB (at' : Nat) : List S66 → List UInt8
  | [] => []
  | c :: t => by_ (at' - cz c) :: by_ c.f0.size :: dirB (at' - cz c) t
theorem dirB_length : ∀ (L : List S66) (a : Nat), (dirB a L).length = 2 * L.length
  | [], _ => rfl
  | c :: t, a => by rw [dirB]; simp only [List.length_cons, dirB_length t]; omega
def headB (kind : UInt8) (L : List S66) : List UInt8 := [kind, by_ L.length, by_ (total L), by_ (total L / 256), 0, 0, 0, 0]
/-- the bytes of a page of such cells, but for the sum -/
def encB (kind : UInt8) (L : List S66) : List UInt8 := headB kind L ++ (dirB 256 L ++ (List.replicate (248 - 2 * L.length - total L) 0 ++ cellsB L))
/-- is there room for such cells? -/
def Fits (L : List S66) : Prop := 2 * L.length + total L ≤ 248
theorem encB_length (kind : UInt8) (L : List S66) (h : Fits L) : (encB kind L).length = 256 := by
  unfold Fits at h
  simp only [encB, headB, List.length_append, List.length_cons, List.length_nil, dirB_length, cellsB_length, List.length_replicate]; omega
theorem total_append : ∀ A B : List S66, total (A ++ B) = total A + total B
  | [], B => by simp [total]
  | c :: t, B => by rw [List.cons_append, total, total, total_append t B]; omega
theorem cellsB_append : ∀ A B : List S66, cellsB (A ++ B) = cellsB B ++ cellsB A
  | [], B => by simp [cellsB]
  | c :: t, B => by rw [List.cons_append, cellsB, cellsB, cellsB_append t B]; simp
theorem dirB_append : ∀ (A B : List S66) (a : Nat), dirB a (A ++ B) = dirB a A ++ dirB (a - total A) B
  | [], B, a => by simp [dirB, total]
  | c :: t, B, a => by
    rw [List.cons_append, dirB, dirB, dirB_append t B, total]
    simp only [List.cons_append]
    rw [show a - cz c - total t = a - (cz c + total t) from by omega]
theorem total_take_le (L : List S66) (k : Nat) : total (L.take k) ≤ total L := by
  conv => rhs; rw [← List.take_append_drop k L, total_append]
  omega
theorem at_cons (x : UInt8) (b : List UInt8) (i : Nat) : at_ (x :: b) (i + 1) = at_ b i := by simp [at_]
theorem at_append_r (a b : List UInt8) (i : Nat) : at_ (a ++ b) (a.length + i) = at_ b i := by
  simp only [at_, List.getD_eq_getElem?_getD]
  rw [List.getElem?_append_right (by omega), Nat.add_sub_cancel_left]
theorem at_append_l (a b : List UInt8) (i : Nat) (h : i < a.length) : at_ (a ++ b) i = at_ a i := by
  simp [at_, List.getD_eq_getElem?_getD, List.getElem?_append, h]
theorem by_at (n : Nat) (h : n < 256) : (by_ n).toNat = n := by simp [by_]; omega
theorem enc_kind (kind : UInt8) (L : List S66) : at_ (encB kind L) 0 = kind.toNat := by simp [at_, encB, headB]
theorem enc_len (kind : UInt8) (L : List S66) (h : Fits L) : at_ (encB kind L) 1 = L.length := by
  unfold Fits at h
  rw [show at_ (encB kind L) 1 = (by_ L.length).toNat from by simp [at_, encB, headB], by_at _ (by omega)]
theorem enc_used (kind : UInt8) (L : List S66) (h : Fits L) : usedB (encB kind L) = total L := by
  unfold Fits at h
  rw [usedB, show at_ (encB kind L) 2 = (by_ (total L)).toNat from by simp [at_, encB, headB], show at_ (encB kind L) 3 = (by_ (total L / 256)).toNat from by simp [at_, encB, headB], by_at _ (by omega), by_at _ (by omega)]
  omega
theorem dir_at : ∀ (L : List S66) (a k : Nat) (h : k < L.length), total L ≤ a → a ≤ 256 → (∀ c ∈ L, 1 ≤ cz c ∧ c.f0.size < 256) → at_ (dirB a L) (2 * k) = a - total (L.take (k + 1)) ∧ at_ (dirB a L) (2 * k + 1) = L[k].f0.size
  | [], a, k, h, _, _, _ => absurd h (by simp)
  | c :: t, a, 0, h, h1, h2, h3 => by
    have := h3 c (by simp)
    rw [total] at h1
    refine ⟨?_, ?_⟩
    · rw [dirB, show at_ (by_ (a - cz c) :: by_ c.f0.size :: dirB (a - cz c) t) (2 * 0) = (by_ (a - cz c)).toNat from rfl, by_at _ (by omega)]
      simp [total]
    · rw [dirB, show at_ (by_ (a - cz c) :: by_ c.f0.size :: dirB (a - cz c) t) (2 * 0 + 1) = (by_ c.f0.size).toNat from rfl, by_at _ (by omega)]
      rfl
  | c :: t, a, k + 1, h, h1, h2, h3 => by
    rw [total] at h1
    obtain ⟨e1, e2⟩ := dir_at t (a - cz c) k (by simpa using h) (by omega) (by omega) (fun x hx => h3 x (by simp [hx]))
    rw [dirB]
    refine ⟨?_, ?_⟩
    · rw [show 2 * (k + 1) = 2 * k + 1 + 1 from by omega, at_cons, at_cons, e1, List.take_succ_cons, total]; omega
    · rw [show 2 * (k + 1) + 1 = 2 * k + 1 + 1 + 1 from by omega, at_cons, at_cons, e2]; rfl
/-- the cells that a page may have -/
structure Cells (L : List S66) : Prop where
  fits : Fits L
  each : ∀ c ∈ L, 1 ≤ c.f0.size ∧ c.f0.size ≤ 80 ∧ c.f0.size + c.f1.size ≤ 100
  asc : L.Pairwise fun c d => Op.bytesLess c.f0.toList d.f0.toList = true
theorem Cells.le {L : List S66} (h : Cells L) : L.length ≤ total L := by
  have : ∀ M : List S66, (∀ c ∈ M, 1 ≤ c.f0.size) → M.length ≤ total M := by
    intro M
    induction M with
    | nil => intro; simp [total]
    | cons c t ih => intro hM; have := ih (fun x hx => hM x (by simp [hx])); have := hM c (by simp); simp only [List.length_cons, total, cz]; omega
  exact this L fun c hc => (h.each c hc).1
theorem enc_from (kind : UInt8) (L : List S66) (h : Cells L) (k : Nat) (hk : k < L.length) : at_ (encB kind L) (8 + 2 * k) = 256 - total (L.take (k + 1)) ∧ at_ (encB kind L) (9 + 2 * k) = L[k].f0.size := by
  have hf := h.fits
  unfold Fits at hf
  obtain ⟨e1, e2⟩ := dir_at L 256 k hk (by omega) (by omega) (fun c hc => by have := h.each c hc; unfold cz; omega)
  have hd := dirB_length L 256
  refine ⟨?_, ?_⟩
  · rw [encB, show 8 + 2 * k = (headB kind L).length + 2 * k from rfl, at_append_r, at_append_l _ _ _ (by omega), e1]
  · rw [encB, show 9 + 2 * k = (headB kind L).length + (2 * k + 1) from by simp [headB]; omega, at_append_r, at_append_l _ _ _ (by omega), e2]
theorem enc_fromB (kind : UInt8) (L : List S66) (h : Cells L) (k : Nat) (hk : k ≤ L.length) : fromB (encB kind L) ((k : Int) - 1) = 256 - total (L.take k) := by
  unfold fromB
  split
  · obtain rfl : k = 0 := by omega
    simp [total]
  · obtain ⟨j, rfl⟩ : ∃ j, k = j + 1 := ⟨k - 1, by omega⟩
    rw [show (((j + 1 : Nat) : Int) - 1).toNat = j from by omega, (enc_from kind L h j (by omega)).1]
theorem enc_fromB' (kind : UInt8) (L : List S66) (h : Cells L) (k : Nat) (hk : k < L.length) : fromB (encB kind L) (k : Int) = 256 - total (L.take (k + 1)) := by
  have := enc_fromB kind L h (k + 1) (by omega)
  rwa [show (((k + 1 : Nat) : Int) - 1) = (k : Int) from by omega] at this
theorem total_take_succ (L : List S66) (k : Nat) (hk : k < L.length) : total (L.take (k + 1)) = total (L.take k) + cz L[k] := by
  rw [List.take_succ_eq_append_getElem hk, total_append]; simp [total]
/-- the last bytes of a page -/
theorem enc_drop (kind : UInt8) (L : List S66) (h : Cells L) (k : Nat) (hk : k ≤ L.length) : (encB kind L).drop (256 - total (L.take k)) = cellsB (L.take k) := by
  have hl := encB_length kind L h.fits
  have h1 : total (L.take k) ≤ total L := total_take_le L k
  have hf := h.fits
  unfold Fits at hf
  have e : encB kind L = (headB kind L ++ (dirB 256 L ++ (List.replicate (248 - 2 * L.length - total L) 0 ++ cellsB (L.drop k)))) ++ cellsB (L.take k) := by
    conv => lhs; rw [encB]
    rw [show cellsB L = cellsB (L.drop k) ++ cellsB (L.take k) from by rw [← cellsB_append, List.take_append_drop]]
    simp
  rw [e, List.drop_append, List.drop_eq_nil_of_le, List.nil_append]
  · have hh := congrArg List.length e
    rw [hl, List.length_append, cellsB_length] at hh
    rw [show 256 - total (L.take k) - _ = 0 from by omega, List.drop_zero]
  · have hh := congrArg List.length e
    rw [hl, List.length_append, cellsB_length] at hh
    omega
theorem enc_cell (kind : UInt8) (L : List S66) (h : Cells L) (k : Nat) (hk : k < L.length) : cut (encB kind L) (256 - total (L.take (k + 1))) (256 - total (L.take (k + 1)) + L[k].f0.size) = L[k].f0 ∧ cut (encB kind L) (256 - total (L.take (k + 1)) + L[k].f0.size) (256 - total (L.take k)) = L[k].f1 := by
  have hd := enc_drop kind L h (k + 1) (by omega)
  have ht := total_take_succ L k hk
  have hle := total_take_le L (k + 1)
  have hf := h.fits
  unfold Fits at hf
  have e : cellsB (L.take (k + 1)) = L[k].f0.data.toList ++ (L[k].f1.data.toList ++ cellsB (L.take k)) := by
    rw [List.take_succ_eq_append_getElem hk, cellsB_append]; simp [cellsB, cellB]
  have s0 : L[k].f0.size = L[k].f0.data.toList.length := (sz _).symm
  have s1 : L[k].f1.size = L[k].f1.data.toList.length := (sz _).symm
  refine ⟨ba_ext ?_, ba_ext ?_⟩
  · show ((encB kind L).drop _).take _ = _
    rw [hd, e, show 256 - total (L.take (k + 1)) + L[k].f0.size - (256 - total (L.take (k + 1))) = L[k].f0.data.toList.length from by omega, List.take_left]
  · show ((encB kind L).drop _).take _ = _
    rw [← List.drop_drop, hd, e, s0, List.drop_left, show 256 - total (L.take k) - (256 - total (L.take (k + 1)) + L[k].f0.data.toList.length) = L[k].f1.data.toList.length from by unfold cz at ht; omega, List.take_left]
/-- A page of such cells. -/
structure PGL (w : World) (g : Nat) (kind : UInt8) (L : List S66) : Prop where
  pg : PG w g (encB kind L)
  cells : Cells L
theorem At_cell {w : World} {g : Nat} {kind : UInt8} {L : List S66} (h : PGL w g kind L) (k : Nat) (hk : k < L.length) : Calls Try.prog 19 #[.pointer (some ⟨g, 0, none⟩), .int .i64 (k : Int)] w fun e w' => e = .returned (.tuple #[.string L[k].f0, .string L[k].f1]) ∧ Below w.heap.size w w' := by
  have hf := h.cells.fits
  unfold Fits at hf
  have e1 := enc_fromB' kind L h.cells k hk
  have e2 := enc_fromB kind L h.cells k (by omega)
  have e3 := (enc_from kind L h.cells k hk).2
  have e4 := enc_cell kind L h.cells k hk
  have ht := total_take_succ L k hk
  have hle := total_take_le L (k + 1)
  have h1 := h.cells.each L[k] (List.getElem_mem hk)
  have := At_pg h.pg k (9 + 2 * k) (by rw [enc_len _ _ h.cells.fits]; exact hk) (by omega) rfl (by rw [e1, e2, e3]; unfold cz at ht; omega) (by rw [e1]; unfold cz at ht; omega)
  rw [e1, e2, e3, e4.1, e4.2] at this
  exact this
theorem At_none {w : World} {g : Nat} {kind : UInt8} {L : List S66} (h : PGL w g kind L) (k : Int) (hk : k < 0 ∨ (L.length : Int) ≤ k) : Calls Try.prog 19 #[.pointer (some ⟨g, 0, none⟩), .int .i64 k] w fun e w' => e = .returned (.tuple #[.string ⟨#[]⟩, .string ⟨#[]⟩]) ∧ w' = w :=
  At_out h.pg k (by rw [enc_len _ _ h.cells.fits]; exact hk)
end Go.Proofs.Ytinbppcfdmbclaa.Pg
