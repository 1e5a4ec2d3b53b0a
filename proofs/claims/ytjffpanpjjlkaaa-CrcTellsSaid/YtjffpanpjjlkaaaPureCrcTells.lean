/- The law CrcTells holds of every text, place and number: up to four bytes in a row that are others are told. Conditions: the text's size within the form's reach; numbers of 64 bits. -/
import Derived.Test.YtjffpanpjjlkaaaTells
import Derived.Test.YtjffpanpjjlkaaaCrcFns
namespace Go.Proofs.Ytjffpanpjjlkaaa.Pure
open Go.RowKit Go.Proofs.Ytjffpanpjjlkaaa.Own Go.Proofs.YtjffpanpjjlkaaaW.PrintWords Go.Proofs.YtjffpanpjjlkaaaW.PrintLast
open Go.Proofs.Ytjffpanpjjlkaaa.Aid Go.Proofs.Ytjffpanpjjlkaaa.Fns Go.Proofs.Ytjffpanpjjlkaaa.Crc
set_option linter.unusedVariables false
set_option linter.unusedSimpArgs false
theorem B_nums (l : List Nat) (h : ∀ b ∈ l, b < 256) : B (strOfNums (l.map fun b : Nat => (b : Int))) = l := by
  unfold B
  rw [strOfNums_data, List.map_map, List.map_map]
  have : ∀ b ∈ l, ((UInt8.toNat ∘ fun n : Int => UInt8.ofNat n.toNat) ∘ fun b : Nat => (b : Int)) b = b := by
    intro b hb
    simp only [Function.comp_apply, Int.toNat_natCast]
    exact UInt8.toNat_ofNat_of_lt' (h b hb)
  rw [List.map_congr_left this, List.map_id']
theorem turn_nat (a2 : Int) (j : Nat) : turn a2 j = (((a2 / 2 ^ (8 * j) % 256).toNat : Nat) : Int) ∧ (a2 / 2 ^ (8 * j) % 256).toNat < 256 := by
  unfold turn
  have e := and_mask (a2 / 2 ^ (8 * j)) 8 (by decide)
  rw [show ((2 : Int) ^ 8 - 1) = 255 from rfl, show ((2 : Int) ^ 8) = 256 from rfl] at e
  rw [e]
  generalize a2 / 2 ^ (8 * j) = z
  omega
theorem getD_right (p q : List Int) (m j : Nat) (hp : p.length = m) : (p ++ q).getD (m + j) 0 = q.getD j 0 := by
  rw [List.getD_eq_getElem?_getD, List.getD_eq_getElem?_getD, List.getElem?_append_right (by omega), show m + j - p.length = j by omega]
theorem set_right (p q : List Int) (m j : Nat) (x : Int) (hp : p.length = m) : (p ++ q).set (m + j) x = p ++ q.set j x := by
  rw [List.set_append_right _ _ (by omega), show m + j - p.length = j by omega]
theorem turned_four (p q : List Nat) (l0 l1 l2 l3 m : Nat) (a2 : Int) (w : Nat → Nat) (hp : p.length = m) (hw : ∀ j, turn a2 j = ((w j : Nat) : Int) ∧ w j < 256) (h0 : l0 < 256) (h1 : l1 < 256) (h2 : l2 < 256) (h3 : l3 < 256) :
    turned ((p ++ (l0 :: l1 :: l2 :: l3 :: q)).map fun b : Nat => (b : Int)) m a2 4 = (p ++ ((l0 ^^^ w 0) :: (l1 ^^^ w 1) :: (l2 ^^^ w 2) :: (l3 ^^^ w 3) :: q)).map fun b : Nat => (b : Int) := by
  have hl : (p.map fun b : Nat => (b : Int)).length = m := by rw [List.length_map]; exact hp
  simp only [turned, List.map_append, List.map_cons]
  generalize (p.map fun b : Nat => (b : Int)) = P at *
  generalize (q.map fun b : Nat => (b : Int)) = Q at *
  have g := fun q j => getD_right P q m j hl
  have s := fun q j x => set_right P q m j x hl
  rw [(hw 0).1, (hw 1).1, (hw 2).1, (hw 3).1]
  rw [g, s, g, s, g, s, g, s]
  simp only [List.set_cons_zero, List.set_cons_succ, List.getD_cons_zero, List.getD_cons_succ]
  rw [u8_xor_nat l0 _ h0 (hw 0).2, u8_xor_nat l1 _ h1 (hw 1).2, u8_xor_nat l2 _ h2 (hw 2).2, u8_xor_nat l3 _ h3 (hw 3).2]
theorem bytesOf_B (s : ByteArray) : bytesOf s = (B s).map fun b : Nat => (b : Int) := by
  unfold bytesOf B
  rw [List.map_map]; rfl
theorem crc_run {l m : List Nat} (h : crc 0 l = crc 0 m) : run 4294967295 l = run 4294967295 m := by
  unfold crc at h
  rw [Nat.zero_xor] at h
  exact xor_cancel_right h
/-- the law's walk, whatever comes in -/
theorem tells (s : ByteArray) (a1 a2 : Int) (W : World) (_ : s.size ≤ 140737488351232) (w1 : (Lit.int .i64 a1).wf = true) (w2 : (Lit.int .i64 a2).wf = true) :
    Calls Try.prog 5 #[.string s, .int .i64 a1, .int .i64 a2] W fun e w' => e = .returned (.bool true) ∧ Below W.heap.size W w' := by
  have h5 : quaysidelaw02_nine.f 20000 = some true := nine_eq _ (by omega)
  have hl := light_eq s
  by_cases hs : s.size ≤ 1024
  case neg =>
    rw [decide_eq_false hs] at hl
    clear hs
    go_enter Try.func5, Try.ntmps5
    go_wp2_with (first | (go_at_call 14; refine (quaysidelaw02_light.calls s false _ hl).mono ?_; rintro e w' ⟨rfl, ⟨nd, rfl⟩⟩) | (go_at_call 15; refine (quaysidelaw02_nine.calls 20000 true _ h5).mono ?_; rintro e w' ⟨rfl, ⟨nd2, rfl⟩⟩))
    go_ret
    exact ⟨rfl, by repeat (first | exact Below.refl _ _ | apply pw_below_drewN)⟩
  rw [decide_eq_true hs] at hl
  by_cases h4 : 4 ≤ s.size
  case neg =>
    have hl4 : decide (s.size < 4) = true := by simp; omega
    go_enter Try.func5, Try.ntmps5
    go_wp2_with (first | (go_at_call 14; refine (quaysidelaw02_light.calls s true _ hl).mono ?_; rintro e w' ⟨rfl, ⟨nd, rfl⟩⟩) | (go_at_call 15; refine (quaysidelaw02_nine.calls 20000 true _ h5).mono ?_; rintro e w' ⟨rfl, ⟨nd2, rfl⟩⟩))
    go_ret
    exact ⟨rfl, by repeat (first | exact Below.refl _ _ | apply pw_below_drewN)⟩
  have e1 := and_mask a1 16 (by decide)
  rw [show ((2 : Int) ^ 16 - 1) = 65535 from rfl, show ((2 : Int) ^ 16) = 65536 from rfl] at e1
  obtain ⟨m, hm⟩ : ∃ m : Nat, (Go.bits .and .i64 a1 65535).tmod ((s.size : Int) - 3) = (m : Int) := by
    rw [e1, Int.tmod_eq_emod_of_nonneg (by omega)]
    exact Int.eq_ofNat_of_zero_le (Int.emod_nonneg _ (by omega))
  have hms : m + 4 ≤ s.size := by
    rw [e1, Int.tmod_eq_emod_of_nonneg (by omega)] at hm
    have := Int.emod_lt_of_pos (a1 % 65536) (show 0 < (s.size : Int) - 3 by omega)
    omega
  have hB := B_length s
  obtain ⟨p, q, l0, l1, l2, l3, hpq, hp⟩ : ∃ (p q : List Nat) (l0 l1 l2 l3 : Nat), B s = p ++ (l0 :: l1 :: l2 :: l3 :: q) ∧ p.length = m := by
    have hd : 4 ≤ ((B s).drop m).length := by rw [List.length_drop]; omega
    have e := (List.take_append_drop m (B s)).symm
    match h : (B s).drop m, hd with
    | l0 :: l1 :: l2 :: l3 :: q, _ =>
      rw [h] at e
      exact ⟨_, q, l0, l1, l2, l3, e, by rw [List.length_take]; omega⟩
  have hlt := B_lt s
  rw [hpq] at hlt
  have hpl : ∀ b ∈ p, b < 256 := fun b hb => hlt b (List.mem_append_left _ hb)
  have hll : ∀ b ∈ [l0, l1, l2, l3], b < 256 := fun b hb => hlt b (List.mem_append_right _ (by
    simp only [List.mem_cons, List.not_mem_nil, or_false] at hb ⊢
    rcases hb with h | h | h | h <;> simp [h]))
  have hql : ∀ b ∈ q, b < 256 := fun b hb => hlt b (List.mem_append_right _ (by simp [hb]))
  have hw := turn_nat a2
  generalize hwd : (fun j => (a2 / 2 ^ (8 * j) % 256).toNat) = wf at hw
  have hw' : ∀ j, turn a2 j = ((wf j : Nat) : Int) ∧ wf j < 256 := by
    intro j; rw [← hwd]; exact hw j
  have ht := turned_four p q l0 l1 l2 l3 m a2 wf hp hw' (hll l0 (by simp)) (hll l1 (by simp)) (hll l2 (by simp)) (hll l3 (by simp))
  rw [← hpq, ← bytesOf_B] at ht
  have hnew : ∀ b ∈ p ++ ((l0 ^^^ wf 0) :: (l1 ^^^ wf 1) :: (l2 ^^^ wf 2) :: (l3 ^^^ wf 3) :: q), b < 256 := by
    intro b hb
    rcases List.mem_append.1 hb with h | h
    · exact hpl b h
    · simp only [List.mem_cons] at h
      rcases h with h | h | h | h | h
      · rw [h]; exact Nat.xor_lt_two_pow (n := 8) (hll l0 (by simp)) (hw' 0).2
      · rw [h]; exact Nat.xor_lt_two_pow (n := 8) (hll l1 (by simp)) (hw' 1).2
      · rw [h]; exact Nat.xor_lt_two_pow (n := 8) (hll l2 (by simp)) (hw' 2).2
      · rw [h]; exact Nat.xor_lt_two_pow (n := 8) (hll l3 (by simp)) (hw' 3).2
      · exact hql b h
  obtain ⟨t, htd⟩ : ∃ t, strOfNums (turned (bytesOf s) m a2 4) = t := ⟨_, rfl⟩
  have hBt : B t = p ++ ((l0 ^^^ wf 0) :: (l1 ^^^ wf 1) :: (l2 ^^^ wf 2) :: (l3 ^^^ wf 3) :: q) := by
    rw [← htd, ht]; exact B_nums _ hnew
  have htz : t.size = s.size := by rw [← B_length t, ← B_length s, hBt, hpq]; simp
  have zeros : crc 0 (B t) = crc 0 (B s) → wf 0 = 0 ∧ wf 1 = 0 ∧ wf 2 = 0 ∧ wf 3 = 0 := by
    intro h
    have h2 := crc_run h
    rw [hBt, hpq] at h2
    have := run_burst 4294967295 p q [l0, l1, l2, l3] [wf 0, wf 1, wf 2, wf 3] (by omega) hpl hql hll (by
      intro b hb
      simp only [List.mem_cons, List.not_mem_nil, or_false] at hb
      rcases hb with h | h | h | h <;> rw [h] <;> exact (hw' _).2) rfl rfl h2
    simpa using this
  have back : wf 0 = 0 ∧ wf 1 = 0 ∧ wf 2 = 0 ∧ wf 3 = 0 → B t = B s := by
    intro h
    rw [hBt, hpq, h.1, h.2.1, h.2.2.1, h.2.2.2]
    simp only [Nat.xor_zero]
  have hby : (wf 0 = 0 ∧ wf 1 = 0 ∧ wf 2 = 0 ∧ wf 3 = 0) ↔ a2 % 4294967296 = 0 := by
    rw [← hwd]
    simp only [show (2 : Int) ^ (8 * 0) = 1 from rfl, show (2 : Int) ^ (8 * 1) = 256 from rfl, show (2 : Int) ^ (8 * 2) = 65536 from rfl, show (2 : Int) ^ (8 * 3) = 16777216 from rfl]
    omega
  have e2 := and_mask a2 32 (by decide)
  rw [show ((2 : Int) ^ 32 - 1) = 4294967295 from rfl, show ((2 : Int) ^ 32) = 4294967296 from rfl] at e2
  have iff1 : crc 0 (B t) = crc 0 (B s) ↔ a2 % 4294967296 = 0 := ⟨fun h => hby.1 (zeros h), fun h => by rw [back (hby.2 h)]⟩
  refine tells_walk 20000 s t a1 a2 ((crc 0 (B t) : Nat) : Int) ((crc 0 (B s) : Nat) : Int) (decide (a2 % 4294967296 = 0)) W h4 hs m hms hm htd hl (sum_eq t _ (by omega) (by omega)) (sum_eq s _ (by omega) (by omega)) ?_ h5 ?_ ?_
  · rw [same_eq s t _ (by omega) (by omega) (by omega) (by omega)]
    refine congrArg some (decide_eq_false ?_)
    rintro ⟨g1, _, g3⟩
    exact g1 (back (zeros g3.symm)).symm
  · rw [Bool.eq_iff_iff, beq_iff_eq, decide_eq_true_eq, ← iff1]
    constructor
    · intro h; omega
    · intro h; rw [h]
  · rw [e2, Bool.eq_iff_iff, beq_iff_eq, decide_eq_true_eq]
end Go.Proofs.Ytjffpanpjjlkaaa.Pure
