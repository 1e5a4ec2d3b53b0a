/- The law LexCases holds of every text. Condition: the text's size within the form's reach. -/
import Derived.Test.YtbmlpbgddlgdkaaDoorPureLexAwk
import Derived.Test.YtbmlpbgddlgdkaaDoorLxw9
namespace Go.Proofs.YtbmlpbgddlgdkaaDoor.Lx
open Go.RowKit Go.Proofs.YtbmlpbgddlgdkaaDoorW.PrintWords Go.Proofs.YtbmlpbgddlgdkaaDoorW.PrintLast Go.Proofs.YtbmlpbgddlgdkaaDoorW.PrintMore
set_option linter.unusedVariables false
set_option linter.unusedSimpArgs false
theorem awk_f (k : Nat) (hk : 200000 < k) : ((quaysidelaw16_awake.f k).bind fun t => some t) = some true := by rw [awake_f k hk]; rfl
theorem quoted_plain (q : UInt8) : ∀ t : BS, (∀ c ∈ t, c ≠ q) → quotedL q (t ++ [q]) = some (t, t.length + 1)
  | [], _ => by rw [List.nil_append, quotedL_end]; rfl
  | c :: t, h => by
    rw [List.cons_append, quotedL_ne _ _ _ (h c (by simp)), quoted_plain q t (fun d hd => h d (by simp [hd]))]; rfl
theorem letter_cap (v : Nat) (hv : v < 26) : letB (UInt8.ofNat (97 + v)) = true ∧ letB (UInt8.ofNat (65 + v)) = true ∧ capByte (UInt8.ofNat (97 + v)) = UInt8.ofNat (65 + v) ∧ capByte (UInt8.ofNat (65 + v)) = UInt8.ofNat (65 + v) ∧ UInt8.ofNat (65 + v) ≠ 34 ∧ 48 ≤ (UInt8.ofNat (97 + v)).toNat ∧ 48 ≤ (UInt8.ofNat (65 + v)).toNat := by
  have h : (List.range 26).all (fun v => letB (UInt8.ofNat (97 + v)) && letB (UInt8.ofNat (65 + v)) && (capByte (UInt8.ofNat (97 + v)) == UInt8.ofNat (65 + v)) && (capByte (UInt8.ofNat (65 + v)) == UInt8.ofNat (65 + v)) && (UInt8.ofNat (65 + v) != 34) && decide (48 ≤ (UInt8.ofNat (97 + v)).toNat) && decide (48 ≤ (UInt8.ofNat (65 + v)).toNat)) = true := by decide
  have h2 := List.all_eq_true.1 h v (List.mem_range.2 hv)
  simp only [Bool.and_eq_true, beq_iff_eq, bne_iff_ne, decide_eq_true_eq] at h2
  obtain ⟨⟨⟨⟨⟨⟨a, b⟩, c⟩, d⟩, e⟩, f⟩, g⟩ := h2
  exact ⟨a, b, c, d, e, f, g⟩
def loL (vs : List Nat) : BS := vs.map fun v => UInt8.ofNat (97 + v)
def upL (vs : List Nat) : BS := vs.map fun v => UInt8.ofNat (65 + v)
theorem lo_up (vs : List Nat) (h : ∀ v ∈ vs, v < 26) : (loL vs).map capByte = upL vs ∧ (upL vs).map capByte = upL vs := by
  unfold loL upL
  rw [List.map_map, List.map_map]
  exact ⟨List.map_congr_left fun v hv => (letter_cap v (h v hv)).2.2.1, List.map_congr_left fun v hv => (letter_cap v (h v hv)).2.2.2.1⟩
/-- one word alone -/
theorem word_alone (l : BS) (S : Nat) (h0 : l ≠ []) (hl : l.all letB = true) (h48 : ∀ c ∈ l, 48 ≤ c.toNat) (h64 : l.length ≤ 64) :
    toksL S (S + 1 + 1) 0 l = some [if isKey (l.map capByte) = true then ⟨2, ⟨(l.map capByte).toArray⟩, 0, 0⟩ else ⟨1, ⟨l.toArray⟩, 0, 0⟩, ⟨0, ⟨#[]⟩, 0, (S : Int)⟩] := by
  cases l with
  | nil => exact absurd rfl h0
  | cons c r =>
    have hs := skip_none S (c :: r) (start_num c r (h48 c (by simp)))
    have hw : (c :: r).all worB = true := List.all_eq_true.2 fun d hd => by unfold worB; rw [List.all_eq_true.1 hl d hd]; rfl
    have htk : (c :: r).takeWhile worB = c :: r := by
      have := (List.prefix_iff_eq_take.1 (List.takeWhile_prefix worB (l := c :: r)))
      rw [(all_take (p := worB) (c :: r)).2 hw, List.take_length] at this
      exact this
    have hn : nextL (c :: r) = if isKey ((c :: r).map capByte) = true then (2, (c :: r).map capByte, 0, (c :: r).length, true) else (1, c :: r, 0, (c :: r).length, true) := by
      unfold nextL
      dsimp only
      rw [if_pos (List.all_eq_true.1 hl c (by simp)), htk, decide_eq_true h64]
    have he : ∀ p, toksL S (S + 1) p [] = some [⟨0, ⟨#[]⟩, 0, (S : Int)⟩] := fun p => by
      unfold toksL
      rw [skip_none S [] (.inl rfl)]; rfl
    rw [toksL, hs]
    dsimp only
    rw [if_pos rfl, List.drop_zero, if_neg (by simp), hn]
    by_cases hk : isKey ((c :: r).map capByte) = true
    · rw [if_pos hk, if_pos hk]
      dsimp only
      rw [if_pos rfl, List.drop_length, he]; rfl
    · rw [if_neg hk, if_neg hk]
      dsimp only
      rw [if_pos rfl, List.drop_length, he]; rfl
theorem quoted_alone (l : BS) (S : Nat) (h0 : l ≠ []) (hq : ∀ c ∈ l, c ≠ 34) (h64 : l.length ≤ 64) :
    toksL S (S + 1 + 1) 0 (34 :: (l ++ [34])) = some [⟨1, ⟨l.toArray⟩, 0, 0⟩, ⟨0, ⟨#[]⟩, 0, (S : Int)⟩] := by
  have hs := skip_none S (34 :: (l ++ [34])) (start_head 34 _ (by decide) (by decide) (by decide))
  have hn : nextL (34 :: (l ++ [34])) = (1, l, 0, (34 :: (l ++ [34])).length, true) := by
    unfold nextL
    dsimp only
    rw [if_neg (by decide), if_pos (by decide), quoted_plain 34 l hq]
    dsimp only
    rw [decide_eq_true (⟨h0, h64⟩ : l ≠ [] ∧ l.length ≤ 64)]
    refine congrArg (fun x => ((1 : Int), l, (0 : Int), x, true)) ?_
    simp; omega
  have he : ∀ p, toksL S (S + 1) p [] = some [⟨0, ⟨#[]⟩, 0, (S : Int)⟩] := fun p => by
    unfold toksL
    rw [skip_none S [] (.inl rfl)]; rfl
  rw [toksL, hs]
  dsimp only
  rw [if_pos rfl, List.drop_zero, if_neg (by simp), hn]
  dsimp only
  rw [if_pos rfl, List.drop_length, he]; rfl
def loI (vs : List Nat) : List Int := vs.map fun v : Nat => 97 + (v : Int)
def upI (vs : List Nat) : List Int := vs.map fun v : Nat => 65 + (v : Int)
theorem lo_str (vs : List Nat) : strOfNums (loI vs) = ⟨(loL vs).toArray⟩ := bext (by
  rw [strOfNums_data, bmk]
  unfold loI loL
  rw [List.map_map]
  exact List.map_congr_left fun v _ => by simp only [Function.comp_apply]; rw [show (97 + (v : Int)).toNat = 97 + v by omega])
theorem up_str (vs : List Nat) : strOfNums (upI vs) = ⟨(upL vs).toArray⟩ := bext (by
  rw [strOfNums_data, bmk]
  unfold upI upL
  rw [List.map_map]
  exact List.map_congr_left fun v _ => by simp only [Function.comp_apply]; rw [show (65 + (v : Int)).toNat = 65 + v by omega])
theorem cases_end (x0 : ByteArray) (vs : List Nat) (k : Nat) (hk : 300000 < k) (h26 : ∀ v ∈ vs, v < 26) (h1 : 1 ≤ vs.length) (h30 : vs.length ≤ 30) (hx : x0.size = vs.length) :
    quaysidelaw16_LexCases.l0 k x0 (loI vs) (upI vs) (vs.length : Int) = some true := by
  obtain ⟨k, rfl⟩ : ∃ m, k = m + 1 + 1 := ⟨k - 2, by omega⟩
  simp only [quaysidelaw16_LexCases.l0]
  rw [if_neg (by omega), lo_str, up_str]
  have hll : (loL vs).length = vs.length := by unfold loL; rw [List.length_map]
  have hul : (upL vs).length = vs.length := by unfold upL; rw [List.length_map]
  have hl0 : loL vs ≠ [] := fun h => by rw [h] at hll; simp at hll; omega
  have hu0 : upL vs ≠ [] := fun h => by rw [h] at hul; simp at hul; omega
  obtain ⟨c1, c2⟩ := lo_up vs h26
  have m1 : ∀ c ∈ loL vs, letB c = true ∧ 48 ≤ c.toNat := fun c hc => by
    obtain ⟨v, hv, rfl⟩ := List.mem_map.1 hc
    exact ⟨(letter_cap v (h26 v hv)).1, (letter_cap v (h26 v hv)).2.2.2.2.2.1⟩
  have m2 : ∀ c ∈ upL vs, letB c = true ∧ 48 ≤ c.toNat ∧ c ≠ 34 := fun c hc => by
    obtain ⟨v, hv, rfl⟩ := List.mem_map.1 hc
    exact ⟨(letter_cap v (h26 v hv)).2.1, (letter_cap v (h26 v hv)).2.2.2.2.2.2, (letter_cap v (h26 v hv)).2.2.2.2.1⟩
  have t1 := word_alone (loL vs) vs.length hl0 (List.all_eq_true.2 fun c hc => (m1 c hc).1) (fun c hc => (m1 c hc).2) (by omega)
  have t2 := word_alone (upL vs) vs.length hu0 (List.all_eq_true.2 fun c hc => (m2 c hc).1) (fun c hc => (m2 c hc).2.1) (by omega)
  have t3 := quoted_alone (upL vs) (vs.length + 2) hu0 (fun c hc => (m2 c hc).2.2) (by omega)
  have z1 : (⟨(loL vs).toArray⟩ : ByteArray).size = vs.length := by rw [bmk_size, hll]
  have z2 : (⟨(upL vs).toArray⟩ : ByteArray).size = vs.length := by rw [bmk_size, hul]
  have z3 : (⟨(34 :: (upL vs ++ [34])).toArray⟩ : ByteArray).size = vs.length + 2 := by rw [bmk_size]; simp [hul]
  rw [c1] at t1
  rw [c2] at t2
  rw [tokens_some _ (k + 1) (vs.length + 1 + 1) _ (by omega) (by omega) (by omega) (by rw [z1, bmk]; exact t1), Option.bind_some,
    tokens_some _ (k + 1) (vs.length + 1 + 1) _ (by omega) (by omega) (by omega) (by rw [z2, bmk]; exact t2), Option.bind_some,
    if_pos (by omega), if_pos (by rw [ByteArray.size_append, z2]; show 1 + vs.length + 1 ≤ _; omega), quote_cat,
    tokens_some _ (k + 1) (vs.length + 2 + 1 + 1) _ (by omega) (by omega) (by omega) (by rw [z3, bmk]; exact t3), Option.bind_some]
  dsimp only
  rw [if_pos rfl, if_pos rfl, if_pos rfl, if_pos (by rfl), if_pos (by rfl)]
  have e2 : (((([⟨1, ⟨(upL vs).toArray⟩, 0, 0⟩, ⟨0, ⟨#[]⟩, 0, ((vs.length + 2 : Nat) : Int)⟩] : List S33).length : Nat) : Int) != 2) = false := by simp
  rw [e2]
  simp only [quaysidelaw16_LexCases.j2]
  rw [if_neg (by decide), lo_str, up_str, key_f _ k (by omega), Option.bind_some, bmk]
  have aw := awk_f k (by omega)
  have hl : ∀ x : BS, (⟨x.toArray⟩ : ByteArray).toList = x := fun x => by rw [bl]
  cases hky : isKey (upL vs) with
  | true => simp [rd_T33, hl, aw]
  | false => simp [rd_T33, hl, aw]
theorem tmod26 (x : Int) : ∃ v : Nat, v < 26 ∧ Int.tmod (Go.bits .and .u8 x 31) 26 = (v : Int) := by
  have h : 0 ≤ Go.bits .and .u8 x 31 := by
    unfold Go.bits
    simp only [IntKind.wrap, IntKind.bits, IntKind.signed]
    try split
    all_goals first | omega | (apply Int.emod_nonneg; decide)
  refine ⟨(Int.tmod (Go.bits .and .u8 x 31) 26).toNat, ?_, ?_⟩
  · rw [Int.tmod_eq_emod_of_nonneg h]; omega
  · rw [Int.tmod_eq_emod_of_nonneg h]; omega
theorem cases_l0 (x0 : ByteArray) (h1 : 1 ≤ x0.size) (h30 : x0.size ≤ 30) : ∀ (d : Nat) (vs : List Nat) (k : Nat), vs.length + d = x0.size → 300000 + d < k → (∀ v ∈ vs, v < 26) →
    quaysidelaw16_LexCases.l0 k x0 (loI vs) (upI vs) (vs.length : Int) = some true
  | 0, vs, k, hd, hk, h26 => cases_end x0 vs k (by omega) h26 (by omega) (by omega) (by omega)
  | d + 1, vs, k, hd, hk, h26 => by
    obtain ⟨k, rfl⟩ : ∃ m, k = m + 1 := ⟨k - 1, by omega⟩
    simp only [quaysidelaw16_LexCases.l0]
    obtain ⟨v, hv, e⟩ := tmod26 (bt x0 (vs.length : Int))
    rw [if_pos (by omega), if_pos (by omega), if_pos (by unfold loI; rw [List.length_map]; omega), if_pos (by unfold upI; rw [List.length_map]; omega), e,
      show wrap64 ((vs.length : Int) + 1) = (((vs ++ [v]).length : Nat) : Int) by rw [List.length_append, List.length_singleton]; unfold wrap64; omega,
      show loI vs ++ [(97 + (v : Int)) % 256] = loI (vs ++ [v]) by unfold loI; rw [List.map_append, show (97 + (v : Int)) % 256 = 97 + (v : Int) by omega]; rfl,
      show upI vs ++ [(65 + (v : Int)) % 256] = upI (vs ++ [v]) by unfold upI; rw [List.map_append, show (65 + (v : Int)) % 256 = 65 + (v : Int) by omega]; rfl]
    refine cases_l0 x0 h1 h30 d (vs ++ [v]) k (by simp; omega) (by omega) ?_
    intro u hu
    rcases List.mem_append.1 hu with hu | hu
    · exact h26 u hu
    · rw [List.mem_singleton.1 hu]; exact hv
theorem LexCases : quaysidelaw16_LexCases.Pure := by
  intro a0 _
  refine ⟨500000, ?_⟩
  unfold quaysidelaw16_LexCases.f
  rw [show (500000 : Nat) = 499999 + 1 from rfl]
  have jt : quaysidelaw16_LexCases.j0 (499999 + 1) a0 true = some true := by
    simp only [quaysidelaw16_LexCases.j0, if_true]
    exact awk_f _ (by omega)
  by_cases h : (a0.size : Int) < 1
  · rw [if_pos h]; exact jt
  rw [if_neg h]
  by_cases h2 : (a0.size : Int) > 30
  · rw [decide_eq_true h2]; exact jt
  rw [decide_eq_false h2]
  simp only [quaysidelaw16_LexCases.j0]
  rw [if_neg (by decide)]
  have := cases_l0 a0 (by omega) (by omega) a0.size [] 499999 (by simp) (by omega) (by simp)
  exact this
end Go.Proofs.YtbmlpbgddlgdkaaDoor.Lx
