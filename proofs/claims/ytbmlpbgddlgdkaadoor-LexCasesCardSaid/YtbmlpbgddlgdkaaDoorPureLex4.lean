/- A token as it is written, and that the lexer reads it back. No condition beyond those that each theorem names. -/
import Derived.Test.YtbmlpbgddlgdkaaDoorPureLex3
namespace Go.Proofs.YtbmlpbgddlgdkaaDoor.Lx
open Go.RowKit Go.Proofs.YtbmlpbgddlgdkaaDoorW.PrintWords Go.Proofs.YtbmlpbgddlgdkaaDoorW.PrintLast Go.Proofs.YtbmlpbgddlgdkaaDoorW.PrintMore
open Go.Proofs.YtbmlpbgddlgdkaaDoor.Dec (readS textS digN)
set_option linter.unusedVariables false
set_option linter.unusedSimpArgs false
def escL (q : UInt8) : BS → BS
  | [] => []
  | b :: l => if b = q then q :: q :: escL q l else b :: escL q l
theorem rep_skip (q b : UInt8) (hb : b ≠ q) (l : BS) : ∀ m, Lib.replaceK [q] [q, q] m (b :: l) = b :: Lib.replaceK [q] [q, q] m l
  | 0 => rfl
  | m + 1 => by
    have hp : ([q] : BS).isPrefixOf (b :: l) = false := by simp [List.isPrefixOf, Ne.symm hb]
    have hi : Lib.index (b :: l) [q] = if Lib.index l [q] == -1 then -1 else Lib.index l [q] + 1 := by
      rw [Lib.index, hp]; rfl
    unfold Lib.replaceK
    rw [hi]
    have hge := Lib.index_ge l [q]
    by_cases c : Lib.index l [q] = -1
    · simp [c]
    · obtain ⟨i, hi2⟩ : ∃ i : Nat, Lib.index l [q] = i := ⟨(Lib.index l [q]).toNat, by omega⟩
      have c1 : (Lib.index l [q] == -1) = false := by simpa using c
      have c2 : (((i : Int) + 1) == -1) = false := by simp; omega
      rw [hi2] at c1 ⊢
      rw [c1]
      simp only [Bool.false_eq_true, if_false, c2]
      rw [show ((i : Int) + 1).toNat = i + 1 from by omega, show ((i : Int)).toNat = i from by omega]
      simp
theorem rep_all (q : UInt8) : ∀ l : BS, Lib.replaceK [q] [q, q] (l.count q) l = escL q l
  | [] => by simp [Lib.replaceK, escL]
  | b :: l => by
    by_cases hb : b = q
    · subst hb
      have hi : Lib.index (b :: l) [b] = 0 := by rw [Lib.index]; simp [List.isPrefixOf]
      rw [List.count_cons_self, Lib.replaceK_hit _ _ _ _ 0 hi, escL, if_pos rfl]
      simp [rep_all b l]
    · rw [List.count_cons_of_ne hb, rep_skip q b hb, rep_all q l, escL, if_neg hb]
theorem replace_f (q : UInt8) (a2 : ByteArray) (hs : a2.size ≤ 64) : strings_ReplaceAll.f a2 ⟨#[q]⟩ ⟨#[q, q]⟩ = some ⟨(escL q a2.data.toList).toArray⟩ := by
  unfold strings_ReplaceAll.f
  have hc : Lib.countB a2 ⟨#[q]⟩ = a2.data.toList.count q := Lib.count_one q a2.data.toList
  have hle : a2.data.toList.count q ≤ a2.size := by have := List.count_le_length (a := q) (l := a2.data.toList); simpa using this
  rw [if_pos (by omega), if_pos (show 1 ≤ (⟨#[q]⟩ : ByteArray).size from Nat.le_refl 1), if_pos (show (⟨#[q, q]⟩ : ByteArray).size ≤ 1000 from (by decide : 2 ≤ 1000)), if_pos (by rw [hc]; omega)]
  congr 2
  unfold Lib.replaceAll Lib.replace Lib.replaceNum
  rw [if_neg (by simp), if_pos (by simp)]
  have : Lib.count a2.data.toList [q] = a2.data.toList.count q := Lib.count_one q a2.data.toList
  show (Lib.replaceK [q] [q, q] (Lib.count a2.data.toList [q]) a2.data.toList).toArray = _
  rw [this, rep_all]
theorem escL_length (q : UInt8) : ∀ l : BS, (escL q l).length ≤ 2 * l.length
  | [] => by simp [escL]
  | b :: l => by
    have := escL_length q l
    by_cases hb : b = q <;> simp [escL, hb] <;> omega
/-- a number's text, in bytes -/
def textB (n : Int) : BS := (textS n).map UInt8.ofNat
/-- a token as it is written -/
def putL (k : Int) (t : BS) (n : Int) : BS :=
  if k = 2 ∨ k = 5 then t else if k = 3 then textB n else if k = 4 then 39 :: (escL 39 t ++ [39]) else if k = 1 then (if isWordL t = true then t else 34 :: (escL 34 t ++ [34])) else []
theorem num_f (n : Int) (hn : In n) : num_Text.f n = some ⟨(textB n).toArray⟩ := by
  rw [text_eq n hn]
  refine congrArg some (bext ?_)
  rw [strOfNums_data, List.map_map, bmk]
  unfold textB
  exact List.map_congr_left fun b _ => by simp
theorem quote_cat (q : UInt8) (l : BS) : ((⟨#[q]⟩ : ByteArray) ++ ⟨l.toArray⟩) ++ ⟨#[q]⟩ = ⟨(q :: (l ++ [q])).toArray⟩ := bext (by simp [ByteArray.data_append])
theorem show_f (t : BS) (k : Nat) (ht : t.length ≤ 64) : value_Show.f k 2 0 ⟨t.toArray⟩ = some ⟨(39 :: (escL 39 t ++ [39])).toArray⟩ := by
  unfold value_Show.f value_Check.f
  rw [if_neg (by decide), if_neg (by decide), if_pos rfl, if_pos rfl, bmk_size, if_pos (by omega), Option.bind_some, if_pos rfl, if_neg (by decide), if_pos rfl, replace_f 39 _ (by rw [bmk_size]; exact ht), Option.bind_some, bmk]
  have hl := escL_length 39 t
  rw [if_pos (by rw [bmk_size]; omega), if_pos (by rw [ByteArray.size_append, bmk_size (escL 39 t)]; show 1 + _ + 1 ≤ _; omega), quote_cat]
theorem put_f (kd : Int) (t : BS) (n at' : Int) (k : Nat) (hk : 300 < k) (hg : Good kd t n ∨ (kd = 0 ∧ t = [] ∧ n = 0)) : lex_Put.f k kd ⟨t.toArray⟩ n at' = some ⟨(putL kd t n).toArray⟩ := by
  obtain ⟨k, rfl⟩ : ∃ m, k = m + 1 := ⟨k - 1, by omega⟩
  unfold lex_Put.f
  rcases hg with (⟨rfl, h1, h2, rfl⟩ | ⟨rfl, h1, rfl⟩ | ⟨rfl, rfl, h1, h2⟩ | ⟨rfl, h1, rfl⟩ | ⟨rfl, h1, rfl⟩) | ⟨rfl, rfl, rfl⟩
  · rw [if_neg (by decide)]
    simp only [lex_Put.j0]
    rw [if_neg (by decide), if_neg (by decide), if_neg (by decide), if_pos trivial, word_f _ k (by omega), Option.bind_some, bmk]
    rw [show putL 1 t 0 = if isWordL t = true then t else 34 :: (escL 34 t ++ [34]) from rfl]
    by_cases hw : isWordL t = true
    · rw [if_pos hw, if_pos hw]
    · rw [if_neg hw, if_neg hw, Option.bind_some]
      have e : strOfNums [34] = ⟨#[34]⟩ := rfl
      have e2 : (⟨#[34]⟩ : ByteArray) ++ ⟨#[34]⟩ = ⟨#[34, 34]⟩ := bext (by simp [ByteArray.data_append])
      have hl := escL_length 34 t
      rw [e, if_pos (show (⟨#[34]⟩ : ByteArray).size + (⟨#[34]⟩ : ByteArray).size ≤ 9223372036854775807 by decide), e2, replace_f 34 _ (by rw [bmk_size]; exact h2), Option.bind_some, bmk, if_pos (by rw [bmk_size (escL 34 t)]; show 1 + _ ≤ _; omega), if_pos (by rw [ByteArray.size_append, bmk_size (escL 34 t)]; show 1 + _ + 1 ≤ _; omega), quote_cat]
  · rw [if_pos rfl]
    simp only [lex_Put.j0]
    rw [if_pos (by decide)]; rfl
  · rw [if_neg (by decide)]
    simp only [lex_Put.j0]
    rw [if_neg (by decide), if_pos trivial, num_f n (by omega), Option.bind_some]; rfl
  · rw [if_neg (by decide)]
    simp only [lex_Put.j0]
    rw [if_neg (by decide), if_neg (by decide), if_pos trivial, show_f t k h1, Option.bind_some]; rfl
  · rw [if_neg (by decide)]
    simp only [lex_Put.j0]
    rw [if_pos (by decide)]; rfl
  · rfl
/-! ### The next token of what is written -/
theorem take_app {p : UInt8 → Bool} (t : BS) (d : UInt8) (r : BS) (h : t.all p = true) (hd : p d = false) : (t ++ d :: r).takeWhile p = t := by
  induction t with
  | nil => simp [List.takeWhile_cons, hd]
  | cons c t ih =>
    rw [List.all_cons, Bool.and_eq_true] at h
    rw [List.cons_append, List.takeWhile_cons, if_pos h.1, ih h.2]
theorem quoted_esc (q d : UInt8) (hd : d ≠ q) (r : BS) : ∀ t : BS, quotedL q (escL q t ++ q :: d :: r) = some (t, (escL q t).length + 1)
  | [] => by rw [escL, List.nil_append, quotedL_close _ _ _ hd]; rfl
  | b :: t => by
    by_cases hb : b = q
    · subst hb
      rw [escL, if_pos rfl, List.cons_append, List.cons_append, quotedL_two, quoted_esc b d hd r t]
      rfl
    · rw [escL, if_neg hb, List.cons_append, quotedL_ne _ _ _ hb, quoted_esc q d hd r t]
      rfl
theorem upper_worB (c : UInt8) (h : upperB c = true) : letB c = true ∧ worB c = true ∧ capByte c = c := by
  simp only [upperB, Bool.and_eq_true, decide_eq_true_eq] at h
  have h1 : letB c = true := by simp only [letB, Bool.or_eq_true, Bool.and_eq_true, decide_eq_true_eq]; omega
  refine ⟨h1, by unfold worB; rw [h1]; rfl, ?_⟩
  unfold capByte
  rw [if_neg (by omega)]
theorem map_id_on {t : BS} {f : UInt8 → UInt8} (h : ∀ c ∈ t, f c = c) : t.map f = t := by
  rw [List.map_congr_left h, List.map_id']
theorem cons_app (c : UInt8) (l m : BS) (d : UInt8) (r : BS) : (c :: (l ++ [d])) ++ r = c :: (l ++ d :: r) := by simp
theorem word_of_head (c : UInt8) (l r : BS) (h : (c :: l).all worB = true) (hL : letB c = true) :
    nextL ((c :: l) ++ 32 :: r) = if isKey ((c :: l).map capByte) = true then (2, (c :: l).map capByte, 0, (c :: l).length, decide ((c :: l).length ≤ 64)) else (1, c :: l, 0, (c :: l).length, decide ((c :: l).length ≤ 64)) := by
  have ht := take_app (c :: l) 32 r h (by decide)
  rw [List.cons_append] at ht ⊢
  unfold nextL
  dsimp only
  rw [if_pos hL, ht]
theorem digits_of (n : Int) (h0 : 0 ≤ n) (h1 : n ≤ 9223372036854775807) : textB n ≠ [] ∧ (textB n).all digB = true ∧ (textB n).map UInt8.toNat = textS n := by
  have e : textS n = digN 20 n.natAbs := by unfold textS; rw [if_neg (by omega), List.nil_append]
  have hall := Dec.digN_all 20 n.natAbs
  refine ⟨?_, ?_, ?_⟩
  · unfold textB; rw [e]
    have := Dec.digN_ne 19 n.natAbs
    exact fun h => this (List.map_eq_nil_iff.1 h)
  · unfold textB; rw [e, List.all_map, List.all_eq_true]
    intro b hb
    have := List.all_eq_true.1 hall b hb
    simp only [Dec.isD, decide_eq_true_eq] at this
    have e2 : (UInt8.ofNat b).toNat = b := UInt8.toNat_ofNat_of_lt' (show b < 256 by omega)
    simp only [Function.comp_apply, digB, e2, Bool.and_eq_true, decide_eq_true_eq]
    exact this
  · unfold textB
    rw [List.map_map]
    conv => rhs; rw [← List.map_id (textS n)]
    exact List.map_congr_left fun b hb => UInt8.toNat_ofNat_of_lt' (textS_lt n b hb)
theorem next_put (kd : Int) (t : BS) (n : Int) (hg : Good kd t n) (r : BS) : nextL (putL kd t n ++ 32 :: r) = (kd, t, n, (putL kd t n).length, true) := by
  rcases hg with ⟨rfl, h1, h2, rfl⟩ | ⟨rfl, h1, rfl⟩ | ⟨rfl, rfl, h1, h2⟩ | ⟨rfl, h1, rfl⟩ | ⟨rfl, h1, rfl⟩
  · have hp : putL 1 t 0 = if isWordL t = true then t else 34 :: (escL 34 t ++ [34]) := rfl
    rw [hp]
    by_cases hw : isWordL t = true
    · rw [if_pos hw]
      cases t with
      | nil => cases hw
      | cons c l =>
        have hw' := hw
        simp only [isWordL, Bool.and_eq_true, Bool.not_eq_true', decide_eq_true_eq] at hw'
        obtain ⟨⟨⟨w1, w2⟩, w3⟩, w4⟩ := hw'
        have hL : letB c = true := by
          have := List.all_eq_true.1 w4 c (by simp)
          unfold worB at this; rw [w2, Bool.or_false] at this; exact this
        rw [word_of_head c l r w4 hL, w3, if_neg (by decide), decide_eq_true h2]
    · rw [if_neg hw, cons_app _ _ []]
      unfold nextL
      dsimp only
      rw [if_neg (by decide), if_pos (by decide), quoted_esc 34 32 (by decide) r t]
      dsimp only
      rw [decide_eq_true (⟨by rintro rfl; simp at h1, h2⟩ : t ≠ [] ∧ t.length ≤ 64)]
      refine congrArg (fun x => ((1 : Int), t, (0 : Int), x, true)) ?_
      simp; omega
  · have hp : putL 2 t 0 = t := rfl
    rw [hp]
    obtain ⟨k1, k2, k3⟩ := key_upper h1
    cases t with
    | nil => simp at k1
    | cons c l =>
      have hm : (c :: l).map capByte = c :: l := map_id_on fun x hx => (upper_worB x (k3 x hx)).2.2
      rw [word_of_head c l r (List.all_eq_true.2 fun x hx => (upper_worB x (k3 x hx)).2.1) (upper_worB c (k3 c (by simp))).1, hm, if_pos h1, decide_eq_true k2]
  · have hp : putL 3 [] n = textB n := rfl
    rw [hp]
    obtain ⟨d1, d2, d3⟩ := digits_of n h1 h2
    have ht := take_app (textB n) 32 r d2 (by decide)
    cases hx : textB n with
    | nil => exact absurd hx d1
    | cons c l =>
      rw [hx] at ht d2 d3
      have hc := List.all_eq_true.1 d2 c (by simp)
      have hcn : 48 ≤ c.toNat ∧ c.toNat ≤ 57 := by simpa [digB] using hc
      rw [List.cons_append] at ht ⊢
      unfold nextL
      dsimp only
      rw [if_neg (by simp only [letB, Bool.or_eq_true, Bool.and_eq_true, decide_eq_true_eq]; omega), if_neg (by omega), if_neg (by omega), if_pos hc, ht, d3, Dec.read_text n (by omega)]
      rfl
  · have hp : putL 4 t 0 = 39 :: (escL 39 t ++ [39]) := rfl
    rw [hp, cons_app _ _ []]
    unfold nextL
    dsimp only
    rw [if_neg (by decide), if_neg (by decide), if_pos (by decide), quoted_esc 39 32 (by decide) r t]
    dsimp only
    rw [decide_eq_true h1]
    refine congrArg (fun x => ((4 : Int), t, (0 : Int), x, true)) ?_
    simp; omega
  · have hp : putL 5 t 0 = t := rfl
    rw [hp]
    simp only [signs, List.mem_cons, List.not_mem_nil, or_false] at h1
    rcases h1 with rfl | rfl | rfl | rfl | rfl | rfl | rfl | rfl | rfl | rfl | rfl | rfl | rfl | rfl | rfl | rfl <;> rfl
/-! ### What is skipped -/
theorem run26_blank (c : UInt8) : runB 26 c = blaB c := run26 c
def Start (r : BS) : Prop := r = [] ∨ ∃ c l, r = c :: l ∧ blaB c = false ∧ Lib.hasPrefix r [45, 45] = false ∧ Lib.hasPrefix r [47, 42] = false
theorem skip_none (f : Nat) (r : BS) (h : Start r) : skipL (f + 1) r = (true, 0) := by
  rcases h with rfl | ⟨c, l, rfl, h1, h2, h3⟩
  · rfl
  · have ht : (c :: l).takeWhile (runB 26) = [] := by rw [List.takeWhile_cons, if_neg (by rw [run26, h1]; decide)]
    unfold skipL
    rw [ht]
    simp only [List.length_nil, List.drop_zero]
    rw [h2, h3, if_neg (by decide), if_neg (by decide)]
theorem skip_blank (f : Nat) (b : UInt8) (r : BS) (hb : blaB b = true) : skipL (f + 1) (b :: r) = ((skipL (f + 1) r).1, 1 + (skipL (f + 1) r).2) := by
  have ht : (b :: r).takeWhile (runB 26) = b :: r.takeWhile (runB 26) := by rw [List.takeWhile_cons, if_pos (by rw [run26, hb])]
  unfold skipL
  rw [ht]
  simp only [List.length_cons, List.drop_succ_cons]
  generalize (r.takeWhile (runB 26)).length = n
  generalize r.drop n = r1
  by_cases c1 : Lib.hasPrefix r1 [45, 45] = true
  · rw [if_pos c1, if_pos c1]
    refine Prod.ext rfl ?_
    dsimp only; omega
  · rw [if_neg c1, if_neg c1]
    by_cases c2 : Lib.hasPrefix r1 [47, 42] = true
    · rw [if_pos c2, if_pos c2]
      by_cases c3 : Lib.index (r1.drop 2) [42, 47] < 0
      · rw [if_pos c3, if_pos c3]
        refine Prod.ext rfl ?_
        dsimp only; omega
      · rw [if_neg c3, if_neg c3]
        refine Prod.ext rfl ?_
        dsimp only; omega
    · rw [if_neg c2, if_neg c2]
      refine Prod.ext rfl ?_
      dsimp only; omega
theorem hp45 (r : BS) : Lib.hasPrefix (45 :: 45 :: r) [45, 45] = true := rfl
theorem hp47 (r : BS) : Lib.hasPrefix (47 :: r) [45, 45] = false := rfl
theorem hp42 (r : BS) : Lib.hasPrefix (47 :: 42 :: r) [47, 42] = true := rfl
theorem skip_line (f : Nat) (m r : BS) (hm : m.all (fun c => decide (c.toNat ≠ 10)) = true) : skipL (f + 1) (45 :: 45 :: (m ++ 10 :: r)) = ((skipL f (10 :: r)).1, 2 + m.length + (skipL f (10 :: r)).2) := by
  have ht : (45 :: 45 :: (m ++ 10 :: r)).takeWhile (runB 26) = [] := rfl
  have ht2 : (45 :: 45 :: (m ++ 10 :: r)).takeWhile (runB 28) = 45 :: 45 :: m := by
    have : runB 28 = fun c => decide (c.toNat ≠ 10) := funext run28
    rw [this]
    exact take_app (45 :: 45 :: m) 10 r (by simp only [List.all_cons, hm]; rfl) (by decide)
  have hd : (45 :: 45 :: (m ++ 10 :: r)).drop (45 :: 45 :: m).length = 10 :: r := by simp
  rw [skipL, ht]
  simp only [List.length_nil, List.drop_zero]
  rw [if_pos (hp45 _), ht2, hd]
  refine Prod.ext rfl ?_
  simp; omega
theorem index_end (r : BS) : ∀ m : BS, m.all (fun c => decide (c.toNat ≠ 42)) = true → Lib.index (m ++ 42 :: 47 :: r) [42, 47] = (m.length : Int)
  | [], _ => by rw [List.nil_append, Lib.index, if_pos (by simp [List.isPrefixOf])]; rfl
  | c :: m, h => by
    rw [List.all_cons, Bool.and_eq_true, decide_eq_true_eq] at h
    have hc : ¬ 42 = c := fun e => h.1 (by rw [← e]; rfl)
    rw [List.cons_append, Lib.index, if_neg (by simp [List.isPrefixOf, hc]), index_end r m h.2, if_neg (by simp)]
    simp
theorem skip_rem (f : Nat) (m r : BS) (hm : m.all (fun c => decide (c.toNat ≠ 42)) = true) : skipL (f + 1) (47 :: 42 :: (m ++ 42 :: 47 :: r)) = ((skipL f r).1, 4 + m.length + (skipL f r).2) := by
  have ht : (47 :: 42 :: (m ++ 42 :: 47 :: r)).takeWhile (runB 26) = [] := rfl
  have hd : (47 :: 42 :: (m ++ 42 :: 47 :: r)).drop (m.length + 4) = r := by
    rw [show m.length + 4 = (m.length + 2) + 1 + 1 from rfl, List.drop_succ_cons, List.drop_succ_cons, List.drop_append, List.drop_of_length_le (by omega), show m.length + 2 - m.length = 2 by omega]; rfl
  rw [skipL, ht]
  simp only [List.length_nil, List.drop_zero]
  rw [if_neg (by rw [hp47]; decide), if_pos (hp42 _), show (47 :: 42 :: (m ++ 42 :: 47 :: r)).drop 2 = m ++ 42 :: 47 :: r from rfl, index_end r m hm, if_neg (by omega), Int.toNat_natCast, hd]
  refine Prod.ext rfl ?_
  dsimp only; omega
/-- from fuel f on, n bytes are skipped -/
def Skips (f : Nat) (r : BS) (n : Nat) : Prop := ∀ g, f ≤ g → skipL (g + 1) r = (true, n)
/-- a text that stands between tokens -/
def Sep (s : BS) : Prop := (∃ s', s = 32 :: s') ∧ ∀ f r n, Skips f r n → Skips (f + 1) (s ++ r) (s.length + n)
theorem sep_blank : Sep [32] := ⟨⟨[], rfl⟩, fun f r n h g hg => by
  rw [show ([32] : BS) ++ r = 32 :: r from rfl, skip_blank g 32 r (by decide), h g (by omega)]; rfl⟩
theorem sep_rem (m : BS) (hm : m.all (fun c => decide (c.toNat ≠ 42)) = true) : Sep (32 :: 9 :: 47 :: 42 :: (m ++ [42, 47, 10])) := ⟨⟨_, rfl⟩, fun f r n h g hg => by
  obtain ⟨g, rfl⟩ : ∃ g', g = g' + 1 := ⟨g - 1, by omega⟩
  have e : (32 :: 9 :: 47 :: 42 :: (m ++ [42, 47, 10])) ++ r = 32 :: 9 :: 47 :: 42 :: (m ++ 42 :: 47 :: 10 :: r) := by simp
  rw [e, skip_blank _ 32 _ (by decide), skip_blank _ 9 _ (by decide), skip_rem _ m _ hm, skip_blank g 10 r (by decide), h g (by omega)]
  refine Prod.ext rfl ?_
  simp; omega⟩
theorem sep_line (m : BS) (hm : m.all (fun c => decide (c.toNat ≠ 10)) = true) : Sep (32 :: 45 :: 45 :: (m ++ [13, 10, 32])) := ⟨⟨_, rfl⟩, fun f r n h g hg => by
  obtain ⟨g, rfl⟩ : ∃ g', g = g' + 1 := ⟨g - 1, by omega⟩
  have e : (32 :: 45 :: 45 :: (m ++ [13, 10, 32])) ++ r = 32 :: 45 :: 45 :: ((m ++ [13]) ++ 10 :: 32 :: r) := by simp
  have hm2 : (m ++ [13]).all (fun c => decide (c.toNat ≠ 10)) = true := by rw [List.all_append, hm]; rfl
  rw [e, skip_blank _ 32 _ (by decide), skip_line _ (m ++ [13]) _ hm2, skip_blank g 10 _ (by decide), skip_blank g 32 _ (by decide), h g (by omega)]
  refine Prod.ext rfl ?_
  simp; omega⟩
theorem start_head (c : UInt8) (l : BS) (h : blaB c = false) (h1 : c ≠ 45) (h2 : c ≠ 47) : Start (c :: l) :=
  .inr ⟨c, l, rfl, h, by simp [Lib.hasPrefix, List.isPrefixOf, Ne.symm h1], by simp [Lib.hasPrefix, List.isPrefixOf, Ne.symm h2]⟩
theorem bla_of (c : UInt8) (h : 33 ≤ c.toNat) : blaB c = false := by
  simp only [blaB, Bool.or_eq_false_iff, decide_eq_false_iff_not]; omega
theorem start_num (c : UInt8) (l : BS) (h : 48 ≤ c.toNat) : Start (c :: l) :=
  start_head c l (bla_of c (by omega)) (fun e => by rw [e] at h; exact absurd h (by decide)) (fun e => by rw [e] at h; exact absurd h (by decide))
theorem start_put (kd : Int) (t : BS) (n : Int) (hg : Good kd t n) (r : BS) : Start (putL kd t n ++ 32 :: r) := by
  have wor : ∀ c, worB c = true → 48 ≤ c.toNat := fun c h => by
    simp only [worB, letB, digB, Bool.or_eq_true, Bool.and_eq_true, decide_eq_true_eq] at h; omega
  rcases hg with ⟨rfl, h1, h2, rfl⟩ | ⟨rfl, h1, rfl⟩ | ⟨rfl, rfl, h1, h2⟩ | ⟨rfl, h1, rfl⟩ | ⟨rfl, h1, rfl⟩
  · have hp : putL 1 t 0 = if isWordL t = true then t else 34 :: (escL 34 t ++ [34]) := rfl
    rw [hp]
    by_cases hw : isWordL t = true
    · rw [if_pos hw]
      cases t with
      | nil => cases hw
      | cons c l =>
        simp only [isWordL, Bool.and_eq_true] at hw
        exact start_num c _ (wor c (List.all_eq_true.1 hw.2 c (by simp)))
    · rw [if_neg hw]
      exact start_head 34 _ (by decide) (by decide) (by decide)
  · have hp : putL 2 t 0 = t := rfl
    rw [hp]
    obtain ⟨k1, k2, k3⟩ := key_upper h1
    cases t with
    | nil => simp at k1
    | cons c l => exact start_num c _ (wor c (upper_worB c (k3 c (by simp))).2.1)
  · have hp : putL 3 [] n = textB n := rfl
    rw [hp]
    obtain ⟨d1, d2, d3⟩ := digits_of n h1 h2
    cases hx : textB n with
    | nil => exact absurd hx d1
    | cons c l =>
      rw [hx] at d2
      exact start_num c _ (wor c (by unfold worB; rw [List.all_eq_true.1 d2 c (by simp), Bool.or_true]))
  · exact start_head 39 _ (by decide) (by decide) (by decide)
  · have hp : putL 5 t 0 = t := rfl
    rw [hp]
    simp only [signs, List.mem_cons, List.not_mem_nil, or_false] at h1
    rcases h1 with rfl | rfl | rfl | rfl | rfl | rfl | rfl | rfl | rfl | rfl | rfl | rfl | rfl | rfl | rfl | rfl <;> exact .inr ⟨_, _, rfl, by decide, rfl, rfl⟩
theorem put_pos (kd : Int) (t : BS) (n : Int) (hg : Good kd t n) : 1 ≤ (putL kd t n).length := by
  have h := next_put kd t n hg []
  have h2 := (next_good (putL kd t n ++ [32]) (by rw [h])).2.1
  rw [h] at h2
  exact h2
end Go.Proofs.YtbmlpbgddlgdkaaDoor.Lx
