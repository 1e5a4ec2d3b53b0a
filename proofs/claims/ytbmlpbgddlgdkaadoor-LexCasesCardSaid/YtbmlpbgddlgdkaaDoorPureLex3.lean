/- The lexer's tokens in plain words: what is skipped, and the list of tokens. No condition beyond those that each theorem names. -/
import Derived.Test.YtbmlpbgddlgdkaaDoorPureLex2
namespace Go.Proofs.YtbmlpbgddlgdkaaDoor.Lx
open Go.RowKit Go.Proofs.YtbmlpbgddlgdkaaDoorW.PrintWords Go.Proofs.YtbmlpbgddlgdkaaDoorW.PrintLast Go.Proofs.YtbmlpbgddlgdkaaDoorW.PrintMore
open Go.Proofs.YtbmlpbgddlgdkaaDoor.Dec (readS textS)
set_option linter.unusedVariables false
set_option linter.unusedSimpArgs false
theorem hp_le {s p : BS} (h : Lib.hasPrefix s p = true) : p.length ≤ s.length := (List.isPrefixOf_iff_prefix.1 h).length_le
theorem skip_room : ∀ (f : Nat) (r : BS), (skipL f r).2 ≤ r.length
  | 0, r => Nat.zero_le _
  | f + 1, r => by
    have hb := take_le (p := runB 26) r
    unfold skipL
    generalize (r.takeWhile (runB 26)).length = b at *
    have h1 : (r.drop b).length = r.length - b := List.length_drop ..
    generalize hr1 : r.drop b = r1 at *
    by_cases c1 : Lib.hasPrefix r1 [45, 45] = true
    · rw [if_pos c1]
      dsimp only
      have hc := take_le (p := runB 28) r1
      have ih := skip_room f (r1.drop (r1.takeWhile (runB 28)).length)
      rw [List.length_drop] at ih
      omega
    · rw [if_neg c1]
      by_cases c2 : Lib.hasPrefix r1 [47, 42] = true
      · rw [if_pos c2]
        have h2 : 2 ≤ r1.length := hp_le c2
        by_cases c3 : Lib.index (r1.drop 2) [42, 47] < 0
        · rw [if_pos c3]; exact hb
        · rw [if_neg c3]
          dsimp only
          have hi := index_room (r1.drop 2) [42, 47] (by omega)
          rw [List.length_drop] at hi
          simp only [List.length_cons, List.length_nil] at hi
          have ih := skip_room f (r1.drop ((Lib.index (r1.drop 2) [42, 47]).toNat + 4))
          rw [List.length_drop] at ih
          omega
      · rw [if_neg c2]; exact hb
theorem skip_f (s : ByteArray) (p : Nat) (hp : p ≤ s.size) (hs : s.size ≤ 100000) :
    lex_scanner_skip.f s (p : Int) = some ((skipL (s.size + 1) (s.data.toList.drop p)).1, s, ((p + (skipL (s.size + 1) (s.data.toList.drop p)).2 : Nat) : Int)) := by
  unfold lex_scanner_skip.f
  rw [if_pos (by omega), Int.toNat_natCast]
/-- the tokens of what is left from place p on -/
def toksL (S : Nat) : Nat → Nat → BS → Option (List S33)
  | 0, _, _ => none
  | f + 1, p, r =>
    if (skipL (S + 1) r).1 = true then
      (if r.drop (skipL (S + 1) r).2 = [] then some [⟨0, ⟨#[]⟩, 0, (S : Int)⟩] else
        (if (nextL (r.drop (skipL (S + 1) r).2)).2.2.2.2 = true then
          (toksL S f (p + (skipL (S + 1) r).2 + (nextL (r.drop (skipL (S + 1) r).2)).2.2.2.1) ((r.drop (skipL (S + 1) r).2).drop (nextL (r.drop (skipL (S + 1) r).2)).2.2.2.1)).map
            (fun ts => (⟨(nextL (r.drop (skipL (S + 1) r).2)).1, ⟨(nextL (r.drop (skipL (S + 1) r).2)).2.1.toArray⟩, (nextL (r.drop (skipL (S + 1) r).2)).2.2.1, ((p + (skipL (S + 1) r).2 : Nat) : Int)⟩ : S33) :: ts)
        else none))
    else none
theorem quoted_room (q : UInt8) : ∀ (n : Nat) (r : BS), r.length ≤ n → ∀ t m, quotedL q r = some (t, m) → 1 ≤ m ∧ m ≤ r.length
  | 0, r, h, t, m, e => by
    have : r = [] := List.eq_nil_of_length_eq_zero (by omega)
    subst this; simp [quotedL] at e
  | n + 1, [], h, t, m, e => by simp [quotedL] at e
  | n + 1, c :: r, h, t, m, e => by
    by_cases hc : c = q
    · subst hc
      cases r with
      | nil => rw [quotedL_end] at e; injection e with e; injection e with e1 e2; subst e2; simp
      | cons d r =>
        by_cases hd : d = c
        · subst hd
          rw [quotedL_two] at e
          obtain ⟨⟨t', m'⟩, e1, e2⟩ := Option.map_eq_some_iff.1 e
          injection e2 with e3 e4
          have := quoted_room d n r (by simp at h; omega) t' m' e1
          dsimp only at e4
          simp; omega
        · rw [quotedL_close _ _ _ hd] at e; injection e with e; injection e with e1 e2; subst e2; simp
    · rw [quotedL_ne _ _ _ hc] at e
      obtain ⟨⟨t', m'⟩, e1, e2⟩ := Option.map_eq_some_iff.1 e
      injection e2 with e3 e4
      have := quoted_room q n r (by simp at h; omega) t' m' e1
      dsimp only at e4
      simp; omega
/-- the signs -/
def signs : List BS := [[60, 62], [60, 61], [62, 61], [124, 124], [40], [41], [44], [46], [42], [43], [45], [47], [37], [61], [60], [62]]
theorem ones_mem : ∀ (l : BS) (c : UInt8), ¬ Lib.indexByte l c < 0 → c ∈ l
  | [], c, h => absurd (show Lib.indexByte [] c < 0 from by unfold Lib.indexByte; decide) h
  | b :: l, c, h => by
    unfold Lib.indexByte at h
    by_cases e : b = c
    · subst e; simp
    · rw [if_neg (by simpa using e)] at h
      by_cases e2 : Lib.indexByte l c = -1
      · rw [if_pos (by simpa using e2)] at h; exact absurd (by decide) h
      · rw [if_neg (by simpa using e2)] at h
        have := Lib.indexByte_ge l c
        exact List.mem_cons_of_mem _ (ones_mem l c (by omega))
theorem sign_good (r t : BS) (n : Nat) (h : signL r = some (t, n)) : t ∈ signs ∧ 1 ≤ n ∧ n ≤ r.length := by
  unfold signL at h
  by_cases h0 : Lib.hasPrefix r [60, 62] = true
  · rw [if_pos h0] at h; injection h with h; injection h with h1 h2; subst h1; subst h2; exact ⟨by decide, by decide, hp_le h0⟩
  rw [if_neg h0] at h
  by_cases h1 : Lib.hasPrefix r [60, 61] = true
  · rw [if_pos h1] at h; injection h with h; injection h with h2 h3; subst h2; subst h3; exact ⟨by decide, by decide, hp_le h1⟩
  rw [if_neg h1] at h
  by_cases h2 : Lib.hasPrefix r [62, 61] = true
  · rw [if_pos h2] at h; injection h with h; injection h with h3 h4; subst h3; subst h4; exact ⟨by decide, by decide, hp_le h2⟩
  rw [if_neg h2] at h
  by_cases h3 : Lib.hasPrefix r [33, 61] = true
  · rw [if_pos h3] at h; injection h with h; injection h with h4 h5; subst h4; subst h5; exact ⟨by decide, by decide, hp_le h3⟩
  rw [if_neg h3] at h
  by_cases h4 : Lib.hasPrefix r [124, 124] = true
  · rw [if_pos h4] at h; injection h with h; injection h with h5 h6; subst h5; subst h6; exact ⟨by decide, by decide, hp_le h4⟩
  rw [if_neg h4] at h
  cases r with
  | nil => cases h
  | cons c r =>
    dsimp only at h
    by_cases h5 : Lib.indexByte ones c < 0
    · rw [if_pos h5] at h; cases h
    · rw [if_neg h5] at h
      injection h with h; injection h with h6 h7; subst h6; subst h7
      have hm := ones_mem _ _ h5
      refine ⟨?_, by decide, by simp⟩
      simp only [ones, List.mem_cons, List.not_mem_nil, or_false] at hm
      rcases hm with rfl | rfl | rfl | rfl | rfl | rfl | rfl | rfl | rfl | rfl | rfl | rfl <;> decide
/-- a token that the lexer may yield -/
def Good (k : Int) (t : BS) (n : Int) : Prop :=
  (k = 1 ∧ 1 ≤ t.length ∧ t.length ≤ 64 ∧ n = 0) ∨ (k = 2 ∧ isKey t = true ∧ n = 0) ∨ (k = 3 ∧ t = [] ∧ 0 ≤ n ∧ n ≤ 9223372036854775807) ∨ (k = 4 ∧ t.length ≤ 64 ∧ n = 0) ∨ (k = 5 ∧ t ∈ signs ∧ n = 0)
theorem read_pos (s : List Nat) (h : s.head? ≠ some 45) (h2 : (readS s).2 = 0) : 0 ≤ (readS s).1 ∧ (readS s).1 ≤ 9223372036854775807 := by
  unfold readS at *
  rw [if_neg h] at *
  by_cases hc : Dec.behind s = [] ∨ (Dec.behind s).head? = some 48 ∧ ((Dec.behind s).length > 1 ∨ s.head? = some 45) ∨ (Dec.behind s).all Dec.isD = false
  · rw [if_pos hc] at h2; cases h2
  · rw [if_neg hc] at *
    unfold Dec.num at *
    by_cases hin : -9223372036854775808 ≤ ((Dec.val 0 (Dec.behind s) : Nat) : Int) ∧ ((Dec.val 0 (Dec.behind s) : Nat) : Int) ≤ 9223372036854775807
    · rw [if_pos hin]; dsimp only; omega
    · rw [if_neg hin] at h2; cases h2
theorem next_good (r : BS) (h : (nextL r).2.2.2.2 = true) : Good (nextL r).1 (nextL r).2.1 (nextL r).2.2.1 ∧ 1 ≤ (nextL r).2.2.2.1 ∧ (nextL r).2.2.2.1 ≤ r.length := by
  cases r with
  | nil => cases h
  | cons c r =>
    unfold nextL at *
    dsimp only at *
    have hcons : ∀ q : UInt8 → Bool, q c = true → 1 ≤ ((c :: r).takeWhile q).length := fun q hq => by rw [List.takeWhile_cons, if_pos hq]; simp
    by_cases hL : letB c = true
    · rw [if_pos hL] at *
      have h1 := hcons worB (by unfold worB; rw [hL]; rfl)
      have h2 := take_le (p := worB) (c :: r)
      by_cases hK : isKey (((c :: r).takeWhile worB).map capByte) = true
      · rw [if_pos hK] at *
        exact ⟨.inr (.inl ⟨rfl, hK, rfl⟩), h1, h2⟩
      · rw [if_neg hK] at *
        exact ⟨.inl ⟨rfl, h1, of_decide_eq_true h, rfl⟩, h1, h2⟩
    rw [if_neg hL] at *
    by_cases h34 : c.toNat = 34
    · rw [if_pos h34] at *
      cases hq : quotedL 34 r with
      | none => rw [hq] at h; cases h
      | some x =>
        obtain ⟨t, m⟩ := x
        rw [hq] at h
        have hr := quoted_room 34 r.length r (Nat.le_refl _) t m hq
        have hd := of_decide_eq_true h
        dsimp only
        refine ⟨.inl ⟨rfl, ?_, hd.2, rfl⟩, by omega, by simp; omega⟩
        cases t with
        | nil => exact absurd rfl hd.1
        | cons _ _ => simp
    rw [if_neg h34] at *
    by_cases h39 : c.toNat = 39
    · rw [if_pos h39] at *
      cases hq : quotedL 39 r with
      | none => rw [hq] at h; cases h
      | some x =>
        obtain ⟨t, m⟩ := x
        rw [hq] at h
        have hr := quoted_room 39 r.length r (Nat.le_refl _) t m hq
        dsimp only
        exact ⟨.inr (.inr (.inr (.inl ⟨rfl, of_decide_eq_true h, rfl⟩))), by omega, by simp; omega⟩
    rw [if_neg h39] at *
    by_cases hD : digB c = true
    · rw [if_pos hD] at *
      have h1 := hcons digB hD
      have h2 := take_le (p := digB) (c :: r)
      dsimp only at h ⊢
      have hp := read_pos (((c :: r).takeWhile digB).map UInt8.toNat) (by
        rw [List.takeWhile_cons, if_pos hD]
        simp only [List.map_cons, List.head?_cons, ne_eq, Option.some.injEq]
        simp [digB] at hD; omega) (by simpa using h)
      exact ⟨.inr (.inr (.inl ⟨rfl, rfl, hp.1, hp.2⟩)), h1, h2⟩
    · rw [if_neg hD] at *
      cases hs : signL (c :: r) with
      | none => rw [hs] at h; cases h
      | some x =>
        obtain ⟨t, n⟩ := x
        have := sign_good _ _ _ hs
        exact ⟨.inr (.inr (.inr (.inr ⟨rfl, this.1, rfl⟩))), this.2.1, this.2.2⟩
/-- the program's tokens are these -/
theorem tokens_l0 (s : ByteArray) (hs : s.size ≤ 4096) : ∀ (f p k : Nat) (acc : List S33), p ≤ s.size → s.size - p < f → acc.length + (s.size - p) ≤ 5000 → s.size - p + 10200 < k →
    (∀ ts, toksL s.size f p (s.data.toList.drop p) = some ts → lex_Tokens.l0 k s s (p : Int) acc = some (acc ++ ts, 0, 0)) ∧
    (toksL s.size f p (s.data.toList.drop p) = none → ∃ q, lex_Tokens.l0 k s s (p : Int) acc = some ([], q, 160))
  | 0, p, k, acc, hp, hf, ha, hk => absurd hf (by omega)
  | f + 1, p, k, acc, hp, hf, ha, hk => by
    obtain ⟨k, rfl⟩ : ∃ m, k = m + 1 := ⟨k - 1, by omega⟩
    have hroom := skip_room (s.size + 1) (s.data.toList.drop p)
    rw [List.length_drop, bsz] at hroom
    unfold toksL lex_Tokens.l0
    rw [skip_f s p hp (by omega)]
    simp only [Option.bind_some]
    generalize hsk : skipL (s.size + 1) (s.data.toList.drop p) = sk at *
    rw [List.drop_drop]
    by_cases h1 : sk.1 = true
    · rw [if_pos h1, if_pos h1, rest_f s (p + sk.2) (by omega), Option.bind_some, bl, ext_list]
      by_cases h2 : s.data.toList.drop (p + sk.2) = []
      · rw [if_pos h2, if_pos h2, if_pos (by omega)]
        exact ⟨fun ts e => by rw [← Option.some.inj e], fun e => by cases e⟩
      · rw [if_neg h2, if_neg h2]
        have hlt : p + sk.2 < s.size := by
          rcases Nat.lt_or_ge (p + sk.2) s.size with g | g
          · exact g
          · exact absurd (List.drop_of_length_le (by rw [bsz]; exact g)) h2
        dsimp only
        rw [next_f s (p + sk.2) k hlt (by omega) (by omega), Option.bind_some]
        have hg := next_good (s.data.toList.drop (p + sk.2))
        rw [List.length_drop, bsz] at hg
        rw [List.drop_drop]
        generalize hnx : nextL (s.data.toList.drop (p + sk.2)) = nx at *
        dsimp only
        by_cases h3 : nx.2.2.2.2 = true
        · obtain ⟨_, g1, g2⟩ := hg h3
          rw [if_pos h3, if_pos h3, if_pos (by omega)]
          have ih := tokens_l0 s hs f (p + sk.2 + nx.2.2.2.1) k (acc ++ [(⟨nx.1, ⟨nx.2.1.toArray⟩, nx.2.2.1, ((p + sk.2 : Nat) : Int)⟩ : S33)]) (by omega) (by omega) (by rw [List.length_append, List.length_singleton]; omega) (by omega)
          constructor
          · intro ts e
            obtain ⟨ts', e1, e2⟩ := Option.map_eq_some_iff.1 e
            rw [ih.1 ts' e1, ← e2, List.append_assoc]; rfl
          · intro e
            exact ih.2 (Option.map_eq_none_iff.1 e)
        · rw [if_neg h3, if_neg h3]
          exact ⟨fun ts e => (by cases e), fun _ => ⟨_, rfl⟩⟩
    · rw [if_neg h1, if_neg h1]
      exact ⟨fun ts e => (by cases e), fun _ => ⟨_, rfl⟩⟩
theorem tokens_some (s : ByteArray) (k f : Nat) (ts : List S33) (hs : s.size ≤ 4096) (hk : 20000 < k) (hf : s.size < f) (h : toksL s.size f 0 s.data.toList = some ts) : lex_Tokens.f k s = some (ts, 0, 0) := by
  unfold lex_Tokens.f
  rw [if_neg (by omega)]
  have := (tokens_l0 s hs f 0 k [] (by omega) (by omega) (by simp; omega) (by omega)).1 ts (by rw [List.drop_zero]; exact h)
  rw [List.nil_append] at this
  exact this
/-- every text's tokens, or that it has none -/
theorem tokens_all (s : ByteArray) (k : Nat) (hk : 20000 < k) : (∃ ts, s.size ≤ 4096 ∧ toksL s.size (s.size + 1) 0 s.data.toList = some ts ∧ lex_Tokens.f k s = some (ts, 0, 0)) ∨ (∃ q e, e ≠ 0 ∧ lex_Tokens.f k s = some ([], q, e) ∧ (e = 2 ∨ toksL s.size (s.size + 1) 0 s.data.toList = none)) := by
  by_cases hs : s.size ≤ 4096
  · have h := tokens_l0 s hs (s.size + 1) 0 k [] (by omega) (by omega) (by simp; omega) (by omega)
    rw [List.drop_zero] at h
    cases ht : toksL s.size (s.size + 1) 0 s.data.toList with
    | some ts => exact .inl ⟨ts, hs, rfl, tokens_some s k _ ts hs hk (by omega) ht⟩
    | none =>
      obtain ⟨q, e⟩ := h.2 ht
      refine .inr ⟨q, 160, by decide, ?_, .inr rfl⟩
      unfold lex_Tokens.f
      rw [if_neg (by omega)]; exact e
  · refine .inr ⟨0, 2, by decide, ?_, .inl rfl⟩
    unfold lex_Tokens.f
    rw [if_pos (by omega)]
end Go.Proofs.YtbmlpbgddlgdkaaDoor.Lx
