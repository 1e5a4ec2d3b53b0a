/- The law LexBack holds of every text: what the lexer yields, written with blanks between, is read back the same. Condition: the text's size within the form's reach. -/
import Derived.Test.YtbmlpbgddlgdkaaDoorPureLex4
import Derived.Test.YtbmlpbgddlgdkaaDoorLxx7
namespace Go.Proofs.YtbmlpbgddlgdkaaDoor.Lx
open Go.RowKit Go.Proofs.YtbmlpbgddlgdkaaDoorW.PrintWords Go.Proofs.YtbmlpbgddlgdkaaDoorW.PrintLast Go.Proofs.YtbmlpbgddlgdkaaDoorW.PrintMore
open Go.Proofs.YtbmlpbgddlgdkaaDoor.Dec (readS textS digN)
set_option linter.unusedVariables false
set_option linter.unusedSimpArgs false
/-- a list of tokens as the lexer yields it -/
inductive Shape : List S33 → Prop
  | fin (p : Int) : Shape [⟨0, ⟨#[]⟩, 0, p⟩]
  | cons (t : S33) (ts : List S33) : Good t.f0 t.f1.data.toList t.f2 → Shape ts → Shape (t :: ts)
def Tok (t : S33) : Prop := Good t.f0 t.f1.data.toList t.f2 ∨ (t.f0 = 0 ∧ t.f1.data.toList = [] ∧ t.f2 = 0)
theorem Shape.toks {ts : List S33} (h : Shape ts) : ∀ t ∈ ts, Tok t := by
  induction h with
  | fin p => intro t ht; rw [List.mem_singleton.1 ht]; exact .inr ⟨rfl, rfl, rfl⟩
  | cons t ts hg _ ih =>
    intro u hu
    rcases List.mem_cons.1 hu with rfl | hu
    · exact .inl hg
    · exact ih u hu
theorem Shape.pos {ts : List S33} (h : Shape ts) : 1 ≤ ts.length := by cases h <;> simp
theorem toks_shape (S : Nat) : ∀ (f p : Nat) (r : BS) (ts : List S33), toksL S f p r = some ts → Shape ts ∧ ts.length ≤ r.length + 1
  | 0, p, r, ts, h => by cases h
  | f + 1, p, r, ts, h => by
    unfold toksL at h
    have hroom := skip_room (S + 1) r
    by_cases h1 : (skipL (S + 1) r).1 = true
    · rw [if_pos h1] at h
      by_cases h2 : r.drop (skipL (S + 1) r).2 = []
      · rw [if_pos h2] at h
        rw [← Option.some.inj h]
        exact ⟨.fin _, by simp⟩
      · rw [if_neg h2] at h
        by_cases h3 : (nextL (r.drop (skipL (S + 1) r).2)).2.2.2.2 = true
        · rw [if_pos h3] at h
          obtain ⟨us, e1, e2⟩ := Option.map_eq_some_iff.1 h
          obtain ⟨g1, g2, g3⟩ := next_good _ h3
          obtain ⟨i1, i2⟩ := toks_shape S f _ _ us e1
          rw [← e2]
          refine ⟨.cons _ _ (by rw [bmk]; exact g1) i1, ?_⟩
          rw [List.length_drop, List.length_drop] at i2
          rw [List.length_drop] at g3
          rw [List.length_cons]; omega
        · rw [if_neg h3] at h; cases h
    · rw [if_neg h1] at h; cases h
/-- tokens as they are written, each with sep behind it -/
def putAll (sep : BS) : List S33 → BS
  | [] => []
  | t :: ts => putL t.f0 t.f1.data.toList t.f2 ++ sep ++ putAll sep ts
/-- a token without its place -/
def er (t : S33) : Int × ByteArray × Int := (t.f0, t.f1, t.f2)
theorem skips_start {r : BS} (h : Start r) : Skips 0 r 0 := fun g _ => skip_none g r h
theorem toks_back (S : Nat) (sep : BS) (hsep : Sep sep) : ∀ (ts : List S33), Shape ts → ∀ (pre : BS) (p f : Nat), (pre = [] ∨ pre = sep) → (pre ++ putAll sep ts).length ≤ S → ts.length ≤ f →
    ∃ us, toksL S f p (pre ++ putAll sep ts) = some us ∧ us.map er = ts.map er := by
  obtain ⟨⟨s', hs'⟩, hsk⟩ := hsep
  have hpos : 1 ≤ sep.length := by rw [hs']; simp
  intro ts hts
  induction hts with
  | fin q =>
    intro pre p f hpre hS hf
    obtain ⟨f, rfl⟩ : ∃ m, f = m + 1 := ⟨f - 1, by simp at hf; omega⟩
    have hp : putAll sep [(⟨0, ⟨#[]⟩, 0, q⟩ : S33)] = sep := by
      show ([] : BS) ++ sep ++ [] = sep
      simp
    rw [hp] at hS ⊢
    have hsk1 : Skips 1 sep (sep.length + 0) := by
      have := hsk 0 [] 0 (skips_start (.inl rfl))
      rwa [List.append_nil] at this
    have hall : skipL (S + 1) (pre ++ sep) = (true, (pre ++ sep).length) := by
      rcases hpre with rfl | rfl
      · rw [List.nil_append] at hS ⊢
        have := hsk1 S (by omega)
        rw [this]; rfl
      · rw [List.length_append] at hS
        have := hsk 1 pre _ hsk1 S (by omega)
        rw [this, List.length_append]; rfl
    unfold toksL
    rw [hall]
    dsimp only
    rw [if_pos rfl, List.drop_length, if_pos rfl]
    exact ⟨_, rfl, rfl⟩
  | cons t ts hg hts ih =>
    intro pre p f hpre hS hf
    obtain ⟨f, rfl⟩ : ∃ m, f = m + 1 := ⟨f - 1, by simp at hf; omega⟩
    have hp : putAll sep (t :: ts) = putL t.f0 t.f1.data.toList t.f2 ++ 32 :: (s' ++ putAll sep ts) := by
      show putL t.f0 t.f1.data.toList t.f2 ++ sep ++ putAll sep ts = _
      rw [hs']; simp
    have hst := start_put t.f0 t.f1.data.toList t.f2 hg (s' ++ putAll sep ts)
    have hnx := next_put t.f0 t.f1.data.toList t.f2 hg (s' ++ putAll sep ts)
    have hlp := put_pos t.f0 t.f1.data.toList t.f2 hg
    rw [hp] at hS ⊢
    have hall : skipL (S + 1) (pre ++ (putL t.f0 t.f1.data.toList t.f2 ++ 32 :: (s' ++ putAll sep ts))) = (true, pre.length) := by
      rcases hpre with rfl | rfl
      · rw [List.nil_append]
        exact skip_none S _ hst
      · rw [List.length_append, List.length_append] at hS
        have := hsk 0 _ 0 (skips_start hst) S (by omega)
        rw [this]; rfl
    unfold toksL
    rw [hall]
    dsimp only
    rw [if_pos rfl, List.drop_left]
    have hne : putL t.f0 t.f1.data.toList t.f2 ++ 32 :: (s' ++ putAll sep ts) ≠ [] := by simp
    rw [if_neg hne, hnx]
    dsimp only
    rw [if_pos rfl, List.drop_left, show (32 :: (s' ++ putAll sep ts) : BS) = sep ++ putAll sep ts from by rw [hs']; rfl]
    obtain ⟨us, e1, e2⟩ := ih sep (p + pre.length + (putL t.f0 t.f1.data.toList t.f2).length) f (.inr rfl) (by
      have hsl : sep.length = s'.length + 1 := by rw [hs']; simp
      rw [List.length_append]
      simp only [List.length_cons, List.length_append] at hS; omega) (by simp at hf; omega)
    rw [e1]
    refine ⟨_, rfl, ?_⟩
    rw [List.map_cons, List.map_cons, e2]
    refine congrArg (· :: List.map er ts) ?_
    show (t.f0, (⟨t.f1.data.toList.toArray⟩ : ByteArray), t.f2) = (t.f0, t.f1, t.f2)
    rw [bmk_self]
/-! ### The law's own functions -/
theorem rd_at (ts : List S33) (i : Nat) (h : i < ts.length) : rd_T33 ts (i : Int) = ts[i] := by
  unfold rd_T33
  rw [Int.toNat_natCast, List.getD_eq_getElem?_getD, List.getElem?_eq_getElem h]; rfl
theorem putL_length (t : S33) (h : Tok t) : (putL t.f0 t.f1.data.toList t.f2).length ≤ 200 := by
  rcases h with h | ⟨h1, h2, h3⟩
  · rcases h with ⟨e, h1, h2, e2⟩ | ⟨e, h1, e2⟩ | ⟨e, e1, h1, h2⟩ | ⟨e, h1, e2⟩ | ⟨e, h1, e2⟩
    · rw [e, e2, show putL 1 t.f1.data.toList 0 = if isWordL t.f1.data.toList = true then t.f1.data.toList else 34 :: (escL 34 t.f1.data.toList ++ [34]) from rfl]
      have := escL_length 34 t.f1.data.toList
      split
      · omega
      · simp only [List.length_cons, List.length_append, List.length_nil]; omega
    · rw [e, e2, show putL 2 t.f1.data.toList 0 = t.f1.data.toList from rfl]
      have := (key_upper h1).2.1; omega
    · rw [e, e1, show putL 3 [] t.f2 = textB t.f2 from rfl]
      unfold textB
      rw [List.length_map]
      unfold textS
      have hl : ∀ f k : Nat, (digN f k).length ≤ f := by
        intro f
        induction f with
        | zero => intro k; simp [digN]
        | succ f ih =>
          intro k
          unfold digN
          split
          · simp
          · have := ih (k / 10); simp; omega
      have := hl 20 t.f2.natAbs
      rw [List.length_append]
      split <;> simp <;> omega
    · rw [e, e2, show putL 4 t.f1.data.toList 0 = 39 :: (escL 39 t.f1.data.toList ++ [39]) from rfl]
      have := escL_length 39 t.f1.data.toList
      simp only [List.length_cons, List.length_append, List.length_nil]; omega
    · rw [e, e2, show putL 5 t.f1.data.toList 0 = t.f1.data.toList from rfl]
      have hs : signs.all (fun l => decide (l.length ≤ 2)) = true := by decide
      have := List.all_eq_true.1 hs _ h1
      have := of_decide_eq_true this
      omega
  · rw [h1]; simp [putL]
theorem cat_mk (a : ByteArray) (b c : BS) : (a ++ (⟨b.toArray⟩ : ByteArray)) ++ (⟨c.toArray⟩ : ByteArray) = ⟨(a.data.toList ++ b ++ c).toArray⟩ := bext (by simp [ByteArray.data_append])
theorem put_l0 (ts : List S33) (sep : BS) (hts : ∀ t ∈ ts, Tok t) (hl : ts.length ≤ 10000) (hsep : sep.length ≤ 1000) : ∀ (d i k : Nat) (acc : ByteArray), i + d = ts.length → 1000 + d < k → acc.size ≤ i * 1200 →
    quaysidelaw16_put.l0 k ts ⟨sep.toArray⟩ acc (i : Int) = some ⟨(acc.data.toList ++ putAll sep (ts.drop i)).toArray⟩
  | 0, i, k, acc, h, hk, ha => by
    obtain ⟨k, rfl⟩ : ∃ m, k = m + 1 := ⟨k - 1, by omega⟩
    simp only [quaysidelaw16_put.l0]
    rw [if_neg (by omega), List.drop_of_length_le (by omega)]
    refine congrArg some (bext ?_)
    simp [putAll]
  | d + 1, i, k, acc, h, hk, ha => by
    obtain ⟨k, rfl⟩ : ∃ m, k = m + 1 := ⟨k - 1, by omega⟩
    have hi : i < ts.length := by omega
    have ht := hts ts[i] (List.getElem_mem hi)
    have hpl := putL_length ts[i] ht
    simp only [quaysidelaw16_put.l0]
    rw [if_pos (by omega), if_pos (by omega), rd_at ts i hi]
    have hput := put_f ts[i].f0 ts[i].f1.data.toList ts[i].f2 ts[i].f3 k (by omega) ht
    rw [bmk_self] at hput
    rw [hput, Option.bind_some]
    have z1 : (acc ++ (⟨(putL ts[i].f0 ts[i].f1.data.toList ts[i].f2).toArray⟩ : ByteArray)).size = acc.size + (putL ts[i].f0 ts[i].f1.data.toList ts[i].f2).length := by rw [ByteArray.size_append, bmk_size (putL ts[i].f0 ts[i].f1.data.toList ts[i].f2)]
    rw [if_pos (by rw [bmk_size (putL ts[i].f0 ts[i].f1.data.toList ts[i].f2)]; omega), if_pos (by rw [z1, bmk_size sep]; omega), show wrap64 ((i : Int) + 1) = ((i + 1 : Nat) : Int) by unfold wrap64; omega,
      put_l0 ts sep hts hl hsep d (i + 1) k _ (by omega) (by omega) (by rw [ByteArray.size_append, z1, bmk_size sep]; omega), cat_mk]
    refine congrArg some (bext ?_)
    rw [bmk, bmk, bmk, List.drop_eq_getElem_cons hi]
    simp [putAll]
theorem putAll_f (ts : List S33) (sep : BS) (k : Nat) (hts : Shape ts) (hl : ts.length ≤ 10000) (hsep : sep.length ≤ 1000) (hk : 11000 < k) :
    quaysidelaw16_put.f k ts ⟨sep.toArray⟩ = some ⟨(putAll sep ts).toArray⟩ := by
  unfold quaysidelaw16_put.f
  have := put_l0 ts sep hts.toks hl hsep ts.length 0 k ⟨#[]⟩ (by omega) (by omega) (by show 0 ≤ _; omega)
  rw [List.drop_zero] at this
  exact this
theorem same_l0 (ts us : List S33) (h : us.map er = ts.map er) (hl : ts.length ≤ 100000) : ∀ (d i k : Nat), i + d = ts.length → d < k → quaysideref16_Same.l0 k ts us (i : Int) = some true
  | 0, i, k, hi, hk => by
    obtain ⟨k, rfl⟩ : ∃ m, k = m + 1 := ⟨k - 1, by omega⟩
    simp only [quaysideref16_Same.l0]
    rw [if_neg (by omega)]
  | d + 1, i, k, hi, hk => by
    obtain ⟨k, rfl⟩ : ∃ m, k = m + 1 := ⟨k - 1, by omega⟩
    have hlen : us.length = ts.length := by have := congrArg List.length h; simpa using this
    have h1 : i < ts.length := by omega
    have h2 : i < us.length := by omega
    have e : er us[i] = er ts[i] := by
      have : (us.map er)[i]'(by simpa using h2) = (ts.map er)[i]'(by simpa using h1) := by simp [h]
      simpa using this
    injection e with e1 e2
    injection e2 with e2 e3
    simp only [quaysideref16_Same.l0]
    rw [if_pos (by omega), if_pos (by omega), if_pos (by omega), rd_at ts i h1, rd_at us i h2, if_pos e1.symm, if_pos (by rw [e2]), if_pos e3.symm, show wrap64 ((i : Int) + 1) = ((i + 1 : Nat) : Int) by unfold wrap64; omega]
    exact same_l0 ts us h hl d (i + 1) k (by omega) (by omega)
theorem same_f (ts us : List S33) (k : Nat) (h : us.map er = ts.map er) (hl : ts.length ≤ 100000) (hk : 100000 < k) : quaysideref16_Same.f k ts us = some true := by
  unfold quaysideref16_Same.f
  have hlen : us.length = ts.length := by have := congrArg List.length h; simpa using this
  rw [if_pos (by omega)]
  exact same_l0 ts us h hl ts.length 0 k (by omega) (by omega)
def awakeT : List S33 := [⟨2, ⟨#[83, 69, 76, 69, 67, 84]⟩, 0, 0⟩, ⟨1, ⟨#[97]⟩, 0, 7⟩, ⟨5, ⟨#[46]⟩, 0, 8⟩, ⟨1, ⟨#[98]⟩, 0, 9⟩, ⟨5, ⟨#[62, 61]⟩, 0, 11⟩, ⟨3, ⟨#[]⟩, 3, 14⟩, ⟨0, ⟨#[]⟩, 0, 20⟩]
set_option maxRecDepth 100000 in
theorem awake_toks : toksL 20 21 0 [115, 101, 108, 101, 99, 116, 32, 97, 46, 98, 32, 62, 61, 32, 51, 32, 45, 45, 32, 120] = some awakeT := by kernel_rfl
set_option maxRecDepth 100000 in
theorem from_key : isKey [70, 82, 79, 77] = true ∧ isKey [65] = false ∧ isWordL [102, 114, 111, 109] = false := ⟨by kernel_rfl, by kernel_rfl, by kernel_rfl⟩
set_option maxRecDepth 10000 in
theorem awake_f (k : Nat) (hk : 200000 < k) : quaysidelaw16_awake.f k = some true := by
  unfold quaysidelaw16_awake.f
  rw [tokens_some (⟨#[115, 101, 108, 101, 99, 116, 32, 97, 46, 98, 32, 62, 61, 32, 51, 32, 45, 45, 32, 120]⟩ : ByteArray) k 21 awakeT (by decide) (by omega) (by decide) awake_toks, Option.bind_some]
  have hl : ∀ a : Array UInt8, (⟨a⟩ : ByteArray).toList = a.toList := fun a => bl _
  have hword : lex_Word.f k (⟨#[97]⟩ : ByteArray) = some true := by
    rw [word_f _ k (by omega)]
    have : isWordL [97] = true := by
      show (decide (1 ≤ 64) && !digB 97 && !isKey [65] && true && true) = true
      rw [from_key.2.1]; rfl
    exact congrArg some this
  have hput : lex_Put.f k 1 (⟨#[102, 114, 111, 109]⟩ : ByteArray) 0 0 = some ⟨#[34, 102, 114, 111, 109, 34]⟩ := by
    have := put_f 1 [102, 114, 111, 109] 0 0 k (by omega) (.inl (.inl ⟨rfl, by decide, by decide, rfl⟩))
    rw [show putL 1 [102, 114, 111, 109] 0 = if isWordL [102, 114, 111, 109] = true then [102, 114, 111, 109] else 34 :: (escL 34 [102, 114, 111, 109] ++ [34]) from rfl, from_key.2.2, if_neg (by decide)] at this
    exact this
  have hkey : lex_Key.f k (⟨#[70, 82, 79, 77]⟩ : ByteArray) = some true := by rw [key_f _ k (by omega)]; exact congrArg some from_key.1
  rw [hkey, hword, hput]
  simp only [Option.bind_some, awakeT, rd_T33]
  simp [hl]
theorem LexBack : quaysidelaw16_LexBack.Pure := by
  intro a0 _
  refine ⟨300000, ?_⟩
  have aw : ∀ k, 200000 < k → ((quaysidelaw16_awake.f k).bind fun t => some t) = some true := fun k hk => by rw [awake_f k hk]; rfl
  unfold quaysidelaw16_LexBack.f
  by_cases h : (a0.size : Int) > 512
  · rw [if_pos h]; exact aw _ (by omega)
  rw [if_neg h]
  rw [show (300000 : Nat) = 299999 + 1 from rfl]
  have hj : ∀ l, quaysidelaw16_LexBack.j0 (299999 + 1) l true = some true := fun l => by
    simp only [quaysidelaw16_LexBack.j0, if_true]; exact aw _ (by omega)
  rcases tokens_all a0 (299999 + 1) (by omega) with ⟨ts, hs, ht, hf⟩ | ⟨q, e, he, hf, _⟩
  · rw [hf, Option.bind_some]
    dsimp only
    rw [if_pos rfl]
    obtain ⟨hsh, hlen⟩ := toks_shape _ _ _ _ _ ht
    rw [bsz] at hlen
    have hp := hsh.pos
    rw [show ((ts.length : Int) == 0) = false from beq_eq_false_iff_ne.2 (by omega)]
    simp only [quaysidelaw16_LexBack.j0]
    rw [if_neg (by decide)]
    have hput := putAll_f ts [32] 299999 hsh (by omega) (by decide) (by omega)
    rw [show (⟨#[32]⟩ : ByteArray) = ⟨[32].toArray⟩ from rfl, hput, Option.bind_some]
    by_cases hb : ((⟨(putAll [32] ts).toArray⟩ : ByteArray).size : Int) > 4096
    · rcases tokens_all ⟨(putAll [32] ts).toArray⟩ 299999 (by omega) with ⟨us, hs2, _, _⟩ | ⟨q, e, he, hf2, _⟩
      · exact absurd hb (by omega)
      · rw [hf2, Option.bind_some]
        dsimp only
        rw [if_neg he, if_pos hb]; exact aw _ (by omega)
    · have hS : (⟨(putAll [32] ts).toArray⟩ : ByteArray).size = (putAll [32] ts).length := bmk_size _
      obtain ⟨us, e1, e2⟩ := toks_back (putAll [32] ts).length [32] sep_blank ts hsh [] 0 ((putAll [32] ts).length + ts.length + 1) (.inl rfl) (by rw [List.nil_append]; omega) (by omega)
      rw [List.nil_append] at e1
      rw [tokens_some ⟨(putAll [32] ts).toArray⟩ 299999 ((putAll [32] ts).length + ts.length + 1) us (by omega) (by omega) (by omega) (by rw [hS, bmk]; exact e1), Option.bind_some]
      dsimp only
      rw [if_pos rfl, same_f ts us 299999 e2 (by omega) (by omega), Option.bind_some, if_pos rfl]
      exact aw _ (by omega)
  · rw [hf, Option.bind_some]
    dsimp only
    rw [if_neg he]
    exact hj _
end Go.Proofs.YtbmlpbgddlgdkaaDoor.Lx
