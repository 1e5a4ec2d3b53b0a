/- The law LexBlanks holds of every text and remark. Conditions: the texts' sizes within the form's reach. -/
import Derived.Test.YtbmlpbgddlgdkaaDoorPureLexBack
import Derived.Test.YtbmlpbgddlgdkaaDoorLxx8
namespace Go.Proofs.YtbmlpbgddlgdkaaDoor.Lx
open Go.RowKit Go.Proofs.YtbmlpbgddlgdkaaDoorW.PrintWords Go.Proofs.YtbmlpbgddlgdkaaDoorW.PrintLast Go.Proofs.YtbmlpbgddlgdkaaDoorW.PrintMore
set_option linter.unusedVariables false
set_option linter.unusedSimpArgs false
theorem putAll_ge (sep : BS) (h : 1 ≤ sep.length) : ∀ ts : List S33, ts.length ≤ (putAll sep ts).length
  | [] => Nat.zero_le _
  | t :: ts => by
    have := putAll_ge sep h ts
    simp only [putAll, List.length_append, List.length_cons]; omega
theorem put_tokens (ts : List S33) (sep : BS) (k : Nat) (hsh : Shape ts) (hsep : Sep sep) (hk : 20000 < k) :
    (∃ us, lex_Tokens.f k ⟨(putAll sep ts).toArray⟩ = some (us, 0, 0) ∧ us.map er = ts.map er) ∨ lex_Tokens.f k ⟨(putAll sep ts).toArray⟩ = some ([], 0, 2) := by
  have hS : (⟨(putAll sep ts).toArray⟩ : ByteArray).size = (putAll sep ts).length := bmk_size _
  have hp : 1 ≤ sep.length := by obtain ⟨⟨s', e⟩, _⟩ := hsep; rw [e]; simp
  have hge := putAll_ge sep hp ts
  by_cases h : (putAll sep ts).length ≤ 4096
  · obtain ⟨us, e1, e2⟩ := toks_back (putAll sep ts).length sep hsep ts hsh [] 0 ((putAll sep ts).length + 1) (.inl rfl) (by rw [List.nil_append]; omega) (by omega)
    rw [List.nil_append] at e1
    exact .inl ⟨us, tokens_some _ k ((putAll sep ts).length + 1) us (by omega) hk (by omega) (by rw [hS, bmk]; exact e1), e2⟩
  · refine .inr ?_
    unfold lex_Tokens.f
    rw [if_pos (by omega)]
theorem aw_f (k : Nat) (hk : 200000 < k) : ((quaysidelaw16_awake.f k).bind fun t => some t) = some true := by rw [awake_f k hk]; rfl
/-- a byte that a remark may hold -/
def Fine (c : UInt8) : Prop := c.toNat ≠ 10 ∧ c.toNat ≠ 42 ∧ c.toNat ≠ 47
theorem blanks_j2 (x1 : ByteArray) (ts : List S33) (k : Nat) (hk : 300000 < k) (h1 : x1.size ≤ 20) (hfine : ∀ c ∈ x1.data.toList, Fine c) (hsh : Shape ts) (hl : ts.length ≤ 10000) : quaysidelaw16_LexBlanks.j2 k x1 ts false = some true := by
  obtain ⟨k, rfl⟩ : ∃ m, k = m + 1 + 1 := ⟨k - 2, by omega⟩
  have hlen : x1.data.toList.length ≤ 20 := by rw [bsz]; exact h1
  have eA : ((⟨#[32, 9, 47, 42]⟩ : ByteArray) ++ x1) ++ (⟨#[42, 47, 10]⟩ : ByteArray) = ⟨(32 :: 9 :: 47 :: 42 :: (x1.data.toList ++ [42, 47, 10])).toArray⟩ := bext (by simp [ByteArray.data_append])
  have eB : ((⟨#[32, 45, 45]⟩ : ByteArray) ++ x1) ++ (⟨#[13, 10, 32]⟩ : ByteArray) = ⟨(32 :: 45 :: 45 :: (x1.data.toList ++ [13, 10, 32])).toArray⟩ := bext (by simp [ByteArray.data_append])
  have sA := sep_rem x1.data.toList (List.all_eq_true.2 fun c hc => decide_eq_true (hfine c hc).2.1)
  have sB := sep_line x1.data.toList (List.all_eq_true.2 fun c hc => decide_eq_true (hfine c hc).1)
  simp only [quaysidelaw16_LexBlanks.j2]
  rw [if_neg (by decide), if_pos (by omega), if_pos (by rw [ByteArray.size_append]; show 4 + x1.size + 3 ≤ _; omega), eA,
    putAll_f ts _ (k + 1) hsh hl (by simp; omega) (by omega), Option.bind_some]
  have tA := put_tokens ts _ (k + 1) hsh sA (by omega)
  have tB := put_tokens ts _ (k + 1) hsh sB (by omega)
  have pB := putAll_f ts (32 :: 45 :: 45 :: (x1.data.toList ++ [13, 10, 32])) (k + 1) hsh hl (by simp; omega) (by omega)
  have gB : ((⟨#[32, 45, 45]⟩ : ByteArray) ++ x1).size + 3 ≤ 9223372036854775807 := by rw [ByteArray.size_append]; show 3 + x1.size + 3 ≤ _; omega
  have jt : ∀ a b c d e, quaysidelaw16_LexBlanks.j3 (k + 1) a b c d e true = some true := fun a b c d e => by
    simp only [quaysidelaw16_LexBlanks.j3, if_true]
    exact aw_f k (by omega)
  rcases tA with ⟨us, a1, a2⟩ | a1
  · rw [a1, Option.bind_some]
    rw [if_pos (by omega), if_pos gB, eB, pB, Option.bind_some]
    rcases tB with ⟨vs, b1, b2⟩ | b1
    · rw [b1, Option.bind_some]
      dsimp only
      rw [if_neg (by decide), show ((0 : Int) == 2) = false from rfl]
      simp only [quaysidelaw16_LexBlanks.j3]
      rw [if_neg (by decide), if_pos trivial, same_f ts us k a2 (by omega) (by omega), Option.bind_some, if_pos rfl, same_f ts vs k b2 (by omega) (by omega), Option.bind_some, if_pos rfl]
      exact aw_f k (by omega)
    · rw [b1, Option.bind_some]
      dsimp only
      rw [if_neg (by decide), show ((2 : Int) == 2) = true from rfl]
      exact jt _ _ _ _ _
  · rw [a1, Option.bind_some]
    rw [if_pos (by omega), if_pos gB, eB, pB, Option.bind_some]
    rcases tB with ⟨vs, b1, b2⟩ | b1
    · rw [b1, Option.bind_some]
      dsimp only
      rw [if_pos rfl]
      exact jt _ _ _ _ _
    · rw [b1, Option.bind_some]
      dsimp only
      rw [if_pos rfl]
      exact jt _ _ _ _ _
theorem blanks_l0 (x0 x1 : ByteArray) (h0 : x0.size ≤ 256) (h1 : x1.size ≤ 20) : ∀ (d i k : Nat), i + d = x1.size → 400000 + d < k → (∀ c ∈ x1.data.toList.take i, Fine c) → quaysidelaw16_LexBlanks.l0 k x0 x1 (i : Int) = some true
  | 0, i, k, hi, hk, hf => by
    obtain ⟨k, rfl⟩ : ∃ m, k = m + 1 := ⟨k - 1, by omega⟩
    rw [List.take_of_length_le (by rw [bsz]; omega)] at hf
    simp only [quaysidelaw16_LexBlanks.l0]
    rw [if_neg (by omega)]
    rcases tokens_all x0 k (by omega) with ⟨ts, hs, ht, hff⟩ | ⟨q, e, he, hff, _⟩
    · rw [hff, Option.bind_some]
      dsimp only
      obtain ⟨hsh, hlen⟩ := toks_shape _ _ _ _ _ ht
      rw [bsz] at hlen
      have hp := hsh.pos
      rw [if_pos rfl, show ((ts.length : Int) == 0) = false from beq_eq_false_iff_ne.2 (by omega)]
      exact blanks_j2 x1 ts k (by omega) h1 hf hsh (by omega)
    · rw [hff, Option.bind_some]
      dsimp only
      rw [if_neg he]
      obtain ⟨k, rfl⟩ : ∃ m, k = m + 1 := ⟨k - 1, by omega⟩
      simp only [quaysidelaw16_LexBlanks.j2, if_true]
      exact aw_f k (by omega)
  | d + 1, i, k, hi, hk, hf => by
    obtain ⟨k, rfl⟩ : ∃ m, k = m + 1 := ⟨k - 1, by omega⟩
    have hlt : i < x1.size := by omega
    have hlt' : i < x1.data.toList.length := by rw [bsz]; exact hlt
    have hb : bt x1 (i : Int) = (x1.data.toList[i].toNat : Int) := by
      rw [bt_nat x1 i hlt]; simp [B]
    simp only [quaysidelaw16_LexBlanks.l0]
    rw [if_pos (by omega), if_pos (by omega), hb]
    by_cases c1 : x1.data.toList[i].toNat = 10
    · rw [if_pos (by omega)]; exact aw_f k (by omega)
    rw [if_neg (by omega)]
    by_cases c2 : x1.data.toList[i].toNat = 42
    · rw [if_pos (by omega)]; exact aw_f k (by omega)
    rw [if_neg (by omega)]
    by_cases c3 : x1.data.toList[i].toNat = 47
    · rw [if_pos (by omega)]; exact aw_f k (by omega)
    rw [if_neg (by omega), show wrap64 ((i : Int) + 1) = ((i + 1 : Nat) : Int) by unfold wrap64; omega]
    refine blanks_l0 x0 x1 h0 h1 d (i + 1) k (by omega) (by omega) ?_
    intro c hc
    rw [List.take_succ_eq_append_getElem hlt'] at hc
    rcases List.mem_append.1 hc with hc | hc
    · exact hf c hc
    · rw [List.mem_singleton.1 hc]; exact ⟨c1, c2, c3⟩
theorem LexBlanks : quaysidelaw16_LexBlanks.Pure := by
  intro a0 a1 _ _
  refine ⟨500000, ?_⟩
  unfold quaysidelaw16_LexBlanks.f
  rw [show (500000 : Nat) = 499999 + 1 from rfl]
  have jt : quaysidelaw16_LexBlanks.j0 (499999 + 1) a0 a1 true = some true := by
    simp only [quaysidelaw16_LexBlanks.j0, if_true]
    exact aw_f _ (by omega)
  by_cases h : (a0.size : Int) > 256
  · rw [if_pos h]; exact jt
  rw [if_neg h]
  by_cases h2 : (a1.size : Int) > 20
  · rw [decide_eq_true h2]; exact jt
  rw [decide_eq_false h2]
  simp only [quaysidelaw16_LexBlanks.j0]
  rw [if_neg (by decide)]
  exact blanks_l0 a0 a1 (by omega) (by omega) a1.size 0 499999 (by omega) (by omega) (by simp)
end Go.Proofs.YtbmlpbgddlgdkaaDoor.Lx
