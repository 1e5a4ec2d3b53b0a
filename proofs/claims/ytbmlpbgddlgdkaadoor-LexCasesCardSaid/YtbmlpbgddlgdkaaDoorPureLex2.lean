/- The lexer's next token in plain words. No condition beyond those that each theorem names. -/
import Derived.Test.YtbmlpbgddlgdkaaDoorPureLex1
namespace Go.Proofs.YtbmlpbgddlgdkaaDoor.Lx
open Go.RowKit Go.Proofs.YtbmlpbgddlgdkaaDoorW.PrintWords Go.Proofs.YtbmlpbgddlgdkaaDoorW.PrintLast Go.Proofs.YtbmlpbgddlgdkaaDoorW.PrintMore
open Go.Proofs.YtbmlpbgddlgdkaaDoor.Dec (readS textS)
set_option linter.unusedVariables false
set_option linter.unusedSimpArgs false
theorem prefix_f (a b : ByteArray) : strings_HasPrefix.f a b = some (Lib.hasPrefix a.data.toList b.data.toList) := by
  unfold strings_HasPrefix.f stringslite_HasPrefix.f
  rw [← Lib.hasPrefix_raw]
  by_cases h : (a.size : Int) ≥ (b.size : Int)
  · rw [if_pos h, if_pos (by omega), if_pos (by omega)]
    simp only [Option.bind_some, Int.toNat_natCast]
    rw [decide_eq_true (by omega), Bool.true_and]
  · rw [if_neg h, decide_eq_false (by omega)]; rfl
theorem of_data (L : List ByteArray) (M : List BS) (h : L.map (fun w => w.data.toList) = M) : L = M.map (fun l => (⟨l.toArray⟩ : ByteArray)) := by
  subst h
  rw [List.map_map]
  conv => lhs; rw [← List.map_id L]
  exact List.map_congr_left fun w _ => (bmk_self w).symm
def dubsB : ByteArray := ⟨#[60, 62, 32, 60, 61, 32, 62, 61, 32, 33, 61, 32, 124, 124]⟩
def dubs : List BS := [[60, 62], [60, 61], [62, 61], [33, 61], [124, 124]]
def ones : BS := [40, 41, 44, 46, 42, 43, 45, 47, 37, 61, 60, 62]
theorem dubs_split : strings_Split.f dubsB ⟨#[32]⟩ = some (dubs.map (fun l => (⟨l.toArray⟩ : ByteArray))) := by
  unfold strings_Split.f
  rw [if_pos (show dubsB.size ≤ 1000 by decide), if_pos (by decide)]
  refine congrArg some (of_data _ _ ?_)
  rw [Lib.splitB_data]
  kernel_rfl
/-- a sign at the head of what is left: its spelling and its length -/
def signL (r : BS) : Option (BS × Nat) :=
  if Lib.hasPrefix r [60, 62] = true then some ([60, 62], 2) else
  if Lib.hasPrefix r [60, 61] = true then some ([60, 61], 2) else
  if Lib.hasPrefix r [62, 61] = true then some ([62, 61], 2) else
  if Lib.hasPrefix r [33, 61] = true then some ([60, 62], 2) else
  if Lib.hasPrefix r [124, 124] = true then some ([124, 124], 2) else
  match r with
  | [] => none
  | c :: _ => if Lib.indexByte ones c < 0 then none else some ([c], 1)
theorem rest_f (s : ByteArray) (p : Nat) (h : p ≤ s.size) : lex_scanner_rest.f s (p : Int) = some (s.extract p s.size, s, (p : Int)) := by
  unfold lex_scanner_rest.f
  rw [if_pos (by omega), if_pos (by omega), Int.toNat_natCast]
theorem drop_cons {s : ByteArray} {p : Nat} (hp : p < s.size) : ∃ c r, s.data.toList.drop p = c :: r := by
  cases h : s.data.toList.drop p with
  | nil => have := congrArg List.length h; rw [List.length_drop, bsz] at this; simp at this; omega
  | cons c r => exact ⟨c, r, rfl⟩
set_option maxRecDepth 10000 in
theorem sign_f (s : ByteArray) (p k : Nat) (hp : p < s.size) (hs : s.size ≤ 100000) (hk : 10 < k) :
    lex_scanner_sign.f k s (p : Int) = some (match signL (s.data.toList.drop p) with
      | some (t, n) => (⟨t.toArray⟩, true, s, ((p + n : Nat) : Int))
      | none => (⟨#[]⟩, false, s, (p : Int))) := by
  obtain ⟨k, rfl⟩ : ∃ m, k = m + 1 + 1 + 1 + 1 + 1 + 1 := ⟨k - 6, by omega⟩
  unfold lex_scanner_sign.f
  rw [rest_f s p (by omega)]
  simp only [Option.bind_some]
  rw [show (⟨#[60, 62, 32, 60, 61, 32, 62, 61, 32, 33, 61, 32, 124, 124]⟩ : ByteArray) = dubsB from rfl, dubs_split, Option.bind_some]
  obtain ⟨c, r, hr⟩ := drop_cons hp
  have hd : (s.extract p s.size).data.toList = s.data.toList.drop p := ext_list s p
  generalize ht : s.extract p s.size = t at *
  have hpre : ∀ x : BS, strings_HasPrefix.f t ⟨x.toArray⟩ = some (Lib.hasPrefix (c :: r) x) := fun x => by rw [prefix_f, hd, hr]
  have hlen : ((dubs.map (fun l => (⟨l.toArray⟩ : ByteArray))).length : Int) = 5 := rfl
  rw [hlen, hr]
  have w2 : wrap64 ((p : Int) + 2) = ((p + 2 : Nat) : Int) := by unfold wrap64; omega
  have w1 : wrap64 ((p : Int) + 1) = ((p + 1 : Nat) : Int) := by unfold wrap64; omega
  have z : ∀ a b : UInt8, (((⟨[a, b].toArray⟩ : ByteArray).size : Nat) : Int) = 2 := fun _ _ => rfl
  have r0 : rdOf ByteArray.empty (dubs.map (fun l => (⟨l.toArray⟩ : ByteArray))) 0 = ⟨[60, 62].toArray⟩ := rfl
  have r1 : rdOf ByteArray.empty (dubs.map (fun l => (⟨l.toArray⟩ : ByteArray))) 1 = ⟨[60, 61].toArray⟩ := rfl
  have r2 : rdOf ByteArray.empty (dubs.map (fun l => (⟨l.toArray⟩ : ByteArray))) 2 = ⟨[62, 61].toArray⟩ := rfl
  have r3 : rdOf ByteArray.empty (dubs.map (fun l => (⟨l.toArray⟩ : ByteArray))) 3 = ⟨[33, 61].toArray⟩ := rfl
  have r4 : rdOf ByteArray.empty (dubs.map (fun l => (⟨l.toArray⟩ : ByteArray))) 4 = ⟨[124, 124].toArray⟩ := rfl
  have hl : ∀ x : BS, (⟨x.toArray⟩ : ByteArray).toList = x := fun x => by rw [bl]
  unfold signL
  simp only [lex_scanner_sign.l0]
  rw [if_pos (by omega), if_pos (by omega), if_pos (by omega), r0, hpre, Option.bind_some]
  by_cases h0 : Lib.hasPrefix (c :: r) [60, 62] = true
  · rw [if_pos h0, if_pos h0, hl, if_neg (by decide), z, w2]
  rw [if_neg h0, if_neg h0, show wrap64 (0 + 1) = 1 from by unfold wrap64; omega]
  rw [if_pos (by omega), if_pos (by omega), if_pos (by omega), r1, hpre, Option.bind_some]
  by_cases h1 : Lib.hasPrefix (c :: r) [60, 61] = true
  · rw [if_pos h1, if_pos h1, hl, if_neg (by decide), z, w2]
  rw [if_neg h1, if_neg h1, show wrap64 (1 + 1) = 2 from by unfold wrap64; omega]
  rw [if_pos (by omega), if_pos (by omega), if_pos (by omega), r2, hpre, Option.bind_some]
  by_cases h2 : Lib.hasPrefix (c :: r) [62, 61] = true
  · rw [if_pos h2, if_pos h2, hl, if_neg (by decide), z, w2]
  rw [if_neg h2, if_neg h2, show wrap64 (2 + 1) = 3 from by unfold wrap64; omega]
  rw [if_pos (by omega), if_pos (by omega), if_pos (by omega), r3, hpre, Option.bind_some]
  by_cases h3 : Lib.hasPrefix (c :: r) [33, 61] = true
  · rw [if_pos h3, if_pos h3, hl, if_pos rfl, z, w2]
  rw [if_neg h3, if_neg h3, show wrap64 (3 + 1) = 4 from by unfold wrap64; omega]
  rw [if_pos (by omega), if_pos (by omega), if_pos (by omega), r4, hpre, Option.bind_some]
  by_cases h4 : Lib.hasPrefix (c :: r) [124, 124] = true
  · rw [if_pos h4, if_pos h4, hl, if_neg (by decide), z, w2]
  rw [if_neg h4, if_neg h4, show wrap64 (4 + 1) = 5 from by unfold wrap64; omega]
  obtain ⟨hb, hpos⟩ := bt_head t c r (by rw [hd, hr])
  rw [if_neg (by omega), if_pos (by omega), hb]
  have hix : strings_IndexByte.f (⟨#[40, 41, 44, 46, 42, 43, 45, 47, 37, 61, 60, 62]⟩ : ByteArray) (c.toNat : Int) = some (Lib.indexByte ones c) := by
    unfold strings_IndexByte.f
    rw [Int.toNat_natCast, show c.toNat.toUInt8 = c from UInt8.ofNat_toNat]
    rfl
  rw [hix, Option.bind_some]
  by_cases h5 : Lib.indexByte ones c < 0
  · rw [if_pos h5, if_pos h5]
  · rw [if_neg h5, if_neg h5, if_pos (by omega), if_pos (by omega), w1]
    have : t.extract 0 1 = ⟨[c].toArray⟩ := bext (by rw [ByteArray.data_extract, Array.toList_extract, hd, hr]; rfl)
    show some (t.extract 0 1, true, s, ((p + 1 : Nat) : Int)) = some ((⟨[c].toArray⟩ : ByteArray), true, s, ((p + 1 : Nat) : Int))
    rw [this]
/-- the next token: kind, text, number, length, and whether it is one -/
def nextL (r : BS) : Int × BS × Int × Nat × Bool := match r with
  | [] => (0, [], 0, 0, false)
  | c :: r' =>
    if letB c = true then (if isKey (((c :: r').takeWhile worB).map capByte) = true then (2, ((c :: r').takeWhile worB).map capByte, 0, ((c :: r').takeWhile worB).length, decide (((c :: r').takeWhile worB).length ≤ 64))
      else (1, (c :: r').takeWhile worB, 0, ((c :: r').takeWhile worB).length, decide (((c :: r').takeWhile worB).length ≤ 64)))
    else if c.toNat = 34 then (match quotedL 34 r' with
      | some (t, m) => (1, t, 0, 1 + m, decide (t ≠ [] ∧ t.length ≤ 64))
      | none => (1, [], 0, 0, false))
    else if c.toNat = 39 then (match quotedL 39 r' with
      | some (t, m) => (4, t, 0, 1 + m, decide (t.length ≤ 64))
      | none => (4, [], 0, 0, false))
    else if digB c = true then (3, [], (readS (((c :: r').takeWhile digB).map UInt8.toNat)).1, ((c :: r').takeWhile digB).length, (readS (((c :: r').takeWhile digB).map UInt8.toNat)).2 == 0)
    else match signL (c :: r') with
      | some (t, n) => (5, t, 0, n, true)
      | none => (5, [], 0, 0, false)
theorem take_take {p : UInt8 → Bool} (l : BS) : l.take (l.takeWhile p).length = l.takeWhile p :=
  (List.prefix_iff_eq_take.1 (List.takeWhile_prefix p)).symm
theorem take_le {p : UInt8 → Bool} (l : BS) : (l.takeWhile p).length ≤ l.length := (List.takeWhile_prefix p).length_le
theorem quoted_f (s : ByteArray) (p q : Nat) (hq : q < 256) (hp : p < s.size) (hs : s.size ≤ 100000) {c : UInt8} {r : BS} (h : s.data.toList.drop p = c :: r) :
    lex_scanner_quoted.f s (p : Int) (q : Int) = some (match quotedL (UInt8.ofNat q) r with
      | some (t, n) => (⟨t.toArray⟩, true, s, ((p + 1 + n : Nat) : Int))
      | none => (⟨#[]⟩, false, s, (p : Int))) := by
  unfold lex_scanner_quoted.f
  rw [if_pos (by omega), Int.toNat_natCast, Int.toNat_natCast]
  have : s.data.toList.drop (p + 1) = r := by rw [← List.drop_drop, h]; rfl
  rw [this]
  cases quotedL (UInt8.ofNat q) r with
  | none => rfl
  | some x => rfl
theorem next_f (s : ByteArray) (p k : Nat) (hp : p < s.size) (hs : s.size ≤ 5000) (hk : 10100 < k) :
    lex_scanner_next.f k s (p : Int) = some ((nextL (s.data.toList.drop p)).1, ⟨(nextL (s.data.toList.drop p)).2.1.toArray⟩, (nextL (s.data.toList.drop p)).2.2.1, (p : Int), (nextL (s.data.toList.drop p)).2.2.2.2, s, ((p + (nextL (s.data.toList.drop p)).2.2.2.1 : Nat) : Int)) := by
  unfold lex_scanner_next.f
  rw [rest_f s p (by omega)]
  simp only [Option.bind_some]
  obtain ⟨c, r, hr⟩ := drop_cons hp
  have hd : (s.extract p s.size).data.toList = c :: r := (ext_list s p).trans hr
  have hsz : (s.extract p s.size).size ≤ 5000 := by rw [ByteArray.size_extract]; omega
  have hlc : (c :: r).length ≤ 5000 := by rw [← hd, bsz]; exact hsz
  generalize ht : s.extract p s.size = t at *
  obtain ⟨hb, hpos⟩ := bt_head t c r hd
  have hts : t.size = (c :: r).length := by rw [← hd, bsz]
  rw [if_pos (by omega), hb, wrap32n _ c.toNat_lt, letter_f, Option.bind_some, hr]
  have wr : ∀ n : Nat, n ≤ 5000 → wrap64 ((p : Int) + (n : Int)) = ((p + n : Nat) : Int) := fun n hn => by unfold wrap64; omega
  have hext : ∀ q : UInt8 → Bool, (t.extract 0 ((c :: r).takeWhile q).length).data.toList = (c :: r).takeWhile q := fun q => by
    rw [ByteArray.data_extract, Array.toList_extract, List.extract_eq_take_drop, hd, List.drop_zero, Nat.sub_zero, take_take]
  have hex2 : ∀ q : UInt8 → Bool, t.extract 0 ((c :: r).takeWhile q).length = ⟨((c :: r).takeWhile q).toArray⟩ := fun q => bext (hext q)
  have htl : ∀ q : UInt8 → Bool, ((c :: r).takeWhile q).length ≤ 5000 := fun q => Nat.le_trans (take_le _) hlc
  unfold nextL
  dsimp only
  by_cases hL : letB c = true
  · rw [if_pos hL, if_pos hL, run_f t FN30 worB (show (30 : Int) ∈ runFns by simp [runFns]) (fun c => runW _ (Or.inr rfl) c) (by omega), Option.bind_some, hd, if_pos (by omega), if_pos (by rw [hts]; exact_mod_cast take_le _), Int.toNat_natCast, cap_f _ (by rw [hex2, bmk_size]; have := htl worB; omega), Option.bind_some, key_f _ k (by omega), Option.bind_some]
    have hcap : capB (t.extract 0 ((c :: r).takeWhile worB).length) = ⟨(((c :: r).takeWhile worB).map capByte).toArray⟩ := by unfold capB; rw [hext]
    rw [hcap, bmk, wr _ (htl worB), hex2]
    have hdec : decide ((((c :: r).takeWhile worB).length : Int) ≤ 64) = decide (((c :: r).takeWhile worB).length ≤ 64) := decide_eq_decide.2 (by omega)
    rw [hdec]
    by_cases hK : isKey (((c :: r).takeWhile worB).map capByte) = true
    · rw [if_pos hK, if_pos hK]
    · rw [if_neg hK, if_neg hK]
  rw [if_neg hL, if_neg hL]
  by_cases h34 : c.toNat = 34
  · rw [if_pos (by omega), if_pos h34]
    have hq := quoted_f s p 34 (by omega) hp (by omega) hr
    rw [show ((34 : Nat) : Int) = 34 from rfl, show UInt8.ofNat 34 = 34 from rfl] at hq
    rw [hq, Option.bind_some]
    cases hqq : quotedL 34 r with
    | none => rfl
    | some x =>
      obtain ⟨u, m⟩ := x
      dsimp only
      rw [if_pos rfl, bl]
      by_cases hu : u = []
      · subst hu; rw [if_pos rfl]; simp [Nat.add_assoc]
      · rw [if_neg hu, bmk_size]
        have : decide (((u.length : Nat) : Int) ≤ 64) = decide (u ≠ [] ∧ u.length ≤ 64) := decide_eq_decide.2 ⟨fun h => ⟨hu, by omega⟩, fun h => by omega⟩
        rw [this, Nat.add_assoc]
  rw [if_neg (by omega), if_neg h34]
  by_cases h39 : c.toNat = 39
  · rw [if_pos (by omega), if_pos h39]
    have hq := quoted_f s p 39 (by omega) hp (by omega) hr
    rw [show ((39 : Nat) : Int) = 39 from rfl, show UInt8.ofNat 39 = 39 from rfl] at hq
    rw [hq, Option.bind_some]
    cases hqq : quotedL 39 r with
    | none => rfl
    | some x =>
      obtain ⟨u, m⟩ := x
      dsimp only
      rw [if_pos rfl, bmk_size]
      have : decide (((u.length : Nat) : Int) ≤ 64) = decide (u.length ≤ 64) := decide_eq_decide.2 (by omega)
      rw [this, Nat.add_assoc]
  rw [if_neg (by omega), if_neg h39, digit_f, Option.bind_some]
  by_cases hD : digB c = true
  · rw [if_pos hD, if_pos hD, run_f t FN18 digB (show (18 : Int) ∈ runFns by simp [runFns]) run18 (by omega), Option.bind_some, hd, if_pos (by omega), if_pos (by rw [hts]; exact_mod_cast take_le _), Int.toNat_natCast, hex2]
    have hl := htl digB
    rw [read_eq _ k (by rw [bmk_size]; exact hl) (by omega), Option.bind_some, wr _ hl]
    rfl
  · rw [if_neg hD, if_neg hD, sign_f s p k hp (by omega) (by omega), Option.bind_some, hr]
    cases signL (c :: r) with
    | none => rfl
    | some x => rfl
end Go.Proofs.YtbmlpbgddlgdkaaDoor.Lx
