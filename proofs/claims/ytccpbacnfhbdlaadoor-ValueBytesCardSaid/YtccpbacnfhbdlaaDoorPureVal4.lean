/- Facts on rows as bytes, there and back, in the program and in the reference. No condition beyond those that each theorem names. -/
import Derived.Test.YtccpbacnfhbdlaaDoorPureVal3
namespace Go.Proofs.YtccpbacnfhbdlaaDoor.PureVal
open Go.RowKit Go.Proofs.YtccpbacnfhbdlaaDoorW.PrintWords Go.Proofs.YtccpbacnfhbdlaaDoorW.PrintLast Go.Proofs.YtccpbacnfhbdlaaDoorW.PrintMore
open Go.Proofs.YtccpbacnfhbdlaaDoor.Va
set_option linter.unusedVariables false
set_option linter.unusedSimpArgs false
theorem empty_of {s : ByteArray} (h : s.toList = []) : s = ⟨#[]⟩ := by
  rw [toList_data] at h
  rw [← TX_eta s, h]; rfl
theorem BB_nat (n : Nat) : BB (n : Int) = UInt8.ofNat n := by simp [BB]
theorem dec_enc {v : S23} (h : Valid v) (rest : List UInt8) : dec (encL v ++ rest) = some (v, rest) := by
  obtain ⟨a0, a1, a2⟩ := v
  obtain ⟨hm, h0, h1⟩ := h
  simp only at hm h0 h1
  unfold encL encI
  rcases may_true hm with ⟨rfl, rfl, hs⟩ | ⟨rfl, hs⟩ | ⟨rfl, rfl, hs⟩ | ⟨rfl, hn, hs⟩
  · obtain rfl := empty_of hs
    rfl
  · obtain rfl := empty_of hs
    simp only
    rw [if_neg (by decide), if_pos trivial]
    have hl : ((be 8 (a1 + 9223372036854775808).toNat).map BB).length = 8 := by rw [List.length_map, be_length]
    show dec (1 :: ((be 8 (a1 + 9223372036854775808).toNat).map BB ++ rest)) = _
    generalize hq : (be 8 (a1 + 9223372036854775808).toNat).map BB = q at *
    show decC 1 (q ++ rest) = _
    unfold decC
    rw [if_neg (by decide), if_pos rfl]
    unfold dec1
    rw [if_neg (by simp; omega)]
    have e1 : (q ++ rest).take 8 = q := by rw [← hl]; simp
    have e2 : (q ++ rest).drop 8 = rest := by rw [← hl]; simp
    rw [e1, e2]
    have hv := val_be 8 (a1 + 9223372036854775808).toNat
    rw [hq] at hv
    unfold dnum
    rw [hv, show (256 : Nat) ^ 8 = 18446744073709551616 from rfl, Nat.mod_eq_of_lt (by omega)]
    congr 3
    omega
  · simp only
    rw [if_neg (by decide), if_neg (by decide), if_pos trivial]
    have e : ([(2 : Int)] ++ [(a2.size : Int) % 256] ++ bytesOf a2).map BB ++ rest = 2 :: UInt8.ofNat a2.size :: (a2.data.toList ++ rest) := by
      rw [List.map_append, List.map_append, BB_bytesOf, show (a2.size : Int) % 256 = (a2.size : Int) from by omega]
      simp [BB]
    rw [e]
    show decC 2 _ = _
    unfold decC
    rw [if_neg (by decide), if_neg (by decide), if_pos rfl, dec2_cons]
    have hm2 : (UInt8.ofNat a2.size).toNat = a2.size := UInt8.toNat_ofNat_of_lt' (Nat.lt_of_le_of_lt hs (by decide))
    have hl : a2.data.toList.length = a2.size := by rw [Array.length_toList]; rfl
    rw [hm2, if_neg (by simp), if_neg (by omega)]
    have e1 : (a2.data.toList ++ rest).take a2.size = a2.data.toList := by rw [← hl]; simp
    have e2 : (a2.data.toList ++ rest).drop a2.size = rest := by rw [← hl]; simp
    rw [e1, e2, TX_eta]
  · obtain rfl := empty_of hs
    rcases hn with rfl | rfl <;> rfl
theorem may_of {a0 a1 : Int} {a2 : ByteArray} (h : (a0 = 0 ∧ a1 = 0 ∧ a2.toList = []) ∨ (a0 = 1 ∧ a2.toList = []) ∨ (a0 = 2 ∧ a1 = 0 ∧ a2.size ≤ 64) ∨ (a0 = 3 ∧ (a1 = 0 ∨ a1 = 1) ∧ a2.toList = [])) : quaysideref05_May.f a0 a1 a2 = some true := by
  unfold quaysideref05_May.f
  rcases h with ⟨rfl, rfl, hs⟩ | ⟨rfl, hs⟩ | ⟨rfl, rfl, hs⟩ | ⟨rfl, rfl | rfl, hs⟩
  · simp [hs]
  · simp [hs]
  · simp; omega
  · simp [hs]
  · simp [hs]
theorem dec_valid {l : List UInt8} {v : S23} {rest : List UInt8} (h : dec l = some (v, rest)) : Valid v ∧ l = encL v ++ rest := by
  cases l with
  | nil => cases h
  | cons b t =>
    have hb := b.toNat_lt
    have hd : dec (b :: t) = decC b t := rfl
    rw [hd] at h
    unfold decC at h
    by_cases k0 : b = 0
    · subst k0
      rw [if_pos rfl] at h
      obtain ⟨rfl, rfl⟩ := Prod.mk.inj (Option.some.inj h)
      exact ⟨⟨may_of (.inl ⟨rfl, rfl, empty_toList⟩), by decide, by decide⟩, rfl⟩
    rw [if_neg k0] at h
    by_cases k1 : b = 1
    · subst k1
      rw [if_pos rfl] at h
      unfold dec1 at h
      by_cases c : t.length < 8
      · rw [if_pos c] at h; cases h
      · rw [if_neg c] at h
        obtain ⟨rfl, rfl⟩ := Prod.mk.inj (Option.some.inj h)
        have hl : (t.take 8).length = 8 := by simp; omega
        have hv := val0_lt (t.take 8)
        rw [hl, show (256 : Nat) ^ 8 = 18446744073709551616 from rfl] at hv
        refine ⟨⟨may_of (.inr (.inl ⟨rfl, empty_toList⟩)), by simp only [dnum]; omega, by simp only [dnum]; omega⟩, ?_⟩
        unfold encL encI
        simp only
        rw [if_neg (by decide), if_pos trivial]
        have e : (dnum (t.take 8) + 9223372036854775808).toNat = val 0 (t.take 8) := by unfold dnum; omega
        have hbe := be_val (t.take 8)
        rw [hl] at hbe
        rw [e, List.map_cons, hbe, List.cons_append, List.take_append_drop]
        rfl
    rw [if_neg k1] at h
    by_cases k2 : b = 2
    · subst k2
      rw [if_pos rfl] at h
      cases t with
      | nil => cases h
      | cons m t2 =>
        have hm := m.toNat_lt
        rw [dec2_cons] at h
        by_cases c : t2.length < m.toNat
        · rw [if_pos c] at h; cases h
        rw [if_neg c] at h
        by_cases c2 : 64 < m.toNat
        · rw [if_pos c2] at h; cases h
        rw [if_neg c2] at h
        obtain ⟨rfl, rfl⟩ := Prod.mk.inj (Option.some.inj h)
        have hl : (t2.take m.toNat).length = m.toNat := by simp; omega
        refine ⟨⟨may_of (.inr (.inr (.inl ⟨rfl, rfl, by rw [TX_size]; omega⟩))), show (-9223372036854775808 : Int) ≤ 0 by decide, show (0 : Int) ≤ 9223372036854775807 by decide⟩, ?_⟩
        unfold encL encI
        simp only
        rw [if_neg (by decide), if_neg (by decide), if_pos trivial, List.map_append, List.map_append, BB_bytesOf, TX_data, TX_size, hl]
        have e : BB ((m.toNat : Int) % 256) = m := by
          rw [show ((m.toNat : Int) % 256) = (m.toNat : Int) from by omega]
          simp [BB]
        simp only [List.map_cons, List.map_nil, List.cons_append, List.nil_append, e]
        rw [List.take_append_drop]
        rfl
    rw [if_neg k2] at h
    by_cases k3 : b = 3
    · subst k3
      rw [if_pos rfl] at h
      cases t with
      | nil => cases h
      | cons m t2 =>
        have hm := m.toNat_lt
        rw [dec3_cons] at h
        by_cases c : m.toNat ≤ 1
        · rw [if_pos c] at h
          obtain ⟨rfl, rfl⟩ := Prod.mk.inj (Option.some.inj h)
          refine ⟨⟨may_of (.inr (.inr (.inr ⟨rfl, show (m.toNat : Int) = 0 ∨ (m.toNat : Int) = 1 by omega, empty_toList⟩))), show (-9223372036854775808 : Int) ≤ (m.toNat : Int) by omega, show (m.toNat : Int) ≤ 9223372036854775807 by omega⟩, ?_⟩
          unfold encL encI
          simp only
          rw [if_neg (by decide), if_neg (by decide), if_neg (by decide)]
          have e : BB ((m.toNat : Int) % 256) = m := by
            rw [show ((m.toNat : Int) % 256) = (m.toNat : Int) from by omega]
            simp [BB]
          simp only [List.map_cons, List.map_nil, List.cons_append, List.nil_append, e]
          rfl
        · rw [if_neg c] at h; cases h
    rw [if_neg k3] at h
    cases h
/-- values, one behind the other -/
def tk : Nat → List UInt8 → Option (List S23 × List UInt8)
  | 0, l => some ([], l)
  | n + 1, l => match dec l with
    | none => none
    | some (v, r) => match tk n r with
      | none => none
      | some (vs, r2) => some (v :: vs, r2)
def flat (l : List S23) : List UInt8 := l.flatMap encL
theorem tk_enc : ∀ (l : List S23) (rest : List UInt8), (∀ v ∈ l, Valid v) → tk l.length (flat l ++ rest) = some (l, rest)
  | [], rest, _ => rfl
  | v :: l, rest, h => by
    have e : flat (v :: l) ++ rest = encL v ++ (flat l ++ rest) := by simp [flat]
    rw [e, List.length_cons, tk, dec_enc (h v (by simp)) (flat l ++ rest)]
    simp only
    rw [tk_enc l rest (fun u hu => h u (by simp [hu]))]
theorem tk_dec : ∀ (n : Nat) (l : List UInt8) (vs : List S23) (rest : List UInt8), tk n l = some (vs, rest) → vs.length = n ∧ (∀ v ∈ vs, Valid v) ∧ l = flat vs ++ rest
  | 0, l, vs, rest, h => by
    obtain ⟨rfl, rfl⟩ := Prod.mk.inj (Option.some.inj h)
    exact ⟨rfl, by simp, by simp [flat]⟩
  | n + 1, l, vs, rest, h => by
    rw [tk] at h
    cases hd : dec l with
    | none => rw [hd] at h; cases h
    | some p =>
      obtain ⟨v, r⟩ := p
      rw [hd] at h
      simp only at h
      cases ht : tk n r with
      | none => rw [ht] at h; cases h
      | some q =>
        obtain ⟨ws, r2⟩ := q
        rw [ht] at h
        simp only at h
        obtain ⟨rfl, rfl⟩ := Prod.mk.inj (Option.some.inj h)
        obtain ⟨h1, h2, h3⟩ := tk_dec n r ws r2 ht
        obtain ⟨g1, g2⟩ := dec_valid hd
        refine ⟨by simp [h1], fun u hu => ?_, by rw [g2, h3]; simp [flat]⟩
        rcases List.mem_cons.1 hu with rfl | hu
        · exact g1
        · exact h2 u hu
/-- the row of bytes that stand behind the count -/
def fin (o : Option (List S23 × List UInt8)) (acc : List S23) : List S23 × Int := match o with
  | some (vs, []) => (acc ++ vs, 0)
  | _ => ([], 50)
theorem vtake_l0 : ∀ (n d c : Nat) (acc : List S23) (l : List UInt8), n ≤ c → c ≤ 255 → acc.length + n ≤ 600 →
    value_Take.l0 (n + 1 + d) acc (TX l) (c : Int) ((c - n : Nat) : Int) = some (fin (tk n l) acc)
  | 0, d, c, acc, l, h1, h2, h3 => by
    rw [show 0 + 1 + d = d + 1 from by omega, value_Take.l0, if_neg (by omega), TX_toList]
    cases l with
    | nil => rw [if_pos rfl]; simp [tk, fin]
    | cons b t => rw [if_neg (by simp)]; simp [tk, fin]
  | n + 1, d, c, acc, l, h1, h2, h3 => by
    rw [show n + 1 + 1 + d = (n + 1 + d) + 1 from by omega, value_Take.l0, if_pos (by omega)]
    have hv := vone_dec l
    rw [tk]
    cases hd : dec l with
    | none =>
      rw [hd] at hv
      obtain ⟨a, b, e, r, hx⟩ := hv
      rw [hx, Option.bind_some]
      simp [fin]
    | some p =>
      obtain ⟨v, r⟩ := p
      rw [hd] at hv
      have hx : value_one.f (TX l) = some (v.f0, v.f1, v.f2, TX r, true) := hv
      rw [hx, Option.bind_some]
      simp only
      rw [if_pos trivial, if_pos (by omega)]
      have ih := vtake_l0 n d c (acc ++ [⟨v.f0, v.f1, v.f2⟩]) r (by omega) h2 (by simp; omega)
      rw [show ((((c - (n + 1) : Nat) : Int) + 1) % 256) = ((c - n : Nat) : Int) from by omega, ih]
      cases ht : tk n r with
      | none => rfl
      | some q =>
        obtain ⟨ws, r2⟩ := q
        cases r2 <;> simp [fin]
theorem rtake_l0 (b : UInt8) (t : List UInt8) (hL : t.length ≤ 1500) : ∀ (n d j : Nat) (acc : List S23), n ≤ b.toNat → j ≤ t.length → acc.length + n ≤ 600 →
    quaysideref05_Take.l0 (n + 21 + d) (TX (b :: t)) acc ((j : Int) + 1) ((b.toNat - n : Nat) : Int) = some (fin (tk n (t.drop j)) acc)
  | 0, d, j, acc, h1, h2, h3 => by
    have hb := b.toNat_lt
    rw [show 0 + 21 + d = (20 + d) + 1 from by omega, quaysideref05_Take.l0, if_pos (by rw [TX_size]; simp), bt0, wrap64_id (x := (b.toNat : Int)) (by omega) (by omega), if_neg (by omega), TX_size]
    simp only [List.length_cons, tk]
    by_cases c : j = t.length
    · rw [if_pos (by omega), List.drop_eq_nil_of_le (by omega)]
      simp [fin]
    · rw [if_neg (by omega), List.drop_eq_getElem_cons (by omega)]
      simp [fin]
  | n + 1, d, j, acc, h1, h2, h3 => by
    have hb := b.toNat_lt
    rw [show n + 1 + 21 + d = (n + 21 + d) + 1 from by omega, quaysideref05_Take.l0, if_pos (by rw [TX_size]; simp), bt0, wrap64_id (x := (b.toNat : Int)) (by omega) (by omega), if_pos (by omega), if_pos (by omega), if_pos (by rw [TX_size]; simp; omega)]
    have e0 : (TX (b :: t)).extract ((j : Int) + 1).toNat (TX (b :: t)).size = TX (t.drop j) := by
      rw [show ((j : Int) + 1).toNat = j + 1 from by omega, TX_extract, TX_size]
      simp
    rw [e0]
    have hr := rone_dec (t.drop j) (by simp; omega) (n + 1 + d)
    rw [show 20 + (n + 1 + d) = n + 21 + d from by omega] at hr
    rw [tk]
    cases hd : dec (t.drop j) with
    | none =>
      rw [hd] at hr
      obtain ⟨x, y, z, hx⟩ := hr
      rw [hx, Option.bind_some]
      simp [fin]
    | some p =>
      obtain ⟨v, r⟩ := p
      rw [hd] at hr
      have hx : quaysideref05_one.f (n + 21 + d) (TX (t.drop j)) = some (v.f0, v.f1, v.f2, ((t.drop j).length : Int) - r.length) := hr
      have hv := (dec_valid hd).2
      have hlen : (t.drop j).length = (encL v).length + r.length := by rw [hv]; simp
      have hpos : 1 ≤ (encL v).length := by
        unfold encL encI
        split
        · simp
        · split
          · simp
          · split <;> simp
      have hdl : (t.drop j).length = t.length - j := by simp
      rw [hx, Option.bind_some]
      simp only
      rw [if_neg (by omega), if_pos (by omega)]
      have hj2 : t.drop (j + (encL v).length) = r := by
        rw [← List.drop_drop, hv]; simp
      have ih := rtake_l0 b t hL n d (j + (encL v).length) (acc ++ [⟨v.f0, v.f1, v.f2⟩]) (by omega) (by omega) (by simp; omega)
      rw [hj2] at ih
      rw [wrap64_id (x := (j : Int) + 1 + (((t.drop j).length : Int) - r.length)) (by omega) (by omega), wrap64_id (x := ((b.toNat - (n + 1) : Nat) : Int) + 1) (by omega) (by omega)]
      rw [show (j : Int) + 1 + (((t.drop j).length : Int) - r.length) = ((j + (encL v).length : Nat) : Int) + 1 from by omega, show ((b.toNat - (n + 1) : Nat) : Int) + 1 = ((b.toNat - n : Nat) : Int) from by omega, ih]
      cases ht : tk n r with
      | none => rfl
      | some q =>
        obtain ⟨ws, r2⟩ := q
        cases r2 <;> simp [fin]
/-- the row of any bytes -/
def takeS : List UInt8 → List S23 × Int
  | [] => ([], 50)
  | b :: t => fin (tk b.toNat t) []
theorem take_both (l : List UInt8) (hl : l.length ≤ 1400) (d : Nat) : value_Take.f (300 + d) (TX l) = some (takeS l) ∧ quaysideref05_Take.f (300 + d) (TX l) = some (takeS l) := by
  unfold value_Take.f quaysideref05_Take.f
  cases l with
  | nil => rw [if_pos (TX_toList []), if_pos (TX_toList [])]; exact ⟨rfl, rfl⟩
  | cons b t =>
    have hb := b.toNat_lt
    rw [if_neg (TX_cons_toList b t), if_neg (TX_cons_toList b t), bt0, TX_extract]
    have hx : ((b :: t).take (TX (b :: t)).size).drop 1 = t := by rw [TX_size]; simp
    rw [hx, if_pos (by rw [TX_size]; simp; omega), if_pos (by rw [TX_size]; simp)]
    have h1 := vtake_l0 b.toNat (299 - b.toNat + d) b.toNat [] t (Nat.le_refl _) (by omega) (by simp; omega)
    have h2 := rtake_l0 b t (by simp at hl; omega) b.toNat (279 - b.toNat + d) 0 [] (Nat.le_refl _) (by omega) (by simp; omega)
    rw [show b.toNat + 1 + (299 - b.toNat + d) = 300 + d from by omega, Nat.sub_self] at h1
    rw [show b.toNat + 21 + (279 - b.toNat + d) = 300 + d from by omega, Nat.sub_self] at h2
    exact ⟨h1, h2⟩
end Go.Proofs.YtccpbacnfhbdlaaDoor.PureVal
