/- The law ValueBytes holds of every row and every bytes: both turn rows to bytes and bytes to rows alike, there and back. Conditions: numbers of 64 bits. -/
import Derived.Test.YtccpbacnfhbdlaaDoorPureVal4
import Derived.Test.YtccpbacnfhbdlaaDoorWalkBytes
import Derived.Test.YtccpbacnfhbdlaaDoorPureAwake
namespace Go.Proofs.YtccpbacnfhbdlaaDoor.PureVal
open Go.RowKit Go.Proofs.YtccpbacnfhbdlaaDoorW.PrintWords Go.Proofs.YtccpbacnfhbdlaaDoorW.PrintLast Go.Proofs.YtccpbacnfhbdlaaDoorW.PrintMore
open Go.Proofs.YtccpbacnfhbdlaaDoor.Va
set_option linter.unusedVariables false
set_option linter.unusedSimpArgs false
theorem rd_drop (l : List S23) (i : Nat) (h : i < l.length) : l.drop i = rd_T23 l (i : Int) :: l.drop (i + 1) := by
  rw [List.drop_eq_getElem_cons h]
  simp [rd_T23, h]
theorem str_acc {xi : List Int} {acc : List UInt8} (h : xi.map BB = acc) : strOfNums xi = TX acc := by
  rw [← h]; rfl
/-- Both put a row alike, from any place on. -/
theorem put_both_l0 (l : List S23) (hl : l.length ≤ 255) (hw : ∀ y ∈ l, -9223372036854775808 ≤ y.f1 ∧ y.f1 ≤ 9223372036854775807) : ∀ (n d i : Nat) (acc : List UInt8) (xi : List Int), i ≤ l.length → l.length - i ≤ n → xi.map BB = acc → acc.length ≤ 1 + 66 * i →
    ∃ r e, value_Put.l0 (n + 21 + d) l acc (i : Int) = some (r, e) ∧ quaysideref05_Put.l0 (n + 21 + d) l xi (i : Int) = some (r, e) ∧ (e = 0 → (∀ v ∈ l.drop i, Valid v) ∧ r = TX (acc ++ flat (l.drop i))) ∧ ((∀ v ∈ l.drop i, Valid v) → e = 0)
  | 0, d, i, acc, xi, h1, h2, h3, h4 => by
    have e : i = l.length := by omega
    rw [show 0 + 21 + d = (20 + d) + 1 from by omega, value_Put.l0, quaysideref05_Put.l0, if_neg (by omega), if_neg (by omega), List.drop_eq_nil_of_le (by omega)]
    refine ⟨TX acc, 0, rfl, by rw [str_acc h3], fun _ => ⟨by simp, by simp [flat]⟩, fun _ => rfl⟩
  | n + 1, d, i, acc, xi, h1, h2, h3, h4 => by
    by_cases c : i < l.length
    · have hdr := rd_drop l i c
      have hmem : rd_T23 l (i : Int) ∈ l := List.mem_of_mem_drop (i := i) (by rw [hdr]; simp)
      obtain ⟨w0, w1⟩ := hw _ hmem
      rw [hdr]
      rw [show n + 1 + 21 + d = (n + 21 + d) + 1 from by omega, value_Put.l0, quaysideref05_Put.l0, if_pos (by omega), if_pos (by omega), if_pos (by omega), if_pos (by omega)]
      generalize rd_T23 l (i : Int) = v at *
      obtain ⟨b, hm, hc⟩ := may_f v.f0 v.f1 v.f2
      rw [hm, hc, Option.bind_some, Option.bind_some]
      cases b with
      | false =>
        rw [if_neg (by decide), if_neg (by decide)]
        refine ⟨⟨#[]⟩, 1, rfl, rfl, fun h => absurd h (by decide), fun h => ?_⟩
        have := (h v (by simp)).may
        rw [hm] at this
        cases this
      | true =>
        have hV : Valid v := ⟨hm, w0, w1⟩
        obtain ⟨b1, b2⟩ := bytes_enc hV (n + 1 + d)
        rw [show 20 + (n + 1 + d) = n + 21 + d from by omega] at b1 b2
        have hsz := enc_size hV
        have hdat : (strOfNums (encI v)).data.toList = encL v := rfl
        have hxl : xi.length = acc.length := by rw [← h3]; simp
        rw [if_pos (by decide), if_pos rfl, b1, b2, Option.bind_some, Option.bind_some, if_pos (by rw [strOfNums_size]; omega), if_pos (by rw [strOfNums_size]; omega), hdat, wrap64_id (x := (i : Int) + 1) (by omega) (by omega)]
        obtain ⟨r, e, p1, p2, p3, p4⟩ := put_both_l0 l hl hw n d (i + 1) (acc ++ encL v) (xi ++ bytesOf (strOfNums (encI v))) (by omega) (by omega) (by rw [List.map_append, h3, BB_bytesOf, hdat]) (by simp [encL]; omega)
        rw [show ((i + 1 : Nat) : Int) = (i : Int) + 1 from by omega] at p1 p2
        refine ⟨r, e, p1, p2, fun he => ?_, fun h => p4 fun u hu => h u (by simp [hu])⟩
        obtain ⟨q1, q2⟩ := p3 he
        refine ⟨fun u hu => ?_, by rw [q2]; simp [flat]⟩
        rcases List.mem_cons.1 hu with rfl | hu
        · exact hV
        · exact q1 u hu
    · rw [show n + 1 + 21 + d = 0 + 21 + (n + 1 + d) from by omega]
      exact put_both_l0 l hl hw 0 (n + 1 + d) i acc xi h1 (by omega) h3 h4
theorem put_both (l : List S23) (hw : ∀ y ∈ l, -9223372036854775808 ≤ y.f1 ∧ y.f1 ≤ 9223372036854775807) (d : Nat) :
    ∃ r e, value_Put.f (300 + d) l = some (r, e) ∧ quaysideref05_Put.f (300 + d) l = some (r, e) ∧ (e = 0 → l.length ≤ 255 ∧ (∀ v ∈ l, Valid v) ∧ r = TX (UInt8.ofNat l.length :: flat l)) ∧ (l.length ≤ 255 → (∀ v ∈ l, Valid v) → e = 0) := by
  unfold value_Put.f quaysideref05_Put.f
  by_cases c : (l.length : Int) > 255
  · rw [if_pos c, if_pos c]
    exact ⟨_, _, rfl, rfl, fun h => absurd h (by decide), fun h => by omega⟩
  · rw [if_neg c, if_neg c]
    have e1 : (l.length % 256).toUInt8 = UInt8.ofNat l.length := by rw [Nat.mod_eq_of_lt (by omega)]
    rw [e1]
    obtain ⟨r, e, p1, p2, p3, p4⟩ := put_both_l0 l (by omega) hw l.length (279 - l.length + d) 0 [UInt8.ofNat l.length] [(l.length : Int) % 256] (by omega) (by omega) (by rw [show (l.length : Int) % 256 = (l.length : Int) from by omega]; simp [BB]) (by simp)
    rw [show l.length + 21 + (279 - l.length + d) = 300 + d from by omega] at p1 p2
    refine ⟨r, e, p1, p2, fun he => ?_, fun _ h => p4 (by simpa using h)⟩
    obtain ⟨q1, q2⟩ := p3 he
    exact ⟨by omega, by simpa using q1, by simpa using q2⟩
theorem same_l0 (l : List S23) (hl : l.length ≤ 300) : ∀ (n d i : Nat), i ≤ l.length → l.length - i ≤ n → quaysideref05_Same.l0 (n + 1 + d) l l (i : Int) = some true
  | 0, d, i, h1, h2 => by
    rw [show 0 + 1 + d = d + 1 from by omega, quaysideref05_Same.l0, if_neg (by omega)]
  | n + 1, d, i, h1, h2 => by
    by_cases c : i < l.length
    · rw [show n + 1 + 1 + d = (n + 1 + d) + 1 from by omega, quaysideref05_Same.l0, if_pos (by omega), if_pos (by omega), if_pos (by omega), if_neg (by simp), wrap64_id (x := (i : Int) + 1) (by omega) (by omega)]
      exact same_l0 l hl n d (i + 1) (by omega) (by omega)
    · rw [show n + 1 + 1 + d = 0 + 1 + (n + 1 + d) from by omega]
      exact same_l0 l hl 0 (n + 1 + d) i h1 (by omega)
theorem same_f (l : List S23) (hl : l.length ≤ 300) (d : Nat) : quaysideref05_Same.f (301 + d) l l = some true := by
  unfold quaysideref05_Same.f
  rw [if_pos rfl]
  have := same_l0 l hl 300 d 0 (by omega) (by omega)
  exact this
theorem light_l1 (l : List S23) (hl : l.length ≤ 300) : ∀ (n d i : Nat), i ≤ l.length → l.length - i ≤ n → ∃ b, quaysidelaw05_light.l1 (n + 2 + d) [l] 0 (i : Int) = some b
  | 0, d, i, h1, h2 => by
    have e : rd_L4 [l] 0 = l := rfl
    rw [show 0 + 2 + d = (1 + d) + 1 from by omega, quaysidelaw05_light.l1, if_pos (by decide), if_pos (by simp), e, if_neg (by omega), show 1 + d = d + 1 from by omega, quaysidelaw05_light.l0, if_neg (by simp [wrap64])]
    exact ⟨_, rfl⟩
  | n + 1, d, i, h1, h2 => by
    by_cases c : i < l.length
    · have e : rd_L4 [l] 0 = l := rfl
      rw [show n + 1 + 2 + d = (n + 2 + d) + 1 from by omega, quaysidelaw05_light.l1, if_pos (by decide), if_pos (by simp), e, if_pos (by omega), if_pos (by omega)]
      split
      · exact ⟨_, rfl⟩
      · rw [wrap64_id (x := (i : Int) + 1) (by omega) (by omega)]
        exact light_l1 l hl n d (i + 1) (by omega) (by omega)
    · rw [show n + 1 + 2 + d = 0 + 2 + (n + 1 + d) from by omega]
      exact light_l1 l hl 0 (n + 1 + d) i h1 (by omega)
theorem light_tot (l : List S23) (d : Nat) : ∃ b, quaysidelaw05_light.f (310 + d) [l] = some b := by
  unfold quaysidelaw05_light.f
  have e : rd_L4 [l] 0 = l := rfl
  rw [show 310 + d = (309 + d) + 1 from by omega, quaysidelaw05_light.l0, if_pos (by simp), if_pos (by decide), e]
  by_cases c : (l.length : Int) > 300
  · rw [if_pos c]; exact ⟨_, rfl⟩
  · rw [if_neg c]
    have := light_l1 l (by omega) 300 (7 + d) 0 (by omega) (by omega)
    rw [show 300 + 2 + (7 + d) = 309 + d from by omega] at this
    exact this
theorem fin_zero {o : Option (List S23 × List UInt8)} {acc vs : List S23} {g : Int} (h : fin o acc = (vs, g)) (hg : g = 0) : ∃ ws, o = some (ws, []) ∧ vs = acc ++ ws := by
  subst hg
  cases o with
  | none => cases h
  | some p =>
    obtain ⟨ws, r⟩ := p
    cases r with
    | nil => exact ⟨ws, rfl, (Prod.mk.inj h).1.symm⟩
    | cons b t => cases h
theorem fin_len (o : Option (List S23 × List UInt8)) (n : Nat) (ho : ∀ ws r, o = some (ws, r) → ws.length = n) : (fin o []).1.length ≤ n := by
  cases o with
  | none => simp [fin]
  | some p =>
    obtain ⟨ws, r⟩ := p
    have := ho ws r rfl
    cases r with
    | nil => simp [fin]; omega
    | cons b t => simp [fin]
end Go.Proofs.YtccpbacnfhbdlaaDoor.PureVal
namespace Go.Proofs.YtccpbacnfhbdlaaDoor.Pure
open Go.RowKit Go.Proofs.YtccpbacnfhbdlaaDoor.Va Go.Proofs.YtccpbacnfhbdlaaDoor.PureVal
set_option linter.unusedVariables false
set_option linter.unusedSimpArgs false
theorem ValueBytes (l0 : List S23) (a1 : ByteArray) (f0 : ∀ y ∈ l0, (Lit.int .i64 y.f0).wf = true ∧ (Lit.int .i64 y.f1).wf = true) : ∃ k, BytesTrue k l0 a1 := by
  obtain ⟨K, hK⟩ := awake_ex
  have hA := hK 400
  have hw : ∀ y ∈ l0, -9223372036854775808 ≤ y.f1 ∧ y.f1 ≤ 9223372036854775807 := fun y hy => PureVal.wf64 (f0 y hy).2
  obtain ⟨b, hb⟩ := light_tot l0 (K + 90)
  refine ⟨K + 400, ⟨⟨b, by rw [show K + 400 = 310 + (K + 90) from by omega]; exact hb, fun _ hs => ?_⟩, hA⟩⟩
  obtain ⟨r, e, p1, p2, p3, p4⟩ := put_both l0 hw (K + 100)
  rw [show 300 + (K + 100) = K + 400 from by omega] at p1 p2
  have hl : a1.data.toList.length ≤ 1400 := by rw [Array.length_toList]; exact Nat.le_trans hs (by decide)
  obtain ⟨t1, t2⟩ := take_both a1.data.toList hl (K + 100)
  rw [show 300 + (K + 100) = K + 400 from by omega, TX_eta] at t1 t2
  have hlen : (takeS a1.data.toList).1.length ≤ 255 := by
    cases hq : a1.data.toList with
    | nil => simp [takeS]
    | cons b t =>
      have hb := b.toNat_lt
      have := fin_len (tk b.toNat t) b.toNat (fun ws r h => (tk_dec _ _ _ _ h).1)
      show (fin (tk b.toNat t) []).1.length ≤ 255
      omega
  refine ⟨r, e, (takeS a1.data.toList).1, (takeS a1.data.toList).2, ⟨p1, p2, t1, t2, ?_, fun he => ?_, fun hg => ?_⟩⟩
  · have := same_f (takeS a1.data.toList).1 (by omega) (K + 99)
    rwa [show 301 + (K + 99) = K + 400 from by omega] at this
  · obtain ⟨q1, q2, q3⟩ := p3 he
    have hn : (UInt8.ofNat l0.length).toNat = l0.length := UInt8.toNat_ofNat_of_lt' (Nat.lt_of_le_of_lt q1 (by decide))
    have hfl : (flat l0).length ≤ 66 * l0.length := by
      clear p1 p2 p3 p4 q1 q3 hn hw f0 hb
      induction l0 with
      | nil => simp [flat]
      | cons v l ih =>
        have h1 := enc_size (q2 v (by simp))
        have h2 := ih (fun u hu => q2 u (by simp [hu]))
        simp only [flat, List.flatMap_cons, List.length_append, List.length_cons] at h2 ⊢
        have : (encL v).length = (encI v).length := by simp [encL]
        omega
    have hbig : ∀ d, value_Take.f (300 + d) (TX (UInt8.ofNat l0.length :: flat l0)) = some (l0, 0) := by
      intro d
      unfold value_Take.f
      rw [if_neg (TX_cons_toList _ _), bt0, TX_extract]
      have hx : ((UInt8.ofNat l0.length :: flat l0).take (TX (UInt8.ofNat l0.length :: flat l0)).size).drop 1 = flat l0 := by rw [TX_size]; simp
      rw [hx, if_pos (by rw [TX_size]; simp; omega), if_pos (by rw [TX_size]; simp), hn]
      have h1 := vtake_l0 l0.length (299 - l0.length + d) l0.length [] (flat l0) (Nat.le_refl _) (by omega) (by simp; omega)
      rw [show l0.length + 1 + (299 - l0.length + d) = 300 + d from by omega, Nat.sub_self] at h1
      have h2 := tk_enc l0 [] q2
      rw [List.append_nil] at h2
      rw [h2] at h1
      exact h1
    have h3 := hbig (K + 100)
    rw [show 300 + (K + 100) = K + 400 from by omega, ← q3] at h3
    refine ⟨h3, ?_⟩
    have := same_f l0 (by omega) (K + 99)
    rwa [show 301 + (K + 99) = K + 400 from by omega] at this
  · cases hq : a1.data.toList with
    | nil =>
      rw [hq] at hg
      exact absurd hg (by decide)
    | cons b t =>
      have hbl := b.toNat_lt
      rw [hq] at hg
      obtain ⟨ws, g1, g2⟩ := fin_zero (o := tk b.toNat t) (acc := []) (vs := (takeS (b :: t)).1) (g := (takeS (b :: t)).2) rfl hg
      obtain ⟨u1, u2, u3⟩ := tk_dec _ _ _ _ g1
      rw [List.nil_append] at g2
      rw [g2]
      obtain ⟨r', e', x1, x2, x3, x4⟩ := put_both ws (fun y hy => ⟨(u2 y hy).lo, (u2 y hy).hi⟩) (K + 100)
      rw [show 300 + (K + 100) = K + 400 from by omega] at x1
      have he := x4 (by omega) u2
      obtain ⟨y1, y2, y3⟩ := x3 he
      rw [x1, he, y3, u1]
      have : TX (UInt8.ofNat b.toNat :: flat ws) = a1 := by
        rw [← TX_eta a1, hq, u3, List.append_nil, UInt8.ofNat_toNat]
      rw [this]
end Go.Proofs.YtccpbacnfhbdlaaDoor.Pure
