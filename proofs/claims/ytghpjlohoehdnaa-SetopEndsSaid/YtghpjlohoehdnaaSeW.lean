/- sort.Distinct's own memory: a map of lists of rows. No condition beyond those that each theorem names. -/
import Derived.Test.YtghpjlohoehdnaaSeS
import Derived.Test.YtghpjlohoehdnaaSeT
namespace Go.Proofs.Ytghpjlohoehdnaa.Sep
open Go Go.RowKit Go.Shelf
set_option linter.unusedVariables false
set_option linter.unusedSimpArgs false
def hashV (h : Int) (v : V3) : Int := wrap64 (wrap64 (wrap64 (wrap64 (h * 31) + v.k) + v.n) + v.s.size)
def hashR (row : List V3) : Int := row.foldl hashV row.length
theorem hashR_wf (row : List V3) (h : row.length ≤ 100000) : (Lit.int .i64 (hashR row)).wf = true := by
  unfold hashR
  have : ∀ (l : List V3) (a : Int), (Lit.int .i64 a).wf = true → (Lit.int .i64 (l.foldl hashV a)).wf = true := by
    intro l
    induction l with
    | nil => intro a h; exact h
    | cons v l ih => intro a _; exact ih _ (wrap64_wf _)
  exact this row _ (WalkArith.wf_i64 (by omega))
theorem eqRow_eq : ∀ r s : List V3, eqRow r s = true → r = s
  | [], [], _ => rfl
  | [], _ :: _, h => by cases h
  | _ :: _, [], h => by cases h
  | u :: r, v :: s, h => by
    unfold eqRow at h
    rw [Bool.and_eq_true] at h
    have h2 := eqRow_eq r s h.2
    obtain ⟨k, n, b⟩ := u
    obtain ⟨k', n', b'⟩ := v
    have h1 := h.1
    unfold eqV at h1
    simp only [Bool.and_eq_true, beq_iff_eq] at h1
    obtain ⟨h3, h4, h5⟩ := h1
    rw [h2, h3, h4]
    have : b = b' := by
      cases b; cases b'
      congr 1
      simpa [ByteArray.toList_eq] using h5
    rw [this]
theorem any_hash (acc : List (List V3)) (row : List V3) : ((acc.filter fun s => hashR s == hashR row).any fun s => eqRow s row) = acc.any fun s => eqRow s row := by
  induction acc with
  | nil => rfl
  | cons s l ih =>
    rw [List.filter_cons]
    by_cases h : (hashR s == hashR row) = true
    · rw [if_pos h, List.any_cons, List.any_cons, ih]
    · rw [if_neg h, ih, List.any_cons]
      have : eqRow s row = false := by
        cases he : eqRow s row with
        | false => rfl
        | true => exact absurd (by rw [eqRow_eq s row he]; simp) h
      rw [this, Bool.false_or]
structure DF (f : Int → Value) (n Mp : Nat) (acc : List (List V3)) (Xd : Nat → Prop) (W : World) : Prop where
  map : MapF W Mp n f
  le : n ≤ acc.length
  mp : Xd Mp
  own : ∀ h, ∃ rs : List RV, W.ownsRow (Mp + 1) 48 1 (f h) rs.length (rs.map RV.v) ∧ (∀ j, (f h).ownBlock = some j → Xd j) ∧ All2 (fun q row => Cont W q row ∧ q.n ≤ 1000 ∧ ∀ j, q.blk j → Xd j ∧ Mp < j ∧ ∀ h', (f h').ownBlock ≠ some j) rs (acc.filter fun s => hashR s == h)
  apart : ∀ h h' j, h ≠ h' → (f h).ownBlock = some j → (f h').ownBlock ≠ some j
theorem DF.same {f : Int → Value} {n Mp : Nat} {acc : List (List V3)} {Xd : Nat → Prop} {W W' : World} (h : DF f n Mp acc Xd W) (hs : W.heap.size ≤ W'.heap.size) (hb : ∀ j, Xd j → W'.heap[j]? = W.heap[j]?) : DF f n Mp acc Xd W' :=
  ⟨h.map.kept (hb _ h.mp), h.le, h.mp, fun k => by
    obtain ⟨rs, h1, h2, h3⟩ := h.own k
    exact ⟨rs, ownsRow_same (fun j hj => hb j (h2 j hj)) h1, h2, h3.imp fun q row hq => ⟨hq.1.same hs (fun j hj => hb j (hq.2.2 j hj).1), hq.2⟩⟩, h.apart⟩
theorem DF.made (W : World) : DF (fun _ => .slice none 0 0) 0 W.heap.size [] (fun j => j = W.heap.size) (W.alloc (.map #[] 0)) :=
  ⟨MapF.made W, Nat.le_refl _, rfl, fun h => ⟨[], World.ownsRow_nil _ _ _ _, (fun j h => by cases h), trivial⟩, fun h h' j _ e => by cases e⟩
theorem DF.lt {f : Int → Value} {n Mp : Nat} {acc : List (List V3)} {Xd : Nat → Prop} {W : World} (h : DF f n Mp acc Xd W) (k : Int) : ∀ j, (f k).ownBlock = some j → Mp < j ∧ j < W.heap.size := fun j hj => by
  obtain ⟨rs, h1, _⟩ := h.own k
  rcases h1.2 with ⟨e, _⟩ | ⟨g, cap, cur, e, h2, h3, _⟩
  · rw [e] at hj; cases hj
  · rw [e] at hj; injection hj with hj; subst hj
    exact ⟨h2, (Array.getElem?_eq_some_iff.1 h3).1⟩
theorem DF.list {f : Int → Value} {n Mp : Nat} {acc : List (List V3)} {Xd : Nat → Prop} {W : World} (h : DF f n Mp acc Xd W) (k : Int) : Own1 W (f k) (acc.filter fun s => hashR s == k) := by
  obtain ⟨rs, h1, _, h3⟩ := h.own k
  have := ownB_of_row (N := Mp + 1) rfl h1 (h3.imp fun q row hq => ⟨hq.1, hq.2.1, fun j hj => (hq.2.2 j hj).2.1⟩)
  exact this.own
theorem filter_snoc (acc : List (List V3)) (row : List V3) (h : Int) : (acc ++ [row]).filter (fun s => hashR s == h) = if h = hashR row then acc.filter (fun s => hashR s == h) ++ [row] else acc.filter fun s => hashR s == h := by
  rw [List.filter_append]
  by_cases e : h = hashR row
  · subst e; simp
  · have : (hashR row == h) = false := by simpa using Ne.symm e
    simp [this, e]
/-- A ROW MORE: a clone of it, behind the others of its key; the map's entry anew. -/
theorem DF.push {f : Int → Value} {n Mp M : Nat} {acc : List (List V3)} {Xd : Nat → Prop} {W W4 W5 W6 : World} {row : List V3} {r' : RV} {v' : Value} {rs : List RV}
    (hD : DF f n Mp acc Xd W) (hM : M ≤ W.heap.size) (hX : ∀ j, Xd j → j < M) (hb4 : Below W.heap.size W W4) (hC : Cont W4 r' row) (hn : r'.n ≤ 1000) (hblk : ∀ j, r'.blk j → W.heap.size ≤ j)
    (hrs : All2 (fun q row => Cont W q row ∧ q.n ≤ 1000 ∧ ∀ j, q.blk j → Xd j ∧ Mp < j ∧ ∀ h', (f h').ownBlock ≠ some j) rs (acc.filter fun s => hashR s == hashR row)) (hox : ∀ j, (f (hashR row)).ownBlock = some j → Xd j)
    (hown : W5.ownsRow (Mp + 1) 48 1 v' (rs.length + 1) (rs.map RV.v ++ [r'.v])) (hgrow : W4.grownBy W5 (f (hashR row)).ownBlock) (hob : v'.ownBlock = (f (hashR row)).ownBlock ∨ v'.ownBlock = some W4.heap.size)
    (hmap : MapF W6 Mp (n + 1) (fun j => if j = hashR row then v' else f j)) (hg6 : W5.grownBy W6 (some Mp)) (hs6 : W6.heap.size = W5.heap.size) :
    DF (fun j => if j = hashR row then v' else f j) (n + 1) Mp (acc ++ [row]) (fun j => Xd j ∨ (M ≤ j ∧ j < W6.heap.size)) W6 ∧ (∀ j, j < W.heap.size → ¬ Xd j → W6.heap[j]? = W.heap[j]?) ∧ W.heap.size ≤ W6.heap.size ∧ W6.os = W.os ∧ W6.tape = W.tape ∧ W6.output = W.output := by
  have hMp : Mp < M := hX _ hD.mp
  have hs4 := hb4.size
  have hs5 := hgrow.size
  have vlt : ∀ k j, (f k).ownBlock = some j → j < M := fun k j hj => by
    obtain ⟨rs2, _, h2, _⟩ := hD.own k
    exact hX j (h2 j hj)
  have b5 : ∀ j, j < W4.heap.size → (f (hashR row)).ownBlock ≠ some j → W5.heap[j]? = W4.heap[j]? := fun j hj hv => hgrow.block j hj (fun e => hv e.symm)
  have b6 : ∀ j, j < W5.heap.size → j ≠ Mp → W6.heap[j]? = W5.heap[j]? := fun j hj hm => hg6.block j hj (fun e => hm (by injection e))
  have v'lt : ∀ j, v'.ownBlock = some j → Mp < j ∧ j < W5.heap.size := fun j hj => by
    rcases hown.2 with ⟨e, _⟩ | ⟨g, cap, cur, e, h2, h3, _⟩
    · rw [e] at hj; cases hj
    · rw [e] at hj; injection hj with hj; subst hj
      exact ⟨h2, (Array.getElem?_eq_some_iff.1 h3).1⟩
  have v'new : ∀ j, v'.ownBlock = some j → (f (hashR row)).ownBlock = some j ∨ j = W4.heap.size := fun j hj => by
    rcases hob with h | h
    · exact .inl (h ▸ hj)
    · rw [h] at hj; injection hj with hj; exact .inr hj.symm
  -- an old row of whatever key
  have old : ∀ (q : RV) (qr : List V3), (Cont W q qr ∧ q.n ≤ 1000 ∧ ∀ j, q.blk j → Xd j ∧ Mp < j ∧ ∀ h', (f h').ownBlock ≠ some j) →
      (Cont W6 q qr ∧ q.n ≤ 1000 ∧ ∀ j, q.blk j → (Xd j ∨ (M ≤ j ∧ j < W6.heap.size)) ∧ Mp < j ∧ ∀ h', (if h' = hashR row then v' else f h').ownBlock ≠ some j) := fun q qr ⟨h1, h2, h3⟩ => by
    have hlt : ∀ j, q.blk j → j < M := fun j hj => hX j (h3 j hj).1
    refine ⟨h1.same (by omega) (fun j hj => ?_), h2, fun j hj => ⟨.inl (h3 j hj).1, (h3 j hj).2.1, fun h' => ?_⟩⟩
    · have := hlt j hj
      rw [b6 j (by omega) (by have := (h3 j hj).2.1; omega), b5 j (by omega) ((h3 j hj).2.2 _), hb4.block j (by omega)]
    · by_cases e : h' = hashR row
      · rw [if_pos e]
        intro hv
        rcases v'new j hv with h | h
        · exact (h3 j hj).2.2 _ h
        · have := hlt j hj; omega
      · rw [if_neg e]; exact (h3 j hj).2.2 _
  have hnew : Cont W6 r' row ∧ r'.n ≤ 1000 ∧ ∀ j, r'.blk j → (Xd j ∨ (M ≤ j ∧ j < W6.heap.size)) ∧ Mp < j ∧ ∀ h', (if h' = hashR row then v' else f h').ownBlock ≠ some j := by
    have hlt : ∀ j, r'.blk j → j < W4.heap.size := hC.blt
    refine ⟨hC.same (by omega) (fun j hj => ?_), hn, fun j hj => ?_⟩
    · have h1 := hlt j hj
      have h2 := hblk j hj
      rw [b6 j (by omega) (by omega), b5 j h1 (fun e => by have := vlt _ j e; omega)]
    · have h1 := hlt j hj
      have h2 := hblk j hj
      refine ⟨.inr ⟨by omega, by omega⟩, by omega, fun h' => ?_⟩
      by_cases e : h' = hashR row
      · rw [if_pos e]
        intro hv
        rcases v'new j hv with h | h
        · have := vlt _ j h; omega
        · omega
      · rw [if_neg e]
        intro hv
        have := vlt _ j hv; omega
  refine ⟨⟨hmap, by rw [List.length_append, List.length_singleton]; exact Nat.succ_le_succ hD.le, .inl hD.mp, fun h => ?_, fun h h' j hne hv => ?_⟩, fun j hj hx => ?_, by omega, hg6.os.trans (hgrow.os.trans hb4.os), hg6.tape.trans (hgrow.tape.trans hb4.tape), hg6.output.trans (hgrow.output.trans hb4.output)⟩
  · rw [filter_snoc]
    by_cases e : h = hashR row
    · subst e
      refine ⟨rs ++ [r'], ?_, fun j hj => ?_, ?_⟩
      · rw [if_pos rfl, List.length_append, List.length_singleton, List.map_append, List.map_singleton]
        exact ownsRow_same (fun j hj => b6 j (v'lt j hj).2 (by have := (v'lt j hj).1; omega)) hown
      · rw [if_pos rfl] at hj
        rcases v'new j hj with h | h
        · exact .inl (hox j h)
        · exact .inr ⟨by omega, by have := (v'lt j hj).2; omega⟩
      · rw [if_pos rfl]
        exact All2.snoc (P := fun q qr => Cont W6 q qr ∧ q.n ≤ 1000 ∧ ∀ j, q.blk j → (Xd j ∨ (M ≤ j ∧ j < W6.heap.size)) ∧ Mp < j ∧ ∀ h', (if h' = hashR row then v' else f h').ownBlock ≠ some j) hnew (hrs.imp old)
    · obtain ⟨rs2, h1, h2, h3⟩ := hD.own h
      refine ⟨rs2, ?_, fun j hj => ?_, ?_⟩
      · rw [if_neg e]
        refine ownsRow_same (fun j hj => ?_) h1
        have l1 := hD.lt h j hj
        have l2 := vlt h j hj
        rw [b6 j (by omega) (by omega), b5 j (by omega) (hD.apart _ _ _ e hj), hb4.block j (by omega)]
      · rw [if_neg e] at hj; exact .inl (h2 j hj)
      · rw [if_neg e]
        exact h3.imp old
  · by_cases e : h = hashR row
    · rw [if_pos e] at hv
      rw [if_neg (fun e' => hne (e.trans e'.symm))]
      intro hv'
      rcases v'new j hv with h1 | h1
      · exact hD.apart _ _ _ (fun e' => hne (e.trans e')) h1 hv'
      · have := vlt _ j hv'; omega
    · rw [if_neg e] at hv
      by_cases e' : h' = hashR row
      · rw [if_pos e']
        intro hv'
        rcases v'new j hv' with h1 | h1
        · exact hD.apart _ _ _ e hv h1
        · have := vlt _ j hv; omega
      · rw [if_neg e']; exact hD.apart _ _ _ hne hv
  · have hm : j ≠ Mp := fun e => hx (e ▸ hD.mp)
    rw [b6 j (by omega) hm, b5 j (by omega) (fun e => hx (hox j e)), hb4.block j hj]
/-- each row once, up to the first error -/
def distL (acc : List (List V3)) : List Pr → List Pr
  | [] => []
  | p :: l => if p.1.2 = 0 then (if acc.any fun s => eqRow s p.2 then distL acc l else p :: distL (acc ++ [p.2]) l) else [((RV.nil, p.1.2), [])]
end Go.Proofs.Ytghpjlohoehdnaa.Sep
