/- SortMany, walked. No condition beyond those that each theorem names. -/
import Derived.Test.YtghpjlohoehdnaaSmD
import Derived.Laws.BitsLemmas
namespace Go.Proofs.Ytghpjlohoehdnaa.Sep
open Go Go.RowKit Go.Shelf
set_option linter.unusedVariables false
set_option linter.unusedSimpArgs false
theorem mask_i64 (n m : Int) (k : Nat) (hk : k ≤ 62) (hm : (BitVec.ofInt 64 m).toNat = 2 ^ k - 1) : bits .and .i64 n m = n % ((2 ^ k : Nat) : Int) := by
  have h2 : (2 : Nat) ^ k ≤ 2 ^ 62 := Nat.pow_le_pow_right (by decide) hk
  have hp : 0 < 2 ^ k := Nat.pow_pos (by decide)
  have key : (BitVec.ofInt 64 n &&& BitVec.ofInt 64 m).toNat = (n % ((2 ^ 64 : Nat) : Int)).toNat % 2 ^ k := by
    rw [BitVec.toNat_and, BitVec.toNat_ofInt, hm, Nat.and_two_pow_sub_one_eq_mod]
  have hd : ((2 ^ k : Nat) : Int) ∣ ((2 ^ 64 : Nat) : Int) := Int.natCast_dvd_natCast.2 (Nat.pow_dvd_pow 2 (by omega))
  have h3 : (((n % ((2 ^ 64 : Nat) : Int)).toNat % 2 ^ k : Nat) : Int) = n % ((2 ^ k : Nat) : Int) := by
    rw [Int.natCast_emod, Int.toNat_of_nonneg (Int.emod_nonneg _ (by decide)), Int.emod_emod_of_dvd _ hd]
  show IntKind.i64.wrap ((BitVec.ofInt 64 n &&& BitVec.ofInt 64 m).toNat : Nat) = n % ((2 ^ k : Nat) : Int)
  rw [key, h3, IntKind.wrap_i64]
  have h4 := Int.emod_nonneg n (show ((2 ^ k : Nat) : Int) ≠ 0 by omega)
  have h5 := Int.emod_lt_of_pos n (show (0 : Int) < ((2 ^ k : Nat) : Int) by omega)
  have h6 : ((2 ^ k : Nat) : Int) ≤ 4611686018427387904 := by
    have : ((2 ^ 62 : Nat) : Int) = 4611686018427387904 := by decide
    omega
  omega
theorem mask7 (n : Int) : bits .and .i64 n 7 = n % 8 := mask_i64 n 7 3 (by decide) (by decide)
theorem mask2047 (n : Int) : bits .and .i64 n 2047 = n % 2048 := mask_i64 n 2047 11 (by decide) (by decide)
theorem mask65535 (n : Int) : bits .and .i64 n 65535 = n % 65536 := mask_i64 n 65535 16 (by decide) (by decide)
/-- a row of two numbers -/
def two (a b : Int) : List V3 := [⟨1, a, ⟨#[]⟩⟩, ⟨1, b, ⟨#[]⟩⟩]
def secN (r : List V3) : Int := (r.getD 1 zV).n
/-- the rows that came: of two numbers, the second of them rises -/
structure Rise (i : Nat) (l : List (List V3)) : Prop where
  form : ∀ r ∈ l, ∃ a b : Int, r = two a b ∧ b < i
  rise : l.Pairwise fun x y => secN x < secN y
theorem Rise.snoc {i : Nat} {l : List (List V3)} (h : Rise i l) (a : Int) : Rise (i + 1) (l ++ [two a i]) := by
  refine ⟨fun r hr => ?_, List.pairwise_append.2 ⟨h.rise, List.pairwise_singleton _ _, fun x hx y hy => ?_⟩⟩
  · rcases List.mem_append.1 hr with hr | hr
    · obtain ⟨a', b', e, hb⟩ := h.form r hr
      exact ⟨a', b', e, by omega⟩
    · exact ⟨a, i, List.mem_singleton.1 hr, by omega⟩
  · rw [List.mem_singleton.1 hy]
    obtain ⟨a', b', rfl, hb⟩ := h.form x hx
    exact hb
theorem putP_flat {α : Type} {hand : Nat} (hh : 2 ≤ hand) {ins : List (List α)} {now : List α} (r : α) (hne : ∀ x ∈ ins, x ≠ []) (hnow : now.length < hand) :
    (putP hand ins now r).1.flatten ++ (putP hand ins now r).2 = ins.flatten ++ now ++ [r] ∧ (putP hand ins now r).2.length < hand := by
  unfold putP
  split
  · have h := laysR_props hh (ins ++ [now ++ [r]]).length (ins ++ [now ++ [r]]) (by
      intro x hx
      rcases List.mem_append.1 hx with hx | hx
      · exact hne x hx
      · rw [List.mem_singleton.1 hx]; simp)
    have e : (laysL hand (ins ++ [now ++ [r]])).flatten = (ins ++ [now ++ [r]]).flatten := h.2
    refine ⟨?_, by simp; omega⟩
    simp only [List.append_nil, e]
    simp
  · rename_i hlt
    refine ⟨by simp, ?_⟩
    simp only [List.length_append, List.length_singleton]
    omega
/-- of the sorted rows one stands behind another as the law says -/
theorem many_pair {l : List (List V3)} {n : Nat} (h : Rise n l) : (stab (fun a b => cmpR a b [(0, true)]) l).Pairwise fun x y => ∃ a b c d : Int, x = two a b ∧ y = two c d ∧ (c < a ∨ (a = c ∧ b < d)) := by
  have hc := cmpR_ord [(0, true)]
  have hmem : ∀ x ∈ stab (fun a b => cmpR a b [(0, true)]) l, x ∈ l := fun x hx => (stab_same hc l).mem hc hx
  refine (List.pairwise_iff_forall_sublist).2 fun {x y} hxy => ?_
  have hx := hmem x (hxy.subset (by simp))
  have hy := hmem y (hxy.subset (by simp))
  obtain ⟨a, b, rfl, _⟩ := h.form x hx
  obtain ⟨c, d, rfl, _⟩ := h.form y hy
  refine ⟨a, b, c, d, rfl, rfl, ?_⟩
  have h1 : cmpR (two a b) (two c d) [(0, true)] ≤ 0 := (List.pairwise_iff_forall_sublist).1 (stab_srt hc l) hxy
  have hone : oneR (two a b) (two c d) (0, true) = cmpI a c := by
    show cmpV ⟨1, a, ⟨#[]⟩⟩ ⟨1, c, ⟨#[]⟩⟩ = cmpI a c
    have e1 : cmpI (1 : Int) 1 = 0 := by decide
    have e2 : cmpV ⟨1, a, ⟨#[]⟩⟩ ⟨1, c, ⟨#[]⟩⟩ = if cmpI (1 : Int) 1 ≠ 0 then cmpI (1 : Int) 1 else if cmpI a c ≠ 0 then cmpI a c else 0 := rfl
    rw [e2, e1]
    by_cases h0 : cmpI a c = 0 <;> simp [h0]
  have hcv : cmpR (two a b) (two c d) [(0, true)] = if cmpI a c = 0 then 0 else wrap64 (-cmpI a c) := by
    rw [cmpR, hone]
    rfl
  by_cases hac : a = c
  · refine .inr ⟨hac, ?_⟩
    subst hac
    have h0 : cmpI a a = 0 := cmpI_ord.refl a
    have hv : (fun z => cmpR z (two a d) [(0, true)] == 0) (two a b) = true := by
      show (cmpR (two a b) (two a d) [(0, true)] == 0) = true
      rw [hcv, if_pos h0]; rfl
    have hv2 : (fun z => cmpR z (two a d) [(0, true)] == 0) (two a d) = true := by
      show (cmpR (two a d) (two a d) [(0, true)] == 0) = true
      rw [hc.refl (two a d)]; rfl
    have hsub : [two a b, two a d].Sublist ((stab (fun a b => cmpR a b [(0, true)]) l).filter fun z => cmpR z (two a d) [(0, true)] == 0) := by
      have := hxy.filter (fun z => cmpR z (two a d) [(0, true)] == 0)
      have ef : ([two a b, two a d].filter fun z => cmpR z (two a d) [(0, true)] == 0) = [two a b, two a d] := by
        rw [List.filter_eq_self]
        intro z hz
        rcases List.mem_cons.1 hz with rfl | hz
        · exact hv
        · rw [List.mem_singleton.1 hz]
          exact hv2
      rwa [ef] at this
    rw [stab_same hc l (two a d)] at hsub
    exact (List.pairwise_iff_forall_sublist).1 h.rise (hsub.trans List.filter_sublist)
  · refine .inl ?_
    rw [hcv] at h1
    unfold cmpI at h1
    by_cases h2 : a < c
    · simp [h2] at h1
      have e : wrap64 1 = 1 := by unfold wrap64; omega
      omega
    · omega
abbrev twoO (a b : Int) : Obj := .cells #[.int .i64 1, .int .i64 a, .string ⟨#[]⟩, .int .i64 1, .int .i64 b, .string ⟨#[]⟩] 45
theorem two_cont (a b : Int) (W : World) : Cont (W.alloc (twoO a b)) ⟨some ⟨W.heap.size, 0, none⟩, 2, 2⟩ (two a b) := by
  refine .inr ⟨W.heap.size, 0, rfl, rfl, by simp, fun j u hu => ?_⟩
  have hb : (W.alloc (twoO a b)).heap[W.heap.size]? = some (twoO a b) := World.alloc_heap_new W _
  rw [Nat.zero_add]
  refine cell_of_cells hb ?_
  have e : flat (two a b) = [.int .i64 1, .int .i64 a, .string ⟨#[]⟩, .int .i64 1, .int .i64 b, .string ⟨#[]⟩] := rfl
  rw [e] at hu
  simpa using hu
/-- Put of a row of two numbers that has just been made -/
theorem put_two (a b : Int) (S : Nat) (by_ : Order) (hand : Nat) (ins : List (List (List V3))) (now : List (List V3)) (k : Nat) (X : Nat → Prop) (W : World) (h : SR W S by_ hand ins now k false X) (hk : k < 80000) (hh : hand ≤ 19) (hnow : now.length < hand) :
    Calls Try.prog 22 #[.pointer (some ⟨S, 0, none⟩), .slice (some ⟨W.heap.size, 0, none⟩) 2 2] (W.alloc (twoO a b)) fun e W' => e = .returned (.int .i64 0) ∧ ∃ X', Gr X X' W.heap.size W W' ∧ SR W' S by_ hand (putP hand ins now (two a b)).1 (putP hand ins now (two a b)).2 (k + 1) false X' := by
  have hb : Below W.heap.size W (W.alloc (twoO a b)) := (Below.refl _ W).alloc (Nat.le_refl _) _
  have hg := below_gr h.xlt hb
  refine (put_ok S by_ hand ins now k X (W.alloc (twoO a b)) (h.below hb) hk (fun _ => stabOK_small _ _ (by omega)) (some ⟨W.heap.size, 0, none⟩) 2 2 (two a b) (two_cont a b W) (by decide) ?_).mono ?_
  · rintro j ⟨_, o, t, e⟩
    injection e with e
    injection e with e _ _
    have := h.slt
    omega
  · rintro e W' ⟨rfl, X', g, s⟩
    exact ⟨rfl, X', hg.trans g hg.size, s⟩
theorem SR.ne {W : World} {S : Nat} {by_ : Order} {hand : Nat} {ins : List (List (List V3))} {now : List (List V3)} {k : Nat} {done : Bool} {X : Nat → Prop} (h : SR W S by_ hand ins now k done X) : (∀ r ∈ ins, r ≠ []) ∧ 2 ≤ hand ∧ ins.flatten.length + now.length = k := by
  obtain ⟨nowI, runsI, D, so, nv, rv, us, h1, e1, e2, e3, e4, e5, e6, e7⟩ := h
  exact ⟨e3, e6, e4⟩
theorem two_cells {W : World} {q : RV} {a b : Int} (h : Cont W q (two a b)) : ∃ bq oq c, q = ⟨some ⟨bq, oq, none⟩, 2, c⟩ ∧ W.cell? ⟨bq, oq + 1, none⟩ = some (.int .i64 a) ∧ W.cell? ⟨bq, oq + 4, none⟩ = some (.int .i64 b) := by
  rcases h with ⟨_, h⟩ | ⟨bq, oq, h1, h2, _, h4⟩
  · cases h
  · obtain ⟨qa, qn, qc⟩ := q
    have h1 : qa = some ⟨bq, oq, none⟩ := h1
    have h2 : 2 = qn := h2
    subst h1 h2
    exact ⟨bq, oq, qc, rfl, h4 1 _ rfl, h4 4 _ rfl⟩
theorem own_at {P : Nat → Prop} {W : World} {a : Option Addr} {n c : Nat} {rows : List (List V3)} (h : OwnB P W (.slice a n c) rows) {i : Nat} (hi : i < n) :
    ∃ b off q row, a = some ⟨b, off, none⟩ ∧ b < W.heap.size ∧ W.cell? ⟨b, off + i, none⟩ = some (RV.v q) ∧ rows[i]? = some row ∧ Cont W q row ∧ q.n ≤ 1000 := by
  rcases h with ⟨_, _, h, _⟩ | ⟨b, off, c', rs, h, _, h1, h3, h4⟩
  · injection h with _ h _
    omega
  · injection h with ha hn _
    have hl := h4.len
    have hir : i < rs.length := by omega
    obtain ⟨k1, k2, _⟩ := h4.get i _ _ (List.getElem?_eq_getElem hir) (List.getElem?_eq_getElem (by omega))
    refine ⟨b, off, rs[i], rows[i]'(by omega), ha, h1, ?_, List.getElem?_eq_getElem _, k1, k2⟩
    have := h3 i hir
    rw [List.getElem?_eq_getElem hir] at this
    exact this
theorem own_len {P : Nat → Prop} {W : World} {a : Option Addr} {n c : Nat} {rows : List (List V3)} (h : OwnB P W (.slice a n c) rows) : n = rows.length := by
  rcases h with ⟨_, _, h, e⟩ | ⟨b, off, c', rs, h, _, _, _, h4⟩
  · injection h with _ h _
    rw [e, h]; rfl
  · injection h with _ hn _
    rw [hn, h4.len]
set_option maxRecDepth 100000 in
set_option maxHeartbeats 8000000 in
theorem many_ok (many seed hand : Int) (W : World) :
    Calls Try.prog 6 #[.int .i64 many, .int .i64 seed, .int .i64 hand] W fun e W' => e = .returned (.bool true) ∧ Below W.heap.size W W' := by
  have hmx : Try.prog.follows .mixedOrders = true := by kernel_rfl
  have q37 : ∀ (w : World) (S : Nat), (binOp .eql 37 (.pointer (some ⟨S, 0, none⟩)) (.pointer none)).run Try.prog w = .ok (.bool false) w := fun w S => rfl
  obtain ⟨n, hn, hnl⟩ : ∃ n : Nat, (bits .and .i64 many 2047).tmod 2000 = (n : Int) ∧ n < 2000 := by
    rw [mask2047]
    have h1 := Int.emod_nonneg many (show (2048 : Int) ≠ 0 by decide)
    rw [Int.tmod_eq_emod_of_nonneg h1]
    have h2 := Int.emod_nonneg (many % 2048) (show (2000 : Int) ≠ 0 by decide)
    have h3 := Int.emod_lt_of_pos (many % 2048) (show (0 : Int) < 2000 by decide)
    exact ⟨(many % 2048 % 2000).toNat, by omega, by omega⟩
  obtain ⟨hd, hhd, hh2, hh9⟩ : ∃ hd : Nat, wrap64 (2 + bits .and .i64 hand 7) = (hd : Int) ∧ 2 ≤ hd ∧ hd ≤ 9 := by
    rw [mask7]
    have h1 := Int.emod_nonneg hand (show (8 : Int) ≠ 0 by decide)
    have h2 := Int.emod_lt_of_pos hand (show (0 : Int) < 8 by decide)
    refine ⟨(2 + hand % 8).toNat, ?_, by omega, by omega⟩
    unfold wrap64
    omega
  have hb1 : Below W.heap.size W (W.alloc (.cells #[.int .i64 0, .bool true] 41)) := (Below.refl _ W).alloc (Nat.le_refl _) _
  have ho : Ord (W.alloc (.cells #[.int .i64 0, .bool true] 41)) (.slice (some ⟨W.heap.size, 0, none⟩) 1 1) [(0, true)] := .inr ⟨W.heap.size, 0, 1, rfl, by simp, by
    intro j p hp
    cases j with
    | zero => cases hp; exact box2 W (.int .i64 0) (.bool true) 41
    | succ j => simp at hp⟩
  have HNew := Aside0.mk (new_sr _ [(0, true)] hd _ ho (by decide) hh2 (by omega))
  have HB1 := Aside0.mk hb1
  clear ho hb1
  go_enter Try.func6, Try.ntmps6
  go_upto_region 5 with (first | (go_at_call 21; refine HNew.out.mono ?_; rintro e w1 ⟨S, rfl, hS, hsr1, hb2⟩; have HB2 := Aside0.mk (below_step HB1.out hb2 HB1.out.size); (obtain ⟨X1, hsr1', hX1⟩ : ∃ X1, SR w1 S [(0, true)] hd [] [] 0 false X1 ∧ ∀ j, X1 j → W.heap.size ≤ j := ⟨_, hsr1, fun j hj => Nat.le_trans HB1.out.size hj.1⟩); have HR1 := Aside0.mk (And.intro hsr1' hX1); clear hsr1 hsr1' hX1 hS hb2) | fail)
  clear HNew hn hhd
  go_wp2
  go_loopw [10, 11] (fun v10 v11 wr => ∃ (x : Int) (i : Nat) (ins : List (List (List V3))) (now : List (List V3)) (X' : Nat → Prop), i ≤ n ∧ v10 = .int .i64 x ∧ v11 = .int .i64 i ∧ Aside0 (SR wr S [(0, true)] hd ins now i false X' ∧ (∀ j, X' j → W.heap.size ≤ j) ∧ now.length < hd ∧ Rise i (ins.flatten ++ now)) ∧ Aside0 (Below W.heap.size W wr)) (fun _ v11 _ => n - (intOf v11).toNat)
  case atStart => exact ⟨_, 0, [], [], X1, Nat.zero_le _, rfl, rfl, ⟨HR1.out.1, HR1.out.2, (by show 0 < hd; omega), ⟨fun r hr => by simp at hr, List.Pairwise.nil⟩⟩, HB2⟩
  case round =>
    obtain ⟨x, i, ins, now, X', hin, rfl, rfl, HS, HB⟩ := hrel
    by_cases hlt : i < n
    · have hd1 : decide ((i : Int) < (n : Int)) = true := by simpa using hlt
      have hd2 : decide (i < n) = true := by simpa using hlt
      go_wp2_with (first
        | (have _q := HB3; go_at_call 23; refine (num23_ok _ _).mono ?_; rintro e w3 ⟨rfl, hb3⟩; have HB4 := Aside0.mk (below_step HB3.out hb3 HB3.out.size); clear hb3)
        | (go_at_call 23; refine (num23_ok _ _).mono ?_; rintro e w2 ⟨rfl, hb2⟩; have HB3 := Aside0.mk hb2; clear hb2)
        | (go_at_call 22; refine (put_two _ _ S [(0, true)] hd ins now i X' w3 (HS.out.1.below HB4.out) (by omega) (by omega) HS.out.2.2.1).mono ?_; rintro e w4 ⟨rfl, X4, hg4, hs4⟩; (obtain ⟨hq4, hX4⟩ := gr_below hg4 HS.out.2.1 (Nat.le_trans HB.out.size HB4.out.size)); have HS4 := Aside0.mk (And.intro hs4 hX4); have HB5 := Aside0.mk (below_step (below_step HB.out HB4.out HB.out.size) hq4 (Nat.le_refl _)); clear hg4 hs4 hq4 hX4)
        | fail)
      go_roundw
      case rel =>
        have hp := putP_flat (HS.out.1.ne).2.1 (two (Int.tmod (bits .and .i64 (wrap64 (wrap64 (x * 25173) + 13849)) 65535) 97) i) (HS.out.1.ne).1 HS.out.2.2.1
        refine ⟨_, i + 1, _, _, X4, hlt, rfl, by simp, ⟨HS4.out.1, HS4.out.2, hp.2, ?_⟩, HB5⟩
        rw [hp.1]
        exact HS.out.2.2.2.snoc _
      case measure => simp [intOf] <;> omega
    · obtain rfl : i = n := by omega
      have hd1 : decide ((i : Int) < (i : Int)) = false := by simp
      have HRows := Aside0.mk (rows_ok S [(0, true)] hd ins now i false X' wr HS.out.1 (fun _ => stabOK_small _ _ (by have := HS.out.2.2.1; omega)))
      have HPair := Aside0.mk (many_pair HS.out.2.2.2)
      obtain ⟨rows, hrows⟩ : ∃ rows, stab (fun a b => cmpR a b [(0, true)]) (ins.flatten ++ now) = rows := ⟨_, rfl⟩
      have HLen : Aside0 (rows.length = i) := ⟨by rw [← hrows, stab_len, List.length_append]; exact (HS.out.1.ne).2.2⟩
      rw [hrows] at HPair HRows
      clear hrows
      go_upto_region 13 with (first
        | (go_at_call 24; refine HRows.out.mono ?_; rintro e w8 ⟨gf, lb, prs, R8, rfl, hg8, hs8, hit8, hp8, hz8⟩; (obtain ⟨hq8, hX8⟩ := gr_below hg8 HS.out.2.1 HB.out.size); have HB9 := Aside0.mk (below_step HB.out hq8 (Nat.le_refl _)); have HCol := Aside0.mk (callsIn_wide.1 (collect_c 3 (Nat.le_refl _) _ prs R8 w8 hit8 (by have := congrArg List.length hp8; rw [List.length_map] at this; have := HLen.out; omega))); have HP8 := Aside0.mk (And.intro hp8 hz8); clear hg8 hs8 hit8 hp8 hz8 hq8 hX8)
        | (go_at_call 19; refine HCol.out.mono ?_; rintro e w9 ⟨hb9, ⟨_, sv, rfl, _, hown⟩ | ⟨hx, _⟩⟩; rotate_left; exact absurd (errOf_zero _ HP8.out.2) hx)
        | fail)
      rw [HP8.out.1] at hown
      obtain ⟨sa, sn, sc, rfl⟩ := hown.shape
      have hsn := own_len hown
      rw [HLen.out] at hsn
      subst hsn
      have HO := Aside0.mk hown
      have HB10 := Aside0.mk (below_step HB9.out hb9 HB9.out.size)
      clear hown hb9
      go_wp2
      go_loopw [14] (fun v14 wr => ∃ j : Nat, 1 ≤ j ∧ (j ≤ sn ∨ j = 1) ∧ v14 = .int .i64 j ∧ Aside0 (Below w9.heap.size w9 wr)) (fun v14 _ => sn + 1 - (intOf v14).toNat)
      case atStart => exact ⟨1, Nat.le_refl _, .inr rfl, rfl, ⟨Below.refl _ _⟩⟩
      case round =>
        obtain ⟨j, hj1, hj, rfl, HBj⟩ := hrel
        by_cases hlj : j < sn
        · have hd1 : decide ((j : Int) < (sn : Int)) = true := by simpa using hlj
          have hd2 : decide (j < sn) = true := by simpa using hlj
          obtain ⟨j', rfl⟩ : ∃ j', j = j' + 1 := ⟨j - 1, by omega⟩
          obtain ⟨b, off, q0, r0, hae, hbl, hq0, hr0, hc0, _⟩ := own_at HO.out (show j' < sn by omega)
          obtain ⟨b', off', q1, r1, hae', _, hq1, hr1, hc1, _⟩ := own_at HO.out hlj
          subst hae
          injection hae' with hae'
          injection hae' with e1 e2 _
          subst e1 e2
          obtain ⟨a0, a1, d0, d1, ea, ed, hrl⟩ := (List.pairwise_iff_getElem.1 HPair.out) j' (j' + 1) (by have := HLen.out; omega) (by have := HLen.out; omega) (by omega)
          have er0 : r0 = two a0 a1 := by
            rw [List.getElem?_eq_getElem (by have := HLen.out; omega)] at hr0
            injection hr0 with hr0
            rw [← hr0, ea]
          have er1 : r1 = two d0 d1 := by
            rw [List.getElem?_eq_getElem (by have := HLen.out; omega)] at hr1
            injection hr1 with hr1
            rw [← hr1, ed]
          subst er0 er1
          obtain ⟨b0, o0, k0, rfl, x01, x04⟩ := two_cells hc0
          obtain ⟨b1, o1, k1, rfl, x11, x14⟩ := two_cells hc1
          have y0 := (cell_of_block (HBj.out.block _ hbl) _).trans hq0
          have y1 := (cell_of_block (HBj.out.block _ hbl) _).trans hq1
          have y01 := (cell_of_block (HBj.out.block _ (cell_lt x01)) _).trans x01
          have y04 := (cell_of_block (HBj.out.block _ (cell_lt x04)) _).trans x04
          have y11 := (cell_of_block (HBj.out.block _ (cell_lt x11)) _).trans x11
          have y14 := (cell_of_block (HBj.out.block _ (cell_lt x14)) _).trans x14
          dsimp only [RV.v] at y0 y1
          have hw1 : IntKind.i64.wrap (((j' + 1 : Nat) : Int) - 1) = (j' : Int) := by rw [IntKind.wrap_i64]; omega
          have hw2 : IntKind.i64.wrap ((j' : Int) + 1 - 1) = (j' : Int) := by rw [IntKind.wrap_i64]; omega
          have hjl : j' < sn := by omega
          clear hq0 hq1 hr0 hr1 hc0 hc1 ea ed x01 x04 x11 x14 hj hj1
          have hlt0 : decide (a0 < d0) = false := by
            rcases hrl with h | ⟨h, _⟩
            · simp; omega
            · simp; omega
          obtain ⟨z, hz⟩ : ∃ z, (a0 == d0) = z := ⟨_, rfl⟩
          have HZ := Aside0.mk hz
          have HRl := Aside0.mk hrl
          clear hrl
          cases z with
          | true =>
            have h9 : decide (d1 ≤ a1) = false := by
              have h1 : a0 = d0 := by simpa using HZ.out
              rcases HRl.out with h | ⟨_, h⟩
              · omega
              · simp; omega
            go_wp2
            go_quiet (fail)
            go_wp2
            go_quiet (fail)
            go_wp2
            go_roundw
            case rel => exact ⟨j' + 1 + 1, by omega, .inl (by omega), by simp, ⟨below_drewN HBj.out _⟩⟩
            case measure => simp [intOf] <;> omega
          | false =>
            go_wp2
            go_quiet (fail)
            go_wp2
            go_quiet (fail)
            go_wp2
            go_roundw
            case rel => exact ⟨j' + 1 + 1, by omega, .inl (by omega), by simp, ⟨below_drewN HBj.out _⟩⟩
            case measure => simp [intOf] <;> omega
        · have hd1 : decide ((j : Int) < (sn : Int)) = false := by simp; omega
          have hd2 : decide (j < sn) = false := by simp; omega
          go_wp2_with (first | (go_at_call 25; refine (awake25_ok _).mono ?_; rintro e w5 ⟨rfl, hb5⟩) | fail)
          refine bodyPost_ret (results_tmp rfl _ _ _) rfl ?_
          exact ⟨rfl, below_step (below_step HB10.out HBj.out HB10.out.size) hb5 (below_step HB10.out HBj.out HB10.out.size).size⟩
end Go.Proofs.Ytghpjlohoehdnaa.Sep
