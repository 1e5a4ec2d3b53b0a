/- The library's stable sort of however many rows; a Sorter's Runs; sort.Sorted, walked. No condition beyond those that each theorem names. -/
import Derived.Test.YtghpjlohoehdnaaSmC
import Derived.BigRegion
import Derived.Deep.LoopGhost
import Derived.Deep.CutRange
import Derived.Test.YtghpjlohoehdnaaSmW
import Derived.Test.YtghpjlohoehdnaaSmF
import Derived.Test.YtghpjlohoehdnaaSmD
import Derived.Test.YtghpjlohoehdnaaShEm
/-! slices.swapRangeCmpFunc and rotateCmpFunc over rows, walked. No condition beyond those that each theorem names. -/
namespace Go.Proofs.Ytghpjlohoehdnaa.Sep
open Go Go.RowKit Go.Shelf
set_option linter.unusedVariables false
set_option linter.unusedSimpArgs false
theorem get_mid {α : Type} (P : List α) (x : α) (Q : List α) {n : Nat} (hn : P.length = n) : (P ++ x :: Q)[n]? = some x := by
  subst hn
  simp
theorem set_mid {α : Type} (P : List α) (x y : α) (Q : List α) {n : Nat} (hn : P.length = n) : (P ++ x :: Q).set n y = P ++ y :: Q := by
  subst hn
  simp
/-- two elements that stand apart are exchanged -/
theorem set_two {α : Type} (P : List α) (u : α) (M : List α) (v : α) (Q : List α) {i j : Nat} (hi : P.length = i) (hj : P.length + 1 + M.length = j) :
    ((P ++ u :: (M ++ v :: Q)).set i v).set j u = P ++ v :: (M ++ u :: Q) := by
  rw [set_mid P u v _ hi]
  have e : P ++ v :: (M ++ v :: Q) = (P ++ v :: M) ++ v :: Q := by simp
  have e2 : P ++ v :: (M ++ u :: Q) = (P ++ v :: M) ++ u :: Q := by simp
  rw [e, e2]
  exact set_mid _ _ _ _ (by simp; omega)
/-- how far the exchange of U and V has come -/
structure SwI (g : Nat) (X U Y V Z : List It2) (spare : List Value) (W : World) (i : Nat) (w : World) : Prop where
  ex : ∃ U1 U2 V1 V2, U = U1 ++ U2 ∧ V = V1 ++ V2 ∧ U1.length = i ∧ V1.length = i ∧ RowB w g (X ++ V1 ++ U2 ++ Y ++ U1 ++ V2 ++ Z) spare
  near : Near g W w
set_option maxRecDepth 100000 in
set_option maxHeartbeats 8000000 in
theorem swapRange_ok (g cap N a b n : Nat) (X U Y V Z : List It2) (spare : List Value) (f : Value) (W : World) (hN : (X ++ U ++ Y ++ V ++ Z).length = N) (hbig : N ≤ 100000) (ha : X.length = a) (hU : U.length = n) (hV : V.length = n) (hb : a + n + Y.length = b)
    (hR : RowB W g (X ++ U ++ Y ++ V ++ Z) spare) :
    Calls Try.prog 96 #[.slice (some ⟨g, 0, none⟩) N cap, .int .i64 a, .int .i64 b, .int .i64 n, f] W fun e W' => e = .returned (.tuple #[]) ∧ RowB W' g (X ++ V ++ Y ++ U ++ Z) spare ∧ Near g W W' := by
  have hmx : Try.prog.follows .mixedOrders = true := by kernel_rfl
  have hlen : X.length + U.length + Y.length + V.length + Z.length = N := by rw [← hN]; simp; omega
  have HR := Aside0.mk (show SwI g X U Y V Z spare W 0 W from ⟨⟨[], U, [], V, rfl, rfl, rfl, rfl, by simpa using hR⟩, Near.refl g W⟩)
  have HL := Aside0.mk (And.intro ha (And.intro hU (And.intro hV (And.intro hb hlen))))
  have hbN : b + n ≤ N := by omega
  have hab : a + n ≤ b := by omega
  clear hR hN ha hU hV hb hlen
  go_enter Try.func96, Try.ntmps96
  go_wp2
  go_loopw [10] (fun v10 wr => ∃ i : Nat, i ≤ n ∧ v10 = .int .i64 (i : Int) ∧ Aside0 (SwI g X U Y V Z spare W i wr)) (fun v10 _ => n - (intOf v10).toNat)
  case atStart => exact ⟨0, Nat.zero_le _, rfl, HR⟩
  case round =>
    obtain ⟨i, hin, rfl, HI⟩ := hrel
    by_cases hlt : i < n
    · have hd1 : decide ((i : Int) < (n : Int)) = true := decide_eq_true (by omega)
      have hd2 : decide (i < n) = true := decide_eq_true hlt
      obtain ⟨⟨U1, U2, V1, V2, eU, eV, lU, lV, hRow⟩, hNear⟩ := HI.out
      obtain ⟨u, U3, rfl⟩ : ∃ u U3, U2 = u :: U3 := by
        cases U2 with
        | nil => have := HL.out.2.1; rw [eU] at this; simp at this; omega
        | cons u U3 => exact ⟨u, U3, rfl⟩
      obtain ⟨v, V3, rfl⟩ : ∃ v V3, V2 = v :: V3 := by
        cases V2 with
        | nil => have := HL.out.2.2.1; rw [eV] at this; simp at this; omega
        | cons v V3 => exact ⟨v, V3, rfl⟩
      have e1 : X ++ V1 ++ (u :: U3) ++ Y ++ U1 ++ (v :: V3) ++ Z = (X ++ V1) ++ u :: ((U3 ++ Y ++ U1) ++ v :: (V3 ++ Z)) := by simp
      rw [e1] at hRow
      have li : (X ++ V1).length = a + i := by have := HL.out.1; simp; omega
      have lj : (X ++ V1).length + 1 + (U3 ++ Y ++ U1).length = b + i := by
        have h2 := HL.out.2.1
        rw [eU] at h2
        have h1 := HL.out
        simp at h2 ⊢
        omega
      have hgi := get_mid (X ++ V1) u ((U3 ++ Y ++ U1) ++ v :: (V3 ++ Z)) li
      have hgj : ((X ++ V1) ++ u :: ((U3 ++ Y ++ U1) ++ v :: (V3 ++ Z)))[b + i]? = some v := by
        rw [show (X ++ V1) ++ u :: ((U3 ++ Y ++ U1) ++ v :: (V3 ++ Z)) = ((X ++ V1) ++ u :: (U3 ++ Y ++ U1)) ++ v :: (V3 ++ Z) by simp]
        exact get_mid _ v _ (by simp at lj ⊢; omega)
      have ci := hRow.cell hgi
      have cj := hRow.cell hgj
      have fi := hRow.frozen (a + i)
      have fj := hRow.frozen (b + i)
      have hlt1 := (List.getElem?_eq_some_iff.1 hgi).1
      have hlt2 := (List.getElem?_eq_some_iff.1 hgj).1
      have R1 := hRow.set v hlt1
      have hset : (((X ++ V1) ++ u :: ((U3 ++ Y ++ U1) ++ v :: (V3 ++ Z))).set (a + i) v)[b + i]? = some v := by rw [List.getElem?_set_ne (by omega)]; exact hgj
      have ks := R1.cell hset
      have kf := R1.frozen (b + i)
      have R2 := R1.set u (j := b + i) (by simpa using hlt2)
      rw [set_two _ _ _ _ _ li lj] at R2
      have HF := Aside0.mk (show SwI g X U Y V Z spare W (i + 1) ((wr.setCell ⟨g, a + i, none⟩ (RV.v v.1)).setCell ⟨g, b + i, none⟩ (RV.v u.1)) from
        ⟨⟨U1 ++ [u], U3, V1 ++ [v], V3, by rw [eU]; simp, by rw [eV]; simp, by simp; omega, by simp; omega, by
          rw [show X ++ (V1 ++ [v]) ++ U3 ++ Y ++ (U1 ++ [u]) ++ V3 ++ Z = (X ++ V1) ++ v :: ((U3 ++ Y ++ U1) ++ u :: (V3 ++ Z)) by simp]; exact R2⟩,
          (hNear.trans (near_set wr (a + i) (RV.v v.1))).trans (near_set _ (b + i) (RV.v u.1))⟩)
      have hi1 : (0 : Int) ≤ (a : Int) + (i : Int) := by omega
      have hj1 : (0 : Int) ≤ (b : Int) + (i : Int) := by omega
      have hi2 : (a : Int) + (i : Int) < (N : Int) := by omega
      have hj2 : (b : Int) + (i : Int) < (N : Int) := by omega
      have haN : a + i < N := by omega
      have hbN2 : b + i < N := by omega
      clear hRow hNear eU eV lU lV e1 li lj hgi hgj hlt1 hlt2 R1 R2 hset HI HR
      dsimp only [RV.v] at ci cj ks kf
      go_upto_region 3 with fail
      go_region
      all_goals
        go_wp2
        go_roundw
        case rel => exact ⟨i + 1, by omega, by simp, ⟨⟨HF.out.ex, near_drewN HF.out.near 1⟩⟩⟩
        case measure => simp [intOf] <;> omega
    · have hd1 : decide ((i : Int) < (n : Int)) = false := decide_eq_false (by omega)
      have hd2 : decide (i < n) = false := decide_eq_false hlt
      obtain rfl : i = n := by omega
      go_wp2
      go_end0
      obtain ⟨⟨U1, U2, V1, V2, eU, eV, lU, lV, hRow⟩, hNear⟩ := HI.out
      obtain ⟨ha, hU, hV, hb, hl⟩ := HL.out
      obtain rfl : U2 = [] := by rw [eU] at hU; simp at hU; exact List.eq_nil_of_length_eq_zero (by omega)
      obtain rfl : V2 = [] := by rw [eV] at hV; simp at hV; exact List.eq_nil_of_length_eq_zero (by omega)
      refine ⟨rfl, ?_, hNear⟩
      rw [eU, eV]
      simpa using hRow
theorem swapRange_int (g cap N a b n : Nat) (va vb vn : Int) (X U Y V Z : List It2) (spare : List Value) (f : Value) (W : World) (hN : (X ++ U ++ Y ++ V ++ Z).length = N) (hbig : N ≤ 100000) (ha : X.length = a) (hU : U.length = n) (hV : V.length = n) (hb : a + n + Y.length = b)
    (hR : RowB W g (X ++ U ++ Y ++ V ++ Z) spare) (e1 : va = a) (e2 : vb = b) (e3 : vn = n) :
    Calls Try.prog 96 #[.slice (some ⟨g, 0, none⟩) N cap, .int .i64 va, .int .i64 vb, .int .i64 vn, f] W fun e W' => e = .returned (.tuple #[]) ∧ RowB W' g (X ++ V ++ Y ++ U ++ Z) spare ∧ Near g W W' := by
  subst e1 e2 e3
  exact swapRange_ok g cap N a b n X U Y V Z spare f W hN hbig ha hU hV hb hR
/-- how far a rotation has come -/
structure RotI (g : Nat) (T : List It2) (spare : List Value) (W : World) (m i j : Nat) (w : World) : Prop where
  ex : ∃ L A B R, T = L ++ B ++ A ++ R ∧ L.length + i = m ∧ A.length = i ∧ B.length = j ∧ RowB w g (L ++ A ++ B ++ R) spare
  near : Near g W w
set_option maxRecDepth 100000 in
set_option maxHeartbeats 8000000 in
theorem rotate_ok (g cap N a m b : Nat) (P A B Q : List It2) (spare : List Value) (f : Value) (W : World) (hN : (P ++ A ++ B ++ Q).length = N) (hbig : N ≤ 100000) (ha : P.length = a) (hm : a + A.length = m) (hb : m + B.length = b) (hA : A ≠ []) (hB : B ≠ [])
    (hR : RowB W g (P ++ A ++ B ++ Q) spare) :
    Calls Try.prog 92 #[.slice (some ⟨g, 0, none⟩) N cap, .int .i64 a, .int .i64 m, .int .i64 b, f] W fun e W' => e = .returned (.tuple #[]) ∧ RowB W' g (P ++ B ++ A ++ Q) spare ∧ Near g W W' := by
  have hmx : Try.prog.follows .mixedOrders = true := by kernel_rfl
  have hA0 := List.length_pos_iff.2 hA
  have hB0 := List.length_pos_iff.2 hB
  have hTl : (P ++ B ++ A ++ Q).length = N := by rw [← hN]; simp; omega
  have hPN : m + B.length ≤ N := by rw [← hN]; simp; omega
  have HR := Aside0.mk (show RotI g (P ++ B ++ A ++ Q) spare W m A.length B.length W from ⟨⟨P, A, B, Q, rfl, by omega, rfl, rfl, hR⟩, Near.refl g W⟩)
  have HT := Aside0.mk hTl
  obtain ⟨T, hT⟩ : ∃ T, P ++ B ++ A ++ Q = T := ⟨_, rfl⟩
  rw [hT] at HR HT ⊢
  obtain ⟨nb, hnb⟩ : ∃ nb, B.length = nb := ⟨_, rfl⟩
  obtain ⟨na, hna⟩ : ∃ na, A.length = na := ⟨_, rfl⟩
  rw [hna, hnb] at HR
  rw [hnb] at hb hB0 hPN
  rw [hna] at hm hA0
  have h1 : IntKind.i64.wrap ((m : Int) - (a : Int)) = (na : Int) := by rw [IntKind.wrap_i64]; omega
  have h2 : IntKind.i64.wrap ((b : Int) - (m : Int)) = (nb : Int) := by rw [IntKind.wrap_i64]; omega
  have h3 : (m : Int) - (a : Int) = (na : Int) := by omega
  have h4 : (b : Int) - (m : Int) = (nb : Int) := by omega
  clear hR hN hTl hT hA hB hna hnb ha
  go_enter Try.func92, Try.ntmps92
  go_wp2
  clear h1 h2 h3 h4
  go_loopw [10, 11] (fun v10 v11 wr => ∃ i j : Nat, 0 < i ∧ 0 < j ∧ i ≤ m ∧ m + j ≤ N ∧ v10 = .int .i64 (i : Int) ∧ v11 = .int .i64 (j : Int) ∧ Aside0 (RotI g T spare W m i j wr)) (fun v10 v11 _ => (intOf v10).toNat + (intOf v11).toNat)
  case atStart => exact ⟨na, nb, hA0, hB0, by omega, hPN, rfl, rfl, HR⟩
  case round =>
    obtain ⟨i, j, hi0, hj0, him, hjN, rfl, rfl, HI⟩ := hrel
    obtain ⟨⟨L, A', B', R, eT, lL, lA, lB, hRow⟩, hNear⟩ := HI.out
    have HE := Aside0.mk (And.intro eT (And.intro lL (And.intro lA (And.intro lB (And.intro hRow hNear)))))
    have hLl : L.length + i + j + R.length = N := by have := HT.out; rw [eT] at this; simp at this; omega
    have HLl := Aside0.mk hLl
    clear eT lL lA lB hRow hNear HI hLl HR
    by_cases hij : i = j
    · subst hij
      have HC := Aside0.mk (swapRange_int g cap N (m - i) m i ((m : Int) - (i : Int)) m i L A' [] B' R spare f wr (by have := HE.out; have := HLl.out; simp; omega) hbig (by have := HE.out; omega) HE.out.2.2.1 HE.out.2.2.2.1 (by simp; omega) (by rw [List.append_nil]; exact HE.out.2.2.2.2.1) (by omega) rfl rfl)
      go_wp2_with (go_at_call 96; refine HC.out.mono ?_; rintro e w3 ⟨rfl, hb, hn3⟩; have HB3 := Aside0.mk hb; have HN3 := Aside0.mk hn3; clear hb hn3)
      go_end0
      refine ⟨rfl, ?_, HE.out.2.2.2.2.2.trans HN3.out⟩
      have := HB3.out
      rw [List.append_nil] at this
      rw [HE.out.1]
      exact this
    · have hne : ((i : Int) != (j : Int)) = true := by simp; omega
      have hne2 : (i != j) = true := by simpa using hij
      have hne3 : ((i : Int) == (j : Int)) = false := by simp; omega
      by_cases hlt : j < i
      · have hd : decide ((j : Int) < (i : Int)) = true := decide_eq_true (by omega)
        have hd2 : decide (j < i) = true := decide_eq_true hlt
        have HC := Aside0.mk (swapRange_int g cap N (m - i) m j ((m : Int) - (i : Int)) m j L (A'.take j) (A'.drop j) B' R spare f wr (by have := HE.out; have := HLl.out; simp; omega) hbig (by have := HE.out; omega) (by have := HE.out; simp; omega) HE.out.2.2.2.1 (by have := HE.out; simp; omega)
          (by rw [List.append_assoc L, List.take_append_drop]; exact HE.out.2.2.2.2.1) (by omega) rfl rfl)
        clear hij
        go_wp2_with (go_at_call 96; refine HC.out.mono ?_; rintro e w3 ⟨rfl, hb, hn3⟩; have HB3 := Aside0.mk hb; have HN3 := Aside0.mk hn3; clear hb hn3)
        go_roundw
        case rel => exact ⟨i - j, j, by omega, hj0, by omega, hjN, by congr 1; omega, rfl, ⟨⟨L ++ B', A'.drop j, A'.take j, R, by rw [HE.out.1]; simp only [List.append_assoc]; rw [← List.append_assoc (A'.take j), List.take_append_drop], by have := HE.out; simp; omega, by have := HE.out; simp; omega, by have := HE.out; simp; omega, HB3.out⟩, HE.out.2.2.2.2.2.trans HN3.out⟩⟩
        case measure => simp [intOf]; omega
      · have hd : decide ((j : Int) < (i : Int)) = false := decide_eq_false (by omega)
        have hd2 : decide (j < i) = false := decide_eq_false hlt
        have HC := Aside0.mk (swapRange_int g cap N (m - i) (m + j - i) i ((m : Int) - (i : Int)) ((m : Int) + (j : Int) - (i : Int)) i L A' (B'.take (j - i)) (B'.drop (j - i)) R spare f wr (by have := HE.out; have := HLl.out; simp; omega) hbig (by have := HE.out; omega) HE.out.2.2.1 (by have := HE.out; simp; omega) (by have := HE.out; simp; omega)
          (by rw [List.append_assoc (L ++ A'), List.take_append_drop]; exact HE.out.2.2.2.2.1) (by omega) (by omega) rfl)
        have hij2 : i < j := by omega
        clear hij
        go_wp2_with (go_at_call 96; refine HC.out.mono ?_; rintro e w3 ⟨rfl, hb, hn3⟩; have HB3 := Aside0.mk hb; have HN3 := Aside0.mk hn3; clear hb hn3)
        go_roundw
        case rel => exact ⟨i, j - i, hi0, by omega, him, by omega, rfl, by congr 1; omega, ⟨⟨L, B'.drop (j - i), B'.take (j - i), A' ++ R, by rw [HE.out.1]; simp only [List.append_assoc]; rw [← List.append_assoc (B'.take (j - i)), List.take_append_drop], by have := HE.out; omega, by have := HE.out; simp; omega, by have := HE.out; simp; omega, by rw [← List.append_assoc]; exact HB3.out⟩, HE.out.2.2.2.2.2.trans HN3.out⟩⟩
        case measure => simp [intOf]; omega
end Go.Proofs.Ytghpjlohoehdnaa.Sep

/-! Two rows of things in order, merged: what the symmetric merge leans on. No condition beyond those that each theorem names. -/
namespace Go.Proofs.Ytghpjlohoehdnaa.Sep
open Go Go.RowKit Go.Shelf
set_option linter.unusedVariables false
set_option linter.unusedSimpArgs false
variable {α : Type} {f : α → α → Int}
/-- THE stable order of a list -/
def stb (f : α → α → Int) (l : List α) : List α := (insAll f l).reverse
theorem stb_srt (h : Cmp3 f) (l : List α) : Srt f (stb f l) := List.pairwise_reverse.2 (insAll_srt h l)
theorem stb_same (h : Cmp3 f) (l : List α) : SameAt f (stb f l) l := insAll_same h l
theorem stb_uniq (h : Cmp3 f) {l m : List α} (h1 : Srt f m) (h2 : SameAt f m l) : m = stb f l := srt_unique h h1 (stb_srt h l) (h2.trans (stb_same h l).symm)
theorem stb_self (h : Cmp3 f) {l : List α} (hs : Srt f l) : stb f l = l := (stb_uniq h hs fun _ => rfl).symm
theorem stb_mem (h : Cmp3 f) {l : List α} {x : α} (hx : x ∈ stb f l) : x ∈ l := (stb_same h l).mem h hx
theorem stb_mem' (h : Cmp3 f) {l : List α} {x : α} (hx : x ∈ l) : x ∈ stb f l := (stb_same h l).symm.mem h hx
theorem filter_nil_of {p : α → Bool} {l : List α} (h : ∀ x ∈ l, p x = false) : l.filter p = [] := List.filter_eq_nil_iff.2 fun x hx => by rw [h x hx]; decide
/-- things of which all of one list stand before all of another may change places -/
theorem swap_same (h : Cmp3 f) {B A : List α} (hlt : ∀ x ∈ B, ∀ y ∈ A, f x y < 0) (v : α) : B.filter (fun x => f x v == 0) ++ A.filter (fun x => f x v == 0) = A.filter (fun x => f x v == 0) ++ B.filter (fun x => f x v == 0) := by
  by_cases hA : ∃ y ∈ A, f y v = 0
  · obtain ⟨y, hy, hyv⟩ := hA
    have : B.filter (fun x => f x v == 0) = [] := filter_nil_of fun x hx => by
      simp only [beq_eq_false_iff_ne, ne_eq]
      intro hxv
      have h1 := hlt x hx y hy
      have h2 := h.trans y v x (by omega) (by have := h.anti x v; omega)
      have h3 := h.anti x y
      omega
    rw [this, List.nil_append, List.append_nil]
  · have : A.filter (fun x => f x v == 0) = [] := filter_nil_of fun y hy => by
      simp only [beq_eq_false_iff_ne, ne_eq]
      intro hyv
      exact hA ⟨y, hy, hyv⟩
    rw [this, List.nil_append, List.append_nil]
theorem srt_app {L R : List α} : Srt f (L ++ R) ↔ Srt f L ∧ Srt f R ∧ ∀ x ∈ L, ∀ y ∈ R, f x y ≤ 0 := List.pairwise_append
/-- what a cut of both makes of the merge -/
theorem stb_cut (h : Cmp3 f) {A1 A2 B1 B2 : List α} (hA : Srt f (A1 ++ A2)) (hB : Srt f (B1 ++ B2)) (h1 : ∀ x ∈ B1, ∀ y ∈ A2, f x y < 0) (h2 : ∀ x ∈ A1, ∀ y ∈ B2, f x y ≤ 0) :
    stb f ((A1 ++ A2) ++ (B1 ++ B2)) = stb f (A1 ++ B1) ++ stb f (A2 ++ B2) := by
  obtain ⟨a1, a2, a3⟩ := srt_app.1 hA
  obtain ⟨b1, b2, b3⟩ := srt_app.1 hB
  refine (stb_uniq h (srt_app.2 ⟨stb_srt h _, stb_srt h _, fun x hx y hy => ?_⟩) fun v => ?_).symm
  · have hx2 := stb_mem h hx
    have hy2 := stb_mem h hy
    rcases List.mem_append.1 hx2 with hx3 | hx3 <;> rcases List.mem_append.1 hy2 with hy3 | hy3
    · exact a3 x hx3 y hy3
    · exact h2 x hx3 y hy3
    · have := h1 x hx3 y hy3; omega
    · exact b3 x hx3 y hy3
  · rw [List.filter_append, stb_same h (A1 ++ B1) v, stb_same h (A2 ++ B2) v]
    simp only [List.filter_append, List.append_assoc]
    congr 1
    rw [← List.append_assoc, swap_same h h1 v, List.append_assoc]
/-- from the two at the cut to all -/
theorem lt_all (h : Cmp3 f) {B A : List α} (hB : Srt f B) (hA : Srt f A) (hh : ∀ x y, B.getLast? = some x → A.head? = some y → f x y < 0) : ∀ x ∈ B, ∀ y ∈ A, f x y < 0 := by
  intro x hx y hy
  obtain ⟨l, hl⟩ : ∃ l, B.getLast? = some l := by
    cases hb : B.getLast? with
    | none => rw [List.getLast?_eq_none_iff] at hb; rw [hb] at hx; cases hx
    | some l => exact ⟨l, rfl⟩
  obtain ⟨a, ha⟩ : ∃ a, A.head? = some a := by
    cases A with
    | nil => cases hy
    | cons a t => exact ⟨a, rfl⟩
  have h0 := hh l a hl ha
  have h1 : f x l ≤ 0 := by
    obtain ⟨init, rfl⟩ := List.getLast?_eq_some_iff.1 hl
    rcases List.mem_append.1 hx with h | h'
    · exact (srt_app.1 hB).2.2 x h l (List.mem_singleton.2 rfl)
    · rw [List.mem_singleton.1 h', h.refl]; omega
  have h2 : f a y ≤ 0 := by
    cases A with
    | nil => cases hy
    | cons b t =>
      cases ha
      exact hA.head h y hy
  refine Int.not_le.1 fun h3 => ?_
  have h4 := h.anti x y
  have h5 := h.trans y x l (by omega) h1
  have h6 := h.trans a y l h2 h5
  have h7 := h.anti a l
  omega
theorem le_all (h : Cmp3 f) {B A : List α} (hB : Srt f B) (hA : Srt f A) (hh : ∀ x y, B.getLast? = some x → A.head? = some y → f x y ≤ 0) : ∀ x ∈ B, ∀ y ∈ A, f x y ≤ 0 := by
  intro x hx y hy
  obtain ⟨l, hl⟩ : ∃ l, B.getLast? = some l := by
    cases hb : B.getLast? with
    | none => rw [List.getLast?_eq_none_iff] at hb; rw [hb] at hx; cases hx
    | some l => exact ⟨l, rfl⟩
  obtain ⟨a, ha⟩ : ∃ a, A.head? = some a := by
    cases A with
    | nil => cases hy
    | cons a t => exact ⟨a, rfl⟩
  have h0 := hh l a hl ha
  have h1 : f x l ≤ 0 := by
    obtain ⟨init, rfl⟩ := List.getLast?_eq_some_iff.1 hl
    rcases List.mem_append.1 hx with h | h'
    · exact (srt_app.1 hB).2.2 x h l (List.mem_singleton.2 rfl)
    · rw [List.mem_singleton.1 h', h.refl]; omega
  have h2 : f a y ≤ 0 := by
    cases A with
    | nil => cases hy
    | cons b t =>
      cases ha
      exact hA.head h y hy
  exact h.trans x a y (h.trans x l a h1 h0) h2
end Go.Proofs.Ytghpjlohoehdnaa.Sep

/-! slices.symMergeCmpFunc where one of both rows is of one, walked. No condition beyond those that each theorem names. -/
namespace Go.Proofs.Ytghpjlohoehdnaa.Sep
open Go Go.RowKit Go.Shelf
set_option linter.unusedVariables false
set_option linter.unusedSimpArgs false
/-- what a merge leaves -/
def SymPost (g : Nat) (P M Q : List It2) (spare : List Value) (W : World) (e : Ending) (W' : World) : Prop := e = .returned (.tuple #[]) ∧ RowB W' g (P ++ M ++ Q) spare ∧ Near g W W'
/-- the search among those behind the one -/
structure SrL (c : List V3 → List V3 → Int) (its : List It2) (x : It2) (m b lo hi : Nat) : Prop where
  low : m < lo → ∀ y, its[lo - 1]? = some y → c y.2 x.2 < 0
  high : hi < b → ∀ y, its[hi]? = some y → ¬ c y.2 x.2 < 0
theorem sym_left_law {c : List V3 → List V3 → Int} (hc : Cmp3 (on2 c)) {its P B Q : List It2} {x : It2} {a m b lo n : Nat} (hits : P ++ [x] ++ B ++ Q = its) (ha : P.length = a) (hm : a + 1 = m) (hb : m + B.length = b) (hsB : Srt (on2 c) B) (hI : SrL c its x m b lo lo) (hn : lo = m + n) (hlb : lo ≤ b) :
    stb (on2 c) ([x] ++ B) = B.take n ++ [x] ++ B.drop n := by
  have hget : ∀ j, j < B.length → its[m + j]? = B[j]? := fun j hj => by
    rw [← hits, show P ++ [x] ++ B ++ Q = (P ++ [x]) ++ (B ++ Q) by simp, List.getElem?_append_right (by simp; omega), show m + j - (P ++ [x]).length = j by simp; omega, List.getElem?_append_left hj]
  have hsp : B.take n ++ B.drop n = B := List.take_append_drop n B
  have hs2 : Srt (on2 c) (B.take n ++ B.drop n) := by rw [hsp]; exact hsB
  obtain ⟨s1, s2, s3⟩ := srt_app.1 hs2
  have hx : ∀ (z : It2), Srt (on2 c) [z] := fun z => List.pairwise_singleton _ _
  have h1 : ∀ y ∈ B.take n, ∀ z ∈ [x], on2 c y z < 0 := lt_all hc s1 (hx x) (by
    intro y z hy hz
    cases hz
    have hn0 : n ≠ 0 := by rintro rfl; simp at hy
    rw [List.getLast?_eq_getElem?, List.length_take, Nat.min_eq_left (by omega), List.getElem?_take_of_lt (by omega)] at hy
    exact hI.low (by omega) y (by rw [hn, show m + n - 1 = m + (n - 1) by omega, hget _ (by omega)]; exact hy))
  have h2 : ∀ z ∈ [x], ∀ y ∈ B.drop n, on2 c z y ≤ 0 := le_all hc (hx x) s2 (by
    intro z y hz hy
    cases hz
    rw [List.head?_drop] at hy
    have hnl := (List.getElem?_eq_some_iff.1 hy).1
    have h3 := hI.high (by omega) y (by rw [hn, hget _ hnl]; exact hy)
    have h4 : c x.2 y.2 = - c y.2 x.2 := hc.anti y x
    show c x.2 y.2 ≤ 0
    omega)
  have := stb_cut hc (A1 := []) (A2 := [x]) (B1 := B.take n) (B2 := B.drop n) (hx x) hs2 h1 (fun z hz => by cases hz)
  rw [List.nil_append, List.nil_append, hsp, stb_self hc s1] at this
  rw [this, stb_self hc (srt_app.2 ⟨hx x, s2, h2⟩), List.append_assoc]
/-- how far the one has been moved up -/
structure MvL (g : Nat) (P B1 : List It2) (x : It2) (R : List It2) (spare : List Value) (W : World) (k : Nat) (w : World) : Prop where
  ex : ∃ C D, B1 = C ++ D ∧ P.length + C.length = k ∧ RowB w g (P ++ C ++ x :: (D ++ R)) spare
  near : Near g W w
set_option maxRecDepth 100000 in
set_option maxHeartbeats 8000000 in
theorem sym_left (c : List V3 → List V3 → Int) (hc : Cmp3 c) (g cap N S a m b : Nat) (P B Q : List It2) (x : It2) (spare : List Value) (W : World) (hN : (P ++ [x] ++ B ++ Q).length = N) (hbig : N ≤ 100000) (ha : P.length = a) (hm : a + 1 = m) (hb : m + B.length = b) (hB : B ≠ [])
    (hsB : Srt (on2 c) B) (hR : RowB W g (P ++ [x] ++ B ++ Q) spare) (hC : CmpFn W g (P ++ [x] ++ B ++ Q) c (.pointer (some ⟨S, 0, none⟩))) :
    Calls Try.prog 86 #[.slice (some ⟨g, 0, none⟩) N cap, .int .i64 a, .int .i64 m, .int .i64 b, .func (.func 51) #[.pointer (some ⟨S, 0, none⟩)] #[]] W (SymPost g P (stb (on2 c) ([x] ++ B)) Q spare W) := by
  have hmx : Try.prog.follows .mixedOrders = true := by kernel_rfl
  have hc' : Cmp3 (on2 c) := hc.pull Prod.snd
  have hB0 := List.length_pos_iff.2 hB
  obtain ⟨its, hits⟩ : ∃ its, P ++ [x] ++ B ++ Q = its := ⟨_, rfl⟩
  have hx : its[a]? = some x := by rw [← hits, show P ++ [x] ++ B ++ Q = P ++ x :: (B ++ Q) by simp]; exact get_mid P x _ ha
  have hbN : b ≤ N := by rw [← hN]; simp; omega
  have HP := Aside0.mk (And.intro hits (And.intro ha (And.intro hb (And.intro hsB (And.intro hc hB)))))
  rw [hits] at hR hC hN
  have HR := Aside0.mk (And.intro hR (And.intro hC (And.intro hN hx)))
  have hm1 : (m : Int) - (a : Int) = 1 := by omega
  have hw1 : IntKind.i64.wrap ((m : Int) - (a : Int)) = 1 := by rw [IntKind.wrap_i64]; omega
  have haN : a < N := by omega
  have hmb : m ≤ b := by omega
  have ham : a < m := by omega
  clear hits ha hb hsB hc hB hR hC hN hx
  go_enter Try.func86, Try.ntmps86
  go_wp2
  clear hm1 hw1
  go_loopg [10, 11] N (fun kx s10 s11 wr => ∃ lo hi : Nat, s10 = .int .i64 lo ∧ s11 = .int .i64 hi ∧ m ≤ lo ∧ lo ≤ hi ∧ hi ≤ b ∧ hi - lo ≤ kx ∧ Aside0 (Below W.heap.size W wr) ∧ Aside0 (SrL c its x m b lo hi))
  case atStart => exact ⟨m, b, rfl, rfl, Nat.le_refl _, hmb, Nat.le_refl _, by omega, ⟨Below.refl _ _⟩, ⟨⟨fun h => absurd h (Nat.lt_irrefl _), fun h => absurd h (Nat.lt_irrefl _)⟩⟩⟩
  case round =>
    obtain ⟨lo, hi, rfl, rfl, hml, hlh, hhb, hg, HB, HI⟩ := hrel
    have HRw := Aside0.mk (HR.out.1.below HB.out)
    by_cases hlt : lo < hi
    · have hd1 : decide ((lo : Int) < (hi : Int)) = true := decide_eq_true (by omega)
      have hd2 : decide (lo < hi) = true := decide_eq_true hlt
      obtain ⟨h, hh⟩ : ∃ h, (lo + hi) / 2 = h := ⟨_, rfl⟩
      have hhl : lo ≤ h := by omega
      have hhh : h < hi := by omega
      have hhN : h < N := by omega
      obtain ⟨y, hy⟩ : ∃ y, its[h]? = some y := ⟨its[h]'(by have := HR.out.2.2.1; omega), List.getElem?_eq_getElem _⟩
      have cy := HRw.out.cell hy
      have cx := HRw.out.cell HR.out.2.2.2
      have HX := Aside0.mk (And.intro hy (And.intro (List.mem_of_getElem? hy) (List.mem_of_getElem? HR.out.2.2.2)))
      have HH := Aside0.mk hh
      have hsh : ((lo : Int) + (hi : Int)) / 2 = (h : Int) := by omega
      clear hy hh
      dsimp only [RV.v] at cy cx
      go_upto_region 5 with fail
      go_region_held3 (fun w' => w'.cell? ⟨g, h, none⟩ = some (.slice y.1.a y.1.n y.1.c) ∧ w'.cell? ⟨g, a, none⟩ = some (.slice x.1.a x.1.n x.1.c) ∧ Aside0 (Below wr.heap.size wr w'))
        (first | assumption | exact heldG HRw.out HX.out.1 HR.out.2.2.2 (Still.drew wr).below | exact heldG HRw.out HX.out.1 HR.out.2.2.2 HB3.out | fail)
        (first | (go_at_call 51; refine (HR.out.2.1 _ (below_near (below_step HB.out (Still.drew wr).below HB.out.size)) y HX.out.2.1 x HX.out.2.2).mono ?_; rintro e w3 ⟨rfl, hb3⟩; have HB3 := Aside0.mk (below_step (Still.drew wr).below hb3 (Nat.le_refl _)); clear hb3))
      have HB4 := Aside0.mk (below_step HB.out HB3.out HB.out.size)
      obtain ⟨cv, hcv⟩ : ∃ cv, c y.2 x.2 = cv := ⟨_, rfl⟩
      rw [hcv]
      obtain ⟨q, hq⟩ : ∃ q, decide (cv < 0) = q := ⟨_, rfl⟩
      rw [hq]
      have HQ := Aside0.mk (And.intro hq hcv)
      clear hcv hq
      cases q with
      | true =>
        have hw2 : IntKind.i64.wrap ((h : Int) + 1) = (h : Int) + 1 := by rw [IntKind.wrap_i64]; omega
        have hI2 := Aside0.mk (show SrL c its x m b (h + 1) hi from ⟨fun _ z hz => by
          rw [show h + 1 - 1 = h from rfl, HX.out.1] at hz
          cases hz
          rw [HQ.out.2]
          exact of_decide_eq_true HQ.out.1, HI.out.high⟩)
        go_wp2
        go_roundg (hi - (h + 1))
        case measure => omega
        case rel => exact ⟨h + 1, hi, rfl, rfl, by omega, by omega, hhb, Nat.le_refl _, HB4, hI2⟩
      | false =>
        have hI2 := Aside0.mk (show SrL c its x m b lo h from ⟨HI.out.low, fun _ z hz => by
          rw [HX.out.1] at hz
          cases hz
          rw [HQ.out.2]
          exact of_decide_eq_false HQ.out.1⟩)
        go_wp2
        go_roundg (h - lo)
        case measure => omega
        case rel => exact ⟨lo, h, rfl, rfl, hml, by omega, by omega, Nat.le_refl _, HB4, hI2⟩
    · obtain rfl : lo = hi := by omega
      have hd1 : decide ((lo : Int) < (lo : Int)) = false := decide_eq_false (by omega)
      obtain ⟨n, hn⟩ : ∃ n, lo = m + n := ⟨lo - m, by omega⟩
      have hFin := Aside0.mk (sym_left_law hc' HP.out.1 HP.out.2.1 hm HP.out.2.2.1 HP.out.2.2.2.1 HI.out hn hhb)
      have HN0 := Aside0.mk (show MvL g P (B.take n) x (B.drop n ++ Q) spare W a wr from ⟨⟨[], B.take n, rfl, by simpa using HP.out.2.1, by
        have h1 := HRw.out
        rw [← HP.out.1] at h1
        rw [← List.append_assoc, List.take_append_drop]
        simpa using h1⟩, below_near HB.out⟩)
      have HNn := Aside0.mk (And.intro hn (show n ≤ B.length from by have := HP.out.2.2.1; omega))
      have hw4 : IntKind.i64.wrap ((lo : Int) - 1) = (lo : Int) - 1 := by rw [IntKind.wrap_i64]; omega
      clear hn hlt hlh hg HI
      go_wp2
      clear hw4
      go_loopw [13] (fun v13 w2 => ∃ k : Nat, a ≤ k ∧ k + 1 ≤ lo ∧ v13 = .int .i64 (k : Int) ∧ Aside0 (MvL g P (B.take n) x (B.drop n ++ Q) spare W k w2)) (fun v13 _ => lo - (intOf v13).toNat)
      case atStart => exact ⟨a, Nat.le_refl _, by omega, rfl, HN0⟩
      case round =>
        obtain ⟨k, hak, hkl, rfl, HM⟩ := hrel
        have hw4 : IntKind.i64.wrap ((lo : Int) - 1) = (lo : Int) - 1 := by rw [IntKind.wrap_i64]; omega
        by_cases hlt : k + 1 < lo
        · have hd3 : decide ((k : Int) < (lo : Int) - 1) = true := decide_eq_true (by omega)
          obtain ⟨⟨C, D, eB, lC, hRow⟩, hNear⟩ := HM.out
          obtain ⟨d, D', rfl⟩ : ∃ d D', D = d :: D' := by
            cases D with
            | nil =>
              have h1 := congrArg List.length eB
              rw [List.append_nil, List.length_take] at h1
              have := HNn.out
              have := HP.out.2.1
              omega
            | cons d D' => exact ⟨d, D', rfl⟩
          have e1 : P ++ C ++ x :: ((d :: D') ++ (B.drop n ++ Q)) = (P ++ C) ++ x :: ([] ++ d :: (D' ++ (B.drop n ++ Q))) := by simp
          rw [e1] at hRow
          have li : (P ++ C).length = k := by rw [List.length_append]; omega
          have lj : (P ++ C).length + 1 + ([] : List It2).length = k + 1 := by simp at li ⊢; omega
          have hgi := get_mid (P ++ C) x ([] ++ d :: (D' ++ (B.drop n ++ Q))) li
          have hgj : ((P ++ C) ++ x :: ([] ++ d :: (D' ++ (B.drop n ++ Q))))[k + 1]? = some d := by
            rw [show (P ++ C) ++ x :: ([] ++ d :: (D' ++ (B.drop n ++ Q))) = ((P ++ C) ++ [x]) ++ d :: (D' ++ (B.drop n ++ Q)) by simp]
            exact get_mid _ d _ (by simp at li ⊢; omega)
          have ci := hRow.cell hgi
          have cj := hRow.cell hgj
          have fi := hRow.frozen k
          have fj := hRow.frozen (k + 1)
          have hlt1 := (List.getElem?_eq_some_iff.1 hgi).1
          have hlt2 := (List.getElem?_eq_some_iff.1 hgj).1
          have R1 := hRow.set d hlt1
          have hset : (((P ++ C) ++ x :: ([] ++ d :: (D' ++ (B.drop n ++ Q)))).set k d)[k + 1]? = some d := by rw [List.getElem?_set_ne (by omega)]; exact hgj
          have ks := R1.cell hset
          have kf := R1.frozen (k + 1)
          have R2 := R1.set x (j := k + 1) (by simpa using hlt2)
          rw [set_two _ _ _ _ _ li lj] at R2
          have HF := Aside0.mk (show MvL g P (B.take n) x (B.drop n ++ Q) spare W (k + 1) ((wr.setCell ⟨g, k, none⟩ (RV.v d.1)).setCell ⟨g, k + 1, none⟩ (RV.v x.1)) from
            ⟨⟨C ++ [d], D', by rw [eB]; simp, by simp; omega, by
              rw [show P ++ (C ++ [d]) ++ x :: (D' ++ (B.drop n ++ Q)) = (P ++ C) ++ d :: ([] ++ x :: (D' ++ (B.drop n ++ Q))) by simp]; exact R2⟩,
              (hNear.trans (near_set wr k (RV.v d.1))).trans (near_set _ (k + 1) (RV.v x.1))⟩)
          have hi1 : (0 : Int) ≤ (k : Int) + 1 := by omega
          have hj2 : (k : Int) + 1 < (N : Int) := by omega
          have hk2 : k + 1 < N := by omega
          have hk1 : k < N := by omega
          have hw5 : IntKind.i64.wrap ((k : Int) + 1) = (k : Int) + 1 := by rw [IntKind.wrap_i64]; omega
          clear hRow hNear eB lC e1 li lj hgi hgj hlt1 hlt2 R1 R2 hset HM HN0
          dsimp only [RV.v] at ci cj ks kf
          go_upto_region 11 with fail
          go_region
          all_goals
            go_wp2
            go_roundw
            case rel => exact ⟨k + 1, by omega, by omega, by simp, ⟨⟨HF.out.ex, near_drewN HF.out.near 1⟩⟩⟩
            case measure => simp [intOf] <;> omega
        · have hd3 : decide ((k : Int) < (lo : Int) - 1) = false := decide_eq_false (by omega)
          go_wp2
          refine bodyPost_ret (results_none rfl _ _ _) rfl ?_
          obtain ⟨⟨C, D, eB, lC, hRow⟩, hNear⟩ := HM.out
          have h1 := congrArg List.length eB
          rw [List.length_append, List.length_take] at h1
          obtain rfl : D = [] := List.eq_nil_of_length_eq_zero (by have := HNn.out; have := HP.out.2.1; omega)
          have h2 := hFin.out
          rw [List.singleton_append] at h2
          refine ⟨rfl, ?_, hNear⟩
          rw [h2, eB, List.append_nil]
          simpa using hRow
/-- the search among those ahead of the one -/
structure SrR (c : List V3 → List V3 → Int) (its : List It2) (y : It2) (a m lo hi : Nat) : Prop where
  low : a < lo → ∀ z, its[lo - 1]? = some z → ¬ c y.2 z.2 < 0
  high : hi < m → ∀ z, its[hi]? = some z → c y.2 z.2 < 0
theorem sym_right_law {c : List V3 → List V3 → Int} (hc : Cmp3 (on2 c)) {its P A Q : List It2} {y : It2} {a m lo n : Nat} (hits : P ++ A ++ [y] ++ Q = its) (ha : P.length = a) (hm : a + A.length = m) (hsA : Srt (on2 c) A) (hI : SrR c its y a m lo lo) (hn : lo = a + n) (hlm : lo ≤ m) :
    stb (on2 c) (A ++ [y]) = A.take n ++ [y] ++ A.drop n := by
  have hget : ∀ j, j < A.length → its[a + j]? = A[j]? := fun j hj => by
    rw [← hits, show P ++ A ++ [y] ++ Q = P ++ (A ++ ([y] ++ Q)) by simp, List.getElem?_append_right (by omega), show a + j - P.length = j by omega, List.getElem?_append_left hj]
  have hsp : A.take n ++ A.drop n = A := List.take_append_drop n A
  have hs2 : Srt (on2 c) (A.take n ++ A.drop n) := by rw [hsp]; exact hsA
  obtain ⟨s1, s2, s3⟩ := srt_app.1 hs2
  have hx : ∀ (z : It2), Srt (on2 c) [z] := fun z => List.pairwise_singleton _ _
  have h1 : ∀ x ∈ [y], ∀ z ∈ A.drop n, on2 c x z < 0 := lt_all hc (hx y) s2 (by
    intro x z hx hz
    cases hx
    rw [List.head?_drop] at hz
    have hnl := (List.getElem?_eq_some_iff.1 hz).1
    exact hI.high (by omega) z (by rw [hn, hget _ hnl]; exact hz))
  have h2 : ∀ z ∈ A.take n, ∀ x ∈ [y], on2 c z x ≤ 0 := le_all hc s1 (hx y) (by
    intro z x hz hx
    cases hx
    have hn0 : n ≠ 0 := by rintro rfl; simp at hz
    rw [List.getLast?_eq_getElem?, List.length_take, Nat.min_eq_left (by omega), List.getElem?_take_of_lt (by omega)] at hz
    have h3 := hI.low (by omega) z (by rw [hn, show a + n - 1 = a + (n - 1) by omega, hget _ (by omega)]; exact hz)
    have h4 : c z.2 y.2 = - c y.2 z.2 := hc.anti y z
    show c z.2 y.2 ≤ 0
    omega)
  have := stb_cut hc (A1 := A.take n) (A2 := A.drop n) (B1 := [y]) (B2 := []) hs2 (by rw [List.append_nil]; exact hx y) h1 (fun x _ z hz => by cases hz)
  rw [List.append_nil, List.append_nil, hsp, stb_self hc s2] at this
  rw [this, stb_self hc (srt_app.2 ⟨s1, hx y, h2⟩)]
/-- how far the one has been moved down -/
structure MvR (g : Nat) (P A2 : List It2) (y : It2) (R : List It2) (spare : List Value) (W : World) (k : Nat) (w : World) : Prop where
  ex : ∃ C D, A2 = C ++ D ∧ P.length + C.length = k ∧ RowB w g (P ++ C ++ y :: (D ++ R)) spare
  near : Near g W w
set_option maxRecDepth 100000 in
set_option maxHeartbeats 8000000 in
theorem sym_right (c : List V3 → List V3 → Int) (hc : Cmp3 c) (g cap N S a m b : Nat) (P A Q : List It2) (y : It2) (spare : List Value) (W : World) (hN : (P ++ A ++ [y] ++ Q).length = N) (hbig : N ≤ 100000) (ha : P.length = a) (hm : a + A.length = m) (hb : m + 1 = b) (hA : 2 ≤ A.length)
    (hsA : Srt (on2 c) A) (hR : RowB W g (P ++ A ++ [y] ++ Q) spare) (hC : CmpFn W g (P ++ A ++ [y] ++ Q) c (.pointer (some ⟨S, 0, none⟩))) :
    Calls Try.prog 86 #[.slice (some ⟨g, 0, none⟩) N cap, .int .i64 a, .int .i64 m, .int .i64 b, .func (.func 51) #[.pointer (some ⟨S, 0, none⟩)] #[]] W (SymPost g P (stb (on2 c) (A ++ [y])) Q spare W) := by
  have hmx : Try.prog.follows .mixedOrders = true := by kernel_rfl
  have hc' : Cmp3 (on2 c) := hc.pull Prod.snd
  obtain ⟨its, hits⟩ : ∃ its, P ++ A ++ [y] ++ Q = its := ⟨_, rfl⟩
  have hx : its[m]? = some y := by rw [← hits, show P ++ A ++ [y] ++ Q = (P ++ A) ++ y :: Q by simp]; exact get_mid _ y _ (by simp; omega)
  have hbN : b ≤ N := by rw [← hN]; simp; omega
  have HP := Aside0.mk (And.intro hits (And.intro ha (And.intro hm (And.intro hsA hA))))
  rw [hits] at hR hC hN
  have HR := Aside0.mk (And.intro hR (And.intro hC (And.intro hN hx)))
  have hm0 : ((m : Int) - (a : Int) == 1) = false := by simp; omega
  have hw0 : IntKind.i64.wrap ((m : Int) - (a : Int)) = (m : Int) - (a : Int) := by rw [IntKind.wrap_i64]; omega
  have hm1 : (b : Int) - (m : Int) = 1 := by omega
  have hw1 : IntKind.i64.wrap ((b : Int) - (m : Int)) = 1 := by rw [IntKind.wrap_i64]; omega
  have hmN : m < N := by omega
  have ham : a + 2 ≤ m := by omega
  clear hits ha hsA hm hA hR hC hN hx
  go_enter Try.func86, Try.ntmps86
  go_wp2
  clear hm1 hw1 hm0 hw0
  go_loopg [14, 15] N (fun kx s10 s11 wr => ∃ lo hi : Nat, s10 = .int .i64 lo ∧ s11 = .int .i64 hi ∧ a ≤ lo ∧ lo ≤ hi ∧ hi ≤ m ∧ hi - lo ≤ kx ∧ Aside0 (Below W.heap.size W wr) ∧ Aside0 (SrR c its y a m lo hi))
  case atStart => exact ⟨a, m, rfl, rfl, Nat.le_refl _, by omega, Nat.le_refl _, by omega, ⟨Below.refl _ _⟩, ⟨⟨fun h => absurd h (Nat.lt_irrefl _), fun h => absurd h (Nat.lt_irrefl _)⟩⟩⟩
  case round =>
    obtain ⟨lo, hi, rfl, rfl, hml, hlh, hhb, hg, HB, HI⟩ := hrel
    have HRw := Aside0.mk (HR.out.1.below HB.out)
    by_cases hlt : lo < hi
    · have hd1 : decide ((lo : Int) < (hi : Int)) = true := decide_eq_true (by omega)
      have hd2 : decide (lo < hi) = true := decide_eq_true hlt
      obtain ⟨h, hh⟩ : ∃ h, (lo + hi) / 2 = h := ⟨_, rfl⟩
      have hhl : lo ≤ h := by omega
      have hhh : h < hi := by omega
      have hhN : h < N := by omega
      obtain ⟨z, hz⟩ : ∃ z, its[h]? = some z := ⟨its[h]'(by have := HR.out.2.2.1; omega), List.getElem?_eq_getElem _⟩
      have cz := HRw.out.cell hz
      have cy := HRw.out.cell HR.out.2.2.2
      have HX := Aside0.mk (And.intro hz (And.intro (List.mem_of_getElem? hz) (List.mem_of_getElem? HR.out.2.2.2)))
      have HH := Aside0.mk hh
      have hsh : ((lo : Int) + (hi : Int)) / 2 = (h : Int) := by omega
      clear hz hh
      dsimp only [RV.v] at cz cy
      go_upto_region 17 with fail
      go_region_held3 (fun w' => w'.cell? ⟨g, m, none⟩ = some (.slice y.1.a y.1.n y.1.c) ∧ w'.cell? ⟨g, h, none⟩ = some (.slice z.1.a z.1.n z.1.c) ∧ Aside0 (Below wr.heap.size wr w'))
        (first | assumption | exact heldG HRw.out HR.out.2.2.2 HX.out.1 (Still.drew wr).below | exact heldG HRw.out HR.out.2.2.2 HX.out.1 HB3.out | fail)
        (first | (go_at_call 51; refine (HR.out.2.1 _ (below_near (below_step HB.out (Still.drew wr).below HB.out.size)) y HX.out.2.2 z HX.out.2.1).mono ?_; rintro e w3 ⟨rfl, hb3⟩; have HB3 := Aside0.mk (below_step (Still.drew wr).below hb3 (Nat.le_refl _)); clear hb3))
      have HB4 := Aside0.mk (below_step HB.out HB3.out HB.out.size)
      obtain ⟨cv, hcv⟩ : ∃ cv, c y.2 z.2 = cv := ⟨_, rfl⟩
      rw [hcv]
      obtain ⟨q, hq⟩ : ∃ q, decide (cv < 0) = q := ⟨_, rfl⟩
      rw [hq]
      have HQ := Aside0.mk (And.intro hq hcv)
      clear hcv hq
      cases q with
      | false =>
        have hw2 : IntKind.i64.wrap ((h : Int) + 1) = (h : Int) + 1 := by rw [IntKind.wrap_i64]; omega
        have hI2 := Aside0.mk (show SrR c its y a m (h + 1) hi from ⟨fun _ x hx => by
          rw [show h + 1 - 1 = h from rfl, HX.out.1] at hx
          cases hx
          rw [HQ.out.2]
          exact of_decide_eq_false HQ.out.1, HI.out.high⟩)
        go_wp2
        go_roundg (hi - (h + 1))
        case measure => omega
        case rel => exact ⟨h + 1, hi, rfl, rfl, by omega, by omega, hhb, Nat.le_refl _, HB4, hI2⟩
      | true =>
        have hI2 := Aside0.mk (show SrR c its y a m lo h from ⟨HI.out.low, fun _ x hx => by
          rw [HX.out.1] at hx
          cases hx
          rw [HQ.out.2]
          exact of_decide_eq_true HQ.out.1⟩)
        go_wp2
        go_roundg (h - lo)
        case measure => omega
        case rel => exact ⟨lo, h, rfl, rfl, hml, by omega, by omega, Nat.le_refl _, HB4, hI2⟩
    · obtain rfl : lo = hi := by omega
      have hd1 : decide ((lo : Int) < (lo : Int)) = false := decide_eq_false (by omega)
      obtain ⟨n, hn⟩ : ∃ n, lo = a + n := ⟨lo - a, by omega⟩
      have hFin := Aside0.mk (sym_right_law hc' HP.out.1 HP.out.2.1 HP.out.2.2.1 HP.out.2.2.2.1 HI.out hn hhb)
      have HNn := Aside0.mk (And.intro hn (show n ≤ A.length from by have := HP.out.2.2.1; omega))
      have hPl : (P ++ A.take n).length = lo := by have := HP.out.2.1; have := HNn.out; simp; omega
      have HN0 := Aside0.mk (show MvR g (P ++ A.take n) (A.drop n) y Q spare W m wr from ⟨⟨A.drop n, [], by simp, by rw [hPl]; have := HP.out.2.2.1; have := HNn.out; simp; omega, by
        have h1 := HRw.out
        rw [← HP.out.1] at h1
        rw [List.append_assoc P, List.take_append_drop]
        simpa using h1⟩, below_near HB.out⟩)
      have HPl := Aside0.mk hPl
      clear hn hlt hlh hg HI hPl
      go_wp2
      go_loopw [17] (fun v17 w2 => ∃ k : Nat, lo ≤ k ∧ k ≤ m ∧ v17 = .int .i64 (k : Int) ∧ Aside0 (MvR g (P ++ A.take n) (A.drop n) y Q spare W k w2)) (fun v17 _ => (intOf v17).toNat)
      case atStart => exact ⟨m, hhb, Nat.le_refl _, rfl, HN0⟩
      case round =>
        obtain ⟨k, hak, hkl, rfl, HM⟩ := hrel
        by_cases hlt : lo < k
        · have hd3 : decide ((lo : Int) < (k : Int)) = true := decide_eq_true (by omega)
          have hd4 : decide (lo < k) = true := decide_eq_true hlt
          obtain ⟨⟨C, D, eA, lC, hRow⟩, hNear⟩ := HM.out
          rcases List.eq_nil_or_concat C with rfl | ⟨C', d, rfl⟩
          · exfalso
            have := HPl.out
            simp at lC this
            omega
          obtain ⟨j, hj⟩ : ∃ j, k = j + 1 := ⟨k - 1, by omega⟩
          have e1 : (P ++ A.take n) ++ (C' ++ [d]) ++ y :: (D ++ Q) = ((P ++ A.take n) ++ C') ++ d :: ([] ++ y :: (D ++ Q)) := by simp
          rw [List.concat_eq_append, e1] at hRow
          rw [List.concat_eq_append] at eA lC
          have li : ((P ++ A.take n) ++ C').length = j := by simp at lC ⊢; omega
          have lj : ((P ++ A.take n) ++ C').length + 1 + ([] : List It2).length = k := by simp at li ⊢; omega
          have hgi := get_mid ((P ++ A.take n) ++ C') d ([] ++ y :: (D ++ Q)) li
          have hgj : (((P ++ A.take n) ++ C') ++ d :: ([] ++ y :: (D ++ Q)))[k]? = some y := by
            rw [show ((P ++ A.take n) ++ C') ++ d :: ([] ++ y :: (D ++ Q)) = (((P ++ A.take n) ++ C') ++ [d]) ++ y :: (D ++ Q) by simp]
            exact get_mid _ y _ (by simp at li ⊢; omega)
          have ci := hRow.cell hgi
          have cj := hRow.cell hgj
          have fi := hRow.frozen j
          have fj := hRow.frozen k
          have hlt1 := (List.getElem?_eq_some_iff.1 hgi).1
          have hlt2 := (List.getElem?_eq_some_iff.1 hgj).1
          have R1 := hRow.set d hlt2
          have hset : ((((P ++ A.take n) ++ C') ++ d :: ([] ++ y :: (D ++ Q))).set k d)[j]? = some d := by rw [List.getElem?_set_ne (by omega)]; exact hgi
          have ks := R1.cell hset
          have kf := R1.frozen j
          have R2 := R1.set y (j := j) (by simpa using hlt1)
          rw [List.set_comm _ _ (by omega), set_two _ _ _ _ _ li lj] at R2
          have HF := Aside0.mk (show MvR g (P ++ A.take n) (A.drop n) y Q spare W j ((wr.setCell ⟨g, k, none⟩ (RV.v d.1)).setCell ⟨g, j, none⟩ (RV.v y.1)) from
            ⟨⟨C', d :: D, by rw [eA]; simp, by simp at li ⊢; omega, by
              rw [show (P ++ A.take n) ++ C' ++ y :: ((d :: D) ++ Q) = ((P ++ A.take n) ++ C') ++ y :: ([] ++ d :: (D ++ Q)) by simp]; exact R2⟩,
              (hNear.trans (near_set wr k (RV.v d.1))).trans (near_set _ j (RV.v y.1))⟩)
          have hj1 : IntKind.i64.wrap ((k : Int) - 1) = (j : Int) := by rw [IntKind.wrap_i64]; omega
          have hj2 : (k : Int) - 1 = (j : Int) := by omega
          have hjN : j < N := by omega
          have hkN : k < N := by omega
          have HJ := Aside0.mk hj
          clear hRow hNear eA lC e1 li lj hgi hgj hlt1 hlt2 R1 R2 hset HM HN0 hj
          dsimp only [RV.v] at ci cj ks kf
          go_upto_region 23 with fail
          go_region
          all_goals
            go_wp2
            go_roundw
            case rel => exact ⟨j, by have := HJ.out; omega, by have := HJ.out; omega, rfl, ⟨⟨HF.out.ex, near_drewN HF.out.near 1⟩⟩⟩
            case measure => simp [intOf]; have := HJ.out; omega
        · have hd3 : decide ((lo : Int) < (k : Int)) = false := decide_eq_false (by omega)
          have hd4 : decide (lo < k) = false := decide_eq_false hlt
          go_wp2
          refine bodyPost_ret (results_none rfl _ _ _) rfl ?_
          obtain ⟨⟨C, D, eA, lC, hRow⟩, hNear⟩ := HM.out
          obtain rfl : C = [] := List.eq_nil_of_length_eq_zero (by have := HPl.out; omega)
          refine ⟨rfl, ?_, hNear⟩
          rw [hFin.out, eA, List.nil_append]
          simpa using hRow
end Go.Proofs.Ytghpjlohoehdnaa.Sep

/-! slices.symMergeCmpFunc over any two rows in order, walked. No condition beyond those that each theorem names. -/
namespace Go.Proofs.Ytghpjlohoehdnaa.Sep
open Go Go.RowKit Go.Shelf
set_option linter.unusedVariables false
set_option linter.unusedSimpArgs false
theorem CmpFn.to {W w : World} {g : Nat} {its its' : List It2} {c : List V3 → List V3 → Int} {r : Value} (h : CmpFn W g its c r) (hn : Near g W w) (hm : ∀ x ∈ its', x ∈ its) : CmpFn w g its' c r := fun w2 h2 x hx y hy => h w2 (hn.trans h2) x (hm x hx) y (hm y hy)
theorem insD_len {α : Type} (f : α → α → Int) (x : α) : ∀ l : List α, (insD f x l).length = l.length + 1
  | [] => rfl
  | y :: l => by
    rw [insD]
    split
    · rw [List.length_cons, insD_len f x l, List.length_cons]
    · rfl
theorem insAll_len {α : Type} (f : α → α → Int) (l : List α) : (insAll f l).length = l.length := by
  have h : ∀ (l acc : List α), (l.foldl (fun r x => insD f x r) acc).length = acc.length + l.length := by
    intro l
    induction l with
    | nil => intro acc; rfl
    | cons x t ih =>
      intro acc
      rw [List.foldl_cons, ih, insD_len, List.length_cons]
      omega
  have := h l []
  rw [List.length_nil, Nat.zero_add] at this
  exact this
theorem stb_len {α : Type} (f : α → α → Int) (l : List α) : (stb f l).length = l.length := by
  unfold stb
  rw [List.length_reverse, insAll_len]
/-- the search for the cut; p is how far the last of both stands behind the first -/
structure SrG (c : List V3 → List V3 → Int) (its : List It2) (p a m b lo hi : Nat) : Prop where
  low : lo = a ∨ p + 1 - lo = b ∨ ∃ y z, its[p + 1 - lo]? = some y ∧ its[lo - 1]? = some z ∧ ¬ c y.2 z.2 < 0
  high : hi = m ∨ p + 1 - hi = m ∨ ∃ y z, its[p - hi]? = some y ∧ its[hi]? = some z ∧ c y.2 z.2 < 0
theorem sym_gen_law {c : List V3 → List V3 → Int} (hc : Cmp3 (on2 c)) {its P A B Q : List It2} {p a m b s e : Nat} (hits : P ++ A ++ B ++ Q = its) (ha : P.length = a) (hm : a + A.length = m) (hb : m + B.length = b) (hsA : Srt (on2 c) A) (hsB : Srt (on2 c) B)
    (hI : SrG c its p a m b s s) (has : a ≤ s) (hsm : s ≤ m) (he : s + e = p + 1) (hme : m ≤ e) (heb : e ≤ b) :
    stb (on2 c) (A ++ B) = stb (on2 c) (A.take (s - a) ++ B.take (e - m)) ++ stb (on2 c) (A.drop (s - a) ++ B.drop (e - m)) := by
  have hgA : ∀ j, j < A.length → its[a + j]? = A[j]? := fun j hj => by
    rw [← hits, show P ++ A ++ B ++ Q = P ++ (A ++ (B ++ Q)) by simp, List.getElem?_append_right (by omega), show a + j - P.length = j by omega, List.getElem?_append_left hj]
  have hgB : ∀ j, j < B.length → its[m + j]? = B[j]? := fun j hj => by
    rw [← hits, show P ++ A ++ B ++ Q = (P ++ A) ++ (B ++ Q) by simp, List.getElem?_append_right (by simp; omega), show m + j - (P ++ A).length = j by simp; omega, List.getElem?_append_left hj]
  have hA2 : Srt (on2 c) (A.take (s - a) ++ A.drop (s - a)) := by rw [List.take_append_drop]; exact hsA
  have hB2 : Srt (on2 c) (B.take (e - m) ++ B.drop (e - m)) := by rw [List.take_append_drop]; exact hsB
  have := stb_cut hc hA2 hB2 (lt_all hc (srt_app.1 hB2).1 (srt_app.1 hA2).2.1 ?_) (le_all hc (srt_app.1 hA2).1 (srt_app.1 hB2).2.1 ?_)
  · rwa [List.take_append_drop, List.take_append_drop] at this
  · intro x y hx hy
    have h0 : e - m ≠ 0 := by intro h; rw [h] at hx; simp at hx
    rw [List.getLast?_eq_getElem?, List.length_take, Nat.min_eq_left (by omega), List.getElem?_take_of_lt (by omega)] at hx
    rw [List.head?_drop] at hy
    have hyl := (List.getElem?_eq_some_iff.1 hy).1
    rcases hI.high with h | h | ⟨y', z', h1, h2, h3⟩
    · omega
    · omega
    · rw [show p - s = m + (e - m - 1) by omega, hgB _ (by omega), hx] at h1
      rw [show s = a + (s - a) by omega, hgA _ hyl, hy] at h2
      cases h1
      cases h2
      exact h3
  · intro x y hx hy
    have h0 : s - a ≠ 0 := by intro h; rw [h] at hx; simp at hx
    rw [List.getLast?_eq_getElem?, List.length_take, Nat.min_eq_left (by omega), List.getElem?_take_of_lt (by omega)] at hx
    rw [List.head?_drop] at hy
    have hyl := (List.getElem?_eq_some_iff.1 hy).1
    rcases hI.low with h | h | ⟨y', z', h1, h2, h3⟩
    · omega
    · omega
    · rw [show p + 1 - s = m + (e - m) by omega, hgB _ hyl, hy] at h1
      rw [show s - 1 = a + (s - a - 1) by omega, hgA _ (by omega), hx] at h2
      cases h1
      cases h2
      have h4 : c x.2 y.2 = - c y.2 x.2 := hc.anti y x
      show c x.2 y.2 ≤ 0
      omega
/-- both rows, cut in two each -/
structure Parts (c : List V3 → List V3 → Int) (its P A B Q A1 A2 B1 B2 : List It2) (a m b mid lo e : Nat) : Prop where
  its : its = P ++ (A1 ++ A2) ++ (B1 ++ B2) ++ Q
  p : P.length = a
  a1 : a + A1.length = lo
  a2 : lo + A2.length = m
  b1 : m + B1.length = e
  b2 : e + B2.length = b
  mid : lo + B1.length = mid
  sA1 : Srt (on2 c) A1
  sA2 : Srt (on2 c) A2
  sB1 : Srt (on2 c) B1
  sB2 : Srt (on2 c) B2
  fin : stb (on2 c) (A ++ B) = stb (on2 c) (A1 ++ B1) ++ stb (on2 c) (A2 ++ B2)
theorem parts_of {c : List V3 → List V3 → Int} {its P A B Q : List It2} {a m b mid lo e p : Nat} (hits : P ++ A ++ B ++ Q = its) (ha : P.length = a) (hm : a + A.length = m) (hb : m + B.length = b) (hsA : Srt (on2 c) A) (hsB : Srt (on2 c) B) (has : a ≤ lo) (hsm : lo ≤ m) (hme : m ≤ e) (heb : e ≤ b) (hmid : mid + m = p + 1) (he : lo + e = p + 1)
    (hf : stb (on2 c) (A ++ B) = stb (on2 c) (A.take (lo - a) ++ B.take (e - m)) ++ stb (on2 c) (A.drop (lo - a) ++ B.drop (e - m))) : ∃ A1 A2 B1 B2, Parts c its P A B Q A1 A2 B1 B2 a m b mid lo e := by
  have hA2 : Srt (on2 c) (A.take (lo - a) ++ A.drop (lo - a)) := by rw [List.take_append_drop]; exact hsA
  have hB2 : Srt (on2 c) (B.take (e - m) ++ B.drop (e - m)) := by rw [List.take_append_drop]; exact hsB
  refine ⟨A.take (lo - a), A.drop (lo - a), B.take (e - m), B.drop (e - m), ⟨by rw [List.take_append_drop, List.take_append_drop]; exact hits.symm, ha, by rw [List.length_take]; omega, by rw [List.length_drop]; omega, by rw [List.length_take]; omega, by rw [List.length_drop]; omega, by rw [List.length_take]; omega, (srt_app.1 hA2).1, (srt_app.1 hA2).2.1, (srt_app.1 hB2).1, (srt_app.1 hB2).2.1, hf⟩⟩
theorem len_zero {α : Type} {l : List α} {n : Nat} (h : n + l.length = n) : l = [] := List.eq_nil_of_length_eq_zero (by omega)
/-- the merge, of all that is not longer than k -/
def SymAll (c : List V3 → List V3 → Int) (g cap N S k : Nat) : Prop :=
  ∀ (a m b : Nat) (P A B Q : List It2) (spare : List Value) (W : World), A.length + B.length ≤ k → (P ++ A ++ B ++ Q).length = N → P.length = a → a + A.length = m → m + B.length = b → A ≠ [] → B ≠ [] → Srt (on2 c) A → Srt (on2 c) B →
    RowB W g (P ++ A ++ B ++ Q) spare → CmpFn W g (P ++ A ++ B ++ Q) c (.pointer (some ⟨S, 0, none⟩)) →
    Calls Try.prog 86 #[.slice (some ⟨g, 0, none⟩) N cap, .int .i64 a, .int .i64 m, .int .i64 b, .func (.func 51) #[.pointer (some ⟨S, 0, none⟩)] #[]] W (SymPost g P (stb (on2 c) (A ++ B)) Q spare W)
set_option maxRecDepth 100000 in
set_option maxHeartbeats 16000000 in
theorem sym_gen (c : List V3 → List V3 → Int) (hc : Cmp3 c) (g cap N S a m b k : Nat) (hbig : N ≤ 100000) (ih : SymAll c g cap N S k) (P A B Q : List It2) (spare : List Value) (W : World) (hk : A.length + B.length ≤ k + 1) (hN : (P ++ A ++ B ++ Q).length = N) (ha : P.length = a) (hm : a + A.length = m) (hb : m + B.length = b)
    (hA : 2 ≤ A.length) (hB : 2 ≤ B.length) (hsA : Srt (on2 c) A) (hsB : Srt (on2 c) B) (hR : RowB W g (P ++ A ++ B ++ Q) spare) (hC : CmpFn W g (P ++ A ++ B ++ Q) c (.pointer (some ⟨S, 0, none⟩))) :
    Calls Try.prog 86 #[.slice (some ⟨g, 0, none⟩) N cap, .int .i64 a, .int .i64 m, .int .i64 b, .func (.func 51) #[.pointer (some ⟨S, 0, none⟩)] #[]] W (SymPost g P (stb (on2 c) (A ++ B)) Q spare W) := by
  have hmx : Try.prog.follows .mixedOrders = true := by kernel_rfl
  have hc' : Cmp3 (on2 c) := hc.pull Prod.snd
  obtain ⟨its, hits⟩ : ∃ its, P ++ A ++ B ++ Q = its := ⟨_, rfl⟩
  have hbN : b ≤ N := by rw [← hN]; simp; omega
  have ham : a + 2 ≤ m := by omega
  have hmb : m + 2 ≤ b := by omega
  have HP := Aside0.mk (And.intro hits (And.intro ha (And.intro hm (And.intro hb (And.intro hsA (And.intro hsB (And.intro hk ih)))))))
  rw [hits] at hR hC hN
  have HR := Aside0.mk (And.intro hR (And.intro hC hN))
  clear hits ha hsA hsB hm hb hA hB hR hC hN hk ih
  have hm0 : ((m : Int) - (a : Int) == 1) = false := by simp; omega
  have hw0 : IntKind.i64.wrap ((m : Int) - (a : Int)) = (m : Int) - (a : Int) := by rw [IntKind.wrap_i64]; omega
  have hm1 : ((b : Int) - (m : Int) == 1) = false := by simp; omega
  have hw1 : IntKind.i64.wrap ((b : Int) - (m : Int)) = (b : Int) - (m : Int) := by rw [IntKind.wrap_i64]; omega
  obtain ⟨mid, hmid⟩ : ∃ mid, (a + b) / 2 = mid := ⟨_, rfl⟩
  have hsh : ((a : Int) + (b : Int)) / 2 = (mid : Int) := by omega
  have ham2 : a < mid := by omega
  have hmb2 : mid < b := by omega
  obtain ⟨p, hp⟩ : ∃ p, mid + m = p + 1 := ⟨mid + m - 1, by omega⟩
  have hp1 : (mid : Int) + (m : Int) = (p : Int) + 1 := by omega
  have HMid := Aside0.mk (And.intro hmid hp)
  clear hmid hp
  by_cases hmm : mid < m
  all_goals
    first
      | have hd0 : decide ((mid : Int) < (m : Int)) = true := decide_eq_true (by omega)
      | have hd0 : decide ((mid : Int) < (m : Int)) = false := decide_eq_false (by omega)
    go_enter Try.func86, Try.ntmps86
    go_upto_region 33 with fail
    go_loopg [20, 21] N (fun kx s10 s11 wr => ∃ lo hi : Nat, s10 = .int .i64 lo ∧ s11 = .int .i64 hi ∧ (a ≤ lo ∧ lo ≤ hi ∧ hi ≤ m ∧ m + hi ≤ p + 1 ∧ p + 1 ≤ b + lo ∧ hi - lo ≤ kx) ∧ Aside0 (Below W.heap.size W wr) ∧ Aside0 (SrG c its p a m b lo hi))
    case atStart =>
      have hM := HMid.out
      first
        | exact ⟨p + 1 - b, mid, by congr 1; omega, rfl, ⟨by omega, by omega, by omega, by omega, by omega, by omega⟩, ⟨Below.refl _ _⟩, ⟨⟨.inr (.inl (by omega)), .inr (.inl (by omega))⟩⟩⟩
        | exact ⟨a, m, rfl, rfl, ⟨by omega, by omega, by omega, by omega, by omega, by omega⟩, ⟨Below.refl _ _⟩, ⟨⟨.inl rfl, .inl rfl⟩⟩⟩
    case round =>
      obtain ⟨lo, hi, rfl, rfl, HG, HB, HI⟩ := hrel
      have HG := Aside0.mk HG
      have HRw := Aside0.mk (HR.out.1.below HB.out)
      by_cases hlt : lo < hi
      · have hd1 : decide ((lo : Int) < (hi : Int)) = true := decide_eq_true (by omega)
        have hd2 : decide (lo < hi) = true := decide_eq_true hlt
        obtain ⟨h, hh⟩ : ∃ h, (lo + hi) / 2 = h := ⟨_, rfl⟩
        obtain ⟨ph, hph⟩ : ∃ ph, p - h = ph := ⟨_, rfl⟩
        have hg2 := HG.out
        have hhl : lo ≤ h := by omega
        have hhh : h < hi := by omega
        have hhN : h < N := by omega
        have hpN : ph < N := by omega
        have hpw : IntKind.i64.wrap ((p : Int) - (h : Int)) = (ph : Int) := by rw [IntKind.wrap_i64]; omega
        have hpw2 : (p : Int) - (h : Int) = (ph : Int) := by omega
        have hpw3 : (0 : Int) ≤ (ph : Int) := by omega
        have hpw4 : (ph : Int) < (N : Int) := by omega
        have hpw5 : IntKind.i64.wrap (ph : Int) = (ph : Int) := by rw [IntKind.wrap_i64]; omega
        obtain ⟨z, hz⟩ : ∃ z, its[h]? = some z := ⟨its[h]'(by have := HR.out.2.2; omega), List.getElem?_eq_getElem _⟩
        obtain ⟨y, hy⟩ : ∃ y, its[ph]? = some y := ⟨its[ph]'(by have := HR.out.2.2; omega), List.getElem?_eq_getElem _⟩
        have cz := HRw.out.cell hz
        have cy := HRw.out.cell hy
        have HX := Aside0.mk (And.intro hz (And.intro hy (And.intro (List.mem_of_getElem? hz) (List.mem_of_getElem? hy))))
        have HH := Aside0.mk (And.intro hh hph)
        have hsh2 : ((lo : Int) + (hi : Int)) / 2 = (h : Int) := by omega
        have HL := Aside0.mk (show p + 1 - (h + 1) = ph from by omega)
        clear hz hy hh hph hg2
        dsimp only [RV.v] at cz cy
        go_upto_region 35 with fail
        go_region_held3 (fun w' => w'.cell? ⟨g, ph, none⟩ = some (.slice y.1.a y.1.n y.1.c) ∧ w'.cell? ⟨g, h, none⟩ = some (.slice z.1.a z.1.n z.1.c) ∧ Aside0 (Below wr.heap.size wr w'))
          (first | assumption | exact heldG HRw.out HX.out.2.1 HX.out.1 (Still.drew wr).below | exact heldG HRw.out HX.out.2.1 HX.out.1 HB3.out | fail)
          (first | (go_at_call 51; refine (HR.out.2.1 _ (below_near (below_step HB.out (Still.drew wr).below HB.out.size)) y HX.out.2.2.2 z HX.out.2.2.1).mono ?_; rintro e w3 ⟨rfl, hb3⟩; have HB3 := Aside0.mk (below_step (Still.drew wr).below hb3 (Nat.le_refl _)); clear hb3))
        have HB4 := Aside0.mk (below_step HB.out HB3.out HB.out.size)
        obtain ⟨cv, hcv⟩ : ∃ cv, c y.2 z.2 = cv := ⟨_, rfl⟩
        rw [hcv]
        obtain ⟨q, hq⟩ : ∃ q, decide (cv < 0) = q := ⟨_, rfl⟩
        rw [hq]
        have HQ := Aside0.mk (And.intro hq hcv)
        clear hcv hq hpw hpw2 hpw3 hpw4 hpw5
        cases q with
        | false =>
          have hw2 : IntKind.i64.wrap ((h : Int) + 1) = (h : Int) + 1 := by rw [IntKind.wrap_i64]; omega
          have hI2 := Aside0.mk (show SrG c its p a m b (h + 1) hi from ⟨.inr (.inr ⟨y, z, by rw [HL.out]; exact HX.out.2.1, HX.out.1, by rw [HQ.out.2]; exact of_decide_eq_false HQ.out.1⟩), HI.out.high⟩)
          go_wp2
          go_roundg (hi - (h + 1))
          case measure => have := HG.out; omega
          case rel => have := HG.out; exact ⟨h + 1, hi, rfl, rfl, ⟨by omega, by omega, by omega, by omega, by omega, Nat.le_refl _⟩, HB4, hI2⟩
        | true =>
          have hI2 := Aside0.mk (show SrG c its p a m b lo h from ⟨HI.out.low, .inr (.inr ⟨y, z, by rw [HH.out.2]; exact HX.out.2.1, HX.out.1, by rw [HQ.out.2]; exact of_decide_eq_true HQ.out.1⟩)⟩)
          go_wp2
          go_roundg (h - lo)
          case measure => have := HG.out; omega
          case rel => have := HG.out; exact ⟨lo, h, rfl, rfl, ⟨by omega, by omega, by omega, by omega, by omega, Nat.le_refl _⟩, HB4, hI2⟩
      · obtain rfl : lo = hi := by have := HG.out; omega
        have hd1 : decide ((lo : Int) < (lo : Int)) = false := decide_eq_false (by omega)
        obtain ⟨e, he⟩ : ∃ e, lo + e = p + 1 := ⟨p + 1 - lo, by have := HG.out; omega⟩
        have hew : IntKind.i64.wrap ((p : Int) + 1 - (lo : Int)) = (e : Int) := by rw [IntKind.wrap_i64]; omega
        have hew2 : (p : Int) + 1 - (lo : Int) = (e : Int) := by omega
        have hg2 := HG.out
        have has : a ≤ lo := by omega
        have hsm : lo ≤ m := by omega
        have hme : m ≤ e := by omega
        have heb : e ≤ b := by omega
        have HFin := Aside0.mk (sym_gen_law hc' HP.out.1 HP.out.2.1 HP.out.2.2.1 HP.out.2.2.2.1 HP.out.2.2.2.2.1 HP.out.2.2.2.2.2.1 HI.out has hsm he hme heb)
        obtain ⟨A1, A2, B1, B2, hPt⟩ := parts_of HP.out.1 HP.out.2.1 HP.out.2.2.1 HP.out.2.2.2.1 HP.out.2.2.2.2.1 HP.out.2.2.2.2.2.1 has hsm hme heb HMid.out.2 he HFin.out
        have HPt := Aside0.mk hPt
        have hme2 : m < e ↔ lo < mid := by have := HMid.out.2; omega
        have hme3 : mid < e ↔ lo < m := by have := HMid.out.2; omega
        have HME := Aside0.mk (And.intro hme2 hme3)
        have HE0 := Aside0.mk he
        clear he hg2 hlt HI HFin hPt hme2 hme3
        go_upto_region 39 with fail
        have HB0 := Aside0.mk (And.intro HRw.out (below_near HB.out : Near g W wr))
        obtain ⟨q1, hq1⟩ : ∃ q, (decide (lo < m) && decide (m < e)) = q := ⟨_, rfl⟩
        obtain ⟨q2, hq2⟩ : ∃ q, (decide (a < lo) && decide (lo < mid)) = q := ⟨_, rfl⟩
        obtain ⟨q3, hq3⟩ : ∃ q, (decide (mid < e) && decide (e < b)) = q := ⟨_, rfl⟩
        have HQ := Aside0.mk (And.intro hq1 (And.intro hq2 hq3))
        clear hq1 hq2 hq3
        go_cut [185] from 178 to 185 (fun v wc => v = .bool q1 ∧ wc = wr)
        case first =>
          have hq := HQ.out.1
          by_cases x1 : lo < m
          · by_cases x2 : m < e
            · have d1 : decide ((lo : Int) < (m : Int)) = true := decide_eq_true (by omega)
              have d2 : decide ((m : Int) < (e : Int)) = true := decide_eq_true (by omega)
              obtain rfl : q1 = true := by rw [← hq]; simp [x1, x2]
              clear hq
              go_wp2
              go_meet
              exact ⟨rfl, rfl⟩
            · have d1 : decide ((lo : Int) < (m : Int)) = true := decide_eq_true (by omega)
              have d2 : decide ((m : Int) < (e : Int)) = false := decide_eq_false (by omega)
              obtain rfl : q1 = false := by rw [← hq]; simp [x1, x2]
              clear hq
              go_wp2
              go_meet
              exact ⟨rfl, rfl⟩
          · have d1 : decide ((lo : Int) < (m : Int)) = false := decide_eq_false (by omega)
            obtain rfl : q1 = false := by rw [← hq]; simp [x1]
            clear hq
            go_wp2
            go_meet
            exact ⟨rfl, rfl⟩
        case rest =>
          obtain ⟨rfl, rfl⟩ := hcut
          have HRot := Aside0.mk (fun (h1 : q1 = true) => rotate_ok g cap N lo m e (P ++ A1) A2 B1 (B2 ++ Q) spare (.func (.func 51) #[.pointer (some ⟨S, 0, none⟩)] #[]) wc (by have h := HR.out.2.2; rw [HPt.out.its] at h; simpa using h) hbig (by have := HPt.out.p; have := HPt.out.a1; simp; omega) HPt.out.a2 HPt.out.b1
            (by have h := HQ.out.1; rw [h1] at h; simp at h; intro h0; have := HPt.out.a2; rw [h0] at this; simp at this; omega) (by have h := HQ.out.1; rw [h1] at h; simp at h; intro h0; have := HPt.out.b1; rw [h0] at this; simp at this; omega)
            (by have h := HB0.out.1; rw [HPt.out.its] at h; simpa using h))
          go_upto_if 185 with fail
          go_cut [] from 186 to 191 (fun wc => Aside0 (RowB wc g (P ++ (A1 ++ B1) ++ (A2 ++ B2) ++ Q) spare ∧ Near g W wc))
          case first =>
            cases q1 with
            | true =>
              have HRot2 := Aside0.mk (HRot.out rfl)
              go_wp2_with (go_at_call 92; refine HRot2.out.mono ?_; rintro e' w4 ⟨rfl, hb4, hn4⟩; have HB4 := Aside0.mk (And.intro hb4 hn4); clear hb4 hn4)
              go_meet
              exact ⟨by have h := HB4.out.1; simpa using h, HB0.out.2.trans HB4.out.2⟩
            | false =>
              go_wp2
              go_meet
              refine ⟨?_, HB0.out.2⟩
              have h := HB0.out.1
              rw [HPt.out.its] at h
              have hq := HQ.out.1
              have h0 : A2 = [] ∨ B1 = [] := by
                by_cases x1 : lo < m
                · by_cases x2 : m < e
                  · simp [x1, x2] at hq
                  · exact .inr (len_zero (n := m) (by have := HPt.out.b1; omega))
                · exact .inl (len_zero (n := lo) (by have := HPt.out.a2; omega))
              rcases h0 with rfl | rfl
              · simpa using h
              · simpa using h
          case rest =>
            have HB1 := hcut
            clear hcut HRot HB0
            go_upto_region 41 with fail
            go_cut [199] from 192 to 199 (fun v wc2 => v = .bool q2 ∧ wc2 = wc)
            case first =>
              have hq := HQ.out.2.1
              by_cases x1 : a < lo
              · by_cases x2 : lo < mid
                · have d1 : decide ((a : Int) < (lo : Int)) = true := decide_eq_true (by omega)
                  have d2 : decide ((lo : Int) < (mid : Int)) = true := decide_eq_true (by omega)
                  obtain rfl : q2 = true := by rw [← hq]; simp [x1, x2]
                  clear hq
                  go_wp2
                  go_meet
                  exact ⟨rfl, rfl⟩
                · have d1 : decide ((a : Int) < (lo : Int)) = true := decide_eq_true (by omega)
                  have d2 : decide ((lo : Int) < (mid : Int)) = false := decide_eq_false (by omega)
                  obtain rfl : q2 = false := by rw [← hq]; simp [x1, x2]
                  clear hq
                  go_wp2
                  go_meet
                  exact ⟨rfl, rfl⟩
              · have d1 : decide ((a : Int) < (lo : Int)) = false := decide_eq_false (by omega)
                obtain rfl : q2 = false := by rw [← hq]; simp [x1]
                clear hq
                go_wp2
                go_meet
                exact ⟨rfl, rfl⟩
            case rest =>
              obtain ⟨rfl, rfl⟩ := hcut
              have HL := Aside0.mk (fun (h1 : q2 = true) => HP.out.2.2.2.2.2.2.2 a lo mid P A1 B1 (A2 ++ B2 ++ Q) spare wc (by have := HPt.out; have := HP.out.2.2.2.2.2.2.1; have := HP.out.2.2.1; have := HP.out.2.2.2.1; have := HPt.out.a1; have := HPt.out.mid; omega) (by have h := HR.out.2.2; rw [HPt.out.its] at h; simp at h ⊢; omega) HPt.out.p HPt.out.a1 HPt.out.mid
                (by have h := HQ.out.2.1; rw [h1] at h; simp at h; intro h0; have := HPt.out.a1; rw [h0] at this; simp at this; omega) (by have h := HQ.out.2.1; rw [h1] at h; simp at h; intro h0; have := HPt.out.mid; rw [h0] at this; simp at this; omega) HPt.out.sA1 HPt.out.sB1 (by have h := HB1.out.1; simpa using h)
                (HR.out.2.1.to HB1.out.2 (by intro x hx; rw [HPt.out.its]; simp at hx ⊢; rcases hx with h | h | h | h | h | h <;> simp [h])))
              go_upto_if 199 with fail
              go_cut [] from 200 to 205 (fun wc2 => Aside0 (RowB wc2 g (P ++ stb (on2 c) (A1 ++ B1) ++ (A2 ++ B2) ++ Q) spare ∧ Near g W wc2))
              case first =>
                cases q2 with
                | true =>
                  have HL2 := Aside0.mk (HL.out rfl)
                  go_wp2_with (go_at_call 86; refine HL2.out.mono ?_; rintro e' w4 ⟨rfl, hb4, hn4⟩; have HB4 := Aside0.mk (And.intro hb4 hn4); clear hb4 hn4)
                  go_meet
                  exact ⟨by have h := HB4.out.1; simpa using h, HB1.out.2.trans HB4.out.2⟩
                | false =>
                  go_wp2
                  go_meet
                  refine ⟨?_, HB1.out.2⟩
                  have h := HB1.out.1
                  have hq := HQ.out.2.1
                  have h0 : stb (on2 c) (A1 ++ B1) = A1 ++ B1 := by
                    by_cases x1 : a < lo
                    · by_cases x2 : lo < mid
                      · simp [x1, x2] at hq
                      · rw [len_zero (n := lo) (l := B1) (by have := HPt.out.mid; omega), List.append_nil]
                        exact stb_self hc' HPt.out.sA1
                    · rw [len_zero (n := a) (l := A1) (by have := HPt.out.a1; omega), List.nil_append]
                      exact stb_self hc' HPt.out.sB1
                  rw [h0]
                  exact h
              case rest =>
                have HB2 := hcut
                clear hcut HL HB1
                go_upto_region 43 with fail
                go_cut [213] from 206 to 213 (fun v wc3 => v = .bool q3 ∧ wc3 = wc)
                case first =>
                  have hq := HQ.out.2.2
                  by_cases x1 : mid < e
                  · by_cases x2 : e < b
                    · have d1 : decide ((mid : Int) < (e : Int)) = true := decide_eq_true (by omega)
                      have d2 : decide ((e : Int) < (b : Int)) = true := decide_eq_true (by omega)
                      obtain rfl : q3 = true := by rw [← hq]; simp [x1, x2]
                      clear hq
                      go_wp2
                      go_meet
                      exact ⟨rfl, rfl⟩
                    · have d1 : decide ((mid : Int) < (e : Int)) = true := decide_eq_true (by omega)
                      have d2 : decide ((e : Int) < (b : Int)) = false := decide_eq_false (by omega)
                      obtain rfl : q3 = false := by rw [← hq]; simp [x1, x2]
                      clear hq
                      go_wp2
                      go_meet
                      exact ⟨rfl, rfl⟩
                  · have d1 : decide ((mid : Int) < (e : Int)) = false := decide_eq_false (by omega)
                    obtain rfl : q3 = false := by rw [← hq]; simp [x1]
                    clear hq
                    go_wp2
                    go_meet
                    exact ⟨rfl, rfl⟩
                case rest =>
                  obtain ⟨rfl, rfl⟩ := hcut
                  have HL := Aside0.mk (fun (h1 : q3 = true) => HP.out.2.2.2.2.2.2.2 mid e b (P ++ stb (on2 c) (A1 ++ B1)) A2 B2 Q spare wc (by have := HP.out.2.2.2.2.2.2.1; have := HP.out.2.2.1; have := HP.out.2.2.2.1; have := HPt.out.a2; have := HPt.out.b2; omega) (by have h := HR.out.2.2; rw [HPt.out.its] at h; simp [stb_len] at h ⊢; omega) (by have := HPt.out.p; have := HPt.out.a1; have := HPt.out.mid; simp [stb_len]; omega)
                    (by have := HPt.out.a2; have := HMid.out.2; have := HE0.out; omega) HPt.out.b2
                    (by have h := HQ.out.2.2; rw [h1] at h; simp at h; intro h0; have := HPt.out.a2; rw [h0] at this; simp at this; have := HME.out.2; omega) (by have h := HQ.out.2.2; rw [h1] at h; simp at h; intro h0; have := HPt.out.b2; rw [h0] at this; simp at this; omega) HPt.out.sA2 HPt.out.sB2 (by have h := HB2.out.1; simpa using h)
                    (HR.out.2.1.to HB2.out.2 (by
                      intro x hx
                      rw [HPt.out.its]
                      have h2 : x ∈ stb (on2 c) (A1 ++ B1) → x ∈ A1 ++ B1 := stb_mem hc'
                      simp only [List.mem_append] at hx h2 ⊢
                      rcases hx with (((h | h) | h) | h) | h
                      · simp [h]
                      · rcases h2 h with h | h <;> simp [h]
                      · simp [h]
                      · simp [h]
                      · simp [h])))
                  go_upto_if 213 with fail
                  cases q3 with
                  | true =>
                    have HL2 := Aside0.mk (HL.out rfl)
                    go_wp2_with (go_at_call 86; refine HL2.out.mono ?_; rintro e' w4 ⟨rfl, hb4, hn4⟩; have HB4 := Aside0.mk (And.intro hb4 hn4); clear hb4 hn4)
                    first | go_end0 | refine bodyPost_ret (results_none rfl _ _ _) rfl ?_
                    refine ⟨rfl, ?_, HB2.out.2.trans HB4.out.2⟩
                    rw [HPt.out.fin]
                    have h := HB4.out.1
                    simpa using h
                  | false =>
                    go_wp2
                    first | go_end0 | refine bodyPost_ret (results_none rfl _ _ _) rfl ?_
                    have h := HB2.out.1
                    have hq := HQ.out.2.2
                    have h0 : stb (on2 c) (A2 ++ B2) = A2 ++ B2 := by
                      by_cases x1 : mid < e
                      · by_cases x2 : e < b
                        · simp [x1, x2] at hq
                        · rw [len_zero (n := e) (l := B2) (by have := HPt.out.b2; omega), List.append_nil]
                          exact stb_self hc' HPt.out.sA2
                      · rw [len_zero (n := lo) (l := A2) (by have := HPt.out.a2; have := HME.out.2; omega), List.nil_append]
                        exact stb_self hc' HPt.out.sB2
                    refine ⟨rfl, ?_, HB2.out.2⟩
                    rw [HPt.out.fin, h0]
                    simpa using h
theorem sym_all (c : List V3 → List V3 → Int) (hc : Cmp3 c) (g cap N S : Nat) (hbig : N ≤ 100000) : ∀ k, SymAll c g cap N S k
  | 0 => fun a m b P A B Q spare W hk _ _ _ _ hA _ _ _ _ _ => absurd (List.length_pos_iff.2 hA) (by omega)
  | k + 1 => fun a m b P A B Q spare W hk hN ha hm hb hA hB hsA hsB hR hC => by
    have hA0 := List.length_pos_iff.2 hA
    have hB0 := List.length_pos_iff.2 hB
    by_cases h1 : A.length = 1
    · obtain ⟨x, rfl⟩ := List.length_eq_one_iff.1 h1
      exact sym_left c hc g cap N S a m b P B Q x spare W hN hbig ha hm hb hB hsB hR hC
    · by_cases h2 : B.length = 1
      · obtain ⟨y, rfl⟩ := List.length_eq_one_iff.1 h2
        exact sym_right c hc g cap N S a m b P A Q y spare W hN hbig ha hm hb (by omega) hsA hR hC
      · exact sym_gen c hc g cap N S a m b k hbig (sym_all c hc g cap N S hbig k) P A B Q spare W hk hN ha hm hb (by omega) (by omega) hsA hsB hR hC
end Go.Proofs.Ytghpjlohoehdnaa.Sep

/-! A list in order block by block, and the blocks merged. No condition beyond those that each theorem names. -/
namespace Go.Proofs.Ytghpjlohoehdnaa.Sep
open Go Go.RowKit Go.Shelf
set_option linter.unusedVariables false
set_option linter.unusedSimpArgs false
variable {α : Type} {f : α → α → Int}
theorem insD_len2 (f : α → α → Int) (x : α) : ∀ l : List α, (insD f x l).length = l.length + 1
  | [] => rfl
  | y :: l => by
    rw [insD]
    split
    · rw [List.length_cons, insD_len2 f x l, List.length_cons]
    · rfl
theorem stb_len2 (f : α → α → Int) (l : List α) : (stb f l).length = l.length := by
  have h : ∀ (l acc : List α), (l.foldl (fun r x => insD f x r) acc).length = acc.length + l.length := by
    intro l
    induction l with
    | nil => intro acc; rfl
    | cons x t ih =>
      intro acc
      rw [List.foldl_cons, ih, insD_len2, List.length_cons]
      omega
  have := h l []
  rw [List.length_nil, Nat.zero_add] at this
  unfold stb
  rw [List.length_reverse]
  exact this
/-- the first k blocks, each in order -/
def sbp (f : α → α → Int) (bs : Nat) : Nat → List α → List α
  | 0, _ => []
  | k + 1, l => stb f (l.take bs) ++ sbp f bs k (l.drop bs)
theorem sbp_nil (bs : Nat) : ∀ k, sbp f bs k ([] : List α) = []
  | 0 => rfl
  | k + 1 => by
    rw [sbp, List.take_nil, List.drop_nil, sbp_nil bs k]
    rfl
theorem sbp_snoc (bs : Nat) : ∀ (k : Nat) (l : List α), sbp f bs (k + 1) l = sbp f bs k l ++ stb f ((l.drop (bs * k)).take bs)
  | 0, l => by simp [sbp]
  | k + 1, l => by
    rw [sbp, sbp_snoc bs k (l.drop bs), sbp, List.append_assoc, List.drop_drop]
    congr 4
    rw [Nat.mul_add, Nat.mul_one]
    congr 1
    omega
theorem sbp_len (bs : Nat) : ∀ (k : Nat) (l : List α), bs * k ≤ l.length → (sbp f bs k l).length = bs * k
  | 0, l, _ => rfl
  | k + 1, l, h => by
    rw [Nat.mul_add, Nat.mul_one] at h
    rw [sbp, List.length_append, stb_len2, sbp_len bs k _ (by rw [List.length_drop]; omega), List.length_take, Nat.mul_add, Nat.mul_one]
    omega
/-- all blocks, each in order -/
def sba (f : α → α → Int) (bs : Nat) (l : List α) : List α := sbp f bs l.length l
theorem sbp_full {bs : Nat} (hb : 1 ≤ bs) : ∀ (k j : Nat) (l : List α), l.length ≤ bs * k → l.length ≤ bs * j → sbp f bs k l = sbp f bs j l
  | 0, j, l, h, _ => by
    have : l = [] := List.eq_nil_of_length_eq_zero (by omega)
    rw [this, sbp_nil, sbp_nil]
  | k + 1, 0, l, _, h => by
    have : l = [] := List.eq_nil_of_length_eq_zero (by omega)
    rw [this, sbp_nil, sbp_nil]
  | k + 1, j + 1, l, h1, h2 => by
    rw [Nat.mul_add, Nat.mul_one] at h1 h2
    rw [sbp, sbp, sbp_full hb k j _ (by rw [List.length_drop]; omega) (by rw [List.length_drop]; omega)]
theorem le_mul_self {n bs : Nat} (hb : 1 ≤ bs) : n ≤ bs * n := by
  calc n = 1 * n := (Nat.one_mul n).symm
    _ ≤ bs * n := Nat.mul_le_mul_right n hb
theorem sba_of {bs : Nat} (hb : 1 ≤ bs) (k : Nat) (l : List α) (h : l.length ≤ bs * k) : sbp f bs k l = sba f bs l := sbp_full hb k l.length l h (le_mul_self hb)
theorem sba_cons {bs : Nat} (hb : 1 ≤ bs) (l : List α) : sba f bs l = stb f (l.take bs) ++ sba f bs (l.drop bs) := by
  rw [← sba_of hb (l.length + 1) l (Nat.le_trans (Nat.le_succ _) (le_mul_self hb)), sbp, sba_of hb l.length _ (by rw [List.length_drop]; exact Nat.le_trans (Nat.sub_le _ _) (le_mul_self hb))]
theorem sba_nil (bs : Nat) : sba f bs ([] : List α) = [] := rfl
theorem sba_one {bs : Nat} (hb : 1 ≤ bs) {l : List α} (h : l.length ≤ bs) : sba f bs l = stb f l := by
  rw [sba_cons hb, List.take_of_length_le h, List.drop_eq_nil_of_le h, sba_nil, List.append_nil]
theorem sba_mem (h : Cmp3 f) {bs : Nat} : ∀ (k : Nat) (l : List α) (x : α), x ∈ sbp f bs k l → x ∈ l
  | 0, l, x, hx => by cases hx
  | k + 1, l, x, hx => by
    rw [sbp] at hx
    rcases List.mem_append.1 hx with hx | hx
    · exact List.mem_of_mem_take (stb_mem h hx)
    · exact List.mem_of_mem_drop (sba_mem h k _ x hx)
/-- the merge of two blocks in order is the order of both -/
theorem stb_app (h : Cmp3 f) (A B : List α) : stb f (stb f A ++ stb f B) = stb f (A ++ B) := by
  refine (stb_uniq h (stb_srt h _) fun v => ?_).symm
  rw [stb_same h (A ++ B) v, List.filter_append, List.filter_append, stb_same h A v, stb_same h B v]
/-- a block twice as long -/
theorem sba_two (h : Cmp3 f) {bs : Nat} (hb : 1 ≤ bs) (r : List α) : sba f bs r = stb f (r.take bs) ++ stb f ((r.drop bs).take bs) ++ sba f bs (r.drop (2 * bs)) := by
  rw [sba_cons hb r, sba_cons hb (r.drop bs), List.drop_drop, List.append_assoc, Nat.two_mul]
theorem stb_two (h : Cmp3 f) (bs : Nat) (r : List α) : stb f (stb f (r.take bs) ++ stb f ((r.drop bs).take bs)) = stb f (r.take (2 * bs)) := by
  rw [stb_app h, Nat.two_mul, List.take_add]
theorem sink_shift (c : List V3 → List V3 → Int) (P : List It2) {a : Nat} (ha : P.length = a) : ∀ (n : Nat) (L : List It2), n < L.length → sink c a (a + n) (P ++ L) = P ++ sink c 0 n L
  | 0, L, _ => by
    rw [Nat.add_zero, sink_at]
    rfl
  | n + 1, L, h => by
    subst ha
    have e1 : (P ++ L)[P.length + n + 1]? = L[n + 1]? := by rw [List.getElem?_append_right (by omega)]; congr 1; omega
    have e2 : (P ++ L)[P.length + n]? = L[n]? := by rw [List.getElem?_append_right (by omega)]; congr 1; omega
    rw [show P.length + (n + 1) = P.length + n + 1 from rfl, sink, sink, e1, e2]
    by_cases hc : c ((L[n + 1]?.getD zI).2) ((L[n]?.getD zI).2) < 0
    · rw [if_pos ⟨by omega, hc⟩, if_pos ⟨by omega, hc⟩]
      rw [List.set_append_right _ _ (by omega), List.set_append_right _ _ (by omega), show P.length + n + 1 - P.length = n + 1 by omega, show P.length + n - P.length = n by omega]
      exact sink_shift c P rfl n _ (by simp; omega)
    · rw [if_neg (fun h => hc h.2), if_neg (fun h => hc h.2)]
theorem isort_shift (c : List V3 → List V3 → Int) (P : List It2) {a : Nat} (ha : P.length = a) : ∀ (n : Nat) (L : List It2), n ≤ L.length → isort c a n (P ++ L) = P ++ isort c 0 n L
  | 0, L, _ => rfl
  | n + 1, L, h => by
    rw [isort, isort, isort_shift c P ha n L (by omega), sink_shift c P ha n _ (by rw [isort_len]; omega), Nat.zero_add]
/-- the insertion sort of a part -/
theorem isort_part (c : List V3 → List V3 → Int) (P M Q : List It2) {a n : Nat} (ha : P.length = a) (hn : M.length = n) : isort c a n (P ++ M ++ Q) = P ++ stb (on2 c) M ++ Q := by
  rw [List.append_assoc, isort_shift c P ha n _ (by rw [List.length_append]; omega), isort_ins c (M ++ Q) n (by rw [List.length_append]; omega), List.append_assoc]
  congr 2
  · rw [List.take_left' hn]
    rfl
  · exact List.drop_left' hn
end Go.Proofs.Ytghpjlohoehdnaa.Sep

/-! slices.stableCmpFunc over any rows, walked. No condition beyond those that each theorem names. -/
namespace Go.Proofs.Ytghpjlohoehdnaa.Sep
open Go Go.RowKit Go.Shelf
set_option linter.unusedVariables false
set_option linter.unusedSimpArgs false
theorem isort_int (g cap N : Nat) (va vb : Int) (P M Q : List It2) (spare : List Value) (c : List V3 → List V3 → Int) (S : Nat) (W : World) (hN : (P ++ M ++ Q).length = N) (hn : N ≤ 100000) (ha : va = P.length) (hb : vb = ((P.length + M.length : Nat) : Int)) (hR : RowB W g (P ++ M ++ Q) spare) (hC : CmpFn W g (P ++ M ++ Q) c (.pointer (some ⟨S, 0, none⟩))) :
    Calls Try.prog 85 #[.slice (some ⟨g, 0, none⟩) N cap, .int .i64 va, .int .i64 vb, .func (.func 51) #[.pointer (some ⟨S, 0, none⟩)] #[]] W (SymPost g P (stb (on2 c) M) Q spare W) := by
  subst ha hb hN
  refine (isort_ok g cap P.length (P.length + M.length) _ spare c S W (by omega) (by simp) hn hR hC).mono ?_
  rintro e W' ⟨h1, h2, h3⟩
  rw [show P.length + M.length - P.length = M.length by omega, isort_part c P M Q rfl rfl] at h2
  exact ⟨h1, h2, h3⟩
theorem sym_int (c : List V3 → List V3 → Int) (hc : Cmp3 c) (g cap N S : Nat) (va vm vb : Int) (P A B Q : List It2) (spare : List Value) (W : World) (hbig : N ≤ 100000) (hN : (P ++ A ++ B ++ Q).length = N) (ha : va = P.length) (hm : vm = ((P.length + A.length : Nat) : Int)) (hb : vb = ((P.length + A.length + B.length : Nat) : Int))
    (hA : A ≠ []) (hB : B ≠ []) (hsA : Srt (on2 c) A) (hsB : Srt (on2 c) B) (hR : RowB W g (P ++ A ++ B ++ Q) spare) (hC : CmpFn W g (P ++ A ++ B ++ Q) c (.pointer (some ⟨S, 0, none⟩))) :
    Calls Try.prog 86 #[.slice (some ⟨g, 0, none⟩) N cap, .int .i64 va, .int .i64 vm, .int .i64 vb, .func (.func 51) #[.pointer (some ⟨S, 0, none⟩)] #[]] W (SymPost g P (stb (on2 c) (A ++ B)) Q spare W) := by
  subst ha hm hb
  exact sym_all c hc g cap N S hbig _ _ _ _ P A B Q spare W (Nat.le_refl _) hN rfl rfl rfl hA hB hsA hsB hR hC
/-- what the sort holds -/
structure StI (g : Nat) (L : List It2) (spare : List Value) (W w : World) : Prop where
  row : RowB w g L spare
  near : Near g W w
theorem sba_len {α : Type} {f : α → α → Int} {bs : Nat} (hb : 1 ≤ bs) (l : List α) : (sba f bs l).length = l.length := by
  have h : ∀ (k : Nat) (l : List α), l.length ≤ k → (sba f bs l).length = l.length := by
    intro k
    induction k with
    | zero =>
      intro l hl
      rw [List.eq_nil_of_length_eq_zero (by omega : l.length = 0)]
      rfl
    | succ k ih =>
      intro l hl
      cases l with
      | nil => rfl
      | cons x t =>
        rw [sba_cons hb, List.length_append, stb_len2, ih _ (by rw [List.length_drop]; simp only [List.length_cons] at hl ⊢; omega), List.length_take, List.length_drop]
        omega
  exact h _ l (Nat.le_refl _)
theorem ne_of_len {α : Type} {l : List α} (h : 0 < l.length) : l ≠ [] := List.length_pos_iff.1 h
set_option maxRecDepth 100000 in
set_option maxHeartbeats 8000000 in
theorem stable_all (c : List V3 → List V3 → Int) (hc : Cmp3 c) (g cap n : Nat) (l0 : List It2) (spare : List Value) (S : Nat) (W : World) (hl : l0.length = n) (hn : n ≤ 1000) (hR : RowB W g l0 spare) (hC : CmpFn W g l0 c (.pointer (some ⟨S, 0, none⟩))) :
    Calls Try.prog 74 #[.slice (some ⟨g, 0, none⟩) n cap, .int .i64 n, .func (.func 51) #[.pointer (some ⟨S, 0, none⟩)] #[]] W fun e W' => e = .returned (.tuple #[]) ∧ RowB W' g (stb (on2 c) l0) spare ∧ Near g W W' := by
  have hmx : Try.prog.follows .mixedOrders = true := by kernel_rfl
  have hc' : Cmp3 (on2 c) := hc.pull Prod.snd
  have HR := Aside0.mk (And.intro hl (And.intro hR hC))
  clear hl hR hC
  go_enter Try.func74, Try.ntmps74
  go_wp2
  go_loopw [7, 8] (fun v7 v8 wr => ∃ a : Nat, a ≤ n ∧ v7 = .int .i64 (a : Int) ∧ v8 = .int .i64 ((a : Int) + 20) ∧ Aside0 (∃ k, a = 20 * k ∧ StI g (sbp (on2 c) 20 k l0 ++ l0.drop a) spare W wr)) (fun v7 _ _ => n + 40 - (intOf v7).toNat)
  case atStart => exact ⟨0, Nat.zero_le _, rfl, rfl, ⟨⟨0, rfl, HR.out.2.1, Near.refl g W⟩⟩⟩
  case round =>
    obtain ⟨a, han, rfl, rfl, HS⟩ := hrel
    obtain ⟨k, hak, hSt⟩ := HS.out
    have hpl : (sbp (on2 c) 20 k l0).length = a := by rw [sbp_len 20 k l0 (by have := HR.out.1; omega), hak]
    have HK := Aside0.mk (And.intro hak (And.intro hSt hpl))
    have HM := Aside0.mk (show ∀ x ∈ sbp (on2 c) 20 k l0 ++ l0.drop a, x ∈ l0 from fun x hx => by
      rcases List.mem_append.1 hx with h | h
      · exact sba_mem hc' k l0 x h
      · exact List.mem_of_mem_drop h)
    clear hak hSt hpl HS
    by_cases hlt : a + 20 ≤ n
    · have hd1 : decide ((a : Int) + 20 ≤ (n : Int)) = true := decide_eq_true (by omega)
      have hsp : sbp (on2 c) 20 k l0 ++ l0.drop a = sbp (on2 c) 20 k l0 ++ (l0.drop a).take 20 ++ (l0.drop a).drop 20 := by rw [List.append_assoc, List.take_append_drop]
      have HI := Aside0.mk (isort_int g cap n (a : Int) ((a : Int) + 20) (sbp (on2 c) 20 k l0) ((l0.drop a).take 20) ((l0.drop a).drop 20) spare c S wr (by rw [← hsp, List.length_append, HK.out.2.2, List.length_drop]; have := HR.out.1; omega) (by omega) (by rw [HK.out.2.2]) (by rw [HK.out.2.2, List.length_take, List.length_drop]; have := HR.out.1; omega) (by rw [← hsp]; exact HK.out.2.1.row) (by rw [← hsp]; exact HR.out.2.2.to HK.out.2.1.near HM.out))
      clear hsp
      go_wp2_with (go_at_call 85; refine HI.out.mono ?_; rintro e w3 ⟨rfl, hb3, hn3⟩; have HB3 := Aside0.mk (And.intro hb3 hn3); clear hb3 hn3)
      go_roundw
      case rel => exact ⟨a + 20, hlt, by simp, by simp, ⟨⟨k + 1, by have := HK.out.1; omega, by
        rw [sbp_snoc, ← HK.out.1, show l0.drop (a + 20) = (l0.drop a).drop 20 by rw [List.drop_drop]]
        exact HB3.out.1, HK.out.2.1.near.trans HB3.out.2⟩⟩⟩
      case measure => simp [intOf]; omega
    · have hd1 : decide ((a : Int) + 20 ≤ (n : Int)) = false := decide_eq_false (by omega)
      have HI := Aside0.mk (isort_int g cap n (a : Int) (n : Int) (sbp (on2 c) 20 k l0) (l0.drop a) [] spare c S wr (by rw [List.append_nil, List.length_append, HK.out.2.2, List.length_drop]; have := HR.out.1; omega) (by omega) (by rw [HK.out.2.2]) (by rw [HK.out.2.2, List.length_drop]; have := HR.out.1; omega) (by rw [List.append_nil]; exact HK.out.2.1.row) (by rw [List.append_nil]; exact HR.out.2.2.to HK.out.2.1.near HM.out))
      have hlt2 : n < a + 20 := by omega
      clear hlt
      go_upto_region 7 with (go_at_call 85; refine HI.out.mono ?_; rintro e w3 ⟨rfl, hb3, hn3⟩; have HB3 := Aside0.mk (And.intro hb3 hn3); clear hb3 hn3)
      have HS := Aside0.mk (show StI g (sba (on2 c) 20 l0) spare W w3 from by
        have h1 : sba (on2 c) 20 l0 = sbp (on2 c) 20 k l0 ++ stb (on2 c) (l0.drop a) ++ [] := by
          rw [← sba_of (by decide) (k + 1) l0 (by have := HK.out.1; have := HR.out.1; omega), sbp_snoc, ← HK.out.1, List.append_nil, List.take_of_length_le (by rw [List.length_drop]; have := HR.out.1; omega)]
        rw [h1]
        exact ⟨HB3.out.1, HK.out.2.1.near.trans HB3.out.2⟩)
      clear HI HB3 HK HM
      go_loopw [6] (fun v6 w4 => ∃ bs : Nat, 20 ≤ bs ∧ bs ≤ 2000 ∧ v6 = .int .i64 (bs : Int) ∧ Aside0 (StI g (sba (on2 c) bs l0) spare W w4)) (fun v6 _ => 4000 - (intOf v6).toNat)
      case atStart => exact ⟨20, Nat.le_refl _, by omega, rfl, HS⟩
      case round =>
        obtain ⟨bs, hb20, hb2, rfl, HS2⟩ := hrel
        by_cases hlt : bs < n
        · have hd2 : decide ((bs : Int) < (n : Int)) = true := decide_eq_true (by omega)
          have hd3 : decide (bs < n) = true := decide_eq_true hlt
          obtain ⟨D, hD⟩ : ∃ D, 2 * bs = D := ⟨_, rfl⟩
          have hDi : (2 : Int) * (bs : Int) = (D : Int) := by omega
          have hDj : (bs : Int) * 2 = (D : Int) := by omega
          have HDD := Aside0.mk hD
          have hDm : D ≤ 4000 := by omega
          clear hD
          go_wp2
          have HS3 := Aside0.mk (show ∃ i, 0 = D * i ∧ StI g (sbp (on2 c) D i l0 ++ sba (on2 c) bs (l0.drop 0)) spare W wr from ⟨0, rfl, HS2.out⟩)
          go_loopw [7, 8] (fun v7 v8 w5 => ∃ x : Nat, x ≤ n ∧ v7 = .int .i64 (x : Int) ∧ v8 = .int .i64 ((x : Int) + (D : Int)) ∧ Aside0 (∃ i, x = D * i ∧ StI g (sbp (on2 c) D i l0 ++ sba (on2 c) bs (l0.drop x)) spare W w5)) (fun v7 _ _ => 2 * n + 5000 - (intOf v7).toNat)
          case atStart => exact ⟨0, Nat.zero_le _, rfl, by simp, HS3⟩
          case round =>
            obtain ⟨x, hxn, rfl, rfl, HX⟩ := hrel
            obtain ⟨i, hxi, hSt⟩ := HX.out
            have hpl : (sbp (on2 c) D i l0).length = x := by rw [sbp_len D i l0 (by have := HR.out.1; omega), hxi]
            have HK := Aside0.mk (And.intro hxi (And.intro hSt hpl))
            have HM := Aside0.mk (show ∀ y ∈ sbp (on2 c) D i l0 ++ sba (on2 c) bs (l0.drop x), y ∈ l0 from fun y hy => by
              rcases List.mem_append.1 hy with h | h
              · exact sba_mem hc' i l0 y h
              · exact List.mem_of_mem_drop (sba_mem hc' _ _ y h))
            have hrl : (l0.drop x).length = n - x := by rw [List.length_drop, HR.out.1]
            have HRl := Aside0.mk hrl
            clear hxi hSt hpl HX hrl HS3 HS2 HS
            by_cases hlt3 : x + D ≤ n
            · have hd4 : decide ((x : Int) + (D : Int) ≤ (n : Int)) = true := decide_eq_true (by omega)
              have HE := Aside0.mk (show sbp (on2 c) D i l0 ++ sba (on2 c) bs (l0.drop x) = sbp (on2 c) D i l0 ++ stb (on2 c) ((l0.drop x).take bs) ++ stb (on2 c) (((l0.drop x).drop bs).take bs) ++ sba (on2 c) bs ((l0.drop x).drop D) from by
                rw [sba_two hc' (by omega) (l0.drop x), HDD.out]
                simp only [List.append_assoc])
              have HI := Aside0.mk (sym_int c hc g cap n S (x : Int) ((x : Int) + (bs : Int)) ((x : Int) + (D : Int)) (sbp (on2 c) D i l0) (stb (on2 c) ((l0.drop x).take bs)) (stb (on2 c) (((l0.drop x).drop bs).take bs)) (sba (on2 c) bs ((l0.drop x).drop D)) spare wr (by omega)
                (by
                  have h1 : (sba (on2 c) bs (l0.drop x)).length = n - x := by rw [← HRl.out]; exact sba_len (by omega) _
                  rw [← HE.out, List.length_append, HK.out.2.2, h1]
                  omega)
                (by rw [HK.out.2.2]) (by rw [HK.out.2.2, stb_len2, List.length_take, HRl.out]; have := HDD.out; omega) (by have h9 := HRl.out; rw [List.length_drop] at h9; simp only [HK.out.2.2, stb_len2, List.length_take, List.length_drop]; have := HDD.out; omega)
                (ne_of_len (by rw [stb_len2, List.length_take, HRl.out]; have := HDD.out; omega)) (ne_of_len (by rw [stb_len2, List.length_take, List.length_drop, HRl.out]; have := HDD.out; omega)) (stb_srt hc' _) (stb_srt hc' _) (by rw [← HE.out]; exact HK.out.2.1.row) (by rw [← HE.out]; exact HR.out.2.2.to HK.out.2.1.near HM.out))
              go_wp2_with (go_at_call 86; refine HI.out.mono ?_; rintro e w6 ⟨rfl, hb3, hn3⟩; have HB3 := Aside0.mk (And.intro hb3 hn3); clear hb3 hn3)
              go_roundw
              case rel => exact ⟨x + D, hlt3, by simp, by simp, ⟨⟨i + 1, by rw [Nat.mul_add, Nat.mul_one, ← HK.out.1], by
                have h2 : sbp (on2 c) D (i + 1) l0 ++ sba (on2 c) bs (l0.drop (x + D)) = sbp (on2 c) D i l0 ++ stb (on2 c) (stb (on2 c) ((l0.drop x).take bs) ++ stb (on2 c) (((l0.drop x).drop bs).take bs)) ++ sba (on2 c) bs ((l0.drop x).drop D) := by
                  rw [sbp_snoc, ← HK.out.1, stb_two hc', HDD.out, List.drop_drop]
                rw [h2]
                exact ⟨HB3.out.1, HK.out.2.1.near.trans HB3.out.2⟩⟩⟩⟩
              case measure => simp [intOf]; omega
            · have hd4 : decide ((x : Int) + (D : Int) ≤ (n : Int)) = false := decide_eq_false (by omega)
              have hlt4 : n < x + D := by omega
              clear hlt3
              by_cases hlt5 : x + bs < n
              · have hd5 : decide ((x : Int) + (bs : Int) < (n : Int)) = true := decide_eq_true (by omega)
                have HE := Aside0.mk (show sbp (on2 c) D i l0 ++ sba (on2 c) bs (l0.drop x) = sbp (on2 c) D i l0 ++ stb (on2 c) ((l0.drop x).take bs) ++ stb (on2 c) ((l0.drop x).drop bs) ++ [] from by
                  rw [sba_cons (by omega) (l0.drop x), sba_one (by omega) (by rw [List.length_drop, HRl.out]; have := HDD.out; omega)]
                  simp only [List.append_assoc, List.append_nil])
                have HI := Aside0.mk (sym_int c hc g cap n S (x : Int) ((x : Int) + (bs : Int)) (n : Int) (sbp (on2 c) D i l0) (stb (on2 c) ((l0.drop x).take bs)) (stb (on2 c) ((l0.drop x).drop bs)) [] spare wr (by omega)
                  (by
                    have h1 : (sba (on2 c) bs (l0.drop x)).length = n - x := by rw [← HRl.out]; exact sba_len (by omega) _
                    rw [← HE.out, List.length_append, HK.out.2.2, h1]
                    omega)
                  (by rw [HK.out.2.2]) (by rw [HK.out.2.2, stb_len2, List.length_take, HRl.out]; have := HDD.out; omega) (by have h9 := HRl.out; rw [List.length_drop] at h9; simp only [HK.out.2.2, stb_len2, List.length_take, List.length_drop]; have := HDD.out; omega)
                  (ne_of_len (by rw [stb_len2, List.length_take, HRl.out]; have := HDD.out; omega)) (ne_of_len (by rw [stb_len2, List.length_drop, HRl.out]; omega)) (stb_srt hc' _) (stb_srt hc' _) (by rw [← HE.out]; exact HK.out.2.1.row) (by rw [← HE.out]; exact HR.out.2.2.to HK.out.2.1.near HM.out))
                go_wp2_with (go_at_call 86; refine HI.out.mono ?_; rintro e w6 ⟨rfl, hb3, hn3⟩; have HB3 := Aside0.mk (And.intro hb3 hn3); clear hb3 hn3)
                go_roundw
                case rel => exact ⟨D, by have := HDD.out; omega, by have := HDD.out; omega, rfl, ⟨by
                  have h2 : sba (on2 c) D l0 = sbp (on2 c) D i l0 ++ stb (on2 c) (stb (on2 c) ((l0.drop x).take bs) ++ stb (on2 c) ((l0.drop x).drop bs)) ++ [] := by
                    rw [stb_app hc', List.take_append_drop, List.append_nil, ← sba_of (by have := HDD.out; omega) (i + 1) l0 (by rw [Nat.mul_add, Nat.mul_one, ← HK.out.1]; have := HR.out.1; omega), sbp_snoc, ← HK.out.1, List.take_of_length_le (by rw [HRl.out]; omega)]
                  rw [h2]
                  exact ⟨HB3.out.1, HK.out.2.1.near.trans HB3.out.2⟩⟩⟩
                case measure => simp [intOf]; have := HDD.out; omega
              · have hd5 : decide ((x : Int) + (bs : Int) < (n : Int)) = false := decide_eq_false (by omega)
                go_wp2
                go_roundw
                case rel => exact ⟨D, by have := HDD.out; omega, by have := HDD.out; omega, rfl, ⟨by
                  have h2 : sba (on2 c) D l0 = sbp (on2 c) D i l0 ++ sba (on2 c) bs (l0.drop x) := by
                    rw [← sba_of (by have := HDD.out; omega) (i + 1) l0 (by rw [Nat.mul_add, Nat.mul_one, ← HK.out.1]; have := HR.out.1; omega), sbp_snoc, ← HK.out.1, List.take_of_length_le (by rw [HRl.out]; omega), sba_one (by omega) (by rw [HRl.out]; omega)]
                  rw [h2]
                  exact HK.out.2.1⟩⟩
                case measure => simp [intOf]; have := HDD.out; omega
        · have hd2 : decide ((bs : Int) < (n : Int)) = false := decide_eq_false (by omega)
          have hd3 : decide (bs < n) = false := decide_eq_false hlt
          have HF := Aside0.mk (show sba (on2 c) bs l0 = stb (on2 c) l0 from sba_one (by omega) (by have := HR.out.1; omega))
          go_wp2
          go_end0
          rw [← HF.out]
          exact ⟨rfl, HS2.out.row, HS2.out.near⟩
set_option maxHeartbeats 4000000 in
theorem sortStable_all (c : List V3 → List V3 → Int) (hc : Cmp3 c) (g cap : Nat) (its : List It2) (spare : List Value) (S : Nat) (W : World) (hn : its.length ≤ 1000) (hR : RowB W g its spare) (hC : CmpFn W g its c (.pointer (some ⟨S, 0, none⟩))) :
    Calls Try.prog 50 #[.slice (some ⟨g, 0, none⟩) its.length cap, .func (.func 51) #[.pointer (some ⟨S, 0, none⟩)] #[]] W fun e W' => e = .returned (.tuple #[]) ∧ RowB W' g (stb (on2 c) its) spare ∧ Near g W W' := by
  have hmx : Try.prog.follows .mixedOrders = true := by kernel_rfl
  obtain ⟨n, hN⟩ : ∃ n, its.length = n := ⟨_, rfl⟩
  have HI := Aside0.mk (stable_all c hc g cap n its spare S W hN (by omega) hR hC)
  rw [hN]
  clear hn hR hC hN
  go_enter Try.func50, Try.ntmps50
  go_wp2_with (first | (go_at_call 74; refine HI.out.mono ?_; rintro e w3 ⟨rfl, hb, hn3⟩; have HB3 := Aside0.mk hb; have HN3 := Aside0.mk hn3; clear hb hn3))
  go_end0
  exact ⟨rfl, HB3.out, HN3.out⟩
/-- the sort of a Sorter is THE stable order, of however many rows -/
theorem stabOK_all (m : Nat) (by_ : Order) (hm : m ≤ 1000) : StabOK m by_ := fun g cap its spare S W hl hR hC =>
  (sortStable_all _ (cmpR_ord by_) g cap its spare S W (by omega) hR hC).mono fun e W' ⟨h1, h2, h3⟩ => ⟨h1, stb (on2 fun a b => cmpR a b by_) its, stb_len2 _ _, fun i hi => stb_mem ((cmpR_ord by_).pull Prod.snd) hi, by
    have hc := cmpR_ord by_
    have hc' : Cmp3 (on2 fun a b => cmpR a b by_) := hc.pull Prod.snd
    exact stab_uniq hc (srt_map.2 (stb_srt hc' its)) (same_map (stb_same hc' its)), h2, h3⟩
end Go.Proofs.Ytghpjlohoehdnaa.Sep

/-! How many rows each run has: a Sorter's Runs, the law's runs, SameInts, walked. No condition beyond those that each theorem names. -/
namespace Go.Proofs.Ytghpjlohoehdnaa.Sep
open Go Go.RowKit Go.Shelf
set_option linter.unusedVariables false
set_option linter.unusedSimpArgs false
/-- the lengths of runs, merged as long as there are so many of one length -/
def laysN (hand : Nat) : Nat → List Nat → List Nat
  | 0, l => l
  | f + 1, l => if l.length < hand then l else
    if (l.drop (l.length - hand)).any (fun n => !(n == ((l.drop (l.length - hand)).head?.getD 0))) then l else laysN hand f (l.take (l.length - hand) ++ [(l.drop (l.length - hand)).sum])
theorem laysR_lens {α : Type} (hand : Nat) : ∀ (f : Nat) (l : List (List α)), (laysR hand f l).map List.length = laysN hand f (l.map List.length)
  | 0, l => rfl
  | f + 1, l => by
    rw [laysR, laysN, List.length_map]
    have e : ((l.map List.length).drop (l.length - hand)) = (l.drop (l.length - hand)).map List.length := List.map_drop.symm
    have e2 : (((l.drop (l.length - hand)).map List.length).head?.getD 0) = ((l.drop (l.length - hand)).head?.getD []).length := by
      cases l.drop (l.length - hand) with
      | nil => rfl
      | cons x t => rfl
    rw [e, e2]
    by_cases h1 : l.length < hand
    · rw [if_pos h1, if_pos h1]
    · rw [if_neg h1, if_neg h1]
      by_cases h2 : ((l.drop (l.length - hand)).map List.length).any (fun n => !(n == ((l.drop (l.length - hand)).head?.getD []).length)) = true
      · rw [if_pos h2, if_pos h2]
      · rw [if_neg h2, if_neg h2, laysR_lens hand f, List.map_append, List.map_take]
        congr 2
        simp [List.length_flatten]
/-- the lengths, when i times so many rows came -/
def runsN (most : Nat) : Nat → List Nat
  | 0 => []
  | i + 1 => laysN most (runsN most i ++ [most]).length (runsN most i ++ [most])
theorem laysN_sum (hand : Nat) : ∀ (f : Nat) (l : List Nat), (laysN hand f l).sum = l.sum
  | 0, l => rfl
  | f + 1, l => by
    rw [laysN]
    split
    · rfl
    · split
      · rfl
      · rw [laysN_sum hand f, List.sum_append, List.sum_cons, List.sum_nil, Nat.add_zero, ← List.sum_append, List.take_append_drop]
theorem laysN_len (hand : Nat) (hh : 2 ≤ hand) : ∀ (f : Nat) (l : List Nat), (laysN hand f l).length ≤ l.length
  | 0, l => Nat.le_refl _
  | f + 1, l => by
    rw [laysN]
    split
    · exact Nat.le_refl _
    · split
      · exact Nat.le_refl _
      · refine Nat.le_trans (laysN_len hand hh f _) ?_
        rw [List.length_append, List.length_take, List.length_singleton]
        omega
theorem runsN_sum (most : Nat) : ∀ i, (runsN most i).sum = most * i
  | 0 => rfl
  | i + 1 => by rw [runsN, laysN_sum, List.sum_append, runsN_sum most i, List.sum_cons, List.sum_nil, Nat.mul_add]; omega
theorem runsN_len (most : Nat) (hm : 2 ≤ most) : ∀ i, (runsN most i).length ≤ i
  | 0 => Nat.le_refl _
  | i + 1 => by
    rw [runsN]
    refine Nat.le_trans (laysN_len most hm _ _) ?_
    rw [List.length_append, List.length_singleton]
    have := runsN_len most hm i
    omega
/-- what Put makes of the lengths of the runs -/
structure RunsI (hand k : Nat) (ins : List (List (List V3))) (now : List (List V3)) : Prop where
  runs : ins.map List.length = runsN hand (k / hand)
  now : now.length = k % hand
theorem RunsI.step {hand k : Nat} (hh : 2 ≤ hand) {ins : List (List (List V3))} {now : List (List V3)} (h : RunsI hand k ins now) (r : List V3) : RunsI hand (k + 1) (putP hand ins now r).1 (putP hand ins now r).2 := by
  have h2 := h.now
  have h3 := Nat.mod_lt k (show 0 < hand by omega)
  have h4 := Nat.div_add_mod k hand
  unfold putP
  split
  · rename_i hge
    have e1 : k % hand + 1 = hand := by omega
    have e2 : (k + 1) / hand = k / hand + 1 := by
      rw [show k + 1 = hand * (k / hand + 1) by rw [Nat.mul_add]; omega]
      exact Nat.mul_div_cancel_left _ (by omega)
    have e3 : (k + 1) % hand = 0 := by
      rw [show k + 1 = hand * (k / hand + 1) by rw [Nat.mul_add]; omega]
      exact Nat.mul_mod_right _ _
    refine ⟨?_, by rw [e3]; rfl⟩
    show (laysR hand _ _).map List.length = _
    rw [laysR_lens, e2, runsN, List.map_append, h.runs]
    have e4 : (ins ++ [now ++ [r]]).length = (runsN hand (k / hand) ++ [hand]).length := by
      have := congrArg List.length h.runs
      rw [List.length_map] at this
      rw [List.length_append, List.length_append, this]
      rfl
    rw [e4]
    congr 2
    simp
    omega
  · rename_i hlt
    have e2 : (k + 1) / hand = k / hand := by
      rw [show k + 1 = (k % hand + 1) + hand * (k / hand) by omega, Nat.add_mul_div_left _ _ (by omega), Nat.div_eq_of_lt (by omega), Nat.zero_add]
    have e3 : (k + 1) % hand = k % hand + 1 := by
      rw [show k + 1 = (k % hand + 1) + hand * (k / hand) by omega, Nat.add_mul_mod_self_left, Nat.mod_eq_of_lt (by omega)]
    refine ⟨by rw [e2]; exact h.runs, by rw [e3, List.length_append, h2]; rfl⟩
theorem infoI3 : (Try.prog.info? 3).map (fun i => (i.zero, i.size, i.bytes)) = some (some (.int .i64 0), 1, 8) := by kernel_rfl
abbrev nv (k : Nat) : Value := .int .i64 (k : Int)
/-- numbers that lie in a row of the call's own -/
def NumsB (W : World) (N : Nat) (v : Value) (l : List Nat) : Prop := W.ownsRow N 3 1 v l.length (l.map nv)
theorem nums_at {W : World} {N : Nat} {a : Option Addr} {n c : Nat} {l : List Nat} (h : NumsB W N (.slice a n c) l) (hn : l.length = n) {j : Nat} (hj : j < n) : ∃ g k, a = some ⟨g, 0, none⟩ ∧ g < W.heap.size ∧ N ≤ g ∧ l[j]? = some k ∧ W.cell? ⟨g, j, none⟩ = some (.int .i64 (k : Int)) := by
  obtain ⟨hl, h⟩ := h
  rcases h with ⟨e, h0⟩ | ⟨g, cap, cur, e, h1, h2, h3, h4, h5, h6⟩
  · omega
  · injection e with e1 _ _
    refine ⟨g, l[j]'(by omega), e1, (Array.getElem?_eq_some_iff.1 h2).1, h1, List.getElem?_eq_getElem _, ?_⟩
    refine cell_of_cells h2 ?_
    have h7 : (l.map nv)[j]? = some (nv (l[j]'(by omega))) := by rw [List.getElem?_map, List.getElem?_eq_getElem (by omega)]; rfl
    rw [← h6, List.getElem?_take] at h7
    split at h7
    · simpa using h7
    · cases h7
theorem nums_len {W : World} {N : Nat} {v : Value} {l : List Nat} (h : NumsB W N v l) : ∃ a c, v = .slice a l.length c ∧ l.length ≤ c := by
  rcases h.2 with ⟨rfl, h0⟩ | ⟨g, cap, cur, rfl, _, _, h3, _⟩
  · exact ⟨none, 0, by rw [h0], by omega⟩
  · exact ⟨_, cap, rfl, h3⟩
theorem nums_below {W W' : World} {N : Nat} {v : Value} {l : List Nat} (h : NumsB W N v l) (hb : Below W.heap.size W W') : NumsB W' N v l := ownsRow_same (fun j hj => hb.block j (own_ge h j hj).2) h
theorem one_nv (l : List Nat) : ∀ u ∈ l.map nv, u.oneCell' = true := by
  intro u hu
  obtain ⟨q, _, rfl⟩ := List.mem_map.1 hu
  rfl
set_option maxRecDepth 100000 in
set_option maxHeartbeats 4000000 in
theorem sameInts_ok (v1 v2 : Value) (l : List Nat) (N1 N2 : Nat) (W : World) (h1 : NumsB W N1 v1 l) (h2 : NumsB W N2 v2 l) (hl : l.length ≤ 1000) :
    Calls Try.prog 29 #[v1, v2] W fun e W' => e = .returned (.bool true) ∧ Below W.heap.size W W' := by
  have hmx : Try.prog.follows .mixedOrders = true := by kernel_rfl
  obtain ⟨a1, c1, rfl, _⟩ := nums_len h1
  obtain ⟨a2, c2, rfl, _⟩ := nums_len h2
  obtain ⟨n, hn⟩ : ∃ n, l.length = n := ⟨_, rfl⟩
  have HN := Aside0.mk hn
  rw [hn] at h1 h2 hl ⊢
  have H1 := Aside0.mk (And.intro h1 h2)
  clear h1 h2 hn
  go_enter Try.func29, Try.ntmps29
  go_wp2
  go_loopw [5] (fun v5 wr => ∃ i : Nat, i ≤ n ∧ v5 = .int .i64 (i : Int) ∧ Aside0 (Below W.heap.size W wr)) (fun v5 _ => n - (intOf v5).toNat)
  case atStart => exact ⟨0, Nat.zero_le _, rfl, ⟨Below.refl _ _⟩⟩
  case round =>
    obtain ⟨i, hin, rfl, HB⟩ := hrel
    by_cases hlt : i < n
    · have hd1 : decide ((i : Int) < (n : Int)) = true := decide_eq_true (by omega)
      have hd2 : decide (i < n) = true := decide_eq_true hlt
      obtain ⟨g1, k1, rfl, hg1, _, hk1, hc1⟩ := nums_at H1.out.1 HN.out hlt
      obtain ⟨g2, k2, rfl, hg2, _, hk2, hc2⟩ := nums_at H1.out.2 HN.out hlt
      rw [hk1] at hk2
      cases hk2
      have y1 := (cell_of_block (HB.out.block _ hg1) _).trans hc1
      have y2 := (cell_of_block (HB.out.block _ hg2) _).trans hc2
      clear hk1 hc1 hc2
      go_wp2
      go_quiet (fail)
      go_wp2
      go_roundw
      case rel => exact ⟨i + 1, hlt, by simp, ⟨below_drewN HB.out _⟩⟩
      case measure => simp [intOf] <;> omega
    · have hd1 : decide ((i : Int) < (n : Int)) = false := decide_eq_false (by omega)
      have hd2 : decide (i < n) = false := decide_eq_false hlt
      go_wp2
      refine bodyPost_ret (results_tmp rfl _ _ _) rfl ?_
      exact ⟨rfl, HB.out⟩
theorem nv_new (k : Int) (W : World) (T : TypeId) : ∀ j u, ([.int .i64 k] : List Value)[j]? = some u → (W.alloc (.cells #[.int .i64 k] T)).cell? ((⟨W.heap.size, 0, none⟩ : Addr).add j) = some u := by
  intro j u hj
  cases j with
  | zero => cases hj; exact (Boxed.new W T (.int .i64 k)).cell
  | succ j => cases hj
set_option maxRecDepth 100000 in
set_option maxHeartbeats 4000000 in
theorem runs30_ok (S : Nat) (by_ : Order) (hand : Nat) (ins : List (List (List V3))) (now : List (List V3)) (k : Nat) (done : Bool) (X : Nat → Prop) (W : World) (h : SR W S by_ hand ins now k done X) (hk : k ≤ 1000) :
    Calls Try.prog 30 #[.pointer (some ⟨S, 0, none⟩)] W fun e W' => ∃ v, e = .returned v ∧ NumsB W' W.heap.size v (ins.map List.length) ∧ Below W.heap.size W W' := by
  have hmx : Try.prog.follows .mixedOrders = true := by kernel_rfl
  obtain ⟨i0, hi, hz0, hz1, hz2⟩ := info_parts infoI3
  obtain ⟨nowI, runsI, D, so, nvv, rv, us, hx, e1, e2, e3, e4, e5, e6, e7⟩ := h
  have hlens : us.length = ins.length ∧ ∀ (j : Nat) (u : Value), us[j]? = some u → ∃ (a : Option Addr) (r : List (List V3)) (c : Nat), ins[j]? = some r ∧ u = Value.slice a r.length c := by
    have l1 := hx.runs.len
    have l2 := congrArg List.length e2
    rw [List.length_map, List.length_map] at l2
    refine ⟨by omega, fun j u hu => ?_⟩
    have hj := (List.getElem?_eq_some_iff.1 hu).1
    obtain ⟨a, c, h2⟩ := (hx.runs.get j u _ hu (List.getElem?_eq_getElem (by omega))).shape
    have h3 : (runsI.map (List.map Prod.snd))[j]? = (ins.map (stab fun a b => cmpR a b by_))[j]? := by rw [e2]
    rw [List.getElem?_map, List.getElem?_map, List.getElem?_eq_getElem (show j < runsI.length by omega), List.getElem?_eq_getElem (show j < ins.length by omega)] at h3
    have h4 := congrArg List.length (Option.some.inj h3)
    rw [List.length_map, stab_len] at h4
    exact ⟨a, _, c, List.getElem?_eq_getElem _, by rw [h2, h4]⟩
  have hrl : ins.length ≤ k := by have := flatten_ge e3; omega
  obtain ⟨ra, rc, rfl⟩ := own_slice hx.rown
  obtain ⟨n, hn⟩ : ∃ n, us.length = n := ⟨_, rfl⟩
  have c1 : W.cell? ⟨S, 1, none⟩ = some (.int .i64 hand) := cell_of_cells hx.cells rfl
  have y3 : W.cell? ⟨S, 3, none⟩ = some (.slice ra us.length rc) := cell_of_cells hx.cells rfl
  have hcs := own_one hx.rown
  rw [hn] at y3
  have HG := Aside0.mk (given_ok S hand W c1 (by omega))
  have HL := Aside0.mk (And.intro hlens (And.intro hn hcs))
  have hn2 : n ≤ 1000 := by have := hlens.1; omega
  clear hlens hx e1 e2 e3 e4 e5 e6 e7 hrl hn hcs c1
  go_enter Try.func30, Try.ntmps30
  go_wp2_with (first | (go_at_call 47; refine HG.out.mono ?_; rintro e w3 ⟨rfl, hw3⟩; cases hw3) | fail)
  go_loopw [3, 14] (fun v3 v14 wr => ∃ (i : Nat) (a3 : Option Addr) (c3 : Nat), i ≤ n ∧ v14 = .int .i64 (i : Int) ∧ v3 = .slice a3 i c3 ∧ Aside0 (NumsB wr W.heap.size (.slice a3 i c3) ((ins.take i).map List.length) ∧ (ins.take i).length = i) ∧ Aside0 (Below W.heap.size W wr)) (fun _ v14 _ => n - (intOf v14).toNat)
  case atStart => exact ⟨0, none, 0, Nat.zero_le _, rfl, rfl, ⟨World.ownsRow_nil _ _ _ _, rfl⟩, ⟨Below.refl _ _⟩⟩
  case round =>
    obtain ⟨i, a3, c3, hin, rfl, rfl, HO, HB⟩ := hrel
    by_cases hlt : i < n
    · have hd1 : decide ((i : Int) < (n : Int)) = true := decide_eq_true (by omega)
      have hd2 : decide (i < n) = true := decide_eq_true hlt
      obtain ⟨u, hu⟩ : ∃ u, us[i]? = some u := ⟨us[i]'(by have := HL.out.2.1; omega), List.getElem?_eq_getElem _⟩
      obtain ⟨qa, r, qc, hr, rfl⟩ := HL.out.1.2 i u hu
      obtain ⟨g, cap, e, _, hg, _, hc⟩ : ∃ g cap, Value.slice ra us.length rc = .slice (some ⟨g, 0, none⟩) us.length cap ∧ True ∧ g < W.heap.size ∧ True ∧ W.cell? ⟨g, i, none⟩ = some (.slice qa r.length qc) := by
        rcases HL.out.2.2 with ⟨e, _, h0⟩ | ⟨g, cap, e, _, hg, _, hc⟩
        · rw [h0] at hu
          cases hu
        · exact ⟨g, cap, e, trivial, hg, trivial, hc i _ hu⟩
      injection e with e1 _ e3
      subst e1 e3
      have y1 := (cell_of_block (HB.out.block _ hg) _).trans hc
      obtain ⟨m, hm⟩ : ∃ m, r.length = m := ⟨_, rfl⟩
      rw [hm] at y1
      have HT := Aside0.mk (show (ins.take (i + 1)).map List.length = (ins.take i).map List.length ++ [m] ∧ (ins.take (i + 1)).length = i + 1 from by
        have : ins.take (i + 1) = ins.take i ++ [r] := by rw [List.take_add_one, hr]; rfl
        refine ⟨by rw [this, List.map_append, ← hm]; rfl, by rw [this, List.length_append, HO.out.2]; rfl⟩)
      have HOw := Aside0.mk (show wr.ownsRow W.heap.size 3 1 (.slice a3 i c3) i (((ins.take i).map List.length).map nv) from by have := HO.out.1; unfold NumsB at this; rwa [List.length_map, HO.out.2] at this)
      have hsz := HB.out.size
      clear hu hr hm hc
      go_wp2_with (at_builtin; refine wpList_append_any rfl _ _ 55 rfl W.heap.size 3 i0 (.int .i64 0) 8 Try.underlying55 hi hz0 hz1 hz2 rfl (.slice a3 i c3) i _ rfl (HOw.out.alloc _) ⟨_, 0, none⟩ 1 1 [.int .i64 (m : Int)] rfl rfl (nv_new _ _ _) (by simp [Value.oneCell']) (by unfold maxLen; omega) (by omega) (by rw [World.size_alloc]; omega) ?_; intro a9 c9 w9 ho9 hgr9; have H9 := Aside0.mk (And.intro ho9 hgr9); clear ho9 hgr9)
      go_roundw
      case rel => exact ⟨i + 1, a9, c9, hlt, by simp, rfl, ⟨by
        unfold NumsB
        rw [List.length_map, HT.out.2, HT.out.1, List.map_append]
        exact H9.out.1, HT.out.2⟩, ⟨(HB.out.alloc hsz _).grown H9.out.2 (by rw [World.size_alloc]; omega) (fun j hj => (own_ge HOw.out j hj).1)⟩⟩
      case measure => simp [intOf] <;> omega
    · have hd1 : decide ((i : Int) < (n : Int)) = false := decide_eq_false (by omega)
      have hd2 : decide (i < n) = false := decide_eq_false hlt
      go_wp2
      refine bodyPost_ret (results_tmp rfl _ _ _) rfl ?_
      refine ⟨_, rfl, ?_, HB.out⟩
      have h1 := HO.out.1
      rwa [List.take_of_length_le (by have := HL.out.1.1; have := HL.out.2.1; omega)] at h1
/-- the lengths that stand last are not all alike -/
def notAll (M : List Nat) : Bool := M.any fun n => !(n == M.head?.getD 0)
/-- how far the look at those that stand last has come -/
structure LookI (M : List Nat) (j : Nat) (sum : Nat) (same : Bool) : Prop where
  sum : sum = (M.take j).sum
  same : same = !((M.take j).any fun n => !(n == M.head?.getD 0))
theorem LookI.step {M : List Nat} {j s : Nat} {t : Bool} (h : LookI M j s t) {x : Nat} (hx : M[j]? = some x) : LookI M (j + 1) (s + x) (t && (x == M.head?.getD 0)) := by
  have e : M.take (j + 1) = M.take j ++ [x] := by rw [List.take_add_one, hx]; rfl
  refine ⟨by rw [e, List.sum_append, h.sum]; simp, ?_⟩
  rw [e, List.any_append, h.same]
  simp
/-- what the lengths are, as they are merged -/
structure RunsL (most f : Nat) (T l : List Nat) (k : Nat) : Prop where
  goal : laysN most f l = T
  len : l.length = k
  fuel : k ≤ f
  sum : l.sum ≤ 600
theorem le_sum : ∀ (l : List Nat) (x : Nat), x ∈ l → x ≤ l.sum
  | [], x, h => by cases h
  | y :: l, x, h => by
    rw [List.sum_cons]
    rcases List.mem_cons.1 h with rfl | h
    · omega
    · have := le_sum l x h
      omega
theorem RunsL.small {most f k : Nat} {T l : List Nat} (h : RunsL most f T l k) (hk : k < most) : l = T := by
  rw [← h.goal]
  cases f with
  | zero => rfl
  | succ f => rw [laysN, if_pos (by rw [h.len]; exact hk)]
theorem RunsL.stop {most f k d : Nat} {T l : List Nat} (h : RunsL most f T l k) (hk : k = d + most) (hs : notAll (l.drop d) = true) : l = T := by
  rw [← h.goal]
  cases f with
  | zero => rfl
  | succ f =>
    rw [laysN]
    split
    · rfl
    · have e : l.length - most = d := by rw [h.len]; omega
      rw [e]
      unfold notAll at hs
      rw [if_pos hs]
theorem RunsL.next {most f k d : Nat} {T l : List Nat} (h : RunsL most f T l k) (hm : 2 ≤ most) (hk : k = d + most) (hs : notAll (l.drop d) = false) : RunsL most (f - 1) T (l.take d ++ [(l.drop d).sum]) (d + 1) := by
  have hf := h.fuel
  have hl := h.len
  refine ⟨?_, by rw [List.length_append, List.length_take, List.length_singleton]; omega, by omega, by rw [List.sum_append, List.sum_cons, List.sum_nil, Nat.add_zero, ← List.sum_append, List.take_append_drop]; exact h.sum⟩
  rw [← h.goal]
  obtain ⟨f', rfl⟩ : ∃ f', f = f' + 1 := ⟨f - 1, by omega⟩
  have e : l.length - most = d := by omega
  rw [Nat.add_sub_cancel, laysN, if_neg (by omega), e]
  unfold notAll at hs
  rw [if_neg (by rw [hs]; decide)]
set_option maxRecDepth 100000 in
set_option maxHeartbeats 8000000 in
theorem runs31_ok (n most : Nat) (W : World) (hm2 : 2 ≤ most) (hm9 : most ≤ 9) (hn : n ≤ 60) :
    Calls Try.prog 31 #[.int .i64 n, .int .i64 most] W fun e W' => ∃ v, e = .returned v ∧ NumsB W' W.heap.size v (runsN most (n / most)) ∧ Below W.heap.size W W' := by
  have hmx : Try.prog.follows .mixedOrders = true := by kernel_rfl
  obtain ⟨i0, hi, hz0, hz1, hz2⟩ := info_parts infoI3
  obtain ⟨Q, hQ⟩ : ∃ Q, n / most = Q := ⟨_, rfl⟩
  have hQi : (n : Int) / (most : Int) = (Q : Int) := by rw [← hQ, Int.natCast_ediv]
  have hQ60 : Q ≤ 60 := by rw [← hQ]; exact Nat.le_trans (Nat.div_le_self _ _) hn
  have hmi : (1 : Int) ≤ (most : Int) := by omega
  have hmQ : most * Q ≤ 540 := Nat.mul_le_mul hm9 hQ60
  have HQ := Aside0.mk (And.intro hQ hmQ)
  rw [hQ]
  clear hQ hmQ
  go_enter Try.func31, Try.ntmps31
  go_wp2
  go_loopg [5, 6] Q (fun kx v5 v6 wr => ∃ (i : Nat) (a5 : Option Addr) (k c5 : Nat), i ≤ Q ∧ Q - i ≤ kx ∧ k ≤ 60 ∧ v6 = .int .i64 (i : Int) ∧ v5 = .slice a5 k c5 ∧ Aside0 (NumsB wr W.heap.size (.slice a5 k c5) (runsN most i) ∧ (runsN most i).length = k) ∧ Aside0 (Below W.heap.size W wr))
  case atStart => exact ⟨0, none, 0, 0, Nat.zero_le _, Nat.le_refl _, Nat.zero_le _, rfl, rfl, ⟨World.ownsRow_nil _ _ _ _, rfl⟩, ⟨Below.refl _ _⟩⟩
  case round =>
    obtain ⟨i, a5, k, c5, hiQ, hkx, hk60, rfl, rfl, HO, HB⟩ := hrel
    by_cases hlt : i < Q
    · have hd1 : decide ((i : Int) < (Q : Int)) = true := decide_eq_true (by omega)
      have HOw := Aside0.mk (show wr.ownsRow W.heap.size 3 1 (.slice a5 k c5) k ((runsN most i).map nv) from by have := HO.out.1; unfold NumsB at this; rwa [HO.out.2] at this)
      have hsz := HB.out.size
      have HT := Aside0.mk (show RunsL most (k + 1) (runsN most (i + 1)) (runsN most i ++ [most]) (k + 1) ∧ (runsN most (i + 1)).length ≤ 60 from by
        have h1 : (runsN most i ++ [most]).length = k + 1 := by rw [List.length_append, HO.out.2]; rfl
        refine ⟨⟨by rw [runsN, h1], h1, Nat.le_refl _, ?_⟩, Nat.le_trans (runsN_len most hm2 _) (by omega)⟩
        rw [List.sum_append, runsN_sum]
        have h3 : most * i ≤ most * Q := Nat.mul_le_mul_left _ hiQ
        have := HQ.out.2
        simp
        omega)
      obtain ⟨T, hT⟩ : ∃ T, runsN most (i + 1) = T := ⟨_, rfl⟩
      rw [hT] at HT
      have HTT := Aside0.mk hT
      clear hT
      go_upto_region 6 with (at_builtin; refine wpList_append_any rfl _ _ 55 rfl W.heap.size 3 i0 (.int .i64 0) 8 Try.underlying55 hi hz0 hz1 hz2 rfl (.slice a5 k c5) k _ rfl (HOw.out.alloc _) ⟨_, 0, none⟩ 1 1 [.int .i64 (most : Int)] rfl rfl (nv_new _ _ _) (by simp [Value.oneCell']) (by unfold maxLen; omega) (by omega) (by rw [World.size_alloc]; omega) ?_; intro a9 c9 w9 ho9 hgr9; have H9 := Aside0.mk (And.intro (show NumsB w9 W.heap.size (.slice a9 (k + 1) c9) (runsN most i ++ [most]) from by { unfold NumsB; rw [HT.out.1.len, List.map_append]; exact ho9 }) ((HB.out.alloc hsz _).grown hgr9 (by rw [World.size_alloc]; omega) (fun j hj => (own_ge HOw.out j hj).1))); clear ho9 hgr9)
      have HG := Aside0.mk (And.intro hkx hk60)
      have hk61 : k + 1 ≤ 61 := by omega
      clear HO HOw hsz hkx hk60
      go_loopg [5] (k + 1) (fun kx v5 w4 => ∃ (kk : Nat) (a4 : Option Addr) (c4 f : Nat) (l : List Nat), kk ≤ kx ∧ kk ≤ 61 ∧ v5 = .slice a4 kk c4 ∧ Aside0 (NumsB w4 W.heap.size (.slice a4 kk c4) l) ∧ Aside0 (RunsL most f T l kk) ∧ Aside0 (Below W.heap.size W w4))
      case atStart => exact ⟨k + 1, a9, c9, k + 1, _, Nat.le_refl _, by omega, rfl, ⟨H9.out.1⟩, ⟨HT.out.1⟩, ⟨H9.out.2⟩⟩
      case round =>
        obtain ⟨kk, a4, c4, f, l, hkk, hk61', rfl, HN, HL, HB4⟩ := hrel
        clear H9
        by_cases hge : most ≤ kk
        · have hd2 : decide ((most : Int) ≤ (kk : Int)) = true := decide_eq_true (by omega)
          have hd3 : decide (most ≤ kk) = true := decide_eq_true hge
          obtain ⟨d, hd⟩ : ∃ d, kk = d + most := ⟨kk - most, by omega⟩
          obtain ⟨ac, cc, ec, hcc⟩ := nums_len HN.out
          injection ec with ec1 ec2 ec3
          subst ec1 ec3
          have hdi : (kk : Int) - (most : Int) = (d : Int) := by omega
          have hdw : IntKind.i64.wrap ((kk : Int) - (most : Int)) = (d : Int) := by rw [IntKind.wrap_i64]; omega
          have hdw2 : IntKind.i64.wrap (d : Int) = (d : Int) := by rw [IntKind.wrap_i64]; omega
          have hd0 : (0 : Int) ≤ (d : Int) := by omega
          have hdk : (d : Int) ≤ (kk : Int) := by omega
          have hcd : ¬ c4 = d := by rw [HL.out.len] at hcc; omega
          have hkd : kk - d = most := by omega
          obtain ⟨g, _, rfl, hg, hgN, _, _⟩ := nums_at HN.out HL.out.len (show 0 < kk by omega)
          have HCs := Aside0.mk (show ∀ j, j < most → ∃ x : Nat, (l.drop d)[j]? = some x ∧ wr.cell? ⟨g, d + j, none⟩ = some (Value.int .i64 (x : Int)) ∧ x ≤ 600 from fun j hj => by
            obtain ⟨g2, x, e2, _, _, hx, hc⟩ := nums_at HN.out HL.out.len (show d + j < kk by omega)
            injection e2 with e2
            injection e2 with e2 _ _
            subst e2
            exact ⟨x, by rw [List.getElem?_drop]; exact hx, hc, Nat.le_trans (le_sum l x (List.mem_of_getElem? hx)) HL.out.sum⟩)
          have HD := Aside0.mk (And.intro hd (And.intro hg hgN))
          clear hd hcc ec2 hg hgN
          go_wp2
          obtain ⟨M, hM⟩ : ∃ M, l.drop d = M := ⟨_, rfl⟩
          rw [hM] at HCs
          have hMs : M.sum ≤ 600 := by
            have h1 := HL.out.sum
            rw [← List.take_append_drop d l, List.sum_append, hM] at h1
            omega
          have hMl : M.length = most := by rw [← hM, List.length_drop, HL.out.len]; exact hkd
          have HM := Aside0.mk (And.intro hM (And.intro hMs hMl))
          obtain ⟨x0, hx0, hc0, _⟩ := HCs.out 0 (by omega)
          rw [Nat.add_zero] at hc0
          have HX0 := Aside0.mk (show M.head?.getD 0 = x0 from by rw [List.head?_eq_getElem?, hx0]; rfl)
          clear hM hMs hMl hx0
          go_loopg [8, 9, 10] most (fun kx v8 v9 v10 w5 => ∃ (j s : Nat) (t : Bool), j ≤ most ∧ most - j ≤ kx ∧ s ≤ 600 ∧ v10 = .int .i64 (j : Int) ∧ v8 = .int .i64 (s : Int) ∧ v9 = .bool t ∧ Aside0 (LookI M j s t) ∧ Aside0 (Below wr.heap.size wr w5))
          case atStart => exact ⟨0, 0, true, Nat.zero_le _, Nat.le_refl _, by omega, rfl, rfl, rfl, ⟨⟨rfl, rfl⟩⟩, ⟨Below.refl _ _⟩⟩
          case round =>
            obtain ⟨j, sm, t, hjm, hjx, hs6, rfl, rfl, rfl, HLk, HB5⟩ := hrel
            by_cases hlj : j < most
            · have hd4 : decide ((j : Int) < (most : Int)) = true := decide_eq_true (by omega)
              have hd5 : decide (j < most) = true := decide_eq_true hlj
              obtain ⟨x, hx, hcx, hx6⟩ := HCs.out j hlj
              have yx := (cell_of_block (HB5.out.block _ HD.out.2.1) _).trans hcx
              have y0 := (cell_of_block (HB5.out.block _ HD.out.2.1) _).trans hc0
              have hst := HLk.out.step hx
              rw [HX0.out] at hst
              have hs7 : sm + x ≤ 600 := by
                have h1 := hst.sum
                have h2 : (M.take (j + 1)).sum + (M.drop (j + 1)).sum = M.sum := by rw [← List.sum_append, List.take_append_drop]
                have := HM.out.2.1
                omega
              have HSt := Aside0.mk (And.intro hst (And.intro hjx hs7))
              obtain ⟨z, hz⟩ : ∃ z, ((x : Int) == (x0 : Int)) = z := ⟨_, rfl⟩
              obtain ⟨z2, hz2'⟩ : ∃ z2, (x == x0) = z2 := ⟨_, rfl⟩
              have hzz : z = z2 := by
                rw [← hz, ← hz2']
                by_cases h : x = x0
                · subst h; simp
                · have : ((x : Int) == (x0 : Int)) = false := by simp; omega
                  rw [this]; simp [h]
              subst hzz
              have HZ := Aside0.mk hz2'
              clear hz2' hx hcx hst hs6 hjx
              cases t with
              | true =>
                go_wp2
                go_quiet (fail)
                go_wp2
                go_roundg (most - (j + 1))
                case measure => have := HSt.out.2.1; omega
                case rel => exact ⟨j + 1, sm + x, z, hlj, Nat.le_refl _, HSt.out.2.2, by simp, by simp, rfl, ⟨by have := HSt.out.1; rw [HZ.out] at this; simpa using this⟩, ⟨below_drewN HB5.out _⟩⟩
              | false =>
                go_wp2
                go_quiet (fail)
                go_wp2
                go_roundg (most - (j + 1))
                case measure => have := HSt.out.2.1; omega
                case rel => exact ⟨j + 1, sm + x, false, hlj, Nat.le_refl _, HSt.out.2.2, by simp, by simp, rfl, ⟨by have := HSt.out.1; simpa using this⟩, ⟨below_drewN HB5.out _⟩⟩
            · have hd4 : decide ((j : Int) < (most : Int)) = false := decide_eq_false (by omega)
              have hd5 : decide (j < most) = false := decide_eq_false hlj
              obtain rfl : most = j := by omega
              have hbel := below_step HB4.out HB5.out HB4.out.size
              have HN5 := Aside0.mk (nums_below HN.out HB5.out)
              have HB6 := Aside0.mk hbel
              have hsum : sm = M.sum := by rw [HLk.out.sum, List.take_of_length_le (by rw [HM.out.2.2]; exact Nat.le_refl _)]
              have hsame : t = !notAll M := by
                have := HLk.out.same
                rwa [List.take_of_length_le (by rw [HM.out.2.2]; exact Nat.le_refl _)] at this
              have HS := Aside0.mk (And.intro hsum hsame)
              have hsz := hbel.size
              clear hbel hsum hsame hlj hjm hjx HCs hc0
              cases t with
              | false =>
                have HF := Aside0.mk (show l = T from HL.out.stop HD.out.1 (by rw [HM.out.1]; have := HS.out.2; revert this; cases notAll M <;> simp))
                go_wp2
                go_roundg (Q - (i + 1))
                case measure => have := HG.out; omega
                case rel => exact ⟨i + 1, _, kk, c4, hlt, Nat.le_refl _, by have := HL.out.len; rw [HF.out] at this; have := HT.out.2; omega, by simp, rfl, ⟨by rw [HTT.out, ← HF.out]; exact HN5.out, by rw [HTT.out, ← HF.out]; exact HL.out.len⟩, HB6⟩
              | true =>
                have HNx := Aside0.mk (HL.out.next hm2 HD.out.1 (by rw [HM.out.1]; have := HS.out.2; revert this; cases notAll M <;> simp))
                have HC1 := Aside0.mk (show ((l.take d).map nv).length = d * 1 ∧ (∀ j u, ((l.take d).map nv)[j]? = some u → wr.cell? ((⟨g, 0, none⟩ : Addr).add j) = some u) from by
                  refine ⟨by have := HL.out.len; have := HD.out.1; simp; omega, fun j u hu => ?_⟩
                  have hj : j < d := by
                    have := (List.getElem?_eq_some_iff.1 hu).1
                    simp at this
                    omega
                  obtain ⟨g2, x, e2, _, _, hx, hc⟩ := nums_at HN5.out HL.out.len (show j < kk by have := HD.out.1; omega)
                  injection e2 with e2
                  injection e2 with e2 _ _
                  subst e2
                  rw [List.getElem?_map, List.getElem?_take_of_lt hj, hx] at hu
                  cases hu
                  rw [Addr.add_lit, Nat.zero_add]
                  exact hc)
                have hdc : d ≤ c4 := by
                  obtain ⟨ac, cc, ec, hcc⟩ := nums_len HN5.out
                  injection ec with _ _ ec3
                  subst ec3
                  have := HL.out.len
                  have := HD.out.1
                  omega
                go_wp2_with (first
                  | (have _q := H10; at_builtin; refine wpList_append_any rfl _ _ 55 rfl W.heap.size 3 i0 (.int .i64 0) 8 Try.underlying55 hi hz0 hz1 hz2 rfl (.slice a10 d c10) d _ rfl (H10.out.1.alloc _) ⟨_, 0, none⟩ 1 1 [.int .i64 (sm : Int)] rfl rfl (nv_new _ _ _) (by simp [Value.oneCell']) (by unfold maxLen; omega) (by omega) (by rw [World.size_alloc]; omega) ?_; intro a11 c11 w11 ho11 hgr11; have H11 := Aside0.mk (And.intro ho11 hgr11); clear ho11 hgr11)
                  | (at_builtin; refine wpList_append_any rfl _ _ 55 rfl W.heap.size 3 i0 (.int .i64 0) 8 Try.underlying55 hi hz0 hz1 hz2 rfl (.slice none 0 0) 0 [] rfl (World.ownsRow_nil _ _ _ _) ⟨g, 0, none⟩ d c4 ((l.take d).map nv) rfl HC1.out.1 HC1.out.2 (one_nv _) (by unfold maxLen; omega) (by omega) hsz ?_; intro a10 c10 w10 ho10 hgr10; simp only [Nat.zero_add, List.nil_append] at ho10 ⊢; have hs10 := hgr10.size; have H10 := Aside0.mk (And.intro ho10 hgr10); clear ho10 hgr10)
                  | fail)
                go_roundg (d + 1)
                case measure => have := HD.out.1; omega
                case rel =>
                  have h10 := HB6.out.grown H10.out.2 hsz (fun j hj => by simp [Value.ownBlock] at hj)
                  have h11 := (h10.alloc (by omega) (.cells #[.int .i64 (sm : Int)] 3)).grown H11.out.2 (by rw [World.size_alloc]; omega) (fun j hj => (own_ge H10.out.1 j hj).1)
                  refine ⟨d + 1, a11, c11, f - 1, l.take d ++ [M.sum], Nat.le_refl _, by have := HD.out.1; omega, rfl, ⟨?_⟩, ⟨by have := HNx.out; rw [HM.out.1] at this; exact this⟩, ⟨h11⟩⟩
                  have h12 := H11.out.1
                  unfold NumsB
                  have hl2 := HNx.out.len
                  rw [HM.out.1] at hl2
                  rw [hl2, List.map_append, ← HS.out.1]
                  exact h12
        · have hd2 : decide ((most : Int) ≤ (kk : Int)) = false := decide_eq_false (by omega)
          have hd3 : decide (most ≤ kk) = false := decide_eq_false hge
          have HF := Aside0.mk (show l = T from HL.out.small (by omega))
          go_wp2
          go_roundg (Q - (i + 1))
          case measure => have := HG.out; omega
          case rel => exact ⟨i + 1, a4, kk, c4, hlt, Nat.le_refl _, by have := HL.out.len; rw [HF.out] at this; have := HT.out.2; omega, by simp, rfl, ⟨by rw [HTT.out, ← HF.out]; exact HN.out, by rw [HTT.out, ← HF.out]; exact HL.out.len⟩, HB4⟩
    · have hd1 : decide ((i : Int) < (Q : Int)) = false := decide_eq_false (by omega)
      obtain rfl : i = Q := by omega
      go_wp2
      refine bodyPost_ret (results_tmp rfl _ _ _) rfl ?_
      exact ⟨_, rfl, HO.out.1, HB.out⟩
end Go.Proofs.Ytghpjlohoehdnaa.Sep

/-! A Sorter's Rows once more, with what it leaves alone; sort.Sorted of rows without an error. No condition beyond those that each theorem names. -/
namespace Go.Proofs.Ytghpjlohoehdnaa.Sep
open Go Go.RowKit Go.Shelf
set_option linter.unusedVariables false
set_option linter.unusedSimpArgs false
set_option maxRecDepth 100000 in
set_option maxHeartbeats 8000000 in
/-- ROWS: all rows in order. -/
theorem rows_ok3 (S : Nat) (by_ : Order) (hand : Nat) (ins : List (List (List V3))) (now : List (List V3)) (k : Nat) (done : Bool) (X : Nat → Prop) (W : World) (h : SR W S by_ hand ins now k done X) (hst : now ≠ [] → StabOK now.length by_) :
    Calls Try.prog 24 #[.pointer (some ⟨S, 0, none⟩)] W fun e W' => ∃ g lb prs R, e = .returned (.func (.func g) #[] lb) ∧ Gr X X W.heap.size W W' ∧ SR W' S by_ hand ins now k true X ∧ ItC (.func (.func g) #[] lb) prs R W' ∧
      prs.map Prod.snd = stab (fun a b => cmpR a b by_) (ins.flatten ++ now) ∧ (∀ p ∈ prs, p.1.2 = 0) ∧ (∀ j, R j → X j ∨ W.heap.size ≤ j) ∧ ∀ j, j < W.heap.size → j ≠ S → W'.heap[j]? = W.heap[j]? := by
  have hmx : Try.prog.follows .mixedOrders = true := by kernel_rfl
  obtain ⟨i0, hi, hz0, hz1, hz2⟩ := info_parts infoC53
  obtain ⟨nowI, runsI, D, so, nv, rv, us, hx, e1, e2, e3, e4, e5, e6, e7⟩ := h
  obtain ⟨na, nc, rfl⟩ := own_slice hx.nown
  obtain ⟨ra, rc, rfl⟩ := own_slice hx.rown
  have hnow : now.length = nowI.length := by rw [← e1, List.length_map]
  have c1 : W.cell? ⟨S, 1, none⟩ = some (.int .i64 hand) := cell_of_cells hx.cells rfl
  have c5 : W.cell? ⟨S, 5, none⟩ = some (.bool done) := cell_of_cells hx.cells rfl
  have f5 := frozen_of_cells hx.cells 5
  have HG := Aside0.mk (given_ok S hand W c1 (by omega))
  have hx5 := hx.setd true
  have hg5 := gr_set hx.xlt (a := ⟨S, 5, none⟩) (.bool true) hx.xS
  have hfr : ∀ j, j ≠ S → (W.setCell ⟨S, 5, none⟩ (.bool true)).heap[j]? = W.heap[j]? := fun j hj => Below.heap_setCell _ _ _ j hj
  have c2 : (W.setCell ⟨S, 5, none⟩ (.bool true)).cell? ⟨S, 2, none⟩ = some (.slice na nowI.length nc) := cell_of_cells hx5.cells rfl
  have HE := Aside0.mk (And.intro e1 (And.intro e2 (And.intro e3 (And.intro e4 (And.intro e5 (And.intro hst hnow))))))
  have HW := Aside0.mk (And.intro hx5 hg5)
  have HFr := Aside0.mk (And.intro hfr hg5.size)
  clear hst hx e1 e2 e3 e4 e5 hnow hx5 hg5 hfr
  go_enter Try.func24, Try.ntmps24
  go_upto_region 4 with (first | (go_at_call 47; refine HG.out.mono ?_; rintro e w3 ⟨rfl, hw3⟩; cases hw3) | fail)
  generalize W.setCell ⟨S, 5, none⟩ (.bool true) = w5 at HW HFr c2 ⊢
  have hone : ∀ u ∈ us, u.oneCell' = true := fun u hu => by
    obtain ⟨j, hj, rfl⟩ := List.getElem_of_mem hu
    have hl := HW.out.1.runs.len
    obtain ⟨a, c, e⟩ := (HW.out.1.runs.get j _ _ (List.getElem?_eq_getElem hj) (List.getElem?_eq_getElem (by omega))).shape
    rw [e]; rfl
  have hone1 : ∀ u ∈ nowI.map vI, u.oneCell' = true := fun u hu => by
    obtain ⟨i, _, rfl⟩ := List.mem_map.1 hu
    rfl
  have hub : us.length ≤ 80000 := by
    have h1 := HW.out.1.runs.len
    have h2 := congrArg List.length HE.out.2.1
    rw [List.length_map, List.length_map] at h2
    have h3 := flatten_ge HE.out.2.2.1
    have h4 := HE.out.2.2.2
    omega
  have hnb : nowI.length ≤ 80000 := by have h4 := HE.out.2.2.2; omega
  have HCl := Aside0.mk (cl49_ok _ _ _ w5 HW.out.1.nown hone1 (by omega))
  have HCn := Aside0.mk (fun (v1 : Value) (w6 : World) (ho : w6.ownsRow w5.heap.size 48 1 v1 nowI.length (nowI.map vI)) (hb : Below w5.heap.size w5 w6) => sort_own S by_ nowI v1 w5.heap.size w6 ho (fun hn => by
      have h1 := HE.out.2.2.2.2.2.1 (by rw [← HE.out.1]; intro h0; exact hn (List.map_eq_nil_iff.1 h0))
      rw [HE.out.2.2.2.2.2.2] at h1
      exact h1) (by
      rintro g cap rfl w hn x hxm y hym
      have hgN : w5.heap.size ≤ g := (own_ge ho g rfl).1
      have hmd := HW.out.1.md
      refine hmd.cmp ⟨Nat.le_trans hb.size hn.size, ?_⟩ ((HW.out.1.nitems x hxm).mono fun _ => .inl) ((HW.out.1.nitems y hym).mono fun _ => .inl)
      rintro j (hj | rfl)
      · have hjl := HW.out.1.xlt j (HW.out.1.dX j hj)
        exact (hn.block j (Nat.lt_of_lt_of_le hjl hb.size) (by omega)).trans (hb.block j hjl)
      · have hjl := HW.out.1.slt
        exact (hn.block j (Nat.lt_of_lt_of_le hjl hb.size) (by omega)).trans (hb.block j hjl)))
  have HC53 := Aside0.mk (fun (w7 : World) (hb : Below w5.heap.size w5 w7) => cl53_ok _ _ _ w7 (HW.out.1.below hb).rown hone (by omega))
  have hmk := fun (w : World) (g c : Nat) => merge_ok S (some ⟨g, 0, none⟩) (us.length + 1) c w
  clear hone hone1
  go_wp2_with (first
    | (go_at_call 49; refine HCl.out.mono ?_; rintro e w6 ⟨v1, rfl, ho6, hb6⟩; obtain ⟨va, vc, hv1⟩ := own_slice ho6; subst hv1)
    | (go_at_call 50; refine (HCn.out _ w6 ho6 hb6).mono ?_; rintro e w7 ⟨rfl, nowJ, hj1, hj2, hj3, ho7, hb7⟩; have HJ7 := Aside0.mk (And.intro hj1 (And.intro hj2 (And.intro hj3 ho7))); clear hj1 hj2 hj3 ho7 ho6; have hb57 := below_step hb6 hb7 (Nat.le_refl _); have c37 : w7.cell? ⟨S, 3, none⟩ = some (.slice ra us.length rc) := cell_of_cells (HW.out.1.below hb57).cells rfl)
    | (go_at_call 53; refine (HC53.out w7 hb57).mono ?_; rintro e w8 ⟨v2, rfl, ho8, hb8⟩; have hb58 := below_step hb57 hb8 hb57.size; obtain ⟨xa, xc, hv2⟩ := own_slice ho8; subst hv2)
    | (at_builtin; refine wpList_append_lies _ rfl _ _ 64 rfl w5.heap.size 22 i0 (.slice none 0 0) 1 24 Try.underlying64 hi hz0 hz1 hz2 rfl (by decide) (.slice xa us.length xc) us.length us rfl ((ownsRow_base ho8 hb57.size).alloc _) ⟨_, 0, none⟩ 1 1 [.slice va nowI.length vc] rfl rfl (cell_one_new _ _ _) (by simp [Value.oneCell']) (by decide) (by unfold maxLen; omega) (by omega) (by rw [World.size_alloc]; have := hb58.size; omega) _ rfl ?_; intro g9 cap9 w9 ho9 hgr9 hat9 hlt9)
    | (go_at_call 52; refine (hmk _ _ _).mono ?_; rintro e w10 ⟨rfl, b1, b2, hb10⟩)
    | fail)
  refine bodyPost_ret (results_tmp rfl _ _ _) rfl ?_
  obtain ⟨hj1, hj2, hj3, ho7⟩ := HJ7.out
  obtain ⟨hx5, hg5⟩ := HW.out
  have hb79 : Below w7.heap.size w7 w9 := (hb8.alloc hb8.size _).grown hgr9 (by rw [World.size_alloc]; have := hb8.size; omega) (fun j hj => (own_ge ho8 j hj).1)
  have hb710 := below_step hb79 hb10 hb79.size
  have hb510 := below_step hb57 hb710 hb57.size
  have hag5 : Ag (fun j => D j ∨ j = S) w5 w10 := ⟨hb510.size, by
    rintro j (hj | rfl)
    · exact hb510.block j (hx5.xlt j (hx5.dX j hj))
    · exact hb510.block j hx5.slt⟩
  have hagD : Ag D w5 w7 := ⟨hb57.size, fun j hj => hb57.block j (hx5.xlt j (hx5.dX j hj))⟩
  have hag7 : Ag (fun j => D j ∨ (w5.heap.size ≤ j ∧ j < w7.heap.size)) w7 w10 := ⟨hb710.size, by
    rintro j (hj | hj)
    · exact hb710.block j (Nat.lt_of_lt_of_le (hx5.xlt j (hx5.dX j hj)) hb57.size)
    · exact hb710.block j hj.2⟩
  have hrunJ := (run_of_own ho7 fun i hi => (hx5.nitems i (hj2 i hi)).ag hagD).ag hag7
  have hu9 : (us ++ [Value.slice va nowI.length vc]).length = us.length + 1 := by simp
  rcases own_one ho9 with ⟨h0, _⟩ | ⟨g', cap', e9, q1, q2, q3, q4⟩
  · cases h0
  · injection e9 with e9 _ e9c
    injection e9 with e9
    injection e9 with e9 _ _
    subst e9
    have hs7 := hb57.size
    have hs9 := hb79.size
    have hs10 := hb10.size
    have hl1 := b1.lt
    have hl2 := b2.lt
    have hins : (runsI ++ [nowJ]).map (List.map Prod.snd) = (ins ++ [now]).map (stab fun a b => cmpR a b by_) := by
      rw [List.map_append, List.map_append, HE.out.2.1, List.map_singleton, List.map_singleton, hj3, HE.out.1]
    have hit := merge_it w9.heap.size (w9.heap.size + 1) S g9 0 cap9 (us.length + 1) so by_ (runsI ++ [nowJ]) (us ++ [Value.slice va nowI.length vc]) (fun j => (D j ∨ j = S) ∨ (w5.heap.size ≤ j ∧ j < w10.heap.size)) w10
      (by
        rintro j ((hj | rfl) | hj)
        · have := hx5.xlt j (hx5.dX j hj); omega
        · have := hx5.slt; omega
        · exact hj.2)
      (.inr ⟨by omega, by omega⟩) (.inr ⟨by omega, by omega⟩) b1.cell b2.cell (.inr ⟨q1, by omega⟩)
      (fun j u hu => by rw [Nat.zero_add]; exact (cell_of_block (hb10.block g9 q2) _).trans (q4 j u hu)) hu9 (by omega) (by omega)
      (by have h := hx5.md.ag hag5; exact ⟨h.cell, .inl h.rS, h.ord.mono fun _ => .inl, h.short⟩)
      (All2.snoc (hrunJ.mono fun j hj => by
          rcases hj with hj | hj
          · exact .inl (.inl hj)
          · exact .inr ⟨hj.1, by omega⟩) (hx5.runs.imp fun _ _ hr => ((hr.mono (Q := fun j => D j ∨ j = S) fun _ => .inl).ag hag5).mono fun _ => .inl))
    have hms := merged_stab (cmpR_ord by_) (runsI ++ [nowJ]) (ins ++ [now]) hins
    refine ⟨_, _, _, _, rfl, hg5.trans (below_gr hg5.lt hb510) hg5.size, ⟨nowI, runsI, D, so, _, _, us, hx5.below hb510, HE.out.1, HE.out.2.1, HE.out.2.2.1, HE.out.2.2.2.1, HE.out.2.2.2.2.1, e6, e7⟩, hit, ?_, ?_, ?_, fun j hj hne => (hb510.block j (Nat.lt_of_lt_of_le hj HFr.out.2)).trans (HFr.out.1 j hne)⟩
    · rw [List.map_map]
      have e9 : (ins ++ [now]).flatten = ins.flatten ++ now := by rw [List.flatten_append, List.flatten_singleton]
      rw [e9] at hms
      exact hms
    · intro p hp
      obtain ⟨i, _, rfl⟩ := List.mem_map.1 hp
      rfl
    · rintro j ((hj | rfl) | hj)
      · exact .inl (hx5.dX j hj)
      · exact .inl hx5.xS
      · exact .inr (Nat.le_trans hg5.size hj.1)
theorem sorted_c2 (g : FuncId) (la : Array Value) (a : Option Addr) (k c : Nat) (by_ : Order) (cs : List Cd) (R : Nat → Prop) (w : World) (hit : ItM (fun _ => False) R (.func (.func g) #[] la) cs w) (hz : ∀ c ∈ cs, c.1 = 0)
    (ho : Ord w (.slice a k c) by_) (hby : by_.length ≤ 1000) (hlen : cs.length ≤ 60) :
    Calls Try.prog 33 #[.func (.func g) #[] la, .slice a k c] w fun e w' => ∃ (R' : Nat → Prop) (v : Value), e = .returned v ∧ Below w.heap.size w w' ∧ ItM (fun _ => False) R' v (sc by_ (cs.map Prod.snd)) w' := by
  refine (sorted_make g la a k c w).mono ?_
  rintro e w' ⟨rfl, hW'⟩
  have c0 := ((Boxed.new w 31 (.func (.func g) #[] la)).alloc (.cells #[.slice a k c] 42)).alloc (.cells #[.func (.func 60) #[] #[.pointer (some ⟨w.heap.size + 1, 0, none⟩), .pointer (some ⟨w.heap.size, 0, none⟩)]] 87)
  have c1 := (Boxed.new (w.alloc (.cells #[.func (.func g) #[] la] 31)) 42 (.slice a k c)).alloc (.cells #[.func (.func 60) #[] #[.pointer (some ⟨w.heap.size + 1, 0, none⟩), .pointer (some ⟨w.heap.size, 0, none⟩)]] 87)
  have c2 := Boxed.new ((w.alloc (.cells #[.func (.func g) #[] la] 31)).alloc (.cells #[.slice a k c] 42)) 87 (.func (.func 60) #[] #[.pointer (some ⟨w.heap.size + 1, 0, none⟩), .pointer (some ⟨w.heap.size, 0, none⟩)])
  have hb : Below w.heap.size w (((w.alloc (.cells #[.func (.func g) #[] la] 31)).alloc (.cells #[.slice a k c] 42)).alloc (.cells #[.func (.func 60) #[] #[.pointer (some ⟨w.heap.size + 1, 0, none⟩), .pointer (some ⟨w.heap.size, 0, none⟩)]] 87)) := (((Below.refl _ w).alloc (Nat.le_refl _) _).alloc (by simp) _).alloc (by simp; omega) _
  have hsz : (((w.alloc (.cells #[.func (.func g) #[] la] 31)).alloc (.cells #[.slice a k c] 42)).alloc (.cells #[.func (.func 60) #[] #[.pointer (some ⟨w.heap.size + 1, 0, none⟩), .pointer (some ⟨w.heap.size, 0, none⟩)]] 87)).heap.size = w.heap.size + 3 := by simp
  simp only [World.size_alloc] at c1 c2
  rw [← hW'] at c0 c1 c2 hb hsz
  refine ⟨fun j => j < w'.heap.size, _, rfl, hb, ?_⟩
  have he := erOf_zero cs hz
  have hl := later_m (w.heap.size + 2) #[.pointer (some ⟨w.heap.size + 1, 0, none⟩), .pointer (some ⟨w.heap.size, 0, none⟩)] 0 (sc by_ (cs.map Prod.snd)) (fun _ => False) (fun j => j < w'.heap.size) w' (by omega) (fun j hj => hj) (fun j hj => hj.elim) (fun j hj => hj.elim) c2.cell ?_
  · rwa [show lc 0 (sc by_ (cs.map Prod.snd)) = sc by_ (cs.map Prod.snd) from if_pos rfl] at hl
  · intro X W1 hs1 hb1 hx1 hX1
    have hbb : ∀ j, j < w'.heap.size → W1.heap[j]? = w'.heap[j]? := fun j hj => hb1 j (.inl hj)
    have := sorted1_ok (w.heap.size + 1) w.heap.size (.slice a k c) (.func (.func g) #[] la) by_ cs (fun _ => False) R X W1 (hit.later (Nat.le_trans hb.size hs1) (fun j hj => (hbb j (Nat.lt_of_lt_of_le (hit.lt j hj) hb.size)).trans (hb.block j (hit.lt j hj))) (fun j hj => hj.elim))
      ((cell_of_block (hbb _ (by omega)) 0).trans c1.cell) ((cell_of_block (hbb _ (by omega)) 0).trans c0.cell) (ord_same hs1 hbb (ho.below hb)) hby hlen (fun j hj => hj.elim) (fun _ _ => stabOK_all _ _ (by omega)) hX1
    rwa [he] at this
theorem runs31_int (n most : Nat) (vn : Int) (W : World) (hm2 : 2 ≤ most) (hm9 : most ≤ 9) (hn : n ≤ 60) (e : vn = (n : Int)) :
    Calls Try.prog 31 #[.int .i64 vn, .int .i64 most] W fun e W' => ∃ v, e = .returned v ∧ NumsB W' W.heap.size v (runsN most (n / most)) ∧ Below W.heap.size W W' := by
  subst e
  exact runs31_ok n most W hm2 hm9 hn
/-- what a Sorter's block holds is no text -/
theorem SR.cont_ne {W : World} {S : Nat} {by_ : Order} {hand : Nat} {ins : List (List (List V3))} {now : List (List V3)} {k : Nat} {done : Bool} {X : Nat → Prop} (h : SR W S by_ hand ins now k done X) {q : RV} {row : List V3} (hc : Cont W q row) : ∀ j, q.blk j → j ≠ S := by
  rintro j ⟨h0, o, t, e⟩ rfl
  obtain ⟨nowI, runsI, D, so, nv, rv, us, hx, _⟩ := h
  obtain ⟨na, nc, rfl⟩ := own_slice hx.nown
  obtain ⟨ra, rc, rfl⟩ := own_slice hx.rown
  obtain ⟨sa, sn, sc', rfl⟩ : ∃ a n c, so = .slice a n c := by
    rcases hx.ord.ord with ⟨a, c, h1, _⟩ | ⟨b, off, c, h1, _⟩
    · exact ⟨a, 0, c, h1⟩
    · exact ⟨_, _, _, h1⟩
  rcases hc with ⟨h1, _⟩ | ⟨b, off, h1, h2, _, h4⟩
  · exact h0 h1
  · rw [h1] at e
    injection e with e
    injection e with e1 e2 _
    subst e1
    cases row with
    | nil => simp at h2; omega
    | cons v r =>
      have h5 := h4 2 (.string v.s) rfl
      have h6 : W.cell? ⟨b, off + 2, none⟩ = (#[Value.slice sa sn sc', .int .i64 hand, .slice na nowI.length nc, .slice ra us.length rc, .int .i64 k, .bool done] : Array Value)[off + 2]? := by
        unfold World.cell?
        simp only [hx.cells]
        rfl
      rw [h6] at h5
      match off, h5 with
      | 0, h5 => simp at h5
      | 1, h5 => simp at h5
      | 2, h5 => simp at h5
      | 3, h5 => simp at h5
      | n + 4, h5 => simp at h5
/-- the law's sorted rows lie where the Sorter does not write -/
theorem want_at {W w : World} {v : Value} {rs : List RV} {rows : List (List V3)} (h : WL W w v rs rows) {S : Nat} {by_ : Order} {hand : Nat} {ins : List (List (List V3))} {now : List (List V3)} {k : Nat} {done : Bool} {X : Nat → Prop} (hs : SR W S by_ hand ins now k done X) :
    OwnB (fun j => j ≠ S ∧ j < w.heap.size) w v rows := by
  have hSl := hs.xlt S (by obtain ⟨nowI, runsI, D, so, nv, rv, us, hx, _⟩ := hs; exact hx.xS)
  rcases own_one h.own with ⟨e, h0, hL⟩ | ⟨g, cap, e, hg1, hg2, hcap, hc⟩
  · have hl := h.all.len
    refine .inl ⟨none, 0, e, List.eq_nil_of_length_eq_zero (by omega)⟩
  · refine .inr ⟨g, 0, cap, rs, e, ⟨by omega, hg2⟩, hg2, fun j hj => ?_, h.all.imp fun q row hq => ⟨hq.1.below h.bel, hq.2, fun j hj => ⟨hs.cont_ne hq.1 j hj, Nat.lt_of_lt_of_le (hq.1.blt j hj) h.bel.size⟩⟩⟩
    rw [Nat.zero_add]
    exact hc j _ (by rw [List.getElem?_map, List.getElem?_eq_getElem hj]; rfl)
theorem OwnB.one {P : Nat → Prop} {W : World} {v : Value} {rows : List (List V3)} (h : OwnB P W v rows) : Own1 W v rows := h.own
end Go.Proofs.Ytghpjlohoehdnaa.Sep
