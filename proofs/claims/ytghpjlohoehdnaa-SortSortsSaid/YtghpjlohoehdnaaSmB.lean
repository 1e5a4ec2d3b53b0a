/- Lists of rows: joined, compared, looked at; the laws of setop, walked. No condition beyond those that each theorem names. -/
import Derived.Test.YtghpjlohoehdnaaSmA
import Derived.Deep.RegionWith
import Derived.Deep.RegionHeld3
import Derived.Lib.Hide
import Derived.Test.YtghpjlohoehdnaaRows
import Derived.WalkKit
import Derived.ProofKit
import Derived.OpenShut
import Derived.ShutString
import Derived.ChangeOld
import Derived.ChangeSame
import Derived.Below
import Derived.SizedLaws
import Derived.Deep.Slices
import Derived.Deep.Strs
/-! setop.Join. No condition beyond those that each theorem names. -/
namespace Go.Proofs.Ytghpjlohoehdnaa.Sep
open Go Go.RowKit Go.Shelf
set_option linter.unusedVariables false
set_option linter.unusedSimpArgs false
/-- the rows of two, joined -/
def joinP (how : Int) (pa pb : List Pr) : List Pr :=
  if how = 1 then cutP (pa ++ pb) else if how = 2 then distL [] (cutP (pa ++ pb)) else if how = 3 then distL [] (amAll true pa pb) else if how = 4 then distL [] (amAll false pa pb) else [((RV.nil, 1), [])]
/-- the calls that Join makes, by what they do -/
theorem join_walk (how : Int) (va vb : Value) (hv : Fv va) (hw : Fv vb) (w : World) :
    Calls Try.prog 20 #[.int .i64 how, va, vb] w fun e w' =>
      (how = 1 ∧ e = .returned (.func (.func 68) #[] #[.pointer (some ⟨w.heap.size, 0, none⟩), .pointer (some ⟨w.heap.size + 1, 0, none⟩)]) ∧ w' = (w.alloc (.cells #[va] 31)).alloc (.cells #[vb] 31)) ∨
      (how = 2 ∧ e = .returned (.func (.func 54) #[] #[.pointer (some ⟨w.heap.size + 1 + 1, 0, none⟩)]) ∧ w' = ((w.alloc (.cells #[va] 31)).alloc (.cells #[vb] 31)).alloc (.cells #[.func (.func 68) #[] #[.pointer (some ⟨w.heap.size, 0, none⟩), .pointer (some ⟨w.heap.size + 1, 0, none⟩)]] 31)) ∨
      (∃ is : Bool, how = (if is then 3 else 4) ∧ e = .returned (.func (.func 54) #[] #[.pointer (some ⟨w.heap.size + 1 + 1 + 1, 0, none⟩)]) ∧
        w' = (((w.alloc (.cells #[va] 31)).alloc (.cells #[vb] 31)).alloc (.cells #[.bool is] 4)).alloc (.cells #[.func (.func 69) #[] #[.pointer (some ⟨w.heap.size + 1, 0, none⟩), .pointer (some ⟨w.heap.size, 0, none⟩), .pointer (some ⟨w.heap.size + 1 + 1, 0, none⟩)]] 31)) ∨
      ((how < 1 ∨ 4 < how) ∧ e = .returned (.func (.func 45) #[] #[]) ∧ w' = w) := by
  have h68 : Fv (.func (.func 68) #[] #[.pointer (some ⟨w.heap.size, 0, none⟩), .pointer (some ⟨w.heap.size + 1, 0, none⟩)]) := .inl ⟨_, _, rfl⟩
  have h69 : Fv (.func (.func 69) #[] #[.pointer (some ⟨w.heap.size + 1, 0, none⟩), .pointer (some ⟨w.heap.size, 0, none⟩), .pointer (some ⟨w.heap.size + 1 + 1, 0, none⟩)]) := .inl ⟨_, _, rfl⟩
  by_cases h1 : how = 1
  · subst h1
    go_enter Try.func20, Try.ntmps20
    go_wp2_with (go_at_call 43; refine (both_make2 va vb hv hw _).mono ?_; rintro e w' ⟨rfl, rfl⟩)
    go_ret
    exact .inl ⟨by trivial, rfl, rfl⟩
  by_cases h2 : how = 2
  · subst h2
    clear h1
    go_enter Try.func20, Try.ntmps20
    go_wp2_with (first | (go_at_call 43; refine (both_make2 va vb hv hw _).mono ?_; rintro e w' ⟨rfl, rfl⟩) | (go_at_call 28; refine (dist_make _ h68 _).mono ?_; rintro e w' ⟨rfl, rfl⟩))
    go_ret
    exact .inr (.inl ⟨by trivial, by simp, rfl⟩)
  by_cases h3 : how = 3
  · subst h3
    clear h1 h2
    go_enter Try.func20, Try.ntmps20
    go_wp2_with (first | (go_at_call 44; refine (among_make va vb hv hw true _).mono ?_; rintro e w' ⟨rfl, rfl⟩) | (go_at_call 28; refine (dist_make _ h69 _).mono ?_; rintro e w' ⟨rfl, rfl⟩))
    go_ret
    exact .inr (.inr (.inl ⟨true, rfl, by simp, rfl⟩))
  by_cases h4 : how = 4
  · subst h4
    clear h1 h2 h3
    go_enter Try.func20, Try.ntmps20
    go_wp2_with (first | (go_at_call 44; refine (among_make va vb hv hw false _).mono ?_; rintro e w' ⟨rfl, rfl⟩) | (go_at_call 28; refine (dist_make _ h69 _).mono ?_; rintro e w' ⟨rfl, rfl⟩))
    go_ret
    exact .inr (.inr (.inl ⟨false, rfl, by simp, rfl⟩))
  · have hb1 : (how == 1) = false := by simpa using h1
    have hb2 : (how == 2) = false := by simpa using h2
    have hb3 : (how == 3) = false := by simpa using h3
    have hb4 : (how == 4) = false := by simpa using h4
    have hfin : how < 1 ∨ 4 < how := by omega
    go_enter Try.func20, Try.ntmps20
    go_wp2
    go_ret
    exact .inr (.inr (.inr ⟨hfin, rfl, rfl⟩))
theorem joinP_1 {how : Int} {pa pb : List Pr} (h : how = 1) : joinP how pa pb = cutP (pa ++ pb) := by unfold joinP; rw [if_pos h]
theorem joinP_2 {how : Int} {pa pb : List Pr} (h : how = 2) : joinP how pa pb = distL [] (cutP (pa ++ pb)) := by subst h; rfl
theorem joinP_34 {how : Int} {pa pb : List Pr} {is : Bool} (h : how = (if is then 3 else 4)) : joinP how pa pb = distL [] (amAll is pa pb) := by subst h; cases is <;> rfl
theorem joinP_no {how : Int} {pa pb : List Pr} (h : how < 1 ∨ 4 < how) : joinP how pa pb = [((RV.nil, 1), [])] := by
  unfold joinP
  rw [if_neg (by omega), if_neg (by omega), if_neg (by omega), if_neg (by omega)]
theorem fin_of {v : Value} {prs : List Pr} {w w' : World} {e : Ending} (he : e = .returned v) (hb : Below w.heap.size w w') (h : ∃ R', ItC v prs R' w') : ∃ v R', e = .returned v ∧ Below w.heap.size w w' ∧ ItC v prs R' w' := by
  obtain ⟨R', h⟩ := h
  exact ⟨v, R', he, hb, h⟩
/-- JOIN of two iterators. -/
theorem join_ok (how : Int) (va vb : Value) (pa pb : List Pr) (Ra Rb : Nat → Prop) (w : World) (ha : ItC va pa Ra w) (hb : ItC vb pb Rb w) (hl : pa.length + pb.length ≤ 90000) :
    Calls Try.prog 20 #[.int .i64 how, va, vb] w fun e w' => ∃ v R', e = .returned v ∧ Below w.heap.size w w' ∧ ItC v (joinP how pa pb) R' w' := by
  refine (join_walk how va vb ha.fv hb.fv w).mono ?_
  have c0 := Boxed.new w 31 va
  have c1 := Boxed.new (w.alloc (.cells #[va] 31)) 31 vb
  rw [World.size_alloc] at c1
  have b1 : Below w.heap.size w (w.alloc (.cells #[va] 31)) := below_new _
  have b2 : Below w.heap.size w ((w.alloc (.cells #[va] 31)).alloc (.cells #[vb] 31)) := b1.alloc b1.size _
  rintro e w' (⟨h, rfl, rfl⟩ | ⟨h, rfl, rfl⟩ | ⟨is, h, rfl, rfl⟩ | ⟨h, rfl, rfl⟩)
  · have hx := both_c w.heap.size (w.heap.size + 1) va vb pa pb Ra Rb _ (by simp; omega) (by simp) ((c0.alloc (.cells #[vb] 31)).cell) c1.cell (ha.below b2) (hb.below b2)
    exact ⟨_, _, rfl, b2, by rw [joinP_1 h]; exact hx⟩
  · refine fin_of rfl (b2.alloc b2.size _) ?_
    rw [joinP_2 h]
    have hbo := both_c w.heap.size (w.heap.size + 1) va vb pa pb Ra Rb _ (by simp; omega) (by simp) ((c0.alloc (.cells #[vb] 31)).cell) c1.cell (ha.below b2) (hb.below b2)
    have c2 := Boxed.new ((w.alloc (.cells #[va] 31)).alloc (.cells #[vb] 31)) 31 (.func (.func 68) #[] #[.pointer (some ⟨w.heap.size, 0, none⟩), .pointer (some ⟨w.heap.size + 1, 0, none⟩)])
    simp only [World.size_alloc] at c2
    have hlen := cutP_len (pa ++ pb)
    rw [List.length_append] at hlen
    exact ⟨_, dist_c _ _ _ _ _ (by simp) c2.cell (hbo.below (below_new _)) (by omega)⟩
  · refine fin_of rfl ((b2.alloc b2.size _).alloc (b2.alloc b2.size _).size _) ?_
    rw [joinP_34 h]
    have b3 : Below w.heap.size w (((w.alloc (.cells #[va] 31)).alloc (.cells #[vb] 31)).alloc (.cells #[.bool is] 4)) := b2.alloc b2.size _
    have cd := Boxed.new ((w.alloc (.cells #[va] 31)).alloc (.cells #[vb] 31)) 4 (.bool is)
    simp only [World.size_alloc] at cd
    have ham := among_c (w.heap.size + 1) w.heap.size (w.heap.size + 1 + 1) is va vb pa pb Ra Rb (((w.alloc (.cells #[va] 31)).alloc (.cells #[vb] 31)).alloc (.cells #[.bool is] 4)) (by simp) (by simp; omega) (by simp) ((c1.alloc _).cell) (((c0.alloc _).alloc _).cell) cd.cell (ha.below b3) (hb.below b3) (by omega)
    have c2 := Boxed.new (((w.alloc (.cells #[va] 31)).alloc (.cells #[vb] 31)).alloc (.cells #[.bool is] 4)) 31 (.func (.func 69) #[] #[.pointer (some ⟨w.heap.size + 1, 0, none⟩), .pointer (some ⟨w.heap.size, 0, none⟩), .pointer (some ⟨w.heap.size + 1 + 1, 0, none⟩)])
    simp only [World.size_alloc] at c2
    have hlen := amAll_len is pa pb
    exact ⟨_, dist_c _ _ _ _ _ (by simp) c2.cell (ham.below (below_new _)) (by omega)⟩
  · refine fin_of rfl (Below.refl _ _) ?_
    rw [joinP_no h]
    exact ⟨_, err_c _⟩
/-- JOIN of nil and nil. -/
theorem join_nil (how : Int) (w : World) :
    Calls Try.prog 20 #[.int .i64 how, .nilFunc, .nilFunc] w fun e w' => ∃ v R', e = .returned v ∧ Below w.heap.size w w' ∧ ItC v (joinP how [] []) R' w' := by
  refine (join_walk how .nilFunc .nilFunc (.inr rfl) (.inr rfl) w).mono ?_
  have c0 := Boxed.new w 31 .nilFunc
  have c1 := Boxed.new (w.alloc (.cells #[.nilFunc] 31)) 31 .nilFunc
  rw [World.size_alloc] at c1
  have b1 : Below w.heap.size w (w.alloc (.cells #[.nilFunc] 31)) := below_new _
  have b2 : Below w.heap.size w ((w.alloc (.cells #[.nilFunc] 31)).alloc (.cells #[.nilFunc] 31)) := b1.alloc b1.size _
  rintro e w' (⟨h, rfl, rfl⟩ | ⟨h, rfl, rfl⟩ | ⟨is, h, rfl, rfl⟩ | ⟨h, rfl, rfl⟩)
  · have hx := both_nil_c w.heap.size (w.heap.size + 1) _ (by simp; omega) (by simp) ((c0.alloc (.cells #[.nilFunc] 31)).cell) c1.cell
    exact ⟨_, _, rfl, b2, by rw [joinP_1 h]; exact hx⟩
  · refine fin_of rfl (b2.alloc b2.size _) ?_
    rw [joinP_2 h]
    have hbo := both_nil_c w.heap.size (w.heap.size + 1) _ (by simp; omega) (by simp) ((c0.alloc (.cells #[.nilFunc] 31)).cell) c1.cell
    have c2 := Boxed.new ((w.alloc (.cells #[.nilFunc] 31)).alloc (.cells #[.nilFunc] 31)) 31 (.func (.func 68) #[] #[.pointer (some ⟨w.heap.size, 0, none⟩), .pointer (some ⟨w.heap.size + 1, 0, none⟩)])
    simp only [World.size_alloc] at c2
    exact ⟨_, dist_c _ _ [] _ _ (by simp) c2.cell (hbo.below (below_new _)) (by decide)⟩
  · refine fin_of rfl ((b2.alloc b2.size _).alloc (b2.alloc b2.size _).size _) ?_
    rw [joinP_34 h]
    have ham := among_nil_c (w.heap.size + 1) w.heap.size (w.heap.size + 1 + 1) is (((w.alloc (.cells #[.nilFunc] 31)).alloc (.cells #[.nilFunc] 31)).alloc (.cells #[.bool is] 4)) (by simp) (by simp; omega) ((c1.alloc _).cell) (((c0.alloc _).alloc _).cell)
    have c2 := Boxed.new (((w.alloc (.cells #[.nilFunc] 31)).alloc (.cells #[.nilFunc] 31)).alloc (.cells #[.bool is] 4)) 31 (.func (.func 69) #[] #[.pointer (some ⟨w.heap.size + 1, 0, none⟩), .pointer (some ⟨w.heap.size, 0, none⟩), .pointer (some ⟨w.heap.size + 1 + 1, 0, none⟩)])
    simp only [World.size_alloc] at c2
    exact ⟨_, dist_c _ _ [] _ _ (by simp) c2.cell (ham.below (below_new _)) (by decide)⟩
  · refine fin_of rfl (Below.refl _ _) ?_
    rw [joinP_no h]
    exact ⟨_, err_c _⟩
end Go.Proofs.Ytghpjlohoehdnaa.Sep

/-! The reference's Same, over two rows. No condition beyond those that each theorem names. -/
namespace Go.Proofs.Ytghpjlohoehdnaa.Sep
open Go Go.RowKit Go.Shelf
set_option linter.unusedVariables false
set_option linter.unusedSimpArgs false
/-- only the count of what was drawn may have turned -/
def Still (W W' : World) : Prop := W'.heap = W.heap ∧ W'.os = W.os ∧ W'.tape = W.tape ∧ W'.output = W.output
theorem Still.refl (W : World) : Still W W := ⟨rfl, rfl, rfl, rfl⟩
theorem Still.trans {A B C : World} (h : Still A B) (k : Still B C) : Still A C := ⟨k.1.trans h.1, k.2.1.trans h.2.1, k.2.2.1.trans h.2.2.1, k.2.2.2.trans h.2.2.2⟩
theorem Still.drew (W : World) : Still W W.drew := ⟨rfl, rfl, rfl, rfl⟩
theorem Still.cell {W W' : World} (h : Still W W') (a : Addr) : W'.cell? a = W.cell? a := by
  unfold World.cell?
  rw [h.1]
theorem Still.below {W W' : World} (h : Still W W') : Below W.heap.size W W' := ⟨h.2.1, h.2.2.1, h.2.2.2, by rw [h.1]; exact Nat.le_refl _, fun j _ => by rw [h.1]⟩
theorem Cont.still {W W' : World} {r : RV} {row : List V3} (h : Cont W r row) (k : Still W W') : Cont W' r row := h.same (by rw [k.1]; exact Nat.le_refl _) (fun j _ => by rw [k.1])
set_option maxRecDepth 100000 in
set_option maxHeartbeats 2000000 in
theorem same_some (b1 o1 c1 b2 o2 c2 k : Nat) (r1 r2 : List V3) (h1 : r1.length = k) (h2 : r2.length = k) (hk : k ≤ 100000) (W : World)
    (e1 : ∀ j u, (flat r1)[j]? = some u → W.cell? ⟨b1, o1 + j, none⟩ = some u) (e2 : ∀ j u, (flat r2)[j]? = some u → W.cell? ⟨b2, o2 + j, none⟩ = some u) :
    Calls Try.prog 27 #[.slice (some ⟨b1, o1, none⟩) k c1, .slice (some ⟨b2, o2, none⟩) k c2] W fun e W' => e = .returned (.bool (eqRow r1 r2)) ∧ Still W W' := by
  have hmx : Try.prog.follows .mixedOrders = true := by kernel_rfl
  go_enter Try.func27, Try.ntmps27
  go_wp2
  go_loopw [5] (fun i wr => ∃ (j : Nat), j ≤ k ∧ i = .int .i64 j ∧ Still W wr ∧ eqRow r1 r2 = eqRow (r1.drop j) (r2.drop j)) (fun i _ => k - (intOf i).toNat)
  case atStart => exact ⟨0, Nat.zero_le _, rfl, Still.refl _, rfl⟩
  case round =>
    obtain ⟨j, hj, rfl, hw, he⟩ := hrel
    by_cases hlt : j < k
    · obtain ⟨u, hu⟩ : ∃ u, r1[j]? = some u := ⟨r1[j]'(by omega), List.getElem?_eq_getElem (by omega)⟩
      obtain ⟨v, hv⟩ : ∃ v, r2[j]? = some v := ⟨r2[j]'(by omega), List.getElem?_eq_getElem (by omega)⟩
      have hd1 : r1.drop j = u :: r1.drop (j + 1) := by rw [List.drop_eq_getElem_cons (by omega)]; congr 1; exact Option.some.inj ((List.getElem?_eq_getElem (by omega)).symm.trans hu)
      have hd2 : r2.drop j = v :: r2.drop (j + 1) := by rw [List.drop_eq_getElem_cons (by omega)]; congr 1; exact Option.some.inj ((List.getElem?_eq_getElem (by omega)).symm.trans hv)
      rw [hd1, hd2, eqRow] at he
      obtain ⟨f1, f2, f3⟩ := flat_at r1 j u hu
      obtain ⟨g1, g2, g3⟩ := flat_at r2 j v hv
      have hc : ∀ (a : Addr), wr.drew.cell? a = W.cell? a := fun a => (hw.trans (Still.drew wr)).cell a
      have x1 := (hc _).trans (e1 _ _ f1)
      have x2 := (hc _).trans (e1 _ _ f2)
      have x3 := (hc _).trans (e1 _ _ f3)
      have y1 := (hc _).trans (e2 _ _ g1)
      have y2 := (hc _).trans (e2 _ _ g2)
      have y3 := (hc _).trans (e2 _ _ g3)
      rw [Nat.mul_comm 3 j] at x1 x2 x3 y1 y2 y3
      rw [← Nat.add_assoc] at x2 x3 y2 y3
      clear hc
      have no : eqV u v = false → eqRow r1 r2 = false := fun h => by rw [he, h, Bool.false_and]
      have yes : eqV u v = true → eqRow r1 r2 = eqRow (r1.drop (j + 1)) (r2.drop (j + 1)) := fun h => by rw [he, h, Bool.true_and]
      by_cases q1 : u.k = v.k
      · by_cases q2 : u.n = v.n
        · by_cases q3 : u.s.toList = v.s.toList
          · have hy := yes (by simp [eqV, q1, q2, q3])
            clear yes no
            go_wp2
            go_region
            go_wp2
            go_roundw
            case rel => exact ⟨j + 1, by omega, by simp, hw.trans (Still.drew wr), hy⟩
            case measure => simp [intOf]; omega
          · have hno := no (by simp [eqV, q1, q2, q3])
            clear yes no
            go_wp2
            go_region
            go_wp2
            refine bodyPost_ret (results_tmp rfl _ _ _) rfl ?_
            exact ⟨by rw [hno]; rfl, hw.trans (Still.drew wr)⟩
        · have hno := no (by simp [eqV, q1, q2])
          clear yes no
          go_wp2
          go_region
          go_wp2
          refine bodyPost_ret (results_tmp rfl _ _ _) rfl ?_
          exact ⟨by rw [hno]; rfl, hw.trans (Still.drew wr)⟩
      · have hno := no (by simp [eqV, q1])
        clear yes no
        go_wp2
        go_region
        go_wp2
        refine bodyPost_ret (results_tmp rfl _ _ _) rfl ?_
        exact ⟨by rw [hno]; rfl, hw.trans (Still.drew wr)⟩
    · obtain rfl : j = k := by omega
      rw [List.drop_of_length_le (by omega), List.drop_of_length_le (by omega)] at he
      go_wp2
      refine bodyPost_ret (results_tmp rfl _ _ _) rfl ?_
      exact ⟨by rw [he]; rfl, hw⟩
set_option maxHeartbeats 1000000 in
theorem same_len (a b : Option Addr) (n c m d : Nat) (h : n ≠ m) (W : World) : Calls Try.prog 27 #[.slice a n c, .slice b m d] W fun e W' => e = .returned (.bool false) ∧ Still W W' := by
  have hne : ((n : Int) != (m : Int)) = true := by simp; omega
  have hne2 : ¬ ((n : Int) = (m : Int)) := by omega
  go_enter Try.func27, Try.ntmps27
  go_wp2
  go_ret
  exact ⟨rfl, Still.refl _⟩
set_option maxHeartbeats 1000000 in
theorem same_zero (a b : Option Addr) (c d : Nat) (W : World) : Calls Try.prog 27 #[.slice a 0 c, .slice b 0 d] W fun e W' => e = .returned (.bool true) ∧ Still W W' := by
  go_enter Try.func27, Try.ntmps27
  go_wp2
  go_loopw [5] (fun i wr => i = .int .i64 0 ∧ wr = W) (fun _ _ => 0)
  case atStart => exact ⟨rfl, rfl⟩
  case round =>
    obtain ⟨rfl, rfl⟩ := hrel
    go_wp2
    refine bodyPost_ret (results_tmp rfl _ _ _) rfl ?_
    exact ⟨rfl, Still.refl _⟩
theorem same_ok (r1 r2 : RV) (s1 s2 : List V3) (W : World) (h1 : Cont W r1 s1) (h2 : Cont W r2 s2) (hn : r1.n ≤ 100000) :
    Calls Try.prog 27 #[.slice r1.a r1.n r1.c, .slice r2.a r2.n r2.c] W fun e W' => e = .returned (.bool (eqRow s1 s2)) ∧ Still W W' := by
  have l1 := h1.len
  have l2 := h2.len
  by_cases hm : r1.n = r2.n
  · by_cases hz : r1.n = 0
    · have e1 : s1 = [] := List.eq_nil_of_length_eq_zero (by omega)
      have e2 : s2 = [] := List.eq_nil_of_length_eq_zero (by omega)
      rw [← hm, hz, e1, e2]
      exact same_zero r1.a r2.a r1.c r2.c W
    · rcases h1 with ⟨h, _⟩ | ⟨b1, o1, ha, _, _, hc1⟩
      · exact absurd h hz
      rcases h2 with ⟨h, _⟩ | ⟨b2, o2, hb, _, _, hc2⟩
      · exact absurd (hm.trans h) hz
      rw [ha, hb, ← hm]
      exact same_some b1 o1 r1.c b2 o2 r2.c r1.n s1 s2 l1 (l2.trans hm.symm) hn W hc1 hc2
  · rw [eqRow_len s1 s2 (by omega)]
    exact same_len r1.a r2.a r1.n r1.c r2.n r2.c hm W
end Go.Proofs.Ytghpjlohoehdnaa.Sep

/-! The reference's Has, SameRows and the law's within, over lists of rows. No condition beyond those that each theorem names. -/
namespace Go.Proofs.Ytghpjlohoehdnaa.Sep
open Go Go.RowKit Go.Shelf
set_option linter.unusedVariables false
set_option linter.unusedSimpArgs false
theorem Own1.still {W W' : World} {sv : Value} {rows : List (List V3)} (h : Own1 W sv rows) (k : Still W W') : Own1 W' sv rows := h.below k.below
theorem Own1.shp {W : World} {sv : Value} {rows : List (List V3)} : Own1 W sv rows → ∃ a k c, sv = .slice a k c
  | .inl ⟨_, _, h, _⟩ => ⟨_, _, _, h⟩
  | .inr ⟨b, off, c, rs, h1, _⟩ => ⟨_, _, _, h1⟩
set_option maxRecDepth 100000 in
set_option maxHeartbeats 2000000 in
theorem has_ok2 (ra : Option Addr) (rn rc : Nat) (sv : Value) (rows : List (List V3)) (sr : List V3) (W : World) (hk : rows.length ≤ 200000) (hl : Own1 W sv rows) (h2 : Cont W ⟨ra, rn, rc⟩ sr) :
    Calls Try.prog 37 #[sv, .slice ra rn rc] W fun e W' => e = .returned (.bool (rows.any (fun s => eqRow s sr))) ∧ Still W W' := by
  rcases hl with ⟨a0, c0, rfl, rfl⟩ | ⟨b, off, c, rs, rfl, hb, hcs, hrows⟩
  · go_enter Try.func37, Try.ntmps37
    go_wp2
    go_loopw [5] (fun i wr => i = .int .i64 0 ∧ wr = W) (fun _ _ => 0)
    case atStart => exact ⟨rfl, rfl⟩
    case round =>
      obtain ⟨rfl, rfl⟩ := hrel
      go_wp2
      refine bodyPost_ret (results_tmp rfl _ _ _) rfl ?_
      exact ⟨rfl, Still.refl _⟩
  · have hk' : rs.length ≤ 200000 := by rw [hrows.len]; exact hk
    go_enter Try.func37, Try.ntmps37
    go_wp2
    go_loopw [5] (fun i wr => ∃ (j : Nat), j ≤ rs.length ∧ i = .int .i64 j ∧ Still W wr ∧ rows.any (fun s => eqRow s sr) = (rows.drop j).any (fun s => eqRow s sr)) (fun i _ => rs.length - (intOf i).toNat)
    case atStart => exact ⟨0, Nat.zero_le _, rfl, Still.refl _, rfl⟩
    case round =>
      obtain ⟨j, hj, rfl, hw, he⟩ := hrel
      have hlen := hrows.len
      by_cases hlt : j < rs.length
      · obtain ⟨q, hq⟩ : ∃ q, rs[j]? = some q := ⟨rs[j], List.getElem?_eq_getElem hlt⟩
        obtain ⟨row, hr⟩ : ∃ row, rows[j]? = some row := ⟨rows[j]'(by omega), List.getElem?_eq_getElem (by omega)⟩
        have hcont := hrows.get j _ _ hq hr
        have hx := (hw.cell _).trans (hcs j hlt)
        rw [hq] at hx
        obtain ⟨qa, qn, qc⟩ := q
        dsimp only [RV.v, Option.getD_some] at hx
        have hd : rows.drop j = row :: rows.drop (j + 1) := by rw [List.drop_eq_getElem_cons (by omega)]; congr 1; exact Option.some.inj ((List.getElem?_eq_getElem (by omega)).symm.trans hr)
        rw [hd, List.any_cons] at he
        have hC1 : Cont wr ⟨qa, qn, qc⟩ row := hcont.1.still hw
        have hC2 : Cont wr ⟨ra, rn, rc⟩ sr := h2.still hw
        have hqn : qn ≤ 100000 := Nat.le_trans hcont.2 (by decide)
        clear hq hr hd hlen
        have hsame := same_ok ⟨qa, qn, qc⟩ ⟨ra, rn, rc⟩ row sr wr hC1 hC2 hqn
        cases hv : eqRow row sr with
        | true =>
          rw [hv, Bool.true_or] at he
          rw [hv] at hsame
          go_wp2_with (go_at_call 27; refine hsame.mono ?_; rintro e w' ⟨rfl, hw'⟩)
          refine bodyPost_ret (results_tmp rfl _ _ _) rfl ?_
          exact ⟨by rw [he]; rfl, hw.trans hw'⟩
        | false =>
          rw [hv, Bool.false_or] at he
          rw [hv] at hsame
          go_wp2_with (go_at_call 27; refine hsame.mono ?_; rintro e w' ⟨rfl, hw'⟩)
          go_roundw
          case rel => exact ⟨j + 1, by omega, by simp, hw.trans hw', he⟩
          case measure => simp [intOf]; omega
      · obtain rfl : j = rs.length := by omega
        rw [List.drop_of_length_le (by omega)] at he
        clear hlen
        go_wp2
        refine bodyPost_ret (results_tmp rfl _ _ _) rfl ?_
        exact ⟨by rw [he]; rfl, hw⟩
theorem has_ok (ra : Option Addr) (rn rc : Nat) (sv : Value) (rows : List (List V3)) (sr : List V3) (W : World) (hk : rows.length ≤ 100000) (hl : Own1 W sv rows) (h2 : Cont W ⟨ra, rn, rc⟩ sr) :
    Calls Try.prog 37 #[sv, .slice ra rn rc] W fun e W' => e = .returned (.bool (rows.any (fun s => eqRow s sr))) ∧ Still W W' := has_ok2 ra rn rc sv rows sr W (Nat.le_trans hk (by decide)) hl h2
set_option maxRecDepth 100000 in
set_option maxHeartbeats 2000000 in
/-- within: are all of some rows among others? -/
theorem within_ok (sa sb : Value) (ra rb : List (List V3)) (W : World) (hka : ra.length ≤ 100000) (hkb : rb.length ≤ 100000) (ha : Own1 W sa ra) (hb : Own1 W sb rb) :
    Calls Try.prog 16 #[sa, sb] W fun e W' => e = .returned (.bool (ra.all fun r => rb.any fun s => eqRow s r)) ∧ Still W W' := by
  rcases ha with ⟨a0, c0, rfl, rfl⟩ | ⟨b, off, c, rs, rfl, hbb, hcs, hrows⟩
  · rcases hb.shp with ⟨ya, yn, yc, rfl⟩
    go_enter Try.func16, Try.ntmps16
    go_wp2
    go_loopw [5] (fun i wr => i = .int .i64 0 ∧ wr = W) (fun _ _ => 0)
    case atStart => exact ⟨rfl, rfl⟩
    case round =>
      obtain ⟨rfl, rfl⟩ := hrel
      go_wp2
      refine bodyPost_ret (results_tmp rfl _ _ _) rfl ?_
      exact ⟨rfl, Still.refl _⟩
  · have hk' : rs.length ≤ 100000 := by rw [hrows.len]; exact hka
    rcases hb.shp with ⟨ya, yn, yc, rfl⟩
    go_enter Try.func16, Try.ntmps16
    go_wp2
    go_loopw [5] (fun i wr => ∃ (j : Nat), j ≤ rs.length ∧ i = .int .i64 j ∧ Still W wr ∧ (ra.all fun r => rb.any fun s => eqRow s r) = (ra.drop j).all fun r => rb.any fun s => eqRow s r) (fun i _ => rs.length - (intOf i).toNat)
    case atStart => exact ⟨0, Nat.zero_le _, rfl, Still.refl _, rfl⟩
    case round =>
      obtain ⟨j, hj, rfl, hw, he⟩ := hrel
      have hlen := hrows.len
      by_cases hlt : j < rs.length
      · obtain ⟨q, hq⟩ : ∃ q, rs[j]? = some q := ⟨rs[j], List.getElem?_eq_getElem hlt⟩
        obtain ⟨row, hr⟩ : ∃ row, ra[j]? = some row := ⟨ra[j]'(by omega), List.getElem?_eq_getElem (by omega)⟩
        have hcont := hrows.get j _ _ hq hr
        have hx := (hw.cell _).trans (hcs j hlt)
        rw [hq] at hx
        obtain ⟨qa, qn, qc⟩ := q
        dsimp only [RV.v, Option.getD_some] at hx
        have hd : ra.drop j = row :: ra.drop (j + 1) := by rw [List.drop_eq_getElem_cons (by omega)]; congr 1; exact Option.some.inj ((List.getElem?_eq_getElem (by omega)).symm.trans hr)
        rw [hd, List.all_cons] at he
        clear hq hr hd hlen
        have hsame := has_ok qa qn qc (.slice ya yn yc) rb row wr hkb (hb.still hw) (hcont.1.still hw)
        cases hv : (rb.any fun s => eqRow s row) with
        | true =>
          rw [hv, Bool.true_and] at he
          rw [hv] at hsame
          go_wp2_with (go_at_call 37; refine hsame.mono ?_; rintro e w' ⟨rfl, hw'⟩)
          go_roundw
          case rel => exact ⟨j + 1, by omega, by simp, hw.trans hw', he⟩
          case measure => simp [intOf]; omega
        | false =>
          rw [hv, Bool.false_and] at he
          rw [hv] at hsame
          go_wp2_with (go_at_call 37; refine hsame.mono ?_; rintro e w' ⟨rfl, hw'⟩)
          refine bodyPost_ret (results_tmp rfl _ _ _) rfl ?_
          exact ⟨by rw [he]; rfl, hw.trans hw'⟩
      · obtain rfl : j = rs.length := by omega
        rw [List.drop_of_length_le (by omega)] at he
        clear hlen
        go_wp2
        refine bodyPost_ret (results_tmp rfl _ _ _) rfl ?_
        exact ⟨by rw [he]; rfl, hw⟩
end Go.Proofs.Ytghpjlohoehdnaa.Sep

/-! The reference's SameRows, over lists of rows. No condition beyond those that each theorem names. -/
namespace Go.Proofs.Ytghpjlohoehdnaa.Sep
open Go Go.RowKit Go.Shelf
set_option linter.unusedVariables false
set_option linter.unusedSimpArgs false
def eqRows : List (List V3) → List (List V3) → Bool
  | [], [] => true
  | u :: r, v :: s => eqRow u v && eqRows r s
  | _, _ => false
theorem eqRows_len : ∀ r s : List (List V3), r.length ≠ s.length → eqRows r s = false
  | [], [], h => absurd rfl h
  | [], _ :: _, _ => rfl
  | _ :: _, [], _ => rfl
  | u :: r, v :: s, h => by rw [eqRows, eqRows_len r s (by simpa using h), Bool.and_false]
theorem eqV_refl (v : V3) : eqV v v = true := by simp [eqV]
theorem eqRow_refl : ∀ r : List V3, eqRow r r = true
  | [] => rfl
  | v :: r => by rw [eqRow, eqV_refl, eqRow_refl r]; rfl
theorem eqRows_refl : ∀ r : List (List V3), eqRows r r = true
  | [] => rfl
  | v :: r => by rw [eqRows, eqRow_refl, eqRows_refl r]; rfl
set_option maxRecDepth 100000 in
set_option maxHeartbeats 2000000 in
theorem sameRows_some (b1 o1 c1 b2 o2 c2 k : Nat) (rs1 rs2 : List RV) (r1 r2 : List (List V3)) (h1 : rs1.length = k) (h2 : rs2.length = k) (hk : k ≤ 100000) (W : World)
    (e1 : ∀ j, j < k → W.cell? ⟨b1, o1 + j, none⟩ = some ((rs1[j]?.getD RV.nil).v)) (e2 : ∀ j, j < k → W.cell? ⟨b2, o2 + j, none⟩ = some ((rs2[j]?.getD RV.nil).v))
    (a1 : All2 (fun q row => Cont W q row ∧ q.n ≤ 1000) rs1 r1) (a2 : All2 (fun q row => Cont W q row ∧ q.n ≤ 1000) rs2 r2) :
    Calls Try.prog 15 #[.slice (some ⟨b1, o1, none⟩) k c1, .slice (some ⟨b2, o2, none⟩) k c2] W fun e W' => e = .returned (.bool (eqRows r1 r2)) ∧ Still W W' := by
  have hmx : Try.prog.follows .mixedOrders = true := by kernel_rfl
  go_enter Try.func15, Try.ntmps15
  go_wp2
  go_loopw [5] (fun i wr => ∃ (j : Nat), j ≤ k ∧ i = .int .i64 j ∧ Still W wr ∧ eqRows r1 r2 = eqRows (r1.drop j) (r2.drop j)) (fun i _ => k - (intOf i).toNat)
  case atStart => exact ⟨0, Nat.zero_le _, rfl, Still.refl _, rfl⟩
  case round =>
    obtain ⟨j, hj, rfl, hw, he⟩ := hrel
    have l1 := a1.len
    have l2 := a2.len
    by_cases hlt : j < k
    · obtain ⟨q, hq⟩ : ∃ q, rs1[j]? = some q := ⟨rs1[j]'(by omega), List.getElem?_eq_getElem (by omega)⟩
      obtain ⟨p, hp⟩ : ∃ p, rs2[j]? = some p := ⟨rs2[j]'(by omega), List.getElem?_eq_getElem (by omega)⟩
      obtain ⟨u, hu⟩ : ∃ u, r1[j]? = some u := ⟨r1[j]'(by omega), List.getElem?_eq_getElem (by omega)⟩
      obtain ⟨v, hv⟩ : ∃ v, r2[j]? = some v := ⟨r2[j]'(by omega), List.getElem?_eq_getElem (by omega)⟩
      have hd1 : r1.drop j = u :: r1.drop (j + 1) := by rw [List.drop_eq_getElem_cons (by omega)]; congr 1; exact Option.some.inj ((List.getElem?_eq_getElem (by omega)).symm.trans hu)
      have hd2 : r2.drop j = v :: r2.drop (j + 1) := by rw [List.drop_eq_getElem_cons (by omega)]; congr 1; exact Option.some.inj ((List.getElem?_eq_getElem (by omega)).symm.trans hv)
      rw [hd1, hd2, eqRows] at he
      have c1' := a1.get j _ _ hq hu
      have c2' := a2.get j _ _ hp hv
      have x1 := ((hw.trans (Still.drew wr)).cell _).trans (e1 j hlt)
      have x2 := ((hw.trans (Still.drew wr)).cell _).trans (e2 j hlt)
      rw [hq] at x1
      rw [hp] at x2
      obtain ⟨qa, qn, qc⟩ := q
      obtain ⟨pa, pn, pc⟩ := p
      dsimp only [RV.v, Option.getD_some] at x1 x2
      have hC1 : Cont wr.drew ⟨qa, qn, qc⟩ u := c1'.1.still (hw.trans (Still.drew wr))
      have hC2 : Cont wr.drew ⟨pa, pn, pc⟩ v := c2'.1.still (hw.trans (Still.drew wr))
      have hqn : qn ≤ 100000 := Nat.le_trans c1'.2 (by decide)
      have hsame := same_ok ⟨qa, qn, qc⟩ ⟨pa, pn, pc⟩ u v wr.drew hC1 hC2 hqn
      clear hd1 hd2 hu hv hq hp l1 l2
      cases ht : eqRow u v with
      | true =>
        rw [ht, Bool.true_and] at he
        rw [ht] at hsame
        go_wp2
        go_region_with (go_at_call 27; refine hsame.mono ?_; rintro e w' ⟨rfl, hw'⟩)
        all_goals (go_wp2; go_roundw; (case rel => exact ⟨j + 1, by omega, by simp, (hw.trans (Still.drew wr)).trans hw', he⟩); (case measure => simp [intOf]; omega))
      | false =>
        rw [ht, Bool.false_and] at he
        rw [ht] at hsame
        go_wp2
        go_region_with (go_at_call 27; refine hsame.mono ?_; rintro e w' ⟨rfl, hw'⟩)
        all_goals (go_wp2; refine bodyPost_ret (results_tmp rfl _ _ _) rfl ?_; exact ⟨by rw [he]; rfl, (hw.trans (Still.drew wr)).trans hw'⟩)
    · obtain rfl : j = k := by omega
      rw [List.drop_of_length_le (by omega), List.drop_of_length_le (by omega)] at he
      clear l1 l2
      go_wp2
      refine bodyPost_ret (results_tmp rfl _ _ _) rfl ?_
      exact ⟨by rw [he]; rfl, hw⟩
set_option maxHeartbeats 1000000 in
theorem sameRows_len (a b : Option Addr) (n c m d : Nat) (h : n ≠ m) (W : World) : Calls Try.prog 15 #[.slice a n c, .slice b m d] W fun e W' => e = .returned (.bool false) ∧ Still W W' := by
  have hne : ((n : Int) != (m : Int)) = true := by simp; omega
  have hne2 : ¬ ((n : Int) = (m : Int)) := by omega
  go_enter Try.func15, Try.ntmps15
  go_wp2
  go_ret
  exact ⟨rfl, Still.refl _⟩
set_option maxHeartbeats 1000000 in
theorem sameRows_zero (a b : Option Addr) (c d : Nat) (W : World) : Calls Try.prog 15 #[.slice a 0 c, .slice b 0 d] W fun e W' => e = .returned (.bool true) ∧ Still W W' := by
  go_enter Try.func15, Try.ntmps15
  go_wp2
  go_loopw [5] (fun i wr => i = .int .i64 0 ∧ wr = W) (fun _ _ => 0)
  case atStart => exact ⟨rfl, rfl⟩
  case round =>
    obtain ⟨rfl, rfl⟩ := hrel
    go_wp2
    refine bodyPost_ret (results_tmp rfl _ _ _) rfl ?_
    exact ⟨rfl, Still.refl _⟩
theorem sameRows_ok (s1 s2 : Value) (r1 r2 : List (List V3)) (W : World) (h1 : Own1 W s1 r1) (h2 : Own1 W s2 r2) (hn : r1.length ≤ 100000) :
    Calls Try.prog 15 #[s1, s2] W fun e W' => e = .returned (.bool (eqRows r1 r2)) ∧ Still W W' := by
  rcases h1 with ⟨a1, c1, rfl, rfl⟩ | ⟨b1, o1, c1, rs1, rfl, _, e1, w1⟩
  · rcases h2 with ⟨a2, c2, rfl, rfl⟩ | ⟨b2, o2, c2, rs2, rfl, _, e2, w2⟩
    · exact sameRows_zero a1 a2 c1 c2 W
    · have l2 := w2.len
      by_cases hz : rs2.length = 0
      · have : r2 = [] := List.eq_nil_of_length_eq_zero (by omega)
        subst this
        rw [hz]
        exact sameRows_zero a1 _ c1 c2 W
      · rw [eqRows_len [] r2 (by rw [List.length_nil]; omega)]
        exact sameRows_len a1 _ 0 c1 rs2.length c2 (fun h => hz h.symm) W
  · have l1 := w1.len
    rcases h2 with ⟨a2, c2, rfl, rfl⟩ | ⟨b2, o2, c2, rs2, rfl, _, e2, w2⟩
    · by_cases hz : rs1.length = 0
      · have : r1 = [] := List.eq_nil_of_length_eq_zero (by omega)
        subst this
        rw [hz]
        exact sameRows_zero _ a2 c1 c2 W
      · rw [eqRows_len r1 [] (by rw [List.length_nil]; omega)]
        exact sameRows_len _ a2 rs1.length c1 0 c2 hz W
    · have l2 := w2.len
      by_cases hm : rs1.length = rs2.length
      · rw [← hm] at e2 ⊢
        exact sameRows_some b1 o1 c1 b2 o2 c2 rs1.length rs1 rs2 r1 r2 rfl hm.symm (by omega) W e1 e2 w1 w2
      · rw [eqRows_len r1 r2 (by omega)]
        exact sameRows_len _ _ _ c1 _ c2 hm W
end Go.Proofs.Ytghpjlohoehdnaa.Sep

/-! The reference's Join, over lists of rows. No condition beyond those that each theorem names. -/
namespace Go.Proofs.Ytghpjlohoehdnaa.Sep
open Go Go.RowKit Go.Shelf
set_option linter.unusedVariables false
set_option linter.unusedSimpArgs false
def refA (how : Int) (b : List (List V3)) : List (List V3) → List (List V3) → List (List V3)
  | out, [] => out
  | out, r :: l => refA how b (if (how == 2 || ((how == 3) == b.any fun s => eqRow s r)) && !(out.any fun s => eqRow s r) then out ++ [r] else out) l
def refB : List (List V3) → List (List V3) → List (List V3)
  | out, [] => out
  | out, r :: l => refB (if !(out.any fun s => eqRow s r) then out ++ [r] else out) l
def refL (how : Int) (a b : List (List V3)) : List (List V3) := if how = 1 then a ++ b else if how = 2 then refB (refA 2 b [] a) b else refA how b [] a
section
variable {P : Program} {w : World} {e : TypeId}
theorem run_append_none (base : Nat) (t ty e : TypeId) (i : TypeInfo) (size c : Nat) (ht : P.underlying t = some (.slice e)) (hi : P.info? e = some i)
    (v : Value) (n : Nat) (xs : List Value) (hown : w.ownsRow base e size v n xs) :
    (Builtin.append_ #[t, t] ty #[v, .slice none 0 c]).run P w = .ok v w := by
  rcases hown.2 with ⟨rfl, rfl⟩ | ⟨g, cap, cur, rfl, _, _, hnc, _⟩
  · simp [Builtin.append_, run_underlying ht, sizeOf, typeInfo, hi, Builtin.lenOf, Builtin.firstCells]
  · simp [Builtin.append_, run_underlying ht, sizeOf, typeInfo, hi, Builtin.lenOf, Builtin.firstCells, hnc, storeCells]
end
theorem wpList_append_run {P : Program} {w w' : World} {ops : Array Oper} {rest : List Oper} {o : Oper} {a : Act} {Q : Exit → Act → World → Prop} {s x : Operand} {t : TypeId} {v' : Value} (hgd : o.guard = none)
    (ho : o.op = .call { callee := .builtin .append, args := #[s, x], argTypes := #[t, t] }) (hrun : (Builtin.append_ #[t, t] o.type #[a.eval s, a.eval x]).run P w = .ok v' w') (h : wpList P ops Q rest (a.put o.dst v') w') : wpList P ops Q (o :: rest) a w := by
  refine wpList_plain hgd fun K hK => ?_
  unfold Oper.wp
  simp [execOp, ho, resolve, invoke, builtin, hrun, Result.andThen]
  exact hK _ _ h
/-- 'append(out, l...)' of a list of rows -/
theorem append_lst {W : World} {N n : Nat} {v sv : Value} {xs : List Value} {rs : List RV} (hN : N ≤ W.heap.size) (ho : W.ownsRow N 48 1 v n xs) (hl : (∃ a c, sv = .slice a 0 c ∧ rs = []) ∨ ∃ b off c, sv = .slice (some ⟨b, off, none⟩) rs.length c ∧ ∀ j, j < rs.length → W.cell? ⟨b, off + j, none⟩ = some ((rs[j]?.getD RV.nil).v))
    (hb : n + rs.length ≤ 200000) : ∃ v' w', (Builtin.append_ #[22, 22] 22 #[v, sv]).run Try.prog W = .ok v' w' ∧ w'.ownsRow N 48 1 v' (n + rs.length) (xs ++ rs.map RV.v) ∧ W.grownBy w' v.ownBlock := by
  obtain ⟨i0, hi, hz0, hz1, hz2⟩ := info_parts infoR
  rcases hl with ⟨a, c, rfl, rfl⟩ | ⟨b, off, c, rfl, hcs⟩
  · cases a with
    | none => exact ⟨v, W, run_append_none N 22 22 48 i0 1 c Try.underlying22 hi v n xs ho, by simpa using ho, ⟨rfl, rfl, rfl, Nat.le_refl _, fun _ _ _ => rfl⟩⟩
    | some a =>
      obtain ⟨v', w', hr, h2, h3, _⟩ := run_append_own_at (P := Try.prog) W N 22 22 48 i0 (.slice none 0 0) 1 24 Try.underlying22 hi hz0 hz1 hz2 rfl (by decide) v n xs ho a 0 c [] rfl (fun j u hj => by simp at hj) (fun u hu => by cases hu) (by unfold maxLen; simp at hb; omega) (by simp at hb; omega) hN
      exact ⟨v', w', hr, by simpa using h2, h3⟩
  · obtain ⟨v', w', hr, h2, h3, _⟩ := run_append_own_at (P := Try.prog) W N 22 22 48 i0 (.slice none 0 0) 1 24 Try.underlying22 hi hz0 hz1 hz2 rfl (by decide) v n xs ho ⟨b, off, none⟩ rs.length c (rs.map RV.v) (by simp) (fun j u hj => by
        rw [Addr.add_lit]
        have hjl : j < rs.length := by have := (List.getElem?_eq_some_iff.1 hj).1; simpa using this
        rw [hcs j hjl, ← hj]
        simp [hjl]) (fun u hu => by obtain ⟨r, _, rfl⟩ := List.mem_map.1 hu; rfl) (by unfold maxLen; omega) (by omega) hN
    exact ⟨v', w', hr, h2, h3⟩
/-- a list's cells -/
theorem Own1.cells {W : World} {sv : Value} {rows : List (List V3)} : Own1 W sv rows → ∃ rs : List RV, rs.length = rows.length ∧ All2 (fun q row => Cont W q row ∧ q.n ≤ 1000) rs rows ∧
    ((∃ a c, sv = .slice a 0 c ∧ rs = []) ∨ ∃ b off c, sv = .slice (some ⟨b, off, none⟩) rs.length c ∧ b < W.heap.size ∧ ∀ j, j < rs.length → W.cell? ⟨b, off + j, none⟩ = some ((rs[j]?.getD RV.nil).v))
  | .inl ⟨a, c, h, h2⟩ => ⟨[], by rw [h2]; rfl, by rw [h2]; trivial, .inl ⟨a, c, h, rfl⟩⟩
  | .inr ⟨b, off, c, rs, h1, h2, h3, h4⟩ => ⟨rs, h4.len, h4, .inr ⟨b, off, c, h1, h2, h3⟩⟩
theorem all2_app {α β : Type} {P : α → β → Prop} : ∀ {l l' : List α} {m m' : List β}, All2 P l m → All2 P l' m' → All2 P (l ++ l') (m ++ m')
  | [], _, [], _, _, h => h
  | a :: l, _, b :: m, _, ⟨h1, h2⟩, h => ⟨h1, all2_app h2 h⟩
theorem own1_of_row {N : Nat} {W : World} {v : Value} {n : Nat} {rs : List RV} {rows : List (List V3)} (hn : n = rs.length) (h : W.ownsRow N 48 1 v n (rs.map RV.v)) (hr : All2 (fun r row => Cont W r row ∧ r.n ≤ 1000) rs rows) : Own1 W v rows := by
  have hx : W.ownsRow 0 48 1 v n (rs.map RV.v) := by
    refine ⟨h.1, ?_⟩
    rcases h.2 with h | ⟨g, cap, cur, rfl, _, h1⟩
    · exact .inl h
    · exact .inr ⟨g, cap, cur, rfl, Nat.zero_le _, h1⟩
  exact (ownB_of_row (N := 0) hn hx (hr.imp fun _ _ h => ⟨h.1, h.2, fun _ _ => Nat.zero_le _⟩)).own
theorem all2_below {W W' : World} {rs : List RV} {rows : List (List V3)} (hb : Below W.heap.size W W') (h : All2 (fun r row => Cont W r row ∧ r.n ≤ 1000) rs rows) : All2 (fun r row => Cont W' r row ∧ r.n ≤ 1000) rs rows :=
  h.imp fun _ _ h => ⟨h.1.below hb, h.2⟩
theorem own_shape {W : World} {N n : Nat} {v : Value} {xs : List Value} (h : W.ownsRow N 48 1 v n xs) : ∃ a c, v = .slice a n c := by
  rcases h.2 with ⟨rfl, h0⟩ | ⟨g, cap, cur, rfl, _⟩
  · exact ⟨_, _, by rw [h0]⟩
  · exact ⟨_, _, rfl⟩
theorem ownsRow_still {W W' : World} {N n : Nat} {v : Value} {xs : List Value} (h : W.ownsRow N 48 1 v n xs) (k : Still W W') : W'.ownsRow N 48 1 v n xs := ownsRow_same (fun j _ => by rw [k.1]) h
set_option maxRecDepth 100000 in
set_option maxHeartbeats 2000000 in
theorem ref_one (sa sb : Value) (ra rb : List (List V3)) (W : World) (hka : ra.length ≤ 90000) (hkb : rb.length ≤ 90000) (ha : Own1 W sa ra) (hb : Own1 W sb rb) :
    Calls Try.prog 14 #[.int .i64 1, sa, sb] W fun e W' => ∃ sv, e = .returned (.tuple #[sv, .int .i64 0]) ∧ Own1 W' sv (ra ++ rb) ∧ Below W.heap.size W W' := by
  obtain ⟨rsa, la, pa, ca⟩ := ha.cells
  obtain ⟨rsb, lb, pb, cb⟩ := hb.cells
  obtain ⟨v1, w1, hr1, o1, g1⟩ := append_lst (Nat.le_refl _) (World.ownsRow_nil W W.heap.size 48 1) (ca.imp id fun ⟨b, off, c, h1, _, h2⟩ => ⟨b, off, c, h1, h2⟩) (by omega)
  rw [Nat.zero_add, List.nil_append] at o1
  have b1 : Below W.heap.size W w1 := (Below.refl _ W).grown g1 (Nat.le_refl _) (fun k hk => by cases hk)
  obtain ⟨v2, w2, hr2, o2, g2⟩ := append_lst (rs := rsb) b1.size o1 (cb.imp id fun ⟨b, off, c, h1, h0, h2⟩ => ⟨b, off, c, h1, fun j hj => (cell_of_block (b1.block b h0) _).trans (h2 j hj)⟩) (by omega)
  have b2 : Below W.heap.size W w2 := b1.grown g2 b1.size (fun k hk => by
    rcases o1.2 with ⟨rfl, _⟩ | ⟨g, cap, cur, rfl, h, _⟩
    · cases hk
    · injection hk with hk; subst hk; exact h)
  have hfin : Own1 w2 v2 (ra ++ rb) := own1_of_row (n := rsa.length + rsb.length) (rs := rsa ++ rsb) (by simp) (by simpa using o2) (all2_app (all2_below b2 pa) (all2_below b2 pb))
  obtain ⟨va, vk, vc, rfl⟩ := hfin.shp
  obtain ⟨ya, yk, yc, rfl⟩ := ha.shp
  obtain ⟨za, zk, zc, rfl⟩ := hb.shp
  obtain ⟨xa, xc, rfl⟩ := own_shape o1
  clear o1 o2 g1 g2 ca cb la lb pa pb
  go_enter Try.func14, Try.ntmps14
  go_wp2_with (first | (at_builtin; refine wpList_append_run rfl rfl hr1 ?_) | (at_builtin; refine wpList_append_run rfl rfl hr2 ?_))
  refine bodyPost_ret (results_tmp2 rfl _ _ _) rfl ?_
  exact ⟨_, rfl, hfin, b2⟩
end Go.Proofs.Ytghpjlohoehdnaa.Sep

/-! The reference's Join, over lists of rows: its loops. No condition beyond those that each theorem names. -/
namespace Go.Proofs.Ytghpjlohoehdnaa.Sep
open Go Go.RowKit Go.Shelf
set_option linter.unusedVariables false
set_option linter.unusedSimpArgs false
set_option maxRecDepth 100000 in
set_option maxHeartbeats 1000000 in
theorem ref_no (how : Int) (h : how < 1 ∨ 4 < how) (aa ab : Option Addr) (na ca nb cb : Nat) (W : World) :
    Calls Try.prog 14 #[.int .i64 how, .slice aa na ca, .slice ab nb cb] W fun e W' => e = .returned (.tuple #[.slice none 0 0, .int .i64 1]) ∧ Below W.heap.size W W' := by
  have hb1 : (how == 1) = false := by simp; omega
  by_cases h1 : how < 1
  · have hd1 : decide (how < 1) = true := by simpa using h1
    clear h
    go_enter Try.func14, Try.ntmps14
    go_wp2
    refine bodyPost_ret (results_tmp2 rfl _ _ _) rfl ?_
    exact ⟨rfl, Below.refl _ _⟩
  · have hd1 : decide (how < 1) = false := by simpa using h1
    have h4 : 4 < how := by omega
    have hd4 : decide (4 < how) = true := by simpa using h4
    clear h
    go_enter Try.func14, Try.ntmps14
    go_wp2
    refine bodyPost_ret (results_tmp2 rfl _ _ _) rfl ?_
    exact ⟨rfl, Below.refl _ _⟩
/-- what the first loop of the reference's Join knows -/
def R1 (W : World) (how : Int) (ra rb : List (List V3)) (i o : Value) (wr : World) : Prop :=
  ∃ (j : Nat) (rsO : List RV) (rowsO : List (List V3)), j ≤ ra.length ∧ i = .int .i64 j ∧ Below W.heap.size W wr ∧ wr.ownsRow W.heap.size 48 1 o rsO.length (rsO.map RV.v) ∧ All2 (fun q row => Cont W q row ∧ q.n ≤ 1000) rsO rowsO ∧ rsO.length ≤ j ∧ refA how rb [] ra = refA how rb rowsO (ra.drop j)
/-- .. and the second -/
def R2 (W : World) (rb out0 : List (List V3)) (i o : Value) (wr : World) : Prop :=
  ∃ (j : Nat) (rsO : List RV) (rowsO : List (List V3)), j ≤ rb.length ∧ i = .int .i64 j ∧ Below W.heap.size W wr ∧ wr.ownsRow W.heap.size 48 1 o rsO.length (rsO.map RV.v) ∧ All2 (fun q row => Cont W q row ∧ q.n ≤ 1000) rsO rowsO ∧ rsO.length ≤ 90000 + j ∧ refB out0 rb = refB rowsO (rb.drop j)
theorem ref_grow {W wr w' w1 : World} {a : Option Addr} {k c : Nat} {xs : List Value} {o : Obj} (hbw : Below W.heap.size W wr) (hw : Still wr w') (hg : (w'.alloc o).grownBy w1 (Value.slice a k c).ownBlock) (ho : w'.ownsRow W.heap.size 48 1 (.slice a k c) k xs) : Below W.heap.size W w1 := by
  have h1 := below_step hbw hw.below hbw.size
  refine (h1.alloc h1.size o).grown hg (by rw [World.size_alloc]; exact Nat.le_succ_of_le h1.size) (fun j hj => ?_)
  rcases ho.2 with ⟨e, _⟩ | ⟨g, cap, cur, e, h, _⟩
  · rw [e] at hj; cases hj
  · rw [e] at hj; injection hj with hj; subst hj; exact h
set_option maxRecDepth 100000 in
set_option maxHeartbeats 4000000 in
theorem ref_2 (aa ab : Option Addr) (na ca nb cb : Nat) (ra rb : List (List V3)) (W : World) (hka : ra.length ≤ 90000) (hkb : rb.length ≤ 90000) (ha : Own1 W (.slice aa na ca) ra) (hb : Own1 W (.slice ab nb cb) rb) :
    Calls Try.prog 14 #[.int .i64 2, .slice aa na ca, .slice ab nb cb] W fun e W' => ∃ sv, e = .returned (.tuple #[sv, .int .i64 0]) ∧ Own1 W' sv (refB (refA 2 rb [] ra) rb) ∧ Below W.heap.size W W' := by
  obtain ⟨i0, hi, hz0, hz1, hz2⟩ := info_parts infoR
  have hbelow : Below W.heap.size W W := Below.refl _ _
  obtain ⟨rsa, la, pa, hca⟩ := ha.cells
  have hna : na = ra.length := by
    rcases hca with ⟨a, c, h1, h2⟩ | ⟨b, off, c, h1, _⟩
    · injection h1 with _ h1 _; rw [h1, ← la, h2]; rfl
    · injection h1 with _ h1 _; rw [h1, la]
  obtain ⟨rsb, lb, pb, hcb⟩ := hb.cells
  have hnb : nb = rb.length := by
    rcases hcb with ⟨a, c, h1, h2⟩ | ⟨b, off, c, h1, _⟩
    · injection h1 with _ h1 _; rw [h1, ← lb, h2]; rfl
    · injection h1 with _ h1 _; rw [h1, lb]
  have hcell2 : ∀ j, j < nb → ∃ b off, ab = some ⟨b, off, none⟩ ∧ b < W.heap.size ∧ W.cell? ⟨b, off + j, none⟩ = some ((rsb[j]?.getD RV.nil).v) := by
    intro j hj
    rcases hcb with ⟨a, c, h1, h2⟩ | ⟨b, off, c, h1, h2, h3⟩
    · injection h1 with _ h1 _; omega
    · injection h1 with h4 h5 _
      exact ⟨b, off, h4, h2, h3 j (by omega)⟩
  clear hcb
  have hcell : ∀ j, j < na → ∃ b off, aa = some ⟨b, off, none⟩ ∧ b < W.heap.size ∧ W.cell? ⟨b, off + j, none⟩ = some ((rsa[j]?.getD RV.nil).v) := by
    intro j hj
    rcases hca with ⟨a, c, h1, h2⟩ | ⟨b, off, c, h1, h2, h3⟩
    · injection h1 with _ h1 _; omega
    · injection h1 with h4 h5 _
      exact ⟨b, off, h4, h2, h3 j (by omega)⟩
  clear hca ha
  go_enter Try.func14, Try.ntmps14
  go_wp2
  go_loopw [9, 8] (fun i o wr => R1 W 2 ra rb i o wr) (fun i _ _ => na - (intOf i).toNat)
  case atStart => exact ⟨0, [], [], Nat.zero_le _, rfl, Below.refl _ _, World.ownsRow_nil _ _ _ _, trivial, Nat.le_refl _, rfl⟩
  case round =>
    obtain ⟨j, rsO, rowsO, hj, rfl, hbw, hO, hpO, hlO, hrf⟩ := hrel
    obtain ⟨oa, oc, rfl⟩ := own_shape hO
    by_cases hlt : j < na
    · obtain ⟨b, off, rfl, hbs, hx⟩ := hcell j hlt
      obtain ⟨q, hq⟩ : ∃ q, rsa[j]? = some q := ⟨rsa[j]'(by omega), List.getElem?_eq_getElem (by omega)⟩
      obtain ⟨row, hr⟩ : ∃ row, ra[j]? = some row := ⟨ra[j]'(by omega), List.getElem?_eq_getElem (by omega)⟩
      have hcont := pa.get j _ _ hq hr
      have hd : ra.drop j = row :: ra.drop (j + 1) := by rw [List.drop_eq_getElem_cons (by omega)]; congr 1; exact Option.some.inj ((List.getElem?_eq_getElem (by omega)).symm.trans hr)
      rw [hd, refA] at hrf
      replace hx := (cell_of_block (hbw.block b hbs) _).trans hx
      rw [hq] at hx
      obtain ⟨qa, qn, qc⟩ := q
      dsimp only [RV.v, Option.getD_some] at hx
      have hcw : ∀ w, Still wr w → w.cell? ⟨b, off + j, none⟩ = some (.slice qa qn qc) := fun w k => (k.cell _).trans hx
      have hC : ∀ w, Still wr w → Cont w ⟨qa, qn, qc⟩ row := fun w k => (hcont.1.below hbw).still k
      have hOw : ∀ w, Still wr w → w.ownsRow W.heap.size 48 1 (.slice oa rsO.length oc) rsO.length (rsO.map RV.v) := fun w k => ownsRow_still hO k
      have hO1 : ∀ w, Still wr w → Own1 w (.slice oa rsO.length oc) rowsO := fun w k => (own1_of_row rfl hO (all2_below hbw hpO)).still k
      have hlo : rowsO.length ≤ 100000 := by rw [← hpO.len]; omega
      have hhasO := fun w (k : Still wr w) => has_ok qa qn qc (.slice oa rsO.length oc) rowsO row w hlo (hO1 w k) (hC w k)
      have hlO2 : rsO.length ≤ 90000 := by omega
      have hjn : j + 1 ≤ ra.length := by omega
      have hnew : All2 (fun q row => Cont W q row ∧ q.n ≤ 1000) (rsO ++ [(⟨qa, qn, qc⟩ : RV)]) (rowsO ++ [row]) := All2.snoc (P := fun q row => Cont W q row ∧ q.n ≤ 1000) hcont hpO
      have hbase : ∀ w, Still wr w → W.heap.size ≤ w.heap.size := fun w k => by rw [k.1]; exact hbw.size
      clear hq hr hd hcell la hO hO1 hna hnb lb hcell2
      cases ht : (rowsO.any fun s => eqRow s row) with
      | true =>
        rw [ht] at hrf
        go_wp2_with (first | (go_at_call 37; refine (hhasO wr (Still.refl _)).mono ?_; rw [ht]; rintro e w' ⟨rfl, hw'⟩))
        go_roundw
        case rel => exact ⟨j + 1, rsO, rowsO, hjn, by simp, below_step hbw (hw'.below) hbw.size, hOw _ hw', hpO, by omega, by simpa using hrf⟩
        case measure => simp [intOf]; omega
      | false =>
        rw [ht] at hrf
        go_wp2_with (first | (go_at_call 37; refine (hhasO wr (Still.refl _)).mono ?_; rw [ht]; rintro e w' ⟨rfl, hw'⟩) | (at_builtin; refine wpList_append_own _ rfl _ _ 22 rfl W.heap.size 48 i0 (.slice none 0 0) 1 24 Try.underlying22 hi hz0 hz1 hz2 rfl (by decide) _ _ _ rfl ((hOw _ hw').alloc _) ⟨_, 0, none⟩ 1 1 [.slice qa qn qc] rfl rfl (cell_one_new _ _ _) (by simp [Value.oneCell']) (by unfold maxLen; omega) (by omega) (by have := hbase _ hw'; simp; omega) ?_; intro v' w1 hown hgrow hnil))
        go_roundw
        case rel => exact ⟨j + 1, rsO ++ [⟨qa, qn, qc⟩], rowsO ++ [row], hjn, by simp, ref_grow hbw hw' hgrow (hOw _ hw'), by simpa using hown, hnew, by simp; omega, by simpa using hrf⟩
        case measure => simp [intOf]; omega
    · obtain rfl : j = na := by omega
      rw [List.drop_of_length_le (by omega), refA] at hrf
      clear la hna hcell
      go_wp2
      go_loopw [11, 8] (fun i o w2 => R2 W rb (refA 2 rb [] ra) i o w2) (fun i _ _ => nb - (intOf i).toNat)
      case atStart => exact ⟨0, rsO, rowsO, Nat.zero_le _, rfl, hbw, hO, hpO, by omega, by rw [hrf]; rfl⟩
      case round =>
        obtain ⟨j2, rsP, rowsP, hj2, rfl, hbw2, hP, hpP, hlP, hrf2⟩ := hrel
        obtain ⟨oa2, oc2, rfl⟩ := own_shape hP
        clear hO
        by_cases hlt2 : j2 < nb
        · obtain ⟨b, off, rfl, hbs, hx⟩ := hcell2 j2 hlt2
          obtain ⟨q, hq⟩ : ∃ q, rsb[j2]? = some q := ⟨rsb[j2]'(by omega), List.getElem?_eq_getElem (by omega)⟩
          obtain ⟨row, hr⟩ : ∃ row, rb[j2]? = some row := ⟨rb[j2]'(by omega), List.getElem?_eq_getElem (by omega)⟩
          have hcont := pb.get j2 _ _ hq hr
          have hd : rb.drop j2 = row :: rb.drop (j2 + 1) := by rw [List.drop_eq_getElem_cons (by omega)]; congr 1; exact Option.some.inj ((List.getElem?_eq_getElem (by omega)).symm.trans hr)
          rw [hd, refB] at hrf2
          replace hx := (cell_of_block (hbw2.block b hbs) _).trans hx
          rw [hq] at hx
          obtain ⟨qa, qn, qc⟩ := q
          dsimp only [RV.v, Option.getD_some] at hx
          have hcw : ∀ w, Still wr w → w.cell? ⟨b, off + j2, none⟩ = some (.slice qa qn qc) := fun w k => (k.cell _).trans hx
          have hC : ∀ w, Still wr w → Cont w ⟨qa, qn, qc⟩ row := fun w k => (hcont.1.below hbw2).still k
          have hOw : ∀ w, Still wr w → w.ownsRow W.heap.size 48 1 (.slice oa2 rsP.length oc2) rsP.length (rsP.map RV.v) := fun w k => ownsRow_still hP k
          have hO1 : ∀ w, Still wr w → Own1 w (.slice oa2 rsP.length oc2) rowsP := fun w k => (own1_of_row rfl hP (all2_below hbw2 hpP)).still k
          have hlo : rowsP.length ≤ 200000 := by rw [← hpP.len]; omega
          have hhasO := fun w (k : Still wr w) => has_ok2 qa qn qc (.slice oa2 rsP.length oc2) rowsP row w hlo (hO1 w k) (hC w k)
          have hlO2 : rsP.length ≤ 190000 := by omega
          have hjn : j2 + 1 ≤ rb.length := by omega
          have hnew : All2 (fun q row => Cont W q row ∧ q.n ≤ 1000) (rsP ++ [(⟨qa, qn, qc⟩ : RV)]) (rowsP ++ [row]) := All2.snoc (P := fun q row => Cont W q row ∧ q.n ≤ 1000) hcont hpP
          have hbase : ∀ w, Still wr w → W.heap.size ≤ w.heap.size := fun w k => by rw [k.1]; exact hbw2.size
          clear hq hr hd hcell2 lb hP hO1 hnb
          cases ht : (rowsP.any fun s => eqRow s row) with
          | true =>
            rw [ht] at hrf2
            go_wp2_with (first | (go_at_call 37; refine (hhasO wr (Still.refl _)).mono ?_; rw [ht]; rintro e w' ⟨rfl, hw'⟩))
            go_roundw
            case rel => exact ⟨j2 + 1, rsP, rowsP, hjn, by simp, below_step hbw2 (hw'.below) hbw2.size, hOw _ hw', hpP, by omega, by simpa using hrf2⟩
            case measure => simp [intOf]; omega
          | false =>
            rw [ht] at hrf2
            go_wp2_with (first | (go_at_call 37; refine (hhasO wr (Still.refl _)).mono ?_; rw [ht]; rintro e w' ⟨rfl, hw'⟩) | (at_builtin; refine wpList_append_own _ rfl _ _ 22 rfl W.heap.size 48 i0 (.slice none 0 0) 1 24 Try.underlying22 hi hz0 hz1 hz2 rfl (by decide) _ _ _ rfl ((hOw _ hw').alloc _) ⟨_, 0, none⟩ 1 1 [.slice qa qn qc] rfl rfl (cell_one_new _ _ _) (by simp [Value.oneCell']) (by unfold maxLen; omega) (by omega) (by have := hbase _ hw'; simp; omega) ?_; intro v' w1 hown hgrow hnil))
            go_roundw
            case rel => exact ⟨j2 + 1, rsP ++ [⟨qa, qn, qc⟩], rowsP ++ [row], hjn, by simp, ref_grow hbw2 hw' hgrow (hOw _ hw'), by simpa using hown, hnew, by simp; omega, by simpa using hrf2⟩
            case measure => simp [intOf]; omega
        · obtain rfl : j2 = nb := by omega
          rw [List.drop_of_length_le (by omega), refB] at hrf2
          have hfin : Own1 wr (.slice oa2 rsP.length oc2) rowsP := own1_of_row rfl hP (all2_below hbw2 hpP)
          clear hP lb hnb hcell2
          go_wp2
          refine bodyPost_ret (results_tmp2 rfl _ _ _) rfl ?_
          exact ⟨_, rfl, by rw [hrf2]; exact hfin, hbw2⟩
set_option maxRecDepth 100000 in
set_option maxHeartbeats 4000000 in
theorem ref_3 (aa ab : Option Addr) (na ca nb cb : Nat) (ra rb : List (List V3)) (W : World) (hka : ra.length ≤ 90000) (hkb : rb.length ≤ 90000) (ha : Own1 W (.slice aa na ca) ra) (hb : Own1 W (.slice ab nb cb) rb) :
    Calls Try.prog 14 #[.int .i64 3, .slice aa na ca, .slice ab nb cb] W fun e W' => ∃ sv, e = .returned (.tuple #[sv, .int .i64 0]) ∧ Own1 W' sv (refA 3 rb [] ra) ∧ Below W.heap.size W W' := by
  obtain ⟨i0, hi, hz0, hz1, hz2⟩ := info_parts infoR
  have hbelow : Below W.heap.size W W := Below.refl _ _
  obtain ⟨rsa, la, pa, hca⟩ := ha.cells
  have hna : na = ra.length := by
    rcases hca with ⟨a, c, h1, h2⟩ | ⟨b, off, c, h1, _⟩
    · injection h1 with _ h1 _; rw [h1, ← la, h2]; rfl
    · injection h1 with _ h1 _; rw [h1, la]
  have hcell : ∀ j, j < na → ∃ b off, aa = some ⟨b, off, none⟩ ∧ b < W.heap.size ∧ W.cell? ⟨b, off + j, none⟩ = some ((rsa[j]?.getD RV.nil).v) := by
    intro j hj
    rcases hca with ⟨a, c, h1, h2⟩ | ⟨b, off, c, h1, h2, h3⟩
    · injection h1 with _ h1 _; omega
    · injection h1 with h4 h5 _
      exact ⟨b, off, h4, h2, h3 j (by omega)⟩
  clear hca ha
  go_enter Try.func14, Try.ntmps14
  go_wp2
  go_loopw [9, 8] (fun i o wr => R1 W 3 ra rb i o wr) (fun i _ _ => na - (intOf i).toNat)
  case atStart => exact ⟨0, [], [], Nat.zero_le _, rfl, Below.refl _ _, World.ownsRow_nil _ _ _ _, trivial, Nat.le_refl _, rfl⟩
  case round =>
    obtain ⟨j, rsO, rowsO, hj, rfl, hbw, hO, hpO, hlO, hrf⟩ := hrel
    obtain ⟨oa, oc, rfl⟩ := own_shape hO
    by_cases hlt : j < na
    · obtain ⟨b, off, rfl, hbs, hx⟩ := hcell j hlt
      obtain ⟨q, hq⟩ : ∃ q, rsa[j]? = some q := ⟨rsa[j]'(by omega), List.getElem?_eq_getElem (by omega)⟩
      obtain ⟨row, hr⟩ : ∃ row, ra[j]? = some row := ⟨ra[j]'(by omega), List.getElem?_eq_getElem (by omega)⟩
      have hcont := pa.get j _ _ hq hr
      have hd : ra.drop j = row :: ra.drop (j + 1) := by rw [List.drop_eq_getElem_cons (by omega)]; congr 1; exact Option.some.inj ((List.getElem?_eq_getElem (by omega)).symm.trans hr)
      rw [hd, refA] at hrf
      replace hx := (cell_of_block (hbw.block b hbs) _).trans hx
      rw [hq] at hx
      obtain ⟨qa, qn, qc⟩ := q
      dsimp only [RV.v, Option.getD_some] at hx
      have hcw : ∀ w, Still wr w → w.cell? ⟨b, off + j, none⟩ = some (.slice qa qn qc) := fun w k => (k.cell _).trans hx
      have hC : ∀ w, Still wr w → Cont w ⟨qa, qn, qc⟩ row := fun w k => (hcont.1.below hbw).still k
      have hOw : ∀ w, Still wr w → w.ownsRow W.heap.size 48 1 (.slice oa rsO.length oc) rsO.length (rsO.map RV.v) := fun w k => ownsRow_still hO k
      have hO1 : ∀ w, Still wr w → Own1 w (.slice oa rsO.length oc) rowsO := fun w k => (own1_of_row rfl hO (all2_below hbw hpO)).still k
      have hlo : rowsO.length ≤ 100000 := by rw [← hpO.len]; omega
      have hhasO := fun w (k : Still wr w) => has_ok qa qn qc (.slice oa rsO.length oc) rowsO row w hlo (hO1 w k) (hC w k)
      have hlO2 : rsO.length ≤ 90000 := by omega
      have hjn : j + 1 ≤ ra.length := by omega
      have hnew : All2 (fun q row => Cont W q row ∧ q.n ≤ 1000) (rsO ++ [(⟨qa, qn, qc⟩ : RV)]) (rowsO ++ [row]) := All2.snoc (P := fun q row => Cont W q row ∧ q.n ≤ 1000) hcont hpO
      have hbase : ∀ w, Still wr w → W.heap.size ≤ w.heap.size := fun w k => by rw [k.1]; exact hbw.size
      clear hq hr hd hcell la hO hO1 hna
      have hhasB := fun w (k : Still wr w) => has_ok qa qn qc (.slice ab nb cb) rb row w (Nat.le_trans hkb (by decide)) ((hb.below hbw).still k) (hC w k)
      cases hh : (rb.any fun s => eqRow s row) with
      | true =>
        rw [hh] at hrf
        cases ht : (rowsO.any fun s => eqRow s row) with
        | true =>
          rw [ht] at hrf
          go_wp2_with (first | (go_at_call_of 37 (Value.slice ab nb cb); refine (hhasB wr (Still.refl _)).mono ?_; rw [hh]; rintro e w0 ⟨rfl, hk0⟩) | (go_at_call_of 37 (Value.slice oa rsO.length oc); refine (hhasO w0 hk0).mono ?_; rw [ht]; rintro e w' ⟨rfl, hk1⟩; have hw' := hk0.trans hk1))
          go_roundw
          case rel => exact ⟨j + 1, rsO, rowsO, hjn, by simp, below_step hbw (hw'.below) hbw.size, hOw _ hw', hpO, by omega, by simpa using hrf⟩
          case measure => simp [intOf]; omega
        | false =>
          rw [ht] at hrf
          go_wp2_with (first | (go_at_call_of 37 (Value.slice ab nb cb); refine (hhasB wr (Still.refl _)).mono ?_; rw [hh]; rintro e w0 ⟨rfl, hk0⟩) | (go_at_call_of 37 (Value.slice oa rsO.length oc); refine (hhasO w0 hk0).mono ?_; rw [ht]; rintro e w' ⟨rfl, hk1⟩; have hw' := hk0.trans hk1) | (at_builtin; refine wpList_append_own _ rfl _ _ 22 rfl W.heap.size 48 i0 (.slice none 0 0) 1 24 Try.underlying22 hi hz0 hz1 hz2 rfl (by decide) _ _ _ rfl ((hOw _ hw').alloc _) ⟨_, 0, none⟩ 1 1 [.slice qa qn qc] rfl rfl (cell_one_new _ _ _) (by simp [Value.oneCell']) (by unfold maxLen; omega) (by omega) (by have := hbase _ hw'; simp; omega) ?_; intro v' w1 hown hgrow hnil))
          go_roundw
          case rel => exact ⟨j + 1, rsO ++ [⟨qa, qn, qc⟩], rowsO ++ [row], hjn, by simp, ref_grow hbw hw' hgrow (hOw _ hw'), by simpa using hown, hnew, by simp; omega, by simpa using hrf⟩
          case measure => simp [intOf]; omega
      | false =>
        rw [hh] at hrf
        go_wp2_with (go_at_call 37; refine (hhasB wr (Still.refl _)).mono ?_; rw [hh]; rintro e w0 ⟨rfl, hk0⟩)
        go_roundw
        case rel => exact ⟨j + 1, rsO, rowsO, hjn, by simp, below_step hbw (hk0.below) hbw.size, hOw _ hk0, hpO, by omega, by simpa using hrf⟩
        case measure => simp [intOf]; omega
    · obtain rfl : j = na := by omega
      rw [List.drop_of_length_le (by omega), refA] at hrf
      have hfin : Own1 wr (.slice oa rsO.length oc) rowsO := own1_of_row rfl hO (all2_below hbw hpO)
      clear hO la hna hcell
      go_wp2
      go_loopw [11, 8] (fun i o w2 => i = .int .i64 0 ∧ o = .slice oa rsO.length oc ∧ Still wr w2) (fun _ _ _ => 0)
      case atStart => exact ⟨rfl, rfl, Still.refl _⟩
      case round =>
        obtain ⟨rfl, rfl, hs2⟩ := hrel
        have hfin2 := hfin.still hs2
        have hb2 := below_step hbw hs2.below hbw.size
        by_cases hz : 0 < nb
        · have hd0 : decide (0 < nb) = true := by simpa using hz
          go_wp2
          refine bodyPost_ret (results_tmp2 rfl _ _ _) rfl ?_
          exact ⟨_, rfl, by rw [hrf]; exact hfin2, hb2⟩
        · obtain rfl : nb = 0 := by omega
          go_wp2
          refine bodyPost_ret (results_tmp2 rfl _ _ _) rfl ?_
          exact ⟨_, rfl, by rw [hrf]; exact hfin2, hb2⟩
set_option maxRecDepth 100000 in
set_option maxHeartbeats 4000000 in
theorem ref_4 (aa ab : Option Addr) (na ca nb cb : Nat) (ra rb : List (List V3)) (W : World) (hka : ra.length ≤ 90000) (hkb : rb.length ≤ 90000) (ha : Own1 W (.slice aa na ca) ra) (hb : Own1 W (.slice ab nb cb) rb) :
    Calls Try.prog 14 #[.int .i64 4, .slice aa na ca, .slice ab nb cb] W fun e W' => ∃ sv, e = .returned (.tuple #[sv, .int .i64 0]) ∧ Own1 W' sv (refA 4 rb [] ra) ∧ Below W.heap.size W W' := by
  obtain ⟨i0, hi, hz0, hz1, hz2⟩ := info_parts infoR
  have hbelow : Below W.heap.size W W := Below.refl _ _
  obtain ⟨rsa, la, pa, hca⟩ := ha.cells
  have hna : na = ra.length := by
    rcases hca with ⟨a, c, h1, h2⟩ | ⟨b, off, c, h1, _⟩
    · injection h1 with _ h1 _; rw [h1, ← la, h2]; rfl
    · injection h1 with _ h1 _; rw [h1, la]
  have hcell : ∀ j, j < na → ∃ b off, aa = some ⟨b, off, none⟩ ∧ b < W.heap.size ∧ W.cell? ⟨b, off + j, none⟩ = some ((rsa[j]?.getD RV.nil).v) := by
    intro j hj
    rcases hca with ⟨a, c, h1, h2⟩ | ⟨b, off, c, h1, h2, h3⟩
    · injection h1 with _ h1 _; omega
    · injection h1 with h4 h5 _
      exact ⟨b, off, h4, h2, h3 j (by omega)⟩
  clear hca ha
  go_enter Try.func14, Try.ntmps14
  go_wp2
  go_loopw [9, 8] (fun i o wr => R1 W 4 ra rb i o wr) (fun i _ _ => na - (intOf i).toNat)
  case atStart => exact ⟨0, [], [], Nat.zero_le _, rfl, Below.refl _ _, World.ownsRow_nil _ _ _ _, trivial, Nat.le_refl _, rfl⟩
  case round =>
    obtain ⟨j, rsO, rowsO, hj, rfl, hbw, hO, hpO, hlO, hrf⟩ := hrel
    obtain ⟨oa, oc, rfl⟩ := own_shape hO
    by_cases hlt : j < na
    · obtain ⟨b, off, rfl, hbs, hx⟩ := hcell j hlt
      obtain ⟨q, hq⟩ : ∃ q, rsa[j]? = some q := ⟨rsa[j]'(by omega), List.getElem?_eq_getElem (by omega)⟩
      obtain ⟨row, hr⟩ : ∃ row, ra[j]? = some row := ⟨ra[j]'(by omega), List.getElem?_eq_getElem (by omega)⟩
      have hcont := pa.get j _ _ hq hr
      have hd : ra.drop j = row :: ra.drop (j + 1) := by rw [List.drop_eq_getElem_cons (by omega)]; congr 1; exact Option.some.inj ((List.getElem?_eq_getElem (by omega)).symm.trans hr)
      rw [hd, refA] at hrf
      replace hx := (cell_of_block (hbw.block b hbs) _).trans hx
      rw [hq] at hx
      obtain ⟨qa, qn, qc⟩ := q
      dsimp only [RV.v, Option.getD_some] at hx
      have hcw : ∀ w, Still wr w → w.cell? ⟨b, off + j, none⟩ = some (.slice qa qn qc) := fun w k => (k.cell _).trans hx
      have hC : ∀ w, Still wr w → Cont w ⟨qa, qn, qc⟩ row := fun w k => (hcont.1.below hbw).still k
      have hOw : ∀ w, Still wr w → w.ownsRow W.heap.size 48 1 (.slice oa rsO.length oc) rsO.length (rsO.map RV.v) := fun w k => ownsRow_still hO k
      have hO1 : ∀ w, Still wr w → Own1 w (.slice oa rsO.length oc) rowsO := fun w k => (own1_of_row rfl hO (all2_below hbw hpO)).still k
      have hlo : rowsO.length ≤ 100000 := by rw [← hpO.len]; omega
      have hhasO := fun w (k : Still wr w) => has_ok qa qn qc (.slice oa rsO.length oc) rowsO row w hlo (hO1 w k) (hC w k)
      have hlO2 : rsO.length ≤ 90000 := by omega
      have hjn : j + 1 ≤ ra.length := by omega
      have hnew : All2 (fun q row => Cont W q row ∧ q.n ≤ 1000) (rsO ++ [(⟨qa, qn, qc⟩ : RV)]) (rowsO ++ [row]) := All2.snoc (P := fun q row => Cont W q row ∧ q.n ≤ 1000) hcont hpO
      have hbase : ∀ w, Still wr w → W.heap.size ≤ w.heap.size := fun w k => by rw [k.1]; exact hbw.size
      clear hq hr hd hcell la hO hO1 hna
      have hhasB := fun w (k : Still wr w) => has_ok qa qn qc (.slice ab nb cb) rb row w (Nat.le_trans hkb (by decide)) ((hb.below hbw).still k) (hC w k)
      cases hh : (rb.any fun s => eqRow s row) with
      | false =>
        rw [hh] at hrf
        cases ht : (rowsO.any fun s => eqRow s row) with
        | true =>
          rw [ht] at hrf
          go_wp2_with (first | (go_at_call_of 37 (Value.slice ab nb cb); refine (hhasB wr (Still.refl _)).mono ?_; rw [hh]; rintro e w0 ⟨rfl, hk0⟩) | (go_at_call_of 37 (Value.slice oa rsO.length oc); refine (hhasO w0 hk0).mono ?_; rw [ht]; rintro e w' ⟨rfl, hk1⟩; have hw' := hk0.trans hk1))
          go_roundw
          case rel => exact ⟨j + 1, rsO, rowsO, hjn, by simp, below_step hbw (hw'.below) hbw.size, hOw _ hw', hpO, by omega, by simpa using hrf⟩
          case measure => simp [intOf]; omega
        | false =>
          rw [ht] at hrf
          go_wp2_with (first | (go_at_call_of 37 (Value.slice ab nb cb); refine (hhasB wr (Still.refl _)).mono ?_; rw [hh]; rintro e w0 ⟨rfl, hk0⟩) | (go_at_call_of 37 (Value.slice oa rsO.length oc); refine (hhasO w0 hk0).mono ?_; rw [ht]; rintro e w' ⟨rfl, hk1⟩; have hw' := hk0.trans hk1) | (at_builtin; refine wpList_append_own _ rfl _ _ 22 rfl W.heap.size 48 i0 (.slice none 0 0) 1 24 Try.underlying22 hi hz0 hz1 hz2 rfl (by decide) _ _ _ rfl ((hOw _ hw').alloc _) ⟨_, 0, none⟩ 1 1 [.slice qa qn qc] rfl rfl (cell_one_new _ _ _) (by simp [Value.oneCell']) (by unfold maxLen; omega) (by omega) (by have := hbase _ hw'; simp; omega) ?_; intro v' w1 hown hgrow hnil))
          go_roundw
          case rel => exact ⟨j + 1, rsO ++ [⟨qa, qn, qc⟩], rowsO ++ [row], hjn, by simp, ref_grow hbw hw' hgrow (hOw _ hw'), by simpa using hown, hnew, by simp; omega, by simpa using hrf⟩
          case measure => simp [intOf]; omega
      | true =>
        rw [hh] at hrf
        go_wp2_with (go_at_call 37; refine (hhasB wr (Still.refl _)).mono ?_; rw [hh]; rintro e w0 ⟨rfl, hk0⟩)
        go_roundw
        case rel => exact ⟨j + 1, rsO, rowsO, hjn, by simp, below_step hbw (hk0.below) hbw.size, hOw _ hk0, hpO, by omega, by simpa using hrf⟩
        case measure => simp [intOf]; omega
    · obtain rfl : j = na := by omega
      rw [List.drop_of_length_le (by omega), refA] at hrf
      have hfin : Own1 wr (.slice oa rsO.length oc) rowsO := own1_of_row rfl hO (all2_below hbw hpO)
      clear hO la hna hcell
      go_wp2
      go_loopw [11, 8] (fun i o w2 => i = .int .i64 0 ∧ o = .slice oa rsO.length oc ∧ Still wr w2) (fun _ _ _ => 0)
      case atStart => exact ⟨rfl, rfl, Still.refl _⟩
      case round =>
        obtain ⟨rfl, rfl, hs2⟩ := hrel
        have hfin2 := hfin.still hs2
        have hb2 := below_step hbw hs2.below hbw.size
        by_cases hz : 0 < nb
        · have hd0 : decide (0 < nb) = true := by simpa using hz
          go_wp2
          refine bodyPost_ret (results_tmp2 rfl _ _ _) rfl ?_
          exact ⟨_, rfl, by rw [hrf]; exact hfin2, hb2⟩
        · obtain rfl : nb = 0 := by omega
          go_wp2
          refine bodyPost_ret (results_tmp2 rfl _ _ _) rfl ?_
          exact ⟨_, rfl, by rw [hrf]; exact hfin2, hb2⟩
end Go.Proofs.Ytghpjlohoehdnaa.Sep

/-! The plain law: what setop.Join hands over is the reference's Join. No condition beyond those that each theorem names. -/
namespace Go.Proofs.Ytghpjlohoehdnaa.Sep
open Go Go.RowKit Go.Shelf
set_option linter.unusedVariables false
set_option linter.unusedSimpArgs false
/-- those of a list that were not seen, each once -/
def dd (acc : List (List V3)) : List (List V3) → List (List V3)
  | [] => []
  | r :: l => if acc.any fun s => eqRow s r then dd acc l else r :: dd (acc ++ [r]) l
theorem dd_append : ∀ (l m acc : List (List V3)), dd acc (l ++ m) = dd acc l ++ dd (acc ++ dd acc l) m
  | [], m, acc => by simp [dd]
  | r :: l, m, acc => by
    rw [List.cons_append, dd, dd]
    split
    · exact dd_append l m acc
    · rw [dd_append l m (acc ++ [r])]; simp
theorem refB_dd : ∀ (l out : List (List V3)), refB out l = out ++ dd out l
  | [], out => by simp [refB, dd]
  | r :: l, out => by
    rw [refB, dd]
    cases h : (out.any fun s => eqRow s r) with
    | true => simp [h, refB_dd l out]
    | false => simp [h, refB_dd l]
/-- which rows a join takes of its first -/
def isIn (how : Int) (b : List (List V3)) (r : List V3) : Bool := how == 2 || ((how == 3) == b.any fun s => eqRow s r)
theorem refA_dd (how : Int) (b : List (List V3)) : ∀ (l out : List (List V3)), refA how b out l = out ++ dd out (l.filter (isIn how b))
  | [], out => by simp [refA, dd]
  | r :: l, out => by
    rw [refA, refA_dd how b l, List.filter_cons]
    cases hi : isIn how b r with
    | false =>
      have : (how == 2 || ((how == 3) == b.any fun s => eqRow s r)) = false := hi
      rw [this]; simp
    | true =>
      have : (how == 2 || ((how == 3) == b.any fun s => eqRow s r)) = true := hi
      rw [this, if_pos rfl, dd]
      cases h : (out.any fun s => eqRow s r) with
      | true => simp [h]
      | false => simp [h]
def okP (l : List Pr) : Prop := ∀ p ∈ l, p.1.2 = 0
theorem okP.tail {p : Pr} {l : List Pr} (h : okP (p :: l)) : p.1.2 = 0 ∧ okP l := ⟨h p (List.mem_cons_self ..), fun q hq => h q (List.mem_cons_of_mem _ hq)⟩
theorem okP.app {l m : List Pr} (h : okP l) (k : okP m) : okP (l ++ m) := fun p hp => (List.mem_append.1 hp).elim (h p) (k p)
theorem cutP_ok : ∀ {l : List Pr}, okP l → cutP l = l
  | [], _ => rfl
  | p :: l, h => by rw [cutP, if_pos h.tail.1, cutP_ok h.tail.2]
theorem distL_ok : ∀ {l : List Pr} (acc : List (List V3)), okP l → okP (distL acc l) ∧ (distL acc l).map Prod.snd = dd acc (l.map Prod.snd)
  | [], acc, _ => ⟨(fun p hp => by cases hp), rfl⟩
  | p :: l, acc, h => by
    rw [distL, if_pos h.tail.1, List.map_cons, dd]
    cases hc : (acc.any fun s => eqRow s p.2) with
    | true => simp only [if_true]; exact distL_ok acc h.tail.2
    | false =>
      obtain ⟨h1, h2⟩ := distL_ok (acc ++ [p.2]) h.tail.2
      simp only [Bool.false_eq_true, if_false]
      refine ⟨fun q hq => ?_, by rw [List.map_cons, h2]⟩
      rcases List.mem_cons.1 hq with rfl | hq
      · exact h.tail.1
      · exact h1 q hq
theorem amL_ok (is : Bool) (rows : List (List V3)) : ∀ {l : List Pr}, okP l → okP (amL is rows l) ∧ (amL is rows l).map Prod.snd = (l.map Prod.snd).filter fun r => (rows.any fun s => eqRow s r) == is
  | [], _ => ⟨(fun p hp => by cases hp), rfl⟩
  | p :: l, h => by
    obtain ⟨h1, h2⟩ := amL_ok is rows h.tail.2
    rw [amL, if_pos h.tail.1, List.map_cons, List.filter_cons]
    by_cases hc : (rows.any fun s => eqRow s p.2) = is
    · rw [if_pos hc, if_pos (by simpa using hc)]
      refine ⟨fun q hq => ?_, by rw [List.map_cons, h2]⟩
      rcases List.mem_cons.1 hq with rfl | hq
      · exact h.tail.1
      · exact h1 q hq
    · rw [if_neg hc, if_neg (by simpa using hc)]
      exact ⟨h1, h2⟩
theorem filter_is3 (b l : List (List V3)) : (l.filter fun r => (b.any fun s => eqRow s r) == true) = l.filter (isIn 3 b) := by
  congr 1; funext r; simp [isIn]
theorem filter_is4 (b l : List (List V3)) : (l.filter fun r => (b.any fun s => eqRow s r) == false) = l.filter (isIn 4 b) := by
  congr 1; funext r; simp [isIn]
theorem filter_is2 (b l : List (List V3)) : l.filter (isIn 2 b) = l := by
  rw [List.filter_eq_self]; intro r _; simp [isIn]
/-- JOIN, of lists: no error, the reference's rows. -/
theorem joinP_ok {how : Int} (h : ¬ (how < 1 ∨ 4 < how)) {pa pb : List Pr} (ha : okP pa) (hb : okP pb) : okP (joinP how pa pb) ∧ (joinP how pa pb).map Prod.snd = refL how (pa.map Prod.snd) (pb.map Prod.snd) := by
  have hc := cutP_ok (ha.app hb)
  by_cases h1 : how = 1
  · subst h1
    rw [joinP_1 rfl, hc]
    exact ⟨ha.app hb, by rw [List.map_append]; rfl⟩
  by_cases h2 : how = 2
  · subst h2
    rw [joinP_2 rfl, hc]
    obtain ⟨e1, e2⟩ := distL_ok [] (ha.app hb)
    refine ⟨e1, ?_⟩
    rw [e2, List.map_append, dd_append]
    show _ = refB (refA 2 (pb.map Prod.snd) [] (pa.map Prod.snd)) (pb.map Prod.snd)
    rw [refB_dd, refA_dd, filter_is2]
    simp
  by_cases h3 : how = 3
  · subst h3
    rw [show joinP 3 pa pb = distL [] (amAll true pa pb) from joinP_34 (is := true) rfl]
    unfold amAll
    rw [if_pos (errOf_zero pb hb)]
    obtain ⟨a1, a2⟩ := amL_ok true (pb.map Prod.snd) ha
    obtain ⟨e1, e2⟩ := distL_ok [] a1
    refine ⟨e1, ?_⟩
    rw [e2, a2, filter_is3]
    show _ = refA 3 (pb.map Prod.snd) [] (pa.map Prod.snd)
    rw [refA_dd]; simp
  · obtain rfl : how = 4 := by omega
    rw [show joinP 4 pa pb = distL [] (amAll false pa pb) from joinP_34 (is := false) rfl]
    unfold amAll
    rw [if_pos (errOf_zero pb hb)]
    obtain ⟨a1, a2⟩ := amL_ok false (pb.map Prod.snd) ha
    obtain ⟨e1, e2⟩ := distL_ok [] a1
    refine ⟨e1, ?_⟩
    rw [e2, a2, filter_is4]
    show _ = refA 4 (pb.map Prod.snd) [] (pa.map Prod.snd)
    rw [refA_dd]; simp
theorem dd_len : ∀ (l acc : List (List V3)), (dd acc l).length ≤ l.length
  | [], _ => Nat.le_refl _
  | r :: l, acc => by
    rw [dd]
    split
    · have := dd_len l acc; rw [List.length_cons]; omega
    · have := dd_len l (acc ++ [r]); simpa using this
theorem refL_len (how : Int) (a b : List (List V3)) : (refL how a b).length ≤ a.length + b.length := by
  have hd : ∀ h : Int, (refA h b [] a).length ≤ a.length := fun h => by
    rw [refA_dd, List.nil_append]
    exact Nat.le_trans (dd_len _ _) (List.length_filter_le _ _)
  unfold refL
  split
  · rw [List.length_append]; exact Nat.le_refl _
  · split
    · rw [refB_dd, List.length_append]
      have := hd 2
      have := dd_len b (refA 2 b [] a)
      omega
    · have := hd how; omega
end Go.Proofs.Ytghpjlohoehdnaa.Sep

/-! The law's light: few rows, of few values. No condition beyond those that each theorem names. -/
namespace Go.Proofs.Ytghpjlohoehdnaa.Sep
open Go Go.RowKit Go.Shelf
set_option linter.unusedVariables false
set_option linter.unusedSimpArgs false
/-- a list of rows of whatever length -/
def Raw (W : World) (sv : Value) (rows : List (List V3)) : Prop :=
  (∃ a c, sv = .slice a 0 c ∧ rows = []) ∨ ∃ b off c rs, sv = .slice (some ⟨b, off, none⟩) (List.length rs) c ∧ b < W.heap.size ∧ (∀ j, j < rs.length → W.cell? ⟨b, off + j, none⟩ = some ((rs[j]?.getD RV.nil).v)) ∧ All2 (fun q row => Cont W q row) rs rows
/-- what light answers -/
def LP (rows : List (List V3)) (W : World) (e : Ending) (W' : World) : Prop := ∃ t, e = .returned (.bool t) ∧ (t = true → rows.length ≤ 30 ∧ ∀ row ∈ rows, row.length ≤ 6) ∧ W' = W
set_option maxRecDepth 100000 in
set_option maxHeartbeats 4000000 in
theorem light_some (b off c : Nat) (rs : List RV) (rows : List (List V3)) (W : World) (hb : b < W.heap.size) (hcs : ∀ j, j < rs.length → W.cell? ⟨b, off + j, none⟩ = some ((rs[j]?.getD RV.nil).v)) (hr : All2 (fun q row => Cont W q row) rs rows) :
    Calls Try.prog 11 #[.slice (some ⟨b, off, none⟩) rs.length c] W (LP rows W) := by
  have hcsA : Aside (∀ j, j < rs.length → W.cell? ⟨b, off + j, none⟩ = some ((rs[j]?.getD RV.nil).v)) := hcs
  clear hcs
  go_enter Try.func11, Try.ntmps11
  go_wp2
  go_loopw [3] (fun i wr => ∃ (j : Nat), j ≤ rs.length ∧ j ≤ 30 ∧ i = .int .i64 j ∧ wr = W ∧ ∀ k row, k < j → rows[k]? = some row → row.length ≤ 6) (fun i _ => 30 - (intOf i).toNat)
  case atStart => exact ⟨0, Nat.zero_le _, Nat.zero_le _, rfl, rfl, fun k row h _ => absurd h (Nat.not_lt_zero k)⟩
  case round =>
    obtain ⟨j, hj, hj30, rfl, rfl, hall⟩ := hrel
    by_cases hlt : j < rs.length
    · have hd1 : decide ((j : Int) < (rs.length : Int)) = true := by simpa using hlt
      by_cases hlt30 : j < 30
      · obtain ⟨q, hq⟩ : ∃ q, rs[j]? = some q := ⟨rs[j], List.getElem?_eq_getElem hlt⟩
        obtain ⟨row, hrow⟩ : ∃ row, rows[j]? = some row := ⟨rows[j]'(by rw [← hr.len]; exact hlt), List.getElem?_eq_getElem _⟩
        have hC := hr.get j _ _ hq hrow
        have hx := hcsA.out j hlt
        have hi30 : decide ((j : Int) < 30) = true := by simp; omega
        rw [hq] at hx
        obtain ⟨qa, qn, qc⟩ := q
        dsimp only [RV.v, Option.getD_some] at hx
        have hl := hC.len
        dsimp only at hl
        have hlA : Aside (row.length = qn) := hl
        clear hl hq
        by_cases hq6 : qn ≤ 6
        · have hnext : ∀ k row, k < j + 1 → rows[k]? = some row → row.length ≤ 6 := fun k r h1 h2 => by
            by_cases hk : k = j
            · subst hk
              rw [hrow] at h2
              injection h2 with h2
              subst h2
              rw [hlA.out]; exact hq6
            · exact hall k r (by omega) h2
          have hd6 : decide (6 < (qn : Int)) = false := by simp; omega
          clear hrow hall
          go_wp2
          go_loopw [4] (fun i w2 => ∃ (k : Nat), k ≤ qn ∧ i = .int .i64 k ∧ w2 = wr) (fun i _ => qn - (intOf i).toNat)
          case atStart => exact ⟨0, Nat.zero_le _, rfl, rfl⟩
          case round =>
            obtain ⟨k, hk, rfl, rfl⟩ := hrel
            by_cases hk2 : k < qn
            · obtain ⟨v, hv⟩ : ∃ v, row[k]? = some v := ⟨row[k]'(by rw [hlA.out]; exact hk2), List.getElem?_eq_getElem _⟩
              obtain ⟨f1, f2, f3⟩ := flat_at row k v hv
              rcases hC with ⟨h, _⟩ | ⟨b2, off2, hae, _, _, hcs2⟩
              · have : qn = 0 := h
                omega
              · replace hae : qa = some ⟨b2, off2, none⟩ := hae
                subst hae
                have x3 := hcs2 _ _ f3
                rw [Nat.mul_comm 3 k, ← Nat.add_assoc] at x3
                clear hv f1 f2 f3 hcs2
                by_cases h64 : v.s.size ≤ 64
                · have hd64 : decide (64 < (v.s.size : Int)) = false := by simp; omega
                  go_wp2
                  go_roundw
                  case rel => exact ⟨k + 1, by omega, by simp, by trivial⟩
                  case measure => simp [intOf]; omega
                · have hd64 : decide (64 < (v.s.size : Int)) = true := by simp; omega
                  go_wp2
                  refine bodyPost_ret (results_tmp rfl _ _ _) rfl ?_
                  exact ⟨false, rfl, (fun h => by cases h), rfl⟩
            · obtain rfl : k = qn := by omega
              go_wp2
              go_roundw
              case rel => exact ⟨j + 1, by omega, by omega, by simp, by trivial, hnext⟩
              case measure => simp [intOf]; omega
        · have hd6 : decide (6 < (qn : Int)) = true := by simp; omega
          clear hrow hall
          go_wp2
          refine bodyPost_ret (results_tmp rfl _ _ _) rfl ?_
          exact ⟨false, rfl, (fun h => by cases h), rfl⟩
      · have hd2 : decide ((j : Int) < 30) = false := by simp; omega
        by_cases h30 : rs.length ≤ 30
        · omega
        · have hd3 : decide ((rs.length : Int) ≤ 30) = false := by simp; omega
          clear hall
          go_wp2
          refine bodyPost_ret (results_tmp rfl _ _ _) rfl ?_
          exact ⟨false, rfl, (fun h => by cases h), rfl⟩
    · have hd1 : decide ((j : Int) < (rs.length : Int)) = false := by simp; omega
      have hfin : Aside (rows.length ≤ 30 ∧ ∀ row ∈ rows, row.length ≤ 6) := by
        have hl := hr.len
        show rows.length ≤ 30 ∧ ∀ row ∈ rows, row.length ≤ 6
        refine ⟨by omega, fun row hm => ?_⟩
        obtain ⟨k, hk, e⟩ := List.mem_iff_getElem.1 hm
        exact hall k row (by omega) (by rw [← e]; exact List.getElem?_eq_getElem hk)
      have hd3 : decide ((rs.length : Int) ≤ 30) = true := by simp; omega
      clear hall
      go_wp2
      refine bodyPost_ret (results_tmp rfl _ _ _) rfl ?_
      exact ⟨true, rfl, fun _ => hfin.out, rfl⟩
set_option maxRecDepth 100000 in
set_option maxHeartbeats 1000000 in
theorem light_nil (a : Option Addr) (c : Nat) (W : World) : Calls Try.prog 11 #[.slice a 0 c] W fun e W' => e = .returned (.bool true) ∧ W' = W := by
  go_enter Try.func11, Try.ntmps11
  go_wp2
  go_loopw [3] (fun i wr => i = .int .i64 0 ∧ wr = W) (fun _ _ => 0)
  case atStart => exact ⟨rfl, rfl⟩
  case round =>
    obtain ⟨rfl, rfl⟩ := hrel
    go_wp2
    refine bodyPost_ret (results_tmp rfl _ _ _) rfl ?_
    exact ⟨rfl, rfl⟩
theorem light_ok (sv : Value) (rows : List (List V3)) (W : World) (h : Raw W sv rows) :
    Calls Try.prog 11 #[sv] W fun e W' => ∃ t, e = .returned (.bool t) ∧ (t = true → rows.length ≤ 30 ∧ ∀ row ∈ rows, row.length ≤ 6) ∧ W' = W := by
  rcases h with ⟨a, c, rfl, rfl⟩ | ⟨b, off, c, rs, rfl, hb, hcs, hr⟩
  · exact (light_nil a c W).mono (by rintro e w ⟨rfl, rfl⟩; exact ⟨true, rfl, fun _ => ⟨by simp, fun row h => by cases h⟩, rfl⟩)
  · exact light_some b off c rs rows W hb hcs hr
end Go.Proofs.Ytghpjlohoehdnaa.Sep

/-! The law's of: the rows of two lists, joined and collected; the reference's Join. No condition beyond those that each theorem names. -/
namespace Go.Proofs.Ytghpjlohoehdnaa.Sep
open Go Go.RowKit Go.Shelf
set_option linter.unusedVariables false
set_option linter.unusedSimpArgs false
/-- a list of rows that lies in the world -/
abbrev Lst (W : World) (sv : Value) (rows : List (List V3)) : Prop := OwnB (fun j => j < W.heap.size) W sv rows
theorem OwnB.mono {P Q : Nat → Prop} {W : World} {sv : Value} {rows : List (List V3)} (h : ∀ j, P j → Q j) : OwnB P W sv rows → OwnB Q W sv rows
  | .inl h => .inl h
  | .inr ⟨b, off, c, rs, h1, h2, h3, h4, h5⟩ => .inr ⟨b, off, c, rs, h1, h b h2, h3, h4, h5.imp fun _ _ k => ⟨k.1, k.2.1, fun j hj => h j (k.2.2 j hj)⟩⟩
theorem Lst.below {W W' : World} {sv : Value} {rows : List (List V3)} (h : Lst W sv rows) (hb : Below W.heap.size W W') : Lst W' sv rows :=
  (OwnB.same hb.size (fun j hj => hb.block j hj) h).mono fun j hj => Nat.lt_of_lt_of_le hj hb.size
theorem Own1.lst {W : World} {sv : Value} {rows : List (List V3)} : Own1 W sv rows → Lst W sv rows
  | .inl h => .inl h
  | .inr ⟨b, off, c, rs, h1, h2, h3, h4⟩ => .inr ⟨b, off, c, rs, h1, h2, h2, h3, h4.imp fun _ _ k => ⟨k.1, k.2, fun j hj => k.1.blt j hj⟩⟩
def bad (how : Int) : Prop := how < 1 ∨ 4 < how
instance (how : Int) : Decidable (bad how) := by unfold bad; infer_instance
/-- the answer's error -/
def codeJ (how : Int) : Int := if bad how then 1 else 0
def rowsJ (how : Int) (a b : List (List V3)) : List (List V3) := if bad how then [] else refL how a b
/-- COLLECT behind JOIN -/
theorem collect_j (how : Int) (v : Value) (pa pb : List Pr) (R : Nat → Prop) (w : World) (h : ItC v (joinP how pa pb) R w) (ha : okP pa) (hb : okP pb) (hl : (joinP how pa pb).length ≤ 100000) :
    Calls Try.prog 19 #[v] w fun e W' => ∃ sv, e = .returned (.tuple #[sv, .int .i64 (codeJ how)]) ∧ Below w.heap.size w W' ∧ Lst W' sv (rowsJ how (pa.map Prod.snd) (pb.map Prod.snd)) := by
  refine (callsIn_wide.1 (collect_c 3 (Nat.le_refl _) v _ R w h hl)).mono ?_
  unfold codeJ rowsJ
  by_cases hbad : bad how
  · rw [if_pos hbad, if_pos hbad]
    have he : errOf (joinP how pa pb) = 1 := by rw [joinP_no hbad]; rfl
    rintro e W' ⟨hbl, ⟨h0, _⟩ | ⟨_, rfl⟩⟩
    · rw [he] at h0; cases h0
    · rw [he]; exact ⟨_, rfl, hbl, .inl ⟨_, _, rfl, rfl⟩⟩
  · rw [if_neg hbad, if_neg hbad]
    obtain ⟨e1, e2⟩ := joinP_ok hbad ha hb
    have he : errOf (joinP how pa pb) = 0 := errOf_zero _ e1
    rintro e W' ⟨hbl, ⟨_, sv, rfl, _, ho⟩ | ⟨h0, _⟩⟩
    · rw [e2] at ho; exact ⟨sv, rfl, hbl, ho.mono fun j hj => hj.2⟩
    · exact absurd he h0
theorem joinP_len (how : Int) (pa pb : List Pr) : (joinP how pa pb).length ≤ pa.length + pb.length + 1 := by
  unfold joinP
  have h1 := cutP_len (pa ++ pb)
  rw [List.length_append] at h1
  have h2 := distL_len (cutP (pa ++ pb)) []
  have h3 := distL_len (amAll true pa pb) []
  have h4 := distL_len (amAll false pa pb) []
  have h5 := amAll_len true pa pb
  have h6 := amAll_len false pa pb
  split
  · omega
  · split
    · omega
    · split
      · omega
      · split
        · omega
        · simp
set_option maxRecDepth 100000 in
set_option maxHeartbeats 1000000 in
/-- OF. -/
theorem of_ok (how : Int) (sa sb : Value) (ra rb : List (List V3)) (W : World) (ha : Lst W sa ra) (hb : Lst W sb rb) (hla : ra.length ≤ 20000) (hlb : rb.length ≤ 20000) :
    Calls Try.prog 13 #[.int .i64 how, sa, sb] W fun e W' => ∃ sv, e = .returned (.tuple #[sv, .int .i64 (codeJ how)]) ∧ Below W.heap.size W W' ∧ Lst W' sv (rowsJ how ra rb) := by
  obtain ⟨aa, na, ca, rfl⟩ := ha.shape
  obtain ⟨ab, nb, cb, rfl⟩ := hb.shape
  have b1 : Below W.heap.size W (W.alloc (.cells #[.slice aa na ca] 22)) := below_new _
  have b2 : Below W.heap.size W ((W.alloc (.cells #[.slice aa na ca] 22)).alloc (.cells #[.slice ab nb cb] 22)) := b1.alloc b1.size _
  have c0 := Boxed.new W 22 (.slice aa na ca)
  have c1 := Boxed.new (W.alloc (.cells #[.slice aa na ca] 22)) 22 (.slice ab nb cb)
  rw [World.size_alloc] at c1
  obtain ⟨pa, ea, oa, ia⟩ := list_c W.heap.size _ ra _ ((W.alloc (.cells #[.slice aa na ca] 22)).alloc (.cells #[.slice ab nb cb] 22)) (by simp; omega) (fun j hj => hj) ((c0.alloc _).cell) (ha.below b2) (by omega)
  obtain ⟨pb, eb, ob, ib⟩ := list_c (W.heap.size + 1) _ rb _ ((W.alloc (.cells #[.slice aa na ca] 22)).alloc (.cells #[.slice ab nb cb] 22)) (by simp) (fun j hj => hj) c1.cell (hb.below b2) (by omega)
  have la : pa.length = ra.length := by rw [← ea, List.length_map]
  have lb : pb.length = rb.length := by rw [← eb, List.length_map]
  have hj := join_ok how _ _ pa pb _ _ _ ia ib (by omega)
  have hjl := joinP_len how pa pb
  have hjl2 : (joinP how pa pb).length ≤ 100000 := by omega
  have hcol := fun v R w (h : ItC v (joinP how pa pb) R w) => collect_j how v pa pb R w h oa ob hjl2
  rw [ea, eb] at hcol
  clear la lb hjl ia ib c0 c1 ea eb
  go_enter Try.func13, Try.ntmps13
  go_wp2_with (first | (go_at_call 18; refine (callsIn_wide.1 (list_make 1 _ _ _ _)).mono ?_; rintro e w' ⟨rfl, rfl⟩) | (go_at_call 20; refine hj.mono ?_; rintro e w3 ⟨v, R', rfl, hb3, hit⟩) | (go_at_call 19; refine (hcol v R' w3 hit).mono ?_; rintro e w4 ⟨sv, rfl, hb4, hown⟩))
  refine bodyPost_ret (results_tmp2 rfl _ _ _) rfl ?_
  exact ⟨sv, rfl, below_step (below_step b2 hb3 b2.size) hb4 (below_step b2 hb3 b2.size).size, hown⟩
/-- THE REFERENCE's JOIN. -/
theorem refJoin_ok (how : Int) (sa sb : Value) (ra rb : List (List V3)) (W : World) (ha : Lst W sa ra) (hb : Lst W sb rb) (hla : ra.length ≤ 20000) (hlb : rb.length ≤ 20000) :
    Calls Try.prog 14 #[.int .i64 how, sa, sb] W fun e W' => ∃ sv, e = .returned (.tuple #[sv, .int .i64 (codeJ how)]) ∧ Below W.heap.size W W' ∧ Lst W' sv (rowsJ how ra rb) := by
  unfold codeJ rowsJ
  by_cases hbad : bad how
  · rw [if_pos hbad, if_pos hbad]
    obtain ⟨aa, na, ca, rfl⟩ := ha.shape
    obtain ⟨ab, nb, cb, rfl⟩ := hb.shape
    refine (ref_no how hbad aa ab na ca nb cb W).mono ?_
    rintro e W' ⟨rfl, hbl⟩
    exact ⟨_, rfl, hbl, .inl ⟨_, _, rfl, rfl⟩⟩
  · rw [if_neg hbad, if_neg hbad]
    by_cases h1 : how = 1
    · subst h1
      refine (ref_one sa sb ra rb W (by omega) (by omega) ha.own hb.own).mono ?_
      rintro e W' ⟨sv, rfl, ho, hbl⟩
      exact ⟨sv, rfl, hbl, ho.lst⟩
    obtain ⟨aa, na, ca, rfl⟩ := ha.shape
    obtain ⟨ab, nb, cb, rfl⟩ := hb.shape
    by_cases h2 : how = 2
    · subst h2
      refine (ref_2 aa ab na ca nb cb ra rb W (by omega) (by omega) ha.own hb.own).mono ?_
      rintro e W' ⟨sv, rfl, ho, hbl⟩
      exact ⟨sv, rfl, hbl, ho.lst⟩
    by_cases h3 : how = 3
    · subst h3
      refine (ref_3 aa ab na ca nb cb ra rb W (by omega) (by omega) ha.own hb.own).mono ?_
      rintro e W' ⟨sv, rfl, ho, hbl⟩
      exact ⟨sv, rfl, hbl, ho.lst⟩
    · obtain rfl : how = 4 := by unfold bad at hbad; omega
      refine (ref_4 aa ab na ca nb cb ra rb W (by omega) (by omega) ha.own hb.own).mono ?_
      rintro e W' ⟨sv, rfl, ho, hbl⟩
      exact ⟨sv, rfl, hbl, ho.lst⟩
end Go.Proofs.Ytghpjlohoehdnaa.Sep

/-! The law's awake. No condition beyond those that each theorem names. -/
namespace Go.Proofs.Ytghpjlohoehdnaa.Sep
open Go Go.RowKit Go.Shelf
set_option linter.unusedVariables false
set_option linter.unusedSimpArgs false
structure Aside0 (p : Prop) : Prop where
  out : p
/-- a row of a number -/
def numR (n : Int) : List V3 := [⟨1, n, ⟨#[]⟩⟩]
abbrev numO (n : Int) : Obj := .cells #[.int .i64 1, .int .i64 n, .string ⟨#[]⟩] 45
set_option maxHeartbeats 1000000 in
theorem num_ok (n : Int) (W : World) : Calls Try.prog 36 #[.int .i64 n] W fun e W' => e = .returned (.slice (some ⟨W.heap.size, 0, none⟩) 1 1) ∧ W' = W.alloc (numO n) := by
  go_enter Try.func36, Try.ntmps36
  go_wp2
  go_ret
  exact ⟨rfl, rfl⟩
theorem num_cont (n : Int) (W : World) : Cont (W.alloc (numO n)) ⟨some ⟨W.heap.size, 0, none⟩, 1, 1⟩ (numR n) := by
  refine .inr ⟨W.heap.size, 0, rfl, rfl, by simp, fun j u hu => ?_⟩
  have hb : (W.alloc (numO n)).heap[W.heap.size]? = some (numO n) := World.alloc_heap_new W _
  unfold World.cell?
  simp only [hb]
  match j, hu with
  | 0, hu => simpa [numR, flat] using hu
  | 1, hu => simpa [numR, flat] using hu
  | 2, hu => simpa [numR, flat] using hu
theorem lst_three {W : World} {sv : Value} {r0 r1 r2 : List V3} (h : Lst W sv [r0, r1, r2]) : ∃ b off c q0 q1 q2, sv = .slice (some ⟨b, off, none⟩) 3 c ∧ b < W.heap.size ∧ W.cell? ⟨b, off + 2, none⟩ = some (RV.v q2) ∧ Cont W q0 r0 ∧ Cont W q1 r1 ∧ Cont W q2 r2 ∧ q2.n ≤ 1000 := by
  rcases h with ⟨a, c, _, h⟩ | ⟨b, off, c, rs, rfl, h1, _, h3, h4⟩
  · cases h
  · match rs, h4, h3 with
    | [q0, q1, q2], h4, h3 => exact ⟨b, off, c, q0, q1, q2, rfl, h1, h3 2 (by simp), h4.1.1, h4.2.1.1, h4.2.2.1.1, h4.2.2.1.2.1⟩
theorem lst_one {W : World} {sv : Value} {r0 : List V3} (h : Lst W sv [r0]) : ∃ b off c q0, sv = .slice (some ⟨b, off, none⟩) 1 c ∧ b < W.heap.size ∧ W.cell? ⟨b, off, none⟩ = some (RV.v q0) ∧ Cont W q0 r0 ∧ q0.n ≤ 1000 := by
  rcases h with ⟨a, c, _, h⟩ | ⟨b, off, c, rs, rfl, h1, _, h3, h4⟩
  · cases h
  · match rs, h4, h3 with
    | [q0], h4, h3 => exact ⟨b, off, c, q0, rfl, h1, h3 0 (by simp), h4.1.1, h4.1.2.1⟩
theorem aw_union : rowsJ 2 [numR 1, numR 2, numR 2] [numR 2, numR 3] = [numR 1, numR 2, numR 3] := by kernel_rfl
theorem aw_except : rowsJ 4 [numR 1, numR 2, numR 2] [numR 2, numR 3] = [numR 1] := by kernel_rfl
/-- awake's world when its two lists lie there -/
abbrev aw4 (W : World) : World := (((W.alloc (numO 1)).alloc (numO 2)).alloc (numO 2)).alloc (.cells #[.slice (some ⟨W.heap.size, 0, none⟩) 1 1, .slice (some ⟨W.heap.size + 1, 0, none⟩) 1 1, .slice (some ⟨W.heap.size + 1 + 1, 0, none⟩) 1 1] 48)
abbrev aw7 (W : World) : World := (((aw4 W).alloc (numO 2)).alloc (numO 3)).alloc (.cells #[.slice (some ⟨W.heap.size + 1 + 1 + 1 + 1, 0, none⟩) 1 1, .slice (some ⟨W.heap.size + 1 + 1 + 1 + 1 + 1, 0, none⟩) 1 1] 48)
theorem aw7_below (W : World) : Below W.heap.size W (aw7 W) :=
  ((((((((Below.refl _ W).alloc (Nat.le_refl _) _).alloc (by simp) _).alloc (by simp; omega) _).alloc (by simp; omega) _).alloc (by simp; omega) _).alloc (by simp; omega) _).alloc (by simp; omega) _)
theorem aw7_a (W : World) : Lst (aw7 W) (.slice (some ⟨W.heap.size + 1 + 1 + 1, 0, none⟩) 3 3) [numR 1, numR 2, numR 2] := by
  have n1 := num_cont 1 W
  have n2 := num_cont 2 (W.alloc (numO 1))
  have n3 := num_cont 2 ((W.alloc (numO 1)).alloc (numO 2))
  have hbk : (aw4 W).heap[W.heap.size + 1 + 1 + 1]? = some (.cells #[.slice (some ⟨W.heap.size, 0, none⟩) 1 1, .slice (some ⟨W.heap.size + 1, 0, none⟩) 1 1, .slice (some ⟨W.heap.size + 1 + 1, 0, none⟩) 1 1] 48) := by
    have := World.alloc_heap_new (((W.alloc (numO 1)).alloc (numO 2)).alloc (numO 2)) (.cells #[.slice (some ⟨W.heap.size, 0, none⟩) 1 1, .slice (some ⟨W.heap.size + 1, 0, none⟩) 1 1, .slice (some ⟨W.heap.size + 1 + 1, 0, none⟩) 1 1] 48)
    simpa using this
  simp only [World.size_alloc] at n2 n3
  have b47 : Below (aw4 W).heap.size (aw4 W) (aw7 W) := (((Below.refl _ (aw4 W)).alloc (Nat.le_refl _) _).alloc (by simp) _).alloc (by simp) _
  have h4 : Own1 (aw4 W) (.slice (some ⟨W.heap.size + 1 + 1 + 1, 0, none⟩) 3 3) [numR 1, numR 2, numR 2] := by
    refine .inr ⟨W.heap.size + 1 + 1 + 1, 0, 3, [⟨some ⟨W.heap.size, 0, none⟩, 1, 1⟩, ⟨some ⟨W.heap.size + 1, 0, none⟩, 1, 1⟩, ⟨some ⟨W.heap.size + 1 + 1, 0, none⟩, 1, 1⟩], rfl, by simp, fun j hj => ?_, ⟨⟨(n1.below (below_new _)).below (below_new _) |>.below (below_new _), by dsimp only; omega⟩, ⟨(n2.below (below_new _)).below (below_new _), by dsimp only; omega⟩, ⟨n3.below (below_new _), by dsimp only; omega⟩, trivial⟩⟩
    unfold World.cell?
    simp only [hbk]
    match j, hj with
    | 0, _ => rfl
    | 1, _ => rfl
    | 2, _ => rfl
  exact (h4.below b47).lst
theorem aw7_b (W : World) : Lst (aw7 W) (.slice (some ⟨W.heap.size + 1 + 1 + 1 + 1 + 1 + 1, 0, none⟩) 2 2) [numR 2, numR 3] := by
  have n1 := num_cont 2 (aw4 W)
  have n2 := num_cont 3 ((aw4 W).alloc (numO 2))
  have hbk : (aw7 W).heap[W.heap.size + 1 + 1 + 1 + 1 + 1 + 1]? = some (.cells #[.slice (some ⟨W.heap.size + 1 + 1 + 1 + 1, 0, none⟩) 1 1, .slice (some ⟨W.heap.size + 1 + 1 + 1 + 1 + 1, 0, none⟩) 1 1] 48) := by
    have := World.alloc_heap_new (((aw4 W).alloc (numO 2)).alloc (numO 3)) (.cells #[.slice (some ⟨W.heap.size + 1 + 1 + 1 + 1, 0, none⟩) 1 1, .slice (some ⟨W.heap.size + 1 + 1 + 1 + 1 + 1, 0, none⟩) 1 1] 48)
    simpa using this
  simp only [World.size_alloc] at n1 n2
  have h4 : Own1 (aw7 W) (.slice (some ⟨W.heap.size + 1 + 1 + 1 + 1 + 1 + 1, 0, none⟩) 2 2) [numR 2, numR 3] := by
    refine .inr ⟨W.heap.size + 1 + 1 + 1 + 1 + 1 + 1, 0, 2, [⟨some ⟨W.heap.size + 1 + 1 + 1 + 1, 0, none⟩, 1, 1⟩, ⟨some ⟨W.heap.size + 1 + 1 + 1 + 1 + 1, 0, none⟩, 1, 1⟩], rfl, by simp, fun j hj => ?_, ⟨⟨(n1.below (below_new _)).below (below_new _), by dsimp only; omega⟩, ⟨n2.below (below_new _), by dsimp only; omega⟩, trivial⟩⟩
    unfold World.cell?
    simp only [hbk]
    match j, hj with
    | 0, _ => rfl
    | 1, _ => rfl
  exact h4.lst
theorem cell_of_block' {W W' : World} {a : Addr} (h : W'.heap[a.block]? = W.heap[a.block]?) : W'.cell? a = W.cell? a := by
  unfold World.cell?
  simp only [h]
theorem held_mk {W3 w : World} {a0 a1 : Addr} {u0 u1 : Value} (h0 : W3.cell? a0 = some u0) (h1 : W3.cell? a1 = some u1) (h : Below W3.heap.size W3 w) : w.cell? a0 = some u0 ∧ w.cell? a1 = some u1 ∧ Aside0 (Below W3.heap.size W3 w) :=
  ⟨(cell_of_block' (h.block _ (cell_lt h0))).trans h0, (cell_of_block' (h.block _ (cell_lt h1))).trans h1, ⟨h⟩⟩
theorem num_c (n : Int) (W : World) : Calls Try.prog 36 #[.int .i64 n] W fun e W' => e = .returned (.slice (some ⟨W.heap.size, 0, none⟩) 1 1) ∧ Cont W' ⟨some ⟨W.heap.size, 0, none⟩, 1, 1⟩ (numR n) ∧ Below W.heap.size W W' :=
  (num_ok n W).mono (by rintro e w ⟨rfl, rfl⟩; exact ⟨rfl, num_cont n W, below_new _⟩)
theorem same_c {qa pa : Option Addr} {qn qc pn pc : Nat} {row : List V3} {W : World} (h1 : Cont W ⟨qa, qn, qc⟩ row) (h2 : Cont W ⟨pa, pn, pc⟩ row) (hn : qn ≤ 1000) :
    Calls Try.prog 27 #[.slice qa qn qc, .slice pa pn pc] W fun e W' => e = .returned (.bool true) ∧ Below W.heap.size W W' := by
  have := same_ok ⟨qa, qn, qc⟩ ⟨pa, pn, pc⟩ row row W h1 h2 (Nat.le_trans hn (by decide))
  rw [eqRow_refl] at this
  exact this.mono (by rintro e w ⟨rfl, h⟩; exact ⟨rfl, h.below⟩)
set_option maxRecDepth 100000 in
set_option maxHeartbeats 4000000 in
theorem awake_ok (W : World) : Calls Try.prog 12 #[] W fun e W' => e = .returned (.bool true) ∧ Below W.heap.size W W' := by
  have hmx : Try.prog.follows .mixedOrders = true := by kernel_rfl
  go_enter Try.func12, Try.ntmps12
  go_upto_region 2 with (go_at_call 36; refine (num_ok _ _).mono ?_; rintro e w' ⟨rfl, rfl⟩)
  have b7 := aw7_below W
  have la := aw7_a W
  have lb := aw7_b W
  change Code.wp _ _ _ _ (aw7 W)
  generalize aw7 W = W7 at b7 la lb ⊢
  have of2 := of_ok 2 _ _ _ _ W7 la lb (by decide) (by decide)
  rw [aw_union, show codeJ 2 = 0 from rfl] at of2
  go_upto_region 3 with (go_at_call 13; refine of2.mono ?_; rintro e w3 ⟨sx, rfl, b3, lx⟩)
  have of4 := of_ok 4 _ _ _ _ w3 (la.below b3) (lb.below b3) (by decide) (by decide)
  rw [aw_except, show codeJ 4 = 0 from rfl] at of4
  go_upto_region 4 with (go_at_call 13; refine of4.mono ?_; rintro e w4 ⟨sy, rfl, b4, ly⟩)
  have lx4 := lx.below b4
  obtain ⟨bx, ox, cx, q0, q1, q2, rfl, hbx, hx2, _, _, hq2, hn2⟩ := lst_three lx4
  obtain ⟨bY, oy, cy, p0, rfl, hbY, hy0, hp0, hnp⟩ := lst_one ly
  have b04 : Below W.heap.size W w4 := below_step (below_step b7 b3 b7.size) b4 (below_step b7 b3 b7.size).size
  obtain ⟨qa, qn, qc⟩ := q2
  obtain ⟨pa, pn, pc⟩ := p0
  dsimp only [RV.v] at hx2 hy0 hn2 hnp
  clear of2 of4 lx lx4 ly la lb b3 b4 b7
  have HX := Aside0.mk hx2
  have HY := Aside0.mk hy0
  have HQ := Aside0.mk (And.intro hq2 hp0)
  have HN := Aside0.mk (And.intro hn2 hnp)
  have HB := Aside0.mk b04
  clear hx2 hy0 hbx hbY hq2 hp0 hn2 hnp b04
  go_wp2
  go_region_held3 (fun w' => w'.cell? ⟨bx, ox + 2, none⟩ = some (.slice qa qn qc) ∧ w'.cell? ⟨bY, oy, none⟩ = some (.slice pa pn pc) ∧ Aside0 (Below w4.heap.size w4 w'))
    (first | exact held_mk HX.out HY.out (Still.drew w4).below | exact held_mk HX.out HY.out HB5.out | exact held_mk HX.out HY.out HB6.out | exact held_mk HX.out HY.out HB7.out | exact held_mk HX.out HY.out HB8.out | fail)
    (first
      | (go_at_call_of 36 (Value.int IntKind.i64 3); refine (num_c 3 _).mono ?_; rintro e w5 ⟨rfl, hc5, hb5⟩; have HC5 := Aside0.mk hc5; have HB5 := Aside0.mk (below_step (Still.drew w4).below hb5 (Nat.le_refl _)); clear hc5 hb5)
      | (go_at_call_of 27 (Value.slice qa qn qc); refine (same_c (HQ.out.1.below HB5.out) HC5.out HN.out.1).mono ?_; rintro e w6 ⟨rfl, hs6⟩; have HB6 := Aside0.mk (below_step HB5.out hs6 HB5.out.size); clear hs6)
      | (go_at_call_of 36 (Value.int IntKind.i64 1); refine (num_c 1 _).mono ?_; rintro e w7 ⟨rfl, hc7, hb7⟩; have HC7 := Aside0.mk hc7; have HB7 := Aside0.mk (below_step HB6.out hb7 HB6.out.size); clear hc7 hb7)
      | (go_at_call_of 27 (Value.slice pa pn pc); refine (same_c (HQ.out.2.below HB7.out) HC7.out HN.out.2).mono ?_; rintro e w8 ⟨rfl, hs8⟩; have HB8 := Aside0.mk (below_step HB7.out hs8 HB7.out.size); clear hs8))
  all_goals
    go_wp2
    go_ret
    exact ⟨rfl, below_step HB.out HB8.out HB.out.size⟩
end Go.Proofs.Ytghpjlohoehdnaa.Sep

/-! SetopJoins, walked. No condition beyond those that each theorem names. -/
namespace Go.Proofs.Ytghpjlohoehdnaa.Sep
open Go Go.RowKit Go.Shelf
set_option linter.unusedVariables false
set_option linter.unusedSimpArgs false
theorem all2_with {α β : Type} {P Q : α → β → Prop} : ∀ {l : List α} {m : List β}, All2 P l m → (∀ a b, b ∈ m → P a b → Q a b) → All2 Q l m
  | [], [], _, _ => trivial
  | a :: l, b :: m, ⟨h1, h2⟩, h => ⟨h a b (List.mem_cons_self ..) h1, all2_with h2 fun a' b' hb => h a' b' (List.mem_cons_of_mem _ hb)⟩
theorem Raw.lst {W : World} {sv : Value} {rows : List (List V3)} (h : Raw W sv rows) (hr : ∀ row ∈ rows, row.length ≤ 6) : Lst W sv rows := by
  rcases h with ⟨a, c, h1, h2⟩ | ⟨b, off, c, rs, h1, h2, h3, h4⟩
  · exact .inl ⟨a, c, h1, h2⟩
  · exact .inr ⟨b, off, c, rs, h1, h2, h2, h3, all2_with h4 fun q row hm hc => ⟨hc, by have := hr row hm; rw [← hc.len]; omega, fun j hj => hc.blt j hj⟩⟩
theorem Raw.shp {W : World} {sv : Value} {rows : List (List V3)} : Raw W sv rows → ∃ a k c, sv = .slice a k c
  | .inl ⟨_, _, h, _⟩ => ⟨_, _, _, h⟩
  | .inr ⟨b, off, c, rs, h1, _⟩ => ⟨_, _, _, h1⟩
theorem len_rowsJ (how : Int) (a b : List (List V3)) : (rowsJ how a b).length ≤ a.length + b.length := by
  unfold rowsJ
  split
  · simp
  · exact refL_len how a b
set_option maxRecDepth 100000 in
set_option maxHeartbeats 4000000 in
theorem joins_ok (how : Int) (sa sb : Value) (ra rb : List (List V3)) (W : World) (ha : Raw W sa ra) (hb : Raw W sb rb) :
    Calls Try.prog 3 #[.int .i64 how, sa, sb] W fun e W' => e = .returned (.bool true) ∧ Below W.heap.size W W' := by
  have hla := light_ok sa ra W ha
  have hlb := light_ok sb rb W hb
  obtain ⟨aa, na, ca, rfl⟩ := ha.shp
  obtain ⟨ab, nb, cb, rfl⟩ := hb.shp
  have HA := Aside0.mk ha
  have HB := Aside0.mk hb
  clear ha hb
  go_enter Try.func3, Try.ntmps3
  go_upto_region 3 with (first
    | (go_at_call 11; refine hla.mono ?_; rintro e w' ⟨ta, rfl, hta, hwq⟩; subst w'; have HTA := Aside0.mk hta; clear hta hla; cases ta)
    | (go_at_call 11; refine hlb.mono ?_; rintro e w' ⟨tb, rfl, htb, hwq⟩; subst w'; have HTB := Aside0.mk htb; clear htb hlb; cases tb)
    | (go_at_call 12; refine (awake_ok _).mono ?_; rintro e w' ⟨rfl, hbw⟩))
  · refine bodyPost_ret (results_tmp rfl _ _ _) rfl ?_
    exact ⟨rfl, hbw⟩
  · refine bodyPost_ret (results_tmp rfl _ _ _) rfl ?_
    exact ⟨rfl, hbw⟩
  obtain ⟨la1, la2⟩ := HTA.out trivial
  obtain ⟨lb1, lb2⟩ := HTB.out trivial
  have LA := Aside0.mk (HA.out.lst la2)
  have LB := Aside0.mk (HB.out.lst lb2)
  have hof := of_ok how _ _ ra rb W LA.out LB.out (by omega) (by omega)
  go_upto_region 4 with (go_at_call 13; refine hof.mono ?_; rintro e w1 ⟨sx, rfl, hb1, hx⟩)
  have href := refJoin_ok how _ _ ra rb w1 (LA.out.below hb1) (LB.out.below hb1) (by omega) (by omega)
  go_upto_region 5 with (go_at_call 14; refine href.mono ?_; rintro e w2 ⟨sy, rfl, hb2, hy⟩)
  have hlen := len_rowsJ how ra rb
  have hsame := sameRows_ok sx sy _ _ w2 (hx.below hb2).own hy.own (by omega)
  rw [eqRows_refl] at hsame
  have hb12 := below_step hb1 hb2 hb1.size
  obtain ⟨xa, xn, xc, rfl⟩ := hx.shape
  obtain ⟨ya, yn, yc, rfl⟩ := hy.shape
  clear hof href hx hy hb1 hb2 HA HB HTA HTB LA LB la2 lb2
  generalize codeJ how = cd
  go_wp2_with (first
    | (go_at_call 15; refine hsame.mono ?_; rintro e w3 ⟨rfl, hs3⟩; have HB3 := Aside0.mk (below_step hb12 hs3.below hb12.size); clear hs3 hsame)
    | (go_at_call 12; refine (awake_ok _).mono ?_; rintro e w4 ⟨rfl, hbw⟩; have HB4 := Aside0.mk (below_step HB3.out hbw HB3.out.size); clear hbw))
  refine bodyPost_ret (results_tmp rfl _ _ _) rfl ?_
  exact ⟨rfl, HB4.out⟩
end Go.Proofs.Ytghpjlohoehdnaa.Sep

/-! How a list of rows that is handed over lies. No condition beyond those that each theorem names. -/
namespace Go.Proofs.Ytghpjlohoehdnaa.Sep
open Go Go.ChangeShapes Go.WideShapes Go.ChangeAt Go.RowKit
set_option linter.unusedVariables false
set_option maxRecDepth 100000
theorem cells45 {H : Type} {enc : TypeId × Value → H} {w : World} {base : Nat} {spare : Nat → Bool} {held : Bool} {fuel : Nat} {cs : List Value} {x : DataW H × List MemPlace} (h : DataW.trod enc Try.prog w base spare held fuel 45 cs = some x) :
    ∃ y : V3, cs = cells3 y := by
  obtain ⟨y0, y1, y2, n, _, hl, h0, h1, h2⟩ := Go.Deep.trod_struct3 Try.underlying45 h
  have hC : Try.prog.cellsOf 45 = 3 := by kernel_rfl
  have hC3 : Try.prog.cellsOf 3 = 1 := by kernel_rfl
  have hC9 : Try.prog.cellsOf 9 = 1 := by kernel_rfl
  rw [hC] at hl
  match cs, hl with
  | [c0, c1, c2], _ =>
    simp only [hC3, hC9, List.drop_zero, List.take_succ_cons, List.take_zero, List.drop_succ_cons] at h0 h1 h2
    obtain ⟨a0, e0, _⟩ := DataW.trod_int Try.underlying3 h0
    obtain ⟨a1, e1, _⟩ := DataW.trod_int Try.underlying3 h1
    obtain ⟨a2, e2, _⟩ := DataW.trod_string Try.underlying9 h2
    simp only [List.cons.injEq, and_true] at e0 e1 e2
    subst e0 e1 e2
    exact ⟨⟨a0, a1, a2⟩, rfl⟩
theorem cell_lt' {w : World} {a : Addr} {v : Value} (h : w.cell? a = some v) : a.block < w.heap.size := by
  by_cases hlt : a.block < w.heap.size
  · exact hlt
  · unfold World.cell? at h
    rw [Array.getElem?_eq_none (by omega)] at h
    simp at h
theorem flat_get : ∀ (row : List V3) (j : Nat) (u : Value), (flat row)[j]? = some u → ∃ i r v, row[i]? = some v ∧ j = i * 3 + r ∧ (cells3 v)[r]? = some u
  | [], j, u, h => by simp [flat] at h
  | v :: l, 0, u, h => ⟨0, 0, v, rfl, rfl, by simpa [flat, cells3] using h⟩
  | v :: l, 1, u, h => ⟨0, 1, v, rfl, rfl, by simpa [flat, cells3] using h⟩
  | v :: l, 2, u, h => ⟨0, 2, v, rfl, rfl, by simpa [flat, cells3] using h⟩
  | v :: l, j + 3, u, h => by
    obtain ⟨i, r, v', h1, h2, h3⟩ := flat_get l j u (by simpa [flat] using h)
    exact ⟨i + 1, r, v', by simpa using h1, by omega, h3⟩
theorem spot_none {w : World} {a : Addr} {v : Value} (h : w.cell? a = some v) : a.spot = none := by
  unfold World.cell? at h
  split at h
  · split at h
    · cases h
    · rename_i hn; cases hs : a.spot with
      | none => rfl
      | some x => rw [hs] at hn; simp at hn
  · cases h
theorem add_spot (a : Addr) (n : Nat) (h : (a.add n).spot = none) (hn : n = 0 → a.spot = none) : a.add n = ⟨a.block, a.off + n, none⟩ := by
  unfold Addr.add at *
  split
  · rename_i e; subst e
    have := hn rfl
    obtain ⟨b, o, s⟩ := a
    simp at this; subst this; rfl
  · rfl
theorem open48 {H : Type} {enc : TypeId × Value → H} {w : World} {spare : Nat → Bool} {held : Bool} {fuel : Nat} {v : Value} {x : DataW H × List MemPlace} (h : DataW.trod enc Try.prog w 0 spare held fuel 48 [v] = some x) :
    ∃ q row, v = RV.v q ∧ Cont w q row := by
  have hC : Try.prog.cellsOf 45 = 3 := by kernel_rfl
  rcases Go.Deep.open_slice Try.underlying48 h with ⟨hcs, _⟩ | ⟨a, len, cap, m, n, D, Pl, hcs, _, hl, hm, hmm, _, hel⟩
  · obtain rfl : v = .slice none 0 0 := by simpa using hcs
    exact ⟨RV.nil, [], rfl, .inl ⟨rfl, rfl⟩⟩
  · obtain rfl : v = .slice (some a) len cap := by simpa using hcs
    have hlm : len ≤ m := by rw [hmm]; split <;> omega
    by_cases h0 : len = 0
    · subst h0
      exact ⟨⟨some a, 0, cap⟩, [], rfl, .inl ⟨rfl, rfl⟩⟩
    have each : ∀ i, i < len → ∃ y : V3, w.cells? 0 (a.add (i * 3)) 3 = some (cells3 y) := by
      intro i hi
      obtain ⟨cs', h1, h2⟩ := hel i (by omega)
      obtain ⟨y, rfl⟩ := cells45 h2
      rw [hC] at h1
      exact ⟨y, h1⟩
    obtain ⟨f, hf⟩ : ∃ f : Nat → V3, ∀ i, i < len → w.cells? 0 (a.add (i * 3)) 3 = some (cells3 (f i)) :=
      ⟨fun i => if h : i < len then (each i h).choose else ⟨0, 0, ⟨#[]⟩⟩, fun i hi => by simp only [dif_pos hi]; exact (each i hi).choose_spec⟩
    have hcell : ∀ i r, i < len → r < 3 → w.cell? (a.add (i * 3 + r)) = (cells3 (f i))[r]? := by
      intro i r hi hr
      obtain ⟨_, _, hc⟩ := World.cells?_some (hf i hi)
      rw [← Go.Deep.add_add]
      exact hc r hr
    have ha0 : a.spot = none := by
      have := hcell 0 0 (by omega) (by omega)
      exact spot_none (a := a) (v := .int .i64 (f 0).k) this
    obtain ⟨b, off, sp⟩ := a
    simp at ha0
    subst ha0
    refine ⟨⟨some ⟨b, off, none⟩, len, cap⟩, (List.range len).map f, rfl, .inr ⟨b, off, rfl, by simp, ?_, fun j u hj => ?_⟩⟩
    · have := hcell 0 0 (by omega) (by omega)
      have hlt := cell_lt' (v := .int .i64 (f 0).k) this
      exact hlt
    · obtain ⟨i, r, v', h1, h2, h3⟩ := flat_get _ j u hj
      obtain ⟨hi1, hi2⟩ := List.getElem?_eq_some_iff.1 h1
      have hi : i < len := by simpa using hi1
      obtain rfl : f i = v' := by simpa using hi2
      have hr : r < 3 := by have := (List.getElem?_eq_some_iff.1 h3).1; simpa [cells3] using this
      have := hcell i r hi hr
      rw [Addr.add_lit, ← h2, h3] at this
      exact this
theorem open22' {H : Type} {enc : TypeId × Value → H} {w : World} {spare : Nat → Bool} {held : Bool} {fuel : Nat} {v : Value} {x : DataW H × List MemPlace} (h : DataW.trod enc Try.prog w 0 spare held fuel 22 [v] = some x) :
    ∃ rows, Raw w v rows := by
  have hC : Try.prog.cellsOf 48 = 1 := by kernel_rfl
  rcases Go.Deep.open_slice1 Try.underlying22 hC h with ⟨hcs, _⟩ | ⟨a, len, cap, m, n, V, D, Pl, hcs, _, hl, hm, hmm, _, hel⟩
  · obtain rfl : v = .slice none 0 0 := by simpa using hcs
    exact ⟨[], .inl ⟨none, 0, rfl, rfl⟩⟩
  · obtain rfl : v = .slice (some a) len cap := by simpa using hcs
    have hlm : len ≤ m := by rw [hmm]; split <;> omega
    by_cases h0 : len = 0
    · subst h0
      exact ⟨[], .inl ⟨some a, cap, rfl, rfl⟩⟩
    have each : ∀ i, i < len → ∃ y : RV × List V3, w.cell? (a.add i) = some (RV.v y.1) ∧ Cont w y.1 y.2 := by
      intro i hi
      obtain ⟨h1, h2⟩ := hel i (by omega)
      obtain ⟨q, row, e, hc⟩ := open48 h2
      exact ⟨(q, row), by rw [h1, e], hc⟩
    obtain ⟨f, hf⟩ : ∃ f : Nat → RV × List V3, ∀ i, i < len → w.cell? (a.add i) = some (RV.v (f i).1) ∧ Cont w (f i).1 (f i).2 :=
      ⟨fun i => if h : i < len then (each i h).choose else (RV.nil, []), fun i hi => by simp only [dif_pos hi]; exact (each i hi).choose_spec⟩
    have hc0 := (hf 0 (by omega)).1
    have ha0 : a.spot = none := spot_none (a := a) hc0
    have hlt := cell_lt' (a := a) hc0
    obtain ⟨b, off, sp⟩ := a
    simp at ha0
    subst ha0
    refine ⟨(List.range len).map (fun i => (f i).2), .inr ⟨b, off, cap, (List.range len).map (fun i => (f i).1), by simp, hlt, fun j hj => ?_, ?_⟩⟩
    · have hj' : j < len := by simpa using hj
      have := (hf j hj').1
      rw [Addr.add_lit] at this
      rw [this]; simp [hj']
    · have hall : ∀ l : List Nat, (∀ i ∈ l, i < len) → All2 (fun q row => Cont w q row) (l.map fun i => (f i).1) (l.map fun i => (f i).2) := by
        intro l
        induction l with
        | nil => intro _; trivial
        | cons i l ih => intro h; exact ⟨(hf i (h i (List.mem_cons_self ..))).2, ih fun k hk => h k (List.mem_cons_of_mem _ hk)⟩
      exact hall _ (fun i hi => List.mem_range.1 hi)
/-- A list of rows that is handed over. -/
theorem open22 {H : Type} {enc : TypeId × Value → H} {w : World} {v : Value} {d : DataW H} {p : List MemPlace} {r : Reach} {b0 : Nat} (hv : Value.okWide Try.prog w r b0 22 v) (h : DataW.Trod enc Try.prog w 0 (fun _ => true) true 22 v d p) :
    ∃ rows, Raw w v rows := by
  obtain ⟨A, len, cap, rfl⟩ := okWide_slice Try.underlying22 hv
  obtain ⟨fuel, hf⟩ := h
  exact open22' hf
end Go.Proofs.Ytghpjlohoehdnaa.Sep

/-! The plain law of SetopTogether. No condition beyond those that each theorem names. -/
namespace Go.Proofs.Ytghpjlohoehdnaa.Sep
open Go Go.RowKit Go.Shelf
set_option linter.unusedVariables false
set_option linter.unusedSimpArgs false
theorem eqRow_iff {r s : List V3} : eqRow r s = true ↔ r = s := ⟨eqRow_eq r s, fun h => h ▸ eqRow_refl r⟩
theorem any_iff {l : List (List V3)} {r : List V3} : (l.any fun s => eqRow s r) = true ↔ r ∈ l := by
  rw [List.any_eq_true]
  constructor
  · rintro ⟨s, hs, he⟩; rw [← eqRow_iff.1 he]; exact hs
  · intro h; exact ⟨r, h, eqRow_refl r⟩
theorem within_iff {a b : List (List V3)} : (a.all fun r => b.any fun s => eqRow s r) = true ↔ ∀ r ∈ a, r ∈ b := by
  rw [List.all_eq_true]
  constructor
  · intro h r hr; exact any_iff.1 (h r hr)
  · intro h r hr; exact any_iff.2 (h r hr)
theorem dd_mem : ∀ (l acc : List (List V3)) (r : List V3), r ∈ dd acc l ↔ r ∈ l ∧ r ∉ acc
  | [], acc, r => by simp [dd]
  | x :: l, acc, r => by
    rw [dd]
    by_cases h : x ∈ acc
    · rw [if_pos (any_iff.2 h), dd_mem l acc r]
      constructor
      · rintro ⟨h1, h2⟩; exact ⟨List.mem_cons_of_mem _ h1, h2⟩
      · rintro ⟨h1, h2⟩
        rcases List.mem_cons.1 h1 with rfl | h1
        · exact absurd h h2
        · exact ⟨h1, h2⟩
    · rw [if_neg (fun e => h (any_iff.1 e)), List.mem_cons, dd_mem l (acc ++ [x]) r]
      constructor
      · rintro (rfl | ⟨h1, h2⟩)
        · exact ⟨List.mem_cons_self .., h⟩
        · exact ⟨List.mem_cons_of_mem _ h1, fun e => h2 (List.mem_append_left _ e)⟩
      · rintro ⟨h1, h2⟩
        by_cases e : r = x
        · exact .inl e
        · rcases List.mem_cons.1 h1 with h1 | h1
          · exact absurd h1 e
          · exact .inr ⟨h1, fun q => (List.mem_append.1 q).elim h2 (fun q => e (List.mem_singleton.1 q))⟩
theorem dd_nodup : ∀ (l acc : List (List V3)), (dd acc l).Nodup
  | [], acc => List.nodup_nil
  | x :: l, acc => by
    rw [dd]
    split
    · exact dd_nodup l acc
    · refine List.nodup_cons.2 ⟨fun h => ?_, dd_nodup l _⟩
      exact ((dd_mem l _ x).1 h).2 (by simp)
theorem dd_congr : ∀ (l acc acc' : List (List V3)), (∀ r ∈ l, r ∈ acc ↔ r ∈ acc') → dd acc l = dd acc' l
  | [], _, _, _ => rfl
  | x :: l, acc, acc', h => by
    have hx := h x (List.mem_cons_self ..)
    rw [dd, dd]
    by_cases hm : x ∈ acc
    · rw [if_pos (any_iff.2 hm), if_pos (any_iff.2 (hx.1 hm))]
      exact dd_congr l acc acc' fun r hr => h r (List.mem_cons_of_mem _ hr)
    · rw [if_neg (fun e => hm (any_iff.1 e)), if_neg (fun e => hm (hx.2 (any_iff.1 e)))]
      rw [dd_congr l (acc ++ [x]) (acc' ++ [x]) fun r hr => by
        rw [List.mem_append, List.mem_append, h r (List.mem_cons_of_mem _ hr)]]
theorem dd_filter (p : List V3 → Bool) : ∀ (l acc : List (List V3)), (dd acc l).filter p = dd acc (l.filter p)
  | [], _ => rfl
  | x :: l, acc => by
    rw [dd, List.filter_cons]
    by_cases hm : x ∈ acc
    · rw [if_pos (any_iff.2 hm), dd_filter p l acc]
      by_cases hp : p x = true
      · rw [if_pos hp, dd, if_pos (any_iff.2 hm)]
      · rw [if_neg hp]
    · rw [if_neg (fun e => hm (any_iff.1 e)), List.filter_cons]
      by_cases hp : p x = true
      · rw [if_pos hp, if_pos hp, dd, if_neg (fun e => hm (any_iff.1 e)), dd_filter p l]
      · rw [if_neg hp, if_neg hp, dd_filter p l]
        refine dd_congr _ _ _ fun r hr => ?_
        have hpr := (List.mem_filter.1 hr).2
        rw [List.mem_append]
        exact ⟨fun h => h.elim id (fun h => absurd (List.mem_singleton.1 h ▸ hpr) hp), .inl⟩
theorem refL2 (a b : List (List V3)) : refL 2 a b = dd [] (a ++ b) := by
  show refB (refA 2 b [] a) b = _
  rw [refB_dd, refA_dd, filter_is2, dd_append]
  simp
theorem refL3 (a b : List (List V3)) : refL 3 a b = dd [] (a.filter (isIn 3 b)) := by
  show refA 3 b [] a = _
  rw [refA_dd]; simp
theorem refL4 (a b : List (List V3)) : refL 4 a b = dd [] (a.filter (isIn 4 b)) := by
  show refA 4 b [] a = _
  rw [refA_dd]; simp
theorem isIn3 {b : List (List V3)} {r : List V3} : isIn 3 b r = true ↔ r ∈ b := by
  rw [← any_iff]; simp [isIn]
theorem isIn4 (b : List (List V3)) (r : List V3) : isIn 4 b r = !isIn 3 b r := by simp [isIn]
theorem filter_two (p : List V3 → Bool) : ∀ l : List (List V3), (l.filter p).length + (l.filter fun r => !p r).length = l.length
  | [] => rfl
  | x :: l => by
    have := filter_two p l
    rw [List.filter_cons, List.filter_cons]
    cases p x <;> simp <;> omega
theorem plain_len (a b : List (List V3)) : (refL 2 a b).length = (refL 2 b a).length := by
  rw [refL2, refL2]
  refine List.Perm.length_eq ((List.perm_ext_iff_of_nodup (dd_nodup _ _) (dd_nodup _ _)).2 fun r => ?_)
  rw [dd_mem, dd_mem, List.mem_append, List.mem_append, or_comm]
theorem plain_two (a b : List (List V3)) : (refL 3 a b).length + (refL 4 a b).length = (refL 2 a []).length := by
  rw [refL2, refL3, refL4, ← dd_filter, ← dd_filter, List.append_nil]
  have := filter_two (isIn 3 b) (dd [] a)
  rw [show (isIn 4 b) = fun r => !isIn 3 b r from funext (isIn4 b)]
  exact this
theorem w_xy (a b : List (List V3)) : ((refL 2 a b).all fun r => (refL 2 b a).any fun s => eqRow s r) = true := by
  rw [within_iff, refL2, refL2]
  intro r hr
  rw [dd_mem, List.mem_append] at *
  exact ⟨hr.1.symm, hr.2⟩
theorem mem3 (a b : List (List V3)) (r : List V3) : r ∈ refL 3 a b ↔ r ∈ a ∧ r ∈ b := by
  rw [refL3, dd_mem, List.mem_filter, isIn3]; simp
theorem mem4 (a b : List (List V3)) (r : List V3) : r ∈ refL 4 a b ↔ r ∈ a ∧ r ∉ b := by
  rw [refL4, dd_mem, List.mem_filter, isIn4]
  have := isIn3 (b := b) (r := r)
  cases h : isIn 3 b r with
  | true => simp [this.1 h]
  | false => simp only [Bool.not_false, and_true, List.not_mem_nil, not_false_eq_true]; exact ⟨fun q => ⟨q, fun e => by rw [this.2 e] at h; cases h⟩, fun q => q.1⟩
theorem w_again (a b : List (List V3)) : ((refL 2 (refL 3 a b) (refL 4 a b)).all fun r => (refL 2 a []).any fun s => eqRow s r) = true := by
  rw [within_iff, refL2, refL2 a]
  intro r hr
  rw [dd_mem, List.mem_append, mem3, mem4] at hr
  rw [dd_mem, List.append_nil]
  exact ⟨hr.1.elim (fun h => h.1) (fun h => h.1), by simp⟩
theorem w_once (a b : List (List V3)) : ((refL 2 a []).all fun r => (refL 2 (refL 3 a b) (refL 4 a b)).any fun s => eqRow s r) = true := by
  rw [within_iff, refL2, refL2]
  intro r hr
  rw [dd_mem, List.append_nil] at hr
  rw [dd_mem, List.mem_append, mem3, mem4]
  by_cases h : r ∈ b
  · exact ⟨.inl ⟨hr.1, h⟩, by simp⟩
  · exact ⟨.inr ⟨hr.1, h⟩, by simp⟩
theorem w_both (a b : List (List V3)) : ((refL 3 a b).all fun r => b.any fun s => eqRow s r) = true := by
  rw [within_iff]
  intro r hr
  exact ((mem3 a b r).1 hr).2
theorem w_all (a b : List (List V3)) : ((refL 1 a b).all fun r => (refL 2 a b).any fun s => eqRow s r) = true := by
  rw [within_iff, refL2]
  intro r hr
  rw [dd_mem]
  exact ⟨hr, by simp⟩
end Go.Proofs.Ytghpjlohoehdnaa.Sep

/-! SetopTogether, walked. No condition beyond those that each theorem names. -/
namespace Go.Proofs.Ytghpjlohoehdnaa.Sep
open Go Go.RowKit Go.Shelf
set_option linter.unusedVariables false
set_option linter.unusedSimpArgs false
theorem of_g (how : Int) (h : ¬ bad how) (sa sb : Value) (ra rb : List (List V3)) (W : World) (ha : Lst W sa ra) (hb : Lst W sb rb) (hla : ra.length ≤ 20000) (hlb : rb.length ≤ 20000) :
    Calls Try.prog 13 #[.int .i64 how, sa, sb] W fun e W' => ∃ a k c, e = .returned (.tuple #[.slice a k c, .int .i64 0]) ∧ Aside0 (k = (refL how ra rb).length) ∧ Below W.heap.size W W' ∧ Lst W' (.slice a k c) (refL how ra rb) := by
  refine (of_ok how sa sb ra rb W ha hb hla hlb).mono ?_
  rintro e W' ⟨sv, rfl, hbl, hl⟩
  have h1 : codeJ how = 0 := if_neg h
  have h2 : rowsJ how ra rb = refL how ra rb := if_neg h
  rw [h1]; rw [h2] at hl
  rcases hl with ⟨a, c, rfl, h3⟩ | ⟨b, off, c, rs, rfl, h3, h4, h5, h6⟩
  · exact ⟨a, 0, c, rfl, ⟨by rw [h3]; rfl⟩, hbl, .inl ⟨a, c, rfl, h3⟩⟩
  · exact ⟨_, _, _, rfl, ⟨h6.len⟩, hbl, .inr ⟨b, off, c, rs, rfl, h3, h4, h5, h6⟩⟩
theorem lst_len {W : World} {a : Option Addr} {k c : Nat} {rows : List (List V3)} (h : Lst W (.slice a k c) rows) : k = rows.length := by
  rcases h with ⟨a, c, h1, h2⟩ | ⟨b, off, c, rs, h1, _, _, _, h6⟩
  · injection h1 with _ h1 _; rw [h1, h2]; rfl
  · injection h1 with _ h1 _; rw [h1, h6.len]
theorem sum64 {a b c : Nat} (h : a + b = c) (hc : c ≤ 200) : wrap64 ((a : Int) + (b : Int)) = (c : Int) := by
  rw [← h]
  have : -9223372036854775808 ≤ ((a : Int) + b) ∧ ((a : Int) + b) ≤ 9223372036854775807 := by omega
  simp [wrap64]
  omega
theorem len60 (how : Int) {a b : List (List V3)} {n m : Nat} (ha : a.length ≤ n) (hb : b.length ≤ m) : (refL how a b).length ≤ n + m := Nat.le_trans (refL_len how a b) (Nat.add_le_add ha hb)
set_option maxRecDepth 100000 in
set_option maxHeartbeats 8000000 in
theorem together_ok (sa sb : Value) (ra rb : List (List V3)) (W : World) (ha : Raw W sa ra) (hb : Raw W sb rb) :
    Calls Try.prog 4 #[sa, sb] W fun e W' => e = .returned (.bool true) ∧ Below W.heap.size W W' := by
  have hla := light_ok sa ra W ha
  have hlb := light_ok sb rb W hb
  obtain ⟨aa, na, ca, rfl⟩ := ha.shp
  obtain ⟨ab, nb, cb, rfl⟩ := hb.shp
  have HA := Aside0.mk ha
  have HB := Aside0.mk hb
  clear ha hb
  go_enter Try.func4, Try.ntmps4
  go_upto_region 3 with (first
    | (go_at_call 11; refine hla.mono ?_; rintro e w' ⟨ta, rfl, hta, hwq⟩; subst w'; have HTA := Aside0.mk hta; clear hta hla; cases ta)
    | (go_at_call 11; refine hlb.mono ?_; rintro e w' ⟨tb, rfl, htb, hwq⟩; subst w'; have HTB := Aside0.mk htb; clear htb hlb; cases tb)
    | (go_at_call 12; refine (awake_ok _).mono ?_; rintro e w' ⟨rfl, hbw⟩))
  · refine bodyPost_ret (results_tmp rfl _ _ _) rfl ?_
    exact ⟨rfl, hbw⟩
  · refine bodyPost_ret (results_tmp rfl _ _ _) rfl ?_
    exact ⟨rfl, hbw⟩
  obtain ⟨la1, la2⟩ := HTA.out trivial
  obtain ⟨lb1, lb2⟩ := HTB.out trivial
  have LA := Aside0.mk (HA.out.lst la2)
  have LB := Aside0.mk (HB.out.lst lb2)
  have NL := Aside0.mk (show na + nb ≤ 60 ∧ na = ra.length ∧ nb = rb.length from ⟨by rw [lst_len LA.out, lst_len LB.out]; omega, lst_len LA.out, lst_len LB.out⟩)
  have LN := Aside0.mk (And.intro la1 lb1)
  clear HA HB HTA HTB la2 lb2 la1 lb1
  have h1 := of_g 2 (by decide) _ _ ra rb W LA.out LB.out (by have := LN.out; omega) (by have := LN.out; omega)
  go_upto_region 4 with (go_at_call 13; refine h1.mono ?_; rintro e w1 ⟨xa, xn, xc, rfl, nx, hb1, hx⟩)
  have H1 := Aside0.mk (And.intro nx (And.intro hb1 hx))
  clear nx hb1 hx h1
  have h2 := of_g 2 (by decide) _ _ rb ra w1 (LB.out.below H1.out.2.1) (LA.out.below H1.out.2.1) (by have := LN.out; omega) (by have := LN.out; omega)
  go_upto_region 5 with (go_at_call 13; refine h2.mono ?_; rintro e w2 ⟨ya, yn, yc, rfl, ny, hb2, hy⟩)
  have H2 := Aside0.mk (And.intro ny (And.intro (below_step H1.out.2.1 hb2 H1.out.2.1.size) (And.intro (H1.out.2.2.below hb2) hy)))
  clear ny hb2 hy h2
  have h3 := of_g 3 (by decide) _ _ ra rb w2 (LA.out.below H2.out.2.1) (LB.out.below H2.out.2.1) (by have := LN.out; omega) (by have := LN.out; omega)
  go_upto_region 6 with (go_at_call 13; refine h3.mono ?_; rintro e w3 ⟨ba, bn, bc, rfl, nbt, hb3, hbt⟩)
  have H3 := Aside0.mk (And.intro nbt (And.intro (below_step H2.out.2.1 hb3 H2.out.2.1.size) (And.intro (H2.out.2.2.1.below hb3) (And.intro (H2.out.2.2.2.below hb3) hbt))))
  clear nbt hb3 hbt h3
  have h4 := of_g 4 (by decide) _ _ ra rb w3 (LA.out.below H3.out.2.1) (LB.out.below H3.out.2.1) (by have := LN.out; omega) (by have := LN.out; omega)
  go_upto_region 7 with (go_at_call 13; refine h4.mono ?_; rintro e w4 ⟨da, dn, dc, rfl, nd, hb4, hd⟩)
  have H4 := Aside0.mk (And.intro nd (And.intro (below_step H3.out.2.1 hb4 H3.out.2.1.size) (And.intro (H3.out.2.2.1.below hb4) (And.intro (H3.out.2.2.2.1.below hb4) (And.intro (H3.out.2.2.2.2.below hb4) hd)))))
  clear nd hb4 hd h4
  have h5 := of_g 2 (by decide) _ _ _ _ w4 H4.out.2.2.2.2.1 H4.out.2.2.2.2.2 (Nat.le_trans (len60 3 LN.out.1 LN.out.2) (by decide)) (Nat.le_trans (len60 4 LN.out.1 LN.out.2) (by decide))
  go_upto_region 8 with (go_at_call 13; refine h5.mono ?_; rintro e w5 ⟨ga, gn, gc, rfl, ng, hb5, hg⟩)
  have H5 := Aside0.mk (And.intro ng (And.intro (below_step H4.out.2.1 hb5 H4.out.2.1.size) (And.intro (H4.out.2.2.1.below hb5) (And.intro (H4.out.2.2.2.1.below hb5) (And.intro (H4.out.2.2.2.2.1.below hb5) (And.intro (H4.out.2.2.2.2.2.below hb5) hg))))))
  clear ng hb5 hg h5
  have h6 := of_g 2 (by decide) _ (.slice none 0 0) ra [] w5 (LA.out.below H5.out.2.1) (.inl ⟨_, _, rfl, rfl⟩) (by have := LN.out; omega) (by decide)
  go_upto_region 9 with (go_at_call 13; refine h6.mono ?_; rintro e w6 ⟨oa, on, oc, rfl, no, hb6, ho⟩)
  have H6 := Aside0.mk (And.intro no (And.intro (below_step H5.out.2.1 hb6 H5.out.2.1.size) (And.intro (H5.out.2.2.1.below hb6) (And.intro (H5.out.2.2.2.1.below hb6) (And.intro (H5.out.2.2.2.2.1.below hb6) (And.intro (H5.out.2.2.2.2.2.2.below hb6) ho))))))
  clear no hb6 ho h6
  have h7 := of_g 1 (by decide) _ _ ra rb w6 (LA.out.below H6.out.2.1) (LB.out.below H6.out.2.1) (by have := LN.out; omega) (by have := LN.out; omega)
  go_upto_region 10 with (go_at_call 13; refine h7.mono ?_; rintro e w7 ⟨la, ln, lc, rfl, nl, hb7, hl⟩)
  have HB7 := Aside0.mk (below_step H6.out.2.1 hb7 H6.out.2.1.size)
  have X7 := Aside0.mk (H6.out.2.2.1.below hb7).own
  have Y7 := Aside0.mk (H6.out.2.2.2.1.below hb7).own
  have B7 := Aside0.mk (H6.out.2.2.2.2.1.below hb7).own
  have G7 := Aside0.mk (H6.out.2.2.2.2.2.1.below hb7).own
  have O7 := Aside0.mk (H6.out.2.2.2.2.2.2.below hb7).own
  have A7 := Aside0.mk hl.own
  have BB7 := Aside0.mk (LB.out.below HB7.out).own
  have hxy : (xn : Int) = (yn : Int) := by rw [H1.out.1.out, H2.out.1.out, plain_len]
  have hbd0 : bn + dn = on := by rw [H3.out.1.out, H4.out.1.out, H6.out.1.out]; exact plain_two ra rb
  have hbn : bn ≤ 60 := by rw [H3.out.1.out]; exact len60 3 LN.out.1 LN.out.2
  have hdn : dn ≤ 60 := by rw [H4.out.1.out]; exact len60 4 LN.out.1 LN.out.2
  have hln : na + nb = ln := by
    rw [NL.out.2.1, NL.out.2.2, nl.out]
    show ra.length + rb.length = (ra ++ rb).length
    rw [List.length_append]
  have hnab : na + nb ≤ 60 := NL.out.1
  clear nl hb7 hl
  have hbd : wrap64 ((bn : Int) + (dn : Int)) = (on : Int) := sum64 hbd0 (by omega)
  have hall : wrap64 ((na : Int) + (nb : Int)) = (ln : Int) := sum64 hln (by omega)
  have hlx : (refL 2 ra rb).length ≤ 100000 := Nat.le_trans (len60 2 LN.out.1 LN.out.2) (by decide)
  have hly : (refL 2 rb ra).length ≤ 100000 := Nat.le_trans (len60 2 LN.out.2 LN.out.1) (by decide)
  have hlb : (refL 3 ra rb).length ≤ 100000 := Nat.le_trans (len60 3 LN.out.1 LN.out.2) (by decide)
  have hlg : (refL 2 (refL 3 ra rb) (refL 4 ra rb)).length ≤ 100000 := Nat.le_trans (len60 2 (len60 3 LN.out.1 LN.out.2) (len60 4 LN.out.1 LN.out.2)) (by decide)
  have hlo : (refL 2 ra []).length ≤ 100000 := Nat.le_trans (len60 2 LN.out.1 (Nat.le_refl 0)) (by decide)
  have hla1 : (refL 1 ra rb).length ≤ 100000 := Nat.le_trans (len60 1 LN.out.1 LN.out.2) (by decide)
  have W1 := Aside0.mk (fun (w : World) (k : Still w7 w) => (w_xy ra rb) ▸ within_ok _ _ _ _ w hlx hly (X7.out.still k) (Y7.out.still k))
  have W2 := Aside0.mk (fun (w : World) (k : Still w7 w) => (w_again ra rb) ▸ within_ok _ _ _ _ w hlg hlo (G7.out.still k) (O7.out.still k))
  have W3 := Aside0.mk (fun (w : World) (k : Still w7 w) => (w_once ra rb) ▸ within_ok _ _ _ _ w hlo hlg (O7.out.still k) (G7.out.still k))
  have W4 := Aside0.mk (fun (w : World) (k : Still w7 w) => (w_both ra rb) ▸ within_ok _ _ _ _ w hlb (by have := LN.out.2; omega) (B7.out.still k) (BB7.out.still k))
  have W5 := Aside0.mk (fun (w : World) (k : Still w7 w) => (w_all ra rb) ▸ within_ok _ _ _ _ w hla1 hlx (A7.out.still k) (X7.out.still k))
  clear hlx hly hlb hlg hlo hla1 hbd0 hbn hdn hln hnab
  clear h7 H1 H2 H3 H4 H5 H6 X7 Y7 B7 G7 O7 A7 BB7 NL LN LA LB
  go_wp2_with (first
    | (go_at_call_of 16 (Value.slice ya yn yc); refine (W1.out w7 (Still.refl _)).mono ?_; rintro e w8 ⟨rfl, hs8⟩; have S8 := Aside0.mk hs8; clear hs8)
    | (go_at_call_of 16 (#[Value.slice ga gn gc, Value.slice oa on oc]); refine (W2.out w8 S8.out).mono ?_; rintro e w9 ⟨rfl, hs9⟩; have S9 := Aside0.mk (S8.out.trans hs9); clear hs9)
    | (go_at_call_of 16 (#[Value.slice oa on oc, Value.slice ga gn gc]); refine (W3.out w9 S9.out).mono ?_; rintro e wA ⟨rfl, hsA⟩; have SA := Aside0.mk (S9.out.trans hsA); clear hsA)
    | (go_at_call_of 16 (Value.slice ba bn bc); refine (W4.out wA SA.out).mono ?_; rintro e wB ⟨rfl, hsB⟩; have SB := Aside0.mk (SA.out.trans hsB); clear hsB)
    | (go_at_call_of 16 (Value.slice la ln lc); refine (W5.out wB SB.out).mono ?_; rintro e wC ⟨rfl, hsC⟩; have SC := Aside0.mk (SB.out.trans hsC); clear hsC)
    | (go_at_call 12; refine (awake_ok _).mono ?_; rintro e wD ⟨rfl, hbw⟩; have BD := Aside0.mk (below_step HB7.out (below_step SC.out.below hbw SC.out.below.size) HB7.out.size); clear hbw))
  refine bodyPost_ret (results_tmp rfl _ _ _) rfl ?_
  exact ⟨rfl, BD.out⟩
end Go.Proofs.Ytghpjlohoehdnaa.Sep

/-! An error of either comes: the plain law, and Metered's iterator. No condition beyond those that each theorem names. -/
namespace Go.Proofs.Ytghpjlohoehdnaa.Sep
open Go Go.RowKit Go.Shelf
set_option linter.unusedVariables false
set_option linter.unusedSimpArgs false
/-- what is metered with no meter -/
def badP : List Pr → List Pr
  | [] => []
  | _ :: _ => [((RV.nil, 310), [])]
theorem badP_fst : ∀ l : List Pr, (badP l).map Prod.fst = badL (l.map Prod.fst)
  | [] => rfl
  | _ :: _ => rfl
theorem errOf_app : ∀ {l : List Pr} (m : List Pr), okP l → errOf (l ++ m) = errOf m
  | [], _, _ => rfl
  | p :: l, m, h => by rw [List.cons_append, errOf, if_pos h.tail.1, errOf_app m h.tail.2]
theorem errOf_cut : ∀ l : List Pr, errOf (cutP l) = errOf l
  | [] => rfl
  | p :: l => by
    rw [cutP, errOf]
    by_cases h : p.1.2 = 0
    · rw [if_pos h, if_pos h, errOf, if_pos h, errOf_cut l]
    · rw [if_neg h, if_neg h, errOf, if_neg h]
theorem errOf_dist : ∀ (l : List Pr) (acc : List (List V3)), errOf (distL acc l) = errOf l
  | [], _ => rfl
  | p :: l, acc => by
    rw [distL, errOf]
    by_cases h : p.1.2 = 0
    · rw [if_pos h, if_pos h]
      split
      · exact errOf_dist l acc
      · rw [errOf, if_pos h, errOf_dist l _]
    · rw [if_neg h, if_neg h, errOf, if_neg h]
theorem badP_err {p : Pr} {l : List Pr} : errOf (badP (p :: l)) = 310 := rfl
/-- the answer's error, where one of both is bad -/
def codeE (how : Int) (rows : List (List V3)) : Int := if bad how then 1 else if rows = [] then 0 else 310
theorem joinP_nil {how : Int} (h : ¬ bad how) : joinP how [] [] = [] := by
  unfold bad at h
  by_cases h1 : how = 1
  · subst h1; rfl
  by_cases h2 : how = 2
  · subst h2; rfl
  by_cases h3 : how = 3
  · subst h3; rfl
  · obtain rfl : how = 4 := by omega
    rfl
theorem join_err {how : Int} (h : ¬ bad how) (p : Pr) (l : List Pr) (hl : okP (p :: l)) : errOf (joinP how (p :: l) (badP (p :: l))) = 310 ∧ errOf (joinP how (badP (p :: l)) (p :: l)) = 310 := by
  unfold bad at h
  have e0 := errOf_zero (p :: l) hl
  by_cases h1 : how = 1
  · subst h1
    rw [joinP_1 rfl, joinP_1 rfl, errOf_cut, errOf_cut, errOf_app _ hl]
    exact ⟨rfl, rfl⟩
  by_cases h2 : how = 2
  · subst h2
    rw [joinP_2 rfl, joinP_2 rfl, errOf_dist, errOf_dist, errOf_cut, errOf_cut, errOf_app _ hl]
    exact ⟨rfl, rfl⟩
  have hg : ∀ is : Bool, errOf (distL [] (amAll is (p :: l) (badP (p :: l)))) = 310 ∧ errOf (distL [] (amAll is (badP (p :: l)) (p :: l))) = 310 := fun is => by
    rw [errOf_dist, errOf_dist]
    unfold amAll
    rw [if_neg (by rw [badP_err]; decide), if_pos e0]
    exact ⟨rfl, rfl⟩
  by_cases h3 : how = 3
  · subst h3
    exact hg true
  · obtain rfl : how = 4 := by omega
    exact hg false
/-- what must hold of what is collected: an error, or nothing -/
theorem join_e (how : Int) (l : List Pr) (hl : okP l) : errOf (joinP how l (badP l)) = codeE how (l.map Prod.snd) ∧ errOf (joinP how (badP l) l) = codeE how (l.map Prod.snd) ∧
    (errOf (joinP how l (badP l)) ≠ 0 ∨ joinP how l (badP l) = []) ∧ (errOf (joinP how (badP l) l) ≠ 0 ∨ joinP how (badP l) l = []) := by
  unfold codeE
  by_cases h : bad how
  · rw [if_pos h, joinP_no h, joinP_no h]
    exact ⟨rfl, rfl, .inl (by decide), .inl (by decide)⟩
  · rw [if_neg h]
    cases l with
    | nil =>
      have e : joinP how [] (badP []) = [] := joinP_nil h
      have e' : joinP how (badP []) [] = [] := joinP_nil h
      rw [e, e']
      exact ⟨rfl, rfl, .inr rfl, .inr rfl⟩
    | cons p l =>
      obtain ⟨e1, e2⟩ := join_err h p l hl
      rw [e1, e2]
      exact ⟨rfl, rfl, .inl (by decide), .inl (by decide)⟩
theorem join_z (how : Int) : errOf (joinP how [] []) = codeJ how ∧ (errOf (joinP how [] []) ≠ 0 ∨ joinP how [] [] = []) := by
  unfold codeJ
  by_cases h : bad how
  · rw [if_pos h, joinP_no h]; exact ⟨rfl, .inl (by decide)⟩
  · rw [if_neg h, joinP_nil h]; exact ⟨rfl, .inr rfl⟩
theorem collect_z (v : Value) (prs : List Pr) (R : Nat → Prop) (w : World) (h : ItC v prs R w) (hl : prs.length ≤ 100000) (hz : errOf prs ≠ 0 ∨ prs = []) :
    Calls Try.prog 19 #[v] w fun e W' => ∃ a c, e = .returned (.tuple #[.slice a 0 c, .int .i64 (errOf prs)]) ∧ Below w.heap.size w W' := by
  refine (callsIn_wide.1 (collect_c 3 (Nat.le_refl _) v _ R w h hl)).mono ?_
  rintro e W' ⟨hbl, ⟨h0, sv, rfl, _, ho⟩ | ⟨h0, rfl⟩⟩
  · rcases hz with hz | rfl
    · exact absurd h0 hz
    · rcases ho with ⟨a, c, rfl, _⟩ | ⟨b, off, c, rs, rfl, _, _, _, h4⟩
      · exact ⟨a, c, rfl, hbl⟩
      · match rs, h4 with
        | [], _ => exact ⟨_, _, rfl, hbl⟩
  · exact ⟨none, 0, rfl, hbl⟩
theorem bad_c (A B Bm : Nat) (va : Value) (pa : List Pr) (Ra : Nat → Prop) (w : World) (hA : A < w.heap.size) (hB : B < w.heap.size) (hM : Bm < w.heap.size) (hca : w.cell? ⟨A, 0, none⟩ = some va) (hcb : w.cell? ⟨B, 0, none⟩ = some (.func (.func 39) #[] #[.pointer (some ⟨Bm, 0, none⟩)]))
    (hcm : w.cell? ⟨Bm, 0, none⟩ = some (.pointer none)) (ha : ItC va pa Ra w) (hz : okP pa) :
    ItC (.func (.func 66) #[] #[.pointer (some ⟨A, 0, none⟩), .pointer (some ⟨B, 0, none⟩)]) (badP pa) (fun j => j = A ∨ j = B ∨ j = Bm ∨ Ra j) w := by
  refine ⟨?_, fun p hp h0 => ?_⟩
  · rw [badP_fst]
    exact bad_it A B Bm va _ Ra w hA hB hM hca hcb hcm ha.it (fun y hy => by obtain ⟨p, hp, rfl⟩ := List.mem_map.1 hy; exact hz p hp)
  · cases pa with
    | nil => cases hp
    | cons _ _ => rw [List.mem_singleton.1 hp] at h0; cases h0
theorem badP_len : ∀ l : List Pr, (badP l).length ≤ 1
  | [] => Nat.zero_le _
  | _ :: _ => Nat.le_refl _
end Go.Proofs.Ytghpjlohoehdnaa.Sep

/-! SetopEnds, walked. No condition beyond those that each theorem names. -/
namespace Go.Proofs.Ytghpjlohoehdnaa.Sep
open Go Go.RowKit Go.Shelf
set_option linter.unusedVariables false
set_option linter.unusedSimpArgs false
/-- LIST, once more over the same rows -/
theorem list_n (a : Option Addr) (k c : Nat) (rows : List (List V3)) (W : World) (h : Lst W (.slice a k c) rows) (hl : rows.length ≤ 100000) :
    Calls Try.prog 18 #[.slice a k c] W fun e W' => ∃ prs R, e = .returned (.func (.func 41) #[] #[.pointer (some ⟨W.heap.size, 0, none⟩)]) ∧ prs.map Prod.snd = rows ∧ okP prs ∧ Below W.heap.size W W' ∧ ItC (.func (.func 41) #[] #[.pointer (some ⟨W.heap.size, 0, none⟩)]) prs R W' ∧ W' = W.alloc (.cells #[.slice a k c] 22) := by
  refine (callsIn_wide.1 (list_make 1 a k c W)).mono ?_
  rintro e W' ⟨rfl, rfl⟩
  have b1 : Below W.heap.size W (W.alloc (.cells #[.slice a k c] 22)) := below_new _
  obtain ⟨prs, e1, e2, it⟩ := list_c W.heap.size _ rows _ (W.alloc (.cells #[.slice a k c] 22)) (by simp) (fun j hj => hj) (Boxed.new W 22 (.slice a k c)).cell (h.below b1) hl
  exact ⟨prs, _, rfl, e1, e2, b1, it, rfl⟩
theorem bad_make (pa : List Pr) (Ra : Nat → Prop) (ga : FuncId) (la : Array Value) (W : World) (ha : ItC (.func (.func ga) #[] la) pa Ra W) (hz : okP pa) :
    Calls Try.prog 17 #[.func (.func ga) #[] la, .pointer none] W fun e W' => ∃ v R, e = .returned v ∧ Below W.heap.size W W' ∧ ItC v (badP pa) R W' := by
  refine (metered_make ga la W).mono ?_
  rintro e W' ⟨rfl, rfl⟩
  have c0 := Boxed.new W 62 (.pointer none)
  have c1 := Boxed.new (W.alloc (.cells #[.pointer none] 62)) 31 (.func (.func ga) #[] la)
  have c2 := Boxed.new ((W.alloc (.cells #[.pointer none] 62)).alloc (.cells #[.func (.func ga) #[] la] 31)) 71 (.func (.func 39) #[] #[.pointer (some ⟨W.heap.size, 0, none⟩)])
  simp only [World.size_alloc] at c1 c2
  have bl : Below W.heap.size W (((W.alloc (.cells #[.pointer none] 62)).alloc (.cells #[.func (.func ga) #[] la] 31)).alloc (.cells #[.func (.func 39) #[] #[.pointer (some ⟨W.heap.size, 0, none⟩)]] 71)) :=
    (((Below.refl _ W).alloc (Nat.le_refl _) _).alloc (by simp) _).alloc (by simp; omega) _
  exact ⟨_, _, rfl, bl, bad_c (W.heap.size + 1) (W.heap.size + 2) W.heap.size _ pa Ra _ (by simp) (by simp) (by simp; omega) ((c1.alloc _).cell) c2.cell (((c0.alloc _).alloc _).cell) (ha.below bl) hz⟩
theorem badP_eq {p q : List Pr} (h : p.map Prod.snd = q.map Prod.snd) : badP p = badP q := by
  cases p with
  | nil => cases q with
    | nil => rfl
    | cons _ _ => simp at h
  | cons _ _ => cases q with
    | nil => simp at h
    | cons _ _ => rfl
theorem collect_x (how : Int) (v : Value) (p q : List Pr) (rows : List (List V3)) (R : Nat → Prop) (w : World) (hp : p.map Prod.snd = rows) (hq : q.map Prod.snd = rows) (ho : okP p) (hl : rows.length ≤ 30) (h : ItC v (joinP how p (badP q)) R w) :
    Calls Try.prog 19 #[v] w fun e W' => ∃ a c, e = .returned (.tuple #[.slice a 0 c, .int .i64 (codeE how rows)]) ∧ Below w.heap.size w W' := by
  have hlen := joinP_len how p (badP q)
  have h1 : p.length = rows.length := by rw [← hp, List.length_map]
  have h2 := badP_len q
  rw [badP_eq (hq.trans hp.symm)] at h hlen h2
  obtain ⟨e1, _, e3, _⟩ := join_e how p ho
  rw [hp] at e1
  have := collect_z v _ R w h (by omega) e3
  rw [e1] at this
  exact this
theorem collect_y (how : Int) (v : Value) (p q : List Pr) (rows : List (List V3)) (R : Nat → Prop) (w : World) (hp : p.map Prod.snd = rows) (hq : q.map Prod.snd = rows) (ho : okP p) (hl : rows.length ≤ 30) (h : ItC v (joinP how (badP q) p) R w) :
    Calls Try.prog 19 #[v] w fun e W' => ∃ a c, e = .returned (.tuple #[.slice a 0 c, .int .i64 (codeE how rows)]) ∧ Below w.heap.size w W' := by
  have hlen := joinP_len how (badP q) p
  have h1 : p.length = rows.length := by rw [← hp, List.length_map]
  have h2 := badP_len q
  rw [badP_eq (hq.trans hp.symm)] at h hlen h2
  obtain ⟨_, e2, _, e4⟩ := join_e how p ho
  rw [hp] at e2
  have := collect_z v _ R w h (by omega) e4
  rw [e2] at this
  exact this
theorem len_snd {prs : List Pr} {rows : List (List V3)} (h : prs.map Prod.snd = rows) : prs.length = rows.length := by rw [← h, List.length_map]
set_option maxRecDepth 100000 in
set_option maxHeartbeats 8000000 in
theorem ends_ok (how : Int) (sa : Value) (ra : List (List V3)) (W : World) (ha : Raw W sa ra) :
    Calls Try.prog 5 #[.int .i64 how, sa] W fun e W' => e = .returned (.bool true) ∧ Below W.heap.size W W' := by
  have hla := light_ok sa ra W ha
  obtain ⟨aa, na, ca, rfl⟩ := ha.shp
  have HA := Aside0.mk ha
  clear ha
  go_enter Try.func5, Try.ntmps5
  go_upto_region 3 with (first
    | (go_at_call 11; refine hla.mono ?_; rintro e w' ⟨ta, rfl, hta, hwq⟩; subst w'; have HTA := Aside0.mk hta; clear hta hla; cases ta)
    | (go_at_call 12; refine (awake_ok _).mono ?_; rintro e w' ⟨rfl, hbw⟩))
  · refine bodyPost_ret (results_tmp rfl _ _ _) rfl ?_
    exact ⟨rfl, hbw⟩
  obtain ⟨la1, la2⟩ := HTA.out trivial
  have LA := Aside0.mk (HA.out.lst la2)
  have LN := Aside0.mk la1
  clear HA HTA la2 la1
  have h1 := list_n aa na ca ra W LA.out (by have := LN.out; omega)
  go_upto_region 4 with (first
    | (go_at_call 18; refine h1.mono ?_; rintro e w1 ⟨p1, R1, rfl, s1, o1, b1, i1, e1⟩; have H1 := Aside0.mk (And.intro s1 (And.intro o1 (And.intro b1 i1))); clear s1 o1 b1 i1 e1 h1)
    | (go_at_call 17; refine (bad_make p1 R1 41 _ w1 H1.out.2.2.2 H1.out.2.1).mono ?_; rintro e w2 ⟨vb, Rb, rfl, b2, ib⟩; have H2 := Aside0.mk (And.intro (below_step H1.out.2.2.1 b2 H1.out.2.2.1.size) ib); clear b2 ib))
  have h3 := list_n aa na ca ra w2 (LA.out.below H2.out.1) (by have := LN.out; omega)
  have hbl : ∀ l : List Pr, l.map Prod.snd = ra → l.length + (badP p1).length ≤ 90000 ∧ (badP p1).length + l.length ≤ 90000 := fun l hl => by
    have := LN.out
    have h1 := len_snd hl
    have h2 := badP_len p1
    omega
  go_upto_region 5 with (first
    | (go_at_call 18; refine h3.mono ?_; rintro e w3 ⟨p3, R3, rfl, s3, o3, b3, i3, e3⟩; have H3 := Aside0.mk (And.intro s3 (And.intro o3 (And.intro b3 i3))); clear s3 o3 b3 i3 e3 h3)
    | (go_at_call 20; refine (join_ok how _ _ p3 (badP p1) R3 Rb w3 H3.out.2.2.2 (H2.out.2.below H3.out.2.2.1) (hbl p3 H3.out.1).1).mono ?_; rintro e w4 ⟨v4, R4, rfl, b4, i4⟩; have H4 := Aside0.mk (And.intro b4 i4); clear b4 i4)
    | (go_at_call 19; refine (collect_x how v4 p3 p1 ra R4 w4 H3.out.1 H1.out.1 H3.out.2.1 LN.out H4.out.2).mono ?_; rintro e w5 ⟨xa, xc, rfl, b5⟩; have B5 := Aside0.mk (below_step (below_step (below_step H2.out.1 H3.out.2.2.1 H2.out.1.size) H4.out.1 (below_step H2.out.1 H3.out.2.2.1 H2.out.1.size).size) b5 (below_step (below_step H2.out.1 H3.out.2.2.1 H2.out.1.size) H4.out.1 (below_step H2.out.1 H3.out.2.2.1 H2.out.1.size).size).size); have C5 := Aside0.mk (below_step (below_step H3.out.2.2.1 H4.out.1 H3.out.2.2.1.size) b5 (below_step H3.out.2.2.1 H4.out.1 H3.out.2.2.1.size).size); clear b5))
  have h6 := list_n aa na ca ra w5 (LA.out.below B5.out) (by have := LN.out; omega)
  go_upto_region 6 with (first
    | (go_at_call 18; refine h6.mono ?_; rintro e w6 ⟨p6, R6, rfl, s6, o6, b6, i6, e6⟩; have H6 := Aside0.mk (And.intro s6 (And.intro o6 (And.intro b6 i6))); clear s6 o6 b6 i6 e6 h6)
    | (go_at_call 20; refine (join_ok how _ _ (badP p1) p6 Rb R6 w6 (H2.out.2.below (below_step C5.out H6.out.2.2.1 C5.out.size)) H6.out.2.2.2 (hbl p6 H6.out.1).2).mono ?_; rintro e w7 ⟨v7, R7, rfl, b7, i7⟩; have H7 := Aside0.mk (And.intro b7 i7); clear b7 i7)
    | (go_at_call 19; refine (collect_y how v7 p6 p1 ra R7 w7 H6.out.1 H1.out.1 H6.out.2.1 LN.out H7.out.2).mono ?_; rintro e w8 ⟨ya, yc, rfl, b8⟩; have B8 := Aside0.mk (below_step (below_step (below_step B5.out H6.out.2.2.1 B5.out.size) H7.out.1 (below_step B5.out H6.out.2.2.1 B5.out.size).size) b8 (below_step (below_step B5.out H6.out.2.2.1 B5.out.size) H7.out.1 (below_step B5.out H6.out.2.2.1 B5.out.size).size).size); clear b8))
  have h9 := join_nil how w8
  obtain ⟨z1, z2⟩ := join_z how
  have hzl : (joinP how [] []).length ≤ 100000 := Nat.le_trans (joinP_len how [] []) (by decide)
  have HZ := Aside0.mk (And.intro z1 (And.intro z2 hzl))
  clear z1 z2 hzl hbl
  go_upto_region 7 with (first
    | (go_at_call 20; refine h9.mono ?_; rintro e w9 ⟨v9, R9, rfl, b9, i9⟩; have H9 := Aside0.mk (And.intro b9 i9); clear b9 i9 h9)
    | (go_at_call 19; refine (collect_z v9 _ R9 w9 H9.out.2 HZ.out.2.2 HZ.out.2.1).mono ?_; rw [HZ.out.1]; rintro e wA ⟨za, zc, rfl, bA⟩; have BA := Aside0.mk (below_step (below_step B8.out H9.out.1 B8.out.size) bA (below_step B8.out H9.out.1 B8.out.size).size); clear bA))
  have hnl : na = ra.length := lst_len LA.out
  clear H1 H2 H3 H4 H6 H7 H9 B5 C5 B8 HZ
  by_cases hbad : bad how
  · have e1 : codeE how ra = 1 := if_pos hbad
    have e2 : codeJ how = 1 := if_pos hbad
    rw [e1, e2]
    clear e1 e2 hnl
    by_cases hl1 : how < 1
    · have hd1 : decide (how < 1) = true := by simpa using hl1
      clear hbad
      go_wp2_with (go_at_call 12; refine (awake_ok _).mono ?_; rintro e wD ⟨rfl, hbw⟩; have BD := Aside0.mk (below_step BA.out hbw BA.out.size); clear hbw)
      refine bodyPost_ret (results_tmp rfl _ _ _) rfl ?_
      exact ⟨rfl, BD.out⟩
    · have hd1 : decide (how < 1) = false := by simpa using hl1
      have h4 : 4 < how := by unfold bad at hbad; omega
      have hd4 : decide (4 < how) = true := by simpa using h4
      clear hbad
      go_wp2_with (go_at_call 12; refine (awake_ok _).mono ?_; rintro e wD ⟨rfl, hbw⟩; have BD := Aside0.mk (below_step BA.out hbw BA.out.size); clear hbw)
      refine bodyPost_ret (results_tmp rfl _ _ _) rfl ?_
      exact ⟨rfl, BD.out⟩
  · have e2 : codeJ how = 0 := if_neg hbad
    have hd1 : decide (how < 1) = false := by unfold bad at hbad; simp; omega
    have hd4 : decide (4 < how) = false := by unfold bad at hbad; simp; omega
    have e1 : codeE how ra = if ra = [] then 0 else 310 := if_neg hbad
    rw [e1, e2]
    clear e1 e2 hbad
    cases ra with
    | nil =>
      rw [if_pos rfl]
      simp only [List.length_nil] at hnl
      subst hnl
      go_wp2_with (go_at_call 12; refine (awake_ok _).mono ?_; rintro e wD ⟨rfl, hbw⟩; have BD := Aside0.mk (below_step BA.out hbw BA.out.size); clear hbw)
      refine bodyPost_ret (results_tmp rfl _ _ _) rfl ?_
      exact ⟨rfl, BD.out⟩
    | cons r l =>
      rw [if_neg (by simp)]
      have hn0 : 0 < na := by rw [hnl]; simp
      have hdn : decide (0 < na) = true := by simpa using hn0
      clear hnl
      go_wp2_with (go_at_call 12; refine (awake_ok _).mono ?_; rintro e wD ⟨rfl, hbw⟩; have BD := Aside0.mk (below_step BA.out hbw BA.out.size); clear hbw)
      refine bodyPost_ret (results_tmp rfl _ _ _) rfl ?_
      exact ⟨rfl, BD.out⟩
end Go.Proofs.Ytghpjlohoehdnaa.Sep
