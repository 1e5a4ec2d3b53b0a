/- setop.Join. No condition beyond those that each theorem names. -/
import Derived.Test.YtghpjlohoehdnaaSeZ
namespace Go.Proofs.Ytghpjlohoehdnaa.Sep
open Go Go.RowKit Go.Shelf
set_option linter.unusedVariables false
set_option linter.unusedSimpArgs false
/-- the rows of two, joined -/
def joinP (how : Int) (pa pb : List Pr) : List Pr :=
  if how = 1 then cutP (pa ++ pb) else if how = 2 then distL [] (cutP (pa ++ pb)) else if how = 3 then distL [] (amAll true pa pb) else if how = 4 then distL [] (amAll false pa pb) else [((RV.nil, 1), [])]
/-- the calls that Join makes, by what they do -/
theorem join_walk (how : Int) (va vb : Value) (hv : Fv va) (hw : Fv vb) (w : World) :
    Calls Try.prog 20 #[.int .i64 how, va, vb] w fun e w' =>
      (how = 1 ∧ e = .returned (.func (.func 68) #[] #[.pointer (some ⟨w.heap.size, 0, none⟩), .pointer (some ⟨w.heap.size + 1, 0, none⟩)]) ∧ w' = (w.alloc (.cells #[va] 31)).alloc (.cells #[vb] 31)) ∨
      (how = 2 ∧ e = .returned (.func (.func 54) #[] #[.pointer (some ⟨w.heap.size + 1 + 1, 0, none⟩)]) ∧ w' = ((w.alloc (.cells #[va] 31)).alloc (.cells #[vb] 31)).alloc (.cells #[.func (.func 68) #[] #[.pointer (some ⟨w.heap.size, 0, none⟩), .pointer (some ⟨w.heap.size + 1, 0, none⟩)]] 31)) ∨
      (∃ is : Bool, how = (if is then 3 else 4) ∧ e = .returned (.func (.func 54) #[] #[.pointer (some ⟨w.heap.size + 1 + 1 + 1, 0, none⟩)]) ∧
        w' = (((w.alloc (.cells #[va] 31)).alloc (.cells #[vb] 31)).alloc (.cells #[.bool is] 4)).alloc (.cells #[.func (.func 69) #[] #[.pointer (some ⟨w.heap.size + 1, 0, none⟩), .pointer (some ⟨w.heap.size, 0, none⟩), .pointer (some ⟨w.heap.size + 1 + 1, 0, none⟩)]] 31)) ∨
      ((how < 1 ∨ 4 < how) ∧ e = .returned (.func (.func 45) #[] #[]) ∧ w' = w) := by
  have h68 : Fv (.func (.func 68) #[] #[.pointer (some ⟨w.heap.size, 0, none⟩), .pointer (some ⟨w.heap.size + 1, 0, none⟩)]) := .inl ⟨_, _, rfl⟩
  have h69 : Fv (.func (.func 69) #[] #[.pointer (some ⟨w.heap.size + 1, 0, none⟩), .pointer (some ⟨w.heap.size, 0, none⟩), .pointer (some ⟨w.heap.size + 1 + 1, 0, none⟩)]) := .inl ⟨_, _, rfl⟩
  by_cases h1 : how = 1
  · subst h1
    go_enter Try.func20, Try.ntmps20
    go_wp2_with (go_at_call 43; refine (both_make2 va vb hv hw _).mono ?_; rintro e w' ⟨rfl, rfl⟩)
    go_ret
    exact .inl ⟨by trivial, rfl, rfl⟩
  by_cases h2 : how = 2
  · subst h2
    clear h1
    go_enter Try.func20, Try.ntmps20
    go_wp2_with (first | (go_at_call 43; refine (both_make2 va vb hv hw _).mono ?_; rintro e w' ⟨rfl, rfl⟩) | (go_at_call 28; refine (dist_make _ h68 _).mono ?_; rintro e w' ⟨rfl, rfl⟩))
    go_ret
    exact .inr (.inl ⟨by trivial, by simp, rfl⟩)
  by_cases h3 : how = 3
  · subst h3
    clear h1 h2
    go_enter Try.func20, Try.ntmps20
    go_wp2_with (first | (go_at_call 44; refine (among_make va vb hv hw true _).mono ?_; rintro e w' ⟨rfl, rfl⟩) | (go_at_call 28; refine (dist_make _ h69 _).mono ?_; rintro e w' ⟨rfl, rfl⟩))
    go_ret
    exact .inr (.inr (.inl ⟨true, rfl, by simp, rfl⟩))
  by_cases h4 : how = 4
  · subst h4
    clear h1 h2 h3
    go_enter Try.func20, Try.ntmps20
    go_wp2_with (first | (go_at_call 44; refine (among_make va vb hv hw false _).mono ?_; rintro e w' ⟨rfl, rfl⟩) | (go_at_call 28; refine (dist_make _ h69 _).mono ?_; rintro e w' ⟨rfl, rfl⟩))
    go_ret
    exact .inr (.inr (.inl ⟨false, rfl, by simp, rfl⟩))
  · have hb1 : (how == 1) = false := by simpa using h1
    have hb2 : (how == 2) = false := by simpa using h2
    have hb3 : (how == 3) = false := by simpa using h3
    have hb4 : (how == 4) = false := by simpa using h4
    have hfin : how < 1 ∨ 4 < how := by omega
    go_enter Try.func20, Try.ntmps20
    go_wp2
    go_ret
    exact .inr (.inr (.inr ⟨hfin, rfl, rfl⟩))
theorem joinP_1 {how : Int} {pa pb : List Pr} (h : how = 1) : joinP how pa pb = cutP (pa ++ pb) := by unfold joinP; rw [if_pos h]
theorem joinP_2 {how : Int} {pa pb : List Pr} (h : how = 2) : joinP how pa pb = distL [] (cutP (pa ++ pb)) := by subst h; rfl
theorem joinP_34 {how : Int} {pa pb : List Pr} {is : Bool} (h : how = (if is then 3 else 4)) : joinP how pa pb = distL [] (amAll is pa pb) := by subst h; cases is <;> rfl
theorem joinP_no {how : Int} {pa pb : List Pr} (h : how < 1 ∨ 4 < how) : joinP how pa pb = [((RV.nil, 1), [])] := by
  unfold joinP
  rw [if_neg (by omega), if_neg (by omega), if_neg (by omega), if_neg (by omega)]
theorem fin_of {v : Value} {prs : List Pr} {w w' : World} {e : Ending} (he : e = .returned v) (hb : Below w.heap.size w w') (h : ∃ R', ItC v prs R' w') : ∃ v R', e = .returned v ∧ Below w.heap.size w w' ∧ ItC v prs R' w' := by
  obtain ⟨R', h⟩ := h
  exact ⟨v, R', he, hb, h⟩
/-- JOIN of two iterators. -/
theorem join_ok (how : Int) (va vb : Value) (pa pb : List Pr) (Ra Rb : Nat → Prop) (w : World) (ha : ItC va pa Ra w) (hb : ItC vb pb Rb w) (hl : pa.length + pb.length ≤ 90000) :
    Calls Try.prog 20 #[.int .i64 how, va, vb] w fun e w' => ∃ v R', e = .returned v ∧ Below w.heap.size w w' ∧ ItC v (joinP how pa pb) R' w' := by
  refine (join_walk how va vb ha.fv hb.fv w).mono ?_
  have c0 := Boxed.new w 31 va
  have c1 := Boxed.new (w.alloc (.cells #[va] 31)) 31 vb
  rw [World.size_alloc] at c1
  have b1 : Below w.heap.size w (w.alloc (.cells #[va] 31)) := below_new _
  have b2 : Below w.heap.size w ((w.alloc (.cells #[va] 31)).alloc (.cells #[vb] 31)) := b1.alloc b1.size _
  rintro e w' (⟨h, rfl, rfl⟩ | ⟨h, rfl, rfl⟩ | ⟨is, h, rfl, rfl⟩ | ⟨h, rfl, rfl⟩)
  · have hx := both_c w.heap.size (w.heap.size + 1) va vb pa pb Ra Rb _ (by simp; omega) (by simp) ((c0.alloc (.cells #[vb] 31)).cell) c1.cell (ha.below b2) (hb.below b2)
    exact ⟨_, _, rfl, b2, by rw [joinP_1 h]; exact hx⟩
  · refine fin_of rfl (b2.alloc b2.size _) ?_
    rw [joinP_2 h]
    have hbo := both_c w.heap.size (w.heap.size + 1) va vb pa pb Ra Rb _ (by simp; omega) (by simp) ((c0.alloc (.cells #[vb] 31)).cell) c1.cell (ha.below b2) (hb.below b2)
    have c2 := Boxed.new ((w.alloc (.cells #[va] 31)).alloc (.cells #[vb] 31)) 31 (.func (.func 68) #[] #[.pointer (some ⟨w.heap.size, 0, none⟩), .pointer (some ⟨w.heap.size + 1, 0, none⟩)])
    simp only [World.size_alloc] at c2
    have hlen := cutP_len (pa ++ pb)
    rw [List.length_append] at hlen
    exact ⟨_, dist_c _ _ _ _ _ (by simp) c2.cell (hbo.below (below_new _)) (by omega)⟩
  · refine fin_of rfl ((b2.alloc b2.size _).alloc (b2.alloc b2.size _).size _) ?_
    rw [joinP_34 h]
    have b3 : Below w.heap.size w (((w.alloc (.cells #[va] 31)).alloc (.cells #[vb] 31)).alloc (.cells #[.bool is] 4)) := b2.alloc b2.size _
    have cd := Boxed.new ((w.alloc (.cells #[va] 31)).alloc (.cells #[vb] 31)) 4 (.bool is)
    simp only [World.size_alloc] at cd
    have ham := among_c (w.heap.size + 1) w.heap.size (w.heap.size + 1 + 1) is va vb pa pb Ra Rb (((w.alloc (.cells #[va] 31)).alloc (.cells #[vb] 31)).alloc (.cells #[.bool is] 4)) (by simp) (by simp; omega) (by simp) ((c1.alloc _).cell) (((c0.alloc _).alloc _).cell) cd.cell (ha.below b3) (hb.below b3) (by omega)
    have c2 := Boxed.new (((w.alloc (.cells #[va] 31)).alloc (.cells #[vb] 31)).alloc (.cells #[.bool is] 4)) 31 (.func (.func 69) #[] #[.pointer (some ⟨w.heap.size + 1, 0, none⟩), .pointer (some ⟨w.heap.size, 0, none⟩), .pointer (some ⟨w.heap.size + 1 + 1, 0, none⟩)])
    simp only [World.size_alloc] at c2
    have hlen := amAll_len is pa pb
    exact ⟨_, dist_c _ _ _ _ _ (by simp) c2.cell (ham.below (below_new _)) (by omega)⟩
  · refine fin_of rfl (Below.refl _ _) ?_
    rw [joinP_no h]
    exact ⟨_, err_c _⟩
/-- JOIN of nil and nil. -/
theorem join_nil (how : Int) (w : World) :
    Calls Try.prog 20 #[.int .i64 how, .nilFunc, .nilFunc] w fun e w' => ∃ v R', e = .returned v ∧ Below w.heap.size w w' ∧ ItC v (joinP how [] []) R' w' := by
  refine (join_walk how .nilFunc .nilFunc (.inr rfl) (.inr rfl) w).mono ?_
  have c0 := Boxed.new w 31 .nilFunc
  have c1 := Boxed.new (w.alloc (.cells #[.nilFunc] 31)) 31 .nilFunc
  rw [World.size_alloc] at c1
  have b1 : Below w.heap.size w (w.alloc (.cells #[.nilFunc] 31)) := below_new _
  have b2 : Below w.heap.size w ((w.alloc (.cells #[.nilFunc] 31)).alloc (.cells #[.nilFunc] 31)) := b1.alloc b1.size _
  rintro e w' (⟨h, rfl, rfl⟩ | ⟨h, rfl, rfl⟩ | ⟨is, h, rfl, rfl⟩ | ⟨h, rfl, rfl⟩)
  · have hx := both_nil_c w.heap.size (w.heap.size + 1) _ (by simp; omega) (by simp) ((c0.alloc (.cells #[.nilFunc] 31)).cell) c1.cell
    exact ⟨_, _, rfl, b2, by rw [joinP_1 h]; exact hx⟩
  · refine fin_of rfl (b2.alloc b2.size _) ?_
    rw [joinP_2 h]
    have hbo := both_nil_c w.heap.size (w.heap.size + 1) _ (by simp; omega) (by simp) ((c0.alloc (.cells #[.nilFunc] 31)).cell) c1.cell
    have c2 := Boxed.new ((w.alloc (.cells #[.nilFunc] 31)).alloc (.cells #[.nilFunc] 31)) 31 (.func (.func 68) #[] #[.pointer (some ⟨w.heap.size, 0, none⟩), .pointer (some ⟨w.heap.size + 1, 0, none⟩)])
    simp only [World.size_alloc] at c2
    exact ⟨_, dist_c _ _ [] _ _ (by simp) c2.cell (hbo.below (below_new _)) (by decide)⟩
  · refine fin_of rfl ((b2.alloc b2.size _).alloc (b2.alloc b2.size _).size _) ?_
    rw [joinP_34 h]
    have ham := among_nil_c (w.heap.size + 1) w.heap.size (w.heap.size + 1 + 1) is (((w.alloc (.cells #[.nilFunc] 31)).alloc (.cells #[.nilFunc] 31)).alloc (.cells #[.bool is] 4)) (by simp) (by simp; omega) ((c1.alloc _).cell) (((c0.alloc _).alloc _).cell)
    have c2 := Boxed.new (((w.alloc (.cells #[.nilFunc] 31)).alloc (.cells #[.nilFunc] 31)).alloc (.cells #[.bool is] 4)) 31 (.func (.func 69) #[] #[.pointer (some ⟨w.heap.size + 1, 0, none⟩), .pointer (some ⟨w.heap.size, 0, none⟩), .pointer (some ⟨w.heap.size + 1 + 1, 0, none⟩)])
    simp only [World.size_alloc] at c2
    exact ⟨_, dist_c _ _ [] _ _ (by simp) c2.cell (ham.below (below_new _)) (by decide)⟩
  · refine fin_of rfl (Below.refl _ _) ?_
    rw [joinP_no h]
    exact ⟨_, err_c _⟩
end Go.Proofs.Ytghpjlohoehdnaa.Sep
