/- Rows in order: comparison, insertion, runs merged; what a Sorter holds, and how it changes, walked. No condition beyond those that each theorem names. -/
import Derived.Test.YtghpjlohoehdnaaSmB
import Derived.Lib.Bytealg
import Derived.BigGuard
import Derived.BigCall
import Derived.Deep.Draws
import Derived.Deep.QuietTactic
import Derived.BigQuiet
import Derived.Deep.LoopGhost
import Derived.Deep.AppendLies
/-! value.Compare, walked. No condition beyond those that each theorem names. -/
namespace Go.Proofs.Ytghpjlohoehdnaa.Sep
open Go Go.RowKit Go.Shelf
set_option linter.unusedVariables false
set_option linter.unusedSimpArgs false
def cmpI (a b : Int) : Int := if a < b then -1 else if b < a then 1 else 0
def cmpB (a b : ByteArray) : Int := Lib.compareBytes a.data.toList b.data.toList
def or3 (x y z : Int) : Int := if x ≠ 0 then x else if y ≠ 0 then y else z
def cmpV (u v : V3) : Int := or3 (cmpI u.k v.k) (cmpI u.n v.n) (cmpB u.s v.s)
set_option maxHeartbeats 1000000 in
theorem nan_ok (a : Int) (W : World) : Calls Try.prog 93 #[.int .i64 a] W fun e W' => e = .returned (.bool false) ∧ W' = W := by
  go_enter Try.func93, Try.ntmps93
  go_wp2
  go_ret
  exact ⟨by simp, rfl⟩
set_option maxHeartbeats 1000000 in
theorem cmpI_ok (a b : Int) (W : World) : Calls Try.prog 89 #[.int .i64 a, .int .i64 b] W fun e W' => e = .returned (.int .i64 (cmpI a b)) ∧ W' = W := by
  unfold cmpI
  by_cases h1 : a < b
  · have hd : decide (a < b) = true := by simpa using h1
    rw [if_pos h1]
    go_enter Try.func89, Try.ntmps89
    go_wp2_with (go_at_call 93; refine (nan_ok _ _).mono ?_; rintro e w' ⟨rfl, rfl⟩)
    go_ret
    exact ⟨rfl, rfl⟩
  · have hd : decide (a < b) = false := by simpa using h1
    rw [if_neg h1]
    by_cases h2 : b < a
    · have hd2 : decide (b < a) = true := by simpa using h2
      rw [if_pos h2]
      go_enter Try.func89, Try.ntmps89
      go_wp2_with (go_at_call 93; refine (nan_ok _ _).mono ?_; rintro e w' ⟨rfl, rfl⟩)
      go_ret
      exact ⟨rfl, rfl⟩
    · have hd2 : decide (b < a) = false := by simpa using h2
      rw [if_neg h2]
      go_enter Try.func89, Try.ntmps89
      go_wp2_with (go_at_call 93; refine (nan_ok _ _).mono ?_; rintro e w' ⟨rfl, rfl⟩)
      go_ret
      exact ⟨rfl, rfl⟩
set_option maxHeartbeats 1000000 in
theorem cmpStr_ok (a b : ByteArray) (W : World) : Calls Try.prog 94 #[.string a, .string b] W fun e W' => e = .returned (.int .i64 (cmpB a b)) ∧ W' = W := by
  go_enter Try.func94, Try.ntmps94
  go_wp2
  rw [run_callFunc_extern Try.func97 (by kernel_rfl) (by kernel_rfl) (by kernel_rfl) (e := Extern.BytealgCompare.compare) (by kernel_rfl), Lib.run_compareString]
  simp only [Result.andThen]
  rw [Oper.upon_value]
  go_wp2
  go_ret
  exact ⟨rfl, rfl⟩
set_option maxHeartbeats 1000000 in
theorem strCmp_ok (a b : ByteArray) (W : World) : Calls Try.prog 90 #[.string a, .string b] W fun e W' => e = .returned (.int .i64 (cmpB a b)) ∧ W' = W := by
  go_enter Try.func90, Try.ntmps90
  go_wp2_with (go_at_call 94; refine (cmpStr_ok _ _ _).mono ?_; rintro e w' ⟨rfl, rfl⟩)
  go_ret
  exact ⟨rfl, rfl⟩
set_option maxRecDepth 100000 in
set_option maxHeartbeats 2000000 in
theorem or_ok (g : Nat) (x y z : Int) (W : World) (h0 : W.cell? ⟨g, 0, none⟩ = some (.int .i64 x)) (h1 : W.cell? ⟨g, 1, none⟩ = some (.int .i64 y)) (h2 : W.cell? ⟨g, 2, none⟩ = some (.int .i64 z)) :
    Calls Try.prog 88 #[.slice (some ⟨g, 0, none⟩) 3 3] W fun e W' => e = .returned (.int .i64 (if x ≠ 0 then x else if y ≠ 0 then y else z)) ∧ W' = W := by
  by_cases hx : x = 0
  · rw [if_neg (by simpa using hx)]
    by_cases hy : y = 0
    · rw [if_neg (by simpa using hy)]
      by_cases hz : z = 0
      · subst hx hy hz
        go_enter Try.func88, Try.ntmps88
        go_wp2
        refine wp_loop_rounds 5 ?_
        rw [rounds_succ]; go_wp2
        rw [rounds_succ]; go_wp2
        rw [rounds_succ]; go_wp2
        rw [rounds_succ]; go_wp2
        go_ret
        exact ⟨rfl, rfl⟩
      · have hz' : (z != 0) = true := by simpa using hz
        subst hx hy
        go_enter Try.func88, Try.ntmps88
        go_wp2
        refine wp_loop_rounds 5 ?_
        rw [rounds_succ]; go_wp2
        rw [rounds_succ]; go_wp2
        rw [rounds_succ]; go_wp2
        go_ret
        exact ⟨rfl, rfl⟩
    · have hy' : (y != 0) = true := by simpa using hy
      rw [if_pos hy]
      subst hx
      go_enter Try.func88, Try.ntmps88
      go_wp2
      refine wp_loop_rounds 5 ?_
      rw [rounds_succ]; go_wp2
      rw [rounds_succ]; go_wp2
      go_ret
      exact ⟨rfl, rfl⟩
  · have hx' : (x != 0) = true := by simpa using hx
    rw [if_pos hx]
    go_enter Try.func88, Try.ntmps88
    go_wp2
    refine wp_loop_rounds 5 ?_
    rw [rounds_succ]; go_wp2
    go_ret
    exact ⟨rfl, rfl⟩
end Go.Proofs.Ytghpjlohoehdnaa.Sep

/-! value.Compare, walked. No condition beyond those that each theorem names. -/
namespace Go.Proofs.Ytghpjlohoehdnaa.Sep
open Go Go.RowKit Go.Shelf
set_option linter.unusedVariables false
set_option linter.unusedSimpArgs false
/-- a value in a box of its own -/
structure VBox (w : World) (B : Nat) (v : V3) : Prop where
  c0 : w.cell? ⟨B, 0, none⟩ = some (.int .i64 v.k)
  c1 : w.cell? ⟨B, 1, none⟩ = some (.int .i64 v.n)
  c2 : w.cell? ⟨B, 2, none⟩ = some (.string v.s)
abbrev vO (v : V3) : Obj := .cells #[.int .i64 v.k, .int .i64 v.n, .string v.s] 45
theorem VBox.new (W : World) (v : V3) : VBox (W.alloc (vO v)) W.heap.size v := by
  have hb : (W.alloc (vO v)).heap[W.heap.size]? = some (vO v) := World.alloc_heap_new W _
  constructor <;> (unfold World.cell?; simp only [hb]; rfl)
theorem VBox.below {W W' : World} {B : Nat} {v : V3} (h : VBox W B v) (hb : Below W.heap.size W W') : VBox W' B v := by
  have e := hb.block B (cell_lt h.c0)
  exact ⟨(cell_of_block e _).trans h.c0, (cell_of_block e _).trans h.c1, (cell_of_block e _).trans h.c2⟩
theorem heldV {W3 w : World} {A B : Nat} {u v : V3} (hA : VBox W3 A u) (hB : VBox W3 B v) (h : Below W3.heap.size W3 w) :
    w.cell? ⟨A, 0, none⟩ = some (.int .i64 u.k) ∧ w.cell? ⟨A, 1, none⟩ = some (.int .i64 u.n) ∧ w.cell? ⟨A, 2, none⟩ = some (.string u.s) ∧ w.cell? ⟨B, 0, none⟩ = some (.int .i64 v.k) ∧ w.cell? ⟨B, 1, none⟩ = some (.int .i64 v.n) ∧ w.cell? ⟨B, 2, none⟩ = some (.string v.s) ∧ Aside0 (Below W3.heap.size W3 w) :=
  ⟨(hA.below h).c0, (hA.below h).c1, (hA.below h).c2, (hB.below h).c0, (hB.below h).c1, (hB.below h).c2, ⟨h⟩⟩
theorem or_new (x y z : Int) (W : World) : Calls Try.prog 88 #[.slice (some ⟨W.heap.size, 0, none⟩) 3 3] (W.alloc (.cells #[.int .i64 x, .int .i64 y, .int .i64 z] 3)).drew fun e W' => e = .returned (.int .i64 (or3 x y z)) ∧ W' = (W.alloc (.cells #[.int .i64 x, .int .i64 y, .int .i64 z] 3)).drew := by
  have hb : (W.alloc (.cells #[.int .i64 x, .int .i64 y, .int .i64 z] 3)).heap[W.heap.size]? = some (.cells #[.int .i64 x, .int .i64 y, .int .i64 z] 3) := World.alloc_heap_new W _
  refine or_ok W.heap.size x y z _ ?_ ?_ ?_ <;> (rw [(Still.drew _).cell]; unfold World.cell?; simp only [hb]; rfl)
set_option maxRecDepth 100000 in
set_option maxHeartbeats 8000000 in
theorem cmpV_ok (u v : V3) (W : World) : Calls Try.prog 81 #[.agg #[.int .i64 u.k, .int .i64 u.n, .string u.s], .agg #[.int .i64 v.k, .int .i64 v.n, .string v.s]] W fun e W' => e = .returned (.int .i64 (cmpV u v)) ∧ Below W.heap.size W W' := by
  have hmx : Try.prog.follows .mixedOrders = true := by kernel_rfl
  have bA := (VBox.new W u).below (below_new (vO v))
  have bB := VBox.new (W.alloc (vO u)) v
  rw [World.size_alloc] at bB
  have hb2 : Below W.heap.size W ((W.alloc (vO u)).alloc (vO v)) := (below_new (W := W) (vO u)).alloc (below_new (W := W) (vO u)).size _
  go_enter Try.func81, Try.ntmps81
  go_upto_region 1 with fail
  change Code.wp _ _ _ _ ((W.alloc (vO u)).alloc (vO v))
  generalize (W.alloc (vO u)).alloc (vO v) = W2 at bA bB hb2 ⊢
  have HA := Aside0.mk bA
  have HB := Aside0.mk bB
  have H2 := Aside0.mk hb2
  clear bA bB hb2
  go_region_held3 (fun w' => w'.cell? ⟨W.heap.size, 0, none⟩ = some (.int .i64 u.k) ∧ w'.cell? ⟨W.heap.size, 1, none⟩ = some (.int .i64 u.n) ∧ w'.cell? ⟨W.heap.size, 2, none⟩ = some (.string u.s) ∧ w'.cell? ⟨W.heap.size + 1, 0, none⟩ = some (.int .i64 v.k) ∧ w'.cell? ⟨W.heap.size + 1, 1, none⟩ = some (.int .i64 v.n) ∧ w'.cell? ⟨W.heap.size + 1, 2, none⟩ = some (.string v.s) ∧ Aside0 (Below W2.heap.size W2 w'))
    (first | assumption | exact heldV HA.out HB.out (Still.drew W2).below | exact heldV HA.out HB.out (below_step (Still.drew W2).below (below_new _) (Nat.le_refl _)) | fail)
    (first
      | (go_at_call_of 89 (Value.int IntKind.i64 u.k); refine (cmpI_ok _ _ _).mono ?_; rintro e w' ⟨rfl, rfl⟩)
      | (go_at_call_of 89 (Value.int IntKind.i64 u.n); refine (cmpI_ok _ _ _).mono ?_; rintro e w' ⟨rfl, rfl⟩)
      | (go_at_call 90; refine (strCmp_ok _ _ _).mono ?_; rintro e w' ⟨rfl, rfl⟩)
      | (go_at_call 88; refine (or_new _ _ _ W2).mono ?_; rintro e w' ⟨rfl, rfl⟩))
  all_goals
    go_wp2
    go_ret
    exact ⟨rfl, below_step H2.out (below_step (below_new _) (Still.drew _).below (below_new (W := W2) _).size) H2.out.size⟩
end Go.Proofs.Ytghpjlohoehdnaa.Sep

/-! value.CompareRows, walked. No condition beyond those that each theorem names. -/
namespace Go.Proofs.Ytghpjlohoehdnaa.Sep
open Go Go.RowKit Go.Shelf
set_option linter.unusedVariables false
set_option linter.unusedSimpArgs false
def zV : V3 := ⟨0, 0, ⟨#[]⟩⟩
/-- a column's value, or the value that is none -/
def atR (row : List V3) (c : Int) : V3 := if c < 0 then zV else if (row.length : Int) ≤ c then zV else row.getD c.toNat zV
theorem res80 (N : Nat) (W : World) (v : V3) (tmps : Array Value) (h4 : tmps.getD 4 undef = .pointer (some ⟨N, 0, none⟩)) (hb : W.heap[N]? = some (vO v)) :
    (results Try.f80 tmps).run Try.prog W = .ok (.agg #[.int .i64 v.k, .int .i64 v.n, .string v.s]) W := by
  have hr : Try.f80.results = #[.cell 4 45] := rfl
  have x0 : W.cell? ⟨N, 0, none⟩ = some (.int .i64 v.k) := by unfold World.cell?; simp only [hb]; rfl
  have x1 : W.cell? ⟨N, 1, none⟩ = some (.int .i64 v.n) := by unfold World.cell?; simp only [hb]; rfl
  have x2 : W.cell? ⟨N, 2, none⟩ = some (.string v.s) := by unfold World.cell?; simp only [hb]; rfl
  have u := Try.underlying45
  simp only [results, hr]
  rw [Array.getD_eq_getD_getElem?] at h4
  simp [Sem.run_bind, Result.andThen, h4]
  go_simp
set_option maxRecDepth 100000 in
set_option maxHeartbeats 2000000 in
theorem at_ok (ra : Option Addr) (rn rc : Nat) (row : List V3) (c : Int) (W : World) (h : Cont W ⟨ra, rn, rc⟩ row) (hn : rn ≤ 1000) :
    Calls Try.prog 80 #[.slice ra rn rc, .int .i64 c] W fun e W' => e = .returned (.agg #[.int .i64 (atR row c).k, .int .i64 (atR row c).n, .string (atR row c).s]) ∧ Below W.heap.size W W' := by
  have hl : row.length = rn := h.len
  unfold atR
  rw [hl]
  by_cases h1 : c < 0
  · rw [if_pos h1]
    have hd : decide (c < 0) = true := by simpa using h1
    clear h hl
    go_enter Try.func80, Try.ntmps80
    go_wp2
    refine bodyPost_ret (res80 W.heap.size _ zV _ rfl (World.alloc_heap_new W _)) rfl ?_
    exact ⟨rfl, below_new _⟩
  · rw [if_neg h1]
    have hd : decide (c < 0) = false := by simpa using h1
    by_cases h2 : (rn : Int) ≤ c
    · rw [if_pos h2]
      have hd2 : decide ((rn : Int) ≤ c) = true := by simpa using h2
      clear h hl
      go_enter Try.func80, Try.ntmps80
      go_wp2
      refine bodyPost_ret (res80 W.heap.size _ zV _ rfl (World.alloc_heap_new W _)) rfl ?_
      exact ⟨rfl, below_new _⟩
    · rw [if_neg h2]
      have hd2 : decide ((rn : Int) ≤ c) = false := by simpa using h2
      obtain ⟨k, rfl⟩ := Int.eq_ofNat_of_zero_le (show 0 ≤ c by omega)
      have hk : k < rn := by omega
      rw [Int.toNat_natCast]
      obtain ⟨v, hv⟩ : ∃ v, row[k]? = some v := ⟨row[k]'(by omega), List.getElem?_eq_getElem _⟩
      have hg : row.getD k zV = v := by rw [List.getD_eq_getElem?_getD, hv]; rfl
      rw [hg]
      rcases h with ⟨h, _⟩ | ⟨b, off, hae, _, hblt, hcs⟩
      · have : rn = 0 := h
        omega
      · replace hae : ra = some ⟨b, off, none⟩ := hae
        subst hae
        obtain ⟨f1, f2, f3⟩ := flat_at row k v hv
        have hc : ∀ (o : Obj) (a : Addr), a.block = b → (W.alloc o).cell? a = W.cell? a := fun o a ha => cell_of_block' (by rw [ha]; exact Below.heap_alloc W o b hblt)
        have x1 := fun o => (hc o ⟨b, _, none⟩ rfl).trans (hcs _ _ f1)
        have x2 := fun o => (hc o ⟨b, _, none⟩ rfl).trans (hcs _ _ f2)
        have x3 := fun o => (hc o ⟨b, _, none⟩ rfl).trans (hcs _ _ f3)
        rw [Nat.mul_comm 3 k] at x1 x2 x3
        simp only [← Nat.add_assoc] at x2 x3
        clear hv f1 f2 f3 hcs hc hg hl h1 h2
        go_enter Try.func80, Try.ntmps80
        go_wp2
        refine bodyPost_ret (res80 W.heap.size _ v _ rfl (World.alloc_heap_new W _)) rfl ?_
        exact ⟨rfl, below_new _⟩
end Go.Proofs.Ytghpjlohoehdnaa.Sep

/-! value.CompareRows, walked. No condition beyond those that each theorem names. -/
namespace Go.Proofs.Ytghpjlohoehdnaa.Sep
open Go Go.RowKit Go.Shelf
set_option linter.unusedVariables false
set_option linter.unusedSimpArgs false
/-- an order: columns, each up or down -/
abbrev Order := List (Int × Bool)
def Ord (W : World) (sv : Value) (by_ : Order) : Prop :=
  (∃ a c, sv = .slice a 0 c ∧ by_ = []) ∨ ∃ b off c, sv = .slice (some ⟨b, off, none⟩) by_.length c ∧ b < W.heap.size ∧ ∀ j p, by_[j]? = some p → W.cell? ⟨b, off + j * 2, none⟩ = some (.int .i64 p.1) ∧ W.cell? ⟨b, off + j * 2 + 1, none⟩ = some (.bool p.2)
theorem Ord.below {W W' : World} {sv : Value} {by_ : Order} (hb : Below W.heap.size W W') : Ord W sv by_ → Ord W' sv by_
  | .inl h => .inl h
  | .inr ⟨b, off, c, h1, h2, h3⟩ => .inr ⟨b, off, c, h1, Nat.lt_of_lt_of_le h2 hb.size, fun j p hp => ⟨(cell_of_block (hb.block b h2) _).trans (h3 j p hp).1, (cell_of_block (hb.block b h2) _).trans (h3 j p hp).2⟩⟩
def oneR (a b : List V3) (s : Int × Bool) : Int := cmpV (atR a s.1) (atR b s.1)
/-- which of two rows stands first -/
def cmpR (a b : List V3) : Order → Int
  | [] => 0
  | s :: t => if oneR a b s = 0 then cmpR a b t else if s.2 then wrap64 (-oneR a b s) else oneR a b s
theorem held2 {W3 w : World} {A : Nat} {x y : Value} (hA : W3.cell? ⟨A, 0, none⟩ = some x) (hB : W3.cell? ⟨A, 1, none⟩ = some y) (h : Below W3.heap.size W3 w) :
    w.cell? ⟨A, 0, none⟩ = some x ∧ w.cell? ⟨A, 1, none⟩ = some y ∧ Aside0 (Below W3.heap.size W3 w) :=
  ⟨(cell_of_block (h.block A (cell_lt hA)) _).trans hA, (cell_of_block (h.block A (cell_lt hA)) _).trans hB, ⟨h⟩⟩
theorem box2 (W : World) (x y : Value) (T : TypeId) : (W.alloc (.cells #[x, y] T)).cell? ⟨W.heap.size, 0, none⟩ = some x ∧ (W.alloc (.cells #[x, y] T)).cell? ⟨W.heap.size, 1, none⟩ = some y := by
  have hb : (W.alloc (.cells #[x, y] T)).heap[W.heap.size]? = some (.cells #[x, y] T) := World.alloc_heap_new W _
  constructor <;> (unfold World.cell?; simp only [hb]; rfl)
set_option maxHeartbeats 1000000 in
theorem cmpR_nil (aa ab ao : Option Addr) (na ca nb cb co : Nat) (W : World) :
    Calls Try.prog 64 #[.slice aa na ca, .slice ab nb cb, .slice ao 0 co] W fun e W' => e = .returned (.int .i64 0) ∧ Below W.heap.size W W' := by
  go_enter Try.func64, Try.ntmps64
  go_wp2
  go_loopw [13] (fun i wr => i = .int .i64 0 ∧ wr = W) (fun _ _ => 0)
  case atStart => exact ⟨rfl, rfl⟩
  case round =>
    obtain ⟨rfl, rfl⟩ := hrel
    go_wp2
    refine bodyPost_ret (results_tmp rfl _ _ _) rfl ?_
    exact ⟨rfl, Below.refl _ _⟩
set_option maxRecDepth 100000 in
set_option maxHeartbeats 8000000 in
theorem cmpR_some (aa ab : Option Addr) (na ca nb cb b off co : Nat) (ra rb : List V3) (by_ : Order) (W : World) (ha : Cont W ⟨aa, na, ca⟩ ra) (hb : Cont W ⟨ab, nb, cb⟩ rb) (hna : na ≤ 1000) (hnb : nb ≤ 1000) (hby : by_.length ≤ 1000)
    (hbl : b < W.heap.size) (ho : ∀ j p, by_[j]? = some p → W.cell? ⟨b, off + j * 2, none⟩ = some (.int .i64 p.1) ∧ W.cell? ⟨b, off + j * 2 + 1, none⟩ = some (.bool p.2)) :
    Calls Try.prog 64 #[.slice aa na ca, .slice ab nb cb, .slice (some ⟨b, off, none⟩) by_.length co] W fun e W' => e = .returned (.int .i64 (cmpR ra rb by_)) ∧ Below W.heap.size W W' := by
  have hmx : Try.prog.follows .mixedOrders = true := by kernel_rfl
  have HA := Aside0.mk (And.intro ha hb)
  have HO := Aside0.mk ho
  clear ha hb ho
  go_enter Try.func64, Try.ntmps64
  go_wp2
  go_loopw [13] (fun i wr => ∃ j : Nat, j ≤ by_.length ∧ i = .int .i64 j ∧ Aside0 (Below W.heap.size W wr) ∧ Aside0 (cmpR ra rb by_ = cmpR ra rb (by_.drop j))) (fun i _ => by_.length - (intOf i).toNat)
  case atStart => exact ⟨0, Nat.zero_le _, rfl, ⟨Below.refl _ _⟩, ⟨rfl⟩⟩
  case round =>
    obtain ⟨j, hj, rfl, HB, HE⟩ := hrel
    by_cases hlt : j < by_.length
    · obtain ⟨p, hp⟩ : ∃ p, by_[j]? = some p := ⟨by_[j], List.getElem?_eq_getElem hlt⟩
      have hd : by_.drop j = p :: by_.drop (j + 1) := by rw [List.drop_eq_getElem_cons hlt]; congr 1; exact Option.some.inj ((List.getElem?_eq_getElem hlt).symm.trans hp)
      obtain ⟨x0, x1⟩ := HO.out j p hp
      replace x0 := (cell_of_block (HB.out.block b hbl) _).trans x0
      replace x1 := (cell_of_block (HB.out.block b hbl) _).trans x1
      have HN := Aside0.mk (show cmpR ra rb by_ = if oneR ra rb p = 0 then cmpR ra rb (by_.drop (j + 1)) else if p.2 then wrap64 (-oneR ra rb p) else oneR ra rb p from by rw [HE.out, hd, cmpR])
      obtain ⟨pc, pd⟩ := p
      dsimp only at x0 x1
      clear hd hp
      go_upto_region 5 with fail
      obtain ⟨y0, y1⟩ := box2 wr (.int .i64 pc) (.bool pd) 41
      have hbw : Below W.heap.size W (wr.alloc (.cells #[.int .i64 pc, .bool pd] 41)) := HB.out.alloc HB.out.size _
      generalize hWB : wr.heap.size = Bx at y0 y1 ⊢
      generalize wr.alloc (.cells #[.int .i64 pc, .bool pd] 41) = W2 at y0 y1 hbw ⊢
      have HY := Aside0.mk (And.intro y0 y1)
      have H2 := Aside0.mk hbw
      have HC := Aside0.mk (fun (w : World) (k : Below W2.heap.size W2 w) => And.intro (HA.out.1.below (below_step hbw k hbw.size)) (HA.out.2.below (below_step hbw k hbw.size)))
      clear y0 y1 hbw x0 x1 hWB
      go_region_held3 (fun w' => w'.cell? ⟨Bx, 0, none⟩ = some (.int .i64 pc) ∧ w'.cell? ⟨Bx, 1, none⟩ = some (.bool pd) ∧ Aside0 (Below W2.heap.size W2 w'))
        (first | assumption | exact held2 HY.out.1 HY.out.2 (Still.drew W2).below | exact held2 HY.out.1 HY.out.2 HB3.out | exact held2 HY.out.1 HY.out.2 HB4.out | exact held2 HY.out.1 HY.out.2 HB5.out | fail)
        (first
          | (go_at_call_of 80 (Value.slice aa na ca); refine (at_ok aa na ca ra pc _ (HC.out _ (Still.drew W2).below).1 hna).mono ?_; rintro e w3 ⟨rfl, hb3⟩; have HB3 := Aside0.mk (below_step (Still.drew W2).below hb3 (Nat.le_refl _)); clear hb3)
          | (go_at_call_of 80 (Value.slice ab nb cb); refine (at_ok ab nb cb rb pc _ (HC.out _ HB3.out).2 hnb).mono ?_; rintro e w4 ⟨rfl, hb4⟩; have HB4 := Aside0.mk (below_step HB3.out hb4 HB3.out.size); clear hb4)
          | (go_at_call 81; refine (cmpV_ok (atR ra pc) (atR rb pc) _).mono ?_; rintro e w5 ⟨rfl, hb5⟩; have HB5 := Aside0.mk (below_step HB4.out hb5 HB4.out.size); clear hb5))
      have HN2 := Aside0.mk (show cmpR ra rb by_ = if cmpV (atR ra pc) (atR rb pc) = 0 then cmpR ra rb (by_.drop (j + 1)) else if pd then wrap64 (-cmpV (atR ra pc) (atR rb pc)) else cmpV (atR ra pc) (atR rb pc) from HN.out)
      have HBF := Aside0.mk (below_step H2.out HB5.out H2.out.size)
      obtain ⟨cv, hcv⟩ : ∃ cv, cmpV (atR ra pc) (atR rb pc) = cv := ⟨_, rfl⟩
      rw [hcv] at HN2 ⊢
      clear hcv HN
      have hb0 := HY.out.1
      have c1 := (cell_of_block (HB5.out.block Bx (cell_lt HY.out.1)) 1).trans HY.out.2
      clear hb0
      by_cases hz : cv = 0
      · subst hz
        go_wp2
        go_roundw
        case rel => exact ⟨j + 1, by omega, by simp, HBF, ⟨HN2.out.trans (if_pos rfl)⟩⟩
        case measure => simp [intOf]; omega
      · have hz' : (cv == 0) = false := by simpa using hz
        have HN3 := Aside0.mk (HN2.out.trans (if_neg hz))
        clear HN2
        cases pd with
        | true =>
          go_wp2
          refine bodyPost_ret (results_tmp rfl _ _ _) rfl ?_
          exact ⟨by rw [HN3.out]; rfl, HBF.out⟩
        | false =>
          go_wp2
          refine bodyPost_ret (results_tmp rfl _ _ _) rfl ?_
          exact ⟨by rw [HN3.out]; rfl, HBF.out⟩
    · obtain rfl : j = by_.length := by omega
      have HF := Aside0.mk (show cmpR ra rb by_ = 0 from by rw [HE.out, List.drop_length]; rfl)
      go_wp2
      refine bodyPost_ret (results_tmp rfl _ _ _) rfl ?_
      exact ⟨by rw [HF.out]; rfl, HB.out⟩
/-- COMPAREROWS. -/
theorem cmpR_ok (aa ab : Option Addr) (na ca nb cb : Nat) (so : Value) (ra rb : List V3) (by_ : Order) (W : World) (ha : Cont W ⟨aa, na, ca⟩ ra) (hb : Cont W ⟨ab, nb, cb⟩ rb) (hna : na ≤ 1000) (hnb : nb ≤ 1000) (hby : by_.length ≤ 1000) (ho : Ord W so by_) :
    Calls Try.prog 64 #[.slice aa na ca, .slice ab nb cb, so] W fun e W' => e = .returned (.int .i64 (cmpR ra rb by_)) ∧ Below W.heap.size W W' := by
  rcases ho with ⟨a, c, rfl, rfl⟩ | ⟨b, off, c, rfl, h1, h2⟩
  · exact cmpR_nil aa ab a na ca nb cb c W
  · exact cmpR_some aa ab na ca nb cb b off c ra rb by_ W ha hb hna hnb hby h1 h2
end Go.Proofs.Ytghpjlohoehdnaa.Sep

/-! slices.insertionSortCmpFunc over rows, walked. No condition beyond those that each theorem names. -/
namespace Go.Proofs.Ytghpjlohoehdnaa.Sep
open Go Go.RowKit Go.Shelf
set_option linter.unusedVariables false
set_option linter.unusedSimpArgs false
/-- a row as the machine holds it, and its values -/
abbrev It2 := RV × List V3
def zI : It2 := (RV.nil, [])
/-- block g holds the rows its, and behind them spare -/
def RowB (W : World) (g : Nat) (its : List It2) (spare : List Value) : Prop := W.heap[g]? = some (.cells ((its.map fun i => RV.v i.1) ++ spare).toArray 48)
/-- but for block g and what is new, W' is W -/
structure Near (g : Nat) (W W' : World) : Prop where
  os : W'.os = W.os
  tape : W'.tape = W.tape
  output : W'.output = W.output
  size : W.heap.size ≤ W'.heap.size
  block : ∀ j, j < W.heap.size → j ≠ g → W'.heap[j]? = W.heap[j]?
theorem Near.refl (g : Nat) (W : World) : Near g W W := ⟨rfl, rfl, rfl, Nat.le_refl _, fun _ _ _ => rfl⟩
theorem Near.trans {g : Nat} {A B C : World} (h : Near g A B) (k : Near g B C) : Near g A C :=
  ⟨k.os.trans h.os, k.tape.trans h.tape, k.output.trans h.output, Nat.le_trans h.size k.size, fun j hj hg => (k.block j (Nat.lt_of_lt_of_le hj h.size) hg).trans (h.block j hj hg)⟩
theorem below_near {g : Nat} {W W' : World} (h : Below W.heap.size W W') : Near g W W' := ⟨h.os, h.tape, h.output, h.size, fun j hj _ => h.block j hj⟩
theorem RowB.lt {W : World} {g : Nat} {its : List It2} {spare : List Value} (h : RowB W g its spare) : g < W.heap.size := (Array.getElem?_eq_some_iff.1 h).1
theorem RowB.below {W W' : World} {g : Nat} {its : List It2} {spare : List Value} (h : RowB W g its spare) (hb : Below W.heap.size W W') : RowB W' g its spare := (hb.block g h.lt).trans h
theorem RowB.cell {W : World} {g : Nat} {its : List It2} {spare : List Value} (h : RowB W g its spare) {j : Nat} {i : It2} (hj : its[j]? = some i) : W.cell? ⟨g, j, none⟩ = some (RV.v i.1) := by
  unfold World.cell?
  have hb : W.heap[g]? = some (.cells ((its.map fun i => RV.v i.1) ++ spare).toArray 48) := h
  simp only [hb]
  have hl := (List.getElem?_eq_some_iff.1 hj).1
  have hj2 : its[j] = i := (List.getElem?_eq_some_iff.1 hj).2
  simp [List.getElem?_append_left, hl, hj2]
theorem RowB.frozen {W : World} {g : Nat} {its : List It2} {spare : List Value} (h : RowB W g its spare) (j : Nat) : W.frozen? ⟨g, j, none⟩ = false := by
  unfold World.frozen?
  have hb : W.heap[g]? = some (.cells ((its.map fun i => RV.v i.1) ++ spare).toArray 48) := h
  simp [hb]
theorem RowB.set {W : World} {g : Nat} {its : List It2} {spare : List Value} (h : RowB W g its spare) {j : Nat} (i : It2) (hj : j < its.length) : RowB (W.setCell ⟨g, j, none⟩ (RV.v i.1)) g (its.set j i) spare := by
  have hb : W.heap[g]? = some (.cells ((its.map fun i => RV.v i.1) ++ spare).toArray 48) := h
  unfold RowB
  simp only [World.setCell, Array.getElem?_modify]
  rw [if_pos trivial, hb]
  simp [List.set_append_left, hj]
theorem near_set {g : Nat} (W : World) (j : Nat) (v : Value) : Near g W (W.setCell ⟨g, j, none⟩ v) := ⟨rfl, rfl, rfl, by rw [size_setCell]; exact Nat.le_refl _, fun k _ hk => Below.heap_setCell _ _ _ k hk⟩
/-- an element is moved down as long as it stands before the one ahead -/
def sink (c : List V3 → List V3 → Int) (a : Nat) : Nat → List It2 → List It2
  | 0, l => l
  | j + 1, l => if a < j + 1 ∧ c ((l[j + 1]?.getD zI).2) ((l[j]?.getD zI).2) < 0 then sink c a j ((l.set (j + 1) (l[j]?.getD zI)).set j (l[j + 1]?.getD zI)) else l
/-- those from a on, the first n of them in order -/
def isort (c : List V3 → List V3 → Int) (a : Nat) : Nat → List It2 → List It2
  | 0, l => l
  | n + 1, l => sink c a (a + n) (isort c a n l)
theorem sink_len (c : List V3 → List V3 → Int) (a : Nat) : ∀ (j : Nat) (l : List It2), (sink c a j l).length = l.length
  | 0, _ => rfl
  | j + 1, l => by
    rw [sink]
    split
    · rw [sink_len c a j]; simp
    · rfl
theorem isort_len (c : List V3 → List V3 → Int) (a : Nat) : ∀ (n : Nat) (l : List It2), (isort c a n l).length = l.length
  | 0, _ => rfl
  | n + 1, l => by rw [isort, sink_len, isort_len c a n]
theorem sink_at (c : List V3 → List V3 → Int) (a : Nat) (l : List It2) : sink c a a l = l := by
  cases a with
  | zero => rfl
  | succ a => rw [sink, if_neg (by omega)]
theorem isort_one (c : List V3 → List V3 → Int) (a : Nat) (l : List It2) : isort c a 1 l = l := sink_at c a l
theorem RowB.near2 {W W' : World} {g : Nat} {its : List It2} {spare : List Value} (h : RowB W g its spare) (hb : Below W.heap.size W W') : RowB W' g its spare ∧ Near g W W' := ⟨h.below hb, below_near hb⟩
/-- the comparison that a sort is handed: it answers c of two rows, wherever all but block g lies as in W -/
def CmpFn (W : World) (g : Nat) (its : List It2) (c : List V3 → List V3 → Int) (recv : Value) : Prop :=
  ∀ (w : World), Near g W w → ∀ x ∈ its, ∀ y ∈ its, Calls Try.prog 51 #[recv, RV.v x.1, RV.v y.1] w fun e w' => e = .returned (.int .i64 (c x.2 y.2)) ∧ Below w.heap.size w w'
theorem heldG {W3 w : World} {g : Nat} {its : List It2} {spare : List Value} {j k : Nat} {x y : It2} (h : RowB W3 g its spare) (hx : its[j]? = some x) (hy : its[k]? = some y) (hb : Below W3.heap.size W3 w) :
    w.cell? ⟨g, j, none⟩ = some (RV.v x.1) ∧ w.cell? ⟨g, k, none⟩ = some (RV.v y.1) ∧ Aside0 (Below W3.heap.size W3 w) :=
  ⟨(h.below hb).cell hx, (h.below hb).cell hy, ⟨hb⟩⟩
theorem set_mem2 {l : List It2} {a b : It2} {i j : Nat} (ha : a ∈ l) (hb : b ∈ l) : ∀ x ∈ (l.set i a).set j b, x ∈ l := fun x hx => by
  rcases List.mem_or_eq_of_mem_set hx with h | h
  · rcases List.mem_or_eq_of_mem_set h with h | h
    · exact h
    · rw [h]; exact ha
  · rw [h]; exact hb
theorem getD_mem {l : List It2} {i : Nat} (h : i < l.length) : l[i]?.getD zI ∈ l := by
  rw [List.getElem?_eq_getElem h]; exact List.getElem_mem h
theorem sink_mem (c : List V3 → List V3 → Int) (a : Nat) : ∀ (j : Nat) (l : List It2), j < l.length → ∀ x ∈ sink c a j l, x ∈ l
  | 0, _, _, x, h => h
  | j + 1, l, hj, x, h => by
    rw [sink] at h
    split at h
    · exact set_mem2 (getD_mem (by omega)) (getD_mem hj) x (sink_mem c a j _ (by simp; omega) x h)
    · exact h
theorem isort_mem (c : List V3 → List V3 → Int) (a : Nat) : ∀ (n : Nat) (l : List It2), a + n ≤ l.length → ∀ x ∈ isort c a n l, x ∈ l
  | 0, _, _, x, h => h
  | n + 1, l, hl, x, h => by
    rw [isort] at h
    exact isort_mem c a n l (by omega) x (sink_mem c a _ _ (by rw [isort_len]; omega) x h)
theorem rowB_drewN {W : World} {g : Nat} {its : List It2} {spare : List Value} (h : RowB W g its spare) (n : Nat) : RowB (W.drewN n) g its spare := h
theorem near_drewN {g : Nat} {W W' : World} (h : Near g W W') (n : Nat) : Near g W (W'.drewN n) := ⟨h.os, h.tape, h.output, h.size, h.block⟩
set_option maxRecDepth 100000 in
set_option maxHeartbeats 8000000 in
theorem isort_ok (g cap a b : Nat) (its : List It2) (spare : List Value) (c : List V3 → List V3 → Int) (S : Nat) (W : World) (hab : a ≤ b) (hbn : b ≤ its.length) (hn : its.length ≤ 100000) (hR : RowB W g its spare) (hC : CmpFn W g its c (.pointer (some ⟨S, 0, none⟩))) :
    Calls Try.prog 85 #[.slice (some ⟨g, 0, none⟩) its.length cap, .int .i64 a, .int .i64 b, .func (.func 51) #[.pointer (some ⟨S, 0, none⟩)] #[]] W fun e W' => e = .returned (.tuple #[]) ∧ RowB W' g (isort c a (b - a) its) spare ∧ Near g W W' := by
  have hmx : Try.prog.follows .mixedOrders = true := by kernel_rfl
  have HR := Aside0.mk hR
  have HC := Aside0.mk hC
  clear hR hC
  go_enter Try.func85, Try.ntmps85
  go_wp2
  go_loopw [8] (fun v8 wr => ∃ k : Nat, 1 ≤ k ∧ (k ≤ b - a ∨ k = 1) ∧ v8 = .int .i64 ((a + k : Nat) : Int) ∧ Aside0 (RowB wr g (isort c a k its) spare) ∧ Aside0 (Near g W wr)) (fun v8 _ => b + 1 - (intOf v8).toNat)
  case atStart => exact ⟨1, Nat.le_refl _, .inr rfl, by simp, ⟨by rw [isort_one]; exact HR.out⟩, ⟨Near.refl g W⟩⟩
  case round =>
    obtain ⟨k, hk1, hk, rfl, HB, HN⟩ := hrel
    by_cases hlt : a + k < b
    · have hcast : ((a + k : Nat) : Int) < (b : Int) := by omega
      have hlen := isort_len c a k its
      obtain ⟨m0, hm0⟩ : ∃ m0, isort c a k its = m0 := ⟨_, rfl⟩
      have HT := Aside0.mk (show isort c a (k + 1) its = sink c a (a + k) m0 from by rw [isort, hm0])
      have HMem := Aside0.mk (show ∀ x ∈ m0, x ∈ its from by rw [← hm0]; exact isort_mem c a k its (by omega))
      rw [hm0] at HB hlen
      have HL := Aside0.mk hlen
      clear hm0 hlen
      obtain ⟨i, hi⟩ : ∃ i, a + k = i := ⟨_, rfl⟩
      have HI := Aside0.mk (And.intro hi (And.intro hk1 (And.intro hk hlt)))
      rw [hi] at HT hcast ⊢
      have hai : a < i := by omega
      have hib : i < b := by omega
      clear hi hk1 hk hlt
      go_wp2
      go_loopw [9] (fun v9 w2 => ∃ (j : Nat) (m : List It2), a ≤ j ∧ j ≤ i ∧ v9 = .int .i64 (j : Int) ∧ Aside0 (RowB w2 g m spare) ∧ Aside0 (Near g W w2) ∧ Aside0 (sink c a j m = sink c a i m0 ∧ m.length = its.length ∧ ∀ x ∈ m, x ∈ its)) (fun v9 _ => (intOf v9).toNat)
      case atStart => exact ⟨i, m0, Nat.le_of_lt hai, Nat.le_refl _, rfl, HB, HN, ⟨rfl, HL.out, HMem.out⟩⟩
      case round =>
        obtain ⟨j, m, haj, hji, rfl, HB2, HN2, HS⟩ := hrel
        by_cases hlt2 : a < j
        · obtain ⟨j', hj'⟩ : ∃ j', j = j' + 1 := ⟨j - 1, by omega⟩
          have hcast2 : ((a : Nat) : Int) < ((j : Nat) : Int) := by omega
          have hd : decide ((a : Int) < (j : Int)) = true := by simp; omega
          have hjl : j < its.length := by omega
          have hj1 : IntKind.i64.wrap ((j : Int) - 1) = (j' : Int) := by rw [IntKind.wrap_i64]; omega
          have hj'l : j' < its.length := by omega
          have HJ := Aside0.mk hj'
          have HJ2 := Aside0.mk (And.intro haj hji)
          have HX : Aside0 (∃ x y : It2, m[j]? = some x ∧ m[j']? = some y) := ⟨⟨m[j]'(by have := HS.out.2.1; omega), m[j']'(by have := HS.out.2.1; omega), List.getElem?_eq_getElem _, List.getElem?_eq_getElem _⟩⟩
          obtain ⟨x, y, hx, hy⟩ := HX.out
          have HX := Aside0.mk (And.intro hx hy)
          have HMx := Aside0.mk (And.intro (HS.out.2.2 x (List.mem_of_getElem? hx)) (HS.out.2.2 y (List.mem_of_getElem? hy)))
          clear hx hy hlt2 haj hji hj'
          go_upto_region 4 with fail
          go_region_held3 (fun w' => w'.cell? ⟨g, j, none⟩ = some (RV.v x.1) ∧ w'.cell? ⟨g, j', none⟩ = some (RV.v y.1) ∧ Aside0 (Below wr.heap.size wr w'))
            (first | assumption | exact heldG HB2.out HX.out.1 HX.out.2 (Still.drew wr).below | exact heldG HB2.out HX.out.1 HX.out.2 HB3.out | fail)
            (first | (go_at_call 51; refine (HC.out _ (HN2.out.trans (below_near (Still.drew wr).below)) x HMx.out.1 y HMx.out.2).mono ?_; rintro e w3 ⟨rfl, hb3⟩; have HB3 := Aside0.mk (below_step (Still.drew wr).below hb3 (Nat.le_refl _)); clear hb3))
          have HB4 := Aside0.mk (HB2.out.below HB3.out)
          have HN4 := Aside0.mk (HN2.out.trans (below_near HB3.out))
          obtain ⟨cv, hcv⟩ : ∃ cv, c x.2 y.2 = cv := ⟨_, rfl⟩
          have HE := Aside0.mk (show sink c a j m = if c x.2 y.2 < 0 then sink c a j' ((m.set (j' + 1) y).set j' x) else m from by
            have h1 := HX.out.1
            have h2 := HX.out.2
            rw [HJ.out] at h1 ⊢
            rw [sink, h1, h2]
            have : a < j' + 1 := by have := HJ2.out; have := HJ.out; omega
            simp only [Option.getD_some, this, true_and])
          rw [hcv] at HE ⊢
          obtain ⟨q, hq⟩ : ∃ q, decide (cv < 0) = q := ⟨_, rfl⟩
          rw [hq]
          have HQ := Aside0.mk hq
          clear hcv hq
          cases q with
          | true =>
            have HE2 := Aside0.mk (HE.out.trans (if_pos (of_decide_eq_true HQ.out)))
            have cj := HB4.out.cell HX.out.1
            have cj' := HB4.out.cell HX.out.2
            have fj := HB4.out.frozen j
            have fj' := HB4.out.frozen j'
            have hjm : j < m.length := by rw [HS.out.2.1]; exact hjl
            have hjm' : j' < m.length := by rw [HS.out.2.1]; exact hj'l
            have hset : (m.set j y)[j']? = some y := by rw [List.getElem?_set_ne (by have := HJ.out; omega)]; exact HX.out.2
            have HP := HB4.out.set y hjm
            have ks : (w3.setCell ⟨g, j, none⟩ (.slice y.1.a y.1.n y.1.c)).cell? ⟨g, j', none⟩ = some (RV.v y.1) := HP.cell hset
            have kf : (w3.setCell ⟨g, j, none⟩ (.slice y.1.a y.1.n y.1.c)).frozen? ⟨g, j', none⟩ = false := HP.frozen j'
            have HP2 := Aside0.mk (HP.set x (j := j') (by simpa using hjm'))
            have HN5 := Aside0.mk ((HN4.out.trans (near_set w3 j (RV.v y.1))).trans (near_set (w3.setCell ⟨g, j, none⟩ (RV.v y.1)) j' (RV.v x.1)))
            have HS2 := Aside0.mk (show ((m.set j y).set j' x).length = its.length ∧ ∀ z ∈ (m.set j y).set j' x, z ∈ its from ⟨by simpa using HS.out.2.1, fun z hz => HS.out.2.2 z (set_mem2 (List.mem_of_getElem? HX.out.2) (List.mem_of_getElem? HX.out.1) z hz)⟩)
            clear HE HQ HX HP hset hjm hjm'
            go_upto_region 6 with fail
            go_region
            go_wp2
            go_roundw
            case rel => exact ⟨j', (m.set j y).set j' x, by have := HJ.out; omega, by have := HJ2.out; have := HJ.out; omega, rfl, ⟨HP2.out⟩, ⟨near_drewN HN5.out 1⟩, ⟨by rw [← HS.out.1, HE2.out, ← HJ.out], HS2.out⟩⟩
            case measure => simp [intOf]; have := HJ.out; omega
          | false =>
            have HE2 := Aside0.mk (HE.out.trans (if_neg (of_decide_eq_false HQ.out)))
            clear HE HQ
            go_wp2
            go_roundw
            case rel => exact ⟨k + 1, by omega, .inl (by have := HI.out; omega), by rw [← HI.out.1]; rfl, ⟨by rw [HT.out, ← HS.out.1, HE2.out]; exact HB4.out⟩, HN4⟩
            case measure => simp [intOf]; have := HI.out; omega
        · have hja : Aside0 (j = a) := ⟨by omega⟩
          have hd : decide ((a : Int) < (j : Int)) = false := by simp; omega
          have hdn : decide (a < j) = false := by simp; omega
          clear hlt2 haj hji
          go_wp2
          go_quiet (fail)
          go_wp2
          go_roundw
          case rel => exact ⟨k + 1, by omega, .inl (by have := HI.out; omega), by rw [← HI.out.1]; rfl, ⟨by rw [HT.out, ← HS.out.1, hja.out, sink_at]; exact rowB_drewN HB2.out _⟩, ⟨near_drewN HN2.out _⟩⟩
          case measure => simp [intOf]; have := HI.out; omega
    · have hcast : decide (((a + k : Nat) : Int) < (b : Int)) = false := by simp; omega
      have HF := Aside0.mk (show isort c a k its = isort c a (b - a) its from by
        rcases hk with h | h
        · rw [show k = b - a by omega]
        · subst h
          by_cases hba : b = a
          · rw [hba, Nat.sub_self]; exact isort_one c a its
          · rw [show b - a = 1 by omega])
      rw [HF.out] at HB
      clear hk
      go_wp2
      go_end0
      exact ⟨rfl, HB.out, HN.out⟩
end Go.Proofs.Ytghpjlohoehdnaa.Sep

/-! The Sorter's compare, slices.stableCmpFunc over few rows, SortStableFunc, walked. No condition beyond those that each theorem names. -/
namespace Go.Proofs.Ytghpjlohoehdnaa.Sep
open Go Go.RowKit Go.Shelf
set_option linter.unusedVariables false
set_option linter.unusedSimpArgs false
theorem held1 {W3 w : World} {A : Nat} {x : Value} (hA : W3.cell? ⟨A, 0, none⟩ = some x) (h : Below W3.heap.size W3 w) :
    w.cell? ⟨A, 0, none⟩ = some x ∧ Aside0 (Below W3.heap.size W3 w) :=
  ⟨(cell_of_block (h.block A (cell_lt hA)) _).trans hA, ⟨h⟩⟩
set_option maxRecDepth 100000 in
set_option maxHeartbeats 4000000 in
theorem compare_ok (S : Nat) (so : Value) (x y : RV) (rx ry : List V3) (by_ : Order) (W : World) (hS : W.cell? ⟨S, 0, none⟩ = some so) (ho : Ord W so by_) (hx : Cont W x rx) (hy : Cont W y ry) (hnx : x.n ≤ 1000) (hny : y.n ≤ 1000) (hby : by_.length ≤ 1000) :
    Calls Try.prog 51 #[.pointer (some ⟨S, 0, none⟩), .slice x.a x.n x.c, .slice y.a y.n y.c] W fun e W' => e = .returned (.int .i64 (cmpR rx ry by_)) ∧ Below W.heap.size W W' := by
  have hmx : Try.prog.follows .mixedOrders = true := by kernel_rfl
  have HC := Aside0.mk (fun (w : World) (k : Below W.heap.size W w) => And.intro (hx.below k) (And.intro (hy.below k) (ho.below k)))
  have HS := Aside0.mk hS
  have HN := Aside0.mk (And.intro hnx (And.intro hny hby))
  clear hx hy ho hnx hny hby
  go_enter Try.func51, Try.ntmps51
  go_wp2_with (first | (go_at_call 64; refine (cmpR_ok x.a y.a x.n x.c y.n y.c so rx ry by_ _ (HC.out _ (Below.refl _ _)).1 (HC.out _ (Below.refl _ _)).2.1 HN.out.1 HN.out.2.1 HN.out.2.2 (HC.out _ (Below.refl _ _)).2.2).mono ?_; rintro e w3 ⟨rfl, hb3⟩; have HB3 := Aside0.mk hb3; clear hb3))
  refine bodyPost_ret (results_tmp rfl _ _ _) rfl ?_
  exact ⟨rfl, HB3.out⟩
/-- no value of the spare ones is anything but a slice -/
def Sl (l : List Value) : Prop := ∀ v ∈ l, ∃ a n c, v = .slice a n c
theorem RowB.ne {W : World} {g : Nat} {its : List It2} {spare : List Value} (h : RowB W g its spare) (hs : Sl spare) {b j : Nat} {v : Value} (hc : W.cell? ⟨b, j, none⟩ = some v) (hv : ∀ a n c, v ≠ .slice a n c) : b ≠ g := by
  rintro rfl
  have hb : W.heap[b]? = some (.cells ((its.map fun i => RV.v i.1) ++ spare).toArray 48) := h
  unfold World.cell? at hc
  simp only [hb] at hc
  have hc2 : (((its.map fun i => RV.v i.1) ++ spare))[j]? = some v := by simpa using hc
  rcases List.mem_append.1 (List.mem_of_getElem? hc2) with hm | hm
  · obtain ⟨i, _, rfl⟩ := List.mem_map.1 hm
    exact hv _ _ _ rfl
  · obtain ⟨a, n, c, rfl⟩ := hs v hm
    exact hv _ _ _ rfl
theorem Near.cell {g : Nat} {W w : World} (hn : Near g W w) {b j : Nat} {v : Value} (hc : W.cell? ⟨b, j, none⟩ = some v) (hg : b ≠ g) : w.cell? ⟨b, j, none⟩ = some v :=
  (cell_of_block (hn.block b (cell_lt hc) hg) _).trans hc
theorem Ord.near {W w : World} {g : Nat} {its : List It2} {spare : List Value} {so : Value} {by_ : Order} (h : RowB W g its spare) (hs : Sl spare) (hn : Near g W w) : Ord W so by_ → Ord w so by_
  | .inl h => .inl h
  | .inr ⟨b, off, c, h1, h2, h3⟩ => .inr ⟨b, off, c, h1, Nat.lt_of_lt_of_le h2 hn.size, fun j p hp => ⟨hn.cell (h3 j p hp).1 (h.ne hs (h3 j p hp).1 (by intros; simp)), hn.cell (h3 j p hp).2 (h.ne hs (h3 j p hp).2 (by intros; simp))⟩⟩
theorem flat_slice {row : List V3} : ∀ v ∈ flat row, ∀ a n c, v ≠ Value.slice a n c := by
  induction row with
  | nil => intro v hv; cases hv
  | cons u l ih =>
    intro v hv a n c
    simp [flat] at hv
    rcases hv with h | h | h | h
    · rw [h]; simp
    · rw [h]; simp
    · rw [h]; simp
    · exact ih v (by simpa [flat] using h) a n c
theorem cont_near {W w : World} {g : Nat} {its : List It2} {spare : List Value} {r : RV} {row : List V3} (h : RowB W g its spare) (hs : Sl spare) (hn : Near g W w) : Cont W r row → Cont w r row
  | .inl h => .inl h
  | .inr ⟨b, off, e, hl, hlt, hc⟩ => .inr ⟨b, off, e, hl, Nat.lt_of_lt_of_le hlt hn.size, fun j u hu => hn.cell (hc j u hu) (h.ne hs (hc j u hu) (flat_slice u (List.mem_of_getElem? hu)))⟩
/-- what a sort's comparison wants: the Sorter's order, the rows' contents -/
structure CmpW (W : World) (S : Nat) (so : Value) (by_ : Order) (its : List It2) : Prop where
  cell : W.cell? ⟨S, 0, none⟩ = some so
  one : ∃ k, W.cell? ⟨S, 1, none⟩ = some (.int .i64 k)
  ord : Ord W so by_
  short : by_.length ≤ 1000
  rows : ∀ i ∈ its, Cont W i.1 i.2 ∧ i.1.n ≤ 1000
theorem CmpW.near {W w : World} {S g : Nat} {so : Value} {by_ : Order} {its its' : List It2} {spare : List Value} (c : CmpW W S so by_ its') (h : RowB W g its spare) (hs : Sl spare) (hn : Near g W w) : CmpW w S so by_ its' := by
  obtain ⟨k, hk⟩ := c.one
  have hg : S ≠ g := h.ne hs hk (by intros; simp)
  exact ⟨hn.cell c.cell hg, ⟨k, hn.cell hk hg⟩, c.ord.near h hs hn, c.short, fun i hi => ⟨cont_near h hs hn (c.rows i hi).1, (c.rows i hi).2⟩⟩
theorem CmpW.fn {W : World} {S g : Nat} {so : Value} {by_ : Order} {its : List It2} {spare : List Value} (c : CmpW W S so by_ its) (h : RowB W g its spare) (hs : Sl spare) : CmpFn W g its (fun a b => cmpR a b by_) (.pointer (some ⟨S, 0, none⟩)) := by
  intro w hn x hx y hy
  have k := c.near h hs hn
  exact compare_ok S so x.1 y.1 x.2 y.2 by_ w k.cell k.ord (k.rows x hx).1 (k.rows y hy).1 (k.rows x hx).2 (k.rows y hy).2 k.short
set_option maxRecDepth 100000 in
set_option maxHeartbeats 4000000 in
theorem stable_ok (g cap : Nat) (its : List It2) (spare : List Value) (c : List V3 → List V3 → Int) (S : Nat) (W : World) (hn : its.length ≤ 19) (hR : RowB W g its spare) (hC : CmpFn W g its c (.pointer (some ⟨S, 0, none⟩))) :
    Calls Try.prog 74 #[.slice (some ⟨g, 0, none⟩) its.length cap, .int .i64 its.length, .func (.func 51) #[.pointer (some ⟨S, 0, none⟩)] #[]] W fun e W' => e = .returned (.tuple #[]) ∧ RowB W' g (isort c 0 its.length its) spare ∧ Near g W W' := by
  have hmx : Try.prog.follows .mixedOrders = true := by kernel_rfl
  have HR := Aside0.mk hR
  have HC := Aside0.mk hC
  clear hR hC
  obtain ⟨n, hN⟩ : ∃ n, its.length = n := ⟨_, rfl⟩
  have HN := Aside0.mk hN
  rw [hN] at hn ⊢
  clear hN
  have h1 : decide (20 ≤ (n : Int)) = false := by simp; omega
  have h2 : decide (20 < (n : Int)) = false := by simp; omega
  have h3 : decide (20 ≤ n) = false := by simp; omega
  have h4 : decide (20 < n) = false := by simp; omega
  have HI := Aside0.mk (show ∀ w, Near g W w → RowB w g its spare → Calls Try.prog 85 #[.slice (some ⟨g, 0, none⟩) n cap, .int .i64 0, .int .i64 n, .func (.func 51) #[.pointer (some ⟨S, 0, none⟩)] #[]] w fun e W' => e = .returned (.tuple #[]) ∧ RowB W' g (isort c 0 n its) spare ∧ Near g w W' from by
    intro w hw hb
    have := isort_ok g cap 0 n its spare c S w (Nat.zero_le _) (by rw [HN.out]; exact Nat.le_refl _) (by rw [HN.out]; omega) hb (fun w2 h2 => HC.out w2 (hw.trans h2))
    rw [HN.out] at this
    simpa using this)
  go_enter Try.func74, Try.ntmps74
  go_wp2
  go_loopw [7, 8] (fun v7 v8 wr => v7 = .int .i64 0 ∧ v8 = .int .i64 20 ∧ wr = W) (fun _ _ _ => 0)
  case atStart => exact ⟨rfl, rfl, rfl⟩
  case round =>
    obtain ⟨rfl, rfl, rfl⟩ := hrel
    go_wp2_with (first | (go_at_call 85; refine (HI.out _ (Near.refl g wr) HR.out).mono ?_; rintro e w3 ⟨rfl, hb, hn3⟩; have HB3 := Aside0.mk hb; have HN3 := Aside0.mk hn3; clear hb hn3))
    go_loopw [6, 7, 8] (fun v6 v7 v8 w4 => v6 = .int .i64 20 ∧ v7 = .int .i64 0 ∧ v8 = .int .i64 20 ∧ w4 = w3) (fun _ _ _ _ => 0)
    case atStart => exact ⟨rfl, rfl, rfl, rfl⟩
    case round =>
      obtain ⟨rfl, rfl, rfl, rfl⟩ := hrel
      go_wp2
      go_end0
      exact ⟨rfl, HB3.out, HN3.out⟩
set_option maxHeartbeats 4000000 in
theorem sortStable_ok (g cap : Nat) (its : List It2) (spare : List Value) (c : List V3 → List V3 → Int) (S : Nat) (W : World) (hn : its.length ≤ 19) (hR : RowB W g its spare) (hC : CmpFn W g its c (.pointer (some ⟨S, 0, none⟩))) :
    Calls Try.prog 50 #[.slice (some ⟨g, 0, none⟩) its.length cap, .func (.func 51) #[.pointer (some ⟨S, 0, none⟩)] #[]] W fun e W' => e = .returned (.tuple #[]) ∧ RowB W' g (isort c 0 its.length its) spare ∧ Near g W W' := by
  have hmx : Try.prog.follows .mixedOrders = true := by kernel_rfl
  have HI := Aside0.mk (stable_ok g cap its spare c S W hn hR hC)
  obtain ⟨n, hN⟩ : ∃ n, its.length = n := ⟨_, rfl⟩
  rw [hN] at HI ⊢
  clear hn hR hC hN
  go_enter Try.func50, Try.ntmps50
  go_wp2_with (first | (go_at_call 74; refine HI.out.mono ?_; rintro e w3 ⟨rfl, hb, hn3⟩; have HB3 := Aside0.mk hb; have HN3 := Aside0.mk hn3; clear hb hn3))
  go_end0
  exact ⟨rfl, HB3.out, HN3.out⟩
set_option maxRecDepth 100000 in
set_option maxHeartbeats 4000000 in
/-- no element: nothing happens -/
theorem isort_nil (a : Option Addr) (cap : Nat) (f : Value) (W : World) :
    Calls Try.prog 85 #[.slice a 0 cap, .int .i64 0, .int .i64 0, f] W fun e W' => e = .returned (.tuple #[]) ∧ W' = W := by
  go_enter Try.func85, Try.ntmps85
  go_wp2
  go_loopw [8] (fun v8 wr => v8 = .int .i64 1 ∧ wr = W) (fun _ _ => 0)
  case atStart => exact ⟨rfl, rfl⟩
  case round =>
    obtain ⟨rfl, rfl⟩ := hrel
    go_wp2
    go_end0
    exact ⟨rfl, rfl⟩
set_option maxRecDepth 100000 in
set_option maxHeartbeats 4000000 in
theorem stable_nil (a : Option Addr) (cap : Nat) (f : Value) (W : World) :
    Calls Try.prog 74 #[.slice a 0 cap, .int .i64 0, f] W fun e W' => e = .returned (.tuple #[]) ∧ W' = W := by
  go_enter Try.func74, Try.ntmps74
  go_wp2
  go_loopw [7, 8] (fun v7 v8 wr => v7 = .int .i64 0 ∧ v8 = .int .i64 20 ∧ wr = W) (fun _ _ _ => 0)
  case atStart => exact ⟨rfl, rfl, rfl⟩
  case round =>
    obtain ⟨rfl, rfl, rfl⟩ := hrel
    go_wp2_with (first | (go_at_call 85; refine (isort_nil a cap f wr).mono ?_; rintro e w3 ⟨rfl, rfl⟩))
    go_loopw [6, 7, 8] (fun v6 v7 v8 w4 => v6 = .int .i64 20 ∧ v7 = .int .i64 0 ∧ v8 = .int .i64 20 ∧ w4 = w3) (fun _ _ _ _ => 0)
    case atStart => exact ⟨rfl, rfl, rfl, rfl⟩
    case round =>
      obtain ⟨rfl, rfl, rfl, rfl⟩ := hrel
      go_wp2
      go_end0
      exact ⟨rfl, rfl⟩
set_option maxHeartbeats 4000000 in
theorem sortStable_nil (a : Option Addr) (cap : Nat) (f : Value) (W : World) :
    Calls Try.prog 50 #[.slice a 0 cap, f] W fun e W' => e = .returned (.tuple #[]) ∧ W' = W := by
  go_enter Try.func50, Try.ntmps50
  go_wp2_with (first | (go_at_call 74; refine (stable_nil a cap f _).mono ?_; rintro e w3 ⟨rfl, rfl⟩))
  go_end0
  exact ⟨rfl, rfl⟩
end Go.Proofs.Ytghpjlohoehdnaa.Sep

/-! slices.Clone of an order, of rows, of runs, walked. No condition beyond those that each theorem names. -/
namespace Go.Proofs.Ytghpjlohoehdnaa.Sep
open Go Go.RowKit Go.Shelf
set_option linter.unusedVariables false
set_option linter.unusedSimpArgs false
theorem infoC46 : (Try.prog.info? 41).map (fun i => (i.zero, i.size, i.bytes)) = some (some (.agg #[.int .i64 0, .bool false]), 2, 16) := by kernel_rfl
set_option maxHeartbeats 2000000 in
set_option maxRecDepth 100000 in
theorem cl46_some (b off n c : Nat) (L : List Value) (w : World) (hz : L.length = 2 * n) (h1 : ∀ u ∈ L, u.oneCell' = true) (hbig : n * 16 ≤ 140737488355328) (hc : ∀ j u, L[j]? = some u → w.cell? ⟨b, off + j, none⟩ = some u) :
    Calls Try.prog 46 #[.slice (some ⟨b, off, none⟩) n c] w fun e w' => ∃ v', e = .returned v' ∧ w'.ownsRow w.heap.size 41 2 v' n L ∧ v' ≠ .slice none 0 0 ∧ Below w.heap.size w w' := by
  obtain ⟨i0, hi, hz0, hz1, hz2⟩ := info_parts infoC46
  have q42 : ∀ (w : World) (a : Option Addr) (n c n' c' : Nat), (binOp .eql 42 (.slice a n c) (.slice none n' c')).run Try.prog w = .ok (.bool a.isNone) w := fun w a n c n' c' => Lib.run_eql_slice_nil w _ _ a n c n' c' Try.underlying42
  have A : Aside (∀ j u, L[j]? = some u → w.cell? ⟨b, off + j, none⟩ = some u) := hc
  have HZ := Aside0.mk (And.intro hz h1)
  clear hc hz h1
  go_enter Try.func46, Try.ntmps46
  go_wp2_with (at_builtin; refine wpList_append_own _ rfl _ _ 42 rfl w.heap.size 41 i0 (.agg #[.int .i64 0, .bool false]) 2 16 Try.underlying42 hi hz0 hz1 hz2 rfl (by decide) _ _ _ rfl (World.ownsRow_made w #[] 0 (Nat.le_refl _) (Nat.zero_le _) rfl) ⟨b, off, none⟩ n c L rfl ?qc1 ?qc2 ?qc3 ?qc4 ?qc5 ?qc6 ?_)
  case qc1 => have := HZ.out.1; omega
  case qc2 =>
    intro j u hj
    rw [Addr.add_lit]
    exact Lib.cell?_alloc_some _ (A.out j u hj)
  case qc3 => exact HZ.out.2
  case qc4 => unfold maxLen; omega
  case qc5 => omega
  case qc6 => simp
  intro v' w1 hown hgrow hnil
  go_wp2
  go_ret
  refine ⟨v', rfl, by simpa using hown, ?_, ?_⟩
  · exact hnil
  · exact ((Below.refl _ w).alloc (Nat.le_refl _) _).grown hgrow (by simp) (by intro k hk; simp [Value.ownBlock] at hk; omega)
set_option maxHeartbeats 1000000 in
theorem cl46_none (n c : Nat) (w : World) : Calls Try.prog 46 #[.slice none n c] w fun e w' => e = .returned (.slice none 0 0) ∧ w' = w := by
  have q42 : ∀ (w : World) (a : Option Addr) (n c n' c' : Nat), (binOp .eql 42 (.slice a n c) (.slice none n' c')).run Try.prog w = .ok (.bool a.isNone) w := fun w a n c n' c' => Lib.run_eql_slice_nil w _ _ a n c n' c' Try.underlying42
  go_enter Try.func46, Try.ntmps46
  go_wp2
  go_ret
  exact ⟨rfl, rfl⟩
set_option maxHeartbeats 2000000 in
set_option maxRecDepth 100000 in
theorem cl46_zero (a : Addr) (c : Nat) (w : World) :
    Calls Try.prog 46 #[.slice (some a) 0 c] w fun e w' => ∃ v', e = .returned v' ∧ w'.ownsRow w.heap.size 41 2 v' 0 [] ∧ Below w.heap.size w w' := by
  obtain ⟨i0, hi, hz0, hz1, hz2⟩ := info_parts infoC46
  have q42 : ∀ (w : World) (a : Option Addr) (n c n' c' : Nat), (binOp .eql 42 (.slice a n c) (.slice none n' c')).run Try.prog w = .ok (.bool a.isNone) w := fun w a n c n' c' => Lib.run_eql_slice_nil w _ _ a n c n' c' Try.underlying42
  go_enter Try.func46, Try.ntmps46
  go_wp2_with (at_builtin; refine wpList_append_own _ rfl _ _ 42 rfl w.heap.size 41 i0 (.agg #[.int .i64 0, .bool false]) 2 16 Try.underlying42 hi hz0 hz1 hz2 rfl (by decide) _ _ _ rfl (World.ownsRow_made w #[] 0 (Nat.le_refl _) (Nat.zero_le _) rfl) a 0 c [] rfl ?qc1 ?qc2 ?qc3 ?qc4 ?qc5 ?qc6 ?_)
  case qc1 => rfl
  case qc2 =>
    intro j u hj
    simp at hj
  case qc3 =>
    intro u hu
    cases hu
  case qc4 => unfold maxLen; omega
  case qc5 => omega
  case qc6 => simp
  intro v' w1 hown hgrow hnil
  go_wp2
  go_ret
  refine ⟨v', rfl, by simpa using hown, ?_⟩
  exact ((Below.refl _ w).alloc (Nat.le_refl _) _).grown hgrow (by simp) (by intro k hk; simp [Value.ownBlock] at hk; omega)
theorem infoC49 : (Try.prog.info? 48).map (fun i => (i.zero, i.size, i.bytes)) = some (some (.slice none 0 0), 1, 24) := by kernel_rfl
set_option maxHeartbeats 2000000 in
set_option maxRecDepth 100000 in
theorem cl49_some (b off n c : Nat) (L : List Value) (w : World) (hz : L.length = 1 * n) (h1 : ∀ u ∈ L, u.oneCell' = true) (hbig : n * 24 ≤ 140737488355328) (hc : ∀ j u, L[j]? = some u → w.cell? ⟨b, off + j, none⟩ = some u) :
    Calls Try.prog 49 #[.slice (some ⟨b, off, none⟩) n c] w fun e w' => ∃ v', e = .returned v' ∧ w'.ownsRow w.heap.size 48 1 v' n L ∧ v' ≠ .slice none 0 0 ∧ Below w.heap.size w w' := by
  obtain ⟨i0, hi, hz0, hz1, hz2⟩ := info_parts infoC49
  have q22 : ∀ (w : World) (a : Option Addr) (n c n' c' : Nat), (binOp .eql 22 (.slice a n c) (.slice none n' c')).run Try.prog w = .ok (.bool a.isNone) w := fun w a n c n' c' => Lib.run_eql_slice_nil w _ _ a n c n' c' Try.underlying22
  have A : Aside (∀ j u, L[j]? = some u → w.cell? ⟨b, off + j, none⟩ = some u) := hc
  have HZ := Aside0.mk (And.intro hz h1)
  clear hc hz h1
  go_enter Try.func49, Try.ntmps49
  go_wp2_with (at_builtin; refine wpList_append_own _ rfl _ _ 22 rfl w.heap.size 48 i0 (.slice none 0 0) 1 24 Try.underlying22 hi hz0 hz1 hz2 rfl (by decide) _ _ _ rfl (World.ownsRow_made w #[] 0 (Nat.le_refl _) (Nat.zero_le _) rfl) ⟨b, off, none⟩ n c L rfl ?qc1 ?qc2 ?qc3 ?qc4 ?qc5 ?qc6 ?_)
  case qc1 => have := HZ.out.1; omega
  case qc2 =>
    intro j u hj
    rw [Addr.add_lit]
    exact Lib.cell?_alloc_some _ (A.out j u hj)
  case qc3 => exact HZ.out.2
  case qc4 => unfold maxLen; omega
  case qc5 => omega
  case qc6 => simp
  intro v' w1 hown hgrow hnil
  go_wp2
  go_ret
  refine ⟨v', rfl, by simpa using hown, ?_, ?_⟩
  · exact hnil
  · exact ((Below.refl _ w).alloc (Nat.le_refl _) _).grown hgrow (by simp) (by intro k hk; simp [Value.ownBlock] at hk; omega)
set_option maxHeartbeats 1000000 in
theorem cl49_none (n c : Nat) (w : World) : Calls Try.prog 49 #[.slice none n c] w fun e w' => e = .returned (.slice none 0 0) ∧ w' = w := by
  have q22 : ∀ (w : World) (a : Option Addr) (n c n' c' : Nat), (binOp .eql 22 (.slice a n c) (.slice none n' c')).run Try.prog w = .ok (.bool a.isNone) w := fun w a n c n' c' => Lib.run_eql_slice_nil w _ _ a n c n' c' Try.underlying22
  go_enter Try.func49, Try.ntmps49
  go_wp2
  go_ret
  exact ⟨rfl, rfl⟩
set_option maxHeartbeats 2000000 in
set_option maxRecDepth 100000 in
theorem cl49_zero (a : Addr) (c : Nat) (w : World) :
    Calls Try.prog 49 #[.slice (some a) 0 c] w fun e w' => ∃ v', e = .returned v' ∧ w'.ownsRow w.heap.size 48 1 v' 0 [] ∧ Below w.heap.size w w' := by
  obtain ⟨i0, hi, hz0, hz1, hz2⟩ := info_parts infoC49
  have q22 : ∀ (w : World) (a : Option Addr) (n c n' c' : Nat), (binOp .eql 22 (.slice a n c) (.slice none n' c')).run Try.prog w = .ok (.bool a.isNone) w := fun w a n c n' c' => Lib.run_eql_slice_nil w _ _ a n c n' c' Try.underlying22
  go_enter Try.func49, Try.ntmps49
  go_wp2_with (at_builtin; refine wpList_append_own _ rfl _ _ 22 rfl w.heap.size 48 i0 (.slice none 0 0) 1 24 Try.underlying22 hi hz0 hz1 hz2 rfl (by decide) _ _ _ rfl (World.ownsRow_made w #[] 0 (Nat.le_refl _) (Nat.zero_le _) rfl) a 0 c [] rfl ?qc1 ?qc2 ?qc3 ?qc4 ?qc5 ?qc6 ?_)
  case qc1 => rfl
  case qc2 =>
    intro j u hj
    simp at hj
  case qc3 =>
    intro u hu
    cases hu
  case qc4 => unfold maxLen; omega
  case qc5 => omega
  case qc6 => simp
  intro v' w1 hown hgrow hnil
  go_wp2
  go_ret
  refine ⟨v', rfl, by simpa using hown, ?_⟩
  exact ((Below.refl _ w).alloc (Nat.le_refl _) _).grown hgrow (by simp) (by intro k hk; simp [Value.ownBlock] at hk; omega)
theorem infoC53 : (Try.prog.info? 22).map (fun i => (i.zero, i.size, i.bytes)) = some (some (.slice none 0 0), 1, 24) := by kernel_rfl
set_option maxHeartbeats 2000000 in
set_option maxRecDepth 100000 in
theorem cl53_some (b off n c : Nat) (L : List Value) (w : World) (hz : L.length = 1 * n) (h1 : ∀ u ∈ L, u.oneCell' = true) (hbig : n * 24 ≤ 140737488355328) (hc : ∀ j u, L[j]? = some u → w.cell? ⟨b, off + j, none⟩ = some u) :
    Calls Try.prog 53 #[.slice (some ⟨b, off, none⟩) n c] w fun e w' => ∃ v', e = .returned v' ∧ w'.ownsRow w.heap.size 22 1 v' n L ∧ v' ≠ .slice none 0 0 ∧ Below w.heap.size w w' := by
  obtain ⟨i0, hi, hz0, hz1, hz2⟩ := info_parts infoC53
  have q64 : ∀ (w : World) (a : Option Addr) (n c n' c' : Nat), (binOp .eql 64 (.slice a n c) (.slice none n' c')).run Try.prog w = .ok (.bool a.isNone) w := fun w a n c n' c' => Lib.run_eql_slice_nil w _ _ a n c n' c' Try.underlying64
  have A : Aside (∀ j u, L[j]? = some u → w.cell? ⟨b, off + j, none⟩ = some u) := hc
  have HZ := Aside0.mk (And.intro hz h1)
  clear hc hz h1
  go_enter Try.func53, Try.ntmps53
  go_wp2_with (at_builtin; refine wpList_append_own _ rfl _ _ 64 rfl w.heap.size 22 i0 (.slice none 0 0) 1 24 Try.underlying64 hi hz0 hz1 hz2 rfl (by decide) _ _ _ rfl (World.ownsRow_made w #[] 0 (Nat.le_refl _) (Nat.zero_le _) rfl) ⟨b, off, none⟩ n c L rfl ?qc1 ?qc2 ?qc3 ?qc4 ?qc5 ?qc6 ?_)
  case qc1 => have := HZ.out.1; omega
  case qc2 =>
    intro j u hj
    rw [Addr.add_lit]
    exact Lib.cell?_alloc_some _ (A.out j u hj)
  case qc3 => exact HZ.out.2
  case qc4 => unfold maxLen; omega
  case qc5 => omega
  case qc6 => simp
  intro v' w1 hown hgrow hnil
  go_wp2
  go_ret
  refine ⟨v', rfl, by simpa using hown, ?_, ?_⟩
  · exact hnil
  · exact ((Below.refl _ w).alloc (Nat.le_refl _) _).grown hgrow (by simp) (by intro k hk; simp [Value.ownBlock] at hk; omega)
set_option maxHeartbeats 1000000 in
theorem cl53_none (n c : Nat) (w : World) : Calls Try.prog 53 #[.slice none n c] w fun e w' => e = .returned (.slice none 0 0) ∧ w' = w := by
  have q64 : ∀ (w : World) (a : Option Addr) (n c n' c' : Nat), (binOp .eql 64 (.slice a n c) (.slice none n' c')).run Try.prog w = .ok (.bool a.isNone) w := fun w a n c n' c' => Lib.run_eql_slice_nil w _ _ a n c n' c' Try.underlying64
  go_enter Try.func53, Try.ntmps53
  go_wp2
  go_ret
  exact ⟨rfl, rfl⟩
set_option maxHeartbeats 2000000 in
set_option maxRecDepth 100000 in
theorem cl53_zero (a : Addr) (c : Nat) (w : World) :
    Calls Try.prog 53 #[.slice (some a) 0 c] w fun e w' => ∃ v', e = .returned v' ∧ w'.ownsRow w.heap.size 22 1 v' 0 [] ∧ Below w.heap.size w w' := by
  obtain ⟨i0, hi, hz0, hz1, hz2⟩ := info_parts infoC53
  have q64 : ∀ (w : World) (a : Option Addr) (n c n' c' : Nat), (binOp .eql 64 (.slice a n c) (.slice none n' c')).run Try.prog w = .ok (.bool a.isNone) w := fun w a n c n' c' => Lib.run_eql_slice_nil w _ _ a n c n' c' Try.underlying64
  go_enter Try.func53, Try.ntmps53
  go_wp2_with (at_builtin; refine wpList_append_own _ rfl _ _ 64 rfl w.heap.size 22 i0 (.slice none 0 0) 1 24 Try.underlying64 hi hz0 hz1 hz2 rfl (by decide) _ _ _ rfl (World.ownsRow_made w #[] 0 (Nat.le_refl _) (Nat.zero_le _) rfl) a 0 c [] rfl ?qc1 ?qc2 ?qc3 ?qc4 ?qc5 ?qc6 ?_)
  case qc1 => rfl
  case qc2 =>
    intro j u hj
    simp at hj
  case qc3 =>
    intro u hu
    cases hu
  case qc4 => unfold maxLen; omega
  case qc5 => omega
  case qc6 => simp
  intro v' w1 hown hgrow hnil
  go_wp2
  go_ret
  refine ⟨v', rfl, by simpa using hown, ?_⟩
  exact ((Below.refl _ w).alloc (Nat.le_refl _) _).grown hgrow (by simp) (by intro k hk; simp [Value.ownBlock] at hk; omega)
end Go.Proofs.Ytghpjlohoehdnaa.Sep

/-! sort.New and given, walked. No condition beyond those that each theorem names. -/
namespace Go.Proofs.Ytghpjlohoehdnaa.Sep
open Go Go.RowKit Go.Shelf
set_option linter.unusedVariables false
set_option linter.unusedSimpArgs false
/-- an order's cells -/
def flatO : Order → List Value
  | [] => []
  | p :: t => .int .i64 p.1 :: .bool p.2 :: flatO t
theorem flatO_len : ∀ o : Order, (flatO o).length = 2 * o.length
  | [] => rfl
  | p :: t => by simp only [flatO, List.length_cons, flatO_len t]; omega
theorem flatO_one : ∀ o : Order, ∀ u ∈ flatO o, u.oneCell' = true
  | [], u, h => by cases h
  | p :: t, u, h => by
    simp only [flatO, List.mem_cons] at h
    rcases h with rfl | rfl | h
    · rfl
    · rfl
    · exact flatO_one t u h
theorem flatO_at : ∀ (o : Order) (j : Nat) (p : Int × Bool), o[j]? = some p → (flatO o)[j * 2]? = some (.int .i64 p.1) ∧ (flatO o)[j * 2 + 1]? = some (.bool p.2)
  | [], j, p, h => by cases h
  | q :: t, 0, p, h => by cases h; exact ⟨rfl, rfl⟩
  | q :: t, j + 1, p, h => by
    have := flatO_at t j p h
    rw [show (j + 1) * 2 = j * 2 + 2 by omega]
    exact this
theorem flatO_cell {w : World} {b off : Nat} : ∀ (o : Order), (∀ j p, o[j]? = some p → w.cell? ⟨b, off + j * 2, none⟩ = some (.int .i64 p.1) ∧ w.cell? ⟨b, off + j * 2 + 1, none⟩ = some (.bool p.2)) → ∀ j u, (flatO o)[j]? = some u → w.cell? ⟨b, off + j, none⟩ = some u := by
  intro o h j u hu
  have hj := (List.getElem?_eq_some_iff.1 hu).1
  rw [flatO_len] at hj
  have hk : o[j / 2]? = some o[j / 2] := List.getElem?_eq_getElem (by omega)
  have h1 := flatO_at o (j / 2) _ hk
  have h2 := h (j / 2) _ hk
  by_cases he : j % 2 = 0
  · have e : j / 2 * 2 = j := by omega
    rw [e] at h1 h2
    rw [h1.1] at hu
    rw [← Option.some.inj hu]
    exact h2.1
  · have e : j / 2 * 2 + 1 = j := by omega
    have e2 : off + j / 2 * 2 + 1 = off + j := by omega
    rw [e] at h1
    rw [e2] at h2
    rw [h1.2] at hu
    rw [← Option.some.inj hu]
    exact h2.2
theorem Ord.slice {W : World} {so : Value} {by_ : Order} : Ord W so by_ → ∃ a n c, so = .slice a n c
  | .inl ⟨a, c, h, _⟩ => ⟨_, _, _, h⟩
  | .inr ⟨b, off, c, h, _⟩ => ⟨_, _, _, h⟩
/-- slices.Clone of an order -/
theorem cl46_ok (so : Value) (by_ : Order) (w : World) (ho : Ord w so by_) (hby : by_.length ≤ 1000) :
    Calls Try.prog 46 #[so] w fun e w' => ∃ so', e = .returned so' ∧ Ord w' so' by_ ∧ Below w.heap.size w w' := by
  rcases ho with ⟨a, c, rfl, rfl⟩ | ⟨b, off, c, rfl, h1, h2⟩
  · cases a with
    | none =>
      refine (cl46_none 0 c w).mono ?_
      rintro e w' ⟨rfl, rfl⟩
      exact ⟨_, rfl, .inl ⟨none, 0, rfl, rfl⟩, Below.refl _ _⟩
    | some a =>
      refine (cl46_zero a c w).mono ?_
      rintro e w' ⟨v', rfl, hown, hb⟩
      rcases hown.2 with ⟨rfl, _⟩ | ⟨g, cap, cur, rfl, _⟩
      · exact ⟨_, rfl, .inl ⟨none, 0, rfl, rfl⟩, hb⟩
      · exact ⟨_, rfl, .inl ⟨some ⟨g, 0, none⟩, cap, rfl, rfl⟩, hb⟩
  · refine (cl46_some b off by_.length c (flatO by_) w (flatO_len by_) (flatO_one by_) (by omega) (flatO_cell by_ h2)).mono ?_
    rintro e w' ⟨v', rfl, hown, hne, hb⟩
    rcases hown.2 with ⟨rfl, _⟩ | ⟨g, cap, cur, rfl, hg, hgb, k1, k2, k3, k4⟩
    · exact absurd rfl hne
    · refine ⟨_, rfl, .inr ⟨g, 0, cap, rfl, (Array.getElem?_eq_some_iff.1 hgb).1, ?_⟩, hb⟩
      intro j p hp
      have hf := flatO_at by_ j p hp
      have hcell : ∀ i u, (flatO by_)[i]? = some u → w'.cell? ⟨g, i, none⟩ = some u := by
        intro i u hj
        rw [← k4] at hj
        have hj2 := (List.getElem?_eq_some_iff.1 hj).1
        rw [List.length_take] at hj2
        rw [List.getElem?_take_of_lt (by omega)] at hj
        rw [Array.getElem?_toList] at hj
        unfold World.cell?
        simp only [hgb]
        simpa using hj
      have e1 : (0 : Nat) + j * 2 = j * 2 := by omega
      rw [e1]
      exact ⟨hcell _ _ hf.1, hcell _ _ hf.2⟩
theorem alloc_new (W : World) (o : Obj) : (W.alloc o).heap[W.heap.size]? = some o := by
  show (W.heap.push o)[W.heap.size]? = some o
  exact Array.getElem?_push_size
set_option maxRecDepth 100000 in
set_option maxHeartbeats 4000000 in
/-- NEW: a sorter, of which nothing has been taken. -/
theorem new_ok (so : Value) (by_ : Order) (n : Nat) (w : World) (ho : Ord w so by_) (hby : by_.length ≤ 1000) (h2 : 2 ≤ n) (hn : n ≤ 65536) :
    Calls Try.prog 21 #[so, .int .i64 n] w fun e w' => ∃ S so', e = .returned (.tuple #[.pointer (some ⟨S, 0, none⟩), .int .i64 0]) ∧ w.heap.size ≤ S ∧ w'.heap[S]? = some (.cells #[so', .int .i64 n, .slice none 0 0, .slice none 0 0, .int .i64 0, .bool false] 66) ∧ Ord w' so' by_ ∧ Below w.heap.size w w' := by
  have hmx : Try.prog.follows .mixedOrders = true := by kernel_rfl
  have HC := Aside0.mk (cl46_ok so by_ w ho hby)
  clear ho hby
  have d1 : decide ((n : Int) < 2) = false := by simp; omega
  have d2 : decide ((65536 : Int) < (n : Int)) = false := by simp; omega
  have d3 : decide (n < 2) = false := by simp; omega
  have d4 : decide (65536 < n) = false := by simp; omega
  go_enter Try.func21, Try.ntmps21
  go_wp2_with (first | (go_at_call 46; refine HC.out.mono ?_; rintro e w3 ⟨so', rfl, ho3, hb3⟩; obtain ⟨oa, on, oc, rfl⟩ := ho3.slice; have HO3 := Aside0.mk ho3; have HB3 := Aside0.mk hb3; clear ho3 hb3))
  refine bodyPost_ret (results_tmp2 rfl _ _ _) rfl ?_
  have hb := HB3.out
  refine ⟨w3.heap.size, _, rfl, hb.size, ?_, HO3.out.below ((Below.refl _ w3).alloc (Nat.le_refl _) _), hb.alloc hb.size _⟩
  exact alloc_new _ _
end Go.Proofs.Ytghpjlohoehdnaa.Sep

/-! The Sorter's given, Runs, walked. No condition beyond those that each theorem names. -/
namespace Go.Proofs.Ytghpjlohoehdnaa.Sep
open Go Go.RowKit Go.Shelf
set_option linter.unusedVariables false
set_option linter.unusedSimpArgs false
set_option maxRecDepth 100000 in
set_option maxHeartbeats 4000000 in
theorem given_ok (S n : Nat) (w : World) (h : w.cell? ⟨S, 1, none⟩ = some (.int .i64 n)) (h0 : 0 < n) :
    Calls Try.prog 47 #[.pointer (some ⟨S, 0, none⟩)] w fun e w' => e = .returned (.bool true) ∧ w' = w := by
  have hmx : Try.prog.follows .mixedOrders = true := by kernel_rfl
  have d1 : decide ((0 : Int) < (n : Int)) = true := by simp; omega
  have d2 : (0 : Int) < (n : Int) := by omega
  go_enter Try.func47, Try.ntmps47
  go_wp2
  refine bodyPost_ret (results_tmp rfl _ _ _) rfl ?_
  exact ⟨rfl, rfl⟩
set_option maxRecDepth 100000 in
set_option maxHeartbeats 4000000 in
theorem merge_ok (S : Nat) (ra : Option Addr) (rn rc : Nat) (w : World) :
    Calls Try.prog 52 #[.pointer (some ⟨S, 0, none⟩), .slice ra rn rc] w fun e w' => e = .returned (.func (.func 75) #[] #[.pointer (some ⟨w.heap.size + 1, 0, none⟩), .pointer (some ⟨w.heap.size, 0, none⟩)]) ∧
      Boxed w' w.heap.size 37 (.pointer (some ⟨S, 0, none⟩)) ∧ Boxed w' (w.heap.size + 1) 64 (.slice ra rn rc) ∧ Below w.heap.size w w' := by
  have hmx : Try.prog.follows .mixedOrders = true := by kernel_rfl
  go_enter Try.func52, Try.ntmps52
  go_wp2
  refine bodyPost_ret (results_tmp rfl _ _ _) rfl ?_
  refine ⟨rfl, ?_, ?_, ((Below.refl _ w).alloc (Nat.le_refl _) _).alloc (by show w.heap.size ≤ (w.heap.push _).size; rw [Array.size_push]; exact Nat.le_succ _) _⟩
  · show ((w.heap.push _).push _)[w.heap.size]? = _
    rw [Array.getElem?_push_lt (by simp)]
    simp
  · show ((w.heap.push _).push _)[w.heap.size + 1]? = _
    have : w.heap.size + 1 = (w.heap.push (Obj.cells #[Value.pointer (some { block := S, off := 0 })] 37)).size := by simp
    rw [this]
    exact Array.getElem?_push_size
end Go.Proofs.Ytghpjlohoehdnaa.Sep

/-! Runs merged: what the iterator of merge hands over, as plain lists. No condition beyond those that each theorem names. -/
namespace Go.Proofs.Ytghpjlohoehdnaa.Sep
open Go Go.RowKit Go.Shelf
set_option linter.unusedVariables false
set_option linter.unusedSimpArgs false
/-- the first row of run k -/
def hdR (l : List (List It2)) (k : Nat) : It2 := ((l[k]?.getD []).head?).getD zI
/-- which of the first k runs has the row that comes next -/
def bestUp (c : List V3 → List V3 → Int) (l : List (List It2)) : Nat → Option Nat
  | 0 => none
  | k + 1 => match bestUp c l k with
    | none => if l[k]?.getD [] = [] then none else some k
    | some b => if l[k]?.getD [] ≠ [] ∧ c (hdR l k).2 (hdR l b).2 < 0 then some k else some b
def dropAt (l : List (List It2)) (b : Nat) : List (List It2) := l.set b (l[b]?.getD []).tail
/-- the first n rows of the runs together -/
def merged (c : List V3 → List V3 → Int) : Nat → List (List It2) → List It2
  | 0, _ => []
  | n + 1, l => match bestUp c l l.length with
    | none => []
    | some b => hdR l b :: merged c n (dropAt l b)
theorem bestUp_some {c : List V3 → List V3 → Int} {l : List (List It2)} : ∀ {k b : Nat}, bestUp c l k = some b → b < k ∧ l[b]?.getD [] ≠ []
  | 0, b, h => by cases h
  | k + 1, b, h => by
    rw [bestUp] at h
    cases hb : bestUp c l k with
    | none =>
      rw [hb] at h
      dsimp only at h
      split at h
      · cases h
      · rename_i hne
        cases h
        exact ⟨Nat.lt_succ_self _, hne⟩
    | some b' =>
      rw [hb] at h
      dsimp only at h
      have := bestUp_some hb
      split at h
      · rename_i hne
        cases h
        exact ⟨Nat.lt_succ_self _, hne.1⟩
      · cases h
        exact ⟨Nat.lt_succ_of_lt this.1, this.2⟩
theorem bestUp_none {c : List V3 → List V3 → Int} {l : List (List It2)} : ∀ {k : Nat}, bestUp c l k = none → ∀ j, j < k → l[j]?.getD [] = []
  | 0, h, j, hj => absurd hj (Nat.not_lt_zero _)
  | k + 1, h, j, hj => by
    rw [bestUp] at h
    cases hb : bestUp c l k with
    | none =>
      rw [hb] at h
      dsimp only at h
      split at h
      · rename_i he
        rcases Nat.lt_succ_iff_lt_or_eq.1 hj with h2 | h2
        · exact bestUp_none hb j h2
        · rw [h2]; exact he
      · cases h
    | some b' =>
      rw [hb] at h
      dsimp only at h
      split at h <;> cases h
theorem dropAt_perm {l : List (List It2)} {b : Nat} (hb : b < l.length) (hne : l[b]?.getD [] ≠ []) : (hdR l b :: (dropAt l b).flatten).Perm l.flatten := by
  obtain ⟨pre, x, post, rfl, hp⟩ : ∃ pre x post, l = pre ++ x :: post ∧ pre.length = b := ⟨l.take b, l[b], l.drop (b + 1), by simp, by simp; omega⟩
  subst hp
  unfold dropAt hdR at *
  simp only [List.getElem?_append_right (Nat.le_refl _), Nat.sub_self, List.getElem?_cons_zero, Option.getD_some] at *
  cases x with
  | nil => exact absurd rfl hne
  | cons y t =>
    simp only [List.head?_cons, Option.getD_some, List.tail_cons, List.set_append_right _ _ (Nat.le_refl _), Nat.sub_self, List.set_cons_zero, List.flatten_append, List.flatten_cons, List.cons_append]
    exact List.perm_middle.symm
theorem flatten_nil {l : List (List It2)} (h : ∀ j, j < l.length → l[j]?.getD [] = []) : l.flatten = [] := by
  rw [List.flatten_eq_nil_iff]
  intro x hx
  obtain ⟨j, hj, rfl⟩ := List.getElem_of_mem hx
  have := h j hj
  rwa [List.getElem?_eq_getElem hj, Option.getD_some] at this
/-- all rows come, each once -/
theorem merged_perm (c : List V3 → List V3 → Int) : ∀ (n : Nat) (l : List (List It2)), l.flatten.length = n → (merged c n l).Perm l.flatten
  | 0, l, h => by rw [List.eq_nil_of_length_eq_zero h]; exact List.Perm.refl _
  | n + 1, l, h => by
    rw [merged]
    cases hb : bestUp c l l.length with
    | none =>
      rw [flatten_nil (bestUp_none hb)] at h
      cases h
    | some b =>
      have hs := bestUp_some hb
      have hp := dropAt_perm hs.1 hs.2
      have hl : (dropAt l b).flatten.length = n := by
        have := hp.length_eq
        rw [h] at this
        simpa using this
      exact ((merged_perm c n _ hl).cons _).trans hp
end Go.Proofs.Ytghpjlohoehdnaa.Sep

/-! The order of rows: of any two one stands first or they are the same; and it is transitive. No condition beyond those that each theorem names. -/
namespace Go.Proofs.Ytghpjlohoehdnaa.Sep
open Go Go.RowKit Go.Shelf
set_option linter.unusedVariables false
set_option linter.unusedSimpArgs false
/-- a comparison that is an order -/
structure Cmp3 {α : Type} (f : α → α → Int) : Prop where
  rng : ∀ x y, f x y = -1 ∨ f x y = 0 ∨ f x y = 1
  anti : ∀ x y, f y x = - f x y
  trans : ∀ x y z, f x y ≤ 0 → f y z ≤ 0 → f x z ≤ 0
theorem Cmp3.pull {α β : Type} {f : α → α → Int} (h : Cmp3 f) (p : β → α) : Cmp3 fun x y => f (p x) (p y) := ⟨fun _ _ => h.rng _ _, fun _ _ => h.anti _ _, fun _ _ _ => h.trans _ _ _⟩
theorem Cmp3.neg {α : Type} {f : α → α → Int} (h : Cmp3 f) : Cmp3 fun x y => - f x y :=
  ⟨fun x y => by have := h.rng x y; omega, fun x y => by have := h.anti x y; omega, fun x y z h1 h2 => by
    have a1 := h.anti x y
    have a2 := h.anti y z
    have a3 := h.anti x z
    have := h.trans z y x (by omega) (by omega)
    omega⟩
theorem Cmp3.lex {α : Type} {f g : α → α → Int} (hf : Cmp3 f) (hg : Cmp3 g) : Cmp3 fun x y => if f x y ≠ 0 then f x y else g x y := by
  refine ⟨fun x y => ?_, fun x y => ?_, fun x y z h1 h2 => ?_⟩
  · split
    · exact hf.rng x y
    · exact hg.rng x y
  · have := hf.anti x y
    have := hg.anti x y
    split <;> split <;> omega
  · have a1 := hf.anti x y
    have a2 := hf.anti y z
    have a3 := hf.anti x z
    have f1 : f x y ≤ 0 := by split at h1 <;> omega
    have f2 : f y z ≤ 0 := by split at h2 <;> omega
    have f3 := hf.trans x y z f1 f2
    split
    · exact f3
    · rename_i h0
      have e1 : f x y = 0 := by
        have := hf.trans y z x f2 (by omega)
        omega
      have e2 : f y z = 0 := by
        have := hf.trans z x y (by omega) f1
        omega
      rw [if_neg (by omega)] at h1 h2
      exact hg.trans x y z h1 h2
theorem cmpI_ord : Cmp3 cmpI := by
  refine ⟨fun x y => ?_, fun x y => ?_, fun x y z => ?_⟩
  · unfold cmpI; split
    · omega
    · split <;> omega
  · unfold cmpI
    by_cases h1 : x < y
    · have h2 : ¬ y < x := by omega
      simp [h1, h2]
    · by_cases h2 : y < x <;> simp [h1, h2]
  · unfold cmpI
    intro h1 h2
    by_cases a : z < x
    · exfalso
      by_cases b : y < x
      · by_cases b2 : x < y
        · omega
        · simp [b, b2] at h1
      · have c : z < y := by omega
        have c2 : ¬ y < z := by omega
        simp [c, c2] at h2
    · by_cases b : x < z <;> simp [a, b]
theorem bytes_rng : ∀ x y, Lib.compareBytes x y = -1 ∨ Lib.compareBytes x y = 0 ∨ Lib.compareBytes x y = 1
  | [], [] => .inr (.inl rfl)
  | [], _ :: _ => .inl rfl
  | _ :: _, [] => .inr (.inr rfl)
  | a :: x, b :: y => by
    rw [Lib.compareBytes]
    split
    · exact .inl rfl
    · split
      · exact .inr (.inr rfl)
      · exact bytes_rng x y
theorem u8 (a b : UInt8) : (a < b) ↔ (a.toNat < b.toNat) := UInt8.lt_iff_toNat_lt
theorem bytes_anti : ∀ x y, Lib.compareBytes y x = - Lib.compareBytes x y
  | [], [] => rfl
  | [], _ :: _ => rfl
  | _ :: _, [] => rfl
  | a :: x, b :: y => by
    rw [Lib.compareBytes, Lib.compareBytes]
    by_cases h1 : a < b
    · have h2 : ¬ b < a := by rw [u8] at h1 ⊢; omega
      simp [h1, h2]
    · by_cases h2 : b < a
      · simp [h1, h2]
      · simp [h1, h2, bytes_anti x y]
theorem bytes_trans : ∀ x y z, Lib.compareBytes x y ≤ 0 → Lib.compareBytes y z ≤ 0 → Lib.compareBytes x z ≤ 0
  | [], _, [], _, _ => by decide
  | [], _, _ :: _, _, _ => by simp [Lib.compareBytes]
  | _ :: _, [], _, h, _ => by simp [Lib.compareBytes] at h
  | _ :: _, _ :: _, [], _, h => by simp [Lib.compareBytes] at h
  | a :: x, b :: y, d :: z, h1, h2 => by
    rw [Lib.compareBytes] at h1 h2 ⊢
    simp only [u8] at h1 h2 ⊢
    by_cases p1 : a.toNat < b.toNat
    · by_cases p2 : b.toNat < d.toNat
      · rw [if_pos (by omega)]; decide
      · rw [if_neg p2] at h2
        by_cases p3 : d.toNat < b.toNat
        · rw [if_pos p3] at h2; exact absurd h2 (by decide)
        · rw [if_pos (by omega)]; decide
    · rw [if_neg p1] at h1
      by_cases p3 : b.toNat < a.toNat
      · rw [if_pos p3] at h1; exact absurd h1 (by decide)
      · rw [if_neg p3] at h1
        by_cases p2 : b.toNat < d.toNat
        · rw [if_pos (by omega)]; decide
        · rw [if_neg p2] at h2
          by_cases p4 : d.toNat < b.toNat
          · rw [if_pos p4] at h2; exact absurd h2 (by decide)
          · rw [if_neg p4] at h2
            rw [if_neg (by omega), if_neg (by omega)]
            exact bytes_trans x y z h1 h2
theorem bytes_ord : Cmp3 Lib.compareBytes := ⟨bytes_rng, bytes_anti, bytes_trans⟩
theorem cmpV_ord : Cmp3 cmpV := by
  have h := (cmpI_ord.pull V3.k).lex ((cmpI_ord.pull V3.n).lex (bytes_ord.pull fun v => v.s.data.toList))
  have e : cmpV = fun x y => if cmpI x.k y.k ≠ 0 then cmpI x.k y.k else if cmpI x.n y.n ≠ 0 then cmpI x.n y.n else Lib.compareBytes x.s.data.toList y.s.data.toList := by
    funext x y
    rfl
  rw [e]
  exact h
theorem wrap_neg {x : Int} (h : x = -1 ∨ x = 0 ∨ x = 1) : wrap64 (-x) = -x := by
  unfold wrap64
  omega
theorem cmpR_ord : ∀ by_ : Order, Cmp3 fun a b => cmpR a b by_
  | [] => ⟨fun _ _ => .inr (.inl rfl), fun _ _ => rfl, fun _ _ _ _ _ => Int.le_refl _⟩
  | s :: t => by
    have h1 : Cmp3 fun a b => oneR a b s := cmpV_ord.pull fun r => atR r s.1
    have h2 := cmpR_ord t
    cases hs : s.2 with
    | false =>
      have h := h1.lex h2
      have e : (fun a b => cmpR a b (s :: t)) = fun a b => if oneR a b s ≠ 0 then oneR a b s else cmpR a b t := by
        funext a b
        rw [cmpR, hs]
        by_cases h0 : oneR a b s = 0 <;> simp [h0]
      rw [e]
      exact h
    | true =>
      have h := h1.neg.lex h2
      have e : (fun a b => cmpR a b (s :: t)) = fun a b => if -oneR a b s ≠ 0 then -oneR a b s else cmpR a b t := by
        funext a b
        rw [cmpR, hs]
        by_cases h0 : oneR a b s = 0
        · simp [h0]
        · simp [h0, wrap_neg (h1.rng a b)]
      rw [e]
      exact h
end Go.Proofs.Ytghpjlohoehdnaa.Sep

/-! Stable sorting: a list in order whose rows that are the same stand as they came is ONE list. No condition beyond those that each theorem names. -/
namespace Go.Proofs.Ytghpjlohoehdnaa.Sep
open Go Go.RowKit Go.Shelf
set_option linter.unusedVariables false
set_option linter.unusedSimpArgs false
/-- those that are the same as v stand in both lists alike -/
def SameAt {α : Type} (f : α → α → Int) (l m : List α) : Prop := ∀ v, l.filter (fun x => f x v == 0) = m.filter (fun x => f x v == 0)
def Srt {α : Type} (f : α → α → Int) (l : List α) : Prop := l.Pairwise fun x y => f x y ≤ 0
theorem Cmp3.refl {α : Type} {f : α → α → Int} (h : Cmp3 f) (x : α) : f x x = 0 := by have := h.anti x x; omega
theorem SameAt.mem {α : Type} {f : α → α → Int} (h : Cmp3 f) {l m : List α} (hs : SameAt f l m) {x : α} (hx : x ∈ l) : x ∈ m := by
  have h1 : x ∈ l.filter (fun y => f y x == 0) := List.mem_filter.2 ⟨hx, by simp [h.refl]⟩
  rw [hs x] at h1
  exact (List.mem_filter.1 h1).1
theorem SameAt.symm {α : Type} {f : α → α → Int} {l m : List α} (hs : SameAt f l m) : SameAt f m l := fun v => (hs v).symm
theorem SameAt.trans {α : Type} {f : α → α → Int} {l m n : List α} (hs : SameAt f l m) (ht : SameAt f m n) : SameAt f l n := fun v => (hs v).trans (ht v)
theorem Srt.head {α : Type} {f : α → α → Int} (h : Cmp3 f) {a : α} {t : List α} (hs : Srt f (a :: t)) : ∀ x ∈ a :: t, f a x ≤ 0 := by
  intro x hx
  rcases List.mem_cons.1 hx with rfl | hx
  · rw [h.refl]; exact Int.le_refl _
  · exact (List.pairwise_cons.1 hs).1 x hx
theorem srt_unique {α : Type} {f : α → α → Int} (h : Cmp3 f) : ∀ {l m : List α}, Srt f l → Srt f m → SameAt f l m → l = m
  | [], [], _, _, _ => rfl
  | [], b :: m, _, _, hs => absurd (hs.symm.mem h (List.mem_cons_self ..)) (by simp)
  | a :: l, [], _, _, hs => absurd (hs.mem h (List.mem_cons_self ..)) (by simp)
  | a :: l, b :: m, h1, h2, hs => by
    have e1 := Srt.head h h1 b (hs.symm.mem h (List.mem_cons_self ..))
    have e2 := Srt.head h h2 a (hs.mem h (List.mem_cons_self ..))
    have e3 := h.anti a b
    have e4 : f b a = 0 := by omega
    have hv := hs a
    rw [List.filter_cons, List.filter_cons, if_pos (by simp [h.refl]), if_pos (by simp [e4])] at hv
    injection hv with hab _
    subst hab
    rw [srt_unique h (List.pairwise_cons.1 h1).2 (List.pairwise_cons.1 h2).2 (fun v => by
      have := hs v
      rw [List.filter_cons, List.filter_cons] at this
      split at this
      · injection this
      · exact this)]
end Go.Proofs.Ytghpjlohoehdnaa.Sep

/-! Insertion, on lists turned round (the greatest first): in order, and stable. No condition beyond those that each theorem names. -/
namespace Go.Proofs.Ytghpjlohoehdnaa.Sep
open Go Go.RowKit Go.Shelf
set_option linter.unusedVariables false
set_option linter.unusedSimpArgs false
/-- x goes in behind those that stand behind it -/
def insD {α : Type} (f : α → α → Int) (x : α) : List α → List α
  | [] => [x]
  | y :: t => if f x y < 0 then y :: insD f x t else x :: y :: t
/-- in order, the greatest first -/
def SrtD {α : Type} (f : α → α → Int) (l : List α) : Prop := l.Pairwise fun x y => f y x ≤ 0
theorem insD_mem {α : Type} {f : α → α → Int} {x z : α} : ∀ {l : List α}, z ∈ insD f x l → z = x ∨ z ∈ l
  | [], h => by simpa [insD] using h
  | y :: t, h => by
    rw [insD] at h
    split at h
    · rcases List.mem_cons.1 h with rfl | h
      · exact .inr (List.mem_cons_self ..)
      · rcases insD_mem h with h | h
        · exact .inl h
        · exact .inr (List.mem_cons_of_mem _ h)
    · rcases List.mem_cons.1 h with rfl | h
      · exact .inl rfl
      · exact .inr h
theorem insD_srt {α : Type} {f : α → α → Int} (h : Cmp3 f) {x : α} : ∀ {l : List α}, SrtD f l → SrtD f (insD f x l)
  | [], _ => List.pairwise_singleton _ _
  | y :: t, hs => by
    rw [insD]
    have h1 := List.pairwise_cons.1 hs
    split
    · rename_i hlt
      refine List.pairwise_cons.2 ⟨fun z hz => ?_, insD_srt h h1.2⟩
      rcases insD_mem hz with rfl | hz
      · exact Int.le_of_lt hlt
      · exact h1.1 z hz
    · rename_i hlt
      have hyx : f y x ≤ 0 := by have := h.anti x y; omega
      refine List.pairwise_cons.2 ⟨fun z hz => ?_, hs⟩
      rcases List.mem_cons.1 hz with rfl | hz
      · exact hyx
      · exact h.trans _ _ _ (h1.1 z hz) hyx
theorem insD_same {α : Type} {f : α → α → Int} (h : Cmp3 f) {x : α} (v : α) : ∀ {l : List α}, (insD f x l).filter (fun z => f z v == 0) = (x :: l).filter (fun z => f z v == 0)
  | [] => rfl
  | y :: t => by
    rw [insD]
    split
    · rename_i hlt
      rw [List.filter_cons, insD_same h v, List.filter_cons, List.filter_cons, List.filter_cons]
      by_cases hx : f x v = 0
      · have hy : ¬ f y v = 0 := by
          intro hy
          have a1 := h.anti x v
          have a2 := h.anti x y
          have := h.trans y v x (by omega) (by omega)
          omega
        simp [hx, hy]
      · simp [hx]
    · rfl
end Go.Proofs.Ytghpjlohoehdnaa.Sep

/-! The insertion sort as insertions. No condition beyond those that each theorem names. -/
namespace Go.Proofs.Ytghpjlohoehdnaa.Sep
open Go Go.RowKit Go.Shelf
set_option linter.unusedVariables false
set_option linter.unusedSimpArgs false
abbrev on2 (c : List V3 → List V3 → Int) : It2 → It2 → Int := fun a b => c a.2 b.2
theorem sink_ins (c : List V3 → List V3 → Int) : ∀ (n : Nat) (p : List It2) (x : It2) (q : List It2), p.length = n → sink c 0 n (p ++ x :: q) = (insD (on2 c) x p.reverse).reverse ++ q
  | 0, p, x, q, h => by
    rw [List.eq_nil_of_length_eq_zero h]
    rfl
  | n + 1, p, x, q, h => by
    obtain ⟨p', y, rfl⟩ : ∃ p' y, p = p' ++ [y] := ⟨p.dropLast, p.getLast (by intro h0; rw [h0] at h; cases h), (List.dropLast_concat_getLast _).symm⟩
    have hl : p'.length = n := by simpa using h
    subst hl
    have e : p' ++ [y] ++ x :: q = p' ++ y :: x :: q := by simp
    rw [e, sink]
    have g1 : (p' ++ y :: x :: q)[p'.length + 1]? = some x := by
      rw [List.getElem?_append_right (by omega)]
      simp
    have g2 : (p' ++ y :: x :: q)[p'.length]? = some y := by
      rw [List.getElem?_append_right (Nat.le_refl _)]
      simp
    rw [g1, g2]
    simp only [Option.getD_some, Nat.zero_lt_succ, true_and, List.reverse_append, List.reverse_cons, List.reverse_nil, List.nil_append, List.cons_append]
    rw [insD]
    by_cases hc : c x.2 y.2 < 0
    · have hc2 : on2 c x y < 0 := hc
      rw [if_pos hc, if_pos hc2]
      have s1 : ((p' ++ y :: x :: q).set (p'.length + 1) y).set p'.length x = p' ++ x :: (y :: q) := by
        rw [List.set_append_right _ _ (by omega), List.set_append_right _ _ (Nat.le_refl _)]
        simp
      rw [s1, sink_ins c p'.length p' x (y :: q) rfl]
      simp
    · have hc2 : ¬ on2 c x y < 0 := hc
      rw [if_neg hc, if_neg hc2]
      simp
/-- the rows of l put in one after the other, the greatest first -/
def insAll {α : Type} (f : α → α → Int) (l : List α) : List α := l.foldl (fun r x => insD f x r) []
theorem isort_ins (c : List V3 → List V3 → Int) (l : List It2) : ∀ n, n ≤ l.length → isort c 0 n l = (insAll (on2 c) (l.take n)).reverse ++ l.drop n
  | 0, _ => by simp [isort, insAll]
  | n + 1, h => by
    rw [isort, isort_ins c l n (by omega), Nat.zero_add]
    have hd : l.drop n = l[n] :: l.drop (n + 1) := List.drop_eq_getElem_cons (by omega)
    have hlen : ∀ (m : List It2), (insAll (on2 c) m).length = m.length := by
      have hi : ∀ (x : It2) (r : List It2), (insD (on2 c) x r).length = r.length + 1 := by
        intro x r
        induction r with
        | nil => rfl
        | cons y t ih =>
          rw [insD]
          split
          · simp [ih]
          · rfl
      have hg : ∀ (m r : List It2), (m.foldl (fun r x => insD (on2 c) x r) r).length = r.length + m.length := by
        intro m
        induction m with
        | nil => intro r; simp
        | cons x t ih => intro r; rw [List.foldl_cons, ih, hi]; simp; omega
      intro m
      have := hg m []
      rw [List.length_nil, Nat.zero_add] at this
      exact this
    rw [hd, sink_ins c n _ _ _ (by rw [List.length_reverse, hlen, List.length_take]; omega), List.reverse_reverse]
    have ht : l.take (n + 1) = l.take n ++ [l[n]] := (List.take_append_getElem (by omega)).symm
    rw [ht]
    unfold insAll
    rw [List.foldl_append]
    rfl
theorem insAll_srt {α : Type} {f : α → α → Int} (h : Cmp3 f) (l : List α) : SrtD f (insAll f l) := by
  have : ∀ (m r : List α), SrtD f r → SrtD f (m.foldl (fun r x => insD f x r) r) := by
    intro m
    induction m with
    | nil => intro r hr; exact hr
    | cons x t ih => intro r hr; exact ih _ (insD_srt h hr)
  exact this l [] List.Pairwise.nil
theorem insAll_same {α : Type} {f : α → α → Int} (h : Cmp3 f) (l : List α) : SameAt f (insAll f l).reverse l := by
  intro v
  have : ∀ (m r : List α), (m.foldl (fun r x => insD f x r) r).filter (fun z => f z v == 0) = (m.reverse ++ r).filter (fun z => f z v == 0) := by
    intro m
    induction m with
    | nil => intro r; rfl
    | cons x t ih =>
      intro r
      rw [List.foldl_cons, ih, List.filter_append, insD_same h v]
      simp [List.filter_append]
  rw [List.filter_reverse]
  unfold insAll
  rw [this l [], List.append_nil, List.filter_reverse, List.reverse_reverse]
/-- INSERTION SORT: in order, and stable. -/
theorem isort_law (c : List V3 → List V3 → Int) (h : Cmp3 c) (l : List It2) : Srt (on2 c) (isort c 0 l.length l) ∧ SameAt (on2 c) (isort c 0 l.length l) l := by
  have h2 : Cmp3 (on2 c) := h.pull (fun i : It2 => i.2)
  rw [isort_ins c l l.length (Nat.le_refl _), List.take_length, List.drop_length, List.append_nil]
  exact ⟨List.pairwise_reverse.2 (insAll_srt h2 l), insAll_same h2 l⟩
end Go.Proofs.Ytghpjlohoehdnaa.Sep

/-! Runs merged are in order, and stable; the one stable order of a list of rows. No condition beyond those that each theorem names. -/
namespace Go.Proofs.Ytghpjlohoehdnaa.Sep
open Go Go.RowKit Go.Shelf
set_option linter.unusedVariables false
set_option linter.unusedSimpArgs false
theorem bestUp_le {c : List V3 → List V3 → Int} (h : Cmp3 c) {l : List (List It2)} : ∀ {k b : Nat}, bestUp c l k = some b →
    (∀ j, j < k → l[j]?.getD [] ≠ [] → c (hdR l b).2 (hdR l j).2 ≤ 0) ∧ (∀ j, j < b → l[j]?.getD [] ≠ [] → c (hdR l b).2 (hdR l j).2 < 0)
  | 0, b, hb => by cases hb
  | k + 1, b, hb => by
    rw [bestUp] at hb
    cases hq : bestUp c l k with
    | none =>
      rw [hq] at hb
      dsimp only at hb
      have hn := bestUp_none hq
      split at hb
      · cases hb
      · cases hb
        refine ⟨fun j hj hne => ?_, fun j hj hne => absurd (hn j hj) hne⟩
        rcases Nat.lt_succ_iff_lt_or_eq.1 hj with h2 | h2
        · exact absurd (hn j h2) hne
        · rw [h2, h.refl]; exact Int.le_refl _
    | some b' =>
      rw [hq] at hb
      dsimp only at hb
      obtain ⟨i1, i2⟩ := bestUp_le h hq
      have hs := bestUp_some hq
      split at hb
      · rename_i hc
        cases hb
        have a0 := h.anti (hdR l b').2 (hdR l k).2
        have step : ∀ j, j < k → l[j]?.getD [] ≠ [] → c (hdR l k).2 (hdR l j).2 < 0 := fun j hj hne => by
          have e1 := i1 j hj hne
          have e2 := h.trans _ _ _ (Int.le_of_lt hc.2) e1
          have a1 := h.anti (hdR l j).2 (hdR l k).2
          by_cases e3 : c (hdR l k).2 (hdR l j).2 = 0
          · have := h.trans _ _ _ e1 (show c (hdR l j).2 (hdR l k).2 ≤ 0 by omega)
            omega
          · omega
        refine ⟨fun j hj hne => ?_, step⟩
        rcases Nat.lt_succ_iff_lt_or_eq.1 hj with h2 | h2
        · exact Int.le_of_lt (step j h2 hne)
        · rw [h2, h.refl]; exact Int.le_refl _
      · rename_i hc
        cases hb
        refine ⟨fun j hj hne => ?_, i2⟩
        rcases Nat.lt_succ_iff_lt_or_eq.1 hj with h2 | h2
        · exact i1 j h2 hne
        · subst h2
          have a1 := h.anti (hdR l j).2 (hdR l b).2
          have : ¬ c (hdR l j).2 (hdR l b).2 < 0 := fun hlt => hc ⟨hne, hlt⟩
          omega
theorem hd_le {c : List V3 → List V3 → Int} (h : Cmp3 c) {r : List It2} (hs : Srt (on2 c) r) {x : It2} (hx : x ∈ r) : c ((r.head?).getD zI).2 x.2 ≤ 0 := by
  cases r with
  | nil => cases hx
  | cons y t => exact Srt.head (h.pull (fun i : It2 => i.2)) hs x hx
theorem flatten_at {l : List (List It2)} {x : It2} (hx : x ∈ l.flatten) : ∃ j, j < l.length ∧ x ∈ l[j]?.getD [] := by
  obtain ⟨r, hr, hxr⟩ := List.mem_flatten.1 hx
  obtain ⟨j, hj, rfl⟩ := List.getElem_of_mem hr
  exact ⟨j, hj, by rw [List.getElem?_eq_getElem hj]; exact hxr⟩
theorem srt_at {c : List V3 → List V3 → Int} {l : List (List It2)} (hs : ∀ r ∈ l, Srt (on2 c) r) (j : Nat) : Srt (on2 c) (l[j]?.getD []) := by
  cases hj : l[j]? with
  | none => exact List.Pairwise.nil
  | some r => exact hs r (List.mem_of_getElem? hj)
/-- RUNS MERGED: in order, and stable. -/
theorem merged_law (c : List V3 → List V3 → Int) (h : Cmp3 c) : ∀ (n : Nat) (l : List (List It2)), l.flatten.length = n → (∀ r ∈ l, Srt (on2 c) r) → Srt (on2 c) (merged c n l) ∧ SameAt (on2 c) (merged c n l) l.flatten
  | 0, l, hn, _ => by
    rw [List.eq_nil_of_length_eq_zero hn]
    exact ⟨List.Pairwise.nil, fun _ => rfl⟩
  | n + 1, l, hn, hs => by
    rw [merged]
    cases hb : bestUp c l l.length with
    | none => rw [flatten_nil (bestUp_none hb)] at hn; cases hn
    | some b =>
      dsimp only
      have hbs := bestUp_some hb
      have hp := dropAt_perm hbs.1 hbs.2
      have hl : (dropAt l b).flatten.length = n := by
        have := hp.length_eq
        rw [hn] at this
        simpa using this
      have hs2 : ∀ r ∈ dropAt l b, Srt (on2 c) r := fun r hr => by
        rcases List.mem_or_eq_of_mem_set hr with h1 | h1
        · exact hs r h1
        · rw [h1]
          exact (srt_at hs b).sublist (List.tail_sublist _)
      obtain ⟨i1, i2⟩ := merged_law c h n (dropAt l b) hl hs2
      obtain ⟨k1, k2⟩ := bestUp_le h hb
      have hle : ∀ x ∈ l.flatten, c (hdR l b).2 x.2 ≤ 0 := fun x hx => by
        obtain ⟨j, hj, hxj⟩ := flatten_at hx
        exact h.trans _ _ _ (k1 j hj (List.ne_nil_of_mem hxj)) (hd_le h (srt_at hs j) hxj)
      refine ⟨List.pairwise_cons.2 ⟨fun x hx => hle x (hp.mem_iff.1 (List.mem_cons_of_mem _ ((merged_perm c n _ hl).mem_iff.1 hx))), i1⟩, fun v => ?_⟩
      rw [List.filter_cons, i2 v]
      obtain ⟨pre, y, t, post, hl2, hpb⟩ : ∃ pre y t post, l = pre ++ (y :: t) :: post ∧ pre.length = b := by
        have hb1 := hbs.1
        have hne := hbs.2
        rw [List.getElem?_eq_getElem hb1, Option.getD_some] at hne
        obtain ⟨y, t, hyt⟩ := List.exists_cons_of_ne_nil hne
        refine ⟨l.take b, y, t, l.drop (b + 1), ?_, by simp; omega⟩
        rw [← hyt]
        simp
      have hd1 : hdR l b = y := by
        unfold hdR
        rw [hl2, ← hpb]
        simp
      have hd2 : dropAt l b = pre ++ t :: post := by
        unfold dropAt
        rw [hl2, ← hpb]
        simp
      rw [hd1, hd2]
      rw [hd1] at k2
      have hfl : l.flatten = pre.flatten ++ ((y :: t) ++ post.flatten) := by rw [hl2]; simp
      rw [hfl]
      simp only [List.flatten_append, List.flatten_cons, List.filter_append]
      by_cases hy : on2 c y v = 0
      · have hpre : pre.flatten.filter (fun x => on2 c x v == 0) = [] := by
          rw [List.filter_eq_nil_iff]
          intro x hx hxv
          have hxv : c x.2 v.2 = 0 := by simpa using hxv
          have hyv : c y.2 v.2 = 0 := hy
          obtain ⟨j, hj, hxj⟩ := flatten_at hx
          have hlj : l[j]?.getD [] = pre[j]?.getD [] := by rw [hl2, List.getElem?_append_left hj]
          have e1 := k2 j (by omega) (by rw [hlj]; exact List.ne_nil_of_mem hxj)
          have e2 := hd_le h (srt_at hs j) (by rw [hlj]; exact hxj)
          have e3 : c (hdR l j).2 x.2 ≤ 0 := e2
          have a1 := h.anti y.2 v.2
          have a2 := h.anti (hdR l j).2 y.2
          have e4 := h.trans x.2 v.2 y.2 (by omega) (by omega)
          have e5 := h.trans _ _ _ e3 e4
          omega
        rw [hpre]
        simp [hy]
      · simp [hy]
/-- THE stable order of rows -/
def stab (c : List V3 → List V3 → Int) (l : List (List V3)) : List (List V3) := (insAll c l).reverse
theorem stab_srt {c : List V3 → List V3 → Int} (h : Cmp3 c) (l : List (List V3)) : Srt c (stab c l) := List.pairwise_reverse.2 (insAll_srt h l)
theorem stab_same {c : List V3 → List V3 → Int} (h : Cmp3 c) (l : List (List V3)) : SameAt c (stab c l) l := insAll_same h l
theorem stab_uniq {c : List V3 → List V3 → Int} (h : Cmp3 c) {l m : List (List V3)} (h1 : Srt c m) (h2 : SameAt c m l) : m = stab c l := srt_unique h h1 (stab_srt h l) (h2.trans (stab_same h l).symm)
theorem srt_map {c : List V3 → List V3 → Int} {l : List It2} : Srt c (l.map Prod.snd) ↔ Srt (on2 c) l := by
  unfold Srt
  rw [List.pairwise_map]
theorem same_map {c : List V3 → List V3 → Int} {l m : List It2} (h : SameAt (on2 c) l m) : SameAt c (l.map Prod.snd) (m.map Prod.snd) := by
  intro v
  rw [List.filter_map, List.filter_map]
  exact congrArg (List.map Prod.snd) (h (RV.nil, v))
theorem isort_stab {c : List V3 → List V3 → Int} (h : Cmp3 c) (l : List It2) : (isort c 0 l.length l).map Prod.snd = stab c (l.map Prod.snd) := by
  obtain ⟨h1, h2⟩ := isort_law c h l
  exact stab_uniq h (srt_map.2 h1) (same_map h2)
theorem same_flatten {c : List V3 → List V3 → Int} (h : Cmp3 c) : ∀ ins : List (List (List V3)), SameAt c (ins.map (stab c)).flatten ins.flatten
  | [] => fun _ => rfl
  | x :: t => fun v => by
    rw [List.map_cons, List.flatten_cons, List.flatten_cons, List.filter_append, List.filter_append, stab_same h x v, same_flatten h t v]
theorem merged_stab {c : List V3 → List V3 → Int} (h : Cmp3 c) (l : List (List It2)) (ins : List (List (List V3))) (he : l.map (List.map Prod.snd) = ins.map (stab c)) :
    (merged c l.flatten.length l).map Prod.snd = stab c ins.flatten := by
  have hs : ∀ r ∈ l, Srt (on2 c) r := fun r hr => by
    rw [← srt_map]
    have : r.map Prod.snd ∈ ins.map (stab c) := by rw [← he]; exact List.mem_map_of_mem hr
    obtain ⟨x, _, hx⟩ := List.mem_map.1 this
    rw [← hx]
    exact stab_srt h x
  obtain ⟨h1, h2⟩ := merged_law c h _ l rfl hs
  refine stab_uniq h (srt_map.2 h1) ((same_map h2).trans ?_)
  rw [List.map_flatten, he]
  exact same_flatten h ins
theorem stab_len (c : List V3 → List V3 → Int) (l : List (List V3)) : (stab c l).length = l.length := by
  have hi : ∀ (x : List V3) (r : List (List V3)), (insD c x r).length = r.length + 1 := by
    intro x r
    induction r with
    | nil => rfl
    | cons y t ih =>
      rw [insD]
      split
      · simp [ih]
      · rfl
  have hg : ∀ (m r : List (List V3)), (m.foldl (fun r x => insD c x r) r).length = r.length + m.length := by
    intro m
    induction m with
    | nil => intro r; simp
    | cons x t ih => intro r; rw [List.foldl_cons, ih, hi]; simp; omega
  unfold stab insAll
  rw [List.length_reverse, hg]
  simp
end Go.Proofs.Ytghpjlohoehdnaa.Sep

/-! Runs of rows as values: what merge reads. No condition beyond those that each theorem names. -/
namespace Go.Proofs.Ytghpjlohoehdnaa.Sep
open Go Go.RowKit Go.Shelf
set_option linter.unusedVariables false
set_option linter.unusedSimpArgs false
/-- what lies in R is in w as in W -/
def Ag (R : Nat → Prop) (W w : World) : Prop := W.heap.size ≤ w.heap.size ∧ ∀ j, R j → w.heap[j]? = W.heap[j]?
theorem Ag.refl (R : Nat → Prop) (W : World) : Ag R W W := ⟨Nat.le_refl _, fun _ _ => rfl⟩
theorem Ag.below {R : Nat → Prop} {W w w' : World} (h : Ag R W w) (hR : ∀ j, R j → j < W.heap.size) (hb : Below w.heap.size w w') : Ag R W w' :=
  ⟨Nat.le_trans h.1 hb.size, fun j hj => (hb.block j (Nat.lt_of_lt_of_le (hR j hj) h.1)).trans (h.2 j hj)⟩
theorem Ag.gr {R X X' : Nat → Prop} {W w : World} (hR : ∀ j, R j → j < W.heap.size ∧ ¬ X j) (hg : Gr X X' W.heap.size W w) : Ag R W w :=
  ⟨hg.size, fun j hj => hg.block j (hR j hj).1 (hR j hj).2⟩
/-- a row with its values; it lies in R -/
def GoodI (R : Nat → Prop) (W : World) (i : It2) : Prop := Cont W i.1 i.2 ∧ i.1.n ≤ 1000 ∧ ∀ j, i.1.blk j → R j
theorem GoodI.ag {R : Nat → Prop} {W w : World} {i : It2} (h : GoodI R W i) (ha : Ag R W w) : GoodI R w i :=
  ⟨h.1.same ha.1 (fun j hj => ha.2 j (h.2.2 j hj)), h.2⟩
/-- the slice u holds the rows its; all that lies in R -/
def RunV (R : Nat → Prop) (W : World) (u : Value) (its : List It2) : Prop :=
  (∃ a c, u = .slice a 0 c ∧ its = []) ∨ ∃ b off c, u = .slice (some ⟨b, off, none⟩) its.length c ∧ R b ∧ b < W.heap.size ∧ its.length ≤ c ∧ (∀ j i, its[j]? = some i → W.cell? ⟨b, off + j, none⟩ = some (RV.v i.1)) ∧ ∀ i ∈ its, GoodI R W i
theorem RunV.ag {R : Nat → Prop} {W w : World} {u : Value} {its : List It2} (ha : Ag R W w) : RunV R W u its → RunV R w u its
  | .inl h => .inl h
  | .inr ⟨b, off, c, h1, h2, h3, h4, h5, h6⟩ => .inr ⟨b, off, c, h1, h2, Nat.lt_of_lt_of_le h3 ha.1, h4, fun j i hi => (cell_of_block (ha.2 b h2) _).trans (h5 j i hi), fun i hi => (h6 i hi).ag ha⟩
theorem RunV.shape {R : Nat → Prop} {W : World} {u : Value} {its : List It2} : RunV R W u its → ∃ a c, u = .slice a its.length c
  | .inl ⟨a, c, h, e⟩ => ⟨a, c, by rw [h, e]; rfl⟩
  | .inr ⟨b, off, c, h, _⟩ => ⟨_, c, h⟩
theorem RunV.cons {R : Nat → Prop} {W : World} {u : Value} {y : It2} {t : List It2} (h : RunV R W u (y :: t)) :
    ∃ b off c, u = .slice (some ⟨b, off, none⟩) (t.length + 1) c ∧ R b ∧ b < W.heap.size ∧ t.length + 1 ≤ c ∧ W.cell? ⟨b, off, none⟩ = some (.slice y.1.a y.1.n y.1.c) ∧ GoodI R W y ∧
      ∀ a', (c ≠ 1 → a' = ⟨b, off + 1, none⟩) → RunV R W (.slice (some a') t.length (c - 1)) t := by
  rcases h with ⟨a, c, _, h⟩ | ⟨b, off, c, h1, h2, h3, h4, h5, h6⟩
  · cases h
  · refine ⟨b, off, c, h1, h2, h3, h4, h5 0 y rfl, h6 y (List.mem_cons_self ..), fun a' ha' => ?_⟩
    by_cases hc : c = 1
    · have ht : t = [] := List.eq_nil_of_length_eq_zero (by simp at h4; omega)
      subst ht
      exact .inl ⟨_, _, rfl, rfl⟩
    · rw [ha' hc]
      refine .inr ⟨b, off + 1, c - 1, rfl, h2, h3, by simp at h4; omega, fun j i hi => ?_, fun i hi => h6 i (List.mem_cons_of_mem _ hi)⟩
      have := h5 (j + 1) i hi
      rw [show off + 1 + j = off + (j + 1) by omega]
      exact this
/-- an order that lies in R -/
def OrdR (R : Nat → Prop) (W : World) (sv : Value) (by_ : Order) : Prop :=
  (∃ a c, sv = .slice a 0 c ∧ by_ = []) ∨ ∃ b off c, sv = .slice (some ⟨b, off, none⟩) by_.length c ∧ R b ∧ b < W.heap.size ∧ ∀ j p, by_[j]? = some p → W.cell? ⟨b, off + j * 2, none⟩ = some (.int .i64 p.1) ∧ W.cell? ⟨b, off + j * 2 + 1, none⟩ = some (.bool p.2)
theorem OrdR.ag {R : Nat → Prop} {W w : World} {u : Value} {o : Order} (ha : Ag R W w) : OrdR R W u o → OrdR R w u o
  | .inl h => .inl h
  | .inr ⟨b, off, c, h1, h2, h3, h4⟩ => .inr ⟨b, off, c, h1, h2, Nat.lt_of_lt_of_le h3 ha.1, fun j p hp => ⟨(cell_of_block (ha.2 b h2) _).trans (h4 j p hp).1, (cell_of_block (ha.2 b h2) _).trans (h4 j p hp).2⟩⟩
theorem OrdR.ord {R : Nat → Prop} {W : World} {u : Value} {o : Order} : OrdR R W u o → Ord W u o
  | .inl h => .inl h
  | .inr ⟨b, off, c, h1, h2, h3, h4⟩ => .inr ⟨b, off, c, h1, h3, h4⟩
/-- what a Sorter's comparison reads -/
structure MD (R : Nat → Prop) (W : World) (S : Nat) (so : Value) (by_ : Order) : Prop where
  cell : W.cell? ⟨S, 0, none⟩ = some so
  rS : R S
  ord : OrdR R W so by_
  short : by_.length ≤ 1000
theorem MD.ag {R : Nat → Prop} {W w : World} {S : Nat} {so : Value} {by_ : Order} (h : MD R W S so by_) (ha : Ag R W w) : MD R w S so by_ :=
  ⟨(cell_of_block (ha.2 S h.rS) _).trans h.cell, h.rS, h.ord.ag ha, h.short⟩
theorem MD.cmp {R : Nat → Prop} {W w : World} {S : Nat} {so : Value} {by_ : Order} (h : MD R W S so by_) (ha : Ag R W w) {x y : It2} (hx : GoodI R W x) (hy : GoodI R W y) :
    Calls Try.prog 51 #[.pointer (some ⟨S, 0, none⟩), .slice x.1.a x.1.n x.1.c, .slice y.1.a y.1.n y.1.c] w fun e w' => e = .returned (.int .i64 (cmpR x.2 y.2 by_)) ∧ Below w.heap.size w w' :=
  compare_ok S so x.1 y.1 x.2 y.2 by_ w (h.ag ha).cell (h.ag ha).ord.ord (hx.ag ha).1 (hy.ag ha).1 hx.2.1 hy.2.1 h.short
/-- block g holds the values L, and spare ones behind them -/
def LB (W : World) (g : Nat) (T : TypeId) (L spare : List Value) : Prop := W.heap[g]? = some (.cells (L ++ spare).toArray T)
theorem LB.lt {W : World} {g : Nat} {T : TypeId} {L spare : List Value} (h : LB W g T L spare) : g < W.heap.size := (Array.getElem?_eq_some_iff.1 h).1
theorem LB.same {W w : World} {g : Nat} {T : TypeId} {L spare : List Value} (hb : w.heap[g]? = W.heap[g]?) (h : LB W g T L spare) : LB w g T L spare := hb.trans h
theorem LB.cell {W : World} {g : Nat} {T : TypeId} {L spare : List Value} (h : LB W g T L spare) {j : Nat} {v : Value} (hj : L[j]? = some v) : W.cell? ⟨g, j, none⟩ = some v := by
  unfold World.cell?
  have hb : W.heap[g]? = some (.cells (L ++ spare).toArray T) := h
  simp only [hb]
  have hl := (List.getElem?_eq_some_iff.1 hj).1
  have hj2 : L[j] = v := (List.getElem?_eq_some_iff.1 hj).2
  simp [List.getElem?_append_left, hl, hj2]
theorem LB.frozen {W : World} {g : Nat} {T : TypeId} {L spare : List Value} (h : LB W g T L spare) (j : Nat) : W.frozen? ⟨g, j, none⟩ = false := by
  unfold World.frozen?
  have hb : W.heap[g]? = some (.cells (L ++ spare).toArray T) := h
  simp [hb]
theorem LB.set {W : World} {g : Nat} {T : TypeId} {L spare : List Value} (h : LB W g T L spare) {j : Nat} (v : Value) (hj : j < L.length) : LB (W.setCell ⟨g, j, none⟩ v) g T (L.set j v) spare := by
  have hb : W.heap[g]? = some (.cells (L ++ spare).toArray T) := h
  unfold LB
  simp only [World.setCell, Array.getElem?_modify]
  rw [if_pos trivial, hb]
  simp [List.set_append_left, hj]
theorem lb_of_row {N : Nat} {T : TypeId} {W : World} {v : Value} {n : Nat} {L : List Value} (h : W.ownsRow N T 1 v n L) (hn : n ≠ 0) :
    ∃ g cap spare, v = .slice (some ⟨g, 0, none⟩) n cap ∧ N ≤ g ∧ n ≤ cap ∧ LB W g T L spare ∧ L.length = n := by
  rcases h.2 with ⟨_, h0⟩ | ⟨g, cap, cur, rfl, h1, h2, h3, h4, h5, h6⟩
  · exact absurd h0 hn
  · refine ⟨g, cap, cur.toList.drop n, rfl, h1, h3, ?_, by have := h.1; omega⟩
    unfold LB
    rw [h2]
    have e : (L ++ cur.toList.drop n).toArray = cur := by
      rw [← h6, Nat.mul_one, List.take_append_drop]
    rw [e]
theorem all2_set {α β : Type} {P : α → β → Prop} {a : α} {b : β} (h : P a b) : ∀ {l : List α} {m : List β} (j : Nat), All2 P l m → All2 P (l.set j a) (m.set j b)
  | [], [], j, _ => trivial
  | c :: l, d :: m, 0, ⟨h1, h2⟩ => ⟨h, h2⟩
  | c :: l, d :: m, j + 1, ⟨h1, h2⟩ => ⟨h1, all2_set h j h2⟩
theorem merged_step {c : List V3 → List V3 → Int} {l : List (List It2)} {b : Nat} (hb : bestUp c l l.length = some b) :
    l.flatten.length = (dropAt l b).flatten.length + 1 ∧ merged c l.flatten.length l = hdR l b :: merged c (dropAt l b).flatten.length (dropAt l b) := by
  have hs := bestUp_some hb
  have h1 : l.flatten.length = (dropAt l b).flatten.length + 1 := by
    have := (dropAt_perm hs.1 hs.2).length_eq
    rw [List.length_cons] at this
    exact this.symm
  refine ⟨h1, ?_⟩
  rw [h1, merged, hb]
theorem merged_end {c : List V3 → List V3 → Int} {l : List (List It2)} (hb : bestUp c l l.length = none) : merged c l.flatten.length l = [] := by
  rw [flatten_nil (bestUp_none hb)]
  rfl
def bcode : Option Nat → Int
  | none => -1
  | some b => b
/-- what an iterator hands over for a row -/
abbrev yOf (i : It2) : RV × Int := (i.1, 0)
end Go.Proofs.Ytghpjlohoehdnaa.Sep

/-! The iterator that merge hands back, walked. No condition beyond those that each theorem names. -/
namespace Go.Proofs.Ytghpjlohoehdnaa.Sep
open Go Go.RowKit Go.Shelf
attribute [local go_sem] Oper.semAt_some
set_option linter.unusedVariables false
set_option linter.unusedSimpArgs false
/-- how far the merging has come -/
structure MI (R : Nat → Prop) (ys : List (RV × Int)) (c : List V3 → List V3 → Int) (J : List (RV × Int) → (Nat → Prop) → World → Prop) (X : Nat → Prop) (W : World) (g nu : Nat) (cur : List (List It2)) (wr : World) : Prop where
  ex : ∃ (pre : List (RV × Int)) (L spare : List Value) (Xr : Nat → Prop), pre ++ (merged c cur.flatten.length cur).map yOf = ys ∧ LB wr g 22 L spare ∧ L.length = nu ∧ All2 (RunV R W) L cur ∧ J pre Xr wr ∧ Gr X Xr W.heap.size W wr ∧ ¬ Xr g
theorem bestUp_nil {c : List V3 → List V3 → Int} {l : List (List It2)} {k : Nat} (h : l[k]?.getD [] = []) : bestUp c l (k + 1) = bestUp c l k := by
  rw [bestUp]
  cases hb : bestUp c l k with
  | none => simp [h]
  | some b => simp [h]
theorem bestUp_first {c : List V3 → List V3 → Int} {l : List (List It2)} {k : Nat} {y : It2} {t : List It2} (h : l[k]?.getD [] = y :: t) (hb : bestUp c l k = none) : bestUp c l (k + 1) = some k := by
  rw [bestUp, hb]
  simp [h]
theorem bestUp_next {c : List V3 → List V3 → Int} {l : List (List It2)} {k b : Nat} {y : It2} {t : List It2} (h : l[k]?.getD [] = y :: t) (hb : bestUp c l k = some b) :
    bestUp c l (k + 1) = if c y.2 (hdR l b).2 < 0 then some k else some b := by
  rw [bestUp, hb]
  have e : hdR l k = y := by unfold hdR; rw [h]; rfl
  simp [h, e]
theorem below_drewN {N : Nat} {W w : World} (h : Below N W w) (n : Nat) : Below N W (w.drewN n) := ⟨h.os, h.tape, h.output, h.size, h.block⟩
theorem Gr.cell {X X' : Nat → Prop} {N : Nat} {W W' : World} (h : Gr X X' N W W') {a : Addr} (v : Value) (ha : N ≤ a.block) : Gr X X' N W (W'.setCell a v) :=
  ⟨h.os, h.tape, h.output, by rw [size_setCell]; exact h.size, fun j hj hx => (Below.heap_setCell _ _ _ j (by omega)).trans (h.block j hj hx), h.sub, fun j hj => by rw [size_setCell]; exact h.lt j hj⟩
theorem agree_cell {X : Nat → Prop} {n₀ : Nat} (W : World) {a : Addr} (v : Value) (hx : ¬ X a.block) (ha : n₀ ≤ a.block) : Agree X n₀ W (W.setCell a v) :=
  ⟨rfl, rfl, rfl, by rw [size_setCell]; exact Nat.le_refl _, fun j hj => Below.heap_setCell _ _ _ j (by rintro rfl; rcases hj with h | h; exact hx h; omega)⟩
theorem held4 {W3 w : World} {a0 a1 a2 a3 : Addr} {u0 u1 u2 u3 : Value} (h0 : W3.cell? a0 = some u0) (h1 : W3.cell? a1 = some u1) (h2 : W3.cell? a2 = some u2) (h3 : W3.cell? a3 = some u3) (h : Below W3.heap.size W3 w) :
    w.cell? a0 = some u0 ∧ w.cell? a1 = some u1 ∧ w.cell? a2 = some u2 ∧ w.cell? a3 = some u3 ∧ Aside0 (Below W3.heap.size W3 w) :=
  ⟨(cell_of_block' (h.block a0.block (cell_lt h0))).trans h0, (cell_of_block' (h.block a1.block (cell_lt h1))).trans h1, (cell_of_block' (h.block a2.block (cell_lt h2))).trans h2, (cell_of_block' (h.block a3.block (cell_lt h3))).trans h3, ⟨h⟩⟩
set_option maxRecDepth 100000 in
set_option maxHeartbeats 8000000 in
theorem merge1_in (n : Nat) (hn : 1 ≤ n) (l Bs Br S rb ro rc nu : Nat) (so : Value) (by_ : Order) (its : List (List It2)) (us : List Value) (R : Nat → Prop)
    (J Jx : List (RV × Int) → (Nat → Prop) → World → Prop) (X : Nat → Prop) (W : World) (hX : ∀ j, X j → j < W.heap.size) (hJ : Stable W.heap.size J) (hJx : Stable W.heap.size Jx)
    (hR : ∀ j, R j → j < W.heap.size ∧ ¬ X j) (hBs : R Bs) (hBr : R Br) (hcs : W.cell? ⟨Bs, 0, none⟩ = some (.pointer (some ⟨S, 0, none⟩))) (hcr : W.cell? ⟨Br, 0, none⟩ = some (.slice (some ⟨rb, ro, none⟩) nu rc))
    (hus : ∀ j u, us[j]? = some u → W.cell? ⟨rb, ro + j, none⟩ = some u) (hnu : us.length = nu) (hne : 0 < nu) (hul : nu ≤ 100000) (hM : MD R W S so by_) (hV : All2 (RunV R W) us its)
    (hY : ∀ pre x X1 W1, (pre ++ [x]) <+: (merged (fun a b => cmpR a b by_) its.flatten.length its).map yOf → J pre X1 W1 → Gr X X1 W.heap.size W W1 → YieldAt Fence.wide (n - 1) Try.prog l (enc x) W1 fun e W' =>
      ∃ X', Gr X1 X' W1.heap.size W1 W' ∧ ((e = .returned (.bool true) ∧ J (pre ++ [x]) X' W') ∨ (e = .returned (.bool false) ∧ Jx (pre ++ [x]) X' W')))
    (h0 : J [] X W) :
    CallsIn Fence.wide n Try.prog 75 #[.func (.yield l) #[] #[], .pointer (some ⟨Br, 0, none⟩), .pointer (some ⟨Bs, 0, none⟩)] W fun e W' => (∃ v, e = .returned v) ∧
      ∃ X', Gr X X' W.heap.size W W' ∧ (J ((merged (fun a b => cmpR a b by_) its.flatten.length its).map yOf) X' W' ∨ ∃ pre, pre <+: (merged (fun a b => cmpR a b by_) its.flatten.length its).map yOf ∧ Jx pre X' W') := by
  have hmx : Try.prog.follows .mixedOrders = true := by kernel_rfl
  have hone : ∀ u ∈ us, u.oneCell' = true := by
    intro u hu
    obtain ⟨j, hj, rfl⟩ := List.getElem_of_mem hu
    have hl := hV.len
    obtain ⟨a, c, e⟩ := (hV.get j _ _ (List.getElem?_eq_getElem hj) (List.getElem?_eq_getElem (by omega))).shape
    rw [e]; rfl
  have HCl := Aside0.mk (cl53_some rb ro nu rc us W (by omega) hone (by omega) hus)
  have HV := Aside0.mk (And.intro hV (And.intro hus hnu))
  have HJ := Aside0.mk (And.intro hJ (And.intro hJx (And.intro h0 (And.intro hX hR))))
  have HCm := Aside0.mk (show ∀ w, Ag R W w → ∀ x y : It2, GoodI R W x → GoodI R W y → Calls Try.prog 51 #[.pointer (some ⟨S, 0, none⟩), .slice x.1.a x.1.n x.1.c, .slice y.1.a y.1.n y.1.c] w fun e w' => e = .returned (.int .i64 ((fun a b => cmpR a b by_) x.2 y.2)) ∧ Below w.heap.size w w' from fun w ha x y hx hy => hM.cmp ha hx hy)
  clear hM
  generalize (fun a b => cmpR a b by_ : List V3 → List V3 → Int) = c at HCm hY ⊢
  obtain ⟨ys, hys⟩ : ∃ ys, (merged c its.flatten.length its).map yOf = ys := ⟨_, rfl⟩
  rw [hys] at hY ⊢
  have HY := Aside0.mk hY
  have HYS := Aside0.mk hys
  clear hys hY hJ hJx h0 hV hus hone hX hnu
  refine callsIn_of_wp Try.func75 rfl trivial ?_ rfl
  refine wpIn_wide.2 ?_
  simp only [Try.ntmps75, List.size_toArray, List.length_cons, List.length_nil, Nat.reduceAdd, Nat.reduceSub, Array.replicate_succ, Array.replicate_zero, List.push_toArray, List.append_toArray, List.nil_append, List.cons_append]
  go_wp2_with (go_at_call 53; refine HCl.out.mono ?_; rintro e w1 ⟨v', rfl, hown, _, hb1⟩; (have HO := Aside0.mk hown); (have HB := Aside0.mk hb1); clear hown hb1)
  obtain ⟨g, cap, spare, rfl, hgN, hgc, hlb, hlu⟩ := lb_of_row HO.out (by omega)
  have hgW : g < w1.heap.size := hlb.lt
  have HI := Aside0.mk (MI.mk (R := R) (ys := ys) (c := c) (J := J) (X := X) (W := W) (g := g) (nu := nu) (cur := its) (wr := w1) ⟨[], us, spare, X, by simpa using HYS.out, hlb, hlu, HV.out.1, HJ.out.1 _ _ _ _ HJ.out.2.2.1 (below_agree HJ.out.2.2.2.1 HB.out), below_gr HJ.out.2.2.2.1 HB.out, fun h => by have := HJ.out.2.2.2.1 _ h; omega⟩)
  have HG := Aside0.mk (And.intro hgN hgc)
  clear hlb hlu HO HB hgN hgW
  obtain ⟨m, hm⟩ : ∃ m, its.flatten.length = m := ⟨_, rfl⟩
  have HMm := Aside0.mk hm
  clear hm
  go_wp2
  go_loopg [5] m (fun kq v5 wr => ∃ cur : List (List It2), Aside0 (kq = cur.flatten.length) ∧ Aside0 (MI R ys c J X W g nu cur wr))
  case atStart => exact ⟨its, ⟨HMm.out.symm⟩, HI⟩
  case round =>
    clear HI HMm
    obtain ⟨cur, HK, HMi⟩ := hrel
    obtain ⟨pre, L, spare2, Xr, e1, e2, e3, e4, e5, e6, e7⟩ := HMi.out.ex
    have HE := Aside0.mk (And.intro e1 (And.intro e2 (And.intro e3 (And.intro e4 (And.intro e5 (And.intro e6 e7))))))
    have HAg := Aside0.mk (Ag.gr HJ.out.2.2.2.2 e6)
    have hcl : cur.length = nu := by rw [← e4.len]; exact e3
    have HCL := Aside0.mk hcl
    have hgw : g < wr.heap.size := e2.lt
    clear e1 e2 e3 e4 e5 e6 e7 hcl
    go_wp2
    go_loopw [5, 12] (fun v5 v12 w2 => ∃ k : Nat, k ≤ nu ∧ v12 = .int .i64 k ∧ v5 = .int .i64 (bcode (bestUp c cur k)) ∧ Aside0 (Below wr.heap.size wr w2)) (fun _ v12 _ => nu - (intOf v12).toNat)
    case atStart => exact ⟨0, Nat.zero_le _, rfl, rfl, ⟨Below.refl _ _⟩⟩
    case round =>
      obtain ⟨k, hk, rfl, rfl, HB2⟩ := hrel
      by_cases hlt : k < nu
      · have hcast : ((k : Nat) : Int) < (nu : Int) := by omega
        have HX : Aside0 (∃ u r, L[k]? = some u ∧ cur[k]? = some r ∧ RunV R W u r) := ⟨⟨L[k]'(by rw [HE.out.2.2.1]; exact hlt), cur[k]'(by rw [HCL.out]; exact hlt), List.getElem?_eq_getElem _, List.getElem?_eq_getElem _, HE.out.2.2.2.1.get k _ _ (List.getElem?_eq_getElem _) (List.getElem?_eq_getElem _)⟩⟩
        obtain ⟨u, r, hu, hr, hv⟩ := HX.out
        have hcu := (cell_of_block (HB2.out.block g hgw) k).trans (HE.out.2.1.cell hu)
        have HR := Aside0.mk (show cur[k]?.getD [] = r by rw [hr]; rfl)
        have HV2 := Aside0.mk hv
        clear HX hu hr hv
        cases r with
        | nil =>
          obtain ⟨a0, n0, c0⟩ : ∃ a c, u = .slice a 0 c := by
            rcases HV2.out with ⟨a, c, h, _⟩ | ⟨b, off, c, h, _⟩
            · exact ⟨a, c, h⟩
            · exact ⟨_, c, h⟩
          subst c0
          have HN := Aside0.mk (bestUp_nil (c := c) HR.out)
          go_wp2
          go_quiet (fail)
          go_wp2
          go_roundw
          case rel => exact ⟨k + 1, hlt, by simp, by rw [HN.out], ⟨below_drewN HB2.out _⟩⟩
          case measure => simp [intOf] <;> omega
        | cons y t =>
          obtain ⟨ub, uo, uc, rfl, hub, hubl, huc, hy0, hgy, htail⟩ := HV2.out.cons
          have hy := (cell_of_block (HB2.out.block ub (Nat.lt_of_lt_of_le hubl HAg.out.1)) uo).trans ((cell_of_block (HAg.out.2 ub hub) uo).trans hy0)
          have HY2 := Aside0.mk (And.intro hgy htail)
          obtain ⟨un, hun⟩ : ∃ un, t.length + 1 = un := ⟨_, rfl⟩
          have HUN := Aside0.mk hun
          rw [hun] at hcu
          have hun0 : 0 < un := by omega
          have hund : decide ((un : Int) > 0) = true := by simp [hun0]
          clear hub hubl huc hy0 hgy htail hun HV2
          obtain ⟨bu, hbu⟩ : ∃ bu, bestUp c cur k = bu := ⟨_, rfl⟩
          have HBU := Aside0.mk hbu
          try rw [hbu]
          clear hbu
          cases bu with
          | none =>
            have HN := Aside0.mk (bestUp_first HR.out HBU.out)
            dsimp only [bcode]
            go_wp2
            go_quiet (fail)
            go_wp2
            go_roundw
            case rel => exact ⟨k + 1, hlt, by simp, by rw [HN.out] <;> rfl, ⟨below_drewN HB2.out _⟩⟩
            case measure => simp [intOf] <;> omega
          | some b =>
            have HN := Aside0.mk (bestUp_next HR.out HBU.out)
            dsimp only [bcode]
            have hbk := (bestUp_some HBU.out).1
            have hbn : b < nu := by omega
            have HX : Aside0 (∃ u z tz, L[b]? = some u ∧ cur[b]?.getD [] = z :: tz ∧ RunV R W u (z :: tz)) := ⟨by
              have h1 := (bestUp_some HBU.out).2
              have h2 : cur[b]? = some (cur[b]'(by rw [HCL.out]; exact hbn)) := List.getElem?_eq_getElem _
              have h3 := HE.out.2.2.2.1.get b _ _ (List.getElem?_eq_getElem (by rw [HE.out.2.2.1]; exact hbn)) h2
              rw [h2, Option.getD_some] at h1
              obtain ⟨z, tz, hz⟩ := List.exists_cons_of_ne_nil h1
              exact ⟨_, z, tz, List.getElem?_eq_getElem (by rw [HE.out.2.2.1]; exact hbn), by rw [h2]; exact hz, by rw [← hz]; exact h3⟩⟩
            obtain ⟨zu, z, tz, hzu, hzr, hzv⟩ := HX.out
            obtain ⟨zb, zo, zc, rfl, hzb, hzbl, hzc, hz0, hgz, _⟩ := hzv.cons
            have hcz := (cell_of_block (HB2.out.block g hgw) b).trans (HE.out.2.1.cell hzu)
            have hz := (cell_of_block (HB2.out.block zb (Nat.lt_of_lt_of_le hzbl HAg.out.1)) zo).trans ((cell_of_block (HAg.out.2 zb hzb) zo).trans hz0)
            have hcB := (cell_of_block (HB2.out.block Bs (Nat.lt_of_lt_of_le (hR Bs hBs).1 HAg.out.1)) 0).trans ((cell_of_block (HAg.out.2 Bs hBs) 0).trans hcs)
            have HZ := Aside0.mk (And.intro hgz (show hdR cur b = z by unfold hdR; rw [hzr]; rfl))
            have HAg2 := Aside0.mk (HAg.out.below (fun j hj => (hR j hj).1) HB2.out)
            obtain ⟨zn, hzn⟩ : ∃ zn, tz.length + 1 = zn := ⟨_, rfl⟩
            rw [hzn] at hcz
            have hzn0 : 0 < zn := by omega
            have hbneg : decide ((b : Int) < 0) = false := by simp
            clear hzu hzr hzv hzb hzbl hzc hz0 hgz HX hzn
            go_upto_region 5 with fail
            have HC4 := Aside0.mk (fun (w : World) (h : Below wr.heap.size wr w) => held4 hcB hy hcz hz h)
            go_region_held3 (fun w' => w'.cell? ⟨Bs, 0, none⟩ = some (.pointer (some ⟨S, 0, none⟩)) ∧ w'.cell? ⟨ub, uo, none⟩ = some (.slice y.1.a y.1.n y.1.c) ∧ w'.cell? ⟨g, b, none⟩ = some (.slice (some ⟨zb, zo, none⟩) zn zc) ∧ w'.cell? ⟨zb, zo, none⟩ = some (.slice z.1.a z.1.n z.1.c) ∧ Aside0 (Below wr.heap.size wr w'))
              (first | assumption | exact HC4.out _ (Still.drew wr).below | exact HC4.out _ HB3.out | fail)
              (first | (go_at_call 51; refine (HCm.out _ (HAg2.out.below (fun j hj => (hR j hj).1) (Still.drew wr).below) y z HY2.out.1 HZ.out.1).mono ?_; rintro e w3 ⟨rfl, hb3⟩; have HB3 := Aside0.mk (below_step (Still.drew wr).below hb3 (Nat.le_refl _)); clear hb3))
            have HN2 := Aside0.mk (show bestUp c cur (k + 1) = if c y.2 z.2 < 0 then some k else some b by rw [HN.out, HZ.out.2])
            obtain ⟨q, hq⟩ : ∃ q, decide (c y.2 z.2 < 0) = q := ⟨_, rfl⟩
            rw [hq]
            have HQ := Aside0.mk hq
            have HB4 := Aside0.mk (below_step HB2.out HB3.out HB2.out.size)
            clear HN hq
            cases q with
            | true =>
              have HN3 := Aside0.mk (HN2.out.trans (if_pos (of_decide_eq_true HQ.out)))
              clear HN2 HQ
              go_wp2
              go_roundw
              case rel => exact ⟨k + 1, hlt, by simp, by rw [HN3.out] <;> rfl, HB4⟩
              case measure => simp [intOf] <;> omega
            | false =>
              have HN3 := Aside0.mk (HN2.out.trans (if_neg (of_decide_eq_false HQ.out)))
              clear HN2 HQ
              go_wp2
              go_roundw
              case rel => exact ⟨k + 1, hlt, by simp, by rw [HN3.out] <;> rfl, HB4⟩
              case measure => simp [intOf] <;> omega
      · obtain rfl : k = nu := by omega
        obtain ⟨bu, hbu⟩ : ∃ bu, bestUp c cur k = bu := ⟨_, rfl⟩
        have HBU := Aside0.mk (show bestUp c cur cur.length = bu by rw [HCL.out]; exact hbu)
        try rw [hbu]
        clear hbu
        have HJ2 := Aside0.mk (HJ.out.1 _ _ _ _ HE.out.2.2.2.2.1 ⟨HB2.out.os, HB2.out.tape, HB2.out.output, HB2.out.size, fun j hj => HB2.out.block j (by rcases hj with h | h; exact HE.out.2.2.2.2.2.1.lt j h; exact Nat.lt_of_lt_of_le h HAg.out.1)⟩)
        have HG2 := Aside0.mk (HE.out.2.2.2.2.2.1.trans (below_gr HE.out.2.2.2.2.2.1.lt HB2.out) HAg.out.1)
        cases bu with
        | none =>
          dsimp only [bcode]
          go_wp2
          refine bodyPost_ret (results_none rfl _ _ _) rfl ?_
          refine ⟨⟨_, rfl⟩, Xr, HG2.out, .inl ?_⟩
          have h1 := HE.out.1
          rw [merged_end HBU.out, List.map_nil, List.append_nil] at h1
          rw [← h1]
          exact HJ2.out
        | some b =>
          dsimp only [bcode]
          have hbn : b < k := by have := (bestUp_some HBU.out).1; rw [HCL.out] at this; exact this
          have HX : Aside0 (∃ u z tz, L[b]? = some u ∧ cur[b]?.getD [] = z :: tz ∧ RunV R W u (z :: tz)) := ⟨by
            have h1 := (bestUp_some HBU.out).2
            have h2 : cur[b]? = some (cur[b]'(by rw [HCL.out]; exact hbn)) := List.getElem?_eq_getElem _
            have h3 := HE.out.2.2.2.1.get b _ _ (List.getElem?_eq_getElem (by rw [HE.out.2.2.1]; exact hbn)) h2
            rw [h2, Option.getD_some] at h1
            obtain ⟨z, tz, hz⟩ := List.exists_cons_of_ne_nil h1
            exact ⟨_, z, tz, List.getElem?_eq_getElem (by rw [HE.out.2.2.1]; exact hbn), by rw [h2]; exact hz, by rw [← hz]; exact h3⟩⟩
          obtain ⟨zu, z, tz, hzu, hzr, hzv⟩ := HX.out
          obtain ⟨zb, zo, zc, rfl, hzb, hzbl, hzc, hz0, hgz, htail⟩ := hzv.cons
          have hcz := (cell_of_block (HB2.out.block g hgw) b).trans (HE.out.2.1.cell hzu)
          have hz := (cell_of_block (HB2.out.block zb (Nat.lt_of_lt_of_le hzbl HAg.out.1)) zo).trans ((cell_of_block (HAg.out.2 zb hzb) zo).trans hz0)
          have HZ := Aside0.mk (And.intro hzu (And.intro hzr (And.intro hzc htail)))
          obtain ⟨s1, s2⟩ := merged_step HBU.out
          have HS := Aside0.mk (And.intro s1 (show pre ++ [((z.1 : RV), (0 : Int))] ++ (merged c (dropAt cur b).flatten.length (dropAt cur b)).map yOf = ys by
            have h1 := HE.out.1
            rw [s2] at h1
            have e : hdR cur b = z := by unfold hdR; rw [hzr]; rfl
            rw [e] at h1
            simpa using h1))
          obtain ⟨zn, hzn⟩ : ∃ zn, tz.length + 1 = zn := ⟨_, rfl⟩
          have HZN := Aside0.mk hzn
          rw [hzn] at hcz
          have hzn0 : 0 < zn := by omega
          have hbneg : decide ((b : Int) < 0) = false := by simp
          have HBg := Aside0.mk (HB2.out.block g hgw)
          have HBs := HB2.out.size
          clear hzu hzr hzv hzb hzbl hzc hz0 hgz htail HX hzn s1 s2
          go_upto_region 8 with fail
          refine (wpIn_wide (n := n)).1 ?_
          obtain ⟨fn, tmps, assign, body, hy, hRd⟩ := HY.out pre (z.1, 0) Xr _ ⟨_, HS.out.2⟩ HJ2.out HG2.out
          dsimp only [enc] at hy
          gi_wp2
          refine hRd.mono ?_
          rintro e W3 ⟨X3, hg3, (⟨rfl, hJ3⟩ | ⟨rfl, hJx3⟩)⟩
          · have HL3 := HE.out.2.1.same ((hg3.block g (Nat.lt_of_lt_of_le hgw HBs) HE.out.2.2.2.2.2.2).trans HBg.out)
            have hc3 := HL3.cell HZ.out.1
            have hf3 := HL3.frozen b
            rw [HZN.out] at hc3
            have HF := Aside0.mk (show ∀ (a' : Addr), (zc ≠ 1 → a' = ⟨zb, zo + 1, none⟩) → MI R ys c J X W g k (dropAt cur b) (W3.setCell ⟨g, b, none⟩ (.slice (some a') (zn - 1) (zc - 1))) from by
              intro a' ha'
              have hng : ¬ X3 g := fun h => by
                rcases hg3.sub g h with h | h
                · exact HE.out.2.2.2.2.2.2 h
                · omega
              have hgN := HG.out.1
              have hzn1 : zn - 1 = tz.length := by have := HZN.out; omega
              have hdr : dropAt cur b = cur.set b tz := by unfold dropAt; rw [HZ.out.2.1]; rfl
              refine ⟨pre ++ [(z.1, 0)], L.set b (.slice (some a') (zn - 1) (zc - 1)), spare2, X3, HS.out.2, HL3.set _ (by rw [HE.out.2.2.1]; exact hbn), by rw [List.length_set]; exact HE.out.2.2.1, ?_, ?_, ?_, hng⟩
              · rw [hdr, hzn1]
                exact all2_set (HZ.out.2.2.2 a' ha') b HE.out.2.2.2.1
              · exact HJ.out.1 _ _ _ _ hJ3 (agree_cell _ _ hng hgN)
              · exact (HG2.out.trans hg3 HG2.out.size).cell _ hgN)
            clear HL3 hg3 hJ3
            gi_wp2
            go_wp2
            · go_roundg ((dropAt cur b).flatten.length)
              case measure => rw [HK.out, HS.out.1]; exact Nat.lt_succ_self _
              case rel =>
                have hz1 : zc = 1 := by first | assumption | (symm; assumption) | omega
                have h1 := HF.out ⟨zb, zo, none⟩ (fun h => absurd hz1 h)
                rw [hz1] at h1
                exact ⟨dropAt cur b, ⟨rfl⟩, ⟨h1⟩⟩
            · go_roundg ((dropAt cur b).flatten.length)
              case measure => rw [HK.out, HS.out.1]; exact Nat.lt_succ_self _
              case rel => exact ⟨dropAt cur b, ⟨rfl⟩, ⟨HF.out _ (fun _ => rfl)⟩⟩
          · gi_wp2
            go_wp2
            refine bodyPost_ret (results_none rfl _ _ _) rfl ?_
            exact ⟨⟨_, rfl⟩, X3, HG2.out.trans hg3 HG2.out.size, .inr ⟨_, ⟨_, HS.out.2⟩, hJx3⟩⟩
/-- MERGE's iterator: all rows of the runs, in order. -/
theorem merge_it (Bs Br S rb ro rc nu : Nat) (so : Value) (by_ : Order) (its : List (List It2)) (us : List Value) (R : Nat → Prop) (W : World) (hR : ∀ j, R j → j < W.heap.size) (hBs : R Bs) (hBr : R Br)
    (hcs : W.cell? ⟨Bs, 0, none⟩ = some (.pointer (some ⟨S, 0, none⟩))) (hcr : W.cell? ⟨Br, 0, none⟩ = some (.slice (some ⟨rb, ro, none⟩) nu rc)) (hrb : R rb)
    (hus : ∀ j u, us[j]? = some u → W.cell? ⟨rb, ro + j, none⟩ = some u) (hnu : us.length = nu) (hne : 0 < nu) (hul : nu ≤ 100000) (hM : MD R W S so by_) (hV : All2 (RunV R W) us its) :
    ItC (.func (.func 75) #[] #[.pointer (some ⟨Br, 0, none⟩), .pointer (some ⟨Bs, 0, none⟩)]) ((merged (fun a b => cmpR a b by_) its.flatten.length its).map fun i => (yOf i, i.2)) R W := by
  have hmem : ∀ i ∈ its.flatten, GoodI R W i := fun i hi => by
    obtain ⟨r, hr, hir⟩ := List.mem_flatten.1 hi
    obtain ⟨j, hj, rfl⟩ := List.getElem_of_mem hr
    rcases hV.get j _ _ (List.getElem?_eq_getElem (by rw [hV.len]; exact hj)) (List.getElem?_eq_getElem hj) with ⟨_, _, _, h⟩ | ⟨_, _, _, _, _, _, _, _, h⟩
    · rw [h] at hir; cases hir
    · exact h i hir
  refine ⟨⟨⟨75, _, rfl, enters_of Try.func75 (by kernel_rfl) rfl, ?_⟩, hR⟩, ?_⟩
  · intro n l J Jx X w hs hRW hX hJ hJx hY h0
    have hag : Ag R W w := ⟨hs, fun j hj => (hRW j hj).2.2⟩
    have e : ((merged (fun a b => cmpR a b by_) its.flatten.length its).map fun i => ((yOf i, i.2) : Pr)).map Prod.fst = (merged (fun a b => cmpR a b by_) its.flatten.length its).map yOf := by rw [List.map_map]; rfl
    rw [e] at hY ⊢
    have key : ∀ m, 1 ≤ m → (m = n ∨ (n = 0 ∧ m = 1)) → CallsIn Fence.wide m Try.prog 75 #[.func (.yield l) #[] #[], .pointer (some ⟨Br, 0, none⟩), .pointer (some ⟨Bs, 0, none⟩)] w fun e W' => (∃ v, e = .returned v) ∧
        ∃ X', Gr X X' w.heap.size w W' ∧ (J ((merged (fun a b => cmpR a b by_) its.flatten.length its).map yOf) X' W' ∨ ∃ pre, pre <+: (merged (fun a b => cmpR a b by_) its.flatten.length its).map yOf ∧ Jx pre X' W') := by
      intro m hm hmn
      refine merge1_in m hm l Bs Br S rb ro rc nu so by_ its us R J Jx X w hX hJ hJx (fun j hj => ⟨Nat.lt_of_lt_of_le (hR j hj) hs, (hRW j hj).2.1⟩) hBs hBr ((cell_of_block (hag.2 Bs hBs) 0).trans hcs) ((cell_of_block (hag.2 Br hBr) 0).trans hcr)
        (fun j u hu => (cell_of_block (hag.2 rb hrb) _).trans (hus j u hu)) hnu hne hul (hM.ag hag) (hV.imp fun _ _ h => h.ag hag) ?_ h0
      intro pre x X1 W1 h1 h2 h3
      have := hY pre x X1 W1 h1 h2 h3
      rcases hmn with rfl | ⟨rfl, rfl⟩
      · exact this
      · exact this
    rcases Nat.lt_or_ge 0 n with hn | hn
    · exact key n hn (.inl rfl)
    · have hn0 : n = 0 := by omega
      subst hn0
      exact callsIn_wide.2 (callsIn_wide.1 (key 1 (Nat.le_refl _) (.inr ⟨rfl, rfl⟩)))
  · intro p hp _
    obtain ⟨i, hi, rfl⟩ := List.mem_map.1 hp
    exact hmem i ((merged_perm _ _ _ rfl).mem_iff.1 hi)
end Go.Proofs.Ytghpjlohoehdnaa.Sep

/-! slices.ContainsFunc over runs, with lays' predicate: is there one of another length? No condition beyond those that each theorem names. -/
namespace Go.Proofs.Ytghpjlohoehdnaa.Sep
open Go Go.RowKit Go.Shelf
set_option linter.unusedVariables false
set_option linter.unusedSimpArgs false
set_option maxHeartbeats 1000000 in
theorem pred73 (a fa : Option Addr) (n c fn fc lb lo ln lc B : Nat) (W : World) (hB : W.cell? ⟨B, 0, none⟩ = some (.slice (some ⟨lb, lo, none⟩) ln lc)) (h0 : W.cell? ⟨lb, lo, none⟩ = some (.slice fa fn fc)) (hln : 0 < ln) :
    Calls Try.prog 73 #[.slice a n c, .pointer (some ⟨B, 0, none⟩)] W fun e W' => e = .returned (.bool (!(n == fn))) ∧ W' = W := by
  go_enter Try.func73, Try.ntmps73
  go_wp2
  refine bodyPost_ret (results_tmp rfl _ _ _) rfl ?_
  refine ⟨?_, rfl⟩
  by_cases h : n = fn
  · subst h; simp
  · have h2 : ¬ (n : Int) = (fn : Int) := by omega
    have h3 : ((n : Int) == (fn : Int)) = false := beq_eq_false_iff_ne.2 h2
    have h4 : (n == fn) = false := beq_eq_false_iff_ne.2 h
    simp [bne, h3, h4]
/-- the values us are slices of so many elements -/
def Lens (us : List Value) (lens : List Nat) : Prop := All2 (fun u n => ∃ a c, u = .slice a n c) us lens
set_option maxRecDepth 100000 in
set_option maxHeartbeats 2000000 in
theorem index84 (lb lo lc B : Nat) (us : List Value) (lens : List Nat) (f0 : Nat) (nu : Nat) (W : World) (hk : nu ≤ 100000) (hnu : us.length = nu) (hl : Lens us lens) (hcs : ∀ j u, us[j]? = some u → W.cell? ⟨lb, lo + j, none⟩ = some u)
    (hB : W.cell? ⟨B, 0, none⟩ = some (.slice (some ⟨lb, lo, none⟩) nu lc)) (h0 : lens.head? = some f0) :
    Calls Try.prog 84 #[.slice (some ⟨lb, lo, none⟩) nu lc, .func (.func 73) #[] #[.pointer (some ⟨B, 0, none⟩)]] W fun e W' => (∃ z : Int, e = .returned (.int .i64 z) ∧ (0 ≤ z ↔ lens.any (fun n => !(n == f0)) = true)) ∧ W' = W := by
  have H0 := Aside0.mk h0
  have HF : Aside0 (∃ fa fc, W.cell? ⟨lb, lo, none⟩ = some (.slice fa f0 fc) ∧ 0 < nu) := ⟨by
    cases lens with
    | nil => cases h0
    | cons n t =>
      cases us with
      | nil => exact hl.elim
      | cons u t2 =>
        obtain ⟨⟨a, c, rfl⟩, _⟩ := hl
        cases h0
        exact ⟨a, c, hcs 0 _ rfl, by rw [← hnu]; simp⟩⟩
  have HL := Aside0.mk (And.intro hl (And.intro hcs hnu))
  clear hl hcs hnu h0
  go_enter Try.func84, Try.ntmps84
  go_wp2
  go_loopw [8] (fun i wr => ∃ (j : Nat), j ≤ nu ∧ i = .int .i64 j ∧ wr = W ∧ Aside0 (lens.any (fun n => !(n == f0)) = (lens.drop j).any (fun n => !(n == f0)))) (fun i _ => nu - (intOf i).toNat)
  case atStart => exact ⟨0, Nat.zero_le _, rfl, rfl, ⟨rfl⟩⟩
  case round =>
    obtain ⟨j, hj, rfl, rfl, HE⟩ := hrel
    by_cases hlt : j < nu
    · have HX : Aside0 (∃ a n c, us[j]? = some (.slice a n c) ∧ lens.drop j = n :: lens.drop (j + 1)) := ⟨by
        obtain ⟨hl, hcs, hnu⟩ := HL.out
        have hlen := hl.len
        have h1 : us[j]? = some us[j] := List.getElem?_eq_getElem (by omega)
        have h2 : lens[j]? = some (lens[j]'(by omega)) := List.getElem?_eq_getElem (by omega)
        obtain ⟨a, c, h3⟩ := hl.get j _ _ h1 h2
        have hj2 : j < lens.length := by omega
        exact ⟨a, lens[j], c, h1.trans (congrArg some h3), List.drop_eq_getElem_cons hj2⟩⟩
      obtain ⟨a, n, c, hx, hd⟩ := HX.out
      have hcell := HL.out.2.1 j _ hx
      obtain ⟨fa, fc, hfa, hnu0⟩ := HF.out
      have HP := Aside0.mk (pred73 a fa n c f0 fc lb lo nu lc B wr hB hfa hnu0)
      have HE2 := Aside0.mk (show lens.any (fun n => !(n == f0)) = (!(n == f0) || (lens.drop (j + 1)).any (fun n => !(n == f0))) by rw [HE.out, hd, List.any_cons])
      clear hx hd HX hfa hnu0
      obtain ⟨t, ht⟩ : ∃ t, (!(n == f0)) = t := ⟨_, rfl⟩
      rw [ht] at HP HE2
      clear ht
      cases t with
      | true =>
        go_wp2_with (go_at_call 73; refine HP.out.mono ?_; rintro e w' ⟨rfl, rfl⟩)
        refine bodyPost_ret (results_tmp rfl _ _ _) rfl ?_
        exact ⟨⟨_, rfl, by rw [HE2.out]; simp⟩, rfl⟩
      | false =>
        have HE3 := Aside0.mk (HE2.out.trans (Bool.false_or _))
        clear HE2
        go_wp2_with (go_at_call 73; refine HP.out.mono ?_; rintro e w' ⟨rfl, rfl⟩)
        go_roundw
        case rel => exact ⟨j + 1, hlt, by simp, trivial, HE3⟩
        case measure => simp [intOf] <;> omega
    · obtain rfl : j = nu := by omega
      have HE2 := Aside0.mk (show lens.any (fun n => !(n == f0)) = false by rw [HE.out, List.drop_of_length_le (by have := HL.out.1.len; have := HL.out.2.2; omega)]; rfl)
      go_wp2
      refine bodyPost_ret (results_tmp rfl _ _ _) rfl ?_
      exact ⟨⟨_, rfl, by rw [HE2.out]; simp⟩, rfl⟩
set_option maxHeartbeats 1000000 in
theorem contains72 (lb lo lc B : Nat) (us : List Value) (lens : List Nat) (f0 : Nat) (nu : Nat) (W : World) (hk : nu ≤ 100000) (hnu : us.length = nu) (hl : Lens us lens) (hcs : ∀ j u, us[j]? = some u → W.cell? ⟨lb, lo + j, none⟩ = some u)
    (hB : W.cell? ⟨B, 0, none⟩ = some (.slice (some ⟨lb, lo, none⟩) nu lc)) (h0 : lens.head? = some f0) :
    Calls Try.prog 72 #[.slice (some ⟨lb, lo, none⟩) nu lc, .func (.func 73) #[] #[.pointer (some ⟨B, 0, none⟩)]] W fun e W' => e = .returned (.bool (lens.any (fun n => !(n == f0)))) ∧ W' = W := by
  have hix := index84 lb lo lc B us lens f0 nu W hk hnu hl hcs hB h0
  generalize lens.any (fun n => !(n == f0)) = t at hix ⊢
  clear hcs hl hnu h0
  go_enter Try.func72, Try.ntmps72
  go_wp2_with (go_at_call 84; refine hix.mono ?_; clear hix; rintro e w' ⟨⟨z, rfl, hz⟩, rfl⟩)
  go_ret
  refine ⟨?_, rfl⟩
  cases t with
  | true => simp [hz]
  | false => simp [hz]
end Go.Proofs.Ytghpjlohoehdnaa.Sep

/-! What a Sorter holds, and how it changes. No condition beyond those that each theorem names. -/
namespace Go.Proofs.Ytghpjlohoehdnaa.Sep
open Go Go.RowKit Go.Shelf
set_option linter.unusedVariables false
set_option linter.unusedSimpArgs false
abbrev vI (i : It2) : Value := RV.v i.1
/-- what a Sorter holds: the rows at hand, the runs laid aside, how many came; X: all blocks that are its own; D: those of them that never turn -/
structure SRx (W : World) (S : Nat) (by_ : Order) (hand : Nat) (nowI : List It2) (runsI : List (List It2)) (k : Nat) (done : Bool) (X D : Nat → Prop) (so nv rv : Value) (us : List Value) : Prop where
  cells : W.heap[S]? = some (.cells #[so, .int .i64 hand, nv, rv, .int .i64 k, .bool done] 66)
  xS : X S
  dS : ¬ D S
  dX : ∀ j, D j → X j
  xlt : ∀ j, X j → j < W.heap.size
  ord : OrdR D W so by_
  short : by_.length ≤ 1000
  nown : W.ownsRow 0 48 1 nv nowI.length (nowI.map vI)
  nblk : ∀ j, nv.ownBlock = some j → X j ∧ ¬ D j ∧ j ≠ S
  nitems : ∀ i ∈ nowI, GoodI D W i
  rown : W.ownsRow 0 22 1 rv us.length us
  rblk : ∀ j, rv.ownBlock = some j → X j ∧ ¬ D j ∧ j ≠ S ∧ nv.ownBlock ≠ some j
  runs : All2 (RunV D W) us runsI
theorem GoodI.mono {P Q : Nat → Prop} {W : World} {i : It2} (h : ∀ j, P j → Q j) (hi : GoodI P W i) : GoodI Q W i := ⟨hi.1, hi.2.1, fun j hj => h j (hi.2.2 j hj)⟩
theorem RunV.mono {P Q : Nat → Prop} {W : World} {u : Value} {its : List It2} (h : ∀ j, P j → Q j) : RunV P W u its → RunV Q W u its
  | .inl e => .inl e
  | .inr ⟨b, off, c, h1, h2, h3, h4, h5, h6⟩ => .inr ⟨b, off, c, h1, h b h2, h3, h4, h5, fun i hi => (h6 i hi).mono h⟩
theorem OrdR.mono {P Q : Nat → Prop} {W : World} {u : Value} {o : Order} (h : ∀ j, P j → Q j) : OrdR P W u o → OrdR Q W u o
  | .inl e => .inl e
  | .inr ⟨b, off, c, h1, h2, h3, h4⟩ => .inr ⟨b, off, c, h1, h b h2, h3, h4⟩
/-- the blocks X and all that is new -/
def Xto (X : Nat → Prop) (N : Nat) (W' : World) (j : Nat) : Prop := X j ∨ (N ≤ j ∧ j < W'.heap.size)
theorem gr_to {X : Nat → Prop} {W W' : World} (h1 : W'.os = W.os) (h2 : W'.tape = W.tape) (h3 : W'.output = W.output) (hs : W.heap.size ≤ W'.heap.size) (hX : ∀ j, X j → j < W.heap.size)
    (hb : ∀ j, j < W.heap.size → ¬ X j → W'.heap[j]? = W.heap[j]?) : Gr X (Xto X W.heap.size W') W.heap.size W W' :=
  ⟨h1, h2, h3, hs, hb, fun j hj => hj.imp id And.left, fun j hj => by
    rcases hj with h | h
    · exact Nat.lt_of_lt_of_le (hX j h) hs
    · exact h.2⟩
theorem SRx.slt {W : World} {S : Nat} {by_ : Order} {hand : Nat} {nowI : List It2} {runsI : List (List It2)} {k : Nat} {done : Bool} {X D : Nat → Prop} {so nv rv : Value} {us : List Value}
    (h : SRx W S by_ hand nowI runsI k done X D so nv rv us) : S < W.heap.size := h.xlt S h.xS
theorem cell_of_cells {W : World} {S : Nat} {cs : Array Value} {T : TypeId} (h : W.heap[S]? = some (.cells cs T)) {j : Nat} {v : Value} (hj : cs[j]? = some v) : W.cell? ⟨S, j, none⟩ = some v := by
  unfold World.cell?
  simp only [h]
  simpa using hj
theorem frozen_of_cells {W : World} {S : Nat} {cs : Array Value} {T : TypeId} (h : W.heap[S]? = some (.cells cs T)) (j : Nat) : W.frozen? ⟨S, j, none⟩ = false := by
  unfold World.frozen?
  simp [h]
theorem set_cells {W : World} {S : Nat} {cs : Array Value} {T : TypeId} (h : W.heap[S]? = some (.cells cs T)) (j : Nat) (v : Value) : (W.setCell ⟨S, j, none⟩ v).heap[S]? = some (.cells (cs.setIfInBounds j v) T) := by
  simp only [World.setCell, Array.getElem?_modify]
  rw [if_pos trivial, h]
  simp
/-- what does not touch the Sorter's blocks but for S itself -/
theorem SRx.frame {W W' : World} {S : Nat} {by_ : Order} {hand : Nat} {nowI : List It2} {runsI : List (List It2)} {k k' : Nat} {done done' : Bool} {X X' D : Nat → Prop} {so nv rv : Value} {us : List Value}
    (h : SRx W S by_ hand nowI runsI k done X D so nv rv us) (hs : W.heap.size ≤ W'.heap.size) (hb : ∀ j, X j → j ≠ S → W'.heap[j]? = W.heap[j]?)
    (hS : W'.heap[S]? = some (.cells #[so, .int .i64 hand, nv, rv, .int .i64 k', .bool done'] 66)) (hX : ∀ j, X j → X' j) (hX' : ∀ j, X' j → j < W'.heap.size) :
    SRx W' S by_ hand nowI runsI k' done' X' D so nv rv us := by
  have hag : Ag D W W' := ⟨hs, fun j hj => hb j (h.dX j hj) (by rintro rfl; exact h.dS hj)⟩
  exact ⟨hS, hX S h.xS, h.dS, fun j hj => hX j (h.dX j hj), hX', h.ord.ag hag, h.short, ownsRow_same (fun j hj => hb j (h.nblk j hj).1 (h.nblk j hj).2.2) h.nown,
    fun j hj => ⟨hX j (h.nblk j hj).1, (h.nblk j hj).2⟩, fun i hi => (h.nitems i hi).ag hag, ownsRow_same (fun j hj => hb j (h.rblk j hj).1 (h.rblk j hj).2.2.1) h.rown,
    fun j hj => ⟨hX j (h.rblk j hj).1, (h.rblk j hj).2⟩, h.runs.imp fun _ _ hr => hr.ag hag⟩
/-- what is new does not touch the Sorter -/
theorem SRx.below {W W' : World} {S : Nat} {by_ : Order} {hand : Nat} {nowI : List It2} {runsI : List (List It2)} {k : Nat} {done : Bool} {X D : Nat → Prop} {so nv rv : Value} {us : List Value}
    (h : SRx W S by_ hand nowI runsI k done X D so nv rv us) (hb : Below W.heap.size W W') : SRx W' S by_ hand nowI runsI k done X D so nv rv us :=
  h.frame hb.size (fun j hj _ => hb.block j (h.xlt j hj)) ((hb.block S h.slt).trans h.cells) (fun _ h => h) (fun j hj => Nat.lt_of_lt_of_le (h.xlt j hj) hb.size)
/-- the numbers in S are set -/
theorem SRx.setn {W : World} {S : Nat} {by_ : Order} {hand : Nat} {nowI : List It2} {runsI : List (List It2)} {k : Nat} {done : Bool} {X D : Nat → Prop} {so nv rv : Value} {us : List Value}
    (h : SRx W S by_ hand nowI runsI k done X D so nv rv us) (k' : Nat) : SRx (W.setCell ⟨S, 4, none⟩ (.int .i64 k')) S by_ hand nowI runsI k' done X D so nv rv us :=
  h.frame (by rw [size_setCell]; exact Nat.le_refl _) (fun j _ hj => Below.heap_setCell _ _ _ j hj) (set_cells h.cells 4 _) (fun _ h => h) (fun j hj => by rw [size_setCell]; exact h.xlt j hj)
theorem SRx.setd {W : World} {S : Nat} {by_ : Order} {hand : Nat} {nowI : List It2} {runsI : List (List It2)} {k : Nat} {done : Bool} {X D : Nat → Prop} {so nv rv : Value} {us : List Value}
    (h : SRx W S by_ hand nowI runsI k done X D so nv rv us) (d : Bool) : SRx (W.setCell ⟨S, 5, none⟩ (.bool d)) S by_ hand nowI runsI k d X D so nv rv us :=
  h.frame (by rw [size_setCell]; exact Nat.le_refl _) (fun j _ hj => Below.heap_setCell _ _ _ j hj) (set_cells h.cells 5 _) (fun _ h => h) (fun j hj => by rw [size_setCell]; exact h.xlt j hj)
theorem gr_set {X : Nat → Prop} {W : World} (hX : ∀ j, X j → j < W.heap.size) {a : Addr} (v : Value) (ha : X a.block) : Gr X X W.heap.size W (W.setCell a v) :=
  ⟨rfl, rfl, rfl, by rw [size_setCell]; exact Nat.le_refl _, fun j _ hx => Below.heap_setCell _ _ _ j (by rintro rfl; exact hx ha), fun _ h => .inl h, fun j hj => by rw [size_setCell]; exact hX j hj⟩
/-- PUT's row: cloned and appended to those at hand. -/
theorem SRx.push {W W2 w5 : World} {S : Nat} {by_ : Order} {hand : Nat} {nowI : List It2} {runsI : List (List It2)} {k : Nat} {done : Bool} {X D : Nat → Prop} {so nv rv v' : Value} {us : List Value} {r : RV} {row : List V3} {tmp : Obj}
    (h : SRx W S by_ hand nowI runsI k done X D so nv rv us) (hb : Below W.heap.size W W2) (hC : Cont W2 r row) (hn : r.n ≤ 1000) (hblk : ∀ j, r.blk j → W.heap.size ≤ j)
    (hown : w5.ownsRow 0 48 1 v' (nowI.length + 1) (nowI.map vI ++ [r.v])) (hgrow : (W2.alloc tmp).grownBy w5 nv.ownBlock) (hob : v'.ownBlock = nv.ownBlock ∨ v'.ownBlock = some (W2.alloc tmp).heap.size) :
    SRx (w5.setCell ⟨S, 2, none⟩ v') S by_ hand (nowI ++ [(r, row)]) runsI k done (Xto X W.heap.size (w5.setCell ⟨S, 2, none⟩ v')) (fun j => D j ∨ r.blk j) so v' rv us ∧
      Gr X (Xto X W.heap.size (w5.setCell ⟨S, 2, none⟩ v')) W.heap.size W (w5.setCell ⟨S, 2, none⟩ v') := by
  have hs2 := hb.size
  have hs5 := hgrow.size
  rw [World.size_alloc] at hs5
  have hz : (w5.setCell ⟨S, 2, none⟩ v').heap.size = w5.heap.size := size_setCell _ _ _
  have h6 : ∀ j, j ≠ S → (w5.setCell ⟨S, 2, none⟩ v').heap[j]? = w5.heap[j]? := fun j hj => Below.heap_setCell _ _ _ j hj
  have h5 : ∀ j, j < W2.heap.size → nv.ownBlock ≠ some j → w5.heap[j]? = W2.heap[j]? := fun j hj hv =>
    (hgrow.block j (by rw [World.size_alloc]; omega) (fun e => hv e.symm)).trans (Below.heap_alloc W2 tmp j hj)
  have h52 : ∀ j, j < W.heap.size → nv.ownBlock ≠ some j → w5.heap[j]? = W.heap[j]? := fun j hj hv => (h5 j (by omega) hv).trans (hb.block j hj)
  have hSn : nv.ownBlock ≠ some S := fun e => (h.nblk S e).2.2 rfl
  have hDn : ∀ j, D j → nv.ownBlock ≠ some j := fun j hj e => (h.nblk j e).2.1 hj
  have hbl : ∀ j, r.blk j → j < W2.heap.size := fun j hj => hC.blt j hj
  have hD : ∀ j, D j → (w5.setCell ⟨S, 2, none⟩ v').heap[j]? = W.heap[j]? := fun j hj => (h6 j (by rintro rfl; exact h.dS hj)).trans (h52 j (h.xlt j (h.dX j hj)) (hDn j hj))
  have hag : Ag D W (w5.setCell ⟨S, 2, none⟩ v') := ⟨by rw [hz]; omega, hD⟩
  have hS5 : w5.heap[S]? = W.heap[S]? := h52 S h.slt hSn
  have hv'lt : ∀ j, v'.ownBlock = some j → j < w5.heap.size ∧ (nv.ownBlock = some j ∨ j = W2.heap.size + 1) := fun j hj => by
    refine ⟨?_, ?_⟩
    · rcases hown.2 with ⟨rfl, h0⟩ | ⟨g, cap, cur, rfl, h1, h2, _⟩
      · cases hj
      · injection hj with hj; rw [← hj]; exact (Array.getElem?_eq_some_iff.1 h2).1
    · rcases hob with e | e
      · exact .inl (e ▸ hj)
      · rw [e, World.size_alloc] at hj; injection hj with hj; exact .inr hj.symm
  have hv'X : ∀ j, v'.ownBlock = some j → Xto X W.heap.size (w5.setCell ⟨S, 2, none⟩ v') j ∧ ¬ (D j ∨ r.blk j) ∧ j ≠ S := fun j hj => by
    obtain ⟨k1, k2⟩ := hv'lt j hj
    rcases k2 with k2 | k2
    · obtain ⟨x1, x2, x3⟩ := h.nblk j k2
      exact ⟨.inl x1, by rintro (d | d); exact x2 d; have := hblk j d; have := h.xlt j x1; omega, x3⟩
    · exact ⟨.inr ⟨by omega, by rw [hz]; exact k1⟩, by rintro (d | d); have := h.xlt j (h.dX j d); omega; have := hbl j d; omega, by have := h.slt; omega⟩
  refine ⟨⟨?_, .inl h.xS, ?_, ?_, ?_, (h.ord.ag hag).mono (fun _ => .inl), h.short, ?_, hv'X, ?_, ?_, ?_, ?_⟩, ?_⟩
  · exact set_cells (hS5.trans h.cells) 2 _
  · rintro (d | d)
    · exact h.dS d
    · have := hblk S d; have := h.slt; omega
  · rintro j (d | d)
    · exact .inl (h.dX j d)
    · exact .inr ⟨hblk j d, by rw [hz]; have := hbl j d; omega⟩
  · rintro j (d | d)
    · rw [hz]; have := h.xlt j d; omega
    · exact d.2
  · rw [List.length_append, List.map_append]
    exact ownsRow_same (fun j hj => h6 j (hv'X j hj).2.2) hown
  · intro i hi
    rcases List.mem_append.1 hi with hi | hi
    · exact ((h.nitems i hi).ag hag).mono (fun _ => .inl)
    · rw [List.mem_singleton.1 hi]
      refine ⟨hC.same (by rw [hz]; omega) (fun j hj => ?_), hn, fun j => .inr⟩
      have := hblk j hj
      exact (h6 j (by have := h.slt; omega)).trans (h5 j (hbl j hj) (fun e => by have := h.xlt j (h.nblk j e).1; omega))
  · refine ownsRow_same (fun j hj => ?_) h.rown
    obtain ⟨x1, x2, x3, x4⟩ := h.rblk j hj
    exact (h6 j x3).trans (h52 j (h.xlt j x1) x4)
  · intro j hj
    obtain ⟨x1, x2, x3, x4⟩ := h.rblk j hj
    refine ⟨.inl x1, ?_, x3, fun e => ?_⟩
    · rintro (d | d)
      · exact x2 d
      · have := hblk j d; have := h.xlt j x1; omega
    · rcases (hv'lt j e).2 with k2 | k2
      · exact x4 k2
      · have := h.xlt j x1; omega
  · exact h.runs.imp fun _ _ hr => (hr.ag hag).mono (fun _ => .inl)
  · refine gr_to (hgrow.os.trans hb.os) (hgrow.tape.trans hb.tape) (hgrow.output.trans hb.output) (by rw [hz]; omega) h.xlt (fun j hj hx => ?_)
    exact (h6 j (by rintro rfl; exact hx h.xS)).trans (h52 j hj (fun e => hx (h.nblk j e).1))
end Go.Proofs.Ytghpjlohoehdnaa.Sep

/-! What a Sorter holds, and how laying aside changes it. No condition beyond those that each theorem names. -/
namespace Go.Proofs.Ytghpjlohoehdnaa.Sep
open Go Go.RowKit Go.Shelf
set_option linter.unusedVariables false
set_option linter.unusedSimpArgs false
theorem rowB_of_own {W : World} {v : Value} {N : Nat} {its : List It2} (h : W.ownsRow N 48 1 v its.length (its.map vI)) (hn : its ≠ []) :
    ∃ g cap spare, v = .slice (some ⟨g, 0, none⟩) its.length cap ∧ RowB W g its spare ∧ its.length + spare.length = cap ∧ cap ≤ maxLen ∧ N ≤ g := by
  rcases h.2 with ⟨_, h0⟩ | ⟨g, cap, cur, rfl, h1, h2, h3, h4, h5, h6⟩
  · exact absurd (List.eq_nil_of_length_eq_zero h0) hn
  · refine ⟨g, cap, cur.toList.drop its.length, rfl, ?_, ?_, h4, h1⟩
    · unfold RowB
      rw [h2]
      have e : ((its.map fun i => RV.v i.1) ++ cur.toList.drop its.length).toArray = cur := by
        rw [show (its.map fun i => RV.v i.1) = cur.toList.take its.length by rw [Nat.mul_one] at h6; exact h6.symm, List.take_append_drop]
      rw [e]
    · have e1 : cur.toList.length = cur.size := Array.length_toList
      rw [List.length_drop]
      omega
theorem own_of_rowB {W : World} {g cap N : Nat} {its : List It2} {spare : List Value} (h : RowB W g its spare) (hc : its.length + spare.length = cap) (hm : cap ≤ maxLen) (hN : N ≤ g) :
    W.ownsRow N 48 1 (.slice (some ⟨g, 0, none⟩) its.length cap) its.length (its.map vI) := by
  refine ⟨by simp, .inr ⟨g, cap, _, rfl, hN, h, by omega, hm, by simp; omega, ?_⟩⟩
  simp only [Nat.mul_one]
  rw [show its.length = (its.map fun i => RV.v i.1).length by simp, List.take_left']
  simp
/-- the rows at hand are put in another order -/
theorem SRx.sorted {W W' : World} {S : Nat} {by_ : Order} {hand : Nat} {nowI nowI' : List It2} {runsI : List (List It2)} {k : Nat} {done : Bool} {X D : Nat → Prop} {so rv : Value} {us : List Value} {g cap : Nat} {spare : List Value}
    (h : SRx W S by_ hand nowI runsI k done X D so (.slice (some ⟨g, 0, none⟩) nowI.length cap) rv us) (hc : nowI.length + spare.length = cap) (hm : cap ≤ maxLen) (hB : RowB W' g nowI' spare) (hN : Near g W W') (hl : nowI'.length = nowI.length) (hp : ∀ i ∈ nowI', i ∈ nowI) :
    SRx W' S by_ hand nowI' runsI k done X D so (.slice (some ⟨g, 0, none⟩) nowI.length cap) rv us ∧ Gr X X W.heap.size W W' := by
  obtain ⟨gX, gD, gS⟩ := h.nblk g rfl
  have hb : ∀ j, X j → j ≠ g → W'.heap[j]? = W.heap[j]? := fun j hj hg => hN.block j (h.xlt j hj) hg
  have hag : Ag D W W' := ⟨hN.size, fun j hj => hb j (h.dX j hj) (by rintro rfl; exact gD hj)⟩
  refine ⟨⟨(hb S h.xS (fun e => gS e.symm)).trans h.cells, h.xS, h.dS, h.dX, fun j hj => Nat.lt_of_lt_of_le (h.xlt j hj) hN.size, h.ord.ag hag, h.short, ?_, h.nblk, fun i hi => (h.nitems i (hp i hi)).ag hag,
    ownsRow_same (fun j hj => hb j (h.rblk j hj).1 (fun e => (h.rblk j hj).2.2.2 (by rw [e]; rfl))) h.rown, h.rblk, h.runs.imp fun _ _ hr => hr.ag hag⟩, ?_⟩
  · rw [← hl]
    exact own_of_rowB hB (by omega) hm (Nat.zero_le _)
  · exact ⟨hN.os, hN.tape, hN.output, hN.size, fun j hj hx => hN.block j hj (by rintro rfl; exact hx gX), fun _ h => .inl h, fun j hj => Nat.lt_of_lt_of_le (h.xlt j hj) hN.size⟩
/-- the rows at hand are laid aside -/
theorem SRx.aside {W W2 w5 W6 : World} {S : Nat} {by_ : Order} {hand : Nat} {nowI : List It2} {runsI : List (List It2)} {k : Nat} {done : Bool} {X D : Nat → Prop} {so rv v' : Value} {us : List Value} {g cap : Nat} {spare : List Value} {tmp : Obj}
    (h : SRx W S by_ hand nowI runsI k done X D so (.slice (some ⟨g, 0, none⟩) nowI.length cap) rv us) (hR : RowB W g nowI spare) (hc : nowI.length + spare.length = cap) (hb : Below W.heap.size W W2)
    (hown : w5.ownsRow 0 22 1 v' (us.length + 1) (us ++ [.slice (some ⟨g, 0, none⟩) nowI.length cap])) (hgrow : (W2.alloc tmp).grownBy w5 rv.ownBlock) (hob : rv.ownBlock = v'.ownBlock ∨ v'.ownBlock = some (W2.alloc tmp).heap.size)
    (hz : W6.heap.size = w5.heap.size) (ho : W6.os = w5.os ∧ W6.tape = w5.tape ∧ W6.output = w5.output) (h6 : ∀ j, j ≠ S → W6.heap[j]? = w5.heap[j]?)
    (hS6 : ∀ cs, w5.heap[S]? = some (.cells cs 66) → W6.heap[S]? = some (.cells ((cs.setIfInBounds 3 v').setIfInBounds 2 (.slice none 0 0)) 66)) :
    SRx W6 S by_ hand [] (runsI ++ [nowI]) k done (Xto X W.heap.size W6) (fun j => D j ∨ j = g) so (.slice none 0 0) v' (us ++ [.slice (some ⟨g, 0, none⟩) nowI.length cap]) ∧ Gr X (Xto X W.heap.size W6) W.heap.size W W6 := by
  obtain ⟨gX, gD, gS⟩ := h.nblk g rfl
  have hs2 := hb.size
  have hs5 := hgrow.size
  rw [World.size_alloc] at hs5
  have h52 : ∀ j, j < W.heap.size → rv.ownBlock ≠ some j → w5.heap[j]? = W.heap[j]? := fun j hj hv =>
    (hgrow.block j (by rw [World.size_alloc]; omega) (fun e => hv e.symm)).trans ((Below.heap_alloc W2 tmp j (by omega)).trans (hb.block j hj))
  have hSr : rv.ownBlock ≠ some S := fun e => (h.rblk S e).2.2.1 rfl
  have hgr : rv.ownBlock ≠ some g := fun e => (h.rblk g e).2.2.2 rfl
  have hD' : ∀ j, (D j ∨ j = g) → W6.heap[j]? = W.heap[j]? := by
    rintro j (hj | rfl)
    · exact (h6 j (by rintro rfl; exact h.dS hj)).trans (h52 j (h.xlt j (h.dX j hj)) (fun e => (h.rblk j e).2.1 hj))
    · exact (h6 j gS).trans (h52 j (h.xlt j gX) hgr)
  have hag : Ag (fun j => D j ∨ j = g) W W6 := ⟨by rw [hz]; omega, hD'⟩
  have hag1 : Ag D W W6 := ⟨hag.1, fun j hj => hD' j (.inl hj)⟩
  have hv'lt : ∀ j, v'.ownBlock = some j → j < w5.heap.size ∧ (rv.ownBlock = some j ∨ j = W2.heap.size + 1) := fun j hj => by
    refine ⟨?_, ?_⟩
    · rcases hown.2 with ⟨rfl, h0⟩ | ⟨g, cap, cur, rfl, h1, h2, _⟩
      · cases hj
      · injection hj with hj; rw [← hj]; exact (Array.getElem?_eq_some_iff.1 h2).1
    · rcases hob with e | e
      · exact .inl (e ▸ hj)
      · rw [e, World.size_alloc] at hj; injection hj with hj; exact .inr hj.symm
  have hv'X : ∀ j, v'.ownBlock = some j → Xto X W.heap.size W6 j ∧ ¬ (D j ∨ j = g) ∧ j ≠ S := fun j hj => by
    obtain ⟨k1, k2⟩ := hv'lt j hj
    rcases k2 with k2 | k2
    · obtain ⟨x1, x2, x3, x4⟩ := h.rblk j k2
      exact ⟨.inl x1, by rintro (d | d); exact x2 d; exact x4 (by rw [d]; rfl), x3⟩
    · exact ⟨.inr ⟨by omega, by rw [hz]; exact k1⟩, by rintro (d | d); have := h.xlt j (h.dX j d); omega; have := h.xlt g gX; omega, by have := h.slt; omega⟩
  have hrun : RunV (fun j => D j ∨ j = g) W (.slice (some ⟨g, 0, none⟩) nowI.length cap) nowI :=
    .inr ⟨g, 0, cap, rfl, .inr rfl, hR.lt, by omega, fun j i hi => by rw [Nat.zero_add]; exact hR.cell hi, fun i hi => (h.nitems i hi).mono fun _ => .inl⟩
  refine ⟨⟨?_, .inl h.xS, ?_, ?_, ?_, (h.ord.ag hag1).mono fun _ => .inl, h.short, World.ownsRow_nil _ _ _ _, (fun j hj => by cases hj), (fun i hi => by cases hi), ?_, fun j hj => ⟨(hv'X j hj).1, (hv'X j hj).2.1, (hv'X j hj).2.2, by simp [Value.ownBlock]⟩, ?_⟩, ?_⟩
  · exact hS6 _ ((h52 S h.slt hSr).trans h.cells)
  · rintro (d | d)
    · exact h.dS d
    · exact gS d.symm
  · rintro j (d | rfl)
    · exact .inl (h.dX j d)
    · exact .inl gX
  · rintro j (d | d)
    · rw [hz]; have := h.xlt j d; omega
    · exact d.2
  · rw [List.length_append, List.length_singleton]
    exact ownsRow_same (fun j hj => h6 j (hv'X j hj).2.2) hown
  · exact All2.snoc (hrun.ag hag) (h.runs.imp fun _ _ hr => (hr.ag hag1).mono fun _ => .inl)
  · refine gr_to (ho.1.trans (hgrow.os.trans hb.os)) (ho.2.1.trans (hgrow.tape.trans hb.tape)) (ho.2.2.trans (hgrow.output.trans hb.output)) (by rw [hz]; omega) h.xlt (fun j hj hx => ?_)
    exact (h6 j (by rintro rfl; exact hx h.xS)).trans (h52 j hj (fun e => hx (h.rblk j e).1))
/-- the runs are others: a new list, of elder runs and new ones -/
theorem SRx.newruns {W w5 : World} {S : Nat} {by_ : Order} {hand M : Nat} {runsI runsI' : List (List It2)} {k : Nat} {done : Bool} {X D : Nat → Prop} {so rv v' : Value} {us us' : List Value}
    (h : SRx W S by_ hand [] runsI k done X D so (.slice none 0 0) rv us) (hb : Below W.heap.size W w5) (hM : W.heap.size ≤ M) (hMs : M ≤ w5.heap.size) (hown : w5.ownsRow 0 22 1 v' us'.length us') (hv : ∀ j, v'.ownBlock = some j → M ≤ j)
    (hr : All2 (RunV (fun j => D j ∨ (W.heap.size ≤ j ∧ j < M)) w5) us' runsI') :
    SRx (w5.setCell ⟨S, 3, none⟩ v') S by_ hand [] runsI' k done (Xto X W.heap.size (w5.setCell ⟨S, 3, none⟩ v')) (fun j => D j ∨ (W.heap.size ≤ j ∧ j < M)) so (.slice none 0 0) v' us' ∧
      Gr X (Xto X W.heap.size (w5.setCell ⟨S, 3, none⟩ v')) W.heap.size W (w5.setCell ⟨S, 3, none⟩ v') := by
  have hz : (w5.setCell ⟨S, 3, none⟩ v').heap.size = w5.heap.size := size_setCell _ _ _
  have h6 : ∀ j, j ≠ S → (w5.setCell ⟨S, 3, none⟩ v').heap[j]? = w5.heap[j]? := fun j hj => Below.heap_setCell _ _ _ j hj
  have hsl := h.slt
  have hag1 : Ag D W (w5.setCell ⟨S, 3, none⟩ v') := ⟨by rw [hz]; exact hb.size, fun j hj => (h6 j (by rintro rfl; exact h.dS hj)).trans (hb.block j (h.xlt j (h.dX j hj)))⟩
  have hag : Ag (fun j => D j ∨ (W.heap.size ≤ j ∧ j < M)) w5 (w5.setCell ⟨S, 3, none⟩ v') := ⟨by rw [hz]; exact Nat.le_refl _, fun j hj => h6 j (by
    rintro rfl
    rcases hj with d | d
    · exact h.dS d
    · omega)⟩
  have hv'lt : ∀ j, v'.ownBlock = some j → j < w5.heap.size := fun j hj => by
    rcases hown.2 with ⟨rfl, h0⟩ | ⟨g, cap, cur, rfl, h1, h2, _⟩
    · cases hj
    · injection hj with hj; rw [← hj]; exact (Array.getElem?_eq_some_iff.1 h2).1
  refine ⟨⟨set_cells ((hb.block S hsl).trans h.cells) 3 _, .inl h.xS, ?_, ?_, ?_, (h.ord.ag hag1).mono fun _ => .inl, h.short, World.ownsRow_nil _ _ _ _, (fun j hj => by cases hj), (fun i hi => by cases hi),
    ownsRow_same (fun j hj => h6 j (by have := hv j hj; omega)) hown, fun j hj => ⟨.inr ⟨by have := hv j hj; omega, by rw [hz]; exact hv'lt j hj⟩, ?_, by have := hv j hj; omega, by simp [Value.ownBlock]⟩, hr.imp fun _ _ q => q.ag hag⟩, ?_⟩
  · rintro (d | d)
    · exact h.dS d
    · omega
  · rintro j (d | d)
    · exact .inl (h.dX j d)
    · exact .inr ⟨d.1, by rw [hz]; omega⟩
  · rintro j (d | d)
    · rw [hz]; have := h.xlt j d; have := hb.size; omega
    · exact d.2
  · rintro (d | d)
    · have := hv j hj; have := h.xlt j (h.dX j d); omega
    · have := hv j hj; omega
  · refine gr_to hb.os hb.tape hb.output (by rw [hz]; exact hb.size) h.xlt (fun j hj hx => ?_)
    exact (h6 j (by rintro rfl; exact hx h.xS)).trans (hb.block j hj)
/-- what a Sorter's comparison reads -/
theorem SRx.md {W : World} {S : Nat} {by_ : Order} {hand : Nat} {nowI : List It2} {runsI : List (List It2)} {k : Nat} {done : Bool} {X D : Nat → Prop} {so nv rv : Value} {us : List Value}
    (h : SRx W S by_ hand nowI runsI k done X D so nv rv us) : MD (fun j => D j ∨ j = S) W S so by_ :=
  ⟨cell_of_cells h.cells rfl, .inr rfl, h.ord.mono fun _ => .inl, h.short⟩
/-- the comparison, while the rows at hand are put in order -/
theorem SRx.cmpFn {W : World} {S : Nat} {by_ : Order} {hand : Nat} {nowI : List It2} {runsI : List (List It2)} {k : Nat} {done : Bool} {X D : Nat → Prop} {so rv : Value} {us : List Value} {g cap n : Nat}
    (h : SRx W S by_ hand nowI runsI k done X D so (.slice (some ⟨g, 0, none⟩) n cap) rv us) : CmpFn W g nowI (fun a b => cmpR a b by_) (.pointer (some ⟨S, 0, none⟩)) := by
  intro w hn x hx y hy
  obtain ⟨gX, gD, gS⟩ := h.nblk g rfl
  exact h.md.cmp ⟨hn.size, by
    rintro j (hj | rfl)
    · exact hn.block j (h.xlt j (h.dX j hj)) (by rintro rfl; exact gD hj)
    · exact hn.block j h.slt (fun e => gS e.symm)⟩ ((h.nitems x hx).mono fun _ => .inl) ((h.nitems y hy).mono fun _ => .inl)
/-- a list that collect gives, as a run -/
theorem run_of_row {N : Nat} {W : World} {sv : Value} {n : Nat} {rs : List RV} {rows : List (List V3)} (hn : n = rs.length) (h : W.ownsRow N 48 1 sv n (rs.map RV.v)) (hr : All2 (fun r row => Cont W r row ∧ r.n ≤ 1000 ∧ ∀ j, r.blk j → N ≤ j) rs rows) :
    ∃ its : List It2, its.map Prod.snd = rows ∧ RunV (fun j => N ≤ j ∧ j < W.heap.size) W sv its := by
  have hlen := hr.len
  refine ⟨rs.zip rows, by rw [List.map_snd_zip (Nat.le_of_eq hlen.symm)], ?_⟩
  have hzl : (rs.zip rows).length = rs.length := by rw [List.length_zip]; omega
  rcases h.2 with ⟨rfl, h0⟩ | ⟨g, cap, cur, rfl, h1, h2, h3, h4, h5, h6⟩
  · subst hn
    exact .inl ⟨_, _, rfl, List.eq_nil_of_length_eq_zero (by omega)⟩
  · subst hn
    have hg := (Array.getElem?_eq_some_iff.1 h2).1
    refine .inr ⟨g, 0, cap, by rw [hzl], ⟨h1, hg⟩, hg, by omega, fun j i hi => ?_, fun i hi => ?_⟩
    · have hj := (List.getElem?_eq_some_iff.1 hi).1
      have hi1 : rs[j]? = some i.1 := by
        rw [List.getElem?_zip_eq_some] at hi
        exact hi.1
      unfold World.cell?
      simp only [h2]
      have hj2 : (rs.map RV.v)[j]? = some (RV.v i.1) := by rw [List.getElem?_map, hi1]; rfl
      rw [← h6, List.getElem?_take_of_lt (by omega), Array.getElem?_toList] at hj2
      simpa using hj2
    · obtain ⟨j, hj, hij⟩ := List.getElem_of_mem hi
      have hi2 : (rs.zip rows)[j]? = some i := by rw [List.getElem?_eq_getElem hj, hij]
      rw [List.getElem?_zip_eq_some] at hi2
      obtain ⟨q1, q2, q3⟩ := hr.get j _ _ hi2.1 hi2.2
      exact ⟨q1, q2, fun j hj => ⟨q3 j hj, q1.blt j hj⟩⟩
end Go.Proofs.Ytghpjlohoehdnaa.Sep

/-! Runs merged and collected; what lays needs beside. No condition beyond those that each theorem names. -/
namespace Go.Proofs.Ytghpjlohoehdnaa.Sep
open Go Go.RowKit Go.Shelf
set_option linter.unusedVariables false
set_option linter.unusedSimpArgs false
theorem all2_drop {α β : Type} {P : α → β → Prop} : ∀ (n : Nat) {l : List α} {m : List β}, All2 P l m → All2 P (l.drop n) (m.drop n)
  | 0, _, _, h => h
  | n + 1, [], [], _ => trivial
  | n + 1, a :: l, b :: m, h => all2_drop n h.2
theorem all2_take {α β : Type} {P : α → β → Prop} : ∀ (n : Nat) {l : List α} {m : List β}, All2 P l m → All2 P (l.take n) (m.take n)
  | 0, [], [], _ => trivial
  | 0, _ :: _, _ :: _, _ => trivial
  | n + 1, [], [], _ => trivial
  | n + 1, a :: l, b :: m, h => ⟨h.1, all2_take n h.2⟩
theorem lens_of {R : Nat → Prop} {W : World} {c : List V3 → List V3 → Int} : ∀ {us : List Value} {its : List (List It2)} {ins : List (List (List V3))}, All2 (RunV R W) us its → its.map (List.map Prod.snd) = ins.map (stab c) → Lens us (ins.map List.length)
  | [], [], [], _, _ => trivial
  | [], [], _ :: _, _, h => by cases h
  | _ :: _, _ :: _, [], _, h => by cases h
  | u :: us, r :: its, x :: ins, hv, h => by
    simp only [List.map_cons, List.cons.injEq] at h
    refine ⟨?_, lens_of hv.2 h.2⟩
    obtain ⟨a, c, e⟩ := hv.1.shape
    have hl := congrArg List.length h.1
    rw [List.length_map, stab_len] at hl
    exact ⟨a, c, by rw [e, hl]⟩
theorem flatten_len_map {ins : List (List (List V3))} {c : List V3 → List V3 → Int} : ∀ {its : List (List It2)} {ins : List (List (List V3))}, its.map (List.map Prod.snd) = ins.map (stab c) → its.flatten.length = ins.flatten.length
  | [], [], _ => rfl
  | [], _ :: _, h => by cases h
  | _ :: _, [], h => by cases h
  | r :: its, x :: ins, h => by
    simp only [List.map_cons, List.cons.injEq] at h
    have hl := congrArg List.length h.1
    rw [List.length_map, stab_len] at hl
    have := flatten_len_map (ins := ins) (c := c) h.2
    simp only [List.flatten_cons, List.length_append]
    omega
theorem ownsRow_base {W : World} {N M : Nat} {T : TypeId} {k : Nat} {v : Value} {n : Nat} {xs : List Value} (h : W.ownsRow N T k v n xs) (hM : M ≤ N) : W.ownsRow M T k v n xs := by
  refine ⟨h.1, ?_⟩
  rcases h.2 with e | ⟨g, cap, cur, e, h1, h2⟩
  · exact .inl e
  · exact .inr ⟨g, cap, cur, e, Nat.le_trans hM h1, h2⟩
theorem own_ge {W : World} {N : Nat} {T : TypeId} {k : Nat} {v : Value} {n : Nat} {xs : List Value} (h : W.ownsRow N T k v n xs) : ∀ j, v.ownBlock = some j → N ≤ j ∧ j < W.heap.size := by
  intro j hj
  rcases h.2 with ⟨rfl, _⟩ | ⟨g, cap, cur, rfl, h1, h2, _⟩
  · cases hj
  · injection hj with hj
    rw [← hj]
    exact ⟨h1, (Array.getElem?_eq_some_iff.1 h2).1⟩
/-- slices.Clone of the first runs -/
theorem cl53_take (g n c : Nat) (L : List Value) (w : World) (hz : L.length = n) (h1 : ∀ u ∈ L, u.oneCell' = true) (hbig : n ≤ 100000) (hc : ∀ j u, L[j]? = some u → w.cell? ⟨g, j, none⟩ = some u) :
    Calls Try.prog 53 #[.slice (some ⟨g, 0, none⟩) n c] w fun e w' => ∃ v', e = .returned v' ∧ w'.ownsRow w.heap.size 22 1 v' n L ∧ Below w.heap.size w w' := by
  rcases Nat.eq_zero_or_pos n with h0 | h0
  · subst h0
    have hL : L = [] := List.eq_nil_of_length_eq_zero hz
    subst hL
    exact cl53_zero ⟨g, 0, none⟩ c w
  · refine (cl53_some g 0 n c L w (by omega) h1 (by omega) (fun j u hu => by rw [Nat.zero_add]; exact hc j u hu)).mono ?_
    rintro e w' ⟨v', rfl, h2, _, h3⟩
    exact ⟨v', rfl, h2, h3⟩
/-- MERGED AND COLLECTED: one run. -/
theorem merge_collect (Bs Br S rb ro rc nu : Nat) (so : Value) (by_ : Order) (its : List (List It2)) (us : List Value) (R : Nat → Prop) (W : World) (hR : ∀ j, R j → j < W.heap.size) (hBs : R Bs) (hBr : R Br)
    (hcs : W.cell? ⟨Bs, 0, none⟩ = some (.pointer (some ⟨S, 0, none⟩))) (hcr : W.cell? ⟨Br, 0, none⟩ = some (.slice (some ⟨rb, ro, none⟩) nu rc)) (hrb : R rb)
    (hus : ∀ j u, us[j]? = some u → W.cell? ⟨rb, ro + j, none⟩ = some u) (hnu : us.length = nu) (hne : 0 < nu) (hul : nu ≤ 100000) (hM : MD R W S so by_) (hV : All2 (RunV R W) us its)
    (ins : List (List (List V3))) (hins : its.map (List.map Prod.snd) = ins.map (stab fun a b => cmpR a b by_)) (hlen : ins.flatten.length ≤ 100000) :
    Calls Try.prog 19 #[.func (.func 75) #[] #[.pointer (some ⟨Br, 0, none⟩), .pointer (some ⟨Bs, 0, none⟩)]] W fun e W' => Below W.heap.size W W' ∧ ∃ sv whole, e = .returned (.tuple #[sv, .int .i64 0]) ∧
      RunV (fun j => W.heap.size ≤ j ∧ j < W'.heap.size) W' sv whole ∧ whole.map Prod.snd = stab (fun a b => cmpR a b by_) ins.flatten := by
  have hit := merge_it Bs Br S rb ro rc nu so by_ its us R W hR hBs hBr hcs hcr hrb hus hnu hne hul hM hV
  have hfl := flatten_len_map (ins := ins) hins
  have hl1 : (merged (fun a b => cmpR a b by_) its.flatten.length its).length = its.flatten.length := (merged_perm _ _ _ rfl).length_eq
  have hsn := merged_stab (cmpR_ord by_) its ins hins
  refine (callsIn_wide.1 (collect_in 3 (Nat.le_refl _) _ _ (((merged (fun a b => cmpR a b by_) its.flatten.length its).map fun i => ((yOf i, i.2) : Pr)).map Prod.snd) R W hit.it (by rw [List.length_map, List.length_map]; omega) hit.all2)).mono ?_
  rintro e W' ⟨hb, ⟨sv, rs, rfl, hz, ho, hr⟩ | ⟨pre, y, hp, hz, hy, rfl⟩⟩
  · refine ⟨hb, ?_⟩
    have hrl := hr.len
    obtain ⟨whole, e1, e2⟩ := run_of_row (by simp only [List.length_map] at hrl ⊢; omega) ho hr
    refine ⟨sv, whole, rfl, e2, ?_⟩
    rw [e1, ← hsn, List.map_map]
    rfl
  · exfalso
    apply hy
    obtain ⟨t, ht⟩ := hp
    have hm : y ∈ ((merged (fun a b => cmpR a b by_) its.flatten.length its).map fun i => ((yOf i, i.2) : Pr)).map Prod.fst := by rw [← ht]; simp
    rw [List.map_map] at hm
    obtain ⟨i, _, rfl⟩ := List.mem_map.1 hm
    rfl
end Go.Proofs.Ytghpjlohoehdnaa.Sep
