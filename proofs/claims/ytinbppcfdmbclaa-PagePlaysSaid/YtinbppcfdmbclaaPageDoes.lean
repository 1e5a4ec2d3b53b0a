/- A call on both sides (`does`), walked: each kind of call. No condition beyond those that each theorem names. -/
import Derived.Test.YtinbppcfdmbclaaPageRSplit
import Derived.Test.YtinbppcfdmbclaaPageSame
namespace Go.Proofs.Ytinbppcfdmbclaa.Pg
open Go.RowKit Go.Proofs.YtinbppcfdmbclaaW.PrintWords Go.Proofs.YtinbppcfdmbclaaW.PrintLast Go.Proofs.YtinbppcfdmbclaaW.PrintMore
set_option linter.unusedVariables false
set_option linter.unusedSimpArgs false
/-- the blocks of `does`: the page, the call, what is handed back -/
structure DBlk (W : World) (g b : Nat) (kind : Int) (u : Value) (a0 a1 : Int) (k v : ByteArray) : Prop where
  q : W.heap[b]? = some (.cells #[.int .i64 kind, u] 27 (0, 0))
  a : W.heap[b + 1]? = some (.cells #[.int .i64 a0, .int .i64 a1, .string k, .string v] 52 (0, 0))
  r : W.heap[b + 1 + 1]? = some (.cells #[.int .i64 0, .slice none 0 0] 27 (0, 0))
  lt : g < b
theorem BelX.blk {g : Nat} {w w' : World} (hb : BelX g w w') {n : Nat} {o : Obj} (h : w.heap[n]? = some o) (hne : n ≠ g) : w'.heap[n]? = some o := (hb.block n (Array.getElem?_eq_some_iff.1 h).1 hne).trans h
theorem DBlk.belX {W W' : World} {g b : Nat} {kind : Int} {u : Value} {a0 a1 : Int} {k v : ByteArray} (h : DBlk W g b kind u a0 a1 k v) (hb : BelX g W W') : DBlk W' g b kind u a0 a1 k v :=
  ⟨hb.blk h.q (by have := h.lt; omega), hb.blk h.a (by have := h.lt; omega), hb.blk h.r (by have := h.lt; omega), h.lt⟩
theorem DBlk.cells {W : World} {g b : Nat} {kind : Int} {u : Value} {a0 a1 : Int} {k v : ByteArray} (h : DBlk W g b kind u a0 a1 k v) :
    W.cell? ⟨b, 0, none⟩ = some (.int .i64 kind) ∧ W.cell? ⟨b, 1, none⟩ = some u ∧ W.cell? ⟨b + 1, 0, none⟩ = some (.int .i64 a0) ∧ W.cell? ⟨b + 1, 1, none⟩ = some (.int .i64 a1) ∧ W.cell? ⟨b + 1, 2, none⟩ = some (.string k) ∧ W.cell? ⟨b + 1, 3, none⟩ = some (.string v) ∧
    W.cell? ⟨b + 1 + 1, 0, none⟩ = some (.int .i64 0) ∧ W.cell? ⟨b + 1 + 1, 1, none⟩ = some (.slice none 0 0) ∧ W.frozen? ⟨b + 1 + 1, 0, none⟩ = false ∧ W.frozen? ⟨b + 1 + 1, 1, none⟩ = false :=
  ⟨(blk_cell h.q 0).trans rfl, (blk_cell h.q 1).trans rfl, (blk_cell h.a 0).trans rfl, (blk_cell h.a 1).trans rfl, (blk_cell h.a 2).trans rfl, (blk_cell h.a 3).trans rfl, (blk_cell h.r 0).trans rfl, (blk_cell h.r 1).trans rfl, blk_frozen h.r 0, blk_frozen h.r 1⟩
theorem DBlk.mk' {w : World} {g : Nat} (kind : Int) (u : Value) (a0 a1 : Int) (k v : ByteArray) (hg : g < w.heap.size) :
    DBlk (((w.alloc (.cells #[.int .i64 kind, u] 27)).alloc (.cells #[.int .i64 a0, .int .i64 a1, .string k, .string v] 52)).alloc (.cells #[.int .i64 0, .slice none 0 0] 27)) g w.heap.size kind u a0 a1 k v :=
  ⟨(three_alloc w _ _ _).1, (three_alloc w _ _ _).2.1, (three_alloc w _ _ _).2.2.1, hg⟩
theorem BelX.setNew {g : Nat} {w W : World} (h : BelX g w W) (a : Addr) (v : Value) (ha : w.heap.size ≤ a.block) : BelX g w (W.setCell a v) :=
  ⟨h.os, h.tape, h.output, Nat.le_trans h.size (Nat.le_of_eq (show W.heap.size = (W.setCell a v).heap.size from by simp [World.setCell])), fun i hi hg => (Below.heap_setCell W a v i (by omega)).trans (h.block i hi hg)⟩
theorem finD {w w0 W8 : World} {g b : Nat} {kind : Int} {u : Value} {a0 a1 : Int} {k v : ByteArray} {kd : UInt8} {L' : List S66} {v1 : Value} (hd : DBlk W8 g b kind u a0 a1 k v) (hp : PGL W8 g kd L') (ho : Kd.R k66 66 W8 w0.heap.size (fun _ => True) v1 L') (hx : BelX g w W8) (hb : w.heap.size ≤ b) (x : Int) :
    ((W8.setCell ⟨b + 1 + 1, 0, none⟩ (.int .i64 x)).setCell ⟨b + 1 + 1, 1, none⟩ v1).heap[b + 1 + 1]? = some (.cells #[.int .i64 x, v1] 27 (0, 0)) ∧ PGL ((W8.setCell ⟨b + 1 + 1, 0, none⟩ (.int .i64 x)).setCell ⟨b + 1 + 1, 1, none⟩ v1) g kd L' ∧ Kd.R k66 66 ((W8.setCell ⟨b + 1 + 1, 0, none⟩ (.int .i64 x)).setCell ⟨b + 1 + 1, 1, none⟩ v1) w0.heap.size (fun _ => True) v1 L' ∧ BelX g w ((W8.setCell ⟨b + 1 + 1, 0, none⟩ (.int .i64 x)).setCell ⟨b + 1 + 1, 1, none⟩ v1) := by
  have h1 := blk_put hd.r 0 (.int .i64 x) rfl
  have h2 := blk_put h1 1 v1 rfl
  have hlt := hd.lt
  refine ⟨h2, ⟨⟨?_, hp.pg.len⟩, hp.cells⟩, Kd.R_set (Kd.R_set ho hd.r ht27 0 _) h1 ht27 1 _, (hx.setNew ⟨b + 1 + 1, 0, none⟩ _ (by show w.heap.size ≤ b + 1 + 1; omega)).setNew ⟨b + 1 + 1, 1, none⟩ _ (by show w.heap.size ≤ b + 1 + 1; omega)⟩
  exact (Below.heap_setCell _ ⟨b + 1 + 1, 1, none⟩ _ g (by show g ≠ b + 1 + 1; omega)).trans ((Below.heap_setCell _ ⟨b + 1 + 1, 0, none⟩ _ g (by show g ≠ b + 1 + 1; omega)).trans hp.pg.blk)
theorem heldD {W1 w' : World} {g b b8 : Nat} {kind kind8 : Int} {u u8 : Value} {a0 a1 : Int} {k v : ByteArray} (hn : W1.heap[b8]? = some (.cells #[.int .i64 kind8, u8] 27 (0, 0))) (hne : b8 ≠ g) (hd : DBlk W1 g b kind u a0 a1 k v) (hb : BelX g W1 w') :
    w'.cell? ⟨b8, 0, none⟩ = some (.int .i64 kind8) ∧ w'.cell? ⟨b8, 1, none⟩ = some u8 ∧ w'.cell? ⟨b + 1, 2, none⟩ = some (.string k) ∧ w'.cell? ⟨b + 1, 3, none⟩ = some (.string v) ∧ Aside0 True := by
  have h1 := hb.blk hn hne
  have h2 := hd.belX hb
  exact ⟨(blk_cell h1 0).trans rfl, (blk_cell h1 1).trans rfl, h2.cells.2.2.2.2.1, h2.cells.2.2.2.2.2.1, ⟨trivial⟩⟩
theorem heldF {W1 w' : World} {g b b8 : Nat} {kind kind8 : Int} {u u8 : Value} {a0 a1 : Int} {k v : ByteArray} (hn : W1.heap[b8]? = some (.cells #[.int .i64 kind8, u8] 27 (0, 0))) (hne : b8 ≠ g) (hd : DBlk W1 g b kind u a0 a1 k v) (hb : BelX g W1 w') :
    w'.cell? ⟨b8, 0, none⟩ = some (.int .i64 kind8) ∧ w'.cell? ⟨b8, 1, none⟩ = some u8 ∧ w'.cell? ⟨b, 0, none⟩ = some (.int .i64 kind) ∧ w'.cell? ⟨b, 1, none⟩ = some u ∧ Aside0 True := by
  have h1 := hb.blk hn hne
  have h2 := hd.belX hb
  exact ⟨(blk_cell h1 0).trans rfl, (blk_cell h1 1).trans rfl, h2.cells.1, h2.cells.2.1, ⟨trivial⟩⟩
theorem heldG {W1 w' : World} {g b b8 : Nat} {kind kind8 : Int} {u u8 : Value} {a0 a1 : Int} {k v : ByteArray} (hn : W1.heap[b8]? = some (.cells #[.int .i64 kind8, u8] 27 (0, 0))) (hne : b8 ≠ g) (hne2 : b8 ≠ b + 1 + 1) (hd : DBlk W1 g b kind u a0 a1 k v) (hb : BelX g W1 w') (x y : Value) :
    ((w'.setCell ⟨b + 1 + 1, 0, none⟩ x).setCell ⟨b + 1 + 1, 1, none⟩ y).cell? ⟨b8, 0, none⟩ = some (.int .i64 kind8) ∧ ((w'.setCell ⟨b + 1 + 1, 0, none⟩ x).setCell ⟨b + 1 + 1, 1, none⟩ y).cell? ⟨b8, 1, none⟩ = some u8 ∧ ((w'.setCell ⟨b + 1 + 1, 0, none⟩ x).setCell ⟨b + 1 + 1, 1, none⟩ y).cell? ⟨b, 0, none⟩ = some (.int .i64 kind) ∧ ((w'.setCell ⟨b + 1 + 1, 0, none⟩ x).setCell ⟨b + 1 + 1, 1, none⟩ y).cell? ⟨b, 1, none⟩ = some u ∧ Aside0 True := by
  have e : ∀ n, n ≠ b + 1 + 1 → ((w'.setCell ⟨b + 1 + 1, 0, none⟩ x).setCell ⟨b + 1 + 1, 1, none⟩ y).heap[n]? = w'.heap[n]? := fun n hn => (Below.heap_setCell _ ⟨b + 1 + 1, 1, none⟩ y n hn).trans (Below.heap_setCell _ ⟨b + 1 + 1, 0, none⟩ x n hn)
  have h1 := (e b8 hne2).trans (hb.blk hn hne)
  have h2 := (e b (by omega)).trans (hd.belX hb).q
  exact ⟨(blk_cell h1 0).trans rfl, (blk_cell h1 1).trans rfl, (blk_cell h2 0).trans rfl, (blk_cell h2 1).trans rfl, ⟨trivial⟩⟩
theorem heldE {W1 w' : World} {g b b8 : Nat} {kind kind8 : Int} {u u8 : Value} {a0 a1 : Int} {k v : ByteArray} (hn : W1.heap[b8]? = some (.cells #[.int .i64 kind8, u8] 27 (0, 0))) (hne : b8 ≠ g) (hne2 : b8 ≠ b + 1 + 1) (hd : DBlk W1 g b kind u a0 a1 k v) (hb : BelX g W1 w') (x y : Value) :
    ((w'.setCell ⟨b + 1 + 1, 0, none⟩ x).setCell ⟨b + 1 + 1, 1, none⟩ y).cell? ⟨b8, 0, none⟩ = some (.int .i64 kind8) ∧ ((w'.setCell ⟨b + 1 + 1, 0, none⟩ x).setCell ⟨b + 1 + 1, 1, none⟩ y).cell? ⟨b8, 1, none⟩ = some u8 ∧ ((w'.setCell ⟨b + 1 + 1, 0, none⟩ x).setCell ⟨b + 1 + 1, 1, none⟩ y).cell? ⟨b + 1, 2, none⟩ = some (.string k) ∧ ((w'.setCell ⟨b + 1 + 1, 0, none⟩ x).setCell ⟨b + 1 + 1, 1, none⟩ y).cell? ⟨b + 1, 3, none⟩ = some (.string v) ∧ Aside0 True := by
  have e : ∀ n, n ≠ b + 1 + 1 → ((w'.setCell ⟨b + 1 + 1, 0, none⟩ x).setCell ⟨b + 1 + 1, 1, none⟩ y).heap[n]? = w'.heap[n]? := fun n hn => (Below.heap_setCell _ ⟨b + 1 + 1, 1, none⟩ y n hn).trans (Below.heap_setCell _ ⟨b + 1 + 1, 0, none⟩ x n hn)
  have h1 := (e b8 hne2).trans (hb.blk hn hne)
  have h2 := (e (b + 1) (by omega)).trans (hd.belX hb).a
  exact ⟨(blk_cell h1 0).trans rfl, (blk_cell h1 1).trans rfl, (blk_cell h2 2).trans rfl, (blk_cell h2 3).trans rfl, ⟨trivial⟩⟩
set_option maxRecDepth 100000 in
set_option maxHeartbeats 4000000 in
theorem Does_drop {w0 w : World} {g : Nat} {kind : UInt8} {L : List S66} {A : Option Addr} {cv : Nat} (hp : PGL w g kind L) (hB : Below w0.heap.size w0 w) (hg : w0.heap.size ≤ g) (ho : Kd.R k66 66 w w0.heap.size (fun _ => True) (.slice A L.length cv) L) (a1 : Int) (key value : ByteArray) :
    Calls Try.prog 25 #[.pointer (some ⟨g, 0, none⟩), .agg #[.int .i64 (kind.toNat : Int), .slice A L.length cv], .agg #[.int .i64 1, .int .i64 a1, .string key, .string value]] w fun e w' => ∃ u' L', e = .returned (.tuple #[.agg #[.int .i64 (kind.toNat : Int), u'], .bool true]) ∧ PGL w' g kind L' ∧ Kd.R k66 66 w' w0.heap.size (fun _ => True) u' L' ∧ BelX g w w' := by
  have hu27 := Try.underlying27
  have hu52 := Try.underlying52
  have HT := Aside0.mk (three_alloc w (.cells #[.int .i64 (kind.toNat : Int), .slice A L.length cv] 27) (.cells #[.int .i64 1, .int .i64 a1, .string key, .string value] 52) (.cells #[.int .i64 0, .slice none 0 0] 27)).2.2.2
  have HD := Aside0.mk (DBlk.mk' (w := w) (kind.toNat : Int) (.slice A L.length cv) 1 a1 key value hp.pg.lt)
  have HP := Aside0.mk (hp.below HT.out)
  have HO := Aside0.mk (Kd.R_below ho HT.out)
  have HB := Aside0.mk (below_step hB (HT.out))
  have HG := Aside0.mk hg
  clear hp ho hB hg
  go_enter Try.func25, Try.ntmps25
  go_wp2_with fail
  generalize hW : ((w.alloc (.cells #[.int .i64 (kind.toNat : Int), .slice A L.length cv] 27)).alloc (.cells #[.int .i64 1, .int .i64 a1, .string key, .string value] 52)).alloc (.cells #[.int .i64 0, .slice none 0 0] 27) = W0 at *
  clear hW
  obtain ⟨b, hb⟩ : ∃ b, w.heap.size = b := ⟨_, rfl⟩
  have HBW := Aside0.mk hb
  rw [hb] at HD
  simp only [hb]
  clear hb
  refine (rdrop_L HB.out HO.out HP.out.cells.fits key).mono ?_; rintro e w1 ⟨v1, rfl, ho1, hb1⟩
  obtain ⟨R, hR⟩ : ∃ R, dropR L key = R := ⟨_, rfl⟩
  have HRR := Aside0.mk hR
  simp only [hR] at ho1 ⊢
  clear hR
  obtain ⟨A1, c1, hv1⟩ := Kd.R_slice ho1
  subst hv1
  have hba := below_alloc hb1 (.cells #[.int .i64 (kind.toNat : Int), .slice A1 R.2.length c1] 27)
  have HD1 := Aside0.mk (HD.out.belX (BelX.of_below hba))
  have HP1 := Aside0.mk (HP.out.below hba)
  have HO1 := Aside0.mk (Kd.R_alloc ho1 (.cells #[.int .i64 (kind.toNat : Int), .slice A1 R.2.length c1] 27))
  have HX1 := Aside0.mk ((BelX.of_below (g := g) HT.out).trans (BelX.of_below hba))
  have HN := Aside0.mk (heap_alloc_new w1 (.cells #[.int .i64 (kind.toNat : Int), .slice A1 R.2.length c1] 27))
  have HNg := Aside0.mk (show g < w1.heap.size ∧ b + 1 + 1 < w1.heap.size from ⟨(HP.out.below hb1).pg.lt, (Array.getElem?_eq_some_iff.1 (HD.out.belX (BelX.of_below hb1)).r).1⟩)
  clear ho1 hb1 hba HD HP HO HB HT
  go_wp2_with fail
  generalize hW : w1.alloc (.cells #[.int .i64 (kind.toNat : Int), .slice A1 R.2.length c1] 27) = W1 at *
  clear hW
  generalize w1.heap.size = b8 at *
  have HC := Aside0.mk (show ∀ W, Below W1.heap.size W1 W → Calls Try.prog 20 #[.pointer (some ⟨g, 0, none⟩), .string key] W fun e w' => e = .returned (.int .i64 R.1) ∧ PGL w' g kind R.2 ∧ BelX g W1 w' from fun W hW => by
    have := Drop_any (HP1.out.below hW) key
    rw [HRR.out] at this
    exact this.mono fun e w' ⟨h1, h2, h3⟩ => ⟨h1, h2, (BelX.of_below hW).trans h3⟩)
  go_region_held3 (fun w' => w'.cell? ⟨b8, 0, none⟩ = some (.int .i64 (kind.toNat : Int)) ∧ w'.cell? ⟨b8, 1, none⟩ = some (.slice A1 R.2.length c1) ∧ w'.cell? ⟨b + 1, 2, none⟩ = some (.string key) ∧ w'.cell? ⟨b + 1, 3, none⟩ = some (.string value) ∧ Aside0 True)
    (first | exact heldD HN.out (by have := HNg.out; omega) HD1.out (BelX.of_below (Below.refl _ _)) | exact heldD HN.out (by have := HNg.out; omega) HD1.out (BelX.of_below (below_drew1 (Below.refl _ _))) | exact heldD HN.out (by have := HNg.out; omega) HD1.out (by assumption) | exact heldE HN.out (by have := HNg.out; omega) (by have := HNg.out; omega) HD1.out (by assumption) _ _ | fail)
    (first | (go_simp; go_at_call 20; refine (HC.out _ (by first | exact Below.refl _ _ | exact below_drew1 (Below.refl _ _))).mono ?_; rintro e w8 ⟨rfl, hp8, hb8⟩; have hd8 := (HD1.out.belX hb8).cells; have hcA := hd8.2.2.2.2.2.2.1; have hcB := hd8.2.2.2.2.2.2.2.1; have hfA := hd8.2.2.2.2.2.2.2.2.1; have hfB := hd8.2.2.2.2.2.2.2.2.2; go_simp) | fail)
  have HF := Aside0.mk (finD (HD1.out.belX hb8) hp8 (R_belX HO1.out HP1.out.pg hb8) (HX1.out.trans hb8) (Nat.le_of_eq HBW.out) (kind.toNat : Int))
  clear hcA hcB hfA hfB hd8 hb8 hp8
  go_wp2
  exact bodyPost_ret (results_list (rs := [.cell 6 27, .tmp 7]) rfl (by simp) (.cell (b + 1 + 1) 27 _ (0, 0) _ rfl HF.out.1 Try.underlying27 rfl (by kernel_rfl) (.tmp .nil))) rfl ⟨_, _, rfl, HF.out.2.1, HF.out.2.2.1, HF.out.2.2.2⟩
set_option maxRecDepth 100000 in
set_option maxHeartbeats 4000000 in
theorem Does_put {w0 w : World} {g : Nat} {kind : UInt8} {L : List S66} {A : Option Addr} {cv : Nat} (hp : PGL w g kind L) (hB : Below w0.heap.size w0 w) (hg : w0.heap.size ≤ g) (ho : Kd.R k66 66 w w0.heap.size (fun _ => True) (.slice A L.length cv) L) (x a1 : Int) (key value : ByteArray) (hx : x ≠ 1 ∧ x ≠ 2 ∧ x ≠ 3) :
    Calls Try.prog 25 #[.pointer (some ⟨g, 0, none⟩), .agg #[.int .i64 (kind.toNat : Int), .slice A L.length cv], .agg #[.int .i64 x, .int .i64 a1, .string key, .string value]] w fun e w' => ∃ u' L', e = .returned (.tuple #[.agg #[.int .i64 (kind.toNat : Int), u'], .bool true]) ∧ PGL w' g kind L' ∧ Kd.R k66 66 w' w0.heap.size (fun _ => True) u' L' ∧ BelX g w w' := by
  have hu27 := Try.underlying27
  have hu52 := Try.underlying52
  have HT := Aside0.mk (three_alloc w (.cells #[.int .i64 (kind.toNat : Int), .slice A L.length cv] 27) (.cells #[.int .i64 x, .int .i64 a1, .string key, .string value] 52) (.cells #[.int .i64 0, .slice none 0 0] 27)).2.2.2
  have HD := Aside0.mk (DBlk.mk' (w := w) (kind.toNat : Int) (.slice A L.length cv) x a1 key value hp.pg.lt)
  have HP := Aside0.mk (hp.below HT.out)
  have HO := Aside0.mk (Kd.R_below ho HT.out)
  have HB := Aside0.mk (below_step hB (HT.out))
  have HG := Aside0.mk hg
  clear hp ho hB hg
  have e1 : (x == 1) = false := beq_eq_false_iff_ne.2 hx.1
  have e2 : (x == 2) = false := beq_eq_false_iff_ne.2 hx.2.1
  have e3 : (x == 3) = false := beq_eq_false_iff_ne.2 hx.2.2
  have f1 : decide (x = 1) = false := decide_eq_false hx.1
  have f2 : decide (x = 2) = false := decide_eq_false hx.2.1
  have f3 : decide (x = 3) = false := decide_eq_false hx.2.2
  clear hx
  go_enter Try.func25, Try.ntmps25
  go_wp2_with fail
  generalize hW : ((w.alloc (.cells #[.int .i64 (kind.toNat : Int), .slice A L.length cv] 27)).alloc (.cells #[.int .i64 x, .int .i64 a1, .string key, .string value] 52)).alloc (.cells #[.int .i64 0, .slice none 0 0] 27) = W0 at *
  clear hW
  obtain ⟨b, hb⟩ : ∃ b, w.heap.size = b := ⟨_, rfl⟩
  have HBW := Aside0.mk hb
  rw [hb] at HD
  simp only [hb]
  clear hb
  refine (rput_L HB.out HO.out HP.out.cells.fits key value).mono ?_; rintro e w1 ⟨v1, rfl, ho1, hsame1, hb1⟩
  clear hsame1
  obtain ⟨R, hR⟩ : ∃ R, putR L key value = R := ⟨_, rfl⟩
  have HRR := Aside0.mk hR
  simp only [hR] at ho1 ⊢
  clear hR
  obtain ⟨A1, c1, hv1⟩ := Kd.R_slice ho1
  subst hv1
  have hba := below_alloc hb1 (.cells #[.int .i64 (kind.toNat : Int), .slice A1 R.2.length c1] 27)
  have HD1 := Aside0.mk (HD.out.belX (BelX.of_below hba))
  have HP1 := Aside0.mk (HP.out.below hba)
  have HO1 := Aside0.mk (Kd.R_alloc ho1 (.cells #[.int .i64 (kind.toNat : Int), .slice A1 R.2.length c1] 27))
  have HX1 := Aside0.mk ((BelX.of_below (g := g) HT.out).trans (BelX.of_below hba))
  have HN := Aside0.mk (heap_alloc_new w1 (.cells #[.int .i64 (kind.toNat : Int), .slice A1 R.2.length c1] 27))
  have HNg := Aside0.mk (show g < w1.heap.size ∧ b + 1 + 1 < w1.heap.size from ⟨(HP.out.below hb1).pg.lt, (Array.getElem?_eq_some_iff.1 (HD.out.belX (BelX.of_below hb1)).r).1⟩)
  clear ho1 hb1 hba HD HP HO HB HT
  go_wp2_with fail
  generalize hW : w1.alloc (.cells #[.int .i64 (kind.toNat : Int), .slice A1 R.2.length c1] 27) = W1 at *
  clear hW
  generalize w1.heap.size = b8 at *
  have HC := Aside0.mk (show ∀ W, Below W1.heap.size W1 W → Calls Try.prog 18 #[.pointer (some ⟨g, 0, none⟩), .string key, .string value] W fun e w' => e = .returned (.int .i64 R.1) ∧ PGL w' g kind R.2 ∧ BelX g W1 w' from fun W hW => by
    have := Put_any (HP1.out.below hW) key value
    rw [HRR.out] at this
    exact this.mono fun e w' ⟨h1, h2, h3⟩ => ⟨h1, h2, (BelX.of_below hW).trans h3⟩)
  go_region_held3 (fun w' => w'.cell? ⟨b8, 0, none⟩ = some (.int .i64 (kind.toNat : Int)) ∧ w'.cell? ⟨b8, 1, none⟩ = some (.slice A1 R.2.length c1) ∧ w'.cell? ⟨b + 1, 2, none⟩ = some (.string key) ∧ w'.cell? ⟨b + 1, 3, none⟩ = some (.string value) ∧ Aside0 True)
    (first | exact heldD HN.out (by have := HNg.out; omega) HD1.out (BelX.of_below (Below.refl _ _)) | exact heldD HN.out (by have := HNg.out; omega) HD1.out (BelX.of_below (below_drew1 (Below.refl _ _))) | exact heldD HN.out (by have := HNg.out; omega) HD1.out (by assumption) | exact heldE HN.out (by have := HNg.out; omega) (by have := HNg.out; omega) HD1.out (by assumption) _ _ | fail)
    (first | (go_simp; go_at_call 18; refine (HC.out _ (by first | exact Below.refl _ _ | exact below_drew1 (Below.refl _ _))).mono ?_; rintro e w8 ⟨rfl, hp8, hb8⟩; have hd8 := (HD1.out.belX hb8).cells; have hcA := hd8.2.2.2.2.2.2.1; have hcB := hd8.2.2.2.2.2.2.2.1; have hfA := hd8.2.2.2.2.2.2.2.2.1; have hfB := hd8.2.2.2.2.2.2.2.2.2; go_simp) | fail)
  have HF := Aside0.mk (finD (HD1.out.belX hb8) hp8 (R_belX HO1.out HP1.out.pg hb8) (HX1.out.trans hb8) (Nat.le_of_eq HBW.out) (kind.toNat : Int))
  clear hcA hcB hfA hfB hd8 hb8 hp8
  go_wp2
  exact bodyPost_ret (results_list (rs := [.cell 6 27, .tmp 7]) rfl (by simp) (.cell (b + 1 + 1) 27 _ (0, 0) _ rfl HF.out.1 Try.underlying27 rfl (by kernel_rfl) (.tmp .nil))) rfl ⟨_, _, rfl, HF.out.2.1, HF.out.2.2.1, HF.out.2.2.2⟩
set_option maxRecDepth 100000 in
set_option maxHeartbeats 4000000 in
theorem Does_find {w0 w : World} {g : Nat} {kind : UInt8} {L : List S66} {A : Option Addr} {cv : Nat} (hp : PGL w g kind L) (hB : Below w0.heap.size w0 w) (hg : w0.heap.size ≤ g) (ho : Kd.R k66 66 w w0.heap.size (fun _ => True) (.slice A L.length cv) L) (a1 : Int) (key value : ByteArray) :
    Calls Try.prog 25 #[.pointer (some ⟨g, 0, none⟩), .agg #[.int .i64 (kind.toNat : Int), .slice A L.length cv], .agg #[.int .i64 3, .int .i64 a1, .string key, .string value]] w fun e w' => ∃ u' L', e = .returned (.tuple #[.agg #[.int .i64 (kind.toNat : Int), u'], .bool true]) ∧ PGL w' g kind L' ∧ Kd.R k66 66 w' w0.heap.size (fun _ => True) u' L' ∧ BelX g w w' := by
  have hu27 := Try.underlying27
  have hu52 := Try.underlying52
  have HT := Aside0.mk (three_alloc w (.cells #[.int .i64 (kind.toNat : Int), .slice A L.length cv] 27) (.cells #[.int .i64 3, .int .i64 a1, .string key, .string value] 52) (.cells #[.int .i64 0, .slice none 0 0] 27)).2.2.2
  have HD := Aside0.mk (DBlk.mk' (w := w) (kind.toNat : Int) (.slice A L.length cv) 3 a1 key value hp.pg.lt)
  have HP := Aside0.mk (hp.below HT.out)
  have HO := Aside0.mk (Kd.R_below ho HT.out)
  have HB := Aside0.mk (below_step hB (HT.out))
  have HG := Aside0.mk hg
  clear hp ho hB hg
  go_enter Try.func25, Try.ntmps25
  go_wp2_with fail
  generalize hW : ((w.alloc (.cells #[.int .i64 (kind.toNat : Int), .slice A L.length cv] 27)).alloc (.cells #[.int .i64 3, .int .i64 a1, .string key, .string value] 52)).alloc (.cells #[.int .i64 0, .slice none 0 0] 27) = W0 at *
  clear hW
  obtain ⟨b, hb⟩ : ∃ b, w.heap.size = b := ⟨_, rfl⟩
  have HBW := Aside0.mk hb
  rw [hb] at HD
  simp only [hb]
  clear hb
  have hsh := HP.out.short
  refine (Find_pg HP.out key).mono ?_; rintro e w1 ⟨rfl, hb1⟩
  have HD1 := Aside0.mk (HD.out.belX (BelX.of_below hb1))
  have HP1 := Aside0.mk (HP.out.below hb1)
  have HO1 := Aside0.mk (Kd.R_below HO.out hb1)
  have HX1 := Aside0.mk ((BelX.of_below (g := g) HT.out).trans (BelX.of_below hb1))
  obtain ⟨hc0, hc1, ha0, ha1, ha2, ha3, hr0, hr1, hf0, hf1⟩ := HD1.out.cells
  clear hb1 HD HP HO HB HT
  go_wp2_with fail
  have hRF := Kd.R_reads' HO1.out
  refine (quaysideref12_Find.calls 400 _ A cv L key _ _ w1 hRF.2.2 hRF.2.1 (rfind_f (kind.toNat : Int) L key 400 (by omega) (by omega))).mono ?_; rintro e w2 ⟨rfl, hb2⟩
  have HD2 := Aside0.mk (HD1.out.belX (BelX.of_below hb2))
  have HF := Aside0.mk (finD HD2.out (HP1.out.below hb2) (Kd.R_below HO1.out hb2) (HX1.out.trans (BelX.of_below hb2)) (Nat.le_of_eq HBW.out) (kind.toNat : Int))
  clear hRF hc0 hc1 ha0 ha1 ha2 ha3 hr0 hr1 hf0 hf1
  obtain ⟨hc0, hc1, ha0, ha1, ha2, ha3, hr0, hr1, hf0, hf1⟩ := HD2.out.cells
  clear hb2 HD2 HD1 HO1 HX1 HP1
  generalize there L key = tb at *
  cases tb
  all_goals
    go_wp2_with fail
    exact bodyPost_ret (results_list (rs := [.cell 6 27, .tmp 7]) rfl (by simp) (.cell (b + 1 + 1) 27 _ (0, 0) _ rfl HF.out.1 Try.underlying27 rfl (by kernel_rfl) (.tmp .nil))) rfl ⟨_, _, rfl, HF.out.2.1, HF.out.2.2.1, HF.out.2.2.2⟩
set_option maxRecDepth 100000 in
set_option maxHeartbeats 4000000 in
theorem Does_split_bad {w0 w : World} {g : Nat} {kind : UInt8} {L : List S66} {A : Option Addr} {cv : Nat} (hp : PGL w g kind L) (hB : Below w0.heap.size w0 w) (hg : w0.heap.size ≤ g) (ho : Kd.R k66 66 w w0.heap.size (fun _ => True) (.slice A L.length cv) L) (a1 : Int) (key value : ByteArray) (hk : a1 < 0 ∨ (L.length : Int) < a1) :
    Calls Try.prog 25 #[.pointer (some ⟨g, 0, none⟩), .agg #[.int .i64 (kind.toNat : Int), .slice A L.length cv], .agg #[.int .i64 2, .int .i64 a1, .string key, .string value]] w fun e w' => ∃ u' L', e = .returned (.tuple #[.agg #[.int .i64 (kind.toNat : Int), u'], .bool true]) ∧ PGL w' g kind L' ∧ Kd.R k66 66 w' w0.heap.size (fun _ => True) u' L' ∧ BelX g w w' := by
  have hu27 := Try.underlying27
  have hu52 := Try.underlying52
  have HT := Aside0.mk (three_alloc w (.cells #[.int .i64 (kind.toNat : Int), .slice A L.length cv] 27) (.cells #[.int .i64 2, .int .i64 a1, .string key, .string value] 52) (.cells #[.int .i64 0, .slice none 0 0] 27)).2.2.2
  have HD := Aside0.mk (DBlk.mk' (w := w) (kind.toNat : Int) (.slice A L.length cv) 2 a1 key value hp.pg.lt)
  have HP := Aside0.mk (hp.below HT.out)
  have HO := Aside0.mk (Kd.R_below ho HT.out)
  have HB := Aside0.mk (below_step hB (HT.out))
  have HG := Aside0.mk hg
  clear hp ho hB hg
  go_enter Try.func25, Try.ntmps25
  go_wp2_with fail
  generalize hW : ((w.alloc (.cells #[.int .i64 (kind.toNat : Int), .slice A L.length cv] 27)).alloc (.cells #[.int .i64 2, .int .i64 a1, .string key, .string value] 52)).alloc (.cells #[.int .i64 0, .slice none 0 0] 27) = W0 at *
  clear hW
  obtain ⟨b, hb⟩ : ∃ b, w.heap.size = b := ⟨_, rfl⟩
  have HBW := Aside0.mk hb
  rw [hb] at HD
  simp only [hb]
  clear hb
  refine (Split_bad HP.out a1 hk).mono ?_; rintro e w1 ⟨rfl, rfl⟩
  obtain ⟨hc0, hc1, ha0, ha1, ha2, ha3, hr0, hr1, hf0, hf1⟩ := HD.out.cells
  have HBad := Aside0.mk hk
  clear hk
  go_wp2_with fail
  refine (RSplit_bad (kind.toNat : Int) A L.length cv a1 HBad.out).mono ?_; rintro e w2 ⟨rfl, hb2⟩
  have hba := below_alloc (below_alloc hb2 (.cells #[.int .i64 (kind.toNat : Int), .slice A L.length cv] 27)) (.cells #[.int .i64 0, .slice none 0 0] 27)
  have HD2 := Aside0.mk (HD.out.belX (BelX.of_below hba))
  have HF := Aside0.mk (finD HD2.out (HP.out.below hba) (Kd.R_below HO.out hba) ((BelX.of_below (g := g) HT.out).trans (BelX.of_below hba)) (Nat.le_of_eq HBW.out) (kind.toNat : Int))
  clear hc0 hc1 ha0 ha1 ha2 ha3 hr0 hr1 hf0 hf1
  obtain ⟨hc0, hc1, ha0, ha1, ha2, ha3, hr0, hr1, hf0, hf1⟩ := HD2.out.cells
  clear hb2 hba HD2 HD HO HP HB HT
  go_wp2_with fail
  exact bodyPost_ret (results_list (rs := [.cell 6 27, .tmp 7]) rfl (by simp) (.cell (b + 1 + 1) 27 _ (0, 0) _ rfl HF.out.1 Try.underlying27 rfl (by kernel_rfl) (.tmp .nil))) rfl ⟨_, _, rfl, HF.out.2.1, HF.out.2.2.1, HF.out.2.2.2⟩
/-- the first part, and the rest behind it -/
theorem sjoin_back {L : List S66} (h : Cells L) (kind : UInt8) (k : Nat) : joinR kind (L.take k) kind (L.drop k) = (0, L) := by
  have hb : behindB (L.take k) (L.drop k) = true := by
    by_cases h1 : L.take k = []
    · simp [behindB, h1]
    · by_cases h2 : L.drop k = []
      · simp [behindB, h2]
      · have hk : k < L.length := by
          rcases Nat.lt_or_ge k L.length with h | h
          · exact h
          · exact absurd (List.drop_of_length_le h) h2
        have h0 : 0 < k := by
          rcases Nat.eq_zero_or_pos k with h | h
          · subst h; exact absurd rfl h1
          · exact h
        have e1 : lastK (L.take k) = (L[k - 1]'(by omega)).f0 := by
          unfold lastK
          rw [List.getLast?_take, if_neg (by omega), List.getElem?_eq_getElem (by omega)]; rfl
        have e2 : firstK (L.drop k) = L[k].f0 := by rw [List.drop_eq_getElem_cons hk]; rfl
        have := asc_lt h.asc (k - 1) k (by omega) hk (by omega)
        simp only [behindB, e1, e2, this, Bool.or_true]
  unfold joinR
  rw [if_pos ⟨rfl, hb⟩, List.take_append_drop, if_pos h.fits]
set_option maxRecDepth 100000 in
set_option maxHeartbeats 4000000 in
theorem Does_split_take {w0 w : World} {g : Nat} {kind : UInt8} {L : List S66} {A : Option Addr} {cv : Nat} (hp : PGL w g kind L) (hB : Below w0.heap.size w0 w) (hg : w0.heap.size ≤ g) (ho : Kd.R k66 66 w w0.heap.size (fun _ => True) (.slice A L.length cv) L) (k : Nat) (key value : ByteArray) (hk : k ≤ L.length) (hk0 : kind ≠ 0) (hv : value.size ≠ 0) :
    Calls Try.prog 25 #[.pointer (some ⟨g, 0, none⟩), .agg #[.int .i64 (kind.toNat : Int), .slice A L.length cv], .agg #[.int .i64 2, .int .i64 (k : Int), .string key, .string value]] w fun e w' => ∃ u' L', e = .returned (.tuple #[.agg #[.int .i64 (kind.toNat : Int), u'], .bool true]) ∧ PGL w' g kind L' ∧ Kd.R k66 66 w' w0.heap.size (fun _ => True) u' L' ∧ BelX g w w' := by
  have hu27 := Try.underlying27
  have hu52 := Try.underlying52
  have HT := Aside0.mk (three_alloc w (.cells #[.int .i64 (kind.toNat : Int), .slice A L.length cv] 27) (.cells #[.int .i64 2, .int .i64 (k : Int), .string key, .string value] 52) (.cells #[.int .i64 0, .slice none 0 0] 27)).2.2.2
  have HD := Aside0.mk (DBlk.mk' (w := w) (kind.toNat : Int) (.slice A L.length cv) 2 (k : Int) key value hp.pg.lt)
  have HP := Aside0.mk (hp.below HT.out)
  have HO := Aside0.mk (Kd.R_below ho HT.out)
  have HB := Aside0.mk (below_step hB (HT.out))
  have HG := Aside0.mk hg
  clear hp ho hB hg
  have HV := Aside0.mk hv
  clear hv
  go_enter Try.func25, Try.ntmps25
  go_wp2_with fail
  generalize hW : ((w.alloc (.cells #[.int .i64 (kind.toNat : Int), .slice A L.length cv] 27)).alloc (.cells #[.int .i64 2, .int .i64 (k : Int), .string key, .string value] 52)).alloc (.cells #[.int .i64 0, .slice none 0 0] 27) = W0 at *
  clear hW
  obtain ⟨b, hb⟩ : ∃ b, w.heap.size = b := ⟨_, rfl⟩
  have HBW := Aside0.mk hb
  rw [hb] at HD
  simp only [hb]
  clear hb
  have hsh := HP.out.short
  have HKK := Aside0.mk (And.intro hk hk0)
  have hl1 : (L.take k).length = k := by rw [List.length_take]; omega
  have hl2 : (L.drop k).length = L.length - k := List.length_drop
  have hcap := (Kd.R_reads' HO.out).2.1
  have HRS := Aside0.mk (fun W => RSplit_ok (w := W) (kind.toNat : Int) A L.length cv k hk hcap (by omega))
  rw [← hl2] at HRS
  have HRow := Aside0.mk (fun (W : World) (h : Kd.R k66 66 W w0.heap.size (fun _ => True) (.slice A L.length cv) L) => show Kd.R k66 66 W w0.heap.size (fun _ => True) (.slice A (L.take k).length cv) (L.take k) ∧ Kd.C k66 W (if cv = k then A else A.map (·.add (k * 2))) (L.drop k).length (L.drop k) from ⟨by rw [hl1]; exact Kd.R_take h hk, Kd.C_drop (Kd.R_reads' h).2.2 hk (Kd.R_reads' h).2.1⟩)
  have HCap := Aside0.mk (show (L.take k).length ≤ cv ∧ (L.drop k).length ≤ cv - k from ⟨by omega, by omega⟩)
  have HJ := Aside0.mk (sjoin_back HP.out.cells kind k)
  obtain ⟨A2, hA2⟩ : ∃ A2, (if cv = k then A else A.map (·.add (k * 2))) = A2 := ⟨_, rfl⟩
  obtain ⟨c2, hc2⟩ : ∃ c2, cv - k = c2 := ⟨_, rfl⟩
  rw [hA2, hc2] at HRS
  rw [hA2] at HRow
  rw [hc2] at HCap
  have HSp := Aside0.mk (Split_ok HP.out k HKK.out.1 HKK.out.2)
  obtain ⟨M2, hM2⟩ : ∃ M2, L.drop k = M2 := ⟨_, rfl⟩
  obtain ⟨M1, hM1⟩ : ∃ M1, L.take k = M1 := ⟨_, rfl⟩
  rw [hM1, hM2] at HSp HRow HCap HJ
  rw [hM2] at HRS hl2
  rw [hM1] at hl1
  subst hl1
  clear hA2 hc2 hcap hk hk0 hl2 HKK hM1 hM2
  have HLt := Aside0.mk HP.out.pg.lt
  refine HSp.out.mono ?_; rintro e w1 ⟨g2, rfl, hg2, hp1, hq1, hx1⟩
  have HNe := Aside0.mk (show g ≠ g2 from by have := HLt.out; omega)
  have HD1 := Aside0.mk (HD.out.belX hx1)
  have HO1 := Aside0.mk (R_belX HO.out HP.out.pg hx1)
  have HPQ := Aside0.mk (And.intro hp1 hq1)
  have HX1 := Aside0.mk ((BelX.of_below (g := g) HT.out).trans hx1)
  obtain ⟨hc0, hc1, ha0, ha1, ha2, ha3, hr0, hr1, hf0, hf1⟩ := HD1.out.cells
  clear hp1 hq1 hx1 hg2 HD HO HP HT HB HSp
  go_wp2_with fail
  refine (HRS.out w1).mono ?_; rintro e w2 ⟨rfl, hb2⟩
  have hba := below_alloc (below_alloc hb2 (.cells #[.int .i64 (kind.toNat : Int), .slice A M1.length cv] 27)) (.cells #[.int .i64 (kind.toNat : Int), .slice A2 M2.length c2] 27)
  have HD2 := Aside0.mk (HD1.out.belX (BelX.of_below hba))
  have HO2 := Aside0.mk (Kd.R_below HO1.out hba)
  have HP2 := Aside0.mk (And.intro (HPQ.out.1.below hba) (HPQ.out.2.below hba))
  have HX2 := Aside0.mk (HX1.out.trans (BelX.of_below hba))
  have HN2 := Aside0.mk (And.intro (alloc_old (w2.alloc (.cells #[.int .i64 (kind.toNat : Int), .slice A M1.length cv] 27)) (.cells #[.int .i64 (kind.toNat : Int), .slice A2 M2.length c2] 27) w2.heap.size (by rw [alloc_size]; omega) |>.trans (heap_alloc_new w2 (.cells #[.int .i64 (kind.toNat : Int), .slice A M1.length cv] 27))) (alloc_at (w2.alloc (.cells #[.int .i64 (kind.toNat : Int), .slice A M1.length cv] 27)) (.cells #[.int .i64 (kind.toNat : Int), .slice A2 M2.length c2] 27) (w2.heap.size + 1) (alloc_size _ _)))
  have HGl := Aside0.mk (show g < w2.heap.size ∧ g2 < w2.heap.size ∧ b + 1 + 1 < w2.heap.size from ⟨(HPQ.out.1.below hb2).pg.lt, (HPQ.out.2.below hb2).pg.lt, (Array.getElem?_eq_some_iff.1 (HD1.out.belX (BelX.of_below hb2)).r).1⟩)
  clear hc0 hc1 ha0 ha1 ha2 ha3 hr0 hr1 hf0 hf1 hb2 hba HD1 HO1 HPQ HX1 HRS
  obtain ⟨hc0, hc1, ha0, ha1, ha2, ha3, hr0, hr1, hf0, hf1⟩ := HD2.out.cells
  go_wp2_with fail
  generalize hW : (w2.alloc (.cells #[.int .i64 (kind.toNat : Int), .slice A M1.length cv] 27)).alloc (.cells #[.int .i64 (kind.toNat : Int), .slice A2 M2.length c2] 27) = W2 at *
  clear hW
  generalize w2.heap.size = b12 at *
  refine (Same_L HP2.out.2 (HRow.out _ HO2.out).2 HCap.out.2).mono ?_; rintro e w3 ⟨rfl, hb3⟩
  have HD3 := Aside0.mk (HD2.out.belX (BelX.of_below hb3))
  have HO3 := Aside0.mk (Kd.R_below HO2.out hb3)
  have HP3 := Aside0.mk (And.intro (HP2.out.1.below hb3) (HP2.out.2.below hb3))
  have HX3 := Aside0.mk (HX2.out.trans (BelX.of_below hb3))
  have HN3 := Aside0.mk (And.intro ((BelX.of_below (g := g) hb3).blk HN2.out.1 (by have := HGl.out; omega)) ((BelX.of_below (g := g) hb3).blk HN2.out.2 (by have := HGl.out; omega)))
  have hn0 := (blk_cell HN3.out.1 0).trans rfl
  have hn1 := (blk_cell HN3.out.1 1).trans rfl
  clear hc0 hc1 ha0 ha1 ha2 ha3 hr0 hr1 hf0 hf1 hb3 HD2 HO2 HP2 HX2 HN2
  obtain ⟨hc0, hc1, ha0, ha1, ha2, ha3, hr0, hr1, hf0, hf1⟩ := HD3.out.cells
  go_wp2_with fail
  refine (Same_L HP3.out.1 (Kd.R_reads' (HRow.out _ HO3.out).1).2.2 HCap.out.1).mono ?_; rintro e w4 ⟨rfl, hb4⟩
  have HD4 := Aside0.mk (HD3.out.belX (BelX.of_below hb4))
  have HO4 := Aside0.mk (Kd.R_below HO3.out hb4)
  have HP4 := Aside0.mk (And.intro (HP3.out.1.below hb4) (HP3.out.2.below hb4))
  have HX4 := Aside0.mk (HX3.out.trans (BelX.of_below hb4))
  have HN4 := Aside0.mk (And.intro ((BelX.of_below (g := g) hb4).blk HN3.out.1 (by have := HGl.out; omega)) ((BelX.of_below (g := g) hb4).blk HN3.out.2 (by have := HGl.out; omega)))
  clear hc0 hc1 ha0 ha1 ha2 ha3 hr0 hr1 hf0 hf1 hn0 hn1 hb4 HD3 HO3 HP3 HX3 HN3
  obtain ⟨hc0, hc1, ha0, ha1, ha2, ha3, hr0, hr1, hf0, hf1⟩ := HD4.out.cells
  have hn0 := (blk_cell HN4.out.1 0).trans rfl
  have hn1 := (blk_cell HN4.out.1 1).trans rfl
  have HF := Aside0.mk (finD HD4.out HP4.out.1 (HRow.out _ HO4.out).1 HX4.out (Nat.le_of_eq HBW.out) (kind.toNat : Int))
  have v0 : value.toList.isEmpty = false := by
    have h0 := HV.out
    rw [ba_list]
    cases hd : value.data.toList with
    | nil => rw [← sz, hd] at h0; exact absurd rfl h0
    | cons x t => rfl
  have v1 : decide (value = ⟨#[]⟩) = false := decide_eq_false (fun e => HV.out (by rw [e]; rfl))
  clear HD4 HO4 HP4 HX4 HN4
  go_wp2_with fail
  exact bodyPost_ret (results_list (rs := [.cell 6 27, .tmp 7]) rfl (by simp) (.cell (b + 1 + 1) 27 _ (0, 0) _ rfl HF.out.1 Try.underlying27 rfl (by kernel_rfl) (.tmp .nil))) rfl ⟨_, _, rfl, HF.out.2.1, HF.out.2.2.1, HF.out.2.2.2⟩
set_option maxRecDepth 100000 in
set_option maxHeartbeats 4000000 in
theorem Does_split_back {w0 w : World} {g : Nat} {kind : UInt8} {L : List S66} {A : Option Addr} {cv : Nat} (hp : PGL w g kind L) (hB : Below w0.heap.size w0 w) (hg : w0.heap.size ≤ g) (ho : Kd.R k66 66 w w0.heap.size (fun _ => True) (.slice A L.length cv) L) (k : Nat) (key value : ByteArray) (hk : k ≤ L.length) (hk0 : kind ≠ 0) (hv : value.size = 0) :
    Calls Try.prog 25 #[.pointer (some ⟨g, 0, none⟩), .agg #[.int .i64 (kind.toNat : Int), .slice A L.length cv], .agg #[.int .i64 2, .int .i64 (k : Int), .string key, .string value]] w fun e w' => ∃ u' L', e = .returned (.tuple #[.agg #[.int .i64 (kind.toNat : Int), u'], .bool true]) ∧ PGL w' g kind L' ∧ Kd.R k66 66 w' w0.heap.size (fun _ => True) u' L' ∧ BelX g w w' := by
  have hu27 := Try.underlying27
  have hu52 := Try.underlying52
  have HT := Aside0.mk (three_alloc w (.cells #[.int .i64 (kind.toNat : Int), .slice A L.length cv] 27) (.cells #[.int .i64 2, .int .i64 (k : Int), .string key, .string value] 52) (.cells #[.int .i64 0, .slice none 0 0] 27)).2.2.2
  have HD := Aside0.mk (DBlk.mk' (w := w) (kind.toNat : Int) (.slice A L.length cv) 2 (k : Int) key value hp.pg.lt)
  have HP := Aside0.mk (hp.below HT.out)
  have HO := Aside0.mk (Kd.R_below ho HT.out)
  have HB := Aside0.mk (below_step hB (HT.out))
  have HG := Aside0.mk hg
  clear hp ho hB hg
  have HV := Aside0.mk hv
  clear hv
  go_enter Try.func25, Try.ntmps25
  go_wp2_with fail
  generalize hW : ((w.alloc (.cells #[.int .i64 (kind.toNat : Int), .slice A L.length cv] 27)).alloc (.cells #[.int .i64 2, .int .i64 (k : Int), .string key, .string value] 52)).alloc (.cells #[.int .i64 0, .slice none 0 0] 27) = W0 at *
  clear hW
  obtain ⟨b, hb⟩ : ∃ b, w.heap.size = b := ⟨_, rfl⟩
  have HBW := Aside0.mk hb
  rw [hb] at HD
  simp only [hb]
  clear hb
  have hsh := HP.out.short
  have HKK := Aside0.mk (And.intro hk hk0)
  have hl1 : (L.take k).length = k := by rw [List.length_take]; omega
  have hl2 : (L.drop k).length = L.length - k := List.length_drop
  have hcap := (Kd.R_reads' HO.out).2.1
  have HRS := Aside0.mk (fun W => RSplit_ok (w := W) (kind.toNat : Int) A L.length cv k hk hcap (by omega))
  rw [← hl2] at HRS
  have HRow := Aside0.mk (fun (W : World) (h : Kd.R k66 66 W w0.heap.size (fun _ => True) (.slice A L.length cv) L) => show Kd.R k66 66 W w0.heap.size (fun _ => True) (.slice A (L.take k).length cv) (L.take k) ∧ Kd.C k66 W (if cv = k then A else A.map (·.add (k * 2))) (L.drop k).length (L.drop k) from ⟨by rw [hl1]; exact Kd.R_take h hk, Kd.C_drop (Kd.R_reads' h).2.2 hk (Kd.R_reads' h).2.1⟩)
  have HCap := Aside0.mk (show (L.take k).length ≤ cv ∧ (L.drop k).length ≤ cv - k from ⟨by omega, by omega⟩)
  have HJ := Aside0.mk (sjoin_back HP.out.cells kind k)
  obtain ⟨A2, hA2⟩ : ∃ A2, (if cv = k then A else A.map (·.add (k * 2))) = A2 := ⟨_, rfl⟩
  obtain ⟨c2, hc2⟩ : ∃ c2, cv - k = c2 := ⟨_, rfl⟩
  rw [hA2, hc2] at HRS
  rw [hA2] at HRow
  rw [hc2] at HCap
  have HSp := Aside0.mk (Split_ok HP.out k HKK.out.1 HKK.out.2)
  obtain ⟨M2, hM2⟩ : ∃ M2, L.drop k = M2 := ⟨_, rfl⟩
  obtain ⟨M1, hM1⟩ : ∃ M1, L.take k = M1 := ⟨_, rfl⟩
  rw [hM1, hM2] at HSp HRow HCap HJ
  rw [hM2] at HRS hl2
  rw [hM1] at hl1
  subst hl1
  clear hA2 hc2 hcap hk hk0 hl2 HKK hM1 hM2
  have HLt := Aside0.mk HP.out.pg.lt
  refine HSp.out.mono ?_; rintro e w1 ⟨g2, rfl, hg2, hp1, hq1, hx1⟩
  have HNe := Aside0.mk (show g ≠ g2 from by have := HLt.out; omega)
  have HD1 := Aside0.mk (HD.out.belX hx1)
  have HO1 := Aside0.mk (R_belX HO.out HP.out.pg hx1)
  have HPQ := Aside0.mk (And.intro hp1 hq1)
  have HX1 := Aside0.mk ((BelX.of_below (g := g) HT.out).trans hx1)
  obtain ⟨hc0, hc1, ha0, ha1, ha2, ha3, hr0, hr1, hf0, hf1⟩ := HD1.out.cells
  clear hp1 hq1 hx1 hg2 HD HO HP HT HB HSp
  go_wp2_with fail
  refine (HRS.out w1).mono ?_; rintro e w2 ⟨rfl, hb2⟩
  have hba := below_alloc (below_alloc hb2 (.cells #[.int .i64 (kind.toNat : Int), .slice A M1.length cv] 27)) (.cells #[.int .i64 (kind.toNat : Int), .slice A2 M2.length c2] 27)
  have HD2 := Aside0.mk (HD1.out.belX (BelX.of_below hba))
  have HO2 := Aside0.mk (Kd.R_below HO1.out hba)
  have HP2 := Aside0.mk (And.intro (HPQ.out.1.below hba) (HPQ.out.2.below hba))
  have HX2 := Aside0.mk (HX1.out.trans (BelX.of_below hba))
  have HN2 := Aside0.mk (And.intro (alloc_old (w2.alloc (.cells #[.int .i64 (kind.toNat : Int), .slice A M1.length cv] 27)) (.cells #[.int .i64 (kind.toNat : Int), .slice A2 M2.length c2] 27) w2.heap.size (by rw [alloc_size]; omega) |>.trans (heap_alloc_new w2 (.cells #[.int .i64 (kind.toNat : Int), .slice A M1.length cv] 27))) (alloc_at (w2.alloc (.cells #[.int .i64 (kind.toNat : Int), .slice A M1.length cv] 27)) (.cells #[.int .i64 (kind.toNat : Int), .slice A2 M2.length c2] 27) (w2.heap.size + 1) (alloc_size _ _)))
  have HGl := Aside0.mk (show g < w2.heap.size ∧ g2 < w2.heap.size ∧ b + 1 + 1 < w2.heap.size from ⟨(HPQ.out.1.below hb2).pg.lt, (HPQ.out.2.below hb2).pg.lt, (Array.getElem?_eq_some_iff.1 (HD1.out.belX (BelX.of_below hb2)).r).1⟩)
  clear hc0 hc1 ha0 ha1 ha2 ha3 hr0 hr1 hf0 hf1 hb2 hba HD1 HO1 HPQ HX1 HRS
  obtain ⟨hc0, hc1, ha0, ha1, ha2, ha3, hr0, hr1, hf0, hf1⟩ := HD2.out.cells
  go_wp2_with fail
  generalize hW : (w2.alloc (.cells #[.int .i64 (kind.toNat : Int), .slice A M1.length cv] 27)).alloc (.cells #[.int .i64 (kind.toNat : Int), .slice A2 M2.length c2] 27) = W2 at *
  clear hW
  generalize w2.heap.size = b12 at *
  refine (Same_L HP2.out.2 (HRow.out _ HO2.out).2 HCap.out.2).mono ?_; rintro e w3 ⟨rfl, hb3⟩
  have HD3 := Aside0.mk (HD2.out.belX (BelX.of_below hb3))
  have HO3 := Aside0.mk (Kd.R_below HO2.out hb3)
  have HP3 := Aside0.mk (And.intro (HP2.out.1.below hb3) (HP2.out.2.below hb3))
  have HX3 := Aside0.mk (HX2.out.trans (BelX.of_below hb3))
  have HN3 := Aside0.mk (And.intro ((BelX.of_below (g := g) hb3).blk HN2.out.1 (by have := HGl.out; omega)) ((BelX.of_below (g := g) hb3).blk HN2.out.2 (by have := HGl.out; omega)))
  have hn0 := (blk_cell HN3.out.1 0).trans rfl
  have hn1 := (blk_cell HN3.out.1 1).trans rfl
  clear hc0 hc1 ha0 ha1 ha2 ha3 hr0 hr1 hf0 hf1 hb3 HD2 HO2 HP2 HX2 HN2
  obtain ⟨hc0, hc1, ha0, ha1, ha2, ha3, hr0, hr1, hf0, hf1⟩ := HD3.out.cells
  go_wp2_with fail
  refine (Same_L HP3.out.1 (Kd.R_reads' (HRow.out _ HO3.out).1).2.2 HCap.out.1).mono ?_; rintro e w4 ⟨rfl, hb4⟩
  have HD4 := Aside0.mk (HD3.out.belX (BelX.of_below hb4))
  have HO4 := Aside0.mk (Kd.R_below HO3.out hb4)
  have HP4 := Aside0.mk (And.intro (HP3.out.1.below hb4) (HP3.out.2.below hb4))
  have HX4 := Aside0.mk (HX3.out.trans (BelX.of_below hb4))
  have HN4 := Aside0.mk (And.intro ((BelX.of_below (g := g) hb4).blk HN3.out.1 (by have := HGl.out; omega)) ((BelX.of_below (g := g) hb4).blk HN3.out.2 (by have := HGl.out; omega)))
  clear hc0 hc1 ha0 ha1 ha2 ha3 hr0 hr1 hf0 hf1 hn0 hn1 hb4 HD3 HO3 HP3 HX3 HN3
  obtain ⟨hc0, hc1, ha0, ha1, ha2, ha3, hr0, hr1, hf0, hf1⟩ := HD4.out.cells
  have hn0 := (blk_cell HN4.out.1 0).trans rfl
  have hn1 := (blk_cell HN4.out.1 1).trans rfl
  have v0 : value.toList.isEmpty = true := by
    have h0 := HV.out
    rw [ba_list]
    cases hd : value.data.toList with
    | nil => rfl
    | cons x t => rw [← sz, hd] at h0; cases h0
  go_wp2_with fail
  have HJC := Aside0.mk (show ∀ W, Below w4.heap.size w4 W → Calls Try.prog 23 #[.pointer (some ⟨g, 0, none⟩), .pointer (some ⟨g2, 0, none⟩)] W fun e w' => e = .returned (.int .i64 0) ∧ PGL w' g kind L ∧ PGL w' g2 kind M2 ∧ BelX g w4 w' from fun W hW => by
    have := Join_any (HP4.out.1.below hW) (HP4.out.2.below hW) HNe.out
    rw [HJ.out] at this
    exact this.mono fun e w' ⟨h1, h2, h3, h4⟩ => ⟨h1, h2, h3, (BelX.of_below hW).trans h4⟩)
  have HSC := Aside0.mk (show ∀ W, PGL W g2 kind M2 → BelX g w4 W → Calls Try.prog 15 #[.pointer (some ⟨g2, 0, none⟩), .agg #[.int .i64 (kind.toNat : Int), .slice A2 M2.length c2]] W fun e w' => e = .returned (.bool true) ∧ Below W.heap.size W w' from fun W h1 h2 => Same_L h1 (HRow.out _ (R_belX HO4.out HP4.out.1.pg h2)).2 HCap.out.2)
  have HNe2 := Aside0.mk (show b12 + 1 ≠ g ∧ b12 + 1 ≠ b + 1 + 1 from by
    have h1 := HGl.out
    exact ⟨by omega, by omega⟩)
  clear hc0 hc1 ha0 ha1 ha2 ha3 hr0 hr1 hf0 hf1 hn0 hn1
  go_region_held3 (fun w' => w'.cell? ⟨b12 + 1, 0, none⟩ = some (.int .i64 (kind.toNat : Int)) ∧ w'.cell? ⟨b12 + 1, 1, none⟩ = some (.slice A2 M2.length c2) ∧ w'.cell? ⟨b, 0, none⟩ = some (.int .i64 (kind.toNat : Int)) ∧ w'.cell? ⟨b, 1, none⟩ = some (.slice A L.length cv) ∧ Aside0 True)
    (first | exact heldF HN4.out.2 HNe2.out.1 HD4.out (BelX.refl _ _) | exact heldF HN4.out.2 HNe2.out.1 HD4.out (BelX.of_below (below_drew1 (Below.refl _ _))) | exact heldF HN4.out.2 HNe2.out.1 HD4.out (by assumption) | exact heldG HN4.out.2 HNe2.out.1 HNe2.out.2 HD4.out (by assumption) _ _ | fail)
    (first | (go_simp; go_at_call 23; refine (HJC.out _ (by first | exact Below.refl _ _ | exact below_drew1 (Below.refl _ _))).mono ?_; rintro e w5 ⟨rfl, hp5, hq5, hx5⟩; go_simp) | (go_simp; go_at_call 15; refine (HSC.out _ (by assumption) (by assumption)).mono ?_; rintro e w6 ⟨rfl, hb6⟩; have hx6 := (by assumption : BelX g w4 _).trans (BelX.of_below (g := g) hb6); have hd8 := (HD4.out.belX hx6).cells; have hcA := hd8.2.2.2.2.2.2.1; have hcB := hd8.2.2.2.2.2.2.2.1; have hfA := hd8.2.2.2.2.2.2.2.2.1; have hfB := hd8.2.2.2.2.2.2.2.2.2; go_simp) | fail)
  have HF := Aside0.mk (finD (HD4.out.belX hx6) (hp5.below hb6) (R_belX HO4.out HP4.out.1.pg hx6) (HX4.out.trans hx6) (Nat.le_of_eq HBW.out) (kind.toNat : Int))
  clear hcA hcB hfA hfB hd8 hx6 hb6 hp5 hq5 hx5
  go_wp2
  exact bodyPost_ret (results_list (rs := [.cell 6 27, .tmp 7]) rfl (by simp) (.cell (b + 1 + 1) 27 _ (0, 0) _ rfl HF.out.1 Try.underlying27 rfl (by kernel_rfl) (.tmp .nil))) rfl ⟨_, _, rfl, HF.out.2.1, HF.out.2.2.1, HF.out.2.2.2⟩
/-- a call on both sides: they agree -/
theorem Does_ok {w0 w : World} {g : Nat} {kind : UInt8} {L : List S66} {u : Value} (hk0 : kind ≠ 0) (hp : PGL w g kind L) (hB : Below w0.heap.size w0 w) (hg : w0.heap.size ≤ g) (ho : Kd.R k66 66 w w0.heap.size (fun _ => True) u L) (x a1 : Int) (key value : ByteArray) :
    Calls Try.prog 25 #[.pointer (some ⟨g, 0, none⟩), .agg #[.int .i64 (kind.toNat : Int), u], .agg #[.int .i64 x, .int .i64 a1, .string key, .string value]] w fun e w' => ∃ u' L', e = .returned (.tuple #[.agg #[.int .i64 (kind.toNat : Int), u'], .bool true]) ∧ PGL w' g kind L' ∧ Kd.R k66 66 w' w0.heap.size (fun _ => True) u' L' ∧ BelX g w w' := by
  obtain ⟨A, cv, rfl⟩ := Kd.R_slice ho
  by_cases h1 : x = 1
  · subst h1; exact Does_drop hp hB hg ho a1 key value
  · by_cases h2 : x = 2
    · subst h2
      by_cases hb : a1 < 0 ∨ (L.length : Int) < a1
      · exact Does_split_bad hp hB hg ho a1 key value hb
      · obtain ⟨k, rfl⟩ : ∃ k : Nat, a1 = (k : Int) := ⟨a1.toNat, by omega⟩
        by_cases hv : value.size = 0
        · exact Does_split_back hp hB hg ho k key value (by omega) hk0 hv
        · exact Does_split_take hp hB hg ho k key value (by omega) hk0 hv
    · by_cases h3 : x = 3
      · subst h3; exact Does_find hp hB hg ho a1 key value
      · exact Does_put hp hB hg ho x a1 key value ⟨h1, h2, h3⟩
end Go.Proofs.Ytinbppcfdmbclaa.Pg
