/- A page's Bytes, walked. No condition beyond those that each theorem names. -/
import Derived.Test.YtinbppcfdmbclaaPagO
import Derived.Test.YtinbppcfdmbclaaCrcFns
import Derived.Deep.MidRow
namespace Go.Proofs.Ytinbppcfdmbclaa.Pg
open Go.RowKit Go.Proofs.YtinbppcfdmbclaaW.PrintWords Go.Proofs.YtinbppcfdmbclaaW.PrintLast Go.Proofs.YtinbppcfdmbclaaW.PrintMore
set_option linter.unusedVariables false
set_option linter.unusedSimpArgs false
/-- an array of bytes of the call's own -/
structure LA (w : World) (g : Nat) (b : List UInt8) : Prop where
  blk : w.heap[g]? = some (.cells (b.map u8).toArray 56 (0, 0))
  len : b.length = 256
theorem LA.cell {w : World} {g : Nat} {b : List UInt8} (h : LA w g b) (i : Nat) (hi : i < 256) : w.cell? ⟨g, i, none⟩ = some (.int .u8 (at_ b i : Int)) := by
  have hl := h.len
  simp only [World.cell?, h.blk]
  simp [at_, u8, List.getElem?_append, hl, hi, List.getD_eq_getElem?_getD]
theorem LA.lt {w : World} {g : Nat} {b : List UInt8} (h : LA w g b) : g < w.heap.size := (Array.getElem?_eq_some_iff.1 h.blk).1
theorem LA.below {w w' : World} {g : Nat} {b : List UInt8} (h : LA w g b) (k : Below w.heap.size w w') : LA w' g b := ⟨(k.block g h.lt).trans h.blk, h.len⟩
theorem LA.row {w : World} {g : Nat} {b : List UInt8} (h : LA w g b) (o : Nat) (cs : List UInt8) (hl : o + cs.length ≤ 256) : LA (w.setRow g ((b.map u8).toArray.toList.take o ++ cs.map u8 ++ (b.map u8).toArray.toList.drop (o + cs.length)).toArray) g (splice b o cs) := by
  refine ⟨?_, splice_len h.len hl⟩
  rw [setRow_heap w g _ _ 56 (0, 0) h.blk]
  congr 3
  simp [splice, List.map_append, List.map_take, List.map_drop]
theorem LA.conv {w : World} {g : Nat} {b : List UInt8} (h : LA w g b) : (convert 30 9 (.slice (some ⟨g, 0, none⟩) 256 256)).run Try.prog w = .ok (.string ⟨b.toArray⟩) w := by
  have := run_convert_bytes_arg (P := Try.prog) w 30 5 Try.underlying30 Try.underlying5 g 0 256 256 (b.map fun x => (x.toNat : Int)) (by simp [h.len]) (fun i hi => ?_) 9 Try.underlying9
  · rw [this, strOfNums_u8]
  · rw [Nat.zero_add, h.cell i hi]
    congr 2
    have hl := h.len
    have e1 : i < b.length := by omega
    simp only [List.getD_eq_getElem?_getD, List.getElem?_map, List.getElem?_eq_getElem e1, Option.map_some, Option.getD_some, at_]
theorem LA.copy {w : World} {g : Nat} {b : List UInt8} (h : LA w g b) (d n c : Nat) (s : ByteArray) (h0 : 0 < n) (hn : s.size = n) (hd : d + n ≤ 256) :
    ∃ w', (Builtin.copy_ #[30, 9] 3 #[.slice (some ⟨g, d, none⟩) n c, .string s]).run Try.prog w = .ok (.int .i64 (n : Int)) w' ∧ LA w' g (splice b d s.data.toList) ∧ BelX g w w' := by
  have hb := h.len
  have hs5 : (Try.prog.info? 5).map (·.size) = some 1 := by
    obtain ⟨i0, hi, hz⟩ := Option.map_eq_some_iff.1 info5
    simp only [Prod.mk.injEq] at hz
    rw [hi, Option.map_some, hz.2.1]
  have hsz : s.data.toList.length = n := by rw [Array.length_toList]; exact hn
  have hrun := Lib.run_copy_row_string (P := Try.prog) w 30 9 3 5 g d n c s _ 56 Try.underlying30 hs5 h.blk (by omega) (by simp [hb]; omega)
  have hrow := h.row d s.data.toList (by omega)
  rw [hsz] at hrow
  rw [hn] at hrun
  exact ⟨_, hrun, hrow, (BelX.refl g w).row _⟩
theorem info56 : (Try.prog.info? 56).map (·.size) = some 256 := by kernel_rfl
def zero56 : Array Value := ((List.replicate 256 (0 : UInt8)).map u8).toArray
theorem zero56_run (w : World) : (zeroValue 56).run Try.prog w = .ok (.agg zero56) w := by kernel_rfl
theorem zero56_size : zero56.size = 256 := by
  have h : ∀ l : List UInt8, l.length = 256 → (l.map u8).toArray.size = 256 := fun l hl => by simp [hl]
  exact h _ List.length_replicate
theorem store56 (w : World) (b : List UInt8) (hb : b.length = 256) : ∃ w2, (storeVar 56 ⟨w.heap.size, 0, none⟩ (.agg (b.map u8).toArray)).run Try.prog (w.alloc (.cells zero56 56)) = .ok () w2 ∧ LA w2 w.heap.size b ∧ Below w.heap.size w w2 := by
  have hg : (w.alloc (.cells zero56 56)).heap[w.heap.size]? = some (.cells zero56 56 (0, 0)) := by rw [heap_alloc_new]
  have hst := run_storeCells_at Try.prog w.heap.size 0 56 (b.map u8) 0 _ (w.alloc (.cells zero56 56)) hg (by rw [zero56_size]; simp [hb]) (u8_one b)
  have hcs : (zero56.toList.take (0 + 0) ++ b.map u8 ++ zero56.toList.drop (0 + 0 + (b.map u8).length)) = b.map u8 := by
    have hz : zero56.toList.length = 256 := by rw [Array.length_toList]; exact zero56_size
    have hp : (b.map u8).length = 256 := by simp [hb]
    rw [List.drop_of_length_le (by omega)]; simp
  rw [hcs] at hst
  refine ⟨(w.alloc (.cells zero56 56)).setRow w.heap.size (b.map u8).toArray, ?_, ⟨setRow_heap _ _ _ _ 56 (0, 0) hg, hb⟩, ?_⟩
  · obtain ⟨i, hi, his⟩ := Option.map_eq_some_iff.1 info56
    have hsz : (b.map u8).toArray.size = 256 := by simp [hb]
    generalize hcells : (b.map u8).toArray = cells at *
    have hcl : cells.toList = b.map u8 := by rw [← hcells]
    rw [← hcl] at hst
    simp only [storeVar, sizeOf, typeInfo, hi, Value.cells, Sem.run_bind, Sem.run_pure, Result.andThen_ok, his, hsz, bne_self_eq_false, Bool.false_eq_true, if_false]
    exact hst
  · exact ((Below.refl _ _).alloc (Nat.le_refl _) _).trans ⟨rfl, rfl, rfl, by simp [World.setRow], fun k hk => setRow_other _ _ _ _ (by omega)⟩
theorem range56 {w : World} {g : Nat} {b : List UInt8} (h : PG w g b) : w.rangeAt g 0 (b.map u8) := by
  intro j v hj
  have := h.part 0 256 (Nat.le_refl _) j v (by rw [List.drop_zero, List.take_of_length_le (by rw [h.len]; omega)]; exact hj)
  rwa [show (⟨g, 0, none⟩ : Addr).add j = ⟨g, 0 + j, none⟩ from by unfold Addr.add; split <;> simp_all] at this
/-- the sum of a page's bytes, as four bytes -/
def sumS (b : List UInt8) : ByteArray := strOfNums [((Crc.crc 0 (Fns.B ⟨b.toArray⟩) : Nat) : Int) % 256, ((Crc.crc 0 (Fns.B ⟨b.toArray⟩) : Nat) : Int) / 256 % 256, ((Crc.crc 0 (Fns.B ⟨b.toArray⟩) : Nat) : Int) / 65536 % 256, ((Crc.crc 0 (Fns.B ⟨b.toArray⟩) : Nat) : Int) / 16777216 % 256]
theorem sumS_size (b : List UInt8) : (sumS b).size = 4 := rfl
/-- a page's bytes with the sum -/
def bytesR (b : List UInt8) : ByteArray := ⟨(splice b 4 (sumS b).data.toList).toArray⟩
set_option maxRecDepth 100000 in
set_option maxHeartbeats 4000000 in
theorem Bytes_pg {w : World} {g : Nat} {b : List UInt8} (h : PG w g b) : Calls Try.prog 12 #[.pointer (some ⟨g, 0, none⟩)] w fun e w' => e = .returned (.string (bytesR b)) ∧ Below w.heap.size w w' := by
  have HG := Aside0.mk (given_pg h)
  have HRg := Aside0.mk (range56 h)
  have hlen := h.len
  have HSz := Aside0.mk (show (Try.prog.info? 56).map (·.size) = some (b.map u8).length from by rw [info56, List.length_map, h.len])
  have hz := zero56_run w
  obtain ⟨w2, hs2, hp2, hb2⟩ := store56 w _ h.len
  have HS := Aside0.mk hs2
  have HP := Aside0.mk hp2
  have HB := Aside0.mk hb2
  have hbs : (⟨b.toArray⟩ : ByteArray).size = 256 := by show b.toArray.size = 256; simp [hlen]
  obtain ⟨sv, hsv⟩ : ∃ sv, crc_Sum.f 3000 ⟨b.toArray⟩ = some sv := ⟨_, Fns.sum_eq _ 3000 (by omega) (by omega)⟩
  have HSv := Aside0.mk hsv
  have hps : crc_Put.f sv = some (sumS b) := by
    rw [Fns.sum_eq _ 3000 (by omega) (by omega)] at hsv
    obtain rfl := Option.some.inj hsv
    rfl
  have HPs := Aside0.mk hps
  clear h hp2 hb2 hs2 hbs hsv hps
  go_enter Try.func12, Try.ntmps12
  go_wp2_with fail
  refine HG.out.mono ?_; rintro e w' ⟨rfl, rfl⟩
  go_wp2_with (first | (refine wpList_load_mid (P := Try.prog) rfl 56 _ rfl _ 0 rfl _ _ HRg.out Try.underlying56 rfl HSz.out ?_) | (refine wpList_store58 56 rfl _ _ rfl _ _ rfl rfl _ HS.out ?_))
  have hcv := (HP.out.below (below_drew1 (Below.refl _ _))).conv
  obtain ⟨gb, hgb⟩ : ∃ gb, w'.heap.size = gb := ⟨_, rfl⟩
  have HGB := Aside0.mk hgb
  rw [hgb] at HP HB hcv ⊢
  clear hgb
  clear HRg HS hz HSz
  have HC := Aside0.mk (show ∀ n w3, Below (w2.drewN n).heap.size (w2.drewN n) w3 → ∃ w4, (Builtin.copy_ #[30, 9] 3 #[.slice (some ⟨gb, 4, none⟩) 4 252, .string (sumS b)]).run Try.prog w3 = .ok (.int .i64 4) w4 ∧ Aside0 (LA w4 gb (splice b 4 (sumS b).data.toList) ∧ BelX gb w2 w4) from fun n w3 hb3 => by
    have hd := pw_below_drewN (Below.refl w2.heap.size w2) n
    obtain ⟨w4, h1, h2, h3⟩ := LA.copy ((HP.out.below hd).below hb3) 4 4 252 (sumS b) (by decide) (sumS_size b) (by decide)
    exact ⟨w4, h1, ⟨h2, (BelX.of_below hd).trans ((BelX.of_below hb3).trans h3)⟩⟩)
  go_region_law (first | (go_simp; go_at_call 33; refine (crc_Sum.calls 3000 _ sv _ HSv.out).mono ?_; rintro e w5 ⟨rfl, ⟨nd, rfl⟩⟩; go_simp) | (go_simp; go_at_call 32; refine (crc_Put.calls sv (sumS b) _ HPs.out).mono ?_; rintro e w3 ⟨rfl, hb3⟩; obtain ⟨w4, hc4, hp4⟩ := HC.out _ _ hb3; go_simp))
  all_goals
    have H4 := (by assumption : Aside0 (LA _ gb (splice b 4 (sumS b).data.toList) ∧ BelX gb w2 _))
    have hcv4 := H4.out.1.conv
    go_wp2
    go_ret
    exact ⟨rfl, by rw [HGB.out]; exact BelX.below HB.out (Nat.le_of_lt HP.out.lt) (Nat.le_refl _) H4.out.2⟩
end Go.Proofs.Ytinbppcfdmbclaa.Pg
