/- A page's cells, read and found, walked. No condition beyond those that each theorem names. -/
import Derived.Test.YtinbppcfdmbclaaPagA
import Derived.Laws.BytesArg
namespace Go.Proofs.Ytinbppcfdmbclaa.Pg
open Go.RowKit Go.Proofs.YtinbppcfdmbclaaW.PrintWords Go.Proofs.YtinbppcfdmbclaaW.PrintLast Go.Proofs.YtinbppcfdmbclaaW.PrintMore
set_option linter.unusedVariables false
set_option linter.unusedSimpArgs false
/-- where the cell at a place begins; ahead of the first one: the end -/
def fromB (b : List UInt8) (k : Int) : Nat := if k < 0 then 256 else at_ b (8 + 2 * k.toNat)
theorem fromB_le (b : List UInt8) (k : Int) : fromB b k ≤ 256 := by
  unfold fromB; split
  · omega
  · have := at_lt b (8 + 2 * k.toNat); omega
theorem from_any {w : World} {g : Nat} {b : List UInt8} (h : PG w g b) (k : Int) (hk : k < 124) : Calls Try.prog 36 #[.pointer (some ⟨g, 0, none⟩), .int .i64 k] w fun e w' => e = .returned (.int .i64 (fromB b k : Int)) ∧ w' = w := by
  by_cases h0 : k < 0
  · have := from_neg (w := w) (g := g) k h0
    rwa [show (fromB b k : Int) = 256 from by unfold fromB; rw [if_pos h0]; rfl]
  · have := from_pg h k (8 + 2 * k.toNat) (by omega) (by omega) (by omega)
    rwa [show (fromB b k : Int) = (at_ b (8 + 2 * k.toNat) : Int) from by unfold fromB; rw [if_neg h0]]
/-- the bytes from a place to another one, as a text -/
def cut (b : List UInt8) (l h : Nat) : ByteArray := ⟨((b.drop l).take (h - l)).toArray⟩
theorem strOfNums_u8 (b : List UInt8) : strOfNums (b.map fun x => (x.toNat : Int)) = ⟨b.toArray⟩ := by
  unfold strOfNums
  congr 2
  rw [List.map_map]
  conv => rhs; rw [← List.map_id b]
  exact List.map_congr_left fun x _ => by simp
theorem conv_pg {w : World} {g : Nat} {b : List UInt8} (h : PG w g b) (l hh c : Nat) (h1 : l ≤ hh) (h2 : hh ≤ 256) : (convert 30 9 (.slice (some ⟨g, l, none⟩) (hh - l) c)).run Try.prog w = .ok (.string (cut b l hh)) w := by
  have := run_convert_bytes_arg (P := Try.prog) w 30 5 Try.underlying30 Try.underlying5 g l (hh - l) c (((b.drop l).take (hh - l)).map fun x => (x.toNat : Int)) (by simp [h.len]; omega) (fun i hi => ?_) 9 Try.underlying9
  · rw [this, strOfNums_u8]; rfl
  · rw [h.cell (l + i) (by omega)]
    congr 2
    have hl := h.len
    have e1 : i < ((b.drop l).take (hh - l)).length := by simp [hl]; omega
    simp only [List.getD_eq_getElem?_getD, List.getElem?_map, List.getElem?_eq_getElem e1, Option.map_some, Option.getD_some, at_]
    simp [List.getElem?_eq_getElem (show l + i < b.length from by omega)]
theorem conv_0 {w : World} (g c : Nat) : (convert 30 9 (.slice (some ⟨g, 0, none⟩) 0 c)).run Try.prog w = .ok (.string ⟨#[]⟩) w := by
  have := run_convert_bytes_arg (P := Try.prog) w 30 5 Try.underlying30 Try.underlying5 g 0 0 c [] rfl (fun i hi => absurd hi (by omega)) 9 Try.underlying9
  exact this
theorem cut_nil (b : List UInt8) (l : Nat) : cut b l l = ⟨#[]⟩ := by simp [cut]
theorem prun {w : World} (l h : Nat) (g : Nat) (h1 : l ≤ h) (h2 : h ≤ 256) : (Instr.sliceAt 56 (.pointer (some ⟨g, 0, none⟩)) (some (.int .i64 (l : Int))) (some (.int .i64 (h : Int))) none).run Try.prog w = .ok (.slice (some (if 256 = l then ⟨g, 0, none⟩ else ⟨g, l, none⟩)) (h - l) (256 - l)) w := by
  have ha : Try.prog.arrayLen 56 = 256 := by kernel_rfl
  have hs : (sizeOf (Try.prog.elem 56)).run Try.prog w = .ok 1 w := by
    rw [show Try.prog.elem 56 = 5 from by kernel_rfl]
    obtain ⟨i0, hi, -⟩ := Option.map_eq_some_iff.1 info5
    rw [run_sizeOf (P := Try.prog) w hi, show Try.prog.cellsOf 5 = 1 from by kernel_rfl]
  rw [run_sliceAt_array_lh (P := Try.prog) w 56 ⟨g, 0, none⟩ (by kernel_rfl) .i64 .i64 (l : Int) (h : Int) (by omega) (by omega) (by rw [ha]; omega), hs]
  simp [Result.andThen, slicedAt, ha, Addr.add]
  by_cases h0 : l = 0
  · subst h0; simp
  · rw [if_neg h0]
/-- a part of a page's array -/
theorem sl (g l h : Nat) (h1 : l ≤ h) (h2 : h ≤ 256) : ∃ (A : Addr) (n c : Nat), n = h - l ∧ (∀ w, (Instr.sliceAt 56 (.pointer (some ⟨g, 0, none⟩)) (some (.int .i64 (l : Int))) (some (.int .i64 (h : Int))) none).run Try.prog w = .ok (.slice (some A) n c) w) ∧
    (∀ w b, PG w g b → (convert 30 9 (.slice (some A) n c)).run Try.prog w = .ok (.string (cut b l h)) w) ∧ (0 < n → A = ⟨g, l, none⟩) := by
  refine ⟨_, _, _, rfl, fun w => prun l h g h1 h2, fun w b hp => ?_, fun hn => ?_⟩
  · split
    · obtain rfl : l = 256 := by omega
      obtain rfl : h = 256 := by omega
      rw [cut_nil]; exact conv_0 g 0
    · exact conv_pg hp l h _ h1 h2
  · rw [if_neg (by omega)]
set_option maxHeartbeats 4000000 in
theorem At_out {w : World} {g : Nat} {b : List UInt8} (h : PG w g b) (k : Int) (hk : k < 0 ∨ (at_ b 1 : Int) ≤ k) : Calls Try.prog 19 #[.pointer (some ⟨g, 0, none⟩), .int .i64 k] w fun e w' => e = .returned (.tuple #[.string ⟨#[]⟩, .string ⟨#[]⟩]) ∧ w' = w := by
  have H := Aside0.mk h
  clear h
  by_cases h0 : k < 0
  · have c0 : decide (k < 0) = true := decide_eq_true h0
    clear hk
    go_enter Try.func19, Try.ntmps19
    go_wp2_with (go_at_call 21; refine (Len_pg H.out).mono ?_; rintro e w' ⟨rfl, rfl⟩)
    exact bodyPost_ret (results_tmp2 rfl _ _ _) rfl ⟨rfl, rfl⟩
  · have c0 : decide (k < 0) = false := decide_eq_false h0
    have c1 : decide ((at_ b 1 : Int) ≤ k) = true := decide_eq_true (by omega)
    clear hk h0
    go_enter Try.func19, Try.ntmps19
    go_wp2_with (go_at_call 21; refine (Len_pg H.out).mono ?_; rintro e w' ⟨rfl, rfl⟩)
    exact bodyPost_ret (results_tmp2 rfl _ _ _) rfl ⟨rfl, rfl⟩
set_option maxHeartbeats 4000000 in
theorem At_nil (w : World) (k : Int) : Calls Try.prog 19 #[.pointer none, .int .i64 k] w fun e w' => e = .returned (.tuple #[.string ⟨#[]⟩, .string ⟨#[]⟩]) ∧ w' = w := by
  by_cases h0 : k < 0
  · have c0 : decide (k < 0) = true := decide_eq_true h0
    go_enter Try.func19, Try.ntmps19
    go_wp2_with (go_at_call 21; refine (Len_nil _).mono ?_; rintro e w' ⟨rfl, rfl⟩)
    exact bodyPost_ret (results_tmp2 rfl _ _ _) rfl ⟨rfl, rfl⟩
  · have c0 : decide (k < 0) = false := decide_eq_false h0
    have c1 : decide (0 ≤ k) = true := decide_eq_true (by omega)
    clear h0
    go_enter Try.func19, Try.ntmps19
    go_wp2_with (go_at_call 21; refine (Len_nil _).mono ?_; rintro e w' ⟨rfl, rfl⟩)
    exact bodyPost_ret (results_tmp2 rfl _ _ _) rfl ⟨rfl, rfl⟩
set_option maxHeartbeats 4000000 in
theorem At_pg {w : World} {g : Nat} {b : List UInt8} (h : PG w g b) (k j : Nat) (hk : k < at_ b 1) (hk2 : k < 124) (hj : 9 + 2 * k = j) (hm : fromB b k + at_ b j ≤ fromB b (k - 1 : Int)) (hf : fromB b k < 256) : Calls Try.prog 19 #[.pointer (some ⟨g, 0, none⟩), .int .i64 (k : Int)] w fun e w' => e = .returned (.tuple #[.string (cut b (fromB b k) (fromB b k + at_ b j)), .string (cut b (fromB b k + at_ b j) (fromB b (k - 1 : Int)))]) ∧ Below w.heap.size w w' := by
  have c0 : decide ((k : Int) < 0) = false := decide_eq_false (by omega)
  have c1 : decide ((at_ b 1 : Int) ≤ (k : Int)) = false := decide_eq_false (by omega)
  have c1' : decide (at_ b 1 ≤ k) = false := decide_eq_false (by omega)
  have c2 : wrap64 ((k : Int) - 1) = (k : Int) - 1 := by unfold wrap64; omega
  have hF := Aside0.mk (from_any h (k : Int) (by omega))
  have hE := Aside0.mk (from_any h ((k : Int) - 1) (by omega))
  have hK := Aside0.mk (keyed_pg h (k : Int) j (by omega) (by omega) (by omega))
  have he := fromB_le b ((k : Int) - 1)
  have H := Aside0.mk h
  generalize fromB b (k : Int) = f at *
  generalize at_ b j = kl at *
  generalize fromB b ((k : Int) - 1) = e at *
  obtain ⟨m, hmm⟩ : ∃ m, f + kl = m := ⟨_, rfl⟩
  rw [hmm] at hm ⊢
  have c3 : wrap64 ((f : Int) + (kl : Int)) = (m : Int) := by unfold wrap64; omega
  obtain ⟨A1, n1, d1, -, hs1, hv1, -⟩ := sl g f m (by omega) (by omega)
  obtain ⟨A2, n2, d2, -, hs2, hv2, -⟩ := sl g m e (by omega) (by omega)
  have HV := Aside0.mk (And.intro (hv1 w.drew b H.out.drew) (hv2 w.drew b H.out.drew))
  clear hv1 hv2
  clear h hk hk2 hj hmm
  go_enter Try.func19, Try.ntmps19
  go_wp2_with fail
  refine (Len_pg H.out).mono ?_; rintro e w' ⟨rfl, rfl⟩
  go_wp2_with fail
  refine hF.out.mono ?_; rintro e w' ⟨rfl, rfl⟩
  go_wp2_with fail
  refine hE.out.mono ?_; rintro e w' ⟨rfl, rfl⟩
  go_wp2_with fail
  refine hK.out.mono ?_; rintro e w' ⟨rfl, rfl⟩
  clear hF hE hK
  go_wp2
  go_region_held3 (fun w' => (convert 30 9 (.slice (some A1) n1 d1)).run Try.prog w' = .ok (.string (cut b f m)) w' ∧ (convert 30 9 (.slice (some A2) n2 d2)).run Try.prog w' = .ok (.string (cut b m e)) w') (first | exact HV.out | fail) (fail)
  all_goals
    go_wp2
    exact bodyPost_ret (results_tmp2 rfl _ _ _) rfl ⟨rfl, Below.drew (Below.refl _ _)⟩
end Go.Proofs.Ytinbppcfdmbclaa.Pg
