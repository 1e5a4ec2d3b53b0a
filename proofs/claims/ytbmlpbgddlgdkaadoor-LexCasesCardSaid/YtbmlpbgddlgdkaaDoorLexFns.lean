/- Functions of the lexer that are walked by hand: a run of bytes, capitals, quoted texts, blanks. No condition beyond those that each theorem names. -/
import Derived.Test.YtbmlpbgddlgdkaaDoorProg
import Derived.Below
import Derived.Deep.Draws
import Derived.Deep.AppendLies
import Derived.Maps.AppendAt
import Derived.OwnWalk
import Derived.Laws.BytesArg
import Derived.Laws.MakeOwn
import Derived.Laws.OwnMore
import Derived.Deep.OwnRows
import Derived.Tactics
import Derived.Lib.ConvBytes
import Derived.Laws.Slices
import Derived.WalkKit
import Derived.KernelRfl
import Derived.RowKit3
import Derived.Deep.LoopGhost
import Derived.Deep.QuietTactic
import Derived.BigQuiet
import Derived.WideLaws
import Derived.Deep.DeepCutAuto
import Derived.Deep.CutBlock
import Derived.Deep.RegionHeld3
import Derived.Laws.Rows
import Derived.Lib.AppendStr
import Derived.ArgAppend
import Derived.Laws.IdiomCopy
import Derived.OrdersHeld
import Derived.Laws.BitsLemmas
import Derived.RowKit
import Derived.Test.YtbmlpbgddlgdkaaDoorShelf
import Derived.Deep.RegionHeld3
import Derived.Outline
import Derived.Lib.Hide
import Derived.Lib.Walk
import Derived.Lib.SliceRun
import Derived.Lib.OwnBridge
import Derived.WalkSpells
import Derived.Deep.DrawnRows
import Derived.Test.YtbmlpbgddlgdkaaDoorWWords
import Derived.Test.YtbmlpbgddlgdkaaDoorWLast
import Derived.Test.YtbmlpbgddlgdkaaDoorWTab
import Derived.Test.YtbmlpbgddlgdkaaDoorWFour
import Derived.Test.YtbmlpbgddlgdkaaDoorWQPut
import Derived.Test.YtbmlpbgddlgdkaaDoorWApart
import Derived.Test.YtbmlpbgddlgdkaaDoorWArr
import Derived.Test.YtbmlpbgddlgdkaaDoorWZeros
import Derived.Test.YtbmlpbgddlgdkaaDoorWFoot
import Derived.Test.YtbmlpbgddlgdkaaDoorWKept
import Derived.Test.YtbmlpbgddlgdkaaDoorWShare
import Derived.Test.YtbmlpbgddlgdkaaDoorWN
import Derived.Test.YtbmlpbgddlgdkaaDoorWFootNe
import Derived.Test.YtbmlpbgddlgdkaaDoorWAt
import Derived.Test.YtbmlpbgddlgdkaaDoorWEqStruct
import Derived.Test.YtbmlpbgddlgdkaaDoorWRepsOne
import Derived.Test.YtbmlpbgddlgdkaaDoorWInv
import Derived.Test.YtbmlpbgddlgdkaaDoorWInvWords
import Derived.Test.YtbmlpbgddlgdkaaDoorWGuard
import Derived.Test.YtbmlpbgddlgdkaaDoorWNEv
import Derived.Test.YtbmlpbgddlgdkaaDoorWMore
import Derived.Lib.DecodeN
import Derived.Lib.RuneCount
import Derived.Lib.OthersKept
namespace Go.Proofs.YtbmlpbgddlgdkaaDoor.Lx
open Go.RowKit Go.Proofs.YtbmlpbgddlgdkaaDoorW.PrintWords Go.Proofs.YtbmlpbgddlgdkaaDoorW.PrintLast Go.Proofs.YtbmlpbgddlgdkaaDoorW.PrintMore
set_option linter.unusedVariables false
set_option linter.unusedSimpArgs false
theorem decN_cases (n b0 b1 b2 b3 : Nat) (hn : 1 ≤ n) : (b0 < 128 ∧ Lib.decodeN n b0 b1 b2 b3 = (b0, 1)) ∨ (128 ≤ b0 ∧ 128 ≤ (Lib.decodeN n b0 b1 b2 b3).1 ∧ 1 ≤ (Lib.decodeN n b0 b1 b2 b3).2 ∧ (Lib.decodeN n b0 b1 b2 b3).2 ≤ n ∧ (Lib.decodeN n b0 b1 b2 b3).2 ≤ 4 ∧ (2 ≤ (Lib.decodeN n b0 b1 b2 b3).2 → 128 ≤ b1) ∧ (3 ≤ (Lib.decodeN n b0 b1 b2 b3).2 → 128 ≤ b2) ∧ (4 ≤ (Lib.decodeN n b0 b1 b2 b3).2 → 128 ≤ b3)) := by
  unfold Lib.decodeN
  by_cases h0 : b0 < 128
  · left; rw [if_pos h0]; exact ⟨h0, rfl⟩
  · right
    rw [if_neg h0]
    refine ⟨by omega, ?_⟩
    repeat' split
    all_goals (refine ⟨?_, ?_, ?_, ?_, ?_, ?_, ?_⟩ <;> simp only <;> omega)
theorem dec_ascii (s : ByteArray) (i : Nat) (h : i < s.size) (h0 : s[i].toNat < 128) : Utf8.decode s i = (s[i].toNat, 1) := by
  have hg : s.get! i = s[i] := by simp [ByteArray.get!, getElem!_pos, h]; rfl
  rw [Lib.decode_at]
  rcases decN_cases (s.size - i) (s.get! i).toNat (s.get! (i + 1)).toNat (s.get! (i + 2)).toNat (s.get! (i + 3)).toNat (by omega) with ⟨_, e⟩ | ⟨e, _⟩
  · rw [e, hg]
  · rw [hg] at e; omega
theorem dec_wide (s : ByteArray) (i : Nat) (h : i < s.size) (h0 : ¬ s[i].toNat < 128) : 128 ≤ (Utf8.decode s i).1 ∧ 1 ≤ (Utf8.decode s i).2 ∧ i + (Utf8.decode s i).2 ≤ s.size ∧ ∀ j, i ≤ j → (hj : j < i + (Utf8.decode s i).2) → 128 ≤ (s.get! j).toNat := by
  have hg : s.get! i = s[i] := by simp [ByteArray.get!, getElem!_pos, h]; rfl
  rw [Lib.decode_at]
  rcases decN_cases (s.size - i) (s.get! i).toNat (s.get! (i + 1)).toNat (s.get! (i + 2)).toNat (s.get! (i + 3)).toNat (by omega) with ⟨e, _⟩ | ⟨e0, e1, e2, e3, e4, e5, e6, e7⟩
  · rw [hg] at e; omega
  · refine ⟨e1, e2, by omega, fun j hj hj2 => ?_⟩
    obtain ⟨d, rfl⟩ : ∃ d, j = i + d := ⟨j - i, by omega⟩
    match d, hj2 with
    | 0, _ => exact e0
    | 1, h => exact e5 (by omega)
    | 2, h => exact e6 (by omega)
    | 3, h => exact e7 (by omega)
    | d + 4, h => exact absurd h (by omega)
theorem fn18 (c : Int) (w : World) : Calls Tryd.prog 18 #[.int .i32 c] w fun e w' => e = .returned (.bool (decide (48 ≤ c) && decide (c ≤ 57))) ∧ w' = w := by
  by_cases h1 : 48 ≤ c
  · have d1 : decide (48 ≤ c) = true := decide_eq_true h1
    go_enter Tryd.func18, Tryd.ntmps18
    go_wp2_with fail
    go_ret
    exact ⟨by first | rfl | (rw [d1]; rfl), rfl⟩
  · have d1 : decide (48 ≤ c) = false := decide_eq_false h1
    go_enter Tryd.func18, Tryd.ntmps18
    go_wp2_with fail
    go_ret
    exact ⟨by first | rfl | (rw [d1]; rfl), rfl⟩
theorem fn28 (c : Int) (w : World) : Calls Tryd.prog 28 #[.int .i32 c] w fun e w' => e = .returned (.bool (c != 10)) ∧ w' = w := by
  go_enter Tryd.func28, Tryd.ntmps28
  go_wp2_with fail
  go_ret
  exact ⟨rfl, rfl⟩
theorem fn26 (c : Int) (w : World) : Calls Tryd.prog 26 #[.int .i32 c] w fun e w' => e = .returned (.bool (c == 32 || c == 9 || c == 13 || c == 10)) ∧ w' = w := by
  have fin : ∀ a b : Bool, a = b → Ending.returned (.bool a) = Ending.returned (.bool b) := fun a b h => by rw [h]
  by_cases h1 : c = 32
  · subst h1
    go_enter Tryd.func26, Tryd.ntmps26
    go_wp2_with fail
    go_ret
    exact ⟨rfl, rfl⟩
  · have d1 : (c == 32) = false := beq_eq_false_iff_ne.2 h1
    by_cases h2 : c = 9
    · subst h2
      go_enter Tryd.func26, Tryd.ntmps26
      go_wp2_with fail
      go_ret
      exact ⟨rfl, rfl⟩
    · have d2 : (c == 9) = false := beq_eq_false_iff_ne.2 h2
      by_cases h3 : c = 13
      · subst h3
        go_enter Tryd.func26, Tryd.ntmps26
        go_wp2_with fail
        go_ret
        exact ⟨rfl, rfl⟩
      · have d3 : (c == 13) = false := beq_eq_false_iff_ne.2 h3
        have e1 : decide (c = 32) = false := decide_eq_false h1
        have e2 : decide (c = 9) = false := decide_eq_false h2
        have e3 : decide (c = 13) = false := decide_eq_false h3
        go_enter Tryd.func26, Tryd.ntmps26
        go_wp2_with fail
        go_ret
        exact ⟨by simp [d1, d2, d3], rfl⟩
theorem fn22 (c : Int) (w : World) : Calls Tryd.prog 22 #[.int .i32 c] w fun e w' => e = .returned (.bool ((decide (97 ≤ c) && decide (c ≤ 122)) || (decide (65 ≤ c) && decide (c ≤ 90)) || c == 95)) ∧ w' = w := by
  by_cases h1 : 97 ≤ c
  all_goals by_cases h2 : c ≤ 122
  all_goals by_cases h3 : 65 ≤ c
  all_goals by_cases h4 : c ≤ 90
  all_goals
    first
      | (exfalso; omega)
      | (first | have d1 : decide (97 ≤ c) = true := decide_eq_true h1 | have d1 : decide (97 ≤ c) = false := decide_eq_false h1)
        (first | have d2 : decide (c ≤ 122) = true := decide_eq_true h2 | have d2 : decide (c ≤ 122) = false := decide_eq_false h2)
        (first | have d3 : decide (65 ≤ c) = true := decide_eq_true h3 | have d3 : decide (65 ≤ c) = false := decide_eq_false h3)
        (first | have d4 : decide (c ≤ 90) = true := decide_eq_true h4 | have d4 : decide (c ≤ 90) = false := decide_eq_false h4)
        go_enter Tryd.func22, Tryd.ntmps22
        go_wp2_with fail
        go_ret
        exact ⟨by simp [d1, d2, d3, d4], rfl⟩
theorem fnW (k : Nat) (hk : k = 21 ∨ k = 30) (c : Int) (w : World) : Calls Tryd.prog k #[.int .i32 c] w fun e w' => e = .returned (.bool ((decide (97 ≤ c) && decide (c ≤ 122)) || (decide (65 ≤ c) && decide (c ≤ 90)) || c == 95 || (decide (48 ≤ c) && decide (c ≤ 57)))) ∧ w' = w := by
  have H1 := fn22 c w
  have H2 := fn18 c w
  generalize ((decide (97 ≤ c) && decide (c ≤ 122)) || (decide (65 ≤ c) && decide (c ≤ 90)) || c == 95) = a at *
  generalize (decide (48 ≤ c) && decide (c ≤ 57)) = b at *
  rcases hk with rfl | rfl
  · cases a
    · go_enter Tryd.func21, Tryd.ntmps21
      go_wp2_with fail
      refine H1.mono ?_; rintro e w1 ⟨rfl, rfl⟩
      go_wp2_with fail
      refine H2.mono ?_; rintro e w2 ⟨rfl, rfl⟩
      go_wp2_with fail
      go_ret
      exact ⟨rfl, rfl⟩
    · go_enter Tryd.func21, Tryd.ntmps21
      go_wp2_with fail
      refine H1.mono ?_; rintro e w1 ⟨rfl, rfl⟩
      go_wp2_with fail
      go_ret
      exact ⟨rfl, rfl⟩
  · cases a
    · go_enter Tryd.func30, Tryd.ntmps30
      go_wp2_with fail
      refine H1.mono ?_; rintro e w1 ⟨rfl, rfl⟩
      go_wp2_with fail
      refine H2.mono ?_; rintro e w2 ⟨rfl, rfl⟩
      go_wp2_with fail
      go_ret
      exact ⟨rfl, rfl⟩
    · go_enter Tryd.func30, Tryd.ntmps30
      go_wp2_with fail
      refine H1.mono ?_; rintro e w1 ⟨rfl, rfl⟩
      go_wp2_with fail
      go_ret
      exact ⟨rfl, rfl⟩
/-- the runes that a function value takes -/
def runP (k : Int) (c : Int) : Bool := if k = 18 then (decide (48 ≤ c) && decide (c ≤ 57)) else if k = 26 then (c == 32 || c == 9 || c == 13 || c == 10) else if k = 28 then (c != 10) else ((decide (97 ≤ c) && decide (c ≤ 122)) || (decide (65 ≤ c) && decide (c ≤ 90)) || c == 95 || (decide (48 ≤ c) && decide (c ≤ 57)))
/-- the bytes that it takes -/
def runB (k : Int) (b : UInt8) : Bool := if b.toNat < 128 then runP k b.toNat else decide (k = 28)
def runFns : List Int := [18, 21, 26, 28, 30]
theorem fnAll (k : Int) (hk : k ∈ runFns) (c : Int) (w : World) : Calls Tryd.prog k.toNat #[.int .i32 c] w fun e w' => e = .returned (.bool (runP k c)) ∧ w' = w := by
  simp only [runFns, List.mem_cons, List.not_mem_nil, or_false] at hk
  rcases hk with rfl | rfl | rfl | rfl | rfl
  · exact fn18 c w
  · exact fnW 21 (Or.inl rfl) c w
  · exact fn26 c w
  · exact fn28 c w
  · exact fnW 30 (Or.inr rfl) c w
theorem runP_wide (k : Int) (hk : k ∈ runFns) (c : Nat) (h : 128 ≤ c) : runP k c = decide (k = 28) := by
  simp only [runFns, List.mem_cons, List.not_mem_nil, or_false] at hk
  rcases hk with rfl | rfl | rfl | rfl | rfl <;> simp [runP] <;> omega
theorem tw_step {p : UInt8 → Bool} (D : List UInt8) (pos : Nat) (h : pos < D.length) : ((D.drop pos).takeWhile p).length = if p D[pos] = true then 1 + ((D.drop (pos + 1)).takeWhile p).length else 0 := by
  rw [List.drop_eq_getElem_cons h, List.takeWhile_cons]
  split
  · rw [List.length_cons]; omega
  · rfl
theorem tw_many {p : UInt8 → Bool} (D : List UInt8) : ∀ (n pos : Nat), pos + n ≤ D.length → (∀ j (h : j < D.length), pos ≤ j → j < pos + n → p D[j] = true) → ((D.drop pos).takeWhile p).length = n + ((D.drop (pos + n)).takeWhile p).length
  | 0, pos, _, _ => by simp
  | n + 1, pos, hl, h => by
    rw [tw_step D pos (by omega), if_pos (h pos (by omega) (Nat.le_refl _) (by omega)), tw_many D n (pos + 1) (by omega) (fun j hj h1 h2 => h j hj (by omega) (by omega)), show pos + 1 + n = pos + (n + 1) from by omega]
    omega
theorem fnEnters (k : Int) (hk : k ∈ runFns) : ∀ args w, (callFunc k.toNat args).run Tryd.prog w = .ok (.enter k.toNat args) w := by
  simp only [runFns, List.mem_cons, List.not_mem_nil, or_false] at hk
  rcases hk with rfl | rfl | rfl | rfl | rfl
  · exact enters_of Tryd.func18 (by kernel_rfl) rfl
  · exact enters_of Tryd.func21 (by kernel_rfl) rfl
  · exact enters_of Tryd.func26 (by kernel_rfl) rfl
  · exact enters_of Tryd.func28 (by kernel_rfl) rfl
  · exact enters_of Tryd.func30 (by kernel_rfl) rfl
set_option maxRecDepth 100000 in
set_option maxHeartbeats 1000000 in
theorem run_ok (s : ByteArray) (k : Int) (hk : k ∈ runFns) (hs : s.size ≤ 100000) (w : World) :
    Calls Tryd.prog 20 #[.string s, .func (.func k.toNat) #[] #[]] w fun e w' => e = .returned (.int .i64 ((s.data.toList.takeWhile (runB k)).length : Int)) ∧ Below w.heap.size w w' := by
  have HF := Aside0.mk (fnAll k hk)
  have HK := Aside0.mk hk
  have hEn := fnEnters k hk
  clear hk
  go_enter Tryd.func20, Tryd.ntmps20
  go_wp2_with fail
  go_loopw [] (fun wr => ∃ pos : Nat, wr.heap[w.heap.size]? = some (.stringIter s pos) ∧ Aside0 (pos ≤ s.size ∧ ((s.data.toList.takeWhile (runB k)).length = pos + ((s.data.toList.drop pos).takeWhile (runB k)).length) ∧ Below w.heap.size w wr)) (fun wr => s.size - wr.iterPos w.heap.size)
  case atStart => exact ⟨0, by have := World.iter_heap w s 0; simpa using this, ⟨Nat.zero_le _, by simp, (Below.refl _ w).alloc (Nat.le_refl _) _⟩⟩
  case round =>
    obtain ⟨pos, hit, HI⟩ := hrel
    have hls : s.data.toList.length = s.size := by rw [Array.length_toList]; rfl
    by_cases hp : pos < s.size
    · have hnx : ∀ ty, (Instr.next (.pointer (some ⟨w.heap.size, 0, none⟩)) true ty).run Tryd.prog wr = _ := fun ty => Lib.run_next_any_at wr w.heap.size s pos ty hit hp
      have hwd := Lib.decode_width_pos s pos hp
      have hit2 := Lib.iterAt_heap wr w.heap.size s pos (pos + (Utf8.decode s pos).2) hit
      have HB2 := Aside0.mk (Lib.below_iterAt HI.out.2.2 (k := w.heap.size) (Nat.le_refl _) s (pos + (Utf8.decode s pos).2))
      have HCase := Aside0.mk (show (runP k ((Utf8.decode s pos).1 : Int) = true ∧ pos + (Utf8.decode s pos).2 ≤ s.size ∧ (s.data.toList.takeWhile (runB k)).length = (pos + (Utf8.decode s pos).2) + ((s.data.toList.drop (pos + (Utf8.decode s pos).2)).takeWhile (runB k)).length) ∨ (runP k ((Utf8.decode s pos).1 : Int) = false ∧ (s.data.toList.takeWhile (runB k)).length = pos) from by
        have hget : ∀ j (hj : j < s.data.toList.length), s.data.toList[j] = s.get! j := fun j hj => by
          have hj2 : j < s.size := by omega
          simp [ByteArray.get!, getElem!_pos, hj2]
        have h2 := HI.out.2.1
        rw [tw_step s.data.toList pos (by omega)] at h2
        have hg := hget pos (by omega)
        have hgs : s.get! pos = s[pos] := by simp [ByteArray.get!, getElem!_pos, hp]; rfl
        by_cases h0 : s[pos].toNat < 128
        · rw [dec_ascii s pos hp h0]
          have hB : runB k s.data.toList[pos] = runP k (s[pos].toNat : Int) := by rw [hg, hgs]; unfold runB; rw [if_pos h0]
          rw [hB] at h2
          cases hR : runP k (s[pos].toNat : Int) with
          | true => rw [hR, if_pos rfl] at h2; exact Or.inl ⟨rfl, by show pos + 1 ≤ s.size; omega, by rw [h2]; show _ = pos + 1 + ((s.data.toList.drop (pos + 1)).takeWhile (runB k)).length; omega⟩
          | false => rw [hR, if_neg (by decide)] at h2; exact Or.inr ⟨rfl, by omega⟩
        · obtain ⟨d1, d2, d3, d4⟩ := dec_wide s pos hp h0
          have hR := runP_wide k HK.out _ d1
          have hB : runB k s.data.toList[pos] = decide (k = 28) := by rw [hg, hgs]; unfold runB; rw [if_neg h0]
          by_cases h28 : k = 28
          · refine Or.inl ⟨by rw [hR]; exact decide_eq_true h28, d3, ?_⟩
            have h3 := HI.out.2.1
            rw [h3, tw_many s.data.toList (Utf8.decode s pos).2 pos (by omega) (fun j hj h1 h2 => by
              have := d4 j h1 h2
              rw [hget j hj]; unfold runB; rw [if_neg (by omega)]; exact decide_eq_true h28)]
            omega
          · rw [hB, if_neg (by simp [h28])] at h2
            exact Or.inr ⟨by rw [hR]; exact decide_eq_false h28, by omega⟩)
      obtain ⟨rn, hrn⟩ : ∃ rn, ((Utf8.decode s pos).1 : Int) = rn := ⟨_, rfl⟩
      obtain ⟨wd, hwdn⟩ : ∃ wd, (Utf8.decode s pos).2 = wd := ⟨_, rfl⟩
      rw [hrn, hwdn] at HCase
      simp only [hrn, hwdn] at hnx hit2 HB2 hwd
      have HFr := Aside0.mk (fun W => HF.out rn W)
      clear hrn hwdn hls
      rcases HCase.out with ⟨hR, hC⟩ | ⟨hR, hC⟩
      · rw [hR] at HFr
        have HC := Aside0.mk hC
        clear hC HCase
        go_wp2_with fail
        refine (HFr.out _).mono ?_; rintro e w9 ⟨rfl, rfl⟩
        go_wp2_with fail
        go_roundw
        case rel => exact ⟨pos + wd, hit2, ⟨HC.out.1, HC.out.2, HB2.out⟩⟩
        case measure => simp only [World.iterPos, hit2, hit]; have := HC.out.1; omega
      · rw [hR] at HFr
        have HC := Aside0.mk hC
        clear hC HCase
        go_wp2_with fail
        refine (HFr.out _).mono ?_; rintro e w9 ⟨rfl, rfl⟩
        go_wp2_with fail
        go_ret
        exact ⟨by rw [HC.out]; rfl, HB2.out⟩
    · have hnx : ∀ ty, (Instr.next (.pointer (some ⟨w.heap.size, 0, none⟩)) true ty).run Tryd.prog wr = _ := fun ty => Lib.run_next_end_at wr w.heap.size s pos ty hit hp
      have HE := Aside0.mk (show (s.data.toList.takeWhile (runB k)).length = s.size from by
        have h2 := HI.out.2.1
        have h3 := HI.out.1
        rw [List.drop_of_length_le (by omega)] at h2
        simp only [List.takeWhile_nil, List.length_nil] at h2
        omega)
      clear hls hp
      go_wp2_with fail
      go_ret
      exact ⟨by rw [HE.out]; rfl, HI.out.2.2⟩
end Go.Proofs.YtbmlpbgddlgdkaaDoor.Lx
