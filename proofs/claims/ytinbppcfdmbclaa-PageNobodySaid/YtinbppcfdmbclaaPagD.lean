/- A page's Find, walked: the place of a key among the cells. No condition beyond those that each theorem names. -/
import Derived.Test.YtinbppcfdmbclaaPagC
namespace Go.Proofs.Ytinbppcfdmbclaa.Pg
open Go.RowKit Go.Proofs.YtinbppcfdmbclaaW.PrintWords Go.Proofs.YtinbppcfdmbclaaW.PrintLast Go.Proofs.YtinbppcfdmbclaaW.PrintMore
set_option linter.unusedVariables false
set_option linter.unusedSimpArgs false
/-- how many cells have a lesser key -/
def fN : List S66 → ByteArray → Nat
  | [], _ => 0
  | c :: t, key => if Op.bytesLess c.f0.toList key.toList = true then fN t key + 1 else 0
/-- is there a cell of that key? -/
def there (L : List S66) (key : ByteArray) : Bool := match L[fN L key]? with
  | some c => c.f0.toList == key.toList
  | none => false
theorem fN_le : ∀ (L : List S66) (key : ByteArray), fN L key ≤ L.length
  | [], _ => by simp [fN]
  | c :: t, key => by unfold fN; split <;> simp [fN_le t key]
theorem fN_eq : ∀ (L : List S66) (key : ByteArray) (k : Nat), k ≤ L.length → (∀ i (h : i < L.length), i < k → Op.bytesLess L[i].f0.toList key.toList = true) → (∀ h : k < L.length, Op.bytesLess L[k].f0.toList key.toList = false) → fN L key = k
  | [], key, k, hk, _, _ => by simp at hk; subst hk; rfl
  | c :: t, key, 0, hk, h1, h2 => by
    have := h2 (by simp)
    simp only [List.getElem_cons_zero] at this
    rw [fN, this]; rfl
  | c :: t, key, k + 1, hk, h1, h2 => by
    have e0 := h1 0 (by simp) (by omega)
    simp only [List.getElem_cons_zero] at e0
    rw [fN, if_pos e0, fN_eq t key k (by simpa using hk) (fun i h hi => by have := h1 (i + 1) (by simp; omega) (by omega); simpa using this) (fun h => by have := h2 (by simp; omega); simpa using this)]
theorem asc_lt {L : List S66} (h : L.Pairwise fun c d => Op.bytesLess c.f0.toList d.f0.toList = true) (i j : Nat) (hi : i < L.length) (hj : j < L.length) (hij : i < j) : Op.bytesLess L[i].f0.toList L[j].f0.toList = true :=
  List.pairwise_iff_getElem.1 h i j hi hj hij
theorem PGL.below {w w' : World} {g : Nat} {kind : UInt8} {L : List S66} (h : PGL w g kind L) (k : Below w.heap.size w w') : PGL w' g kind L := ⟨h.pg.below k, h.cells⟩
set_option maxHeartbeats 4000000 in
theorem Find_pg {w : World} {g : Nat} {kind : UInt8} {L : List S66} (h : PGL w g kind L) (key : ByteArray) : Calls Try.prog 26 #[.pointer (some ⟨g, 0, none⟩), .string key] w fun e w' => e = .returned (.tuple #[.int .i64 (fN L key : Int), .bool (there L key)]) ∧ Below w.heap.size w w' := by
  have HL := Aside0.mk (show (Calls Try.prog 21 #[.pointer (some ⟨g, 0, none⟩)] w fun e w' => e = .returned (.int .i64 (L.length : Int)) ∧ w' = w) from by have := Len_pg h.pg; rwa [enc_len _ _ h.cells.fits] at this)
  have H := Aside0.mk h
  have HN : Aside0 (L.length ≤ 124) := ⟨by have := h.cells.fits; unfold Fits at this; omega⟩
  clear h
  go_enter Try.func26, Try.ntmps26
  go_wp2_with fail
  refine HL.out.mono ?_; rintro e w' ⟨rfl, rfl⟩
  clear HL
  go_wp2
  go_loopw [6, 7] (fun v6 v7 wr => ∃ lo hi : Nat, v6 = .int .i64 lo ∧ v7 = .int .i64 hi ∧ Aside0 (lo ≤ hi ∧ hi ≤ L.length ∧ (∀ i (h : i < L.length), i < lo → Op.bytesLess L[i].f0.toList key.toList = true) ∧ (∀ i (h : i < L.length), hi ≤ i → Op.bytesLess key.toList L[i].f0.toList = true)) ∧ Aside0 (Below w'.heap.size w' wr)) (fun v6 v7 _ => (Lib.intOf v7).toNat - (Lib.intOf v6).toNat)
  case atStart => exact ⟨0, L.length, rfl, rfl, ⟨by omega, by omega, fun i h hi => by omega, fun i h hi => by omega⟩, ⟨Below.refl _ _⟩⟩
  case round =>
    obtain ⟨lo, hi, rfl, rfl, hI, HB⟩ := hrel
    by_cases hlt : lo < hi
    · have d0 : decide ((lo : Int) < (hi : Int)) = true := decide_eq_true (by omega)
      have d1 : decide (lo < hi) = true := decide_eq_true hlt
      obtain ⟨mid, hmid⟩ : ∃ mid : Nat, (lo + hi) / 2 = mid := ⟨_, rfl⟩
      have hm1 : Aside0 (lo ≤ mid ∧ mid < hi ∧ mid < L.length) := ⟨by have := hI.out; omega⟩
      have e1 : wrap64 ((lo : Int) + (hi : Int)) = ((lo + hi : Nat) : Int) := by have := hI.out.2.1; have := HN.out; unfold wrap64; omega
      have e2 : ((lo : Int) + (hi : Int)) / 2 = (mid : Int) := by omega
      have e3 : Int.tdiv ((lo : Int) + (hi : Int)) 2 = (mid : Int) := by rw [Int.tdiv_eq_ediv_of_nonneg (by omega)]; omega
      have e4 : wrap64 (mid : Int) = (mid : Int) := by have := hm1.out; have := HN.out; unfold wrap64; omega
      have e5 : wrap64 ((mid : Int) + 1) = ((mid + 1 : Nat) : Int) := by have := hm1.out; have := HN.out; unfold wrap64; omega
      clear hmid hlt
      go_wp2_with fail
      with_reducible refine (At_cell (H.out.below HB.out) mid hm1.out.2.2).mono ?_; rintro e w2 ⟨rfl, hb⟩
      have HB2 := Aside0.mk (below_step HB.out hb)
      clear hb HB
      obtain ⟨c, hc⟩ : ∃ c, L[mid]'hm1.out.2.2 = c := ⟨_, rfl⟩
      rw [hc]
      have HC := Aside0.mk hc
      clear hc
      by_cases ce : c.f0.toList = key.toList
      · have f0 : (c.f0.toList == key.toList) = true := beq_iff_eq.2 ce
        have f1 : decide (c.f0 = key) = true := decide_eq_true (ba_ext (by rw [← ba_list, ← ba_list]; exact ce))
        have HR : Aside0 (fN L key = mid ∧ there L key = true) := ⟨by
          have hA := H.out.cells.asc
          have e1 : fN L key = mid := fN_eq L key mid (by have := hm1.out; omega) (fun i h hi => by have := asc_lt hA i mid h hm1.out.2.2 hi; rw [HC.out, ce] at this; exact this) (fun h => by rw [HC.out, ce]; exact less_irrefl _)
          refine ⟨e1, ?_⟩
          unfold there; rw [e1, List.getElem?_eq_getElem hm1.out.2.2, HC.out]; exact f0⟩
        clear ce
        go_wp2
        exact bodyPost_ret (results_tmp2 rfl _ _ _) rfl ⟨by rw [HR.out.1, HR.out.2]; rfl, HB2.out⟩
      · have f0 : (c.f0.toList == key.toList) = false := beq_eq_false_iff_ne.2 ce
        have f1 : decide (c.f0 = key) = false := decide_eq_false (fun e => ce (by rw [e]))
        by_cases cl : Op.bytesLess c.f0.toList key.toList = true
        · have HR : Aside0 (∀ i (h : i < L.length), i < mid + 1 → Op.bytesLess L[i].f0.toList key.toList = true) := ⟨fun i h hi => by
            by_cases hi2 : i = mid
            · subst hi2; rw [HC.out]; exact cl
            · have := asc_lt H.out.cells.asc i mid h hm1.out.2.2 (by omega); rw [HC.out] at this; exact less_trans this cl⟩
          clear ce
          go_wp2
          go_roundw
          case rel => exact ⟨mid + 1, hi, by rw [e5], rfl, ⟨by have := hm1.out; omega, hI.out.2.1, HR.out, hI.out.2.2.2⟩, ⟨HB2.out⟩⟩
          case measure => have := hm1.out; rw [e5]; simp [Lib.intOf]; omega
        · have cl' : Op.bytesLess c.f0.toList key.toList = false := by simpa using cl
          have HR : Aside0 (∀ i (h : i < L.length), mid ≤ i → Op.bytesLess key.toList L[i].f0.toList = true) := ⟨fun i h hi => by
            have h1 := less_total cl' ce
            by_cases hi2 : i = mid
            · subst hi2; rw [HC.out]; exact h1
            · have := asc_lt H.out.cells.asc mid i hm1.out.2.2 h (by omega); rw [HC.out] at this; exact less_trans h1 this⟩
          clear ce cl
          go_wp2
          go_roundw
          case rel => exact ⟨lo, mid, rfl, rfl, ⟨hm1.out.1, by have := hm1.out; omega, hI.out.2.2.1, HR.out⟩, ⟨HB2.out⟩⟩
          case measure => have := hm1.out; simp [Lib.intOf]; omega
    · obtain rfl : lo = hi := by have := hI.out; omega
      have d0 : decide ((lo : Int) < (lo : Int)) = false := decide_eq_false (by omega)
      have HR : Aside0 (fN L key = lo ∧ there L key = false) := ⟨by
        obtain ⟨_, h2, h3, h4⟩ := hI.out
        have e1 : fN L key = lo := fN_eq L key lo h2 h3 (fun h => less_asymm (h4 lo h (Nat.le_refl _)))
        refine ⟨e1, ?_⟩
        unfold there
        rw [e1]
        by_cases hl : lo < L.length
        · rw [List.getElem?_eq_getElem hl]
          have := h4 lo hl (Nat.le_refl _)
          refine beq_eq_false_iff_ne.2 (fun e => ?_)
          rw [e, less_irrefl] at this; cases this
        · rw [List.getElem?_eq_none (by omega)]⟩
      clear hlt
      go_wp2
      exact bodyPost_ret (results_tmp2 rfl _ _ _) rfl ⟨by rw [HR.out.1, HR.out.2]; rfl, HB.out⟩
end Go.Proofs.Ytinbppcfdmbclaa.Pg
