/- The law's light: few rows, of few values. No condition beyond those that each theorem names. -/
import Derived.Test.YtghpjlohoehdnaaSfG
namespace Go.Proofs.Ytghpjlohoehdnaa.Sep
open Go Go.RowKit Go.Shelf
set_option linter.unusedVariables false
set_option linter.unusedSimpArgs false
/-- a list of rows of whatever length -/
def Raw (W : World) (sv : Value) (rows : List (List V3)) : Prop :=
  (∃ a c, sv = .slice a 0 c ∧ rows = []) ∨ ∃ b off c rs, sv = .slice (some ⟨b, off, none⟩) (List.length rs) c ∧ b < W.heap.size ∧ (∀ j, j < rs.length → W.cell? ⟨b, off + j, none⟩ = some ((rs[j]?.getD RV.nil).v)) ∧ All2 (fun q row => Cont W q row) rs rows
/-- what light answers -/
def LP (rows : List (List V3)) (W : World) (e : Ending) (W' : World) : Prop := ∃ t, e = .returned (.bool t) ∧ (t = true → rows.length ≤ 30 ∧ ∀ row ∈ rows, row.length ≤ 6) ∧ W' = W
set_option maxRecDepth 100000 in
set_option maxHeartbeats 4000000 in
theorem light_some (b off c : Nat) (rs : List RV) (rows : List (List V3)) (W : World) (hb : b < W.heap.size) (hcs : ∀ j, j < rs.length → W.cell? ⟨b, off + j, none⟩ = some ((rs[j]?.getD RV.nil).v)) (hr : All2 (fun q row => Cont W q row) rs rows) :
    Calls Try.prog 11 #[.slice (some ⟨b, off, none⟩) rs.length c] W (LP rows W) := by
  have hcsA : Aside (∀ j, j < rs.length → W.cell? ⟨b, off + j, none⟩ = some ((rs[j]?.getD RV.nil).v)) := hcs
  clear hcs
  go_enter Try.func11, Try.ntmps11
  go_wp2
  go_loopw [3] (fun i wr => ∃ (j : Nat), j ≤ rs.length ∧ j ≤ 30 ∧ i = .int .i64 j ∧ wr = W ∧ ∀ k row, k < j → rows[k]? = some row → row.length ≤ 6) (fun i _ => 30 - (intOf i).toNat)
  case atStart => exact ⟨0, Nat.zero_le _, Nat.zero_le _, rfl, rfl, fun k row h _ => absurd h (Nat.not_lt_zero k)⟩
  case round =>
    obtain ⟨j, hj, hj30, rfl, rfl, hall⟩ := hrel
    by_cases hlt : j < rs.length
    · have hd1 : decide ((j : Int) < (rs.length : Int)) = true := by simpa using hlt
      by_cases hlt30 : j < 30
      · obtain ⟨q, hq⟩ : ∃ q, rs[j]? = some q := ⟨rs[j], List.getElem?_eq_getElem hlt⟩
        obtain ⟨row, hrow⟩ : ∃ row, rows[j]? = some row := ⟨rows[j]'(by rw [← hr.len]; exact hlt), List.getElem?_eq_getElem _⟩
        have hC := hr.get j _ _ hq hrow
        have hx := hcsA.out j hlt
        have hi30 : decide ((j : Int) < 30) = true := by simp; omega
        rw [hq] at hx
        obtain ⟨qa, qn, qc⟩ := q
        dsimp only [RV.v, Option.getD_some] at hx
        have hl := hC.len
        dsimp only at hl
        have hlA : Aside (row.length = qn) := hl
        clear hl hq
        by_cases hq6 : qn ≤ 6
        · have hnext : ∀ k row, k < j + 1 → rows[k]? = some row → row.length ≤ 6 := fun k r h1 h2 => by
            by_cases hk : k = j
            · subst hk
              rw [hrow] at h2
              injection h2 with h2
              subst h2
              rw [hlA.out]; exact hq6
            · exact hall k r (by omega) h2
          have hd6 : decide (6 < (qn : Int)) = false := by simp; omega
          clear hrow hall
          go_wp2
          go_loopw [4] (fun i w2 => ∃ (k : Nat), k ≤ qn ∧ i = .int .i64 k ∧ w2 = wr) (fun i _ => qn - (intOf i).toNat)
          case atStart => exact ⟨0, Nat.zero_le _, rfl, rfl⟩
          case round =>
            obtain ⟨k, hk, rfl, rfl⟩ := hrel
            by_cases hk2 : k < qn
            · obtain ⟨v, hv⟩ : ∃ v, row[k]? = some v := ⟨row[k]'(by rw [hlA.out]; exact hk2), List.getElem?_eq_getElem _⟩
              obtain ⟨f1, f2, f3⟩ := flat_at row k v hv
              rcases hC with ⟨h, _⟩ | ⟨b2, off2, hae, _, _, hcs2⟩
              · have : qn = 0 := h
                omega
              · replace hae : qa = some ⟨b2, off2, none⟩ := hae
                subst hae
                have x3 := hcs2 _ _ f3
                rw [Nat.mul_comm 3 k, ← Nat.add_assoc] at x3
                clear hv f1 f2 f3 hcs2
                by_cases h64 : v.s.size ≤ 64
                · have hd64 : decide (64 < (v.s.size : Int)) = false := by simp; omega
                  go_wp2
                  go_roundw
                  case rel => exact ⟨k + 1, by omega, by simp, by trivial⟩
                  case measure => simp [intOf]; omega
                · have hd64 : decide (64 < (v.s.size : Int)) = true := by simp; omega
                  go_wp2
                  refine bodyPost_ret (results_tmp rfl _ _ _) rfl ?_
                  exact ⟨false, rfl, (fun h => by cases h), rfl⟩
            · obtain rfl : k = qn := by omega
              go_wp2
              go_roundw
              case rel => exact ⟨j + 1, by omega, by omega, by simp, by trivial, hnext⟩
              case measure => simp [intOf]; omega
        · have hd6 : decide (6 < (qn : Int)) = true := by simp; omega
          clear hrow hall
          go_wp2
          refine bodyPost_ret (results_tmp rfl _ _ _) rfl ?_
          exact ⟨false, rfl, (fun h => by cases h), rfl⟩
      · have hd2 : decide ((j : Int) < 30) = false := by simp; omega
        by_cases h30 : rs.length ≤ 30
        · omega
        · have hd3 : decide ((rs.length : Int) ≤ 30) = false := by simp; omega
          clear hall
          go_wp2
          refine bodyPost_ret (results_tmp rfl _ _ _) rfl ?_
          exact ⟨false, rfl, (fun h => by cases h), rfl⟩
    · have hd1 : decide ((j : Int) < (rs.length : Int)) = false := by simp; omega
      have hfin : Aside (rows.length ≤ 30 ∧ ∀ row ∈ rows, row.length ≤ 6) := by
        have hl := hr.len
        show rows.length ≤ 30 ∧ ∀ row ∈ rows, row.length ≤ 6
        refine ⟨by omega, fun row hm => ?_⟩
        obtain ⟨k, hk, e⟩ := List.mem_iff_getElem.1 hm
        exact hall k row (by omega) (by rw [← e]; exact List.getElem?_eq_getElem hk)
      have hd3 : decide ((rs.length : Int) ≤ 30) = true := by simp; omega
      clear hall
      go_wp2
      refine bodyPost_ret (results_tmp rfl _ _ _) rfl ?_
      exact ⟨true, rfl, fun _ => hfin.out, rfl⟩
set_option maxRecDepth 100000 in
set_option maxHeartbeats 1000000 in
theorem light_nil (a : Option Addr) (c : Nat) (W : World) : Calls Try.prog 11 #[.slice a 0 c] W fun e W' => e = .returned (.bool true) ∧ W' = W := by
  go_enter Try.func11, Try.ntmps11
  go_wp2
  go_loopw [3] (fun i wr => i = .int .i64 0 ∧ wr = W) (fun _ _ => 0)
  case atStart => exact ⟨rfl, rfl⟩
  case round =>
    obtain ⟨rfl, rfl⟩ := hrel
    go_wp2
    refine bodyPost_ret (results_tmp rfl _ _ _) rfl ?_
    exact ⟨rfl, rfl⟩
theorem light_ok (sv : Value) (rows : List (List V3)) (W : World) (h : Raw W sv rows) :
    Calls Try.prog 11 #[sv] W fun e W' => ∃ t, e = .returned (.bool t) ∧ (t = true → rows.length ≤ 30 ∧ ∀ row ∈ rows, row.length ≤ 6) ∧ W' = W := by
  rcases h with ⟨a, c, rfl, rfl⟩ | ⟨b, off, c, rs, rfl, hb, hcs, hr⟩
  · exact (light_nil a c W).mono (by rintro e w ⟨rfl, rfl⟩; exact ⟨true, rfl, fun _ => ⟨by simp, fun row h => by cases h⟩, rfl⟩)
  · exact light_some b off c rs rows W hb hcs hr
end Go.Proofs.Ytghpjlohoehdnaa.Sep
