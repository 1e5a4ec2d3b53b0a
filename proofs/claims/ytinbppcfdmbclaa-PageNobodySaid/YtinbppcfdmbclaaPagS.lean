/- A page is read from its bytes: walked. No condition beyond those that each theorem names. -/
import Derived.Test.YtinbppcfdmbclaaPagR
namespace Go.Proofs.Ytinbppcfdmbclaa.Pg
open Go.RowKit Go.Proofs.YtinbppcfdmbclaaW.PrintWords Go.Proofs.YtinbppcfdmbclaaW.PrintLast Go.Proofs.YtinbppcfdmbclaaW.PrintMore
set_option linter.unusedVariables false
set_option linter.unusedSimpArgs false
/-- the bytes but for the sum -/
def clearS (sb : List UInt8) : List UInt8 := splice sb 4 (List.replicate 4 0)
theorem clearS_len {sb : List UInt8} (h : sb.length = 256) : (clearS sb).length = 256 := splice_len h (by simp)
theorem splice_twice (b x y : List UInt8) (o : Nat) (h : x.length = y.length) (hb : o + x.length ≤ b.length) : splice (splice b o x) o y = splice b o y := by
  have hb0 : b = b.take o ++ (b.drop o) := (List.take_append_drop _ _).symm
  unfold splice
  rw [List.take_append_of_le_length (by rw [List.length_take]; omega), List.take_take, Nat.min_self]
  congr 2
  rw [← List.append_assoc, List.drop_append, List.drop_of_length_le (by rw [List.length_append, List.length_take]; omega), List.nil_append, List.length_append, List.length_take, Nat.min_eq_left (by omega), show o + y.length - (o + x.length) = 0 from by omega, List.drop_zero, h]
theorem splice_same (b : List UInt8) (o : Nat) (y : List UInt8) (h : (b.drop o).take y.length = y) : splice b o y = b := by
  unfold splice
  conv => rhs; rw [← List.take_append_drop o b, ← List.take_append_drop y.length (b.drop o), h, List.drop_drop]
theorem enc_zero4 (kind : UInt8) (L : List S66) : ((encB kind L).drop 4).take 4 = [0, 0, 0, 0] := by simp [encB, headB]
theorem bytesR_list (b : List UInt8) : (bytesR b).data.toList = splice b 4 (sumS b).data.toList := rfl
theorem sumS_len (b : List UInt8) : (sumS b).data.toList.length = 4 := rfl
theorem clear_enc (kind : UInt8) (L : List S66) (h : Fits L) : clearS (bytesR (encB kind L)).data.toList = encB kind L := by
  have hl := encB_length kind L h
  rw [bytesR_list, clearS, splice_twice _ _ _ _ (by rw [sumS_len]; rfl) (by rw [sumS_len, hl]; omega)]
  exact splice_same _ _ _ (enc_zero4 kind L)
theorem bytesR_size (b : List UInt8) (h : b.length = 256) : (bytesR b).size = 256 := by
  rw [← sz, bytesR_list, splice_len h (by rw [sumS_len]; omega)]
theorem splice_all (z s : List UInt8) (h : z.length = s.length) : splice z 0 s = s := by
  unfold splice; rw [List.take_zero, List.nil_append, Nat.zero_add, ← h, List.drop_length, List.append_nil]
theorem bytesR_first (kind : UInt8) (L : List S66) (h : 0 < (bytesR (encB kind L)).size) : (bytesR (encB kind L))[0] = kind := by
  show (splice (encB kind L) 4 (sumS (encB kind L)).data.toList).toArray[0]'h = kind
  simp [splice, encB, headB]
theorem enc_zeros (kind : UInt8) (L : List S66) (h : Fits L) (k : Nat) (h1 : 8 + 2 * L.length ≤ k) (h2 : k < 256 - total L) : at_ (encB kind L) k = 0 := by
  have hd := dirB_length L 256
  have hf := h
  unfold Fits at hf
  rw [encB, ← List.append_assoc, show k = (headB kind L ++ dirB 256 L).length + (k - (8 + 2 * L.length)) from by rw [List.length_append, headB_length, hd]; omega, at_append_r, at_append_l _ _ _ (by rw [List.length_replicate]; omega)]
  simp [at_, List.getD_eq_getElem?_getD, List.getElem?_replicate]
  split <;> rfl
set_option maxRecDepth 100000 in
set_option maxHeartbeats 4000000 in
theorem Read_yes {w : World} (kind : UInt8) (L : List S66) (hk : kind ≠ 0) (hc : Cells L) (s : ByteArray) (hse : s = bytesR (encB kind L)) : Calls Try.prog 13 #[.string s] w fun e w' => ∃ g, e = .returned (.tuple #[.pointer (some ⟨g, 0, none⟩), .int .i64 0]) ∧ w.heap.size ≤ g ∧ PGL w' g kind L ∧ Below w.heap.size w w' := by
  have hel := encB_length kind L hc.fits
  have hsz : s.size = 256 := by rw [hse]; exact bytesR_size _ hel
  have hcl : clearS s.data.toList = encB kind L := by rw [hse]; exact clear_enc kind L hc.fits
  have hz := zero58_run w
  have hzs : (zero58.size < 257) = False := eq_false (by rw [zero58_size]; omega)
  have hst := zero58_set
  have hP := made58_pg w
  obtain ⟨w2, hcp, hp2, hb2⟩ := copy_str_pg hP ⟨w.heap.size, 0, none⟩ 0 256 256 s (fun _ => rfl) hsz (by omega)
  rw [splice_all _ _ (by rw [List.length_replicate, sz, hsz])] at hp2
  obtain ⟨w3, hcl3, hp3, hb3⟩ := clear_pg hp2 ⟨w.heap.size, 4, none⟩ 4 4 252 (fun _ => rfl) (by omega) 0
  have HP3 := Aside0.mk (show PGL w3 w.heap.size kind L from ⟨by rw [← hcl]; exact hp3, hc⟩)
  have HB3 := Aside0.mk (BelX.below ((Below.refl _ _).alloc (Nat.le_refl _) _) (by simp) (Nat.le_refl _) (hb2.trans hb3))
  clear hP hp2 hb2 hp3 hb3 hcl
  have HBy := Aside0.mk (show Calls Try.prog 12 #[.pointer (some ⟨w.heap.size, 0, none⟩)] w3 fun e w' => e = .returned (.string s) ∧ Below w3.heap.size w3 w' from by have := Bytes_pg HP3.out.pg; rwa [← hse] at this)
  have hs0 : (((s[0]'(by omega)).toNat : Int) == 0) = false := by
    subst hse
    rw [bytesR_first kind L (by omega)]
    refine beq_eq_false_iff_ne.2 fun e => hk (UInt8.toNat_inj.1 (by simpa using e))
  have HSL := Aside0.mk hc
  have hsh := HP3.out.short
  have hft : 2 * L.length + total L ≤ 248 := hc.fits
  have du : decide (256 < (total L : Int)) = false := decide_eq_false (by omega)
  have du' : decide (256 < total L) = false := decide_eq_false (by omega)
  have dr : decide (248 - 2 * (L.length : Int) - (total L : Int) < 0) = false := decide_eq_false (by omega)
  have HH : Aside0 (zero58.size = 257) := ⟨zero58_size⟩
  clear hc hk hel hse
  go_enter Try.func13, Try.ntmps13
  go_wp2_with fail
  refine HBy.out.mono ?_; rintro e w4 ⟨rfl, hb4⟩
  have HP4 := Aside0.mk (HP3.out.below hb4)
  have HB4 := Aside0.mk (below_step HB3.out hb4)
  clear hb4 HP3 HB3 HBy
  go_wp2_with fail
  refine (used_L HP4.out).mono ?_; rintro e w5 ⟨rfl, hb5⟩
  have HP5 := Aside0.mk (HP4.out.below hb5)
  have HB5 := Aside0.mk (below_step HB4.out hb5)
  clear hb5 HP4 HB4
  go_wp2_with fail
  refine (room_L HP5.out).mono ?_; rintro e w6 ⟨rfl, hb6⟩
  have HP6 := Aside0.mk (HP5.out.below hb6)
  have HB6 := Aside0.mk (below_step HB5.out hb6)
  clear hb6 HP5 HB5
  go_wp2_with fail
  refine (Len_L HP6.out).mono ?_; rintro e w6a ⟨rfl, rfl⟩
  go_wp2_with fail
  refine (Len_L HP6.out).mono ?_; rintro e w6b ⟨rfl, rfl⟩
  have HF6 := Aside0.mk (show Calls Try.prog 36 #[.pointer (some ⟨w.heap.size, 0, none⟩), .int .i64 ((L.length : Int) - 1)] w6b fun e w' => e = .returned (.int .i64 (256 - (total L : Int))) ∧ w' = w6b from by
    have h1 := from_any HP6.out.pg ((L.length : Int) - 1) (by omega)
    have h2 := enc_fromB kind L HSL.out L.length (Nat.le_refl _)
    rw [List.take_length] at h2
    rwa [h2, show ((256 - total L : Nat) : Int) = 256 - (total L : Int) from by omega] at h1)
  go_wp2_with fail
  refine HF6.out.mono ?_; rintro e w6c ⟨rfl, rfl⟩
  clear HF6
  go_wp2_with fail
  refine (used_L HP6.out).mono ?_; rintro e w7 ⟨rfl, hb7⟩
  have HP7 := Aside0.mk (HP6.out.below hb7)
  have HB7 := Aside0.mk (below_step HB6.out hb7)
  clear hb7 HP6 HB6
  go_wp2_with fail
  clear du du' dr hcp hcl3 hs0 hz hzs hst
  go_loopw [6] (fun v wr => ∃ k : Nat, v = .int .i64 (k : Int) ∧ Aside0 (8 + 2 * L.length ≤ k ∧ k ≤ 256 - total L) ∧ Aside0 (PGL wr w.heap.size kind L) ∧ Aside0 (Below w.heap.size w wr)) (fun v _ => 256 - (Lib.intOf v).toNat)
  case atStart => exact ⟨8 + 2 * L.length, by rw [show ((8 + 2 * L.length : Nat) : Int) = 8 + 2 * (L.length : Int) from by omega], ⟨by omega⟩, HP7, HB7⟩
  case round =>
    clear HP7 HB7
    obtain ⟨k, rfl, hM, HA, HB⟩ := hrel
    have hM1 := hM.out
    by_cases hlt : k < 256 - total L
    · have d1 : decide ((k : Int) < 256 - (total L : Int)) = true := decide_eq_true (by omega)
      have hz := enc_zeros kind L HSL.out.fits k hM1.1 hlt
      have HI := Aside0.mk (show k < 256 ∧ k + 1 = k + 1 ∧ k < 256 - total L from by omega)
      have h3 : (k < 256) = True := eq_true (by omega)
      have h4 : ((k : Int) < 256) = True := eq_true (by omega)
      have hkb : k ≤ 255 := by omega
      clear hlt hM1
      go_wp2_with fail
      refine (used_L HA.out).mono ?_; rintro e w8 ⟨rfl, hb8⟩
      have HA8 := Aside0.mk (HA.out.below hb8)
      have HB8 := Aside0.mk (below_step HB.out hb8)
      have hcell := HA8.out.pg.cell k HI.out.1
      rw [hz] at hcell
      clear hb8 HA HB
      go_wp2
      have q : (k : Int) + 1 = ((k + 1 : Nat) : Int) := by omega
      go_roundw
      case rel => exact ⟨k + 1, by rw [q], ⟨by have h1 := HI.out; have h2 := hM.out; omega⟩, HA8, HB8⟩
      case measure => rw [q]; exact up_lt _ _ _ rfl HI.out.1
    · have hk : k = 256 - total L := by omega
      have d1 : decide ((k : Int) < 256 - (total L : Int)) = false := decide_eq_false (by omega)
      clear hlt hM1 hk
      go_wp2_with fail
      refine (used_L HA.out).mono ?_; rintro e w8 ⟨rfl, hb8⟩
      have HA8 := Aside0.mk (HA.out.below hb8)
      have HB8 := Aside0.mk (below_step HB.out hb8)
      clear hb8 HA HB
      go_wp2_with fail
      refine (Len_L HA8.out).mono ?_; rintro e w9 ⟨rfl, rfl⟩
      go_wp2_with fail
      obtain ⟨wo, hwo⟩ : ∃ wo : World, wr = wo := ⟨_, rfl⟩
      clear hM d1
      go_loopw [7, 78] (fun v7 v78 wr => ∃ k : Nat, v78 = .int .i64 (k : Int) ∧ v7 = .string (lastK (L.take k)) ∧ Aside0 (k ≤ L.length) ∧ Aside0 (PGL wr w.heap.size kind L) ∧ Aside0 (Below w.heap.size w wr)) (fun _ v _ => L.length - (Lib.intOf v).toNat)
      case atStart => exact ⟨0, rfl, rfl, ⟨by omega⟩, HA8, HB8⟩
      case round =>
        clear HA8 HB8
        obtain ⟨k, rfl, rfl, hM, HA, HB⟩ := hrel
        by_cases hlt : k < L.length
        · have d1 : decide ((k : Int) < (L.length : Int)) = true := decide_eq_true (by omega)
          have d2 : decide (k < L.length) = true := decide_eq_true hlt
          have e1 := enc_fromB' kind L HSL.out k hlt
          have e2 := enc_fromB kind L HSL.out k (by omega)
          have e3 := (enc_from kind L HSL.out k hlt).2
          have ht := total_take_succ L k hlt
          have hle := total_take_le L (k + 1)
          have hce := HSL.out.each L[k] (List.getElem_mem hlt)
          have hord : k ≠ 0 → Op.bytesLess (lastK (L.take k)).toList L[k].f0.toList = true := fun h0 => by
            have h1 := asc_lt HSL.out.asc (k - 1) k (by omega) hlt (by omega)
            have h2 : lastK (L.take k) = (L[k - 1]'(by omega)).f0 := by
              unfold lastK
              rw [List.getLast?_take, if_neg h0, List.getElem?_eq_getElem (by omega)]; rfl
            rw [h2]; exact h1
          have hlast : lastK (L.take (k + 1)) = L[k].f0 := by
            unfold lastK
            rw [List.getLast?_take, if_neg (by omega), Nat.add_sub_cancel, List.getElem?_eq_getElem hlt]; rfl
          have HL1 := Aside0.mk hlast
          have hmay : mayB L[k].f0 L[k].f1 = true := decide_eq_true hce
          obtain ⟨f, hf⟩ : ∃ f, 256 - total (L.take (k + 1)) = f := ⟨_, rfl⟩
          obtain ⟨en, hen⟩ : ∃ en, 256 - total (L.take k) = en := ⟨_, rfl⟩
          obtain ⟨c, hcc⟩ : ∃ c, L[k] = c := ⟨_, rfl⟩
          rw [hf] at e1
          rw [hen] at e2
          rw [hcc] at hce ht e3 hmay hord HL1
          unfold cz at ht
          have HF := Aside0.mk (show Calls Try.prog 36 #[.pointer (some ⟨w.heap.size, 0, none⟩), .int .i64 (k : Int)] wr fun x w' => x = .returned (.int .i64 (f : Int)) ∧ w' = wr from by have := from_any HA.out.pg (k : Int) (by omega); rwa [e1] at this)
          have HE := Aside0.mk (show Calls Try.prog 36 #[.pointer (some ⟨w.heap.size, 0, none⟩), .int .i64 ((k : Int) - 1)] wr fun x w' => x = .returned (.int .i64 (en : Int)) ∧ w' = wr from by have := from_any HA.out.pg ((k : Int) - 1) (by omega); rwa [e2] at this)
          have HK := Aside0.mk (show Calls Try.prog 37 #[.pointer (some ⟨w.heap.size, 0, none⟩), .int .i64 (k : Int)] wr fun x w' => x = .returned (.int .i64 (c.f0.size : Int)) ∧ w' = wr from by have := keyed_pg HA.out.pg (k : Int) (9 + 2 * k) (by omega) (by omega) (by omega); rwa [e3] at this)
          have HAt := Aside0.mk (show Calls Try.prog 19 #[.pointer (some ⟨w.heap.size, 0, none⟩), .int .i64 (k : Int)] wr fun x w' => x = .returned (.tuple #[.string c.f0, .string c.f1]) ∧ Below wr.heap.size wr w' from by have := At_cell HA.out k hlt; rwa [hcc] at this)
          have dA : decide ((en : Int) ≤ (f : Int)) = false := decide_eq_false (by omega)
          have dA' : decide (en ≤ f) = false := decide_eq_false (by omega)
          have dB : decide ((f : Int) < 8 + 2 * (L.length : Int)) = false := decide_eq_false (by omega)
          have dC : decide ((en : Int) - (f : Int) < (c.f0.size : Int)) = false := decide_eq_false (by omega)
          have HLT := Aside0.mk (And.intro hlt (show f ≤ 256 ∧ en ≤ 256 ∧ f ≤ en from by omega))
          have HMay := Aside0.mk hmay
          have hb1 : en ≤ 256 := by omega
          have hb2 : f ≤ en := by omega
          have hb3 : k ≤ 124 := by omega
          clear e1 e2 e3 ht hle hce hlast hf hen hcc hmay hlt
          by_cases h0 : k = 0
          all_goals
            first
              | (have dK : decide (0 < k) = false := decide_eq_false (by omega)
                 have dK' : decide (0 < (k : Int)) = false := decide_eq_false (by omega)
                 clear hord)
              | (have dK : decide (0 < k) = true := decide_eq_true (by omega)
                 have dK' : decide (0 < (k : Int)) = true := decide_eq_true (by omega)
                 have hord1 := less_asymm (hord h0)
                 have hord2 : (c.f0.toList == (lastK (L.take k)).toList) = false := beq_eq_false_iff_ne.2 (fun e => by have := hord h0; rw [e, less_irrefl] at this; cases this)
                 clear hord)
            clear h0
            go_wp2_with fail
            refine HF.out.mono ?_; rintro e wA ⟨rfl, rfl⟩
            go_wp2_with fail
            refine HE.out.mono ?_; rintro e wB ⟨rfl, rfl⟩
            go_wp2_with fail
            refine HK.out.mono ?_; rintro e wC ⟨rfl, rfl⟩
            go_wp2_with fail
            refine HAt.out.mono ?_; rintro e w10 ⟨rfl, hb10⟩
            have HA10 := Aside0.mk (HA.out.below hb10)
            have HB10 := Aside0.mk (below_step HB.out hb10)
            clear hb10 HA HB HF HE HK HAt
            go_wp2_with fail
            refine (page_cell.calls c.f0 c.f1 true _ (by rw [cell_f, HMay.out])).mono ?_; rintro e w11 ⟨rfl, ⟨nd, rfl⟩⟩
            have HA11 := Aside0.mk (HA10.out.drewN nd)
            have HB11 := Aside0.mk (pw_below_drewN HB10.out nd)
            clear HA10 HB10
            go_wp2
            have q : (k : Int) + 1 = ((k + 1 : Nat) : Int) := by omega
            go_roundw
            case rel => exact ⟨k + 1, by rw [q], by rw [HL1.out], ⟨HLT.out.1⟩, HA11, HB11⟩
            case measure => rw [q]; exact up_lt _ _ _ rfl HLT.out.1
        · have d1 : decide ((k : Int) < (L.length : Int)) = false := decide_eq_false (by omega)
          have d2 : decide (k < L.length) = false := decide_eq_false hlt
          clear hlt
          go_wp2_with fail
          exact bodyPost_ret (results_tmp2 rfl _ _ _) rfl ⟨_, rfl, Nat.le_refl _, HA.out, HB.out⟩
end Go.Proofs.Ytinbppcfdmbclaa.Pg
