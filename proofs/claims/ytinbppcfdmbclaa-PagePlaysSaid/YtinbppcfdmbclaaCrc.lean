/- Plain facts on the sum that both texts reckon: it is linear, and four bytes that are others are told. No condition beyond those that each theorem names. -/
import Derived.Test.YtinbppcfdmbclaaAid
import Derived.Laws.BitsAllLaws
namespace Go.Proofs.Ytinbppcfdmbclaa.Crc
set_option linter.unusedVariables false
set_option linter.unusedSimpArgs false

theorem xor_left_comm (a b c : Nat) : a ^^^ (b ^^^ c) = b ^^^ (a ^^^ c) := by rw [← Nat.xor_assoc, Nat.xor_comm a b, Nat.xor_assoc]
theorem xor_self_left (a b : Nat) : a ^^^ (a ^^^ b) = b := by rw [← Nat.xor_assoc, Nat.xor_self, Nat.zero_xor]
theorem xor_eq_zero {a b : Nat} (h : a ^^^ b = 0) : a = b := by
  have h2 : a ^^^ (a ^^^ b) = a ^^^ 0 := by rw [h]
  rw [xor_self_left, Nat.xor_zero] at h2; exact h2.symm
theorem xor_cancel_right {a b c : Nat} (h : a ^^^ c = b ^^^ c) : a = b := by
  apply xor_eq_zero
  have h2 : (a ^^^ c) ^^^ (b ^^^ c) = 0 := by rw [h, Nat.xor_self]
  have h3 : (a ^^^ c) ^^^ (b ^^^ c) = a ^^^ b := by
    rw [Nat.xor_assoc, xor_left_comm c b c, Nat.xor_self, Nat.xor_zero]
  rw [← h3]; exact h2
/-- one bit's round -/
def step1 (c : Nat) : Nat := (c / 2) ^^^ (if c % 2 = 1 then 3988292384 else 0)
/-- rounds -/
def it : Nat → Nat → Nat
  | 0, c => c
  | d + 1, c => it d (step1 c)
/-- one byte's rounds -/
def upd (c b : Nat) : Nat := it 8 (c ^^^ b)
/-- all bytes -/
def run (c : Nat) (l : List Nat) : Nat := l.foldl upd c
/-- the sum -/
def crc (s : Nat) (l : List Nat) : Nat := run (s ^^^ 4294967295) l ^^^ 4294967295

theorem step1_xor (a b : Nat) : step1 (a ^^^ b) = step1 a ^^^ step1 b := by
  unfold step1
  rw [Nat.xor_div_two]
  have h := @Nat.xor_mod_two_eq_one a b
  by_cases ha : a % 2 = 1 <;> by_cases hb : b % 2 = 1
  · have h3 : ¬ (a ^^^ b) % 2 = 1 := fun h2 => h.1 h2 ⟨fun _ => hb, fun _ => ha⟩
    rw [if_pos ha, if_pos hb, if_neg h3, Nat.xor_zero, Nat.xor_assoc, xor_left_comm 3988292384, Nat.xor_self, Nat.xor_zero]
  · have h3 : (a ^^^ b) % 2 = 1 := h.2 (fun h2 => hb (h2.1 ha))
    rw [if_pos ha, if_neg hb, if_pos h3, Nat.xor_zero, Nat.xor_assoc, Nat.xor_assoc, Nat.xor_comm (b / 2)]
  · have h3 : (a ^^^ b) % 2 = 1 := h.2 (fun h2 => ha (h2.2 hb))
    rw [if_neg ha, if_pos hb, if_pos h3, Nat.xor_zero, Nat.xor_assoc]
  · have h3 : ¬ (a ^^^ b) % 2 = 1 := fun h2 => h.1 h2 ⟨fun h4 => absurd h4 ha, fun h4 => absurd h4 hb⟩
    rw [if_neg ha, if_neg hb, if_neg h3, Nat.xor_zero, Nat.xor_zero, Nat.xor_zero]
theorem it_xor (d : Nat) : ∀ a b, it d (a ^^^ b) = it d a ^^^ it d b := by
  induction d with
  | zero => intro a b; rfl
  | succ d ih => intro a b; simp only [it]; rw [step1_xor, ih]
theorem step1_lt {c : Nat} (h : c < 4294967296) : step1 c < 4294967296 := by
  unfold step1
  refine Nat.xor_lt_two_pow (n := 32) (by show c / 2 < 4294967296; omega) ?_
  split
  · show 3988292384 < 4294967296; omega
  · show 0 < 4294967296; omega
theorem it_lt (d : Nat) : ∀ {c : Nat}, c < 4294967296 → it d c < 4294967296 := by
  induction d with
  | zero => intro c h; exact h
  | succ d ih => intro c h; exact ih (step1_lt h)
theorem xor_lt {a b : Nat} (ha : a < 4294967296) (hb : b < 4294967296) : a ^^^ b < 4294967296 := Nat.xor_lt_two_pow (n := 32) ha hb
theorem upd_lt {c b : Nat} (hc : c < 4294967296) (hb : b < 256) : upd c b < 4294967296 := it_lt 8 (xor_lt hc (by omega))
theorem run_lt : ∀ (l : List Nat) {c : Nat}, c < 4294967296 → (∀ b ∈ l, b < 256) → run c l < 4294967296
  | [], c, hc, _ => hc
  | b :: l, c, hc, h => run_lt l (c := upd c b) (upd_lt hc (h b (List.mem_cons_self ..))) (fun x hx => h x (List.mem_cons_of_mem _ hx))
theorem crc_lt {s : Nat} {l : List Nat} (hs : s < 4294967296) (h : ∀ b ∈ l, b < 256) : crc s l < 4294967296 :=
  xor_lt (run_lt l (xor_lt hs (by omega)) h) (by omega)
theorem run_append (c : Nat) (a b : List Nat) : run c (a ++ b) = run (run c a) b := by unfold run; rw [List.foldl_append]
theorem crc_append (s : Nat) (a b : List Nat) : crc (crc s a) b = crc s (a ++ b) := by
  unfold crc
  rw [Nat.xor_assoc, Nat.xor_self, Nat.xor_zero, run_append]

/-- linear: two texts of one length -/
theorem run_xor : ∀ (l m : List Nat) (a b : Nat), l.length = m.length → run (a ^^^ b) (List.zipWith (· ^^^ ·) l m) = run a l ^^^ run b m
  | [], [], a, b, _ => rfl
  | x :: l, y :: m, a, b, h => by
    have ih := run_xor l m (upd a x) (upd b y) (by simpa using h)
    have e : upd (a ^^^ b) (x ^^^ y) = upd a x ^^^ upd b y := by
      unfold upd
      rw [← it_xor]
      congr 1
      rw [Nat.xor_assoc, xor_left_comm b x y, ← Nat.xor_assoc]
    show run (upd (a ^^^ b) (x ^^^ y)) (List.zipWith (· ^^^ ·) l m) = _
    rw [e]; exact ih
  | [], _ :: _, _, _, h => by simp at h
  | _ :: _, [], _, _, h => by simp at h

theorem step1_zero {c : Nat} (h : c < 4294967296) (h0 : step1 c = 0) : c = 0 := by
  unfold step1 at h0
  by_cases hc : c % 2 = 1
  · rw [if_pos hc] at h0
    have := xor_eq_zero h0
    omega
  · rw [if_neg hc, Nat.xor_zero] at h0
    omega
theorem it_zero (d : Nat) : ∀ {c : Nat}, c < 4294967296 → it d c = 0 → c = 0 := by
  induction d with
  | zero => intro c _ h; exact h
  | succ d ih => intro c h h0; exact step1_zero h (ih (step1_lt h) h0)
theorem upd_inj {a b x : Nat} (ha : a < 4294967296) (hb : b < 4294967296) (hx : x < 256) (h : upd a x = upd b x) : a = b := by
  unfold upd at h
  have h2 : it 8 ((a ^^^ x) ^^^ (b ^^^ x)) = 0 := by rw [it_xor, h, Nat.xor_self]
  exact xor_cancel_right (xor_eq_zero (it_zero 8 (xor_lt (xor_lt ha (by omega)) (xor_lt hb (by omega))) h2))
theorem run_inj : ∀ (l : List Nat) {a b : Nat}, a < 4294967296 → b < 4294967296 → (∀ x ∈ l, x < 256) → run a l = run b l → a = b
  | [], a, b, _, _, _, h => h
  | x :: l, a, b, ha, hb, hl, h => by
    have hx := hl x (List.mem_cons_self ..)
    exact upd_inj ha hb hx (run_inj l (upd_lt ha hx) (upd_lt hb hx) (fun y hy => hl y (List.mem_cons_of_mem _ hy)) h)
theorem it_low (d : Nat) : ∀ y : Nat, it d (y * 2 ^ d) = y := by
  induction d with
  | zero => intro y; rw [Nat.pow_zero, Nat.mul_one]; rfl
  | succ d ih =>
    intro y
    have e : step1 (y * 2 ^ (d + 1)) = y * 2 ^ d := by
      unfold step1
      rw [Nat.pow_succ, ← Nat.mul_assoc, if_neg (by omega), Nat.xor_zero]; omega
    simp only [it]; rw [e, ih]
theorem it_add (d e : Nat) : ∀ c, it (d + e) c = it e (it d c) := by
  induction d with
  | zero => intro c; rw [Nat.zero_add]; rfl
  | succ d ih => intro c; rw [Nat.succ_add]; exact ih (step1 c)
/-- four bytes are a number of 32 bits -/
theorem run_four (w0 w1 w2 w3 : Nat) : run 0 [w0, w1, w2, w3] = it 32 (w0 ^^^ (w1 * 256) ^^^ (w2 * 65536) ^^^ (w3 * 16777216)) := by
  have e1 : it 8 (w1 * 256) = w1 := it_low 8 w1
  have e2 : it 16 (w2 * 65536) = w2 := it_low 16 w2
  have e3 : it 24 (w3 * 16777216) = w3 := it_low 24 w3
  show upd (upd (upd (upd 0 w0) w1) w2) w3 = _
  unfold upd
  rw [Nat.zero_xor, show (32 : Nat) = 8 + 24 from rfl, it_add 8 24, show (24 : Nat) = 8 + 16 from rfl, it_add 8 16, show (16 : Nat) = 8 + 8 from rfl, it_add 8 8]
  have f2 : it 8 (it 8 (w2 * 65536)) = w2 := by rw [← it_add 8 8]; exact e2
  have f3 : it 8 (it 8 (it 8 (w3 * 16777216))) = w3 := by rw [← it_add 8 8, ← it_add 8 16]; exact e3
  simp only [it_xor]
  rw [e1, f2, f3]
theorem run_four_zero {w0 w1 w2 w3 : Nat} (h0 : w0 < 256) (h1 : w1 < 256) (h2 : w2 < 256) (h3 : w3 < 256) (h : run 0 [w0, w1, w2, w3] = 0) : w0 = 0 ∧ w1 = 0 ∧ w2 = 0 ∧ w3 = 0 := by
  rw [run_four] at h
  have hz := it_zero 32 (xor_lt (xor_lt (xor_lt (by omega) (by omega)) (by omega)) (by omega)) h
  have a := xor_eq_zero hz
  -- low parts: look at the number modulo powers of two
  have m1 : (w0 ^^^ (w1 * 256) ^^^ (w2 * 65536) ^^^ (w3 * 16777216)) % 2 ^ 8 = 0 := by rw [hz]
  have m2 : (w0 ^^^ (w1 * 256) ^^^ (w2 * 65536) ^^^ (w3 * 16777216)) % 2 ^ 16 = 0 := by rw [hz]
  have m3 : (w0 ^^^ (w1 * 256) ^^^ (w2 * 65536) ^^^ (w3 * 16777216)) % 2 ^ 24 = 0 := by rw [hz]
  rw [Nat.xor_mod_two_pow, Nat.xor_mod_two_pow, Nat.xor_mod_two_pow] at m1 m2 m3
  have z0 : w0 = 0 := by
    rw [show w1 * 256 % 2 ^ 8 = 0 by omega, show w2 * 65536 % 2 ^ 8 = 0 by omega, show w3 * 16777216 % 2 ^ 8 = 0 by omega] at m1
    simp only [Nat.xor_zero] at m1; omega
  subst z0
  have z1 : w1 = 0 := by
    rw [show w2 * 65536 % 2 ^ 16 = 0 by omega, show w3 * 16777216 % 2 ^ 16 = 0 by omega] at m2
    simp only [Nat.xor_zero, Nat.zero_mod, Nat.zero_xor] at m2; omega
  subst z1
  have z2 : w2 = 0 := by
    rw [show w3 * 16777216 % 2 ^ 24 = 0 by omega] at m3
    simp only [Nat.xor_zero, Nat.zero_mod, Nat.zero_xor, Nat.zero_mul] at m3; omega
  subst z2
  simp only [Nat.zero_mul, Nat.zero_xor] at hz
  exact ⟨rfl, rfl, rfl, by omega⟩
/-- four bytes in a row, turned: the sum is the same just where nothing was turned -/
theorem run_burst (c : Nat) (p q l w : List Nat) (hc : c < 4294967296) (hp : ∀ b ∈ p, b < 256) (hq : ∀ b ∈ q, b < 256) (hl : ∀ b ∈ l, b < 256) (hw : ∀ b ∈ w, b < 256)
    (h4 : l.length = 4) (h4' : w.length = 4) (h : run c (p ++ (List.zipWith (· ^^^ ·) l w ++ q)) = run c (p ++ (l ++ q))) : w = [0, 0, 0, 0] := by
  obtain ⟨w0, w1, w2, w3, rfl⟩ : ∃ a b c d, w = [a, b, c, d] := by
    match w, h4' with
    | [a, b, c, d], _ => exact ⟨a, b, c, d, rfl⟩
  have hx : ∀ b ∈ List.zipWith (· ^^^ ·) l [w0, w1, w2, w3], b < 256 := by
    obtain ⟨l0, l1, l2, l3, rfl⟩ : ∃ a b c d, l = [a, b, c, d] := by
      match l, h4 with
      | [a, b, c, d], _ => exact ⟨a, b, c, d, rfl⟩
    intro b hb
    simp only [List.zipWith_cons_cons, List.zipWith_nil_left, List.mem_cons, List.not_mem_nil, or_false] at hb hl hw
    rcases hb with rfl | rfl | rfl | rfl <;> exact Nat.xor_lt_two_pow (n := 8) (hl _ (by simp)) (hw _ (by simp))
  rw [run_append, run_append, run_append, run_append] at h
  have hcp := run_lt p hc hp
  have e := run_inj q (run_lt _ hcp hx) (run_lt _ hcp hl) hq h
  have e2 := run_xor l [w0, w1, w2, w3] (run c p) 0 (by rw [h4]; rfl)
  rw [Nat.xor_zero] at e2
  rw [e2] at e
  have e3 : run 0 [w0, w1, w2, w3] = 0 := by
    have := congrArg (fun z => run (run c p) l ^^^ z) e
    simpa only [xor_self_left, Nat.xor_self] using this
  obtain ⟨rfl, rfl, rfl, rfl⟩ := run_four_zero (hw w0 (by simp)) (hw w1 (by simp)) (hw w2 (by simp)) (hw w3 (by simp)) e3
  rfl
theorem nine_sum : crc 0 [49, 50, 51, 52, 53, 54, 55, 56, 57] = 3421780262 := by decide +kernel
end Go.Proofs.Ytinbppcfdmbclaa.Crc
