import Derived.Test.YthmddmafiefaaaaOrx5
import Derived.Test.YthmddmafiefaaaaPureOrd
import Derived.Test.YthmddmafiefaaaaPureBest3
namespace Go.Proofs.Ythmddmafiefaaaa.PureOrd
open Go.RowKit Go.Proofs.YthmddmafiefaaaaW.PrintWords Go.Proofs.YthmddmafiefaaaaW.PrintLast Go.Proofs.YthmddmafiefaaaaW.PrintMore
open Go.Proofs.Ythmddmafiefaaaa.Or
set_option linter.unusedVariables false
set_option linter.unusedSimpArgs false
/-- how many tables a set has -/
def cnt (s : Int) : Nat := ((List.range 6).filter fun (u : Nat) => mem s (u : Int)).length
theorem fin1 : ∀ (n : Fin 7) (s : Fin 64) (t : Fin 6), s.val < 2 ^ n.val → t.val < n.val → ins s.val t.val < 2 ^ n.val := by decide +kernel
theorem fin2 : ∀ (n : Fin 7) (s : Fin 64), s.val < 2 ^ n.val → cnt s.val = n.val → (s.val : Int) = 2 ^ n.val - 1 := by decide +kernel
theorem fin3 : ∀ (n : Fin 7) (s : Fin 64), s.val < 2 ^ n.val → cnt s.val < n.val → ∃ u : Fin 6, u.val < n.val ∧ mem s.val u.val = false := by decide +kernel
theorem fin4 : ∀ (s : Fin 64) (t : Fin 6), mem s.val t.val = false → cnt (ins s.val t.val) = cnt s.val + 1 ∧ del (ins s.val t.val) t.val = s.val := by decide +kernel
theorem fin5 : ∀ (s : Fin 64) (t : Fin 6), mem s.val t.val = true → mem (del s.val t.val) t.val = false := by decide +kernel
theorem fin6 : ∀ (n : Fin 7) (s : Fin 64), s.val < 2 ^ n.val → s.val ≠ 0 → ∃ u : Fin 6, u.val < n.val ∧ mem s.val u.val = true := by decide +kernel
theorem fin7 : ∀ (n : Fin 7), cnt (2 ^ n.val - 1) = n.val := by decide +kernel
theorem fin8 : ∀ (n : Fin 7) (s : Fin 64) (t : Fin 6), s.val < 2 ^ n.val → mem s.val t.val = true → t.val < n.val := by decide +kernel
theorem cnt_zero : cnt 0 = 0 := by decide +kernel
theorem mem_zero : ∀ u : Fin 6, mem 0 u.val = false := by decide +kernel
theorem two_n {n : Nat} (hn : n ≤ 6) : (2 : Int) ^ n ≤ 64 := by
  have : ∀ n : Fin 7, (2 : Int) ^ n.val ≤ 64 := by decide +kernel
  exact this ⟨n, by omega⟩
theorem two_nat (n : Nat) : ((2 ^ n : Nat) : Int) = (2 : Int) ^ n := by simp
/-- The facts of sets, in numbers. -/
theorem ins_facts {n : Nat} {s t : Int} (hn : n ≤ 6) (h0 : 0 ≤ s) (h1 : s < 2 ^ n) (t0 : 0 ≤ t) (t1 : t < n) (hm : mem s t = false) :
    0 ≤ ins s t ∧ ins s t < 2 ^ n ∧ cnt (ins s t) = cnt s + 1 ∧ del (ins s t) t = s ∧ ∀ u : Int, 0 ≤ u → u < 6 → mem (ins s t) u = (mem s u || u == t) := by
  have := two_n hn
  obtain ⟨a, rfl⟩ : ∃ a : Nat, s = a := ⟨s.toNat, by omega⟩
  obtain ⟨b, rfl⟩ : ∃ b : Nat, t = b := ⟨t.toNat, by omega⟩
  have h1' : a < 2 ^ n := by rw [← two_nat] at h1; omega
  have e1 := fin1 ⟨n, by omega⟩ ⟨a, by omega⟩ ⟨b, by omega⟩ h1' (by simpa using t1)
  have e4 := fin4 ⟨a, by omega⟩ ⟨b, by omega⟩ hm
  have e0 := set_nat ⟨a, by omega⟩ ⟨b, by omega⟩
  refine ⟨e0.1.1, e1, e4.1, e4.2, fun u u0 u1 => ?_⟩
  obtain ⟨c, rfl⟩ : ∃ c : Nat, u = c := ⟨u.toNat, by omega⟩
  have := (e0.2.2.2 ⟨c, by omega⟩).1
  simp only at this
  rw [this]
  congr 1
  rw [Bool.eq_iff_iff]
  simp [Fin.ext_iff]
  omega
theorem del_facts {n : Nat} {s t : Int} (hn : n ≤ 6) (h0 : 0 ≤ s) (h1 : s < 2 ^ n) (t0 : 0 ≤ t) (t1 : t < n) (hm : mem s t = true) :
    0 ≤ del s t ∧ del s t < s ∧ ins (del s t) t = s ∧ mem (del s t) t = false := by
  have := two_n hn
  obtain ⟨a, rfl⟩ : ∃ a : Nat, s = a := ⟨s.toNat, by omega⟩
  obtain ⟨b, rfl⟩ : ∃ b : Nat, t = b := ⟨t.toNat, by omega⟩
  have e0 := set_nat ⟨a, by omega⟩ ⟨b, by omega⟩
  have e5 := fin5 ⟨a, by omega⟩ ⟨b, by omega⟩ hm
  exact ⟨e0.2.1.1, (e0.2.2.1 hm).2, (e0.2.2.1 hm).1, e5⟩
theorem full_set {n : Nat} {s : Int} (hn : n ≤ 6) (h0 : 0 ≤ s) (h1 : s < 2 ^ n) (hc : cnt s = n) : s = 2 ^ n - 1 := by
  have := two_n hn
  obtain ⟨a, rfl⟩ : ∃ a : Nat, s = a := ⟨s.toNat, by omega⟩
  have h1' : a < 2 ^ n := by rw [← two_nat] at h1; omega
  exact fin2 ⟨n, by omega⟩ ⟨a, by omega⟩ h1' hc
theorem unused {n : Nat} {s : Int} (hn : n ≤ 6) (h0 : 0 ≤ s) (h1 : s < 2 ^ n) (hc : cnt s < n) : ∃ u : Int, 0 ≤ u ∧ u < n ∧ mem s u = false := by
  have := two_n hn
  obtain ⟨a, rfl⟩ : ∃ a : Nat, s = a := ⟨s.toNat, by omega⟩
  have h1' : a < 2 ^ n := by rw [← two_nat] at h1; omega
  obtain ⟨u, h, h'⟩ := fin3 ⟨n, by omega⟩ ⟨a, by omega⟩ h1' hc
  exact ⟨u.val, by omega, by simpa using h, h'⟩
theorem used {n : Nat} {s : Int} (hn : n ≤ 6) (h0 : 0 < s) (h1 : s < 2 ^ n) : ∃ u : Int, 0 ≤ u ∧ u < n ∧ mem s u = true := by
  have := two_n hn
  obtain ⟨a, rfl⟩ : ∃ a : Nat, s = a := ⟨s.toNat, by omega⟩
  have h1' : a < 2 ^ n := by rw [← two_nat] at h1; omega
  obtain ⟨u, h, h'⟩ := fin6 ⟨n, by omega⟩ ⟨a, by omega⟩ h1' (show a ≠ 0 by omega)
  exact ⟨u.val, by omega, by simpa using h, h'⟩
/-- the set of an order -/
def sto : Int → List Int → Int
  | s, [] => s
  | s, t :: p => sto (ins s t) p
theorem sto_append : ∀ (p q : List Int) (s : Int), sto s (p ++ q) = sto (sto s p) q
  | [], q, s => rfl
  | t :: p, q, s => sto_append p q (ins s t)
theorem Ct_append (R : Int → Int) : ∀ (p q : List Int) (s : Int), Ct R s (p ++ q) = Ct R s p + Ct R (sto s p) q
  | [], q, s => by simp [Ct, sto]
  | t :: p, q, s => by
    have := Ct_append R p q (ins s t)
    simp only [Ct, sto, List.cons_append]
    omega
theorem Fits_append (n : Nat) : ∀ (p q : List Int) (s : Int), Fits n s (p ++ q) ↔ Fits n s p ∧ Fits n (sto s p) q
  | [], q, s => by simp [Fits, sto]
  | t :: p, q, s => by
    have := Fits_append n p q (ins s t)
    simp only [Fits, sto, List.cons_append]
    rw [this]
    constructor
    · rintro ⟨a, b, c, d, e⟩; exact ⟨⟨a, b, c, d⟩, e⟩
    · rintro ⟨⟨a, b, c, d⟩, e⟩; exact ⟨a, b, c, d, e⟩
theorem sto_facts {n : Nat} (hn : n ≤ 6) : ∀ (p : List Int) (s : Int), 0 ≤ s → s < 2 ^ n → Fits n s p → 0 ≤ sto s p ∧ sto s p < 2 ^ n ∧ cnt (sto s p) = cnt s + p.length ∧ ∀ u : Int, 0 ≤ u → u < 6 → mem (sto s p) u = (mem s u || p.contains u)
  | [], s, h0, h1, hf => ⟨h0, h1, rfl, fun u _ _ => by simp [sto]⟩
  | t :: p, s, h0, h1, hf => by
    obtain ⟨f1, f2, f3, f4⟩ := hf
    obtain ⟨e1, e2, e3, e4, e5⟩ := ins_facts hn h0 h1 f1 f2 f3
    obtain ⟨g1, g2, g3, g4⟩ := sto_facts hn p (ins s t) e1 e2 f4
    refine ⟨g1, g2, by simp only [sto, List.length_cons]; omega, fun u u0 u1 => ?_⟩
    simp only [sto]
    rw [g4 u u0 u1, e5 u u0 u1, List.contains_cons, Bool.or_assoc]
theorem lexLt_irrefl : ∀ p : List Int, lexLt p p = false
  | [] => rfl
  | a :: p => by simp [lexLt, lexLt_irrefl p]
theorem lexLt_trans : ∀ p q r : List Int, lexLt p q = true → lexLt q r = true → lexLt p r = true
  | [], [], _, h, _ => by simp [lexLt] at h
  | [], _ :: _, [], _, h => by simp [lexLt] at h
  | [], _ :: _, _ :: _, _, _ => rfl
  | _ :: _, [], _, h, _ => by simp [lexLt] at h
  | _ :: _, _ :: _, [], _, h => by simp [lexLt] at h
  | a :: p, b :: q, c :: r, h1, h2 => by
    simp only [lexLt, Bool.or_eq_true, Bool.and_eq_true, decide_eq_true_eq] at *
    rcases h1 with h1 | ⟨h1, h1'⟩ <;> rcases h2 with h2 | ⟨h2, h2'⟩
    · exact .inl (by omega)
    · exact .inl (by omega)
    · exact .inl (by omega)
    · exact .inr ⟨by omega, lexLt_trans p q r h1' h2'⟩
theorem lexLt_tri : ∀ p q : List Int, lexLt p q = false → lexLt q p = false → p = q
  | [], [], _, _ => rfl
  | [], _ :: _, h, _ => by simp [lexLt] at h
  | _ :: _, [], _, h => by simp [lexLt] at h
  | a :: p, b :: q, h1, h2 => by
    simp only [lexLt, Bool.or_eq_false_iff, Bool.and_eq_false_iff, decide_eq_false_iff_not] at *
    obtain ⟨h1, h1'⟩ := h1
    obtain ⟨h2, h2'⟩ := h2
    have e : a = b := by omega
    subst e
    rw [lexLt_tri p q (by simpa using h1') (by simpa using h2')]
theorem lexLt_pre : ∀ (b p q : List Int), lexLt (b ++ p) (b ++ q) = lexLt p q
  | [], p, q => rfl
  | a :: b, p, q => by simp [lexLt, lexLt_pre b p q]
theorem lexLt_end : ∀ (p q : List Int) (a : Int), p.length = q.length → lexLt (p ++ [a]) (q ++ [a]) = lexLt p q
  | [], [], a, _ => by simp [lexLt]
  | [], _ :: _, a, h => by simp at h
  | _ :: _, [], a, h => by simp at h
  | x :: p, y :: q, a, h => by
    have := lexLt_end p q a (by simpa using h)
    simp [lexLt, this]
/-- an order is no worse than another -/
def LE (R : Int → Int) (p q : List Int) : Prop := Ct R 0 p < Ct R 0 q ∨ (Ct R 0 p = Ct R 0 q ∧ lexLt q p = false)
theorem LE_cost {R : Int → Int} {p q : List Int} (h : LE R p q) : Ct R 0 p ≤ Ct R 0 q := by
  rcases h with h | h <;> omega
theorem LE_anti {R : Int → Int} {p q : List Int} (h : LE R p q) (h' : LE R q p) : p = q := by
  rcases h with h | ⟨h, h2⟩ <;> rcases h' with h' | ⟨h', h2'⟩
  · omega
  · omega
  · omega
  · exact lexLt_tri p q h2' h2
theorem LE_refl {R : Int → Int} (p : List Int) : LE R p p := .inr ⟨rfl, lexLt_irrefl p⟩
theorem LE_trans {R : Int → Int} {p q r : List Int} (h : LE R p q) (h' : LE R q r) : LE R p r := by
  rcases h with h | ⟨h, h2⟩ <;> rcases h' with h' | ⟨h', h2'⟩
  · exact .inl (by omega)
  · exact .inl (by omega)
  · exact .inl (by omega)
  · refine .inr ⟨by omega, ?_⟩
    cases c : lexLt r p with
    | false => rfl
    | true =>
      cases d : lexLt q r with
      | true => rw [lexLt_trans q r p d c] at h2; cases h2
      | false => rw [lexLt_tri q r d h2', c] at h2; cases h2
/-- at every fuel from some number on -/
def Ev {α : Type} (f : Nat → Option α) (r : α) : Prop := ∃ k0, ∀ k, k0 ≤ k → f k = some r
theorem Ev.step {α : Type} {f g : Nat → Option α} {r : α} (h : Ev g r) (k1 : Nat) (e : ∀ k, k1 ≤ k → f (k + 1) = g k) : Ev f r := by
  obtain ⟨k0, h0⟩ := h
  refine ⟨k0 + k1 + 1, fun k hk => ?_⟩
  obtain ⟨j, rfl⟩ : ∃ j, k = j + 1 := ⟨k - 1, by omega⟩
  rw [e j (by omega), h0 j (by omega)]
theorem Ev.same {α : Type} {f g : Nat → Option α} {r : α} (h : Ev g r) (k1 : Nat) (e : ∀ k, k1 ≤ k → f k = g k) : Ev f r := by
  obtain ⟨k0, h0⟩ := h
  refine ⟨k0 + k1, fun k hk => ?_⟩
  rw [e k (by omega), h0 k (by omega)]
theorem Ev.pure {α : Type} {f : Nat → Option α} {r : α} (k1 : Nat) (e : ∀ k, k1 ≤ k → f k = some r) : Ev f r := ⟨k1, e⟩
theorem Ev.bind {α β : Type} {f : Nat → Option α} {a : α} {g : Nat → α → Option β} {r : β} (h : Ev f a) (h2 : Ev (fun k => g k a) r) : Ev (fun k => (f k).bind (g k)) r := by
  obtain ⟨k0, h0⟩ := h
  obtain ⟨k1, h1⟩ := h2
  refine ⟨k0 + k1, fun k hk => ?_⟩
  show (f k).bind (g k) = some r
  rw [h0 k (by omega), Option.bind_some]
  exact h1 k (by omega)
end Go.Proofs.Ythmddmafiefaaaa.PureOrd
