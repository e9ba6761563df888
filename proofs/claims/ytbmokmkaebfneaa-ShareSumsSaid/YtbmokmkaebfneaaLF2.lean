/- What the fields' numbers keep: a field's rules, roots. In plain Lean, over the numbers' names. -/
import Derived.Test.YtbmokmkaebfneaaLF0
namespace Go.Proofs.Ytbmokmkaebfneaa
set_option linter.unusedVariables false
set_option linter.unusedSimpArgs false

section
variable (b : Bool) (x y z : Nat)
theorem fml_comm : fmlN b x y = fmlN b y x := by rw [fmlN_def, fmlN_def, Nat.mul_comm]
theorem fml_assoc : fmlN b (fmlN b x y) z = fmlN b x (fmlN b y z) := by
  rw [fmlN_def, fmlN_def, fmlN_def, fmlN_def, Nat.mod_mul_mod, Nat.mul_mod_mod, Nat.mul_assoc]
theorem fml_add : fmlN b x (fadN b y z) = fadN b (fmlN b x y) (fmlN b x z) := by
  rw [fmlN_def, fadN_def, fadN_def, fmlN_def, fmlN_def, Nat.mul_mod_mod, Nat.mul_add, ← Nat.add_mod]
theorem fsb_zero (h : x < pN b) : fsbN b 0 x = if x = 0 then 0 else pN b - x := by
  rw [fsbN_def, Nat.zero_add]
  by_cases h0 : x = 0
  · rw [if_pos h0, h0, Nat.sub_zero, Nat.mod_self]
  · rw [if_neg h0, Nat.mod_eq_of_lt (by omega)]
theorem fad_neg (h : x < pN b) : fadN b x (fsbN b 0 x) = 0 := by
  rw [fsb_zero b x h, fadN_def]
  by_cases h0 : x = 0
  · rw [if_pos h0, h0, Nat.zero_mod]
  · rw [if_neg h0, show x + (pN b - x) = pN b by omega, Nat.mod_self]
theorem fml_one (h : x < pN b) : fmlN b x 1 = x := by rw [fmlN_def, Nat.mul_one, Nat.mod_eq_of_lt h]
theorem not_dvd (h : x < pN b) (h0 : x ≠ 0) : ¬ pN b ∣ x := fun hd => by
  have := Nat.le_of_dvd (by omega) hd; omega
theorem fml_inv (h : x < pN b) (h0 : x ≠ 0) : fmlN b x (fpwN b x (ieN b)) = 1 := by
  have h1 := pN_one b
  rw [fmlN_def, fpwN_def, Nat.mul_mod_mod, ← Nat.pow_succ', ieN_def, show (pN b - 2).succ = pN b - 1 by have := pN_big b (show 2 < 1000 by omega); omega]
  exact fermat (pN_prime b) (not_dvd b x h h0)
theorem neg_neg (h : x < pN b) : fsbN b 0 (fsbN b 0 x) = x := by
  have hl := fsbN_lt b 0 x
  rw [fsb_zero b _ hl]
  rw [fsb_zero b x h]
  by_cases h0 : x = 0
  · rw [if_pos h0, if_pos rfl, h0]
  · rw [if_neg h0, if_neg (by omega)]; omega
theorem sub_neg (h : x < pN b) (k : y < pN b) : fsbN b x y = fadN b x (fsbN b 0 y) := by
  rw [fsb_zero b y k, fsbN_def, fadN_def]
  by_cases h0 : y = 0
  · rw [if_pos h0, h0, Nat.sub_zero, Nat.add_mod_right, Nat.add_zero]
  · rw [if_neg h0, show x + pN b - y = x + (pN b - y) by omega]
theorem mul_neg (k : y < pN b) : fmlN b x (fsbN b 0 y) = fsbN b 0 (fmlN b x y) := by
  rw [fsb_zero b y k, fsb_zero b _ (fmlN_lt b x y), fmlN_def, fmlN_def]
  by_cases h0 : y = 0
  · rw [if_pos h0, h0, Nat.mul_zero, Nat.zero_mod, if_pos rfl]
  · rw [if_neg h0]
    have hp := pN_pos b
    have hs : x * (pN b - y) + x * y = x * pN b := by rw [← Nat.mul_add, Nat.sub_add_cancel (Nat.le_of_lt k)]
    have hm : (x * (pN b - y) + x * y) % pN b = 0 := by rw [hs, Nat.mul_mod_left]
    have l1 := Nat.mod_lt (x * (pN b - y)) hp
    have l2 := Nat.mod_lt (x * y) hp
    rw [Nat.add_mod] at hm
    generalize x * (pN b - y) % pN b = u at *
    generalize x * y % pN b = v at *
    by_cases hv : v = 0
    · rw [if_pos hv]; subst hv; rwa [Nat.add_zero, Nat.mod_eq_of_lt l1] at hm
    · rw [if_neg hv]
      rcases Nat.lt_or_ge (u + v) (pN b) with hlt | hge
      · rw [Nat.mod_eq_of_lt hlt] at hm; omega
      · rw [Nat.mod_eq_sub_mod hge, Nat.mod_eq_of_lt (by omega)] at hm; omega
end

/-! ### Roots -/
theorem p_mod4 : pN true % 4 = 3 := by rw [pN_def]; decide +kernel
/-- Euler: a power by half is 1 or less 1. -/
theorem half_power (x : Nat) (h : x < pN true) (h0 : x ≠ 0) : x ^ ((pN true - 1) / 2) % pN true = 1 ∨ x ^ ((pN true - 1) / 2) % pN true = pN true - 1 := by
  have hp := pN_prime true
  have h1 := pN_one true
  have hf := fermat hp (not_dvd true x h h0)
  have h4 := p_mod4
  generalize hn : pN true = p at *
  have e : p - 1 = (p - 1) / 2 + (p - 1) / 2 := by omega
  rw [e, Nat.pow_add, Nat.mul_mod] at hf
  have hl : x ^ ((p - 1) / 2) % p < p := Nat.mod_lt _ (by omega)
  generalize x ^ ((p - 1) / 2) % p = u at *
  have hd : p ∣ (u + (p - 1)) * (u + 1) := by
    refine Nat.dvd_of_mod_eq_zero ?_
    have e2 : (u + (p - 1)) * (u + 1) = u * u + (p - 1) + p * u := by
      obtain ⟨q, rfl⟩ : ∃ q, p = q + 1 := ⟨p - 1, by omega⟩
      simp only [Nat.add_sub_cancel, Nat.add_mul, Nat.mul_add, Nat.mul_one, Nat.one_mul]
      rw [Nat.mul_comm q u]
      omega
    rw [e2, Nat.add_mul_mod_self_left, Nat.add_mod, hf, Nat.mod_eq_of_lt (show p - 1 < p by omega), show 1 + (p - 1) = p by omega, Nat.mod_self]
  rcases hp.dvd_mul hd with h2 | h2
  · left
    obtain ⟨c, hc⟩ := h2
    have hc0 : c ≠ 0 := by rintro rfl; omega
    have hc2 : c < 2 := by
      refine Classical.byContradiction fun hn => ?_
      have := Nat.mul_le_mul_left p (show 2 ≤ c by omega); omega
    obtain rfl : c = 1 := by omega
    omega
  · right
    have := Nat.le_of_dvd (by omega) h2
    omega
theorem rt_twice (x : Nat) : fpwN true x (rtN true) * fpwN true x (rtN true) % pN true = x * x ^ ((pN true - 1) / 2) % pN true := by
  have h4 := p_mod4
  rw [fpwN_def, ← Nat.mul_mod, ← Nat.pow_add, ← Nat.pow_succ', rt_base]
  congr 2
  omega
theorem sq_eq (x : Nat) : fmlN true (fpwN true x (rtN true)) (fpwN true x (rtN true)) = x * (x ^ ((pN true - 1) / 2) % pN true) % pN true := by
  rw [fmlN_def, rt_twice, Nat.mul_mod_mod]
theorem zero_sq0 : fmlN true (fpwN true 0 (rtN true)) (fpwN true 0 (rtN true)) = 0 := by rw [sq_eq, Nat.zero_mul, Nat.zero_mod]
/-- A square has a root. -/
theorem root_square (x : Nat) (h : x < pN true) : fmlN true (fpwN true (fmlN true x x) (rtN true)) (fpwN true (fmlN true x x) (rtN true)) = fmlN true x x := by
  by_cases h0 : x = 0
  · subst h0; rw [show fmlN true 0 0 = 0 by rw [fmlN_def, Nat.zero_mul, Nat.zero_mod]]; exact zero_sq0
  · rw [sq_eq]
    have hf := fermat (pN_prime true) (not_dvd true x h h0)
    have e : (fmlN true x x) ^ ((pN true - 1) / 2) % pN true = 1 := by
      have h4 := p_mod4
      rw [fmlN_def, ← Nat.pow_mod, ← Nat.pow_two, ← Nat.pow_mul, show 2 * ((pN true - 1) / 2) = pN true - 1 by omega]
      exact hf
    rw [e, Nat.mul_one, Nat.mod_eq_of_lt (fmlN_lt true x x)]
theorem neg_square (x : Nat) (h : x < pN true) : fmlN true (fsbN true 0 x) (fsbN true 0 x) = fmlN true x x := by
  rw [mul_neg true _ x h, fml_comm, mul_neg true _ x h, neg_neg true _ (fmlN_lt true x x)]
theorem ev_square (x : Nat) (h : x < pN true) : fmlN true (evN true x) (evN true x) = fmlN true x x := by
  rw [evN_def]; split
  · exact neg_square x h
  · rfl
theorem root_again (x : Nat) (h : x < pN true) : fmlN true (evN true (fpwN true (fmlN true x x) (rtN true))) (evN true (fpwN true (fmlN true x x) (rtN true))) = fmlN true x x := by
  rw [ev_square _ (fpwN_lt _ _ _)]; exact root_square x h
theorem same_square (x y : Nat) (h : x < pN true) (k : y < pN true) (he : fmlN true x x = fmlN true y y) : x = y ∨ x = fsbN true 0 y := by
  have hp := pN_prime true
  rw [fsb_zero true y k]
  rw [fmlN_def, fmlN_def] at he
  generalize pN true = p at *
  have key : ∀ u v : Nat, u ≤ v → v < p → u * u % p = v * v % p → u = v ∨ u + v = p := fun u v hl hv hs => by
    have hd := dvd_of_mod hs
    have e : v * v - u * u = (v - u) * (v + u) := by
      obtain ⟨c, rfl⟩ : ∃ c, v = u + c := ⟨v - u, by omega⟩
      rw [Nat.add_sub_cancel_left]
      simp only [Nat.add_mul, Nat.mul_add]
      rw [Nat.mul_comm c u]
      omega
    rw [e] at hd
    rcases hp.dvd_mul hd with h1 | h1
    · by_cases hz : v - u = 0
      · left; omega
      · have := Nat.le_of_dvd (by omega) h1; omega
    · obtain ⟨c, hc⟩ := h1
      by_cases hc0 : c = 0
      · subst hc0; left; omega
      · have hc2 : c < 2 := by
          refine Classical.byContradiction fun hn => ?_
          have := Nat.mul_le_mul_left p (show 2 ≤ c by omega); omega
        obtain rfl : c = 1 := by omega
        right; omega
  rcases Nat.le_total x y with hl | hl
  · rcases key x y hl k he with h1 | h1
    · exact .inl h1
    · right; rw [if_neg (by omega)]; omega
  · rcases key y x hl h he.symm with h1 | h1
    · exact .inl h1.symm
    · right; rw [if_neg (by omega)]; omega
theorem root_either (x : Nat) (h : x < pN true) : evN true (fpwN true (fmlN true x x) (rtN true)) = x ∨ evN true (fpwN true (fmlN true x x) (rtN true)) = fsbN true 0 x :=
  same_square _ _ (evN_lt true _ (fpwN_lt _ _ _)) h (root_again x h)
theorem is_root (x : Nat) (h : x < pN true) (h0 : x ≠ 0) : fmlN true (fpwN true x (rtN true)) (fpwN true x (rtN true)) = x ↔ x ^ ((pN true - 1) / 2) % pN true = 1 := by
  rw [sq_eq]
  have h1 := pN_one true
  rcases half_power x h h0 with e | e
  · rw [e, Nat.mul_one, Nat.mod_eq_of_lt h]; exact ⟨fun _ => rfl, fun _ => rfl⟩
  · rw [e]
    have h4 := p_mod4
    constructor
    · intro hx
      exfalso
      have e2 : x * (pN true - 1) % pN true = pN true - x := by
        have hs : x * (pN true - 1) + x = x * pN true := by rw [← Nat.mul_succ]; congr 1; omega
        have h5 : x * (pN true - 1) = pN true * (x - 1) + (pN true - x) := by
          obtain ⟨c, rfl⟩ : ∃ c, x = c + 1 := ⟨x - 1, by omega⟩
          rw [Nat.add_sub_cancel, Nat.mul_comm (pN true) c]
          rw [Nat.add_mul c 1 (pN true), Nat.one_mul] at hs
          omega
        rw [h5, Nat.mul_add_mod, Nat.mod_eq_of_lt (by omega)]
      rw [e2] at hx
      omega
    · intro hx; omega
/-- Of a number and its negative just one is a square. -/
theorem root_cases (x : Nat) (h : x < pN true) :
    (x = 0 ∧ fmlN true (fpwN true x (rtN true)) (fpwN true x (rtN true)) = x ∧ fmlN true (fpwN true (fsbN true 0 x) (rtN true)) (fpwN true (fsbN true 0 x) (rtN true)) = fsbN true 0 x) ∨
    (x ≠ 0 ∧ fmlN true (fpwN true x (rtN true)) (fpwN true x (rtN true)) = x ∧ fmlN true (fpwN true (fsbN true 0 x) (rtN true)) (fpwN true (fsbN true 0 x) (rtN true)) ≠ fsbN true 0 x) ∨
    (x ≠ 0 ∧ fmlN true (fpwN true x (rtN true)) (fpwN true x (rtN true)) ≠ x ∧ fmlN true (fpwN true (fsbN true 0 x) (rtN true)) (fpwN true (fsbN true 0 x) (rtN true)) = fsbN true 0 x) := by
  by_cases h0 : x = 0
  · left
    subst h0
    rw [fsb_zero true 0 h, if_pos rfl]
    exact ⟨rfl, zero_sq0, zero_sq0⟩
  · right
    have hn : fsbN true 0 x = pN true - x := by rw [fsb_zero true x h, if_neg h0]
    have hl := fsbN_lt true 0 x
    have hn0 : fsbN true 0 x ≠ 0 := by rw [hn]; omega
    have r1 := is_root x h h0
    have r2 := is_root _ hl hn0
    -- the negative's half power is less the number's
    have key : (fsbN true 0 x) ^ ((pN true - 1) / 2) % pN true = fsbN true 0 (x ^ ((pN true - 1) / 2) % pN true) := by
      have h4 := p_mod4
      obtain ⟨c, hc⟩ : ∃ c, (pN true - 1) / 2 = 2 * c + 1 := ⟨((pN true - 1) / 2 - 1) / 2, by omega⟩
      have e1 : ∀ y, y ^ ((pN true - 1) / 2) % pN true = fmlN true ((fmlN true y y) ^ c) y := fun y => by
        rw [hc, Nat.pow_succ, Nat.pow_mul, fmlN_def, fmlN_def, ← Nat.mod_mul_mod, Nat.pow_two, Nat.pow_mod, Nat.mod_mul_mod]
      rw [e1, e1, neg_square x h, mul_neg true _ x h]
    rw [key] at r2
    have h1 := pN_one true
    have h3 := pN_big true (show 2 < 1000 by omega)
    rcases half_power x h h0 with e | e
    · left
      rw [e, fsb_zero true 1 h1, if_neg (by omega)] at r2
      exact ⟨h0, r1.2 e, fun hx => by have := r2.1 hx; omega⟩
    · right
      rw [e, fsb_zero true (pN true - 1) (by omega), if_neg (by omega)] at r2
      exact ⟨h0, fun hx => by have := r1.1 hx; omega, r2.2 (by omega)⟩
end Go.Proofs.Ytbmokmkaebfneaa
