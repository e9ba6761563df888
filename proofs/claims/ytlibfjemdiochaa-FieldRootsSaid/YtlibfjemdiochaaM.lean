/- Products, in plain Lean: the school way word by word. No program here. -/
import Derived.Test.YtlibfjemdiochaaN
namespace Go.Proofs.Ytlibfjemdiochaa
set_option linter.unusedVariables false
set_option linter.unusedSimpArgs false

/-- What has been multiplied after i outer rounds. -/
def ppD (a b i : Nat) : Nat := a % 18446744073709551616 ^ i * b
/-- The carry ahead of step j of round i. -/
def cyD (a b i j : Nat) : Nat := (ppD a b i % 18446744073709551616 ^ (i + j) + lbN a i * 18446744073709551616 ^ i * (b % 18446744073709551616 ^ j)) / 18446744073709551616 ^ (i + j)
theorem lbN_eq (n : Nat) : ∀ i, lbN n i = n / 18446744073709551616 ^ i % 18446744073709551616 := by
  intro i
  induction i generalizing n with
  | zero => simp [lbN]
  | succ i ih => simp only [lbN]; rw [ih, Nat.pow_succ, Nat.mul_comm (18446744073709551616 ^ i), Nat.div_div_eq_div_mul]
theorem mod_succ (n i : Nat) : n % 18446744073709551616 ^ (i + 1) = n % 18446744073709551616 ^ i + 18446744073709551616 ^ i * lbN n i := by
  rw [Nat.pow_succ, Nat.mod_mul, lbN_eq]
theorem ppD_succ (a b i : Nat) : ppD a b (i + 1) = ppD a b i + lbN a i * 18446744073709551616 ^ i * b := by
  unfold ppD; rw [mod_succ, Nat.add_mul, Nat.mul_comm (18446744073709551616 ^ i)]
/-- What stands below word i + j, with the carry. -/
def ttD (a b i j : Nat) : Nat := ppD a b i % 18446744073709551616 ^ (i + j) + lbN a i * 18446744073709551616 ^ i * (b % 18446744073709551616 ^ j)
theorem ttD_succ (a b i j : Nat) : ttD a b i (j + 1) = ttD a b i j + 18446744073709551616 ^ (i + j) * (lbN (ppD a b i) (i + j) + lbN a i * lbN b j) := by
  unfold ttD
  rw [← Nat.add_assoc i j 1, mod_succ, mod_succ b j, Nat.mul_add, Nat.mul_add (18446744073709551616 ^ (i + j)), Nat.pow_add]
  have e : lbN a i * 18446744073709551616 ^ i * (18446744073709551616 ^ j * lbN b j) = 18446744073709551616 ^ i * 18446744073709551616 ^ j * (lbN a i * lbN b j) := by
    simp only [Nat.mul_comm, Nat.mul_assoc, Nat.mul_left_comm]
  rw [e]
  omega
theorem ttD_div (a b i j : Nat) : (ttD a b i (j + 1)) / 18446744073709551616 ^ (i + j) = cyD a b i j + (lbN (ppD a b i) (i + j) + lbN a i * lbN b j) := by
  rw [ttD_succ, Nat.add_mul_div_left _ _ (Nat.pow_pos (by omega))]
  rfl
theorem cyD_succ (a b i j : Nat) : cyD a b i (j + 1) = (lbN a i * lbN b j + lbN (ppD a b i) (i + j) + cyD a b i j) / 18446744073709551616 := by
  have h := ttD_div a b i j
  have e : cyD a b i (j + 1) = ttD a b i (j + 1) / 18446744073709551616 ^ (i + j) / 18446744073709551616 := by
    rw [Nat.div_div_eq_div_mul]
    show ttD a b i (j + 1) / 18446744073709551616 ^ (i + (j + 1)) = _
    rw [← Nat.add_assoc, Nat.pow_succ]
  rw [e, h]
  congr 1
  omega
theorem cyD_zero (a b i : Nat) : cyD a b i 0 = 0 := by
  unfold cyD
  rw [Nat.pow_zero, Nat.mod_one, Nat.mul_zero, Nat.add_zero, Nat.add_zero]
  exact Nat.div_eq_of_lt (Nat.mod_lt _ (Nat.pow_pos (by omega)))
theorem cyD_lt (a b i : Nat) : ∀ j, cyD a b i j < 18446744073709551616 := by
  intro j
  induction j with
  | zero => rw [cyD_zero]; omega
  | succ j ih =>
    rw [cyD_succ]
    have h1 := lbN_lt a i
    have h2 := lbN_lt b j
    have h3 := lbN_lt (ppD a b i) (i + j)
    have h4 : lbN a i * lbN b j ≤ 18446744073709551615 * 18446744073709551615 := Nat.mul_le_mul (by omega) (by omega)
    omega
/-- Word i + j after round i. -/
theorem word_step (a b i j : Nat) (hb : b < 18446744073709551616 ^ 4) (hj : j < 4) : lbN (ppD a b (i + 1)) (i + j) = (lbN a i * lbN b j + lbN (ppD a b i) (i + j) + cyD a b i j) % 18446744073709551616 := by
  have h : lbN (ppD a b (i + 1)) (i + j) = lbN (ttD a b i (j + 1)) (i + j) := by
    have e : ppD a b (i + 1) = ttD a b i (j + 1) + 18446744073709551616 ^ (i + (j + 1)) * (ppD a b i / 18446744073709551616 ^ (i + (j + 1)) + lbN a i * (b / 18446744073709551616 ^ (j + 1))) := by
      rw [ppD_succ]
      unfold ttD
      have e1 := Nat.mod_add_div (ppD a b i) (18446744073709551616 ^ (i + (j + 1)))
      have e2 := Nat.mod_add_div b (18446744073709551616 ^ (j + 1))
      have e3 : lbN a i * 18446744073709551616 ^ i * b = lbN a i * 18446744073709551616 ^ i * (b % 18446744073709551616 ^ (j + 1)) + 18446744073709551616 ^ (i + (j + 1)) * (lbN a i * (b / 18446744073709551616 ^ (j + 1))) := by
        conv => lhs; rw [← e2]
        rw [Nat.mul_add, Nat.pow_add 18446744073709551616 i (j + 1)]
        congr 1
        simp only [Nat.mul_comm, Nat.mul_assoc, Nat.mul_left_comm]
      rw [e3, Nat.mul_add]
      omega
    rw [e, lbN_add_mul _ _ _ _ (by omega)]
  rw [h, lbN_eq, ttD_div]
  congr 1
  omega
theorem ppD_lt (a b i : Nat) (hb : b < 18446744073709551616 ^ 4) : ppD a b i < 18446744073709551616 ^ (i + 4) := by
  unfold ppD
  rw [Nat.pow_add]
  exact Nat.mul_lt_mul_of_lt_of_le (Nat.mod_lt _ (Nat.pow_pos (by omega))) (Nat.le_of_lt hb) (Nat.pow_pos (by omega))
theorem word_top (a b i : Nat) (hb : b < 18446744073709551616 ^ 4) : lbN (ppD a b (i + 1)) (i + 4) = cyD a b i 4 := by
  have e : ttD a b i 4 = ppD a b (i + 1) := by
    unfold ttD
    rw [ppD_succ, Nat.mod_eq_of_lt hb, Nat.mod_eq_of_lt (ppD_lt a b i hb)]
  have h2 : cyD a b i 4 = ppD a b (i + 1) / 18446744073709551616 ^ (i + 4) := by
    rw [← e]; rfl
  have h3 := cyD_lt a b i 4
  rw [lbN_eq, ← h2]
  exact Nat.mod_eq_of_lt h3
theorem ppD_zero (a b : Nat) : ppD a b 0 = 0 := by unfold ppD; rw [Nat.pow_zero, Nat.mod_one, Nat.zero_mul]
theorem ppD_four (a b : Nat) (ha : a < 18446744073709551616 ^ 4) : ppD a b 4 = a * b := by unfold ppD; rw [Nat.mod_eq_of_lt ha]

theorem pp_is : ∃ f : Nat → Nat → Nat → Nat, ∀ a b i, f a b i = ppD a b i := ⟨ppD, fun _ _ _ => rfl⟩
noncomputable def pp : Nat → Nat → Nat → Nat := Classical.choose pp_is
theorem pp_def (a b i : Nat) : pp a b i = ppD a b i := Classical.choose_spec pp_is a b i
theorem cy_is : ∃ f : Nat → Nat → Nat → Nat → Int, ∀ a b i j, f a b i j = (cyD a b i j : Nat) := ⟨fun a b i j => (cyD a b i j : Nat), fun _ _ _ _ => rfl⟩
noncomputable def cy : Nat → Nat → Nat → Nat → Int := Classical.choose cy_is
theorem cy_def (a b i j : Nat) : cy a b i j = (cyD a b i j : Nat) := Classical.choose_spec cy_is a b i j
/-! The two halves of a product of words; then two sums. -/
theorem mh_is : ∃ f : Int → Int → Int, ∀ x y, f x y = x * y / 18446744073709551616 := ⟨fun x y => x * y / 18446744073709551616, fun _ _ => rfl⟩
noncomputable def mh : Int → Int → Int := Classical.choose mh_is
theorem mh_def (x y : Int) : mh x y = x * y / 18446744073709551616 := Classical.choose_spec mh_is x y
theorem ml_is : ∃ f : Int → Int → Int, ∀ x y, f x y = x * y % 18446744073709551616 := ⟨fun x y => x * y % 18446744073709551616, fun _ _ => rfl⟩
noncomputable def ml : Int → Int → Int := Classical.choose ml_is
theorem ml_def (x y : Int) : ml x y = x * y % 18446744073709551616 := Classical.choose_spec ml_is x y
theorem sl_is : ∃ f : Int → Int → Int, ∀ x y, f x y = (x + y) % 18446744073709551616 := ⟨fun x y => (x + y) % 18446744073709551616, fun _ _ => rfl⟩
noncomputable def sl : Int → Int → Int := Classical.choose sl_is
theorem sl_def (x y : Int) : sl x y = (x + y) % 18446744073709551616 := Classical.choose_spec sl_is x y
theorem sh_is : ∃ f : Int → Int → Int, ∀ x y, f x y = (x + y) / 18446744073709551616 := ⟨fun x y => (x + y) / 18446744073709551616, fun _ _ => rfl⟩
noncomputable def sh : Int → Int → Int := Classical.choose sh_is
theorem sh_def (x y : Int) : sh x y = (x + y) / 18446744073709551616 := Classical.choose_spec sh_is x y
/-- One inner step: x * y + v + c as a low word and a high one, told by the two sums. -/
theorem inner_step (x y v c : Int) (x0 : 0 ≤ x) (x1 : x < 18446744073709551616) (y0 : 0 ≤ y) (y1 : y < 18446744073709551616) (v0 : 0 ≤ v) (v1 : v < 18446744073709551616) (c0 : 0 ≤ c) (c1 : c < 18446744073709551616) :
    0 ≤ mh x y ∧ 0 ≤ ml x y ∧ 0 ≤ sh (ml x y) v ∧ sh (ml x y) v ≤ 1 ∧ 0 ≤ sl (ml x y) v ∧ 0 ≤ sh (sl (ml x y) v) c ∧ sh (sl (ml x y) v) c ≤ 1 ∧ mh x y + sh (ml x y) v + sh (sl (ml x y) v) c < 18446744073709551616 ∧
    mh x y + sh (ml x y) v + sh (sl (ml x y) v) c = (x * y + v + c) / 18446744073709551616 ∧ sl (sl (ml x y) v) c = (x * y + v + c) % 18446744073709551616 := by
  have h1 : x * y ≤ 18446744073709551615 * 18446744073709551615 := by
    have a1 : x * y ≤ 18446744073709551615 * y := Int.mul_le_mul_of_nonneg_right (by omega) y0
    have a2 : 18446744073709551615 * y ≤ 18446744073709551615 * 18446744073709551615 := Int.mul_le_mul_of_nonneg_left (by omega) (by omega)
    omega
  have h0 : 0 ≤ x * y := Int.mul_nonneg x0 y0
  rw [mh_def, ml_def, sl_def, sh_def, sl_def, sh_def]
  generalize x * y = m at *
  refine ⟨?_, ?_, ?_, ?_, ?_, ?_, ?_, ?_, ?_, ?_⟩ <;> omega
end Go.Proofs.Ytlibfjemdiochaa
