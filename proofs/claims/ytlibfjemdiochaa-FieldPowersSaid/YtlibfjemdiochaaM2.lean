/- Montgomery's step and remainders, in plain Lean. No program here. -/
import Derived.Test.YtlibfjemdiochaaM
namespace Go.Proofs.Ytlibfjemdiochaa
set_option linter.unusedVariables false
set_option linter.unusedSimpArgs false

/-! ### A row added: V + q * B^i * m, word by word -/
def ccD (V q m i j : Nat) : Nat := (V % 18446744073709551616 ^ (i + j) + q * 18446744073709551616 ^ i * (m % 18446744073709551616 ^ j)) / 18446744073709551616 ^ (i + j)
def rowD (V q m i : Nat) : Nat := V + q * 18446744073709551616 ^ i * m
theorem row_tt (V q m i j : Nat) : V % 18446744073709551616 ^ (i + (j + 1)) + q * 18446744073709551616 ^ i * (m % 18446744073709551616 ^ (j + 1)) =
    V % 18446744073709551616 ^ (i + j) + q * 18446744073709551616 ^ i * (m % 18446744073709551616 ^ j) + 18446744073709551616 ^ (i + j) * (lbN V (i + j) + q * lbN m j) := by
  rw [← Nat.add_assoc i j 1, mod_succ, mod_succ m j, Nat.mul_add, Nat.mul_add (18446744073709551616 ^ (i + j)), Nat.pow_add]
  have e : q * 18446744073709551616 ^ i * (18446744073709551616 ^ j * lbN m j) = 18446744073709551616 ^ i * 18446744073709551616 ^ j * (q * lbN m j) := by
    simp only [Nat.mul_comm, Nat.mul_assoc, Nat.mul_left_comm]
  rw [e]
  omega
theorem row_div (V q m i j : Nat) : (V % 18446744073709551616 ^ (i + (j + 1)) + q * 18446744073709551616 ^ i * (m % 18446744073709551616 ^ (j + 1))) / 18446744073709551616 ^ (i + j) = ccD V q m i j + (lbN V (i + j) + q * lbN m j) := by
  rw [row_tt, Nat.add_mul_div_left _ _ (Nat.pow_pos (by omega))]
  rfl
theorem ccD_succ (V q m i j : Nat) : ccD V q m i (j + 1) = (q * lbN m j + lbN V (i + j) + ccD V q m i j) / 18446744073709551616 := by
  have h := row_div V q m i j
  have e : ccD V q m i (j + 1) = (V % 18446744073709551616 ^ (i + (j + 1)) + q * 18446744073709551616 ^ i * (m % 18446744073709551616 ^ (j + 1))) / 18446744073709551616 ^ (i + j) / 18446744073709551616 := by
    rw [Nat.div_div_eq_div_mul, ← Nat.pow_succ]
    rfl
  rw [e, h]
  congr 1
  omega
theorem ccD_zero (V q m i : Nat) : ccD V q m i 0 = 0 := by
  unfold ccD
  rw [Nat.pow_zero, Nat.mod_one, Nat.mul_zero, Nat.add_zero, Nat.add_zero]
  exact Nat.div_eq_of_lt (Nat.mod_lt _ (Nat.pow_pos (by omega)))
theorem ccD_lt (V q m i : Nat) (hq : q < 18446744073709551616) : ∀ j, ccD V q m i j < 18446744073709551616 := by
  intro j
  induction j with
  | zero => rw [ccD_zero]; omega
  | succ j ih =>
    rw [ccD_succ]
    have h2 := lbN_lt m j
    have h3 := lbN_lt V (i + j)
    have h4 : q * lbN m j ≤ 18446744073709551615 * 18446744073709551615 := Nat.mul_le_mul (by omega) (by omega)
    omega
theorem row_word (V q m i j : Nat) : lbN (rowD V q m i) (i + j) = (q * lbN m j + lbN V (i + j) + ccD V q m i j) % 18446744073709551616 := by
  have h : lbN (rowD V q m i) (i + j) = lbN (V % 18446744073709551616 ^ (i + (j + 1)) + q * 18446744073709551616 ^ i * (m % 18446744073709551616 ^ (j + 1))) (i + j) := by
    have e : rowD V q m i = (V % 18446744073709551616 ^ (i + (j + 1)) + q * 18446744073709551616 ^ i * (m % 18446744073709551616 ^ (j + 1))) + 18446744073709551616 ^ (i + (j + 1)) * (V / 18446744073709551616 ^ (i + (j + 1)) + q * (m / 18446744073709551616 ^ (j + 1))) := by
      unfold rowD
      have e1 := Nat.mod_add_div V (18446744073709551616 ^ (i + (j + 1)))
      have e2 := Nat.mod_add_div m (18446744073709551616 ^ (j + 1))
      have e3 : q * 18446744073709551616 ^ i * m = q * 18446744073709551616 ^ i * (m % 18446744073709551616 ^ (j + 1)) + 18446744073709551616 ^ (i + (j + 1)) * (q * (m / 18446744073709551616 ^ (j + 1))) := by
        conv => lhs; rw [← e2]
        rw [Nat.mul_add, Nat.pow_add 18446744073709551616 i (j + 1)]
        congr 1
        simp only [Nat.mul_comm, Nat.mul_assoc, Nat.mul_left_comm]
      rw [e3, Nat.mul_add]
      omega
    rw [e, lbN_add_mul _ _ _ _ (by omega)]
  rw [h, lbN_eq, row_div]
  congr 1
  omega
theorem row_keep (V q m i k : Nat) (hk : k < i) : lbN (rowD V q m i) k = lbN V k := by
  unfold rowD
  rw [Nat.mul_comm q, Nat.mul_assoc, lbN_add_mul _ _ _ _ hk]
/-- The carry out of word 8 goes to the top. -/
theorem row_top (V q m i : Nat) (hi : i ≤ 4) (hm : m < 18446744073709551616 ^ 4) : rowD V q m i / 18446744073709551616 ^ 8 = V / 18446744073709551616 ^ 8 + ccD V q m i (8 - i) := by
  have h8 : i + (8 - i) = 8 := by omega
  have hmm : m % 18446744073709551616 ^ (8 - i) = m := Nat.mod_eq_of_lt (Nat.lt_of_lt_of_le hm (Nat.pow_le_pow_right (by omega) (by omega)))
  unfold ccD rowD
  rw [h8, hmm]
  have e1 := Nat.mod_add_div V (18446744073709551616 ^ 8)
  generalize q * 18446744073709551616 ^ i * m = Z
  have e : V + Z = (V % 18446744073709551616 ^ 8 + Z) + 18446744073709551616 ^ 8 * (V / 18446744073709551616 ^ 8) := by omega
  rw [e, Nat.add_mul_div_left _ _ (Nat.pow_pos (by omega))]
  omega

/-! ### Montgomery's step -/
/-- q of round i. -/
def qqD (V inv i : Nat) : Nat := lbN V i * inv % 18446744073709551616
/-- What stands after i rounds. -/
def vvD (w m inv : Nat) : Nat → Nat
  | 0 => w
  | i + 1 => rowD (vvD w m inv i) (qqD (vvD w m inv i) inv i) m i
theorem qqD_lt (V inv i : Nat) : qqD V inv i < 18446744073709551616 := Nat.mod_lt _ (by omega)
theorem vvD_zeros (w m inv : Nat) (hinv : (lbN m 0 * inv + 1) % 18446744073709551616 = 0) : ∀ i, ∀ k, k < i → lbN (vvD w m inv i) k = 0
  | 0, k, h => by omega
  | i + 1, k, h => by
    rcases Nat.lt_or_ge k i with h1 | h1
    · unfold vvD
      rw [row_keep _ _ _ _ _ h1]
      exact vvD_zeros w m inv hinv i k h1
    · obtain rfl : k = i := by omega
      unfold vvD
      have e := row_word (vvD w m inv k) (qqD (vvD w m inv k) inv k) m k 0
      rw [Nat.add_zero, ccD_zero, Nat.add_zero] at e
      rw [e]
      unfold qqD
      generalize lbN (vvD w m inv k) k = x
      have e1 : (x * inv % 18446744073709551616 * lbN m 0 + x) % 18446744073709551616 = (x * (lbN m 0 * inv + 1)) % 18446744073709551616 := by
        rw [Nat.add_mod, Nat.mod_mul_mod, ← Nat.add_mod]
        congr 1
        rw [Nat.mul_add, Nat.mul_one]
        congr 1
        simp only [Nat.mul_comm, Nat.mul_assoc, Nat.mul_left_comm]
      rw [e1, Nat.mul_mod, hinv, Nat.mul_zero, Nat.zero_mod]
theorem zeros_div (n : Nat) : ∀ i, (∀ k, k < i → lbN n k = 0) → n % 18446744073709551616 ^ i = 0 := by
  intro i
  induction i with
  | zero => intro _; rw [Nat.pow_zero, Nat.mod_one]
  | succ i ih =>
    intro h
    rw [mod_succ, ih (fun k hk => h k (by omega)), h i (by omega)]
    simp
theorem vvD_mod (w m inv : Nat) : ∀ i, vvD w m inv i % m = w % m
  | 0 => rfl
  | i + 1 => by
    unfold vvD rowD
    rw [Nat.add_mul_mod_self_right]
    exact vvD_mod w m inv i
theorem vvD_lt (w m inv : Nat) : ∀ i, vvD w m inv i + m ≤ w + 18446744073709551616 ^ i * m
  | 0 => by unfold vvD; rw [Nat.pow_zero, Nat.one_mul]; exact Nat.le_refl _
  | i + 1 => by
    have h := vvD_lt w m inv i
    unfold vvD rowD
    have hq := qqD_lt (vvD w m inv i) inv i
    generalize qqD (vvD w m inv i) inv i = q at *
    have h1 : q * 18446744073709551616 ^ i * m ≤ 18446744073709551615 * (18446744073709551616 ^ i * m) := by
      rw [Nat.mul_assoc]; exact Nat.mul_le_mul_right _ (by omega)
    have h2 : 18446744073709551616 ^ (i + 1) * m = 18446744073709551616 * (18446744073709551616 ^ i * m) := by
      rw [Nat.pow_succ, Nat.mul_comm _ 18446744073709551616, Nat.mul_assoc]
    rw [h2]
    generalize 18446744073709551616 ^ i * m = X at *
    generalize q * 18446744073709551616 ^ i * m = Y at *
    omega
/-- THE STEP: what stands in the upper words, with the top, times R, is w mod m; and it is below 2 m. -/
theorem step_is (w m inv : Nat) (hinv : (lbN m 0 * inv + 1) % 18446744073709551616 = 0) (hm : 0 < m) (hw : w < m * 18446744073709551616 ^ 4) :
    vvD w m inv 4 / 18446744073709551616 ^ 4 * 18446744073709551616 ^ 4 = vvD w m inv 4 ∧ vvD w m inv 4 / 18446744073709551616 ^ 4 < 2 * m := by
  have h0 := zeros_div (vvD w m inv 4) 4 (vvD_zeros w m inv hinv 4)
  have h1 := Nat.div_add_mod (vvD w m inv 4) (18446744073709551616 ^ 4)
  rw [h0, Nat.add_zero, Nat.mul_comm] at h1
  refine ⟨h1, ?_⟩
  have h2 := vvD_lt w m inv 4
  apply Nat.div_lt_of_lt_mul
  rw [Nat.mul_comm m] at hw
  rw [show 18446744073709551616 ^ 4 * (2 * m) = 18446744073709551616 ^ 4 * m + 18446744073709551616 ^ 4 * m by rw [Nat.mul_left_comm]; omega]
  generalize 18446744073709551616 ^ 4 * m = X at *
  omega

/-! ### R can be struck on both sides, mod an odd number -/
theorem cancel_two (m x y : Nat) (hm : m % 2 = 1) (h : (2 * x) % m = (2 * y) % m) : x % m = y % m := by
  have k : ∀ z, (2 * z) % m * ((m + 1) / 2) % m = z % m := by
    intro z
    rw [Nat.mod_mul_mod]
    have e : 2 * z * ((m + 1) / 2) = z + z * m := by
      have e2 : 2 * ((m + 1) / 2) = m + 1 := by omega
      rw [Nat.mul_comm 2 z, Nat.mul_assoc, e2, Nat.mul_add, Nat.mul_one, Nat.add_comm]
    rw [e, Nat.add_mul_mod_self_right]
  rw [← k x, ← k y, h]
theorem cancel_pow (m x y : Nat) (hm : m % 2 = 1) : ∀ n, (2 ^ n * x) % m = (2 ^ n * y) % m → x % m = y % m
  | 0, h => by simpa using h
  | n + 1, h => by
    refine cancel_pow m x y hm n (cancel_two m _ _ hm ?_)
    rw [Nat.pow_succ, Nat.mul_comm (2 ^ n), Nat.mul_assoc, Nat.mul_assoc] at h
    exact h
theorem cancel_RR (m x y : Nat) (hm : m % 2 = 1) (h : (x * RR) % m = (y * RR) % m) : x % m = y % m := by
  have e : RR = 2 ^ 256 := by unfold RR; rfl
  rw [e, Nat.mul_comm x, Nat.mul_comm y] at h
  exact cancel_pow m x y hm 256 h
end Go.Proofs.Ytlibfjemdiochaa
