/- Digits of 16 bits, in plain Lean. No program here. -/
import Derived.Test.YtcoljlanblngiaaN
namespace Go.Proofs.Ytcoljlanblngiaa
set_option linter.unusedVariables false
set_option linter.unusedSimpArgs false

/-- Digit k of a number. -/
def dgD (n k : Nat) : Nat := n / 65536 ^ k % 65536
/-- The lowest k digits, the lowest first. -/
def dgs (n : Nat) : Nat → List Int
  | 0 => []
  | k + 1 => dgs n k ++ [((dgD n k : Nat) : Int)]
theorem dgs_length (n : Nat) : ∀ k, (dgs n k).length = k
  | 0 => rfl
  | k + 1 => by unfold dgs; rw [List.length_append, dgs_length n k]; rfl
theorem dgs_get (n : Nat) : ∀ k i, i < k → (dgs n k)[i]? = some (dgD n i : Int)
  | 0, i, h => by omega
  | k + 1, i, h => by
    unfold dgs
    rcases Nat.lt_or_ge i k with h1 | h1
    · have hl := dgs_length n k
      rw [List.getElem?_append_left (by omega)]
      exact dgs_get n k i h1
    · obtain rfl : i = k := by omega
      have hl := dgs_length n i
      rw [List.getElem?_append_right (by omega), hl, Nat.sub_self]
      rfl
/-- What is left of word i behind k digits. -/
theorem xw_is : ∃ f : Nat → Nat → Nat → Int, ∀ n i k, f n i k = (lbN n i / 65536 ^ k : Nat) := ⟨fun n i k => (lbN n i / 65536 ^ k : Nat), fun _ _ _ => rfl⟩
noncomputable def xw : Nat → Nat → Nat → Int := Classical.choose xw_is
theorem xw_def (n i k : Nat) : xw n i k = (lbN n i / 65536 ^ k : Nat) := Classical.choose_spec xw_is n i k
theorem dg_is : ∃ f : Nat → Nat → Int, ∀ n k, f n k = (dgD n k : Nat) := ⟨fun n k => (dgD n k : Nat), fun _ _ => rfl⟩
noncomputable def dg : Nat → Nat → Int := Classical.choose dg_is
theorem dg_def (n k : Nat) : dg n k = (dgD n k : Nat) := Classical.choose_spec dg_is n k
theorem xw_lo (n i k : Nat) : 0 ≤ xw n i k := by rw [xw_def]; exact Int.natCast_nonneg _
theorem xw_hi (n i k : Nat) : xw n i k < 18446744073709551616 := by
  rw [xw_def]
  have h1 := lbN_lt n i
  have h2 : lbN n i / 65536 ^ k ≤ lbN n i := Nat.div_le_self _ _
  omega
theorem xw_zero (n i : Nat) : xw n i 0 = lb n i := by rw [xw_def, lb_def, Nat.pow_zero, Nat.div_one]
theorem xw_succ (n i k : Nat) : xw n i k / 65536 = xw n i (k + 1) := by
  rw [xw_def, xw_def, Nat.pow_succ, ← Nat.div_div_eq_div_mul]; rfl
theorem lbN_pow (n : Nat) : ∀ i, lbN n i = n / 65536 ^ (4 * i) % 18446744073709551616 := by
  intro i
  induction i generalizing n with
  | zero => simp [lbN]
  | succ i ih =>
    simp only [lbN]
    rw [ih, Nat.div_div_eq_div_mul]
    have e : 18446744073709551616 * 65536 ^ (4 * i) = 65536 ^ (4 * (i + 1)) := by
      rw [show 4 * (i + 1) = 4 + 4 * i by omega, Nat.pow_add]
    rw [e]
theorem xw_digit (n i k : Nat) (hk : k < 4) : xw n i k % 65536 = dg n (4 * i + k) := by
  rw [xw_def, dg_def, lbN_pow]
  unfold dgD
  rw [Nat.pow_add, ← Nat.div_div_eq_div_mul]
  generalize n / 65536 ^ (4 * i) = y
  obtain rfl | rfl | rfl | rfl : k = 0 ∨ k = 1 ∨ k = 2 ∨ k = 3 := by omega
  all_goals simp only [Nat.reducePow, Nat.pow_zero, Nat.pow_one]; omega
theorem dg_lo (n k : Nat) : 0 ≤ dg n k := by rw [dg_def]; omega
theorem dg_hi (n k : Nat) : dg n k < 65536 := by rw [dg_def]; unfold dgD; omega
theorem dgs_succ (n k : Nat) : dgs n (k + 1) = dgs n k ++ [dg n k] := by rw [dg_def]; rfl
theorem dg_high (n k i : Nat) (hn : n < 65536 ^ k) (hi : k ≤ i) : dg n i = 0 := by
  rw [dg_def]; unfold dgD
  have h : n < 65536 ^ i := Nat.lt_of_lt_of_le hn (Nat.pow_le_pow_right (by omega) hi)
  rw [Nat.div_eq_of_lt h]; rfl
/-- A word while its digits come in from above: k of four are there. -/
theorem yw_is : ∃ f : Nat → Nat → Nat → Int, ∀ n i k, f n i k = (lbN n i / 65536 ^ (4 - k) : Nat) := ⟨fun n i k => (lbN n i / 65536 ^ (4 - k) : Nat), fun _ _ _ => rfl⟩
noncomputable def yw : Nat → Nat → Nat → Int := Classical.choose yw_is
theorem yw_def (n i k : Nat) : yw n i k = (lbN n i / 65536 ^ (4 - k) : Nat) := Classical.choose_spec yw_is n i k
theorem yw_zero (n i : Nat) : yw n i 0 = 0 := by
  rw [yw_def]
  have h := lbN_lt n i
  rw [Nat.div_eq_of_lt (by simpa using h)]; rfl
theorem yw_four (n i : Nat) : yw n i 4 = lb n i := by rw [yw_def, lb_def]; simp
theorem yw_lo (n i k : Nat) : 0 ≤ yw n i k := by rw [yw_def]; exact Int.natCast_nonneg _
theorem yw_step (n i k : Nat) (hk : k < 4) : yw n i k * 65536 + dg n (4 * i + (3 - k)) = yw n i (k + 1) := by
  rw [yw_def, yw_def, dg_def]
  unfold dgD
  have e : lbN n i / 65536 ^ (4 - (k + 1)) % 65536 = n / 65536 ^ (4 * i + (3 - k)) % 65536 := by
    have h := xw_digit n i (3 - k) (by omega)
    rw [xw_def, dg_def] at h
    unfold dgD at h
    rw [show 4 - (k + 1) = 3 - k by omega]
    omega
  rw [← e, show 4 - k = (4 - (k + 1)) + 1 by omega, Nat.pow_succ, ← Nat.div_div_eq_div_mul]
  generalize lbN n i / 65536 ^ (4 - (k + 1)) = y
  omega
theorem yw_small (n i k : Nat) (hk : k < 4) : yw n i k ≤ 281474976710655 := by
  rw [yw_def]
  have h := lbN_lt n i
  obtain rfl | rfl | rfl | rfl : k = 0 ∨ k = 1 ∨ k = 2 ∨ k = 3 := by omega
  all_goals simp only [Nat.reduceSub, Nat.reducePow]; omega
end Go.Proofs.Ytcoljlanblngiaa
