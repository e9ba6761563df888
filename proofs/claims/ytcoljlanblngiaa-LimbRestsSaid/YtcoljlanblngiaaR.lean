/- A remainder bit by bit, in plain Lean. No program here. -/
import Derived.Test.YtcoljlanblngiaaL
import Derived.Test.YtcoljlanblngiaaS
namespace Go.Proofs.Ytcoljlanblngiaa
set_option linter.unusedVariables false
set_option linter.unusedSimpArgs false

/-- The remainder of what stands above bit i. -/
theorem remN_is : ∃ f : Nat → Nat → Nat → Nat, ∀ x m i, f x m i = x / 2 ^ i % m := ⟨fun x m i => x / 2 ^ i % m, fun _ _ _ => rfl⟩
noncomputable def remN : Nat → Nat → Nat → Nat := Classical.choose remN_is
theorem remN_def (x m i : Nat) : remN x m i = x / 2 ^ i % m := Classical.choose_spec remN_is x m i
theorem rem_lt (x m i : Nat) (hm : 0 < m) : remN x m i < m := by rw [remN_def]; exact Nat.mod_lt _ hm
theorem rem_end (x m : Nat) : remN x m 0 = x % m := by rw [remN_def, Nat.pow_zero, Nat.div_one]
theorem rem_start (x m k : Nat) (h : x < 65536 ^ k) : remN x m (16 * k) = 0 := by
  have e : 65536 ^ k = 2 ^ (16 * k) := by rw [Nat.pow_mul]
  rw [e] at h
  rw [remN_def, Nat.div_eq_of_lt h, Nat.zero_mod]
/-- Bit k of digit i. -/
theorem dbit_is : ∃ f : Nat → Nat → Nat → Nat, ∀ x i k, f x i k = dgD x i / 2 ^ k % 2 := ⟨fun x i k => dgD x i / 2 ^ k % 2, fun _ _ _ => rfl⟩
noncomputable def dbit : Nat → Nat → Nat → Nat := Classical.choose dbit_is
theorem dbit_def (x i k : Nat) : dbit x i k = dgD x i / 2 ^ k % 2 := Classical.choose_spec dbit_is x i k
theorem dbit_le (x i k : Nat) : dbit x i k = 0 ∨ dbit x i k = 1 := by rw [dbit_def]; omega
theorem dbit_at (x i k : Nat) (hk : k < 16) : dbit x i k = x / 2 ^ (16 * i + k) % 2 := by
  rw [dbit_def]
  unfold dgD
  have hi : 2 ^ (16 * i + k) = 65536 ^ i * 2 ^ k := by
    rw [Nat.pow_add, Nat.pow_mul]
  rw [hi, ← Nat.div_div_eq_div_mul]
  generalize x / 65536 ^ i = y
  have hs : (65536 : Nat) = 2 ^ k * 2 ^ (16 - k) := by
    rw [← Nat.pow_add, show k + (16 - k) = 16 by omega]
  rw [hs, Nat.mod_mul_right_div_self]
  have h2 : 2 ^ (16 - k) = 2 * 2 ^ (15 - k) := by rw [← Nat.pow_succ']; congr 1; omega
  rw [h2, Nat.mod_mul_right_mod]
theorem dbit_int (x i k : Nat) : dg x i / 2 ^ k % 2 = ((dbit x i k : Nat) : Int) ∧ 0 ≤ dg x i / 2 ^ k := by
  have h0 : dg x i / 2 ^ k = ((dgD x i / 2 ^ k : Nat) : Int) := by
    rw [dg_def, Int.natCast_ediv, Int.natCast_pow]; rfl
  rw [h0, dbit_def]
  generalize dgD x i / 2 ^ k = q at *
  refine ⟨by omega, by omega⟩
/-- One bit more. -/
theorem rem_step (x m i k : Nat) (hm : 0 < m) (hk : k < 16) : remN x m (16 * i + k) = if m ≤ 2 * remN x m (16 * i + (k + 1)) + dbit x i k then 2 * remN x m (16 * i + (k + 1)) + dbit x i k - m else 2 * remN x m (16 * i + (k + 1)) + dbit x i k := by
  have hl := rem_lt x m (16 * i + (k + 1)) hm
  have hb := dbit_le x i k
  have e : remN x m (16 * i + k) = (2 * remN x m (16 * i + (k + 1)) + dbit x i k) % m := by
    rw [remN_def, remN_def, dbit_at x i k hk, ← Nat.add_assoc, Nat.pow_succ 2 (16 * i + k), ← Nat.div_div_eq_div_mul]
    generalize x / 2 ^ (16 * i + k) = y
    have e : y = 2 * (y / 2) + y % 2 := by omega
    conv => lhs; rw [e]
    rw [Nat.add_mod, Nat.mul_mod, Nat.add_mod (2 * (y / 2 % m)), Nat.mul_mod 2 (y / 2 % m), Nat.mod_mod]
  rw [e]
  split
  · rename_i h
    rw [Nat.mod_eq_sub_mod h, Nat.mod_eq_of_lt (by omega)]
  · rename_i h
    exact Nat.mod_eq_of_lt (by omega)
/-- A bit added digit by digit needs no more than one digit more. -/
theorem small_pow (r k l : Nat) (hr : r < 65536 ^ k) (h : k ≤ l) : r < 65536 ^ l := Nat.lt_of_lt_of_le hr (Nat.pow_le_pow_right (by omega) h)
end Go.Proofs.Ytcoljlanblngiaa
