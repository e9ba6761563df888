/- Montgomery's way as a function, in plain Lean. No program here. -/
import Derived.Test.YtlibfjemdiochaaM2
namespace Go.Proofs.Ytlibfjemdiochaa
set_option linter.unusedVariables false
set_option linter.unusedSimpArgs false

theorem half_pow (m : Nat) (hm : m % 2 = 1) : ∀ n, (2 ^ n * ((m + 1) / 2) ^ n) % m = 1 % m
  | 0 => by simp
  | n + 1 => by
    have h := half_pow m hm n
    have e2 : 2 * ((m + 1) / 2) = m + 1 := by omega
    have e : 2 ^ (n + 1) * ((m + 1) / 2) ^ (n + 1) = 2 ^ n * ((m + 1) / 2) ^ n + 2 ^ n * ((m + 1) / 2) ^ n * m := by
      rw [Nat.pow_succ, Nat.pow_succ, Nat.mul_mul_mul_comm, e2, Nat.mul_add, Nat.mul_one, Nat.add_comm]
    rw [e, Nat.add_mul_mod_self_right, h]
/-- x less R once, mod m. -/
theorem redN_is : ∃ f : Nat → Nat → Nat, ∀ m x, f m x = x * ((m + 1) / 2) ^ 256 % m := ⟨fun m x => x * ((m + 1) / 2) ^ 256 % m, fun _ _ => rfl⟩
noncomputable def redN : Nat → Nat → Nat := Classical.choose redN_is
theorem redN_def (m x : Nat) : redN m x = x * ((m + 1) / 2) ^ 256 % m := Classical.choose_spec redN_is m x
theorem redN_lt (m x : Nat) (h : 0 < m) : redN m x < m := by rw [redN_def]; exact Nat.mod_lt _ h
theorem redN_RR (m x : Nat) (hm : m % 2 = 1) : (redN m x * RR) % m = x % m := by
  have e : RR = 2 ^ 256 := by unfold RR; rfl
  rw [redN_def, Nat.mod_mul_mod, e, Nat.mul_assoc, Nat.mul_comm (((m + 1) / 2) ^ 256), Nat.mul_mod, half_pow m hm, ← Nat.mul_mod, Nat.mul_one]
theorem redN_unique (m x r : Nat) (hm : m % 2 = 1) (hr : r < m) (h : (r * RR) % m = x % m) : r = redN m x := by
  have h1 := cancel_RR m r (redN m x) hm (h.trans (redN_RR m x hm).symm)
  rw [Nat.mod_eq_of_lt hr, Nat.mod_eq_of_lt (redN_lt m x (by omega))] at h1
  exact h1
/-- a with R, mod m. -/
theorem toN_is : ∃ f : Nat → Nat → Nat, ∀ m x, f m x = x * RR % m := ⟨fun m x => x * RR % m, fun _ _ => rfl⟩
noncomputable def toN : Nat → Nat → Nat := Classical.choose toN_is
theorem toN_def (m x : Nat) : toN m x = x * RR % m := Classical.choose_spec toN_is m x
theorem toN_lt (m x : Nat) (h : 0 < m) : toN m x < m := by rw [toN_def]; exact Nat.mod_lt _ h
theorem redN_to (m a : Nat) (hm : m % 2 = 1) : redN m (a * (RR * RR % m)) = toN m a := by
  symm
  refine redN_unique m _ _ hm (toN_lt m a (by omega)) ?_
  rw [toN_def, Nat.mod_mul_mod, Nat.mul_mod a (RR * RR % m), Nat.mod_mod, ← Nat.mul_mod, Nat.mul_assoc]
theorem redN_times (m a b : Nat) (hm : m % 2 = 1) : redN m (toN m a * b) = a * b % m := by
  symm
  refine redN_unique m _ _ hm (Nat.mod_lt _ (by omega)) ?_
  rw [toN_def, Nat.mod_mul_mod, Nat.mod_mul_mod, Nat.mul_right_comm]
theorem redN_tos (m a b : Nat) (hm : m % 2 = 1) : redN m (toN m a * toN m b) = toN m (a * b) := by
  symm
  refine redN_unique m _ _ hm (toN_lt _ _ (by omega)) ?_
  rw [toN_def, toN_def, toN_def, Nat.mod_mul_mod, Nat.mul_mod (a * RR % m), Nat.mod_mod, Nat.mod_mod, ← Nat.mul_mod, Nat.mul_mul_mul_comm, Nat.mul_assoc (a * b)]
theorem redN_back (m a : Nat) (hm : m % 2 = 1) (ha : a < m) : redN m (toN m a) = a := by
  symm
  refine redN_unique m _ _ hm ha ?_
  rw [toN_def, Nat.mod_mod]
theorem to_redN (m a : Nat) (hm : m % 2 = 1) (ha : a < m) : toN m (redN m a) = a := by
  rw [toN_def, redN_RR m a hm, Nat.mod_eq_of_lt ha]

end Go.Proofs.Ytlibfjemdiochaa
