/- Newton's way to less the inverse mod 2^64; and what Montgomery's step comes to. -/
import Derived.Test.YtbmokmkaebfneaaN
import Derived.Test.YtbmokmkaebfneaaD
namespace Go.Proofs.Ytbmokmkaebfneaa
set_option linter.unusedVariables false
set_option linter.unusedSimpArgs false
open Go.RowKit

/-- One step doubles what is right. -/
theorem newton_step (x v v' D D2 : Int) (h : D ∣ x * v - 1) (h2 : D2 ∣ D * D) (h3 : D2 ∣ 18446744073709551616) (hv : (18446744073709551616 : Int) ∣ v' - v * (2 - x * v)) : D2 ∣ x * v' - 1 := by
  obtain ⟨q, hq⟩ := h
  have e : x * v' - 1 = x * (v' - v * (2 - x * v)) - (x * v - 1) * (x * v - 1) := by
    have e1 : x * (v' - v * (2 - x * v)) = x * v' - x * v * (2 - x * v) := by rw [Int.mul_sub, Int.mul_assoc]
    rw [e1]
    generalize x * v = p
    have e2 : p * (2 - p) = 2 * p - p * p := by rw [Int.mul_sub]; omega
    have e3 : (p - 1) * (p - 1) = p * p - 2 * p + 1 := by rw [Int.sub_mul, Int.mul_sub, Int.mul_sub]; omega
    rw [e2, e3]; omega
  rw [e]
  apply Int.dvd_sub
  · exact Int.dvd_trans h3 (Int.dvd_trans hv (Int.dvd_mul_left _ _))
  · rw [hq, Int.mul_assoc D q, Int.mul_left_comm q, ← Int.mul_assoc D D]
    exact Int.dvd_trans h2 (Int.dvd_mul_right _ _)
def nwZ (x : Int) : Nat → Int
  | 0 => x
  | k + 1 => IntKind.u64.wrap (nwZ x k * IntKind.u64.wrap (2 - IntKind.u64.wrap (x * nwZ x k)))
theorem nw_is : ∃ f : Nat → Nat → Int, ∀ m k, f m k = nwZ (lb m 0) k := ⟨fun m k => nwZ (lb m 0) k, fun _ _ => rfl⟩
noncomputable def nw : Nat → Nat → Int := Classical.choose nw_is
theorem nw_def (m k : Nat) : nw m k = nwZ (lb m 0) k := Classical.choose_spec nw_is m k
theorem nw_zero (m : Nat) : nw m 0 = lb m 0 := nw_def m 0
theorem nw_succ (m k : Nat) : IntKind.u64.wrap (nw m k * IntKind.u64.wrap (2 - IntKind.u64.wrap (lb m 0 * nw m k))) = nw m (k + 1) := by
  rw [nw_def, nw_def]; rfl
theorem nw_bounds (m k : Nat) : 0 ≤ nw m k ∧ nw m k < 18446744073709551616 := by
  cases k with
  | zero => rw [nw_zero]; exact ⟨lb_lo _ _, lb_hi _ _⟩
  | succ k => rw [← nw_succ, IntKind.wrap_u64]; omega
theorem dvd_wrap (x : Int) : (18446744073709551616 : Int) ∣ IntKind.u64.wrap x - x := by
  rw [IntKind.wrap_u64]; omega
theorem nw_next (m k : Nat) : (18446744073709551616 : Int) ∣ nw m (k + 1) - nw m k * (2 - lb m 0 * nw m k) := by
  rw [← nw_succ]
  generalize nw m k = v
  generalize hp : lb m 0 * v = p
  have h1 := dvd_wrap (v * IntKind.u64.wrap (2 - IntKind.u64.wrap p))
  have h2 := dvd_wrap (2 - IntKind.u64.wrap p)
  have h3 := dvd_wrap p
  have h4 : (18446744073709551616 : Int) ∣ IntKind.u64.wrap (2 - IntKind.u64.wrap p) - (2 - p) := by omega
  have h5 : (18446744073709551616 : Int) ∣ v * (IntKind.u64.wrap (2 - IntKind.u64.wrap p) - (2 - p)) := Int.dvd_trans h4 (Int.dvd_mul_left _ _)
  rw [Int.mul_sub] at h5
  generalize v * IntKind.u64.wrap (2 - IntKind.u64.wrap p) = a at *
  generalize v * (2 - p) = b at *
  omega
theorem nw_done (m : Nat) (hm : m % 2 = 1) : (18446744073709551616 : Int) ∣ lb m 0 * nw m 6 - 1 := by
  have ho : lb m 0 % 2 = 1 := by rw [lb_def, lb0]; omega
  have h0 : (8 : Int) ∣ lb m 0 * nw m 0 - 1 := by
    rw [nw_zero]
    generalize lb m 0 = x at *
    have h8 : x % 8 = 1 ∨ x % 8 = 3 ∨ x % 8 = 5 ∨ x % 8 = 7 := by omega
    have hx : x * x % 8 = 1 := by
      rw [Int.mul_emod]
      rcases h8 with h | h | h | h <;> rw [h] <;> decide
    omega
  have h1 := newton_step _ _ _ 8 64 h0 (by decide) (by decide) (nw_next m 0)
  have h2 := newton_step _ _ _ 64 4096 h1 (by decide) (by decide) (nw_next m 1)
  have h3 := newton_step _ _ _ 4096 16777216 h2 (by decide) (by decide) (nw_next m 2)
  have h4 := newton_step _ _ _ 16777216 281474976710656 h3 (by decide) (by decide) (nw_next m 3)
  have h5 := newton_step _ _ _ 281474976710656 18446744073709551616 h4 (by decide) (by decide) (nw_next m 4)
  exact newton_step _ _ _ 18446744073709551616 18446744073709551616 h5 (by decide) (by decide) (nw_next m 5)
/-- What NewMont keeps. -/
theorem ivN_is : ∃ f : Nat → Nat, ∀ m, f m = (IntKind.u64.wrap (-(nw m 6))).toNat := ⟨fun m => (IntKind.u64.wrap (-(nw m 6))).toNat, fun _ => rfl⟩
noncomputable def ivN : Nat → Nat := Classical.choose ivN_is
theorem ivN_def (m : Nat) : ivN m = (IntKind.u64.wrap (-(nw m 6))).toNat := Classical.choose_spec ivN_is m
theorem ivN_lt (m : Nat) : ivN m < 18446744073709551616 := by rw [ivN_def, IntKind.wrap_u64]; omega
theorem ivN_lb (m : Nat) : IntKind.u64.wrap (-(nw m 6)) = lb (ivN m) 0 := by
  have h := ivN_lt m
  rw [lb_def, lb0, Nat.mod_eq_of_lt h, ivN_def, IntKind.wrap_u64]; omega
theorem ivN_ok (m : Nat) (hm : m % 2 = 1) : (lbN m 0 * ivN m + 1) % 18446744073709551616 = 0 := by
  have h := nw_done m hm
  have h1 := dvd_wrap (-(nw m 6))
  have h2 := ivN_lb m
  have h3 := ivN_lt m
  rw [h2, lb_def, lb0, Nat.mod_eq_of_lt h3] at h1
  have h4 : (18446744073709551616 : Int) ∣ lb m 0 * ((ivN m : Int) - -(nw m 6)) := Int.dvd_trans h1 (Int.dvd_mul_left _ _)
  have e : lb m 0 * ((ivN m : Int) - -(nw m 6)) = lb m 0 * (ivN m : Int) + lb m 0 * nw m 6 := by rw [Int.sub_neg, Int.mul_add]
  rw [e] at h4
  have h5 : (18446744073709551616 : Int) ∣ lb m 0 * (ivN m : Int) + 1 := by
    generalize lb m 0 * nw m 6 = a at *
    generalize lb m 0 * (ivN m : Int) = b at *
    omega
  rw [lb_def, ← Int.natCast_mul] at h5
  generalize lbN m 0 * ivN m = c at *
  omega
/-- The step's carries out of the uppermost word are 0 or 1. -/
theorem tp_le (x m iv : Nat) (hm : m < RR) (hx : x < m * 18446744073709551616 ^ 4) (i : Nat) (hi : i ≤ 4) : tp x m iv i ≤ 1 := by
  rw [tp_def]
  have h := vvD_lt x m iv i
  rw [RR_pow] at hm
  have h1 : 18446744073709551616 ^ i * m ≤ 18446744073709551616 ^ 4 * m := Nat.mul_le_mul_right _ (Nat.pow_le_pow_right (by omega) hi)
  have h2 : m * 18446744073709551616 ^ 4 ≤ 18446744073709551616 ^ 4 * 18446744073709551616 ^ 4 := Nat.mul_le_mul_right _ (Nat.le_of_lt hm)
  rw [Nat.mul_comm (18446744073709551616 ^ 4) m] at h1
  have e8 : 18446744073709551616 ^ 8 = 18446744073709551616 ^ 4 * 18446744073709551616 ^ 4 := by rw [← Nat.pow_add]
  rw [e8]
  clear e8
  have h3 : vvD x m iv i < 2 * (18446744073709551616 ^ 4 * 18446744073709551616 ^ 4) := by
    generalize 18446744073709551616 ^ i * m = a at *
    generalize 18446744073709551616 ^ 4 = z at *
    generalize z * z = c at *
    generalize m * z = b at *
    omega
  have h4 : vvD x m iv i / (18446744073709551616 ^ 4 * 18446744073709551616 ^ 4) < 2 := by
    apply Nat.div_lt_of_lt_mul
    rw [Nat.mul_comm]; exact h3
  omega
end Go.Proofs.Ytbmokmkaebfneaa
