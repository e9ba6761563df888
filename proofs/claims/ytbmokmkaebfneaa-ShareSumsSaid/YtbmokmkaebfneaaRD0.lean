/- The document's answer for layer 2: a wide number's remainder, without the walk. -/
import Derived.Test.YtbmokmkaebfneaaRC
import Derived.Test.YtbmokmkaebfneaaFE
namespace Go.Proofs.Ytbmokmkaebfneaa
set_option linter.unusedVariables false
set_option linter.unusedSimpArgs false
open Go.RowKit

/-- How large the rest is at the head of round i. -/
def tB : Nat → Nat
  | 0 => RR * RR
  | 1 => RR + 680564733841876926926749214863536422912 * RR
  | 2 => RR + 680564733841876926926749214863536422912 * 680564733841876926926749214863536422912
  | 3 => RR + 5 * 680564733841876926926749214863536422912
  | _ => RR
theorem lb_high (T : Nat) (i : Nat) : lb (T / RR) i = lb T (4 + i) := by
  rw [lb_def, lb_def, show 4 + i = i + 1 + 1 + 1 + 1 by omega]
  simp only [lbN]
  rw [Nat.div_div_eq_div_mul, Nat.div_div_eq_div_mul, Nat.div_div_eq_div_mul]
  rfl
/-- What is left behind a round. -/
theorem rdN_is : ∃ f : Bool → Nat → Nat, ∀ b T, f b T = T % RR + mulN (cN b) (T / RR) := ⟨fun b T => T % RR + mulN (cN b) (T / RR), fun _ _ => rfl⟩
noncomputable def rdN : Bool → Nat → Nat := Classical.choose rdN_is
theorem rdN_def (b : Bool) (T : Nat) : rdN b T = T % RR + mulN (cN b) (T / RR) := Classical.choose_spec rdN_is b T
theorem rd_less (b : Bool) (T : Nat) : rdN b T + pN b * (T / RR) = T := by
  have h := Nat.mod_add_div T RR
  rw [rdN_def, mulN_def, Nat.add_assoc, ← Nat.add_mul, cN_pN]
  exact h
theorem rd_mod (b : Bool) (T : Nat) : rdN b T % pN b = T % pN b := by
  have h := rd_less b T
  rw [← h, Nat.add_mul_mod_self_left]
  have := rd_less b T
  rw [h]
theorem rd_bound (b : Bool) (T i : Nat) (hi : i < 4) (hT : T < tB i) (h : T / RR ≠ 0) : rdN b T < tB (i + 1) := by
  have hc := cN_small b
  have hl : T % RR < RR := Nat.mod_lt _ (by unfold RR; omega)
  have hp := pN_lt b
  have hs := rd_less b T
  have hcp := cN_pN b
  have key : ∀ k, T / RR ≤ k → rdN b T ≤ T % RR + 680564733841876926926749214863536422912 * k := fun k hk => by
    rw [rdN_def, mulN_def]; exact Nat.add_le_add_left (Nat.mul_le_mul (Nat.le_of_lt hc) hk) _
  obtain rfl | rfl | rfl | rfl : i = 0 ∨ i = 1 ∨ i = 2 ∨ i = 3 := by omega
  · have h1 : T / RR ≤ RR := Nat.div_le_of_le_mul (Nat.le_of_lt hT)
    have := key RR h1
    show rdN b T < RR + 680564733841876926926749214863536422912 * RR
    omega
  · have h1 : T / RR ≤ 680564733841876926926749214863536422912 := by
      have : T / RR < 680564733841876926926749214863536422912 + 1 := by
        rw [Nat.div_lt_iff_lt_mul (by unfold RR; omega)]; have h3 : T < RR + 680564733841876926926749214863536422912 * RR := hT; rw [Nat.add_mul]; omega
      omega
    have := key _ h1
    show rdN b T < RR + 680564733841876926926749214863536422912 * 680564733841876926926749214863536422912
    omega
  · have h1 : T / RR ≤ 5 := by
      have h3 : T < RR + 680564733841876926926749214863536422912 * 680564733841876926926749214863536422912 := hT
      have : T / RR < 5 + 1 := by rw [Nat.div_lt_iff_lt_mul (by unfold RR; omega)]; unfold RR at h3 ⊢; omega
      omega
    have := key _ h1
    show rdN b T < RR + 5 * 680564733841876926926749214863536422912
    omega
  · have h3 : T < RR + 5 * 680564733841876926926749214863536422912 := hT
    show rdN b T < RR
    have h1 : T / RR = 1 := by
      have : T / RR < 2 := by rw [Nat.div_lt_iff_lt_mul (by unfold RR; omega)]; unfold RR at h3 ⊢; omega
      exact Nat.le_antisymm (Nat.le_of_lt_succ this) (Nat.pos_of_ne_zero h)
    rw [h1, Nat.mul_one] at hs
    clear key
    unfold RR at *
    omega
theorem rd_end (T : Nat) (hT : T < tB 4) : T / RR = 0 := Nat.div_eq_of_lt hT
theorem first_word (a : Nat) (ha : a < RR) (h : a ≠ 0) : ((lb a 0 == 0) = false) ∨ ((lb a 0 == 0) = true ∧ (lb a 1 == 0) = false) ∨ ((lb a 0 == 0) = true ∧ (lb a 1 == 0) = true ∧ (lb a 2 == 0) = false) ∨ ((lb a 0 == 0) = true ∧ (lb a 1 == 0) = true ∧ (lb a 2 == 0) = true ∧ (lb a 3 == 0) = false) := by
  have hz := (zero_words a ha).1 h
  generalize (lb a 0 == 0) = b0 at *
  generalize (lb a 1 == 0) = b1 at *
  generalize (lb a 2 == 0) = b2 at *
  generalize (lb a 3 == 0) = b3 at *
  cases b0 <;> cases b1 <;> cases b2 <;> cases b3 <;> simp_all
section
variable (b : Bool) (T : Nat)
theorem high_lt (hT : T < RR * RR) : T / RR < RR := by rw [Nat.div_lt_iff_lt_mul (by unfold RR; omega)]; exact hT
theorem low_lt : T % RR < RR := Nat.mod_lt _ (by unfold RR; omega)
theorem tB_le (i : Nat) : tB i ≤ RR * RR := by
  unfold tB RR; split <;> omega
theorem times_c (h : T / RR < RR) (w : World) : Calls Try.prog 58 #[num (cN b), num (T / RR)] w fun e w' => e = .returned (.agg #[.int .u64 (lb (mulN (cN b) (T / RR)) 0), .int .u64 (lb (mulN (cN b) (T / RR)) 1), .int .u64 (lb (mulN (cN b) (T / RR)) 2), .int .u64 (lb (mulN (cN b) (T / RR)) 3), .int .u64 (lb (mulN (cN b) (T / RR) / RR) 0), .int .u64 (lb (mulN (cN b) (T / RR) / RR) 1), .int .u64 (lb (mulN (cN b) (T / RR) / RR) 2), .int .u64 (lb (mulN (cN b) (T / RR) / RR) 3)]) ∧ Below w.heap.size w w' := by
  have h1 := r2times_any (cN b) (T / RR) (cN_lt b) h w
  rw [lb_high, lb_high, lb_high, lb_high]
  exact h1
theorem ca_words (x y : Nat) : ca x y 4 = ca (x % RR) (y % RR) 4 := by
  rw [ca_def, ca_def, cac_eq, cac_eq, show (18446744073709551616 : Nat) ^ 4 = RR from by unfold RR; rfl, Nat.mod_mod, Nat.mod_mod]
theorem low_sum (x y : Nat) : addN x y = addN x (y % RR) := by rw [addN_def, addN_def, Nat.add_mod_mod]
theorem rd_lo : addN (T % RR) (mulN (cN b) (T / RR)) = rdN b T % RR := by rw [addN_def, rdN_def]
theorem rplus_rd (t : Bool) (ht : decide (RR ≤ T % RR + mulN (cN b) (T / RR) % RR) = t) (w : World) : Calls Try.prog 55 #[num (T % RR), num (mulN (cN b) (T / RR))] w fun e w' => e = .returned (.tuple #[num (rdN b T % RR), .bool t]) ∧ Below w.heap.size w w' := by
  have h1 := rplus_any (T % RR) (mulN (cN b) (T / RR)) w
  have e : (ca (T % RR) (mulN (cN b) (T / RR)) 4 == 1) = t := by
    have l1 := low_lt T
    have l2 := low_lt (mulN (cN b) (T / RR))
    rw [ca_words, Nat.mod_mod, ca_four _ _ l1 l2, ← ht]
    by_cases h : RR ≤ T % RR + mulN (cN b) (T / RR) % RR
    · rw [show (T % RR + mulN (cN b) (T / RR) % RR) / RR = 1 by (rw [Nat.div_eq_of_lt_le] <;> omega), decide_eq_true h]; rfl
    · rw [Nat.div_eq_of_lt (by omega), decide_eq_false h]; rfl
  rw [e, rd_lo] at h1
  exact h1
theorem hi_in (h : ¬ RR ≤ T % RR + mulN (cN b) (T / RR) % RR) : mulN (cN b) (T / RR) / RR = rdN b T / RR := by
  have := Nat.mod_add_div (mulN (cN b) (T / RR)) RR
  rw [rdN_def]
  generalize mulN (cN b) (T / RR) = x at *
  have l := low_lt x
  have e : T % RR + x = T % RR + x % RR + RR * (x / RR) := by omega
  rw [e, Nat.add_mul_div_left _ _ (by unfold RR; omega), show (T % RR + x % RR) / RR = 0 from Nat.div_eq_of_lt (by omega), Nat.zero_add]
theorem hi_over (h : RR ≤ T % RR + mulN (cN b) (T / RR) % RR) : mulN (cN b) (T / RR) / RR + 1 = rdN b T / RR := by
  have := Nat.mod_add_div (mulN (cN b) (T / RR)) RR
  rw [rdN_def]
  generalize mulN (cN b) (T / RR) = x at *
  have l := low_lt x
  have l' := low_lt T
  have e : T % RR + x = T % RR + x % RR + RR * (x / RR) := by omega
  rw [e, Nat.add_mul_div_left _ _ (by unfold RR; omega), show (T % RR + x % RR) / RR = 1 by (rw [Nat.div_eq_of_lt_le] <;> omega), Nat.add_comm]
theorem rplus_hi (h : RR ≤ T % RR + mulN (cN b) (T / RR) % RR) (hl : rdN b T / RR < RR) (w : World) : Calls Try.prog 55 #[num (mulN (cN b) (T / RR) / RR), oneV] w fun e w' => e = .returned (.tuple #[num (rdN b T / RR), .bool (ca (mulN (cN b) (T / RR) / RR) 1 4 == 1)]) ∧ Below w.heap.size w w' := by
  have h1 := rplus_any (mulN (cN b) (T / RR) / RR) 1 w
  rw [addN_def, hi_over b T h, Nat.mod_eq_of_lt hl, num_one] at h1
  exact h1
theorem rd_in (x : Nat) (hm : T % pN b = x % pN b) (h0 : T / RR = 0) (h : T % RR < pN b) : T % RR = frdN b x := by
  rw [frdN_def, ← hm]
  have h1 := Nat.mod_add_div T RR
  rw [h0, Nat.mul_zero, Nat.add_zero] at h1
  rw [h1] at h ⊢
  rw [Nat.mod_eq_of_lt h]
theorem rd_out (x : Nat) (hm : T % pN b = x % pN b) (h0 : T / RR = 0) (h : ¬ T % RR < pN b) : subN (T % RR) (pN b) = frdN b x ∧ subN (T % RR) (pN b) < pN b := by
  have h1 := Nat.mod_add_div T RR
  rw [h0, Nat.mul_zero, Nat.add_zero] at h1
  have hl := low_lt T
  have := pN_high b
  have hp := pN_lt b
  rw [h1] at h hl ⊢
  have e : subN T (pN b) = T - pN b := by rw [subN_def, show T + RR - pN b = T - pN b + RR by omega, Nat.add_mod_right, Nat.mod_eq_of_lt (by omega)]
  rw [e, frdN_def, ← hm, Nat.mod_eq_sub_mod (by omega), Nat.mod_eq_of_lt (show T - pN b < pN b by omega)]
  exact ⟨rfl, by omega⟩
end

end Go.Proofs.Ytbmokmkaebfneaa
