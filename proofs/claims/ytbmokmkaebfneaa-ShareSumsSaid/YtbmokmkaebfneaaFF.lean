/- The fields' numbers as numbers mod a prime: sums, products, inverses. In plain Lean, over the numbers' names. -/
import Derived.Test.YtbmokmkaebfneaaED
import Derived.Test.YtbmokmkaebfneaaLF2
namespace Go.Proofs.Ytbmokmkaebfneaa
set_option linter.unusedVariables false
set_option linter.unusedSimpArgs false
set_option linter.unusedSectionVars false

instance (b : Bool) : NeZero (pN b) := ⟨by have := pN_pos b; omega⟩
/-- A number, mod the field's prime. -/
noncomputable def tf (b : Bool) (x : Nat) : Fin (pN b) := ⟨x % pN b, Nat.mod_lt _ (pN_pos b)⟩
section
variable (b : Bool) (x y : Nat)
theorem tf_val : (tf b x).val = x % pN b := rfl
theorem tf_add : tf b (fadN b x y) = tf b x + tf b y := by
  apply Fin.ext; rw [Fin.val_add, tf_val, tf_val, tf_val, fadN_def, Nat.mod_mod, ← Nat.add_mod]
theorem tf_mul : tf b (fmlN b x y) = tf b x * tf b y := by
  apply Fin.ext; rw [Fin.val_mul, tf_val, tf_val, tf_val, fmlN_def, Nat.mod_mod, ← Nat.mul_mod]
theorem tf_inj {x y : Nat} (hx : x < pN b) (hy : y < pN b) (h : tf b x = tf b y) : x = y := by
  have := congrArg Fin.val h
  rwa [tf_val, tf_val, Nat.mod_eq_of_lt hx, Nat.mod_eq_of_lt hy] at this
theorem tf_zero : tf b 0 = 0 := by apply Fin.ext; rw [tf_val, Nat.zero_mod]; rfl
theorem tf_one : tf b 1 = 1 := by
  apply Fin.ext
  rw [tf_val]; rfl
theorem tf_num (k : Nat) : tf b k = (Fin.ofNat (pN b) k) := by
  apply Fin.ext; rw [tf_val]; rfl
theorem tf_sub (hy : y < pN b) : tf b (fsbN b x y) = tf b x - tf b y := by
  apply Fin.ext
  rw [Fin.sub_def, tf_val, fsbN_def, Nat.mod_mod, tf_val, tf_val, Nat.mod_eq_of_lt hy]
  show _ = (pN b - y + x % pN b) % pN b
  rw [Nat.add_mod_mod, show x + pN b - y = pN b - y + x by omega]
theorem tf_inv (h : x < pN b) (h0 : x ≠ 0) : tf b (fpwN b x (ieN b)) * tf b x = 1 := by
  have := fml_inv b x h h0
  rw [fml_comm] at this
  rw [← tf_mul, this, tf_one]
theorem tf_dom (u v : Fin (pN b)) (h : u * v = 0) : u = 0 ∨ v = 0 := by
  have hv := congrArg Fin.val h
  rw [Fin.val_mul, Fin.val_zero] at hv
  rcases (pN_prime b).dvd_mul (Nat.dvd_of_mod_eq_zero hv) with h1 | h1
  · left; apply Fin.ext; rw [Fin.val_zero]; exact Nat.eq_zero_of_dvd_of_lt h1 u.isLt
  · right; apply Fin.ext; rw [Fin.val_zero]; exact Nat.eq_zero_of_dvd_of_lt h1 v.isLt
theorem tf_all (u : Fin (pN b)) : tf b u.val = u := by apply Fin.ext; rw [tf_val, Nat.mod_eq_of_lt u.isLt]
theorem tf_has (u : Fin (pN b)) (h : u ≠ 0) : ∃ v, v * u = 1 := by
  have h0 : u.val ≠ 0 := fun e => h (by apply Fin.ext; rw [e, Fin.val_zero])
  have := tf_inv b u.val u.isLt h0
  rw [tf_all] at this
  exact ⟨_, this⟩
end
/-- 7's negative is no cube. -/
theorem no_cube (x : Nat) : (x * x * x + 7) % pN true ≠ 0 := fun h => by
  have hp := pN_prime true
  have hc : (x * x * x) % pN true = (pN true - 7) % pN true := by
    have h7 := pN_big true (show 7 < 1000 by omega)
    have h2 : (x * x * x + 7) % pN true = (pN true - 7 + 7) % pN true := by rw [h, Nat.sub_add_cancel (by omega), Nat.mod_self]
    have h3 : 7 * 1 % pN true = 7 * 1 % pN true := rfl
    have e : ∀ u v : Nat, (u + 7) % pN true = (v + 7) % pN true → u % pN true = v % pN true := fun u v k => by
      rcases Nat.le_total u v with l | l
      · exact mod_of_dvd l (by have := dvd_of_mod k; rwa [Nat.add_sub_add_right] at this)
      · exact (mod_of_dvd l (by have := dvd_of_mod k.symm; rwa [Nat.add_sub_add_right] at this)).symm
    exact e _ _ h2
  have hx : ¬ pN true ∣ x := fun hd => by
    have h7 := pN_big true (show 7 < 1000 by omega)
    obtain ⟨c, rfl⟩ := hd
    rw [Nat.mul_assoc, Nat.mul_assoc, Nat.mul_mod_right, Nat.mod_eq_of_lt (by omega)] at hc
    omega
  have hf := fermat hp hx
  have e3 : pN true - 1 = 3 * ((pN true - 1) / 3) := by rw [pN_def]; decide +kernel
  rw [e3, Nat.pow_mul, show x ^ 3 = x * x * x by rw [Nat.pow_succ, Nat.pow_succ, Nat.pow_one], Nat.pow_mod, hc, ← Nat.pow_mod] at hf
  have hb : (pN true - 7) ^ ((pN true - 1) / 3) % pN true ≠ 1 := by
    rw [pN_def, show (pC true - 1) / 3 = 38597363079105398474523661669562635951089994888546854679819194669302944890554 from by decide +kernel,
      pow_of_pm (pC true) (pC true - 7) 38597363079105398474523661669562635951089994888546854679819194669302944890554 55594575648329892869085402983802832744385952214688224221778511981742606582254 (by decide +kernel) (by decide +kernel)]
    decide
  exact hb hf
theorem good_base : Good (pN true) where
  dom := tf_dom true
  inv := tf_has true
  two := fun h => by
    have := congrArg Fin.val h
    have h2 := pN_big true (show 2 < 1000 by omega)
    rw [Fin.val_zero] at this
    have e : (2 : Fin (pN true)).val = 2 % pN true := rfl
    rw [e, Nat.mod_eq_of_lt h2] at this
    cases this
  no2 := fun x h => by
    have hv := congrArg Fin.val h
    have e : (7 : Fin (pN true)).val = 7 % pN true := rfl
    rw [Fin.val_zero, Fin.val_add, Fin.val_mul, Fin.val_mul, e, Nat.add_mod_mod, Nat.mod_add_mod, Nat.add_mod, Nat.mod_mul_mod, ← Nat.add_mod] at hv
    exact no_cube x.val hv
end Go.Proofs.Ytbmokmkaebfneaa
