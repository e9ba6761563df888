/- Sums and differences digit by digit, in plain Lean. No program here. -/
import Derived.Test.YtcoljlanblngiaaT
namespace Go.Proofs.Ytcoljlanblngiaa
set_option linter.unusedVariables false
set_option linter.unusedSimpArgs false

def caD (a b i : Nat) : Nat := (a % 65536 ^ i + b % 65536 ^ i) / 65536 ^ i
theorem ca_two (a b i : Nat) : a % 65536 ^ (i + 1) + b % 65536 ^ (i + 1) = a % 65536 ^ i + b % 65536 ^ i + 65536 ^ i * (dgD a i + dgD b i) := by
  rw [dmod_succ, dmod_succ b i, Nat.mul_add]; omega
theorem ca_div (a b i : Nat) : (a % 65536 ^ (i + 1) + b % 65536 ^ (i + 1)) / 65536 ^ i = caD a b i + (dgD a i + dgD b i) := by
  rw [ca_two, Nat.add_mul_div_left _ _ (Nat.pow_pos (by omega))]; rfl
theorem caD_succ (a b i : Nat) : caD a b (i + 1) = (dgD a i + dgD b i + caD a b i) / 65536 := by
  have h := ca_div a b i
  have e : caD a b (i + 1) = (a % 65536 ^ (i + 1) + b % 65536 ^ (i + 1)) / 65536 ^ i / 65536 := by
    rw [Nat.div_div_eq_div_mul, ← Nat.pow_succ]; rfl
  rw [e, h]
  congr 1
  omega
theorem caD_zero (a b : Nat) : caD a b 0 = 0 := by unfold caD; simp [Nat.mod_one]
theorem caD_le (a b i : Nat) : caD a b i ≤ 1 := by
  have hp : 0 < 65536 ^ i := Nat.pow_pos (by omega)
  have h1 := Nat.mod_lt a hp
  have h2 := Nat.mod_lt b hp
  have h3 : caD a b i < 2 := by
    unfold caD
    apply Nat.div_lt_of_lt_mul
    omega
  omega
theorem add_digit (a b i : Nat) : dgD (a + b) i = (dgD a i + dgD b i + caD a b i) % 65536 := by
  have e : a + b = (a % 65536 ^ (i + 1) + b % 65536 ^ (i + 1)) + 65536 ^ (i + 1) * (a / 65536 ^ (i + 1) + b / 65536 ^ (i + 1)) := by
    have e1 := Nat.mod_add_div a (65536 ^ (i + 1))
    have e2 := Nat.mod_add_div b (65536 ^ (i + 1))
    rw [Nat.mul_add]; omega
  rw [e, dgD_add_mul _ _ _ _ (by omega), dgD_eq, ca_div]
  congr 1
  omega
theorem caD_end (a b k : Nat) (ha : a < 65536 ^ k) (hb : b < 65536 ^ k) : caD a b k = if a + b < 65536 ^ k then 0 else 1 := by
  unfold caD
  rw [Nat.mod_eq_of_lt ha, Nat.mod_eq_of_lt hb]
  split
  · rename_i h; exact Nat.div_eq_of_lt h
  · rename_i h
    exact Nat.div_eq_of_lt_le (by omega) (by rw [Nat.add_mul]; omega)
theorem caD_past (a b k : Nat) (ha : a < 65536 ^ k) (hb : b < 65536 ^ k) : caD a b (k + 1) = 0 := by
  unfold caD
  have hp : 65536 ^ (k + 1) = 65536 ^ k * 65536 := Nat.pow_succ _ _
  rw [Nat.mod_eq_of_lt (by omega), Nat.mod_eq_of_lt (by omega)]
  exact Nat.div_eq_of_lt (by omega)
/-- How many digits Plus tells. -/
def plen (a b k : Nat) : Nat := if a + b < 65536 ^ k then k else k + 1
theorem plen_ge (a b k : Nat) : k ≤ plen a b k := by unfold plen; split <;> omega
theorem plen_le (a b k : Nat) : plen a b k ≤ k + 1 := by unfold plen; split <;> omega
theorem plen_lt (a b k : Nat) (ha : a < 65536 ^ k) (hb : b < 65536 ^ k) : a + b < 65536 ^ plen a b k := by
  unfold plen
  split
  · assumption
  · have hp : 65536 ^ (k + 1) = 65536 ^ k * 65536 := Nat.pow_succ _ _
    omega
/-! ### Differences -/
def boD (a b i : Nat) : Nat := if a % 65536 ^ i < b % 65536 ^ i then 1 else 0
theorem boD_zero (a b : Nat) : boD a b 0 = 0 := by unfold boD; simp [Nat.mod_one]
theorem boD_le (a b i : Nat) : boD a b i ≤ 1 := by unfold boD; split <;> omega
theorem sub_div (a b i : Nat) (h : b ≤ a) : b / 65536 ^ i + boD a b i ≤ a / 65536 ^ i ∧ (a - b) / 65536 ^ i = a / 65536 ^ i - b / 65536 ^ i - boD a b i := by
  have hp : 0 < 65536 ^ i := Nat.pow_pos (by omega)
  unfold boD
  generalize 65536 ^ i = P at *
  have ea := Nat.mod_add_div a P
  have eb := Nat.mod_add_div b P
  have la := Nat.mod_lt a hp
  have lb := Nat.mod_lt b hp
  generalize a / P = qa at *
  generalize b / P = qb at *
  generalize a % P = ra at *
  generalize b % P = rb at *
  have hle : qb ≤ qa := by
    rcases Nat.lt_or_ge qa qb with h1 | h1
    · have : P * (qa + 1) ≤ P * qb := Nat.mul_le_mul_left P h1
      rw [Nat.mul_add] at this
      omega
    · exact h1
  obtain ⟨d, rfl⟩ := Nat.exists_eq_add_of_le hle
  rw [Nat.mul_add] at ea
  split
  · rename_i hlt
    have hd : 0 < d := by
      rcases Nat.eq_zero_or_pos d with rfl | h1
      · omega
      · exact h1
    obtain ⟨d', rfl⟩ : ∃ d', d = d' + 1 := ⟨d - 1, by omega⟩
    rw [Nat.mul_add] at ea
    refine ⟨by omega, ?_⟩
    have e : a - b = (P + ra - rb) + P * d' := by omega
    rw [e, Nat.add_mul_div_left _ _ hp, Nat.div_eq_of_lt (by omega)]
    omega
  · rename_i hlt
    refine ⟨by omega, ?_⟩
    have e : a - b = (ra - rb) + P * d := by omega
    rw [e, Nat.add_mul_div_left _ _ hp, Nat.div_eq_of_lt (by omega)]
    omega
theorem boD_succ (a b i : Nat) : boD a b (i + 1) = if dgD a i < dgD b i + boD a b i then 1 else 0 := by
  unfold boD
  rw [dmod_succ, dmod_succ b i]
  have hp : 0 < 65536 ^ i := Nat.pow_pos (by omega)
  have la := Nat.mod_lt a hp
  have lb := Nat.mod_lt b hp
  generalize 65536 ^ i = P at *
  generalize a % P = ra at *
  generalize b % P = rb at *
  generalize dgD a i = da at *
  generalize dgD b i = db at *
  obtain h | h | h : da < db ∨ da = db ∨ db < da := by omega
  · have : P * (da + 1) ≤ P * db := Nat.mul_le_mul_left P h
    rw [Nat.mul_add] at this
    rw [if_pos (by omega), if_pos (by omega)]
  · subst h
    by_cases hr : ra < rb
    · rw [if_pos (by omega), if_pos hr, if_pos (by omega)]
    · rw [if_neg (by omega), if_neg hr, if_neg (by omega)]
  · have : P * (db + 1) ≤ P * da := Nat.mul_le_mul_left P h
    rw [Nat.mul_add] at this
    rw [if_neg (by omega)]
    by_cases hr : ra < rb
    · rw [if_pos hr, if_neg (by omega)]
    · rw [if_neg hr, if_neg (by omega)]
theorem sub_digit (a b i : Nat) (h : b ≤ a) : (dgD (a - b) i : Int) = (dgD a i : Int) - dgD b i - boD a b i + (if dgD a i < dgD b i + boD a b i then 65536 else 0) := by
  obtain ⟨h1, h2⟩ := sub_div a b i h
  have hb := boD_le a b i
  rw [dgD_eq (a - b), h2, dgD_eq, dgD_eq]
  generalize a / 65536 ^ i = qa at *
  generalize b / 65536 ^ i = qb at *
  generalize boD a b i = c at *
  split <;> omega
end Go.Proofs.Ytcoljlanblngiaa
