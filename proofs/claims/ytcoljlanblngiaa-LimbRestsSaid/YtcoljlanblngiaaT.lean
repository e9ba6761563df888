/- Products digit by digit, in plain Lean. No program here. -/
import Derived.Test.YtcoljlanblngiaaL
import Derived.Test.YtcoljlanblngiaaM
namespace Go.Proofs.Ytcoljlanblngiaa
set_option linter.unusedVariables false
set_option linter.unusedSimpArgs false

theorem dgD_zero (n : Nat) : dgD n 0 = n % 65536 := by unfold dgD; rw [Nat.pow_zero, Nat.div_one]
theorem dgD_rec (n i : Nat) : dgD n (i + 1) = dgD (n / 65536) i := by unfold dgD; rw [Nat.pow_succ, Nat.mul_comm, Nat.div_div_eq_div_mul]
theorem dgD_lt (n i : Nat) : dgD n i < 65536 := by unfold dgD; exact Nat.mod_lt _ (by omega)
theorem dgD_eq (n i : Nat) : dgD n i = n / 65536 ^ i % 65536 := rfl
theorem dmod_succ (n i : Nat) : n % 65536 ^ (i + 1) = n % 65536 ^ i + 65536 ^ i * dgD n i := by
  rw [Nat.pow_succ, Nat.mod_mul]; rfl
theorem dgD_add_mul (a k b : Nat) : ∀ i, i < k → dgD (a + 65536 ^ k * b) i = dgD a i := by
  intro i hi
  have h := dgD_rec
  induction k generalizing a i with
  | zero => omega
  | succ k ih =>
    have e : 65536 ^ (k + 1) * b = 65536 * (65536 ^ k * b) := by rw [Nat.pow_succ, Nat.mul_comm (65536 ^ k), Nat.mul_assoc]
    rw [e]
    cases i with
    | zero => rw [dgD_zero, dgD_zero]; omega
    | succ i =>
      rw [dgD_rec, dgD_rec]
      have : (a + 65536 * (65536 ^ k * b)) / 65536 = a / 65536 + 65536 ^ k * b := by omega
      rw [this]
      exact ih _ i (by omega)
/-! ### A row added: V + q * B^i * m, word by word -/
def tcD (V q m i j : Nat) : Nat := (V % 65536 ^ (i + j) + q * 65536 ^ i * (m % 65536 ^ j)) / 65536 ^ (i + j)
def trD (V q m i : Nat) : Nat := V + q * 65536 ^ i * m
theorem trow_tt (V q m i j : Nat) : V % 65536 ^ (i + (j + 1)) + q * 65536 ^ i * (m % 65536 ^ (j + 1)) =
    V % 65536 ^ (i + j) + q * 65536 ^ i * (m % 65536 ^ j) + 65536 ^ (i + j) * (dgD V (i + j) + q * dgD m j) := by
  rw [← Nat.add_assoc i j 1, dmod_succ, dmod_succ m j, Nat.mul_add, Nat.mul_add (65536 ^ (i + j)), Nat.pow_add]
  have e : q * 65536 ^ i * (65536 ^ j * dgD m j) = 65536 ^ i * 65536 ^ j * (q * dgD m j) := by
    simp only [Nat.mul_comm, Nat.mul_assoc, Nat.mul_left_comm]
  rw [e]
  omega
theorem trow_div (V q m i j : Nat) : (V % 65536 ^ (i + (j + 1)) + q * 65536 ^ i * (m % 65536 ^ (j + 1))) / 65536 ^ (i + j) = tcD V q m i j + (dgD V (i + j) + q * dgD m j) := by
  rw [trow_tt, Nat.add_mul_div_left _ _ (Nat.pow_pos (by omega))]
  rfl
theorem tcD_succ (V q m i j : Nat) : tcD V q m i (j + 1) = (q * dgD m j + dgD V (i + j) + tcD V q m i j) / 65536 := by
  have h := trow_div V q m i j
  have e : tcD V q m i (j + 1) = (V % 65536 ^ (i + (j + 1)) + q * 65536 ^ i * (m % 65536 ^ (j + 1))) / 65536 ^ (i + j) / 65536 := by
    rw [Nat.div_div_eq_div_mul, ← Nat.pow_succ]
    rfl
  rw [e, h]
  congr 1
  omega
theorem tcD_zero (V q m i : Nat) : tcD V q m i 0 = 0 := by
  unfold tcD
  rw [Nat.pow_zero, Nat.mod_one, Nat.mul_zero, Nat.add_zero, Nat.add_zero]
  exact Nat.div_eq_of_lt (Nat.mod_lt _ (Nat.pow_pos (by omega)))
theorem tcD_lt (V q m i : Nat) (hq : q < 65536) : ∀ j, tcD V q m i j < 65536 := by
  intro j
  induction j with
  | zero => rw [tcD_zero]; omega
  | succ j ih =>
    rw [tcD_succ]
    have h2 := dgD_lt m j
    have h3 := dgD_lt V (i + j)
    have h4 : q * dgD m j ≤ 65535 * 65535 := Nat.mul_le_mul (by omega) (by omega)
    omega
theorem trow_word (V q m i j : Nat) : dgD (trD V q m i) (i + j) = (q * dgD m j + dgD V (i + j) + tcD V q m i j) % 65536 := by
  have h : dgD (trD V q m i) (i + j) = dgD (V % 65536 ^ (i + (j + 1)) + q * 65536 ^ i * (m % 65536 ^ (j + 1))) (i + j) := by
    have e : trD V q m i = (V % 65536 ^ (i + (j + 1)) + q * 65536 ^ i * (m % 65536 ^ (j + 1))) + 65536 ^ (i + (j + 1)) * (V / 65536 ^ (i + (j + 1)) + q * (m / 65536 ^ (j + 1))) := by
      unfold trD
      have e1 := Nat.mod_add_div V (65536 ^ (i + (j + 1)))
      have e2 := Nat.mod_add_div m (65536 ^ (j + 1))
      have e3 : q * 65536 ^ i * m = q * 65536 ^ i * (m % 65536 ^ (j + 1)) + 65536 ^ (i + (j + 1)) * (q * (m / 65536 ^ (j + 1))) := by
        conv => lhs; rw [← e2]
        rw [Nat.mul_add, Nat.pow_add 65536 i (j + 1)]
        congr 1
        simp only [Nat.mul_comm, Nat.mul_assoc, Nat.mul_left_comm]
      rw [e3, Nat.mul_add]
      omega
    rw [e, dgD_add_mul _ _ _ _ (by omega)]
  rw [h, dgD_eq, trow_div]
  congr 1
  omega
theorem trow_keep (V q m i k : Nat) (hk : k < i) : dgD (trD V q m i) k = dgD V k := by
  unfold trD
  rw [Nat.mul_comm q, Nat.mul_assoc, dgD_add_mul _ _ _ _ hk]

/-- What has been multiplied after i outer rounds. -/
def tpD (a b i : Nat) : Nat := a % 65536 ^ i * b
theorem tpD_succ (a b i : Nat) : tpD a b (i + 1) = trD (tpD a b i) (dgD a i) b i := by
  unfold tpD trD; rw [dmod_succ, Nat.add_mul, Nat.mul_comm (65536 ^ i)]
theorem tpD_lt (a b i k : Nat) (hb : b < 65536 ^ k) : tpD a b i < 65536 ^ (i + k) := by
  unfold tpD
  rw [Nat.pow_add]
  exact Nat.mul_lt_mul_of_lt_of_le (Nat.mod_lt _ (Nat.pow_pos (by omega))) (Nat.le_of_lt hb) (Nat.pow_pos (by omega))
/-- Behind the inner loop the carry is the top digit. -/
theorem t_top (a b i k : Nat) (hb : b < 65536 ^ k) : tcD (tpD a b i) (dgD a i) b i k = dgD (tpD a b (i + 1)) (i + k) := by
  have h1 := tpD_lt a b i k hb
  have h2 := tpD_lt a b (i + 1) k hb
  have e : tcD (tpD a b i) (dgD a i) b i k = tpD a b (i + 1) / 65536 ^ (i + k) := by
    rw [tpD_succ]; unfold tcD trD
    rw [Nat.mod_eq_of_lt h1, Nat.mod_eq_of_lt hb]
  rw [e, dgD_eq, Nat.mod_eq_of_lt]
  apply Nat.div_lt_of_lt_mul
  rw [← Nat.pow_succ, show (i + k).succ = i + 1 + k by omega]
  exact h2
theorem tp_far (a b i j k : Nat) (hb : b < 65536 ^ k) (hj : i + k ≤ j) : dgD (tpD a b i) j = 0 := by
  have h := tpD_lt a b i k hb
  rw [dgD_eq, Nat.div_eq_of_lt (Nat.lt_of_lt_of_le h (Nat.pow_le_pow_right (by omega) hj))]
/-- The digits up to p are those of V', the others those of V. -/
def mixl (V' V : Nat) (p : Nat) : Nat → List Int
  | 0 => []
  | n + 1 => mixl V' V p n ++ [((dgD (if n < p then V' else V) n : Nat) : Int)]
theorem mixl_length (V' V p : Nat) : ∀ n, (mixl V' V p n).length = n
  | 0 => rfl
  | n + 1 => by unfold mixl; rw [List.length_append, mixl_length V' V p n]; rfl
theorem mixl_get (V' V p : Nat) : ∀ n i, i < n → (mixl V' V p n)[i]? = some ((dgD (if i < p then V' else V) i : Nat) : Int)
  | 0, i, h => by omega
  | n + 1, i, h => by
    unfold mixl
    have hl := mixl_length V' V p n
    rcases Nat.lt_or_ge i n with h1 | h1
    · rw [List.getElem?_append_left (by omega)]
      exact mixl_get V' V p n i h1
    · obtain rfl : i = n := by omega
      rw [List.getElem?_append_right (by omega), hl, Nat.sub_self]
      rfl
theorem mixl_zero (V' V : Nat) : ∀ n, mixl V' V 0 n = dgs V n
  | 0 => rfl
  | n + 1 => by unfold mixl dgs; rw [mixl_zero V' V n, if_neg (by omega)]
theorem list_same (l m : List Int) (n : Nat) (hl : l.length = n) (hm : m.length = n) (h : ∀ i, i < n → l[i]? = m[i]?) : l = m := by
  apply List.ext_getElem?
  intro i
  rcases Nat.lt_or_ge i n with h1 | h1
  · exact h i h1
  · rw [List.getElem?_eq_none (by omega), List.getElem?_eq_none (by omega)]
theorem mixl_set (V' V p n : Nat) (x : Int) (hx : x = ((dgD V' p : Nat) : Int)) (hp : p < n) : (mixl V' V p n).set p x = mixl V' V (p + 1) n := by
  refine list_same _ _ n (by rw [List.length_set, mixl_length]) (mixl_length _ _ _ _) fun i hi => ?_
  rw [mixl_get V' V (p + 1) n i hi]
  by_cases h : i = p
  · subst h
    rw [List.getElem?_set_self (by rw [mixl_length]; exact hp), hx, if_pos (by omega)]
  · rw [List.getElem?_set_ne (fun e => h e.symm), mixl_get V' V p n i hi]
    by_cases h2 : i < p
    · rw [if_pos h2, if_pos (by omega)]
    · rw [if_neg h2, if_neg (by omega)]
/-- Where the digits of V and V' below i are the same, nothing is mixed yet. -/
theorem mixl_low (V' V p n : Nat) (h : ∀ i, i < p → dgD V i = dgD V' i) : dgs V n = mixl V' V p n := by
  refine list_same _ _ n (dgs_length _ _) (mixl_length _ _ _ _) fun i hi => ?_
  rw [dgs_get V n i hi, mixl_get V' V p n i hi]
  by_cases h2 : i < p
  · rw [if_pos h2, h i h2]
  · rw [if_neg h2]
theorem mixl_all (V' V p n : Nat) (h : ∀ i, p ≤ i → i < n → dgD V i = dgD V' i) : mixl V' V p n = dgs V' n := by
  refine list_same _ _ n (mixl_length _ _ _ _) (dgs_length _ _) fun i hi => ?_
  rw [dgs_get V' n i hi, mixl_get V' V p n i hi]
  by_cases h2 : i < p
  · rw [if_pos h2]
  · rw [if_neg h2, h i (by omega) hi]
end Go.Proofs.Ytcoljlanblngiaa
