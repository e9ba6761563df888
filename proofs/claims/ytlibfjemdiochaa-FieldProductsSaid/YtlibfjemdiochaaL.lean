/- Digits of 16 bits, in plain Lean. No program here. Products digit by digit, in plain Lean. No program here. Sums and differences digit by digit, in plain Lean. No program here. A remainder bit by bit, in plain Lean. No program here. -/
import Derived.Test.YtlibfjemdiochaaN
import Derived.Test.YtlibfjemdiochaaM
namespace Go.Proofs.Ytlibfjemdiochaa
set_option linter.unusedVariables false
set_option linter.unusedSimpArgs false

/-- Digit k of a number. -/
def dgD (n k : Nat) : Nat := n / 65536 ^ k % 65536
/-- The lowest k digits, the lowest first. -/
def dgs (n : Nat) : Nat → List Int
  | 0 => []
  | k + 1 => dgs n k ++ [((dgD n k : Nat) : Int)]
theorem dgs_length (n : Nat) : ∀ k, (dgs n k).length = k
  | 0 => rfl
  | k + 1 => by unfold dgs; rw [List.length_append, dgs_length n k]; rfl
theorem dgs_get (n : Nat) : ∀ k i, i < k → (dgs n k)[i]? = some (dgD n i : Int)
  | 0, i, h => by omega
  | k + 1, i, h => by
    unfold dgs
    rcases Nat.lt_or_ge i k with h1 | h1
    · have hl := dgs_length n k
      rw [List.getElem?_append_left (by omega)]
      exact dgs_get n k i h1
    · obtain rfl : i = k := by omega
      have hl := dgs_length n i
      rw [List.getElem?_append_right (by omega), hl, Nat.sub_self]
      rfl
/-- What is left of word i behind k digits. -/
theorem xw_is : ∃ f : Nat → Nat → Nat → Int, ∀ n i k, f n i k = (lbN n i / 65536 ^ k : Nat) := ⟨fun n i k => (lbN n i / 65536 ^ k : Nat), fun _ _ _ => rfl⟩
noncomputable def xw : Nat → Nat → Nat → Int := Classical.choose xw_is
theorem xw_def (n i k : Nat) : xw n i k = (lbN n i / 65536 ^ k : Nat) := Classical.choose_spec xw_is n i k
theorem dg_is : ∃ f : Nat → Nat → Int, ∀ n k, f n k = (dgD n k : Nat) := ⟨fun n k => (dgD n k : Nat), fun _ _ => rfl⟩
noncomputable def dg : Nat → Nat → Int := Classical.choose dg_is
theorem dg_def (n k : Nat) : dg n k = (dgD n k : Nat) := Classical.choose_spec dg_is n k
theorem xw_lo (n i k : Nat) : 0 ≤ xw n i k := by rw [xw_def]; exact Int.natCast_nonneg _
theorem xw_hi (n i k : Nat) : xw n i k < 18446744073709551616 := by
  rw [xw_def]
  have h1 := lbN_lt n i
  have h2 : lbN n i / 65536 ^ k ≤ lbN n i := Nat.div_le_self _ _
  omega
theorem xw_zero (n i : Nat) : xw n i 0 = lb n i := by rw [xw_def, lb_def, Nat.pow_zero, Nat.div_one]
theorem xw_succ (n i k : Nat) : xw n i k / 65536 = xw n i (k + 1) := by
  rw [xw_def, xw_def, Nat.pow_succ, ← Nat.div_div_eq_div_mul]; rfl
theorem lbN_pow (n : Nat) : ∀ i, lbN n i = n / 65536 ^ (4 * i) % 18446744073709551616 := by
  intro i
  induction i generalizing n with
  | zero => simp [lbN]
  | succ i ih =>
    simp only [lbN]
    rw [ih, Nat.div_div_eq_div_mul]
    have e : 18446744073709551616 * 65536 ^ (4 * i) = 65536 ^ (4 * (i + 1)) := by
      rw [show 4 * (i + 1) = 4 + 4 * i by omega, Nat.pow_add]
    rw [e]
theorem xw_digit (n i k : Nat) (hk : k < 4) : xw n i k % 65536 = dg n (4 * i + k) := by
  rw [xw_def, dg_def, lbN_pow]
  unfold dgD
  rw [Nat.pow_add, ← Nat.div_div_eq_div_mul]
  generalize n / 65536 ^ (4 * i) = y
  obtain rfl | rfl | rfl | rfl : k = 0 ∨ k = 1 ∨ k = 2 ∨ k = 3 := by omega
  all_goals simp only [Nat.reducePow, Nat.pow_zero, Nat.pow_one]; omega
theorem dg_lo (n k : Nat) : 0 ≤ dg n k := by rw [dg_def]; omega
theorem dg_hi (n k : Nat) : dg n k < 65536 := by rw [dg_def]; unfold dgD; omega
theorem dgs_succ (n k : Nat) : dgs n (k + 1) = dgs n k ++ [dg n k] := by rw [dg_def]; rfl
theorem dg_high (n k i : Nat) (hn : n < 65536 ^ k) (hi : k ≤ i) : dg n i = 0 := by
  rw [dg_def]; unfold dgD
  have h : n < 65536 ^ i := Nat.lt_of_lt_of_le hn (Nat.pow_le_pow_right (by omega) hi)
  rw [Nat.div_eq_of_lt h]; rfl
/-- A word while its digits come in from above: k of four are there. -/
theorem yw_is : ∃ f : Nat → Nat → Nat → Int, ∀ n i k, f n i k = (lbN n i / 65536 ^ (4 - k) : Nat) := ⟨fun n i k => (lbN n i / 65536 ^ (4 - k) : Nat), fun _ _ _ => rfl⟩
noncomputable def yw : Nat → Nat → Nat → Int := Classical.choose yw_is
theorem yw_def (n i k : Nat) : yw n i k = (lbN n i / 65536 ^ (4 - k) : Nat) := Classical.choose_spec yw_is n i k
theorem yw_zero (n i : Nat) : yw n i 0 = 0 := by
  rw [yw_def]
  have h := lbN_lt n i
  rw [Nat.div_eq_of_lt (by simpa using h)]; rfl
theorem yw_four (n i : Nat) : yw n i 4 = lb n i := by rw [yw_def, lb_def]; simp
theorem yw_lo (n i k : Nat) : 0 ≤ yw n i k := by rw [yw_def]; exact Int.natCast_nonneg _
theorem yw_step (n i k : Nat) (hk : k < 4) : yw n i k * 65536 + dg n (4 * i + (3 - k)) = yw n i (k + 1) := by
  rw [yw_def, yw_def, dg_def]
  unfold dgD
  have e : lbN n i / 65536 ^ (4 - (k + 1)) % 65536 = n / 65536 ^ (4 * i + (3 - k)) % 65536 := by
    have h := xw_digit n i (3 - k) (by omega)
    rw [xw_def, dg_def] at h
    unfold dgD at h
    rw [show 4 - (k + 1) = 3 - k by omega]
    omega
  rw [← e, show 4 - k = (4 - (k + 1)) + 1 by omega, Nat.pow_succ, ← Nat.div_div_eq_div_mul]
  generalize lbN n i / 65536 ^ (4 - (k + 1)) = y
  omega
theorem yw_small (n i k : Nat) (hk : k < 4) : yw n i k ≤ 281474976710655 := by
  rw [yw_def]
  have h := lbN_lt n i
  obtain rfl | rfl | rfl | rfl : k = 0 ∨ k = 1 ∨ k = 2 ∨ k = 3 := by omega
  all_goals simp only [Nat.reduceSub, Nat.reducePow]; omega
end Go.Proofs.Ytlibfjemdiochaa
namespace Go.Proofs.Ytlibfjemdiochaa
set_option linter.unusedVariables false
set_option linter.unusedSimpArgs false

theorem dgD_zero (n : Nat) : dgD n 0 = n % 65536 := by unfold dgD; rw [Nat.pow_zero, Nat.div_one]
theorem dgD_rec (n i : Nat) : dgD n (i + 1) = dgD (n / 65536) i := by unfold dgD; rw [Nat.pow_succ, Nat.mul_comm, Nat.div_div_eq_div_mul]
theorem dgD_lt (n i : Nat) : dgD n i < 65536 := by unfold dgD; exact Nat.mod_lt _ (by omega)
theorem dgD_eq (n i : Nat) : dgD n i = n / 65536 ^ i % 65536 := rfl
theorem dmod_succ (n i : Nat) : n % 65536 ^ (i + 1) = n % 65536 ^ i + 65536 ^ i * dgD n i := by
  rw [Nat.pow_succ, Nat.mod_mul]; rfl
theorem dgD_add_mul (a k b : Nat) : ∀ i, i < k → dgD (a + 65536 ^ k * b) i = dgD a i := by
  intro i hi
  have h := dgD_rec
  induction k generalizing a i with
  | zero => omega
  | succ k ih =>
    have e : 65536 ^ (k + 1) * b = 65536 * (65536 ^ k * b) := by rw [Nat.pow_succ, Nat.mul_comm (65536 ^ k), Nat.mul_assoc]
    rw [e]
    cases i with
    | zero => rw [dgD_zero, dgD_zero]; omega
    | succ i =>
      rw [dgD_rec, dgD_rec]
      have : (a + 65536 * (65536 ^ k * b)) / 65536 = a / 65536 + 65536 ^ k * b := by omega
      rw [this]
      exact ih _ i (by omega)
/-! ### A row added: V + q * B^i * m, word by word -/
def tcD (V q m i j : Nat) : Nat := (V % 65536 ^ (i + j) + q * 65536 ^ i * (m % 65536 ^ j)) / 65536 ^ (i + j)
def trD (V q m i : Nat) : Nat := V + q * 65536 ^ i * m
theorem trow_tt (V q m i j : Nat) : V % 65536 ^ (i + (j + 1)) + q * 65536 ^ i * (m % 65536 ^ (j + 1)) =
    V % 65536 ^ (i + j) + q * 65536 ^ i * (m % 65536 ^ j) + 65536 ^ (i + j) * (dgD V (i + j) + q * dgD m j) := by
  rw [← Nat.add_assoc i j 1, dmod_succ, dmod_succ m j, Nat.mul_add, Nat.mul_add (65536 ^ (i + j)), Nat.pow_add]
  have e : q * 65536 ^ i * (65536 ^ j * dgD m j) = 65536 ^ i * 65536 ^ j * (q * dgD m j) := by
    simp only [Nat.mul_comm, Nat.mul_assoc, Nat.mul_left_comm]
  rw [e]
  omega
theorem trow_div (V q m i j : Nat) : (V % 65536 ^ (i + (j + 1)) + q * 65536 ^ i * (m % 65536 ^ (j + 1))) / 65536 ^ (i + j) = tcD V q m i j + (dgD V (i + j) + q * dgD m j) := by
  rw [trow_tt, Nat.add_mul_div_left _ _ (Nat.pow_pos (by omega))]
  rfl
theorem tcD_succ (V q m i j : Nat) : tcD V q m i (j + 1) = (q * dgD m j + dgD V (i + j) + tcD V q m i j) / 65536 := by
  have h := trow_div V q m i j
  have e : tcD V q m i (j + 1) = (V % 65536 ^ (i + (j + 1)) + q * 65536 ^ i * (m % 65536 ^ (j + 1))) / 65536 ^ (i + j) / 65536 := by
    rw [Nat.div_div_eq_div_mul, ← Nat.pow_succ]
    rfl
  rw [e, h]
  congr 1
  omega
theorem tcD_zero (V q m i : Nat) : tcD V q m i 0 = 0 := by
  unfold tcD
  rw [Nat.pow_zero, Nat.mod_one, Nat.mul_zero, Nat.add_zero, Nat.add_zero]
  exact Nat.div_eq_of_lt (Nat.mod_lt _ (Nat.pow_pos (by omega)))
theorem tcD_lt (V q m i : Nat) (hq : q < 65536) : ∀ j, tcD V q m i j < 65536 := by
  intro j
  induction j with
  | zero => rw [tcD_zero]; omega
  | succ j ih =>
    rw [tcD_succ]
    have h2 := dgD_lt m j
    have h3 := dgD_lt V (i + j)
    have h4 : q * dgD m j ≤ 65535 * 65535 := Nat.mul_le_mul (by omega) (by omega)
    omega
theorem trow_word (V q m i j : Nat) : dgD (trD V q m i) (i + j) = (q * dgD m j + dgD V (i + j) + tcD V q m i j) % 65536 := by
  have h : dgD (trD V q m i) (i + j) = dgD (V % 65536 ^ (i + (j + 1)) + q * 65536 ^ i * (m % 65536 ^ (j + 1))) (i + j) := by
    have e : trD V q m i = (V % 65536 ^ (i + (j + 1)) + q * 65536 ^ i * (m % 65536 ^ (j + 1))) + 65536 ^ (i + (j + 1)) * (V / 65536 ^ (i + (j + 1)) + q * (m / 65536 ^ (j + 1))) := by
      unfold trD
      have e1 := Nat.mod_add_div V (65536 ^ (i + (j + 1)))
      have e2 := Nat.mod_add_div m (65536 ^ (j + 1))
      have e3 : q * 65536 ^ i * m = q * 65536 ^ i * (m % 65536 ^ (j + 1)) + 65536 ^ (i + (j + 1)) * (q * (m / 65536 ^ (j + 1))) := by
        conv => lhs; rw [← e2]
        rw [Nat.mul_add, Nat.pow_add 65536 i (j + 1)]
        congr 1
        simp only [Nat.mul_comm, Nat.mul_assoc, Nat.mul_left_comm]
      rw [e3, Nat.mul_add]
      omega
    rw [e, dgD_add_mul _ _ _ _ (by omega)]
  rw [h, dgD_eq, trow_div]
  congr 1
  omega
theorem trow_keep (V q m i k : Nat) (hk : k < i) : dgD (trD V q m i) k = dgD V k := by
  unfold trD
  rw [Nat.mul_comm q, Nat.mul_assoc, dgD_add_mul _ _ _ _ hk]

/-- What has been multiplied after i outer rounds. -/
def tpD (a b i : Nat) : Nat := a % 65536 ^ i * b
theorem tpD_succ (a b i : Nat) : tpD a b (i + 1) = trD (tpD a b i) (dgD a i) b i := by
  unfold tpD trD; rw [dmod_succ, Nat.add_mul, Nat.mul_comm (65536 ^ i)]
theorem tpD_lt (a b i k : Nat) (hb : b < 65536 ^ k) : tpD a b i < 65536 ^ (i + k) := by
  unfold tpD
  rw [Nat.pow_add]
  exact Nat.mul_lt_mul_of_lt_of_le (Nat.mod_lt _ (Nat.pow_pos (by omega))) (Nat.le_of_lt hb) (Nat.pow_pos (by omega))
/-- Behind the inner loop the carry is the top digit. -/
theorem t_top (a b i k : Nat) (hb : b < 65536 ^ k) : tcD (tpD a b i) (dgD a i) b i k = dgD (tpD a b (i + 1)) (i + k) := by
  have h1 := tpD_lt a b i k hb
  have h2 := tpD_lt a b (i + 1) k hb
  have e : tcD (tpD a b i) (dgD a i) b i k = tpD a b (i + 1) / 65536 ^ (i + k) := by
    rw [tpD_succ]; unfold tcD trD
    rw [Nat.mod_eq_of_lt h1, Nat.mod_eq_of_lt hb]
  rw [e, dgD_eq, Nat.mod_eq_of_lt]
  apply Nat.div_lt_of_lt_mul
  rw [← Nat.pow_succ, show (i + k).succ = i + 1 + k by omega]
  exact h2
theorem tp_far (a b i j k : Nat) (hb : b < 65536 ^ k) (hj : i + k ≤ j) : dgD (tpD a b i) j = 0 := by
  have h := tpD_lt a b i k hb
  rw [dgD_eq, Nat.div_eq_of_lt (Nat.lt_of_lt_of_le h (Nat.pow_le_pow_right (by omega) hj))]
/-- The digits up to p are those of V', the others those of V. -/
def mixl (V' V : Nat) (p : Nat) : Nat → List Int
  | 0 => []
  | n + 1 => mixl V' V p n ++ [((dgD (if n < p then V' else V) n : Nat) : Int)]
theorem mixl_length (V' V p : Nat) : ∀ n, (mixl V' V p n).length = n
  | 0 => rfl
  | n + 1 => by unfold mixl; rw [List.length_append, mixl_length V' V p n]; rfl
theorem mixl_get (V' V p : Nat) : ∀ n i, i < n → (mixl V' V p n)[i]? = some ((dgD (if i < p then V' else V) i : Nat) : Int)
  | 0, i, h => by omega
  | n + 1, i, h => by
    unfold mixl
    have hl := mixl_length V' V p n
    rcases Nat.lt_or_ge i n with h1 | h1
    · rw [List.getElem?_append_left (by omega)]
      exact mixl_get V' V p n i h1
    · obtain rfl : i = n := by omega
      rw [List.getElem?_append_right (by omega), hl, Nat.sub_self]
      rfl
theorem mixl_zero (V' V : Nat) : ∀ n, mixl V' V 0 n = dgs V n
  | 0 => rfl
  | n + 1 => by unfold mixl dgs; rw [mixl_zero V' V n, if_neg (by omega)]
theorem list_same (l m : List Int) (n : Nat) (hl : l.length = n) (hm : m.length = n) (h : ∀ i, i < n → l[i]? = m[i]?) : l = m := by
  apply List.ext_getElem?
  intro i
  rcases Nat.lt_or_ge i n with h1 | h1
  · exact h i h1
  · rw [List.getElem?_eq_none (by omega), List.getElem?_eq_none (by omega)]
theorem mixl_set (V' V p n : Nat) (x : Int) (hx : x = ((dgD V' p : Nat) : Int)) (hp : p < n) : (mixl V' V p n).set p x = mixl V' V (p + 1) n := by
  refine list_same _ _ n (by rw [List.length_set, mixl_length]) (mixl_length _ _ _ _) fun i hi => ?_
  rw [mixl_get V' V (p + 1) n i hi]
  by_cases h : i = p
  · subst h
    rw [List.getElem?_set_self (by rw [mixl_length]; exact hp), hx, if_pos (by omega)]
  · rw [List.getElem?_set_ne (fun e => h e.symm), mixl_get V' V p n i hi]
    by_cases h2 : i < p
    · rw [if_pos h2, if_pos (by omega)]
    · rw [if_neg h2, if_neg (by omega)]
/-- Where the digits of V and V' below i are the same, nothing is mixed yet. -/
theorem mixl_low (V' V p n : Nat) (h : ∀ i, i < p → dgD V i = dgD V' i) : dgs V n = mixl V' V p n := by
  refine list_same _ _ n (dgs_length _ _) (mixl_length _ _ _ _) fun i hi => ?_
  rw [dgs_get V n i hi, mixl_get V' V p n i hi]
  by_cases h2 : i < p
  · rw [if_pos h2, h i h2]
  · rw [if_neg h2]
theorem mixl_all (V' V p n : Nat) (h : ∀ i, p ≤ i → i < n → dgD V i = dgD V' i) : mixl V' V p n = dgs V' n := by
  refine list_same _ _ n (mixl_length _ _ _ _) (dgs_length _ _) fun i hi => ?_
  rw [dgs_get V' n i hi, mixl_get V' V p n i hi]
  by_cases h2 : i < p
  · rw [if_pos h2]
  · rw [if_neg h2, h i (by omega) hi]
end Go.Proofs.Ytlibfjemdiochaa
namespace Go.Proofs.Ytlibfjemdiochaa
set_option linter.unusedVariables false
set_option linter.unusedSimpArgs false

def caD (a b i : Nat) : Nat := (a % 65536 ^ i + b % 65536 ^ i) / 65536 ^ i
theorem ca_two (a b i : Nat) : a % 65536 ^ (i + 1) + b % 65536 ^ (i + 1) = a % 65536 ^ i + b % 65536 ^ i + 65536 ^ i * (dgD a i + dgD b i) := by
  rw [dmod_succ, dmod_succ b i, Nat.mul_add]; omega
theorem ca_div (a b i : Nat) : (a % 65536 ^ (i + 1) + b % 65536 ^ (i + 1)) / 65536 ^ i = caD a b i + (dgD a i + dgD b i) := by
  rw [ca_two, Nat.add_mul_div_left _ _ (Nat.pow_pos (by omega))]; rfl
theorem caD_succ (a b i : Nat) : caD a b (i + 1) = (dgD a i + dgD b i + caD a b i) / 65536 := by
  have h := ca_div a b i
  have e : caD a b (i + 1) = (a % 65536 ^ (i + 1) + b % 65536 ^ (i + 1)) / 65536 ^ i / 65536 := by
    rw [Nat.div_div_eq_div_mul, ← Nat.pow_succ]; rfl
  rw [e, h]
  congr 1
  omega
theorem caD_zero (a b : Nat) : caD a b 0 = 0 := by unfold caD; simp [Nat.mod_one]
theorem caD_le (a b i : Nat) : caD a b i ≤ 1 := by
  have hp : 0 < 65536 ^ i := Nat.pow_pos (by omega)
  have h1 := Nat.mod_lt a hp
  have h2 := Nat.mod_lt b hp
  have h3 : caD a b i < 2 := by
    unfold caD
    apply Nat.div_lt_of_lt_mul
    omega
  omega
theorem add_digit (a b i : Nat) : dgD (a + b) i = (dgD a i + dgD b i + caD a b i) % 65536 := by
  have e : a + b = (a % 65536 ^ (i + 1) + b % 65536 ^ (i + 1)) + 65536 ^ (i + 1) * (a / 65536 ^ (i + 1) + b / 65536 ^ (i + 1)) := by
    have e1 := Nat.mod_add_div a (65536 ^ (i + 1))
    have e2 := Nat.mod_add_div b (65536 ^ (i + 1))
    rw [Nat.mul_add]; omega
  rw [e, dgD_add_mul _ _ _ _ (by omega), dgD_eq, ca_div]
  congr 1
  omega
theorem caD_end (a b k : Nat) (ha : a < 65536 ^ k) (hb : b < 65536 ^ k) : caD a b k = if a + b < 65536 ^ k then 0 else 1 := by
  unfold caD
  rw [Nat.mod_eq_of_lt ha, Nat.mod_eq_of_lt hb]
  split
  · rename_i h; exact Nat.div_eq_of_lt h
  · rename_i h
    exact Nat.div_eq_of_lt_le (by omega) (by rw [Nat.add_mul]; omega)
theorem caD_past (a b k : Nat) (ha : a < 65536 ^ k) (hb : b < 65536 ^ k) : caD a b (k + 1) = 0 := by
  unfold caD
  have hp : 65536 ^ (k + 1) = 65536 ^ k * 65536 := Nat.pow_succ _ _
  rw [Nat.mod_eq_of_lt (by omega), Nat.mod_eq_of_lt (by omega)]
  exact Nat.div_eq_of_lt (by omega)
/-- How many digits Plus tells. -/
def plen (a b k : Nat) : Nat := if a + b < 65536 ^ k then k else k + 1
theorem plen_ge (a b k : Nat) : k ≤ plen a b k := by unfold plen; split <;> omega
theorem plen_le (a b k : Nat) : plen a b k ≤ k + 1 := by unfold plen; split <;> omega
theorem plen_lt (a b k : Nat) (ha : a < 65536 ^ k) (hb : b < 65536 ^ k) : a + b < 65536 ^ plen a b k := by
  unfold plen
  split
  · assumption
  · have hp : 65536 ^ (k + 1) = 65536 ^ k * 65536 := Nat.pow_succ _ _
    omega
/-! ### Differences -/
def boD (a b i : Nat) : Nat := if a % 65536 ^ i < b % 65536 ^ i then 1 else 0
theorem boD_zero (a b : Nat) : boD a b 0 = 0 := by unfold boD; simp [Nat.mod_one]
theorem boD_le (a b i : Nat) : boD a b i ≤ 1 := by unfold boD; split <;> omega
theorem sub_div (a b i : Nat) (h : b ≤ a) : b / 65536 ^ i + boD a b i ≤ a / 65536 ^ i ∧ (a - b) / 65536 ^ i = a / 65536 ^ i - b / 65536 ^ i - boD a b i := by
  have hp : 0 < 65536 ^ i := Nat.pow_pos (by omega)
  unfold boD
  generalize 65536 ^ i = P at *
  have ea := Nat.mod_add_div a P
  have eb := Nat.mod_add_div b P
  have la := Nat.mod_lt a hp
  have lb := Nat.mod_lt b hp
  generalize a / P = qa at *
  generalize b / P = qb at *
  generalize a % P = ra at *
  generalize b % P = rb at *
  have hle : qb ≤ qa := by
    rcases Nat.lt_or_ge qa qb with h1 | h1
    · have : P * (qa + 1) ≤ P * qb := Nat.mul_le_mul_left P h1
      rw [Nat.mul_add] at this
      omega
    · exact h1
  obtain ⟨d, rfl⟩ := Nat.exists_eq_add_of_le hle
  rw [Nat.mul_add] at ea
  split
  · rename_i hlt
    have hd : 0 < d := by
      rcases Nat.eq_zero_or_pos d with rfl | h1
      · omega
      · exact h1
    obtain ⟨d', rfl⟩ : ∃ d', d = d' + 1 := ⟨d - 1, by omega⟩
    rw [Nat.mul_add] at ea
    refine ⟨by omega, ?_⟩
    have e : a - b = (P + ra - rb) + P * d' := by omega
    rw [e, Nat.add_mul_div_left _ _ hp, Nat.div_eq_of_lt (by omega)]
    omega
  · rename_i hlt
    refine ⟨by omega, ?_⟩
    have e : a - b = (ra - rb) + P * d := by omega
    rw [e, Nat.add_mul_div_left _ _ hp, Nat.div_eq_of_lt (by omega)]
    omega
theorem boD_succ (a b i : Nat) : boD a b (i + 1) = if dgD a i < dgD b i + boD a b i then 1 else 0 := by
  unfold boD
  rw [dmod_succ, dmod_succ b i]
  have hp : 0 < 65536 ^ i := Nat.pow_pos (by omega)
  have la := Nat.mod_lt a hp
  have lb := Nat.mod_lt b hp
  generalize 65536 ^ i = P at *
  generalize a % P = ra at *
  generalize b % P = rb at *
  generalize dgD a i = da at *
  generalize dgD b i = db at *
  obtain h | h | h : da < db ∨ da = db ∨ db < da := by omega
  · have : P * (da + 1) ≤ P * db := Nat.mul_le_mul_left P h
    rw [Nat.mul_add] at this
    rw [if_pos (by omega), if_pos (by omega)]
  · subst h
    by_cases hr : ra < rb
    · rw [if_pos (by omega), if_pos hr, if_pos (by omega)]
    · rw [if_neg (by omega), if_neg hr, if_neg (by omega)]
  · have : P * (db + 1) ≤ P * da := Nat.mul_le_mul_left P h
    rw [Nat.mul_add] at this
    rw [if_neg (by omega)]
    by_cases hr : ra < rb
    · rw [if_pos hr, if_neg (by omega)]
    · rw [if_neg hr, if_neg (by omega)]
theorem sub_digit (a b i : Nat) (h : b ≤ a) : (dgD (a - b) i : Int) = (dgD a i : Int) - dgD b i - boD a b i + (if dgD a i < dgD b i + boD a b i then 65536 else 0) := by
  obtain ⟨h1, h2⟩ := sub_div a b i h
  have hb := boD_le a b i
  rw [dgD_eq (a - b), h2, dgD_eq, dgD_eq]
  generalize a / 65536 ^ i = qa at *
  generalize b / 65536 ^ i = qb at *
  generalize boD a b i = c at *
  split <;> omega
end Go.Proofs.Ytlibfjemdiochaa
namespace Go.Proofs.Ytlibfjemdiochaa
set_option linter.unusedVariables false
set_option linter.unusedSimpArgs false

/-- The remainder of what stands above bit i. -/
theorem remN_is : ∃ f : Nat → Nat → Nat → Nat, ∀ x m i, f x m i = x / 2 ^ i % m := ⟨fun x m i => x / 2 ^ i % m, fun _ _ _ => rfl⟩
noncomputable def remN : Nat → Nat → Nat → Nat := Classical.choose remN_is
theorem remN_def (x m i : Nat) : remN x m i = x / 2 ^ i % m := Classical.choose_spec remN_is x m i
theorem rem_lt (x m i : Nat) (hm : 0 < m) : remN x m i < m := by rw [remN_def]; exact Nat.mod_lt _ hm
theorem rem_end (x m : Nat) : remN x m 0 = x % m := by rw [remN_def, Nat.pow_zero, Nat.div_one]
theorem rem_start (x m k : Nat) (h : x < 65536 ^ k) : remN x m (16 * k) = 0 := by
  have e : 65536 ^ k = 2 ^ (16 * k) := by rw [Nat.pow_mul]
  rw [e] at h
  rw [remN_def, Nat.div_eq_of_lt h, Nat.zero_mod]
/-- Bit k of digit i. -/
theorem dbit_is : ∃ f : Nat → Nat → Nat → Nat, ∀ x i k, f x i k = dgD x i / 2 ^ k % 2 := ⟨fun x i k => dgD x i / 2 ^ k % 2, fun _ _ _ => rfl⟩
noncomputable def dbit : Nat → Nat → Nat → Nat := Classical.choose dbit_is
theorem dbit_def (x i k : Nat) : dbit x i k = dgD x i / 2 ^ k % 2 := Classical.choose_spec dbit_is x i k
theorem dbit_le (x i k : Nat) : dbit x i k = 0 ∨ dbit x i k = 1 := by rw [dbit_def]; omega
theorem dbit_at (x i k : Nat) (hk : k < 16) : dbit x i k = x / 2 ^ (16 * i + k) % 2 := by
  rw [dbit_def]
  unfold dgD
  have hi : 2 ^ (16 * i + k) = 65536 ^ i * 2 ^ k := by
    rw [Nat.pow_add, Nat.pow_mul]
  rw [hi, ← Nat.div_div_eq_div_mul]
  generalize x / 65536 ^ i = y
  have hs : (65536 : Nat) = 2 ^ k * 2 ^ (16 - k) := by
    rw [← Nat.pow_add, show k + (16 - k) = 16 by omega]
  rw [hs, Nat.mod_mul_right_div_self]
  have h2 : 2 ^ (16 - k) = 2 * 2 ^ (15 - k) := by rw [← Nat.pow_succ']; congr 1; omega
  rw [h2, Nat.mod_mul_right_mod]
theorem dbit_int (x i k : Nat) : dg x i / 2 ^ k % 2 = ((dbit x i k : Nat) : Int) ∧ 0 ≤ dg x i / 2 ^ k := by
  have h0 : dg x i / 2 ^ k = ((dgD x i / 2 ^ k : Nat) : Int) := by
    rw [dg_def, Int.natCast_ediv, Int.natCast_pow]; rfl
  rw [h0, dbit_def]
  generalize dgD x i / 2 ^ k = q at *
  refine ⟨by omega, by omega⟩
/-- One bit more. -/
theorem rem_step (x m i k : Nat) (hm : 0 < m) (hk : k < 16) : remN x m (16 * i + k) = if m ≤ 2 * remN x m (16 * i + (k + 1)) + dbit x i k then 2 * remN x m (16 * i + (k + 1)) + dbit x i k - m else 2 * remN x m (16 * i + (k + 1)) + dbit x i k := by
  have hl := rem_lt x m (16 * i + (k + 1)) hm
  have hb := dbit_le x i k
  have e : remN x m (16 * i + k) = (2 * remN x m (16 * i + (k + 1)) + dbit x i k) % m := by
    rw [remN_def, remN_def, dbit_at x i k hk, ← Nat.add_assoc, Nat.pow_succ 2 (16 * i + k), ← Nat.div_div_eq_div_mul]
    generalize x / 2 ^ (16 * i + k) = y
    have e : y = 2 * (y / 2) + y % 2 := by omega
    conv => lhs; rw [e]
    rw [Nat.add_mod, Nat.mul_mod, Nat.add_mod (2 * (y / 2 % m)), Nat.mul_mod 2 (y / 2 % m), Nat.mod_mod]
  rw [e]
  split
  · rename_i h
    rw [Nat.mod_eq_sub_mod h, Nat.mod_eq_of_lt (by omega)]
  · rename_i h
    exact Nat.mod_eq_of_lt (by omega)
/-- A bit added digit by digit needs no more than one digit more. -/
theorem small_pow (r k l : Nat) (hr : r < 65536 ^ k) (h : k ≤ l) : r < 65536 ^ l := Nat.lt_of_lt_of_le hr (Nat.pow_le_pow_right (by omega) h)
end Go.Proofs.Ytlibfjemdiochaa
