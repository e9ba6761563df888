/- Numbers of words of 64 bits, in plain Lean: words, carries, borrows. No program here. Products, in plain Lean: the school way word by word. No program here. Digits of 16 bits, in plain Lean. No program here. Products digit by digit, in plain Lean. No program here. Sums and differences digit by digit, in plain Lean. No program here. A remainder bit by bit, in plain Lean. No program here. Montgomery's step and remainders, in plain Lean. No program here. Montgomery's way as a function, in plain Lean. No program here. -/

namespace Go.Proofs.Ytieencpejpeenaa
set_option linter.unusedVariables false
set_option linter.unusedSimpArgs false

/-- Word i of a number, as a natural number. -/
def lbN : Nat → Nat → Nat
  | n, 0 => n % 18446744073709551616
  | n, i + 1 => lbN (n / 18446744073709551616) i
/-- Word i of a number: a name that nothing unfolds. -/
theorem lb_is : ∃ f : Nat → Nat → Int, ∀ n i, f n i = (lbN n i : Nat) := ⟨fun n i => (lbN n i : Nat), fun _ _ => rfl⟩
noncomputable def lb : Nat → Nat → Int := Classical.choose lb_is
theorem lb_def (n i : Nat) : lb n i = (lbN n i : Nat) := Classical.choose_spec lb_is n i
theorem lbN_lt (n i : Nat) : lbN n i < 18446744073709551616 := by
  induction i generalizing n with
  | zero => unfold lbN; omega
  | succ i ih => unfold lbN; exact ih _
theorem lb_lo (n i : Nat) : 0 ≤ lb n i := by rw [lb_def]; omega
theorem lb_hi (n i : Nat) : lb n i < 18446744073709551616 := by rw [lb_def]; have := lbN_lt n i; omega
theorem lbN_zero (i : Nat) : lbN 0 i = 0 := by
  induction i with
  | zero => rfl
  | succ i ih => unfold lbN; exact ih
theorem lb_zero (i : Nat) : lb 0 i = 0 := by rw [lb_def, lbN_zero]; rfl

/-- 2^256, behind a name. -/
def RR : Nat := 115792089237316195423570985008687907853269984665640564039457584007913129639936
theorem lb0 (n : Nat) : lbN n 0 = n % 18446744073709551616 := rfl
theorem lb1 (n : Nat) : lbN n 1 = n / 18446744073709551616 % 18446744073709551616 := rfl
theorem lb2 (n : Nat) : lbN n 2 = n / 18446744073709551616 / 18446744073709551616 % 18446744073709551616 := rfl
theorem lb3 (n : Nat) : lbN n 3 = n / 18446744073709551616 / 18446744073709551616 / 18446744073709551616 % 18446744073709551616 := rfl

/-- Four words make a number. -/
theorem of_words (a b c d : Int) (ha : 0 ≤ a ∧ a < 18446744073709551616) (hb : 0 ≤ b ∧ b < 18446744073709551616) (hc : 0 ≤ c ∧ c < 18446744073709551616) (hd : 0 ≤ d ∧ d < 18446744073709551616) :
    ∃ n, n < RR ∧ a = lb n 0 ∧ b = lb n 1 ∧ c = lb n 2 ∧ d = lb n 3 := by
  refine ⟨a.toNat + 18446744073709551616 * (b.toNat + 18446744073709551616 * (c.toNat + 18446744073709551616 * d.toNat)), ?_, ?_, ?_, ?_, ?_⟩
  · unfold RR; omega
  all_goals simp only [lb_def, lbN]; omega
/-- Numbers below 2^256 of the same words are the same. -/
theorem words_ext {m n : Nat} (hm : m < RR) (hn : n < RR) (h0 : lb m 0 = lb n 0) (h1 : lb m 1 = lb n 1) (h2 : lb m 2 = lb n 2) (h3 : lb m 3 = lb n 3) : m = n := by
  unfold RR at hm hn
  simp only [lb_def, lbN] at h0 h1 h2 h3
  omega
theorem lbN_add_mul (a k b : Nat) : ∀ i, i < k → lbN (a + 18446744073709551616 ^ k * b) i = lbN a i := by
  induction k generalizing a with
  | zero => intro i hi; omega
  | succ k ih =>
    intro i hi
    have e : 18446744073709551616 ^ (k + 1) * b = 18446744073709551616 * (18446744073709551616 ^ k * b) := by rw [Nat.pow_succ, Nat.mul_comm (18446744073709551616 ^ k), Nat.mul_assoc]
    rw [e]
    cases i with
    | zero => simp only [lbN]; omega
    | succ i =>
      simp only [lbN]
      have : (a + 18446744073709551616 * (18446744073709551616 ^ k * b)) / 18446744073709551616 = a / 18446744073709551616 + 18446744073709551616 ^ k * b := by omega
      rw [this]
      exact ih _ i (by omega)
theorem lbN_mod {k : Nat} (a : Nat) {i : Nat} (hi : i < k) : lbN (a % 18446744073709551616 ^ k) i = lbN a i := by
  have h := lbN_add_mul (a % 18446744073709551616 ^ k) k (a / 18446744073709551616 ^ k) i hi
  rw [Nat.mod_add_div] at h
  exact h.symm
theorem lb_mod_RR (a : Nat) {i : Nat} (hi : i < 4) : lb (a % RR) i = lb a i := by
  simp only [lb_def]
  have e : RR = 18446744073709551616 ^ 4 := by unfold RR; rfl
  rw [e, lbN_mod a hi]

/-! ### Sums -/
/-- The carry into word i of a + b + c. -/
def cac : Nat → Nat → Nat → Nat → Nat
  | _, _, c, 0 => c
  | a, b, c, i + 1 => cac (a / 18446744073709551616) (b / 18446744073709551616) ((a % 18446744073709551616 + b % 18446744073709551616 + c) / 18446744073709551616) i
theorem cac_le : ∀ (i a b c : Nat), c ≤ 1 → cac a b c i ≤ 1
  | 0, _, _, _, h => h
  | i + 1, a, b, c, h => by unfold cac; exact cac_le i _ _ _ (by omega)
theorem cac_succ : ∀ (i a b c : Nat), cac a b c (i + 1) = (lbN a i + lbN b i + cac a b c i) / 18446744073709551616
  | 0, a, b, c => by simp only [cac, lbN]
  | i + 1, a, b, c => by
    have h := cac_succ i (a / 18446744073709551616) (b / 18446744073709551616) ((a % 18446744073709551616 + b % 18446744073709551616 + c) / 18446744073709551616)
    simp only [cac, lbN] at h ⊢
    exact h
theorem lbN_add : ∀ (i a b c : Nat), lbN (a + b + c) i = (lbN a i + lbN b i + cac a b c i) % 18446744073709551616
  | 0, a, b, c => by simp only [cac, lbN]; omega
  | i + 1, a, b, c => by
    have h := lbN_add i (a / 18446744073709551616) (b / 18446744073709551616) ((a % 18446744073709551616 + b % 18446744073709551616 + c) / 18446744073709551616)
    simp only [cac, lbN]
    rw [← h]
    congr 1
    omega
theorem cac_eq : ∀ (i a b c : Nat), cac a b c i = (a % 18446744073709551616 ^ i + b % 18446744073709551616 ^ i + c) / 18446744073709551616 ^ i
  | 0, a, b, c => by simp [cac, Nat.mod_one]
  | i + 1, a, b, c => by
    have h := cac_eq i (a / 18446744073709551616) (b / 18446744073709551616) ((a % 18446744073709551616 + b % 18446744073709551616 + c) / 18446744073709551616)
    simp only [cac]
    rw [h, Nat.pow_succ, Nat.mul_comm (18446744073709551616 ^ i), Nat.mod_mul, Nat.mod_mul, ← Nat.div_div_eq_div_mul]
    congr 1
    omega
theorem cac_four (a b : Nat) (ha : a < RR) (hb : b < RR) : cac a b 0 4 = (a + b) / RR := by
  rw [cac_eq]
  have e : 18446744073709551616 ^ 4 = RR := by unfold RR; rfl
  rw [e, Nat.mod_eq_of_lt ha, Nat.mod_eq_of_lt hb, Nat.add_zero]
/-- The carry into word i of a + b. -/
theorem ca_is : ∃ f : Nat → Nat → Nat → Int, ∀ a b i, f a b i = (cac a b 0 i : Nat) := ⟨fun a b i => (cac a b 0 i : Nat), fun _ _ _ => rfl⟩
noncomputable def ca : Nat → Nat → Nat → Int := Classical.choose ca_is
theorem ca_def (a b i : Nat) : ca a b i = (cac a b 0 i : Nat) := Classical.choose_spec ca_is a b i
theorem ca_lo (a b i : Nat) : 0 ≤ ca a b i := by rw [ca_def]; omega
theorem ca_hi (a b i : Nat) : ca a b i ≤ 1 := by rw [ca_def]; have := cac_le i a b 0 (by omega); omega
theorem ca_zero (a b : Nat) : ca a b 0 = 0 := by rw [ca_def]; rfl
theorem ca_step (a b i : Nat) : (lb a i + lb b i + ca a b i) / 18446744073709551616 = ca a b (i + 1) := by
  simp only [lb_def, ca_def]; rw [cac_succ]; omega
theorem lb_add_step (a b i : Nat) : (lb a i + lb b i + ca a b i) % 18446744073709551616 = lb (a + b) i := by
  simp only [lb_def, ca_def]
  have := lbN_add i a b 0
  rw [Nat.add_zero] at this
  rw [this]; omega
/-- The sum mod 2^256. -/
theorem addN_is : ∃ f : Nat → Nat → Nat, ∀ a b, f a b = (a + b) % RR := ⟨fun a b => (a + b) % RR, fun _ _ => rfl⟩
noncomputable def addN : Nat → Nat → Nat := Classical.choose addN_is
theorem addN_def (a b : Nat) : addN a b = (a + b) % RR := Classical.choose_spec addN_is a b
theorem lb_addN (a b : Nat) {i : Nat} (hi : i < 4) : lb (addN a b) i = lb (a + b) i := by rw [addN_def]; exact lb_mod_RR _ hi
theorem addN_lt (a b : Nat) : addN a b < RR := by rw [addN_def]; exact Nat.mod_lt _ (by unfold RR; omega)
theorem ca_four (a b : Nat) (ha : a < RR) (hb : b < RR) : ca a b 4 = ((a + b) / RR : Nat) := by rw [ca_def, cac_four a b ha hb]

/-! ### Differences -/
/-- The borrow out of word i - 1 of a - b - c. -/
def boc : Nat → Nat → Nat → Nat → Nat
  | _, _, c, 0 => c
  | a, b, c, i + 1 => boc (a / 18446744073709551616) (b / 18446744073709551616) (if a % 18446744073709551616 < b % 18446744073709551616 + c then 1 else 0) i
theorem boc_le : ∀ (i a b c : Nat), c ≤ 1 → boc a b c i ≤ 1
  | 0, _, _, _, h => h
  | i + 1, a, b, c, h => by unfold boc; exact boc_le i _ _ _ (by split <;> omega)
theorem boc_succ : ∀ (i a b c : Nat), boc a b c (i + 1) = if lbN a i < lbN b i + boc a b c i then 1 else 0
  | 0, a, b, c => by simp only [boc, lbN]; rfl
  | i + 1, a, b, c => by
    have h := boc_succ i (a / 18446744073709551616) (b / 18446744073709551616) (if a % 18446744073709551616 < b % 18446744073709551616 + c then 1 else 0)
    simp only [boc, lbN] at h ⊢
    exact h
theorem lbN_sub : ∀ (i a b c k : Nat), i < k → c ≤ 1 → b < 18446744073709551616 ^ k → lbN (a + 18446744073709551616 ^ k - b - c) i = (lbN a i + 18446744073709551616 - lbN b i - boc a b c i) % 18446744073709551616
  | _, _, _, _, 0, h, _, _ => by omega
  | 0, a, b, c, k + 1, _, hc, hb => by
    simp only [boc, lbN]
    rw [Nat.pow_succ] at *
    generalize 18446744073709551616 ^ k = X at *
    omega
  | i + 1, a, b, c, k + 1, hk, hc, hb => by
    have hX : 0 < 18446744073709551616 ^ k := Nat.pow_pos (by omega)
    rw [Nat.pow_succ] at *
    have h := lbN_sub i (a / 18446744073709551616) (b / 18446744073709551616) (if a % 18446744073709551616 < b % 18446744073709551616 + c then 1 else 0) k (by omega) (by split <;> omega) (by generalize 18446744073709551616 ^ k = X at *; omega)
    simp only [boc, lbN]
    rw [← h]
    congr 1
    generalize 18446744073709551616 ^ k = X at *
    split <;> omega
theorem boc_four (a b : Nat) (ha : a < RR) (hb : b < RR) : boc a b 0 4 = if a < b then 1 else 0 := by
  unfold RR at *
  simp only [boc]
  repeat' split
  all_goals omega
/-- The borrow out of the words below i of a - b. -/
theorem bo_is : ∃ f : Nat → Nat → Nat → Int, ∀ a b i, f a b i = (boc a b 0 i : Nat) := ⟨fun a b i => (boc a b 0 i : Nat), fun _ _ _ => rfl⟩
noncomputable def bo : Nat → Nat → Nat → Int := Classical.choose bo_is
theorem bo_def (a b i : Nat) : bo a b i = (boc a b 0 i : Nat) := Classical.choose_spec bo_is a b i
theorem bo_lo (a b i : Nat) : 0 ≤ bo a b i := by rw [bo_def]; omega
theorem bo_hi (a b i : Nat) : bo a b i ≤ 1 := by rw [bo_def]; have := boc_le i a b 0 (by omega); omega
theorem bo_zero (a b : Nat) : bo a b 0 = 0 := by rw [bo_def]; rfl
/-- The difference mod 2^256. -/
theorem subN_is : ∃ f : Nat → Nat → Nat, ∀ a b, f a b = (a + RR - b) % RR := ⟨fun a b => (a + RR - b) % RR, fun _ _ => rfl⟩
noncomputable def subN : Nat → Nat → Nat := Classical.choose subN_is
theorem subN_def (a b : Nat) : subN a b = (a + RR - b) % RR := Classical.choose_spec subN_is a b
theorem subN_lt (a b : Nat) : subN a b < RR := by rw [subN_def]; exact Nat.mod_lt _ (by unfold RR; omega)
theorem bo_four (a b : Nat) (ha : a < RR) (hb : b < RR) : bo a b 4 = if a < b then 1 else 0 := by
  rw [bo_def, boc_four a b ha hb]; split <;> rfl
theorem lb_subN (a b : Nat) {i : Nat} (hi : i < 4) (hb : b < RR) : lb (subN a b) i = ((lbN a i + 18446744073709551616 - lbN b i - boc a b 0 i) % 18446744073709551616 : Nat) := by
  rw [subN_def]
  rw [lb_mod_RR _ hi]
  simp only [lb_def]
  have e : RR = 18446744073709551616 ^ 4 := by unfold RR; rfl
  rw [e] at hb ⊢
  have h := lbN_sub i a b 0 4 hi (by omega) hb
  rw [Nat.sub_zero] at h
  rw [h]
/-- -1, 0, 1. -/
theorem cmpN_is : ∃ f : Nat → Nat → Int, ∀ a b, f a b = if a < b then -1 else if b < a then 1 else 0 := ⟨fun a b => if a < b then -1 else if b < a then 1 else 0, fun _ _ => rfl⟩
noncomputable def cmpN : Nat → Nat → Int := Classical.choose cmpN_is
theorem cmpN_def (a b : Nat) : cmpN a b = if a < b then -1 else if b < a then 1 else 0 := Classical.choose_spec cmpN_is a b
theorem cmpN_bo (a b : Nat) (ha : a < RR) (hb : b < RR) : bo b a 4 - bo a b 4 = cmpN a b := by
  rw [bo_four a b ha hb, bo_four b a hb ha, cmpN_def]
  split <;> split <;> omega
end Go.Proofs.Ytieencpejpeenaa
namespace Go.Proofs.Ytieencpejpeenaa
set_option linter.unusedVariables false
set_option linter.unusedSimpArgs false

/-- What has been multiplied after i outer rounds. -/
def ppD (a b i : Nat) : Nat := a % 18446744073709551616 ^ i * b
/-- The carry ahead of step j of round i. -/
def cyD (a b i j : Nat) : Nat := (ppD a b i % 18446744073709551616 ^ (i + j) + lbN a i * 18446744073709551616 ^ i * (b % 18446744073709551616 ^ j)) / 18446744073709551616 ^ (i + j)
theorem lbN_eq (n : Nat) : ∀ i, lbN n i = n / 18446744073709551616 ^ i % 18446744073709551616 := by
  intro i
  induction i generalizing n with
  | zero => simp [lbN]
  | succ i ih => simp only [lbN]; rw [ih, Nat.pow_succ, Nat.mul_comm (18446744073709551616 ^ i), Nat.div_div_eq_div_mul]
theorem mod_succ (n i : Nat) : n % 18446744073709551616 ^ (i + 1) = n % 18446744073709551616 ^ i + 18446744073709551616 ^ i * lbN n i := by
  rw [Nat.pow_succ, Nat.mod_mul, lbN_eq]
theorem ppD_succ (a b i : Nat) : ppD a b (i + 1) = ppD a b i + lbN a i * 18446744073709551616 ^ i * b := by
  unfold ppD; rw [mod_succ, Nat.add_mul, Nat.mul_comm (18446744073709551616 ^ i)]
/-- What stands below word i + j, with the carry. -/
def ttD (a b i j : Nat) : Nat := ppD a b i % 18446744073709551616 ^ (i + j) + lbN a i * 18446744073709551616 ^ i * (b % 18446744073709551616 ^ j)
theorem ttD_succ (a b i j : Nat) : ttD a b i (j + 1) = ttD a b i j + 18446744073709551616 ^ (i + j) * (lbN (ppD a b i) (i + j) + lbN a i * lbN b j) := by
  unfold ttD
  rw [← Nat.add_assoc i j 1, mod_succ, mod_succ b j, Nat.mul_add, Nat.mul_add (18446744073709551616 ^ (i + j)), Nat.pow_add]
  have e : lbN a i * 18446744073709551616 ^ i * (18446744073709551616 ^ j * lbN b j) = 18446744073709551616 ^ i * 18446744073709551616 ^ j * (lbN a i * lbN b j) := by
    simp only [Nat.mul_comm, Nat.mul_assoc, Nat.mul_left_comm]
  rw [e]
  omega
theorem ttD_div (a b i j : Nat) : (ttD a b i (j + 1)) / 18446744073709551616 ^ (i + j) = cyD a b i j + (lbN (ppD a b i) (i + j) + lbN a i * lbN b j) := by
  rw [ttD_succ, Nat.add_mul_div_left _ _ (Nat.pow_pos (by omega))]
  rfl
theorem cyD_succ (a b i j : Nat) : cyD a b i (j + 1) = (lbN a i * lbN b j + lbN (ppD a b i) (i + j) + cyD a b i j) / 18446744073709551616 := by
  have h := ttD_div a b i j
  have e : cyD a b i (j + 1) = ttD a b i (j + 1) / 18446744073709551616 ^ (i + j) / 18446744073709551616 := by
    rw [Nat.div_div_eq_div_mul]
    show ttD a b i (j + 1) / 18446744073709551616 ^ (i + (j + 1)) = _
    rw [← Nat.add_assoc, Nat.pow_succ]
  rw [e, h]
  congr 1
  omega
theorem cyD_zero (a b i : Nat) : cyD a b i 0 = 0 := by
  unfold cyD
  rw [Nat.pow_zero, Nat.mod_one, Nat.mul_zero, Nat.add_zero, Nat.add_zero]
  exact Nat.div_eq_of_lt (Nat.mod_lt _ (Nat.pow_pos (by omega)))
theorem cyD_lt (a b i : Nat) : ∀ j, cyD a b i j < 18446744073709551616 := by
  intro j
  induction j with
  | zero => rw [cyD_zero]; omega
  | succ j ih =>
    rw [cyD_succ]
    have h1 := lbN_lt a i
    have h2 := lbN_lt b j
    have h3 := lbN_lt (ppD a b i) (i + j)
    have h4 : lbN a i * lbN b j ≤ 18446744073709551615 * 18446744073709551615 := Nat.mul_le_mul (by omega) (by omega)
    omega
/-- Word i + j after round i. -/
theorem word_step (a b i j : Nat) (hb : b < 18446744073709551616 ^ 4) (hj : j < 4) : lbN (ppD a b (i + 1)) (i + j) = (lbN a i * lbN b j + lbN (ppD a b i) (i + j) + cyD a b i j) % 18446744073709551616 := by
  have h : lbN (ppD a b (i + 1)) (i + j) = lbN (ttD a b i (j + 1)) (i + j) := by
    have e : ppD a b (i + 1) = ttD a b i (j + 1) + 18446744073709551616 ^ (i + (j + 1)) * (ppD a b i / 18446744073709551616 ^ (i + (j + 1)) + lbN a i * (b / 18446744073709551616 ^ (j + 1))) := by
      rw [ppD_succ]
      unfold ttD
      have e1 := Nat.mod_add_div (ppD a b i) (18446744073709551616 ^ (i + (j + 1)))
      have e2 := Nat.mod_add_div b (18446744073709551616 ^ (j + 1))
      have e3 : lbN a i * 18446744073709551616 ^ i * b = lbN a i * 18446744073709551616 ^ i * (b % 18446744073709551616 ^ (j + 1)) + 18446744073709551616 ^ (i + (j + 1)) * (lbN a i * (b / 18446744073709551616 ^ (j + 1))) := by
        conv => lhs; rw [← e2]
        rw [Nat.mul_add, Nat.pow_add 18446744073709551616 i (j + 1)]
        congr 1
        simp only [Nat.mul_comm, Nat.mul_assoc, Nat.mul_left_comm]
      rw [e3, Nat.mul_add]
      omega
    rw [e, lbN_add_mul _ _ _ _ (by omega)]
  rw [h, lbN_eq, ttD_div]
  congr 1
  omega
theorem ppD_lt (a b i : Nat) (hb : b < 18446744073709551616 ^ 4) : ppD a b i < 18446744073709551616 ^ (i + 4) := by
  unfold ppD
  rw [Nat.pow_add]
  exact Nat.mul_lt_mul_of_lt_of_le (Nat.mod_lt _ (Nat.pow_pos (by omega))) (Nat.le_of_lt hb) (Nat.pow_pos (by omega))
theorem word_top (a b i : Nat) (hb : b < 18446744073709551616 ^ 4) : lbN (ppD a b (i + 1)) (i + 4) = cyD a b i 4 := by
  have e : ttD a b i 4 = ppD a b (i + 1) := by
    unfold ttD
    rw [ppD_succ, Nat.mod_eq_of_lt hb, Nat.mod_eq_of_lt (ppD_lt a b i hb)]
  have h2 : cyD a b i 4 = ppD a b (i + 1) / 18446744073709551616 ^ (i + 4) := by
    rw [← e]; rfl
  have h3 := cyD_lt a b i 4
  rw [lbN_eq, ← h2]
  exact Nat.mod_eq_of_lt h3
theorem ppD_zero (a b : Nat) : ppD a b 0 = 0 := by unfold ppD; rw [Nat.pow_zero, Nat.mod_one, Nat.zero_mul]
theorem ppD_four (a b : Nat) (ha : a < 18446744073709551616 ^ 4) : ppD a b 4 = a * b := by unfold ppD; rw [Nat.mod_eq_of_lt ha]

theorem pp_is : ∃ f : Nat → Nat → Nat → Nat, ∀ a b i, f a b i = ppD a b i := ⟨ppD, fun _ _ _ => rfl⟩
noncomputable def pp : Nat → Nat → Nat → Nat := Classical.choose pp_is
theorem pp_def (a b i : Nat) : pp a b i = ppD a b i := Classical.choose_spec pp_is a b i
theorem cy_is : ∃ f : Nat → Nat → Nat → Nat → Int, ∀ a b i j, f a b i j = (cyD a b i j : Nat) := ⟨fun a b i j => (cyD a b i j : Nat), fun _ _ _ _ => rfl⟩
noncomputable def cy : Nat → Nat → Nat → Nat → Int := Classical.choose cy_is
theorem cy_def (a b i j : Nat) : cy a b i j = (cyD a b i j : Nat) := Classical.choose_spec cy_is a b i j
/-! The two halves of a product of words; then two sums. -/
theorem mh_is : ∃ f : Int → Int → Int, ∀ x y, f x y = x * y / 18446744073709551616 := ⟨fun x y => x * y / 18446744073709551616, fun _ _ => rfl⟩
noncomputable def mh : Int → Int → Int := Classical.choose mh_is
theorem mh_def (x y : Int) : mh x y = x * y / 18446744073709551616 := Classical.choose_spec mh_is x y
theorem ml_is : ∃ f : Int → Int → Int, ∀ x y, f x y = x * y % 18446744073709551616 := ⟨fun x y => x * y % 18446744073709551616, fun _ _ => rfl⟩
noncomputable def ml : Int → Int → Int := Classical.choose ml_is
theorem ml_def (x y : Int) : ml x y = x * y % 18446744073709551616 := Classical.choose_spec ml_is x y
theorem sl_is : ∃ f : Int → Int → Int, ∀ x y, f x y = (x + y) % 18446744073709551616 := ⟨fun x y => (x + y) % 18446744073709551616, fun _ _ => rfl⟩
noncomputable def sl : Int → Int → Int := Classical.choose sl_is
theorem sl_def (x y : Int) : sl x y = (x + y) % 18446744073709551616 := Classical.choose_spec sl_is x y
theorem sh_is : ∃ f : Int → Int → Int, ∀ x y, f x y = (x + y) / 18446744073709551616 := ⟨fun x y => (x + y) / 18446744073709551616, fun _ _ => rfl⟩
noncomputable def sh : Int → Int → Int := Classical.choose sh_is
theorem sh_def (x y : Int) : sh x y = (x + y) / 18446744073709551616 := Classical.choose_spec sh_is x y
/-- One inner step: x * y + v + c as a low word and a high one, told by the two sums. -/
theorem inner_step (x y v c : Int) (x0 : 0 ≤ x) (x1 : x < 18446744073709551616) (y0 : 0 ≤ y) (y1 : y < 18446744073709551616) (v0 : 0 ≤ v) (v1 : v < 18446744073709551616) (c0 : 0 ≤ c) (c1 : c < 18446744073709551616) :
    0 ≤ mh x y ∧ 0 ≤ ml x y ∧ 0 ≤ sh (ml x y) v ∧ sh (ml x y) v ≤ 1 ∧ 0 ≤ sl (ml x y) v ∧ 0 ≤ sh (sl (ml x y) v) c ∧ sh (sl (ml x y) v) c ≤ 1 ∧ mh x y + sh (ml x y) v + sh (sl (ml x y) v) c < 18446744073709551616 ∧
    mh x y + sh (ml x y) v + sh (sl (ml x y) v) c = (x * y + v + c) / 18446744073709551616 ∧ sl (sl (ml x y) v) c = (x * y + v + c) % 18446744073709551616 := by
  have h1 : x * y ≤ 18446744073709551615 * 18446744073709551615 := by
    have a1 : x * y ≤ 18446744073709551615 * y := Int.mul_le_mul_of_nonneg_right (by omega) y0
    have a2 : 18446744073709551615 * y ≤ 18446744073709551615 * 18446744073709551615 := Int.mul_le_mul_of_nonneg_left (by omega) (by omega)
    omega
  have h0 : 0 ≤ x * y := Int.mul_nonneg x0 y0
  rw [mh_def, ml_def, sl_def, sh_def, sl_def, sh_def]
  generalize x * y = m at *
  refine ⟨?_, ?_, ?_, ?_, ?_, ?_, ?_, ?_, ?_, ?_⟩ <;> omega
end Go.Proofs.Ytieencpejpeenaa
namespace Go.Proofs.Ytieencpejpeenaa
set_option linter.unusedVariables false
set_option linter.unusedSimpArgs false

/-- Digit k of a number. -/
def dgD (n k : Nat) : Nat := n / 65536 ^ k % 65536
/-- The lowest k digits, the lowest first. -/
def dgs (n : Nat) : Nat → List Int
  | 0 => []
  | k + 1 => dgs n k ++ [((dgD n k : Nat) : Int)]
theorem dgs_length (n : Nat) : ∀ k, (dgs n k).length = k
  | 0 => rfl
  | k + 1 => by unfold dgs; rw [List.length_append, dgs_length n k]; rfl
theorem dgs_get (n : Nat) : ∀ k i, i < k → (dgs n k)[i]? = some (dgD n i : Int)
  | 0, i, h => by omega
  | k + 1, i, h => by
    unfold dgs
    rcases Nat.lt_or_ge i k with h1 | h1
    · have hl := dgs_length n k
      rw [List.getElem?_append_left (by omega)]
      exact dgs_get n k i h1
    · obtain rfl : i = k := by omega
      have hl := dgs_length n i
      rw [List.getElem?_append_right (by omega), hl, Nat.sub_self]
      rfl
/-- What is left of word i behind k digits. -/
theorem xw_is : ∃ f : Nat → Nat → Nat → Int, ∀ n i k, f n i k = (lbN n i / 65536 ^ k : Nat) := ⟨fun n i k => (lbN n i / 65536 ^ k : Nat), fun _ _ _ => rfl⟩
noncomputable def xw : Nat → Nat → Nat → Int := Classical.choose xw_is
theorem xw_def (n i k : Nat) : xw n i k = (lbN n i / 65536 ^ k : Nat) := Classical.choose_spec xw_is n i k
theorem dg_is : ∃ f : Nat → Nat → Int, ∀ n k, f n k = (dgD n k : Nat) := ⟨fun n k => (dgD n k : Nat), fun _ _ => rfl⟩
noncomputable def dg : Nat → Nat → Int := Classical.choose dg_is
theorem dg_def (n k : Nat) : dg n k = (dgD n k : Nat) := Classical.choose_spec dg_is n k
theorem xw_lo (n i k : Nat) : 0 ≤ xw n i k := by rw [xw_def]; exact Int.natCast_nonneg _
theorem xw_hi (n i k : Nat) : xw n i k < 18446744073709551616 := by
  rw [xw_def]
  have h1 := lbN_lt n i
  have h2 : lbN n i / 65536 ^ k ≤ lbN n i := Nat.div_le_self _ _
  omega
theorem xw_zero (n i : Nat) : xw n i 0 = lb n i := by rw [xw_def, lb_def, Nat.pow_zero, Nat.div_one]
theorem xw_succ (n i k : Nat) : xw n i k / 65536 = xw n i (k + 1) := by
  rw [xw_def, xw_def, Nat.pow_succ, ← Nat.div_div_eq_div_mul]; rfl
theorem lbN_pow (n : Nat) : ∀ i, lbN n i = n / 65536 ^ (4 * i) % 18446744073709551616 := by
  intro i
  induction i generalizing n with
  | zero => simp [lbN]
  | succ i ih =>
    simp only [lbN]
    rw [ih, Nat.div_div_eq_div_mul]
    have e : 18446744073709551616 * 65536 ^ (4 * i) = 65536 ^ (4 * (i + 1)) := by
      rw [show 4 * (i + 1) = 4 + 4 * i by omega, Nat.pow_add]
    rw [e]
theorem xw_digit (n i k : Nat) (hk : k < 4) : xw n i k % 65536 = dg n (4 * i + k) := by
  rw [xw_def, dg_def, lbN_pow]
  unfold dgD
  rw [Nat.pow_add, ← Nat.div_div_eq_div_mul]
  generalize n / 65536 ^ (4 * i) = y
  obtain rfl | rfl | rfl | rfl : k = 0 ∨ k = 1 ∨ k = 2 ∨ k = 3 := by omega
  all_goals simp only [Nat.reducePow, Nat.pow_zero, Nat.pow_one]; omega
theorem dg_lo (n k : Nat) : 0 ≤ dg n k := by rw [dg_def]; omega
theorem dg_hi (n k : Nat) : dg n k < 65536 := by rw [dg_def]; unfold dgD; omega
theorem dgs_succ (n k : Nat) : dgs n (k + 1) = dgs n k ++ [dg n k] := by rw [dg_def]; rfl
theorem dg_high (n k i : Nat) (hn : n < 65536 ^ k) (hi : k ≤ i) : dg n i = 0 := by
  rw [dg_def]; unfold dgD
  have h : n < 65536 ^ i := Nat.lt_of_lt_of_le hn (Nat.pow_le_pow_right (by omega) hi)
  rw [Nat.div_eq_of_lt h]; rfl
/-- A word while its digits come in from above: k of four are there. -/
theorem yw_is : ∃ f : Nat → Nat → Nat → Int, ∀ n i k, f n i k = (lbN n i / 65536 ^ (4 - k) : Nat) := ⟨fun n i k => (lbN n i / 65536 ^ (4 - k) : Nat), fun _ _ _ => rfl⟩
noncomputable def yw : Nat → Nat → Nat → Int := Classical.choose yw_is
theorem yw_def (n i k : Nat) : yw n i k = (lbN n i / 65536 ^ (4 - k) : Nat) := Classical.choose_spec yw_is n i k
theorem yw_zero (n i : Nat) : yw n i 0 = 0 := by
  rw [yw_def]
  have h := lbN_lt n i
  rw [Nat.div_eq_of_lt (by simpa using h)]; rfl
theorem yw_four (n i : Nat) : yw n i 4 = lb n i := by rw [yw_def, lb_def]; simp
theorem yw_lo (n i k : Nat) : 0 ≤ yw n i k := by rw [yw_def]; exact Int.natCast_nonneg _
theorem yw_step (n i k : Nat) (hk : k < 4) : yw n i k * 65536 + dg n (4 * i + (3 - k)) = yw n i (k + 1) := by
  rw [yw_def, yw_def, dg_def]
  unfold dgD
  have e : lbN n i / 65536 ^ (4 - (k + 1)) % 65536 = n / 65536 ^ (4 * i + (3 - k)) % 65536 := by
    have h := xw_digit n i (3 - k) (by omega)
    rw [xw_def, dg_def] at h
    unfold dgD at h
    rw [show 4 - (k + 1) = 3 - k by omega]
    omega
  rw [← e, show 4 - k = (4 - (k + 1)) + 1 by omega, Nat.pow_succ, ← Nat.div_div_eq_div_mul]
  generalize lbN n i / 65536 ^ (4 - (k + 1)) = y
  omega
theorem yw_small (n i k : Nat) (hk : k < 4) : yw n i k ≤ 281474976710655 := by
  rw [yw_def]
  have h := lbN_lt n i
  obtain rfl | rfl | rfl | rfl : k = 0 ∨ k = 1 ∨ k = 2 ∨ k = 3 := by omega
  all_goals simp only [Nat.reduceSub, Nat.reducePow]; omega
end Go.Proofs.Ytieencpejpeenaa
namespace Go.Proofs.Ytieencpejpeenaa
set_option linter.unusedVariables false
set_option linter.unusedSimpArgs false

theorem dgD_zero (n : Nat) : dgD n 0 = n % 65536 := by unfold dgD; rw [Nat.pow_zero, Nat.div_one]
theorem dgD_rec (n i : Nat) : dgD n (i + 1) = dgD (n / 65536) i := by unfold dgD; rw [Nat.pow_succ, Nat.mul_comm, Nat.div_div_eq_div_mul]
theorem dgD_lt (n i : Nat) : dgD n i < 65536 := by unfold dgD; exact Nat.mod_lt _ (by omega)
theorem dgD_eq (n i : Nat) : dgD n i = n / 65536 ^ i % 65536 := rfl
theorem dmod_succ (n i : Nat) : n % 65536 ^ (i + 1) = n % 65536 ^ i + 65536 ^ i * dgD n i := by
  rw [Nat.pow_succ, Nat.mod_mul]; rfl
theorem dgD_add_mul (a k b : Nat) : ∀ i, i < k → dgD (a + 65536 ^ k * b) i = dgD a i := by
  intro i hi
  have h := dgD_rec
  induction k generalizing a i with
  | zero => omega
  | succ k ih =>
    have e : 65536 ^ (k + 1) * b = 65536 * (65536 ^ k * b) := by rw [Nat.pow_succ, Nat.mul_comm (65536 ^ k), Nat.mul_assoc]
    rw [e]
    cases i with
    | zero => rw [dgD_zero, dgD_zero]; omega
    | succ i =>
      rw [dgD_rec, dgD_rec]
      have : (a + 65536 * (65536 ^ k * b)) / 65536 = a / 65536 + 65536 ^ k * b := by omega
      rw [this]
      exact ih _ i (by omega)
/-! ### A row added: V + q * B^i * m, word by word -/
def tcD (V q m i j : Nat) : Nat := (V % 65536 ^ (i + j) + q * 65536 ^ i * (m % 65536 ^ j)) / 65536 ^ (i + j)
def trD (V q m i : Nat) : Nat := V + q * 65536 ^ i * m
theorem trow_tt (V q m i j : Nat) : V % 65536 ^ (i + (j + 1)) + q * 65536 ^ i * (m % 65536 ^ (j + 1)) =
    V % 65536 ^ (i + j) + q * 65536 ^ i * (m % 65536 ^ j) + 65536 ^ (i + j) * (dgD V (i + j) + q * dgD m j) := by
  rw [← Nat.add_assoc i j 1, dmod_succ, dmod_succ m j, Nat.mul_add, Nat.mul_add (65536 ^ (i + j)), Nat.pow_add]
  have e : q * 65536 ^ i * (65536 ^ j * dgD m j) = 65536 ^ i * 65536 ^ j * (q * dgD m j) := by
    simp only [Nat.mul_comm, Nat.mul_assoc, Nat.mul_left_comm]
  rw [e]
  omega
theorem trow_div (V q m i j : Nat) : (V % 65536 ^ (i + (j + 1)) + q * 65536 ^ i * (m % 65536 ^ (j + 1))) / 65536 ^ (i + j) = tcD V q m i j + (dgD V (i + j) + q * dgD m j) := by
  rw [trow_tt, Nat.add_mul_div_left _ _ (Nat.pow_pos (by omega))]
  rfl
theorem tcD_succ (V q m i j : Nat) : tcD V q m i (j + 1) = (q * dgD m j + dgD V (i + j) + tcD V q m i j) / 65536 := by
  have h := trow_div V q m i j
  have e : tcD V q m i (j + 1) = (V % 65536 ^ (i + (j + 1)) + q * 65536 ^ i * (m % 65536 ^ (j + 1))) / 65536 ^ (i + j) / 65536 := by
    rw [Nat.div_div_eq_div_mul, ← Nat.pow_succ]
    rfl
  rw [e, h]
  congr 1
  omega
theorem tcD_zero (V q m i : Nat) : tcD V q m i 0 = 0 := by
  unfold tcD
  rw [Nat.pow_zero, Nat.mod_one, Nat.mul_zero, Nat.add_zero, Nat.add_zero]
  exact Nat.div_eq_of_lt (Nat.mod_lt _ (Nat.pow_pos (by omega)))
theorem tcD_lt (V q m i : Nat) (hq : q < 65536) : ∀ j, tcD V q m i j < 65536 := by
  intro j
  induction j with
  | zero => rw [tcD_zero]; omega
  | succ j ih =>
    rw [tcD_succ]
    have h2 := dgD_lt m j
    have h3 := dgD_lt V (i + j)
    have h4 : q * dgD m j ≤ 65535 * 65535 := Nat.mul_le_mul (by omega) (by omega)
    omega
theorem trow_word (V q m i j : Nat) : dgD (trD V q m i) (i + j) = (q * dgD m j + dgD V (i + j) + tcD V q m i j) % 65536 := by
  have h : dgD (trD V q m i) (i + j) = dgD (V % 65536 ^ (i + (j + 1)) + q * 65536 ^ i * (m % 65536 ^ (j + 1))) (i + j) := by
    have e : trD V q m i = (V % 65536 ^ (i + (j + 1)) + q * 65536 ^ i * (m % 65536 ^ (j + 1))) + 65536 ^ (i + (j + 1)) * (V / 65536 ^ (i + (j + 1)) + q * (m / 65536 ^ (j + 1))) := by
      unfold trD
      have e1 := Nat.mod_add_div V (65536 ^ (i + (j + 1)))
      have e2 := Nat.mod_add_div m (65536 ^ (j + 1))
      have e3 : q * 65536 ^ i * m = q * 65536 ^ i * (m % 65536 ^ (j + 1)) + 65536 ^ (i + (j + 1)) * (q * (m / 65536 ^ (j + 1))) := by
        conv => lhs; rw [← e2]
        rw [Nat.mul_add, Nat.pow_add 65536 i (j + 1)]
        congr 1
        simp only [Nat.mul_comm, Nat.mul_assoc, Nat.mul_left_comm]
      rw [e3, Nat.mul_add]
      omega
    rw [e, dgD_add_mul _ _ _ _ (by omega)]
  rw [h, dgD_eq, trow_div]
  congr 1
  omega
theorem trow_keep (V q m i k : Nat) (hk : k < i) : dgD (trD V q m i) k = dgD V k := by
  unfold trD
  rw [Nat.mul_comm q, Nat.mul_assoc, dgD_add_mul _ _ _ _ hk]

/-- What has been multiplied after i outer rounds. -/
def tpD (a b i : Nat) : Nat := a % 65536 ^ i * b
theorem tpD_succ (a b i : Nat) : tpD a b (i + 1) = trD (tpD a b i) (dgD a i) b i := by
  unfold tpD trD; rw [dmod_succ, Nat.add_mul, Nat.mul_comm (65536 ^ i)]
theorem tpD_lt (a b i k : Nat) (hb : b < 65536 ^ k) : tpD a b i < 65536 ^ (i + k) := by
  unfold tpD
  rw [Nat.pow_add]
  exact Nat.mul_lt_mul_of_lt_of_le (Nat.mod_lt _ (Nat.pow_pos (by omega))) (Nat.le_of_lt hb) (Nat.pow_pos (by omega))
/-- Behind the inner loop the carry is the top digit. -/
theorem t_top (a b i k : Nat) (hb : b < 65536 ^ k) : tcD (tpD a b i) (dgD a i) b i k = dgD (tpD a b (i + 1)) (i + k) := by
  have h1 := tpD_lt a b i k hb
  have h2 := tpD_lt a b (i + 1) k hb
  have e : tcD (tpD a b i) (dgD a i) b i k = tpD a b (i + 1) / 65536 ^ (i + k) := by
    rw [tpD_succ]; unfold tcD trD
    rw [Nat.mod_eq_of_lt h1, Nat.mod_eq_of_lt hb]
  rw [e, dgD_eq, Nat.mod_eq_of_lt]
  apply Nat.div_lt_of_lt_mul
  rw [← Nat.pow_succ, show (i + k).succ = i + 1 + k by omega]
  exact h2
theorem tp_far (a b i j k : Nat) (hb : b < 65536 ^ k) (hj : i + k ≤ j) : dgD (tpD a b i) j = 0 := by
  have h := tpD_lt a b i k hb
  rw [dgD_eq, Nat.div_eq_of_lt (Nat.lt_of_lt_of_le h (Nat.pow_le_pow_right (by omega) hj))]
/-- The digits up to p are those of V', the others those of V. -/
def mixl (V' V : Nat) (p : Nat) : Nat → List Int
  | 0 => []
  | n + 1 => mixl V' V p n ++ [((dgD (if n < p then V' else V) n : Nat) : Int)]
theorem mixl_length (V' V p : Nat) : ∀ n, (mixl V' V p n).length = n
  | 0 => rfl
  | n + 1 => by unfold mixl; rw [List.length_append, mixl_length V' V p n]; rfl
theorem mixl_get (V' V p : Nat) : ∀ n i, i < n → (mixl V' V p n)[i]? = some ((dgD (if i < p then V' else V) i : Nat) : Int)
  | 0, i, h => by omega
  | n + 1, i, h => by
    unfold mixl
    have hl := mixl_length V' V p n
    rcases Nat.lt_or_ge i n with h1 | h1
    · rw [List.getElem?_append_left (by omega)]
      exact mixl_get V' V p n i h1
    · obtain rfl : i = n := by omega
      rw [List.getElem?_append_right (by omega), hl, Nat.sub_self]
      rfl
theorem mixl_zero (V' V : Nat) : ∀ n, mixl V' V 0 n = dgs V n
  | 0 => rfl
  | n + 1 => by unfold mixl dgs; rw [mixl_zero V' V n, if_neg (by omega)]
theorem list_same (l m : List Int) (n : Nat) (hl : l.length = n) (hm : m.length = n) (h : ∀ i, i < n → l[i]? = m[i]?) : l = m := by
  apply List.ext_getElem?
  intro i
  rcases Nat.lt_or_ge i n with h1 | h1
  · exact h i h1
  · rw [List.getElem?_eq_none (by omega), List.getElem?_eq_none (by omega)]
theorem mixl_set (V' V p n : Nat) (x : Int) (hx : x = ((dgD V' p : Nat) : Int)) (hp : p < n) : (mixl V' V p n).set p x = mixl V' V (p + 1) n := by
  refine list_same _ _ n (by rw [List.length_set, mixl_length]) (mixl_length _ _ _ _) fun i hi => ?_
  rw [mixl_get V' V (p + 1) n i hi]
  by_cases h : i = p
  · subst h
    rw [List.getElem?_set_self (by rw [mixl_length]; exact hp), hx, if_pos (by omega)]
  · rw [List.getElem?_set_ne (fun e => h e.symm), mixl_get V' V p n i hi]
    by_cases h2 : i < p
    · rw [if_pos h2, if_pos (by omega)]
    · rw [if_neg h2, if_neg (by omega)]
/-- Where the digits of V and V' below i are the same, nothing is mixed yet. -/
theorem mixl_low (V' V p n : Nat) (h : ∀ i, i < p → dgD V i = dgD V' i) : dgs V n = mixl V' V p n := by
  refine list_same _ _ n (dgs_length _ _) (mixl_length _ _ _ _) fun i hi => ?_
  rw [dgs_get V n i hi, mixl_get V' V p n i hi]
  by_cases h2 : i < p
  · rw [if_pos h2, h i h2]
  · rw [if_neg h2]
theorem mixl_all (V' V p n : Nat) (h : ∀ i, p ≤ i → i < n → dgD V i = dgD V' i) : mixl V' V p n = dgs V' n := by
  refine list_same _ _ n (mixl_length _ _ _ _) (dgs_length _ _) fun i hi => ?_
  rw [dgs_get V' n i hi, mixl_get V' V p n i hi]
  by_cases h2 : i < p
  · rw [if_pos h2]
  · rw [if_neg h2, h i (by omega) hi]
end Go.Proofs.Ytieencpejpeenaa
namespace Go.Proofs.Ytieencpejpeenaa
set_option linter.unusedVariables false
set_option linter.unusedSimpArgs false

def caD (a b i : Nat) : Nat := (a % 65536 ^ i + b % 65536 ^ i) / 65536 ^ i
theorem ca_two (a b i : Nat) : a % 65536 ^ (i + 1) + b % 65536 ^ (i + 1) = a % 65536 ^ i + b % 65536 ^ i + 65536 ^ i * (dgD a i + dgD b i) := by
  rw [dmod_succ, dmod_succ b i, Nat.mul_add]; omega
theorem ca_div (a b i : Nat) : (a % 65536 ^ (i + 1) + b % 65536 ^ (i + 1)) / 65536 ^ i = caD a b i + (dgD a i + dgD b i) := by
  rw [ca_two, Nat.add_mul_div_left _ _ (Nat.pow_pos (by omega))]; rfl
theorem caD_succ (a b i : Nat) : caD a b (i + 1) = (dgD a i + dgD b i + caD a b i) / 65536 := by
  have h := ca_div a b i
  have e : caD a b (i + 1) = (a % 65536 ^ (i + 1) + b % 65536 ^ (i + 1)) / 65536 ^ i / 65536 := by
    rw [Nat.div_div_eq_div_mul, ← Nat.pow_succ]; rfl
  rw [e, h]
  congr 1
  omega
theorem caD_zero (a b : Nat) : caD a b 0 = 0 := by unfold caD; simp [Nat.mod_one]
theorem caD_le (a b i : Nat) : caD a b i ≤ 1 := by
  have hp : 0 < 65536 ^ i := Nat.pow_pos (by omega)
  have h1 := Nat.mod_lt a hp
  have h2 := Nat.mod_lt b hp
  have h3 : caD a b i < 2 := by
    unfold caD
    apply Nat.div_lt_of_lt_mul
    omega
  omega
theorem add_digit (a b i : Nat) : dgD (a + b) i = (dgD a i + dgD b i + caD a b i) % 65536 := by
  have e : a + b = (a % 65536 ^ (i + 1) + b % 65536 ^ (i + 1)) + 65536 ^ (i + 1) * (a / 65536 ^ (i + 1) + b / 65536 ^ (i + 1)) := by
    have e1 := Nat.mod_add_div a (65536 ^ (i + 1))
    have e2 := Nat.mod_add_div b (65536 ^ (i + 1))
    rw [Nat.mul_add]; omega
  rw [e, dgD_add_mul _ _ _ _ (by omega), dgD_eq, ca_div]
  congr 1
  omega
theorem caD_end (a b k : Nat) (ha : a < 65536 ^ k) (hb : b < 65536 ^ k) : caD a b k = if a + b < 65536 ^ k then 0 else 1 := by
  unfold caD
  rw [Nat.mod_eq_of_lt ha, Nat.mod_eq_of_lt hb]
  split
  · rename_i h; exact Nat.div_eq_of_lt h
  · rename_i h
    exact Nat.div_eq_of_lt_le (by omega) (by rw [Nat.add_mul]; omega)
theorem caD_past (a b k : Nat) (ha : a < 65536 ^ k) (hb : b < 65536 ^ k) : caD a b (k + 1) = 0 := by
  unfold caD
  have hp : 65536 ^ (k + 1) = 65536 ^ k * 65536 := Nat.pow_succ _ _
  rw [Nat.mod_eq_of_lt (by omega), Nat.mod_eq_of_lt (by omega)]
  exact Nat.div_eq_of_lt (by omega)
/-- How many digits Plus tells. -/
def plen (a b k : Nat) : Nat := if a + b < 65536 ^ k then k else k + 1
theorem plen_ge (a b k : Nat) : k ≤ plen a b k := by unfold plen; split <;> omega
theorem plen_le (a b k : Nat) : plen a b k ≤ k + 1 := by unfold plen; split <;> omega
theorem plen_lt (a b k : Nat) (ha : a < 65536 ^ k) (hb : b < 65536 ^ k) : a + b < 65536 ^ plen a b k := by
  unfold plen
  split
  · assumption
  · have hp : 65536 ^ (k + 1) = 65536 ^ k * 65536 := Nat.pow_succ _ _
    omega
/-! ### Differences -/
def boD (a b i : Nat) : Nat := if a % 65536 ^ i < b % 65536 ^ i then 1 else 0
theorem boD_zero (a b : Nat) : boD a b 0 = 0 := by unfold boD; simp [Nat.mod_one]
theorem boD_le (a b i : Nat) : boD a b i ≤ 1 := by unfold boD; split <;> omega
theorem sub_div (a b i : Nat) (h : b ≤ a) : b / 65536 ^ i + boD a b i ≤ a / 65536 ^ i ∧ (a - b) / 65536 ^ i = a / 65536 ^ i - b / 65536 ^ i - boD a b i := by
  have hp : 0 < 65536 ^ i := Nat.pow_pos (by omega)
  unfold boD
  generalize 65536 ^ i = P at *
  have ea := Nat.mod_add_div a P
  have eb := Nat.mod_add_div b P
  have la := Nat.mod_lt a hp
  have lb := Nat.mod_lt b hp
  generalize a / P = qa at *
  generalize b / P = qb at *
  generalize a % P = ra at *
  generalize b % P = rb at *
  have hle : qb ≤ qa := by
    rcases Nat.lt_or_ge qa qb with h1 | h1
    · have : P * (qa + 1) ≤ P * qb := Nat.mul_le_mul_left P h1
      rw [Nat.mul_add] at this
      omega
    · exact h1
  obtain ⟨d, rfl⟩ := Nat.exists_eq_add_of_le hle
  rw [Nat.mul_add] at ea
  split
  · rename_i hlt
    have hd : 0 < d := by
      rcases Nat.eq_zero_or_pos d with rfl | h1
      · omega
      · exact h1
    obtain ⟨d', rfl⟩ : ∃ d', d = d' + 1 := ⟨d - 1, by omega⟩
    rw [Nat.mul_add] at ea
    refine ⟨by omega, ?_⟩
    have e : a - b = (P + ra - rb) + P * d' := by omega
    rw [e, Nat.add_mul_div_left _ _ hp, Nat.div_eq_of_lt (by omega)]
    omega
  · rename_i hlt
    refine ⟨by omega, ?_⟩
    have e : a - b = (ra - rb) + P * d := by omega
    rw [e, Nat.add_mul_div_left _ _ hp, Nat.div_eq_of_lt (by omega)]
    omega
theorem boD_succ (a b i : Nat) : boD a b (i + 1) = if dgD a i < dgD b i + boD a b i then 1 else 0 := by
  unfold boD
  rw [dmod_succ, dmod_succ b i]
  have hp : 0 < 65536 ^ i := Nat.pow_pos (by omega)
  have la := Nat.mod_lt a hp
  have lb := Nat.mod_lt b hp
  generalize 65536 ^ i = P at *
  generalize a % P = ra at *
  generalize b % P = rb at *
  generalize dgD a i = da at *
  generalize dgD b i = db at *
  obtain h | h | h : da < db ∨ da = db ∨ db < da := by omega
  · have : P * (da + 1) ≤ P * db := Nat.mul_le_mul_left P h
    rw [Nat.mul_add] at this
    rw [if_pos (by omega), if_pos (by omega)]
  · subst h
    by_cases hr : ra < rb
    · rw [if_pos (by omega), if_pos hr, if_pos (by omega)]
    · rw [if_neg (by omega), if_neg hr, if_neg (by omega)]
  · have : P * (db + 1) ≤ P * da := Nat.mul_le_mul_left P h
    rw [Nat.mul_add] at this
    rw [if_neg (by omega)]
    by_cases hr : ra < rb
    · rw [if_pos hr, if_neg (by omega)]
    · rw [if_neg hr, if_neg (by omega)]
theorem sub_digit (a b i : Nat) (h : b ≤ a) : (dgD (a - b) i : Int) = (dgD a i : Int) - dgD b i - boD a b i + (if dgD a i < dgD b i + boD a b i then 65536 else 0) := by
  obtain ⟨h1, h2⟩ := sub_div a b i h
  have hb := boD_le a b i
  rw [dgD_eq (a - b), h2, dgD_eq, dgD_eq]
  generalize a / 65536 ^ i = qa at *
  generalize b / 65536 ^ i = qb at *
  generalize boD a b i = c at *
  split <;> omega
end Go.Proofs.Ytieencpejpeenaa
namespace Go.Proofs.Ytieencpejpeenaa
set_option linter.unusedVariables false
set_option linter.unusedSimpArgs false

/-- The remainder of what stands above bit i. -/
theorem remN_is : ∃ f : Nat → Nat → Nat → Nat, ∀ x m i, f x m i = x / 2 ^ i % m := ⟨fun x m i => x / 2 ^ i % m, fun _ _ _ => rfl⟩
noncomputable def remN : Nat → Nat → Nat → Nat := Classical.choose remN_is
theorem remN_def (x m i : Nat) : remN x m i = x / 2 ^ i % m := Classical.choose_spec remN_is x m i
theorem rem_lt (x m i : Nat) (hm : 0 < m) : remN x m i < m := by rw [remN_def]; exact Nat.mod_lt _ hm
theorem rem_end (x m : Nat) : remN x m 0 = x % m := by rw [remN_def, Nat.pow_zero, Nat.div_one]
theorem rem_start (x m k : Nat) (h : x < 65536 ^ k) : remN x m (16 * k) = 0 := by
  have e : 65536 ^ k = 2 ^ (16 * k) := by rw [Nat.pow_mul]
  rw [e] at h
  rw [remN_def, Nat.div_eq_of_lt h, Nat.zero_mod]
/-- Bit k of digit i. -/
theorem dbit_is : ∃ f : Nat → Nat → Nat → Nat, ∀ x i k, f x i k = dgD x i / 2 ^ k % 2 := ⟨fun x i k => dgD x i / 2 ^ k % 2, fun _ _ _ => rfl⟩
noncomputable def dbit : Nat → Nat → Nat → Nat := Classical.choose dbit_is
theorem dbit_def (x i k : Nat) : dbit x i k = dgD x i / 2 ^ k % 2 := Classical.choose_spec dbit_is x i k
theorem dbit_le (x i k : Nat) : dbit x i k = 0 ∨ dbit x i k = 1 := by rw [dbit_def]; omega
theorem dbit_at (x i k : Nat) (hk : k < 16) : dbit x i k = x / 2 ^ (16 * i + k) % 2 := by
  rw [dbit_def]
  unfold dgD
  have hi : 2 ^ (16 * i + k) = 65536 ^ i * 2 ^ k := by
    rw [Nat.pow_add, Nat.pow_mul]
  rw [hi, ← Nat.div_div_eq_div_mul]
  generalize x / 65536 ^ i = y
  have hs : (65536 : Nat) = 2 ^ k * 2 ^ (16 - k) := by
    rw [← Nat.pow_add, show k + (16 - k) = 16 by omega]
  rw [hs, Nat.mod_mul_right_div_self]
  have h2 : 2 ^ (16 - k) = 2 * 2 ^ (15 - k) := by rw [← Nat.pow_succ']; congr 1; omega
  rw [h2, Nat.mod_mul_right_mod]
theorem dbit_int (x i k : Nat) : dg x i / 2 ^ k % 2 = ((dbit x i k : Nat) : Int) ∧ 0 ≤ dg x i / 2 ^ k := by
  have h0 : dg x i / 2 ^ k = ((dgD x i / 2 ^ k : Nat) : Int) := by
    rw [dg_def, Int.natCast_ediv, Int.natCast_pow]; rfl
  rw [h0, dbit_def]
  generalize dgD x i / 2 ^ k = q at *
  refine ⟨by omega, by omega⟩
/-- One bit more. -/
theorem rem_step (x m i k : Nat) (hm : 0 < m) (hk : k < 16) : remN x m (16 * i + k) = if m ≤ 2 * remN x m (16 * i + (k + 1)) + dbit x i k then 2 * remN x m (16 * i + (k + 1)) + dbit x i k - m else 2 * remN x m (16 * i + (k + 1)) + dbit x i k := by
  have hl := rem_lt x m (16 * i + (k + 1)) hm
  have hb := dbit_le x i k
  have e : remN x m (16 * i + k) = (2 * remN x m (16 * i + (k + 1)) + dbit x i k) % m := by
    rw [remN_def, remN_def, dbit_at x i k hk, ← Nat.add_assoc, Nat.pow_succ 2 (16 * i + k), ← Nat.div_div_eq_div_mul]
    generalize x / 2 ^ (16 * i + k) = y
    have e : y = 2 * (y / 2) + y % 2 := by omega
    conv => lhs; rw [e]
    rw [Nat.add_mod, Nat.mul_mod, Nat.add_mod (2 * (y / 2 % m)), Nat.mul_mod 2 (y / 2 % m), Nat.mod_mod]
  rw [e]
  split
  · rename_i h
    rw [Nat.mod_eq_sub_mod h, Nat.mod_eq_of_lt (by omega)]
  · rename_i h
    exact Nat.mod_eq_of_lt (by omega)
/-- A bit added digit by digit needs no more than one digit more. -/
theorem small_pow (r k l : Nat) (hr : r < 65536 ^ k) (h : k ≤ l) : r < 65536 ^ l := Nat.lt_of_lt_of_le hr (Nat.pow_le_pow_right (by omega) h)
end Go.Proofs.Ytieencpejpeenaa
namespace Go.Proofs.Ytieencpejpeenaa
set_option linter.unusedVariables false
set_option linter.unusedSimpArgs false

/-! ### A row added: V + q * B^i * m, word by word -/
def ccD (V q m i j : Nat) : Nat := (V % 18446744073709551616 ^ (i + j) + q * 18446744073709551616 ^ i * (m % 18446744073709551616 ^ j)) / 18446744073709551616 ^ (i + j)
def rowD (V q m i : Nat) : Nat := V + q * 18446744073709551616 ^ i * m
theorem row_tt (V q m i j : Nat) : V % 18446744073709551616 ^ (i + (j + 1)) + q * 18446744073709551616 ^ i * (m % 18446744073709551616 ^ (j + 1)) =
    V % 18446744073709551616 ^ (i + j) + q * 18446744073709551616 ^ i * (m % 18446744073709551616 ^ j) + 18446744073709551616 ^ (i + j) * (lbN V (i + j) + q * lbN m j) := by
  rw [← Nat.add_assoc i j 1, mod_succ, mod_succ m j, Nat.mul_add, Nat.mul_add (18446744073709551616 ^ (i + j)), Nat.pow_add]
  have e : q * 18446744073709551616 ^ i * (18446744073709551616 ^ j * lbN m j) = 18446744073709551616 ^ i * 18446744073709551616 ^ j * (q * lbN m j) := by
    simp only [Nat.mul_comm, Nat.mul_assoc, Nat.mul_left_comm]
  rw [e]
  omega
theorem row_div (V q m i j : Nat) : (V % 18446744073709551616 ^ (i + (j + 1)) + q * 18446744073709551616 ^ i * (m % 18446744073709551616 ^ (j + 1))) / 18446744073709551616 ^ (i + j) = ccD V q m i j + (lbN V (i + j) + q * lbN m j) := by
  rw [row_tt, Nat.add_mul_div_left _ _ (Nat.pow_pos (by omega))]
  rfl
theorem ccD_succ (V q m i j : Nat) : ccD V q m i (j + 1) = (q * lbN m j + lbN V (i + j) + ccD V q m i j) / 18446744073709551616 := by
  have h := row_div V q m i j
  have e : ccD V q m i (j + 1) = (V % 18446744073709551616 ^ (i + (j + 1)) + q * 18446744073709551616 ^ i * (m % 18446744073709551616 ^ (j + 1))) / 18446744073709551616 ^ (i + j) / 18446744073709551616 := by
    rw [Nat.div_div_eq_div_mul, ← Nat.pow_succ]
    rfl
  rw [e, h]
  congr 1
  omega
theorem ccD_zero (V q m i : Nat) : ccD V q m i 0 = 0 := by
  unfold ccD
  rw [Nat.pow_zero, Nat.mod_one, Nat.mul_zero, Nat.add_zero, Nat.add_zero]
  exact Nat.div_eq_of_lt (Nat.mod_lt _ (Nat.pow_pos (by omega)))
theorem ccD_lt (V q m i : Nat) (hq : q < 18446744073709551616) : ∀ j, ccD V q m i j < 18446744073709551616 := by
  intro j
  induction j with
  | zero => rw [ccD_zero]; omega
  | succ j ih =>
    rw [ccD_succ]
    have h2 := lbN_lt m j
    have h3 := lbN_lt V (i + j)
    have h4 : q * lbN m j ≤ 18446744073709551615 * 18446744073709551615 := Nat.mul_le_mul (by omega) (by omega)
    omega
theorem row_word (V q m i j : Nat) : lbN (rowD V q m i) (i + j) = (q * lbN m j + lbN V (i + j) + ccD V q m i j) % 18446744073709551616 := by
  have h : lbN (rowD V q m i) (i + j) = lbN (V % 18446744073709551616 ^ (i + (j + 1)) + q * 18446744073709551616 ^ i * (m % 18446744073709551616 ^ (j + 1))) (i + j) := by
    have e : rowD V q m i = (V % 18446744073709551616 ^ (i + (j + 1)) + q * 18446744073709551616 ^ i * (m % 18446744073709551616 ^ (j + 1))) + 18446744073709551616 ^ (i + (j + 1)) * (V / 18446744073709551616 ^ (i + (j + 1)) + q * (m / 18446744073709551616 ^ (j + 1))) := by
      unfold rowD
      have e1 := Nat.mod_add_div V (18446744073709551616 ^ (i + (j + 1)))
      have e2 := Nat.mod_add_div m (18446744073709551616 ^ (j + 1))
      have e3 : q * 18446744073709551616 ^ i * m = q * 18446744073709551616 ^ i * (m % 18446744073709551616 ^ (j + 1)) + 18446744073709551616 ^ (i + (j + 1)) * (q * (m / 18446744073709551616 ^ (j + 1))) := by
        conv => lhs; rw [← e2]
        rw [Nat.mul_add, Nat.pow_add 18446744073709551616 i (j + 1)]
        congr 1
        simp only [Nat.mul_comm, Nat.mul_assoc, Nat.mul_left_comm]
      rw [e3, Nat.mul_add]
      omega
    rw [e, lbN_add_mul _ _ _ _ (by omega)]
  rw [h, lbN_eq, row_div]
  congr 1
  omega
theorem row_keep (V q m i k : Nat) (hk : k < i) : lbN (rowD V q m i) k = lbN V k := by
  unfold rowD
  rw [Nat.mul_comm q, Nat.mul_assoc, lbN_add_mul _ _ _ _ hk]
/-- The carry out of word 8 goes to the top. -/
theorem row_top (V q m i : Nat) (hi : i ≤ 4) (hm : m < 18446744073709551616 ^ 4) : rowD V q m i / 18446744073709551616 ^ 8 = V / 18446744073709551616 ^ 8 + ccD V q m i (8 - i) := by
  have h8 : i + (8 - i) = 8 := by omega
  have hmm : m % 18446744073709551616 ^ (8 - i) = m := Nat.mod_eq_of_lt (Nat.lt_of_lt_of_le hm (Nat.pow_le_pow_right (by omega) (by omega)))
  unfold ccD rowD
  rw [h8, hmm]
  have e1 := Nat.mod_add_div V (18446744073709551616 ^ 8)
  generalize q * 18446744073709551616 ^ i * m = Z
  have e : V + Z = (V % 18446744073709551616 ^ 8 + Z) + 18446744073709551616 ^ 8 * (V / 18446744073709551616 ^ 8) := by omega
  rw [e, Nat.add_mul_div_left _ _ (Nat.pow_pos (by omega))]
  omega

/-! ### Montgomery's step -/
/-- q of round i. -/
def qqD (V inv i : Nat) : Nat := lbN V i * inv % 18446744073709551616
/-- What stands after i rounds. -/
def vvD (w m inv : Nat) : Nat → Nat
  | 0 => w
  | i + 1 => rowD (vvD w m inv i) (qqD (vvD w m inv i) inv i) m i
theorem qqD_lt (V inv i : Nat) : qqD V inv i < 18446744073709551616 := Nat.mod_lt _ (by omega)
theorem vvD_zeros (w m inv : Nat) (hinv : (lbN m 0 * inv + 1) % 18446744073709551616 = 0) : ∀ i, ∀ k, k < i → lbN (vvD w m inv i) k = 0
  | 0, k, h => by omega
  | i + 1, k, h => by
    rcases Nat.lt_or_ge k i with h1 | h1
    · unfold vvD
      rw [row_keep _ _ _ _ _ h1]
      exact vvD_zeros w m inv hinv i k h1
    · obtain rfl : k = i := by omega
      unfold vvD
      have e := row_word (vvD w m inv k) (qqD (vvD w m inv k) inv k) m k 0
      rw [Nat.add_zero, ccD_zero, Nat.add_zero] at e
      rw [e]
      unfold qqD
      generalize lbN (vvD w m inv k) k = x
      have e1 : (x * inv % 18446744073709551616 * lbN m 0 + x) % 18446744073709551616 = (x * (lbN m 0 * inv + 1)) % 18446744073709551616 := by
        rw [Nat.add_mod, Nat.mod_mul_mod, ← Nat.add_mod]
        congr 1
        rw [Nat.mul_add, Nat.mul_one]
        congr 1
        simp only [Nat.mul_comm, Nat.mul_assoc, Nat.mul_left_comm]
      rw [e1, Nat.mul_mod, hinv, Nat.mul_zero, Nat.zero_mod]
theorem zeros_div (n : Nat) : ∀ i, (∀ k, k < i → lbN n k = 0) → n % 18446744073709551616 ^ i = 0 := by
  intro i
  induction i with
  | zero => intro _; rw [Nat.pow_zero, Nat.mod_one]
  | succ i ih =>
    intro h
    rw [mod_succ, ih (fun k hk => h k (by omega)), h i (by omega)]
    simp
theorem vvD_mod (w m inv : Nat) : ∀ i, vvD w m inv i % m = w % m
  | 0 => rfl
  | i + 1 => by
    unfold vvD rowD
    rw [Nat.add_mul_mod_self_right]
    exact vvD_mod w m inv i
theorem vvD_lt (w m inv : Nat) : ∀ i, vvD w m inv i + m ≤ w + 18446744073709551616 ^ i * m
  | 0 => by unfold vvD; rw [Nat.pow_zero, Nat.one_mul]; exact Nat.le_refl _
  | i + 1 => by
    have h := vvD_lt w m inv i
    unfold vvD rowD
    have hq := qqD_lt (vvD w m inv i) inv i
    generalize qqD (vvD w m inv i) inv i = q at *
    have h1 : q * 18446744073709551616 ^ i * m ≤ 18446744073709551615 * (18446744073709551616 ^ i * m) := by
      rw [Nat.mul_assoc]; exact Nat.mul_le_mul_right _ (by omega)
    have h2 : 18446744073709551616 ^ (i + 1) * m = 18446744073709551616 * (18446744073709551616 ^ i * m) := by
      rw [Nat.pow_succ, Nat.mul_comm _ 18446744073709551616, Nat.mul_assoc]
    rw [h2]
    generalize 18446744073709551616 ^ i * m = X at *
    generalize q * 18446744073709551616 ^ i * m = Y at *
    omega
/-- THE STEP: what stands in the upper words, with the top, times R, is w mod m; and it is below 2 m. -/
theorem step_is (w m inv : Nat) (hinv : (lbN m 0 * inv + 1) % 18446744073709551616 = 0) (hm : 0 < m) (hw : w < m * 18446744073709551616 ^ 4) :
    vvD w m inv 4 / 18446744073709551616 ^ 4 * 18446744073709551616 ^ 4 = vvD w m inv 4 ∧ vvD w m inv 4 / 18446744073709551616 ^ 4 < 2 * m := by
  have h0 := zeros_div (vvD w m inv 4) 4 (vvD_zeros w m inv hinv 4)
  have h1 := Nat.div_add_mod (vvD w m inv 4) (18446744073709551616 ^ 4)
  rw [h0, Nat.add_zero, Nat.mul_comm] at h1
  refine ⟨h1, ?_⟩
  have h2 := vvD_lt w m inv 4
  apply Nat.div_lt_of_lt_mul
  rw [Nat.mul_comm m] at hw
  rw [show 18446744073709551616 ^ 4 * (2 * m) = 18446744073709551616 ^ 4 * m + 18446744073709551616 ^ 4 * m by rw [Nat.mul_left_comm]; omega]
  generalize 18446744073709551616 ^ 4 * m = X at *
  omega

/-! ### R can be struck on both sides, mod an odd number -/
theorem cancel_two (m x y : Nat) (hm : m % 2 = 1) (h : (2 * x) % m = (2 * y) % m) : x % m = y % m := by
  have k : ∀ z, (2 * z) % m * ((m + 1) / 2) % m = z % m := by
    intro z
    rw [Nat.mod_mul_mod]
    have e : 2 * z * ((m + 1) / 2) = z + z * m := by
      have e2 : 2 * ((m + 1) / 2) = m + 1 := by omega
      rw [Nat.mul_comm 2 z, Nat.mul_assoc, e2, Nat.mul_add, Nat.mul_one, Nat.add_comm]
    rw [e, Nat.add_mul_mod_self_right]
  rw [← k x, ← k y, h]
theorem cancel_pow (m x y : Nat) (hm : m % 2 = 1) : ∀ n, (2 ^ n * x) % m = (2 ^ n * y) % m → x % m = y % m
  | 0, h => by simpa using h
  | n + 1, h => by
    refine cancel_pow m x y hm n (cancel_two m _ _ hm ?_)
    rw [Nat.pow_succ, Nat.mul_comm (2 ^ n), Nat.mul_assoc, Nat.mul_assoc] at h
    exact h
theorem cancel_RR (m x y : Nat) (hm : m % 2 = 1) (h : (x * RR) % m = (y * RR) % m) : x % m = y % m := by
  have e : RR = 2 ^ 256 := by unfold RR; rfl
  rw [e, Nat.mul_comm x, Nat.mul_comm y] at h
  exact cancel_pow m x y hm 256 h
end Go.Proofs.Ytieencpejpeenaa
namespace Go.Proofs.Ytieencpejpeenaa
set_option linter.unusedVariables false
set_option linter.unusedSimpArgs false

theorem half_pow (m : Nat) (hm : m % 2 = 1) : ∀ n, (2 ^ n * ((m + 1) / 2) ^ n) % m = 1 % m
  | 0 => by simp
  | n + 1 => by
    have h := half_pow m hm n
    have e2 : 2 * ((m + 1) / 2) = m + 1 := by omega
    have e : 2 ^ (n + 1) * ((m + 1) / 2) ^ (n + 1) = 2 ^ n * ((m + 1) / 2) ^ n + 2 ^ n * ((m + 1) / 2) ^ n * m := by
      rw [Nat.pow_succ, Nat.pow_succ, Nat.mul_mul_mul_comm, e2, Nat.mul_add, Nat.mul_one, Nat.add_comm]
    rw [e, Nat.add_mul_mod_self_right, h]
/-- x less R once, mod m. -/
theorem redN_is : ∃ f : Nat → Nat → Nat, ∀ m x, f m x = x * ((m + 1) / 2) ^ 256 % m := ⟨fun m x => x * ((m + 1) / 2) ^ 256 % m, fun _ _ => rfl⟩
noncomputable def redN : Nat → Nat → Nat := Classical.choose redN_is
theorem redN_def (m x : Nat) : redN m x = x * ((m + 1) / 2) ^ 256 % m := Classical.choose_spec redN_is m x
theorem redN_lt (m x : Nat) (h : 0 < m) : redN m x < m := by rw [redN_def]; exact Nat.mod_lt _ h
theorem redN_RR (m x : Nat) (hm : m % 2 = 1) : (redN m x * RR) % m = x % m := by
  have e : RR = 2 ^ 256 := by unfold RR; rfl
  rw [redN_def, Nat.mod_mul_mod, e, Nat.mul_assoc, Nat.mul_comm (((m + 1) / 2) ^ 256), Nat.mul_mod, half_pow m hm, ← Nat.mul_mod, Nat.mul_one]
theorem redN_unique (m x r : Nat) (hm : m % 2 = 1) (hr : r < m) (h : (r * RR) % m = x % m) : r = redN m x := by
  have h1 := cancel_RR m r (redN m x) hm (h.trans (redN_RR m x hm).symm)
  rw [Nat.mod_eq_of_lt hr, Nat.mod_eq_of_lt (redN_lt m x (by omega))] at h1
  exact h1
/-- a with R, mod m. -/
theorem toN_is : ∃ f : Nat → Nat → Nat, ∀ m x, f m x = x * RR % m := ⟨fun m x => x * RR % m, fun _ _ => rfl⟩
noncomputable def toN : Nat → Nat → Nat := Classical.choose toN_is
theorem toN_def (m x : Nat) : toN m x = x * RR % m := Classical.choose_spec toN_is m x
theorem toN_lt (m x : Nat) (h : 0 < m) : toN m x < m := by rw [toN_def]; exact Nat.mod_lt _ h
theorem redN_to (m a : Nat) (hm : m % 2 = 1) : redN m (a * (RR * RR % m)) = toN m a := by
  symm
  refine redN_unique m _ _ hm (toN_lt m a (by omega)) ?_
  rw [toN_def, Nat.mod_mul_mod, Nat.mul_mod a (RR * RR % m), Nat.mod_mod, ← Nat.mul_mod, Nat.mul_assoc]
theorem redN_times (m a b : Nat) (hm : m % 2 = 1) : redN m (toN m a * b) = a * b % m := by
  symm
  refine redN_unique m _ _ hm (Nat.mod_lt _ (by omega)) ?_
  rw [toN_def, Nat.mod_mul_mod, Nat.mod_mul_mod, Nat.mul_right_comm]
theorem redN_tos (m a b : Nat) (hm : m % 2 = 1) : redN m (toN m a * toN m b) = toN m (a * b) := by
  symm
  refine redN_unique m _ _ hm (toN_lt _ _ (by omega)) ?_
  rw [toN_def, toN_def, toN_def, Nat.mod_mul_mod, Nat.mul_mod (a * RR % m), Nat.mod_mod, Nat.mod_mod, ← Nat.mul_mod, Nat.mul_mul_mul_comm, Nat.mul_assoc (a * b)]
theorem redN_back (m a : Nat) (hm : m % 2 = 1) (ha : a < m) : redN m (toN m a) = a := by
  symm
  refine redN_unique m _ _ hm ha ?_
  rw [toN_def, Nat.mod_mod]
theorem to_redN (m a : Nat) (hm : m % 2 = 1) (ha : a < m) : toN m (redN m a) = a := by
  rw [toN_def, redN_RR m a hm, Nat.mod_eq_of_lt ha]

end Go.Proofs.Ytieencpejpeenaa
