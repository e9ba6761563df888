/- Numbers of words of 64 bits, in plain Lean: words, carries, borrows. No program here. -/
namespace Go.Proofs.Ytlibfjemdiochaa
set_option linter.unusedVariables false
set_option linter.unusedSimpArgs false

/-- Word i of a number, as a natural number. -/
def lbN : Nat → Nat → Nat
  | n, 0 => n % 18446744073709551616
  | n, i + 1 => lbN (n / 18446744073709551616) i
/-- Word i of a number: a name that nothing unfolds. -/
theorem lb_is : ∃ f : Nat → Nat → Int, ∀ n i, f n i = (lbN n i : Nat) := ⟨fun n i => (lbN n i : Nat), fun _ _ => rfl⟩
noncomputable def lb : Nat → Nat → Int := Classical.choose lb_is
theorem lb_def (n i : Nat) : lb n i = (lbN n i : Nat) := Classical.choose_spec lb_is n i
theorem lbN_lt (n i : Nat) : lbN n i < 18446744073709551616 := by
  induction i generalizing n with
  | zero => unfold lbN; omega
  | succ i ih => unfold lbN; exact ih _
theorem lb_lo (n i : Nat) : 0 ≤ lb n i := by rw [lb_def]; omega
theorem lb_hi (n i : Nat) : lb n i < 18446744073709551616 := by rw [lb_def]; have := lbN_lt n i; omega
theorem lbN_zero (i : Nat) : lbN 0 i = 0 := by
  induction i with
  | zero => rfl
  | succ i ih => unfold lbN; exact ih
theorem lb_zero (i : Nat) : lb 0 i = 0 := by rw [lb_def, lbN_zero]; rfl

/-- 2^256, behind a name. -/
def RR : Nat := 115792089237316195423570985008687907853269984665640564039457584007913129639936
theorem lb0 (n : Nat) : lbN n 0 = n % 18446744073709551616 := rfl
theorem lb1 (n : Nat) : lbN n 1 = n / 18446744073709551616 % 18446744073709551616 := rfl
theorem lb2 (n : Nat) : lbN n 2 = n / 18446744073709551616 / 18446744073709551616 % 18446744073709551616 := rfl
theorem lb3 (n : Nat) : lbN n 3 = n / 18446744073709551616 / 18446744073709551616 / 18446744073709551616 % 18446744073709551616 := rfl

/-- Four words make a number. -/
theorem of_words (a b c d : Int) (ha : 0 ≤ a ∧ a < 18446744073709551616) (hb : 0 ≤ b ∧ b < 18446744073709551616) (hc : 0 ≤ c ∧ c < 18446744073709551616) (hd : 0 ≤ d ∧ d < 18446744073709551616) :
    ∃ n, n < RR ∧ a = lb n 0 ∧ b = lb n 1 ∧ c = lb n 2 ∧ d = lb n 3 := by
  refine ⟨a.toNat + 18446744073709551616 * (b.toNat + 18446744073709551616 * (c.toNat + 18446744073709551616 * d.toNat)), ?_, ?_, ?_, ?_, ?_⟩
  · unfold RR; omega
  all_goals simp only [lb_def, lbN]; omega
/-- Numbers below 2^256 of the same words are the same. -/
theorem words_ext {m n : Nat} (hm : m < RR) (hn : n < RR) (h0 : lb m 0 = lb n 0) (h1 : lb m 1 = lb n 1) (h2 : lb m 2 = lb n 2) (h3 : lb m 3 = lb n 3) : m = n := by
  unfold RR at hm hn
  simp only [lb_def, lbN] at h0 h1 h2 h3
  omega
theorem lbN_add_mul (a k b : Nat) : ∀ i, i < k → lbN (a + 18446744073709551616 ^ k * b) i = lbN a i := by
  induction k generalizing a with
  | zero => intro i hi; omega
  | succ k ih =>
    intro i hi
    have e : 18446744073709551616 ^ (k + 1) * b = 18446744073709551616 * (18446744073709551616 ^ k * b) := by rw [Nat.pow_succ, Nat.mul_comm (18446744073709551616 ^ k), Nat.mul_assoc]
    rw [e]
    cases i with
    | zero => simp only [lbN]; omega
    | succ i =>
      simp only [lbN]
      have : (a + 18446744073709551616 * (18446744073709551616 ^ k * b)) / 18446744073709551616 = a / 18446744073709551616 + 18446744073709551616 ^ k * b := by omega
      rw [this]
      exact ih _ i (by omega)
theorem lbN_mod {k : Nat} (a : Nat) {i : Nat} (hi : i < k) : lbN (a % 18446744073709551616 ^ k) i = lbN a i := by
  have h := lbN_add_mul (a % 18446744073709551616 ^ k) k (a / 18446744073709551616 ^ k) i hi
  rw [Nat.mod_add_div] at h
  exact h.symm
theorem lb_mod_RR (a : Nat) {i : Nat} (hi : i < 4) : lb (a % RR) i = lb a i := by
  simp only [lb_def]
  have e : RR = 18446744073709551616 ^ 4 := by unfold RR; rfl
  rw [e, lbN_mod a hi]

/-! ### Sums -/
/-- The carry into word i of a + b + c. -/
def cac : Nat → Nat → Nat → Nat → Nat
  | _, _, c, 0 => c
  | a, b, c, i + 1 => cac (a / 18446744073709551616) (b / 18446744073709551616) ((a % 18446744073709551616 + b % 18446744073709551616 + c) / 18446744073709551616) i
theorem cac_le : ∀ (i a b c : Nat), c ≤ 1 → cac a b c i ≤ 1
  | 0, _, _, _, h => h
  | i + 1, a, b, c, h => by unfold cac; exact cac_le i _ _ _ (by omega)
theorem cac_succ : ∀ (i a b c : Nat), cac a b c (i + 1) = (lbN a i + lbN b i + cac a b c i) / 18446744073709551616
  | 0, a, b, c => by simp only [cac, lbN]
  | i + 1, a, b, c => by
    have h := cac_succ i (a / 18446744073709551616) (b / 18446744073709551616) ((a % 18446744073709551616 + b % 18446744073709551616 + c) / 18446744073709551616)
    simp only [cac, lbN] at h ⊢
    exact h
theorem lbN_add : ∀ (i a b c : Nat), lbN (a + b + c) i = (lbN a i + lbN b i + cac a b c i) % 18446744073709551616
  | 0, a, b, c => by simp only [cac, lbN]; omega
  | i + 1, a, b, c => by
    have h := lbN_add i (a / 18446744073709551616) (b / 18446744073709551616) ((a % 18446744073709551616 + b % 18446744073709551616 + c) / 18446744073709551616)
    simp only [cac, lbN]
    rw [← h]
    congr 1
    omega
theorem cac_eq : ∀ (i a b c : Nat), cac a b c i = (a % 18446744073709551616 ^ i + b % 18446744073709551616 ^ i + c) / 18446744073709551616 ^ i
  | 0, a, b, c => by simp [cac, Nat.mod_one]
  | i + 1, a, b, c => by
    have h := cac_eq i (a / 18446744073709551616) (b / 18446744073709551616) ((a % 18446744073709551616 + b % 18446744073709551616 + c) / 18446744073709551616)
    simp only [cac]
    rw [h, Nat.pow_succ, Nat.mul_comm (18446744073709551616 ^ i), Nat.mod_mul, Nat.mod_mul, ← Nat.div_div_eq_div_mul]
    congr 1
    omega
theorem cac_four (a b : Nat) (ha : a < RR) (hb : b < RR) : cac a b 0 4 = (a + b) / RR := by
  rw [cac_eq]
  have e : 18446744073709551616 ^ 4 = RR := by unfold RR; rfl
  rw [e, Nat.mod_eq_of_lt ha, Nat.mod_eq_of_lt hb, Nat.add_zero]
/-- The carry into word i of a + b. -/
theorem ca_is : ∃ f : Nat → Nat → Nat → Int, ∀ a b i, f a b i = (cac a b 0 i : Nat) := ⟨fun a b i => (cac a b 0 i : Nat), fun _ _ _ => rfl⟩
noncomputable def ca : Nat → Nat → Nat → Int := Classical.choose ca_is
theorem ca_def (a b i : Nat) : ca a b i = (cac a b 0 i : Nat) := Classical.choose_spec ca_is a b i
theorem ca_lo (a b i : Nat) : 0 ≤ ca a b i := by rw [ca_def]; omega
theorem ca_hi (a b i : Nat) : ca a b i ≤ 1 := by rw [ca_def]; have := cac_le i a b 0 (by omega); omega
theorem ca_zero (a b : Nat) : ca a b 0 = 0 := by rw [ca_def]; rfl
theorem ca_step (a b i : Nat) : (lb a i + lb b i + ca a b i) / 18446744073709551616 = ca a b (i + 1) := by
  simp only [lb_def, ca_def]; rw [cac_succ]; omega
theorem lb_add_step (a b i : Nat) : (lb a i + lb b i + ca a b i) % 18446744073709551616 = lb (a + b) i := by
  simp only [lb_def, ca_def]
  have := lbN_add i a b 0
  rw [Nat.add_zero] at this
  rw [this]; omega
/-- The sum mod 2^256. -/
theorem addN_is : ∃ f : Nat → Nat → Nat, ∀ a b, f a b = (a + b) % RR := ⟨fun a b => (a + b) % RR, fun _ _ => rfl⟩
noncomputable def addN : Nat → Nat → Nat := Classical.choose addN_is
theorem addN_def (a b : Nat) : addN a b = (a + b) % RR := Classical.choose_spec addN_is a b
theorem lb_addN (a b : Nat) {i : Nat} (hi : i < 4) : lb (addN a b) i = lb (a + b) i := by rw [addN_def]; exact lb_mod_RR _ hi
theorem addN_lt (a b : Nat) : addN a b < RR := by rw [addN_def]; exact Nat.mod_lt _ (by unfold RR; omega)
theorem ca_four (a b : Nat) (ha : a < RR) (hb : b < RR) : ca a b 4 = ((a + b) / RR : Nat) := by rw [ca_def, cac_four a b ha hb]

/-! ### Differences -/
/-- The borrow out of word i - 1 of a - b - c. -/
def boc : Nat → Nat → Nat → Nat → Nat
  | _, _, c, 0 => c
  | a, b, c, i + 1 => boc (a / 18446744073709551616) (b / 18446744073709551616) (if a % 18446744073709551616 < b % 18446744073709551616 + c then 1 else 0) i
theorem boc_le : ∀ (i a b c : Nat), c ≤ 1 → boc a b c i ≤ 1
  | 0, _, _, _, h => h
  | i + 1, a, b, c, h => by unfold boc; exact boc_le i _ _ _ (by split <;> omega)
theorem boc_succ : ∀ (i a b c : Nat), boc a b c (i + 1) = if lbN a i < lbN b i + boc a b c i then 1 else 0
  | 0, a, b, c => by simp only [boc, lbN]; rfl
  | i + 1, a, b, c => by
    have h := boc_succ i (a / 18446744073709551616) (b / 18446744073709551616) (if a % 18446744073709551616 < b % 18446744073709551616 + c then 1 else 0)
    simp only [boc, lbN] at h ⊢
    exact h
theorem lbN_sub : ∀ (i a b c k : Nat), i < k → c ≤ 1 → b < 18446744073709551616 ^ k → lbN (a + 18446744073709551616 ^ k - b - c) i = (lbN a i + 18446744073709551616 - lbN b i - boc a b c i) % 18446744073709551616
  | _, _, _, _, 0, h, _, _ => by omega
  | 0, a, b, c, k + 1, _, hc, hb => by
    simp only [boc, lbN]
    rw [Nat.pow_succ] at *
    generalize 18446744073709551616 ^ k = X at *
    omega
  | i + 1, a, b, c, k + 1, hk, hc, hb => by
    have hX : 0 < 18446744073709551616 ^ k := Nat.pow_pos (by omega)
    rw [Nat.pow_succ] at *
    have h := lbN_sub i (a / 18446744073709551616) (b / 18446744073709551616) (if a % 18446744073709551616 < b % 18446744073709551616 + c then 1 else 0) k (by omega) (by split <;> omega) (by generalize 18446744073709551616 ^ k = X at *; omega)
    simp only [boc, lbN]
    rw [← h]
    congr 1
    generalize 18446744073709551616 ^ k = X at *
    split <;> omega
theorem boc_four (a b : Nat) (ha : a < RR) (hb : b < RR) : boc a b 0 4 = if a < b then 1 else 0 := by
  unfold RR at *
  simp only [boc]
  repeat' split
  all_goals omega
/-- The borrow out of the words below i of a - b. -/
theorem bo_is : ∃ f : Nat → Nat → Nat → Int, ∀ a b i, f a b i = (boc a b 0 i : Nat) := ⟨fun a b i => (boc a b 0 i : Nat), fun _ _ _ => rfl⟩
noncomputable def bo : Nat → Nat → Nat → Int := Classical.choose bo_is
theorem bo_def (a b i : Nat) : bo a b i = (boc a b 0 i : Nat) := Classical.choose_spec bo_is a b i
theorem bo_lo (a b i : Nat) : 0 ≤ bo a b i := by rw [bo_def]; omega
theorem bo_hi (a b i : Nat) : bo a b i ≤ 1 := by rw [bo_def]; have := boc_le i a b 0 (by omega); omega
theorem bo_zero (a b : Nat) : bo a b 0 = 0 := by rw [bo_def]; rfl
/-- The difference mod 2^256. -/
theorem subN_is : ∃ f : Nat → Nat → Nat, ∀ a b, f a b = (a + RR - b) % RR := ⟨fun a b => (a + RR - b) % RR, fun _ _ => rfl⟩
noncomputable def subN : Nat → Nat → Nat := Classical.choose subN_is
theorem subN_def (a b : Nat) : subN a b = (a + RR - b) % RR := Classical.choose_spec subN_is a b
theorem subN_lt (a b : Nat) : subN a b < RR := by rw [subN_def]; exact Nat.mod_lt _ (by unfold RR; omega)
theorem bo_four (a b : Nat) (ha : a < RR) (hb : b < RR) : bo a b 4 = if a < b then 1 else 0 := by
  rw [bo_def, boc_four a b ha hb]; split <;> rfl
theorem lb_subN (a b : Nat) {i : Nat} (hi : i < 4) (hb : b < RR) : lb (subN a b) i = ((lbN a i + 18446744073709551616 - lbN b i - boc a b 0 i) % 18446744073709551616 : Nat) := by
  rw [subN_def]
  rw [lb_mod_RR _ hi]
  simp only [lb_def]
  have e : RR = 18446744073709551616 ^ 4 := by unfold RR; rfl
  rw [e] at hb ⊢
  have h := lbN_sub i a b 0 4 hi (by omega) hb
  rw [Nat.sub_zero] at h
  rw [h]
/-- -1, 0, 1. -/
theorem cmpN_is : ∃ f : Nat → Nat → Int, ∀ a b, f a b = if a < b then -1 else if b < a then 1 else 0 := ⟨fun a b => if a < b then -1 else if b < a then 1 else 0, fun _ _ => rfl⟩
noncomputable def cmpN : Nat → Nat → Int := Classical.choose cmpN_is
theorem cmpN_def (a b : Nat) : cmpN a b = if a < b then -1 else if b < a then 1 else 0 := Classical.choose_spec cmpN_is a b
theorem cmpN_bo (a b : Nat) (ha : a < RR) (hb : b < RR) : bo b a 4 - bo a b 4 = cmpN a b := by
  rw [bo_four a b ha hb, bo_four b a hb ha, cmpN_def]
  split <;> split <;> omega
end Go.Proofs.Ytlibfjemdiochaa
