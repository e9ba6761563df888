/- Powers by a number, Fermat's little law, and when a number is a prime; in plain Lean, no program here. The two fields' numbers are primes. In plain Lean, no program here. -/

namespace Go.Proofs.Ytbmokmkaebfneaa
set_option linter.unusedVariables false
set_option linter.unusedSimpArgs false

/-- a ^ e mod m, bit by bit: k bounds the bits. -/
def pm (m : Nat) : Nat → Nat → Nat → Nat → Nat
  | 0, _, _, r => r
  | k + 1, a, e, r => pm m k (a * a % m) (e / 2) (if e % 2 = 1 then r * a % m else r)
theorem pm_eq (m : Nat) : ∀ k a e r, e < 2 ^ k → pm m k a e r % m = r * a ^ e % m
  | 0, a, e, r, h => by
    have : e = 0 := by simpa using h
    subst this; simp [pm]
  | k + 1, a, e, r, h => by
    have ih := pm_eq m k (a * a % m) (e / 2) (if e % 2 = 1 then r * a % m else r) (by rw [Nat.pow_succ] at h; omega)
    simp only [pm]
    rw [ih, Nat.mul_mod, Nat.pow_mod, Nat.mod_mod, ← Nat.pow_mod, ← Nat.mul_mod, ← Nat.pow_two, ← Nat.pow_mul]
    have he := Nat.div_add_mod e 2
    rcases Nat.mod_two_eq_zero_or_one e with h0 | h1
    · rw [if_neg (by omega), show 2 * (e / 2) = e by omega]
    · rw [if_pos h1, Nat.mod_mul_mod, Nat.mul_assoc, show a * a ^ (2 * (e / 2)) = a ^ e by rw [← Nat.pow_succ']; congr 1; omega]
theorem pow_of_pm (m a e r : Nat) (h : e < 2 ^ 256) (hp : pm m 256 a e 1 % m = r) : a ^ e % m = r := by
  have := pm_eq m 256 a e 1 h
  rw [Nat.one_mul] at this
  rw [← this]; exact hp

/-! ### Primes -/
/-- A prime. -/
def Prm (p : Nat) : Prop := 2 ≤ p ∧ ∀ d, d ∣ p → d = 1 ∨ d = p
theorem Prm.pos {p : Nat} (h : Prm p) : 0 < p := by have := h.1; omega
theorem Prm.coprime {p a : Nat} (h : Prm p) (ha : ¬ p ∣ a) : Nat.gcd p a = 1 := by
  rcases h.2 _ (Nat.gcd_dvd_left p a) with h1 | h1
  · exact h1
  · exact absurd (h1 ▸ Nat.gcd_dvd_right p a) ha
theorem Prm.dvd_mul {p a b : Nat} (h : Prm p) (hd : p ∣ a * b) : p ∣ a ∨ p ∣ b := by
  by_cases ha : p ∣ a
  · exact .inl ha
  · exact .inr (Nat.Coprime.dvd_of_dvd_mul_left (h.coprime ha) hd)
theorem Prm.dvd_pow {p a : Nat} (h : Prm p) : ∀ n, p ∣ a ^ n → p ∣ a
  | 0, hd => by
    have := Nat.le_of_dvd (by simp) hd
    have := h.1
    simp at *
    omega
  | n + 1, hd => by
    rcases h.dvd_mul hd with h1 | h1
    · exact h.dvd_pow n h1
    · exact h1
theorem has_prime : ∀ n, 2 ≤ n → ∃ p, Prm p ∧ p ∣ n := by
  intro n
  induction n using Nat.strongRecOn with
  | ind n ih =>
    intro hn
    by_cases hp : Prm n
    · exact ⟨n, hp, Nat.dvd_refl n⟩
    · have : ∃ d, d ∣ n ∧ d ≠ 1 ∧ d ≠ n := by
        refine Classical.byContradiction fun h => hp ⟨hn, fun d hd => ?_⟩
        refine Classical.byContradiction fun h2 => h ⟨d, hd, fun e => h2 (.inl e), fun e => h2 (.inr e)⟩
      obtain ⟨d, hd, h1, h2⟩ := this
      have h0 : d ≠ 0 := by rintro rfl; have := Nat.eq_zero_of_zero_dvd hd; omega
      have hl := Nat.le_of_dvd (by omega) hd
      obtain ⟨p, hp, hpd⟩ := ih d (by omega) (by omega)
      exact ⟨p, hp, Nat.dvd_trans hpd hd⟩

/-! ### Fermat's little law -/
/-- The binomials. -/
def ch : Nat → Nat → Nat
  | _, 0 => 1
  | 0, _ + 1 => 0
  | n + 1, k + 1 => ch n k + ch n (k + 1)
theorem ch_big : ∀ n k, n < k → ch n k = 0
  | 0, k + 1, _ => rfl
  | n + 1, k + 1, h => by simp only [ch]; rw [ch_big n k (by omega), ch_big n (k + 1) (by omega)]
  | _, 0, h => by omega
theorem ch_all : ∀ n, ch n n = 1
  | 0 => rfl
  | n + 1 => by simp only [ch]; rw [ch_all n, ch_big n (n + 1) (by omega)]
theorem ch_mul : ∀ n k, (k + 1) * ch (n + 1) (k + 1) = (n + 1) * ch n k
  | 0, 0 => rfl
  | 0, k + 1 => by simp [ch]
  | n + 1, 0 => by
    have := ch_mul n 0
    simp only [ch, Nat.zero_add, Nat.one_mul, Nat.mul_one] at *
    omega
  | n + 1, k + 1 => by
    have h1 := ch_mul n k
    have h2 := ch_mul n (k + 1)
    have e : ch (n + 1 + 1) (k + 1 + 1) = ch (n + 1) (k + 1) + ch (n + 1) (k + 1 + 1) := rfl
    have e2 : ch (n + 1) (k + 1) = ch n k + ch n (k + 1) := rfl
    rw [e, Nat.mul_add, h2, Nat.succ_mul, h1, e2, Nat.mul_add]
    have : (n + 1 + 1) * ch n k = (n + 1) * ch n k + ch n k := Nat.succ_mul _ _
    have : (n + 1 + 1) * ch n (k + 1) = (n + 1) * ch n (k + 1) + ch n (k + 1) := Nat.succ_mul _ _
    omega
theorem ch_prime {p k : Nat} (h : Prm p) (h0 : 0 < k) (hk : k < p) : p ∣ ch p k := by
  obtain ⟨q, rfl⟩ : ∃ q, p = q + 1 := ⟨p - 1, by omega⟩
  obtain ⟨j, rfl⟩ : ∃ j, k = j + 1 := ⟨k - 1, by omega⟩
  have := ch_mul q j
  rcases h.dvd_mul (a := j + 1) (b := ch (q + 1) (j + 1)) ⟨_, this⟩ with h1 | h1
  · have := Nat.le_of_dvd (by omega) h1; omega
  · exact h1
/-- The sum of the first m terms of (1 + a) ^ n. -/
def bsum (a n : Nat) : Nat → Nat
  | 0 => 0
  | m + 1 => bsum a n m + ch n m * a ^ m
theorem bsum_succ (a n : Nat) : ∀ m, bsum a (n + 1) (m + 1) = bsum a n (m + 1) + a * bsum a n m
  | 0 => by cases n <;> simp [bsum, ch]
  | m + 1 => by
    have ih := bsum_succ a n m
    have e : bsum a (n + 1) (m + 1 + 1) = bsum a (n + 1) (m + 1) + ch (n + 1) (m + 1) * a ^ (m + 1) := rfl
    have e2 : bsum a n (m + 1 + 1) = bsum a n (m + 1) + ch n (m + 1) * a ^ (m + 1) := rfl
    have e3 : bsum a n (m + 1) = bsum a n m + ch n m * a ^ m := rfl
    have e4 : ch (n + 1) (m + 1) = ch n m + ch n (m + 1) := rfl
    have e5 : a * (ch n m * a ^ m) = ch n m * a ^ (m + 1) := by rw [Nat.pow_succ, Nat.mul_left_comm, Nat.mul_comm a (a ^ m)]
    rw [e, ih, e2, e4, Nat.add_mul]
    have e6 : a * bsum a n (m + 1) = a * bsum a n m + ch n m * a ^ (m + 1) := by rw [e3, Nat.mul_add, e5]
    rw [e6]
    omega
theorem bsum_all (a : Nat) : ∀ n, bsum a n (n + 1) = (a + 1) ^ n
  | 0 => by simp [bsum, ch]
  | n + 1 => by
    have ih := bsum_all a n
    have e : bsum a n (n + 1 + 1) = bsum a n (n + 1) + ch n (n + 1) * a ^ (n + 1) := rfl
    rw [bsum_succ, e, ch_big n (n + 1) (by omega), Nat.zero_mul, Nat.add_zero, ih, Nat.pow_succ, Nat.mul_add, Nat.mul_one, Nat.mul_comm a]
    omega
theorem bsum_mod {p : Nat} (a : Nat) (h : Prm p) : ∀ m, m < p → bsum a p (m + 1) % p = 1 % p
  | 0, _ => by simp [bsum, ch]
  | m + 1, hm => by
    have ih := bsum_mod a h m (by omega)
    have e : bsum a p (m + 1 + 1) = bsum a p (m + 1) + ch p (m + 1) * a ^ (m + 1) := rfl
    obtain ⟨c, hc⟩ := ch_prime h (Nat.succ_pos m) hm
    rw [e, hc, Nat.mul_assoc, Nat.add_mul_mod_self_left]
    exact ih
theorem frob {p : Nat} (a : Nat) (h : Prm p) : (a + 1) ^ p % p = (a ^ p + 1) % p := by
  rw [← bsum_all]
  have e : bsum a p (p + 1) = bsum a p p + ch p p * a ^ p := rfl
  obtain ⟨q, rfl⟩ : ∃ q, p = q + 1 := ⟨p - 1, by have := h.1; omega⟩
  have h1 := bsum_mod a h q (by omega)
  rw [e, ch_all, Nat.one_mul, Nat.add_mod, h1, ← Nat.add_mod, Nat.add_comm]
theorem fermat_all {p : Nat} (h : Prm p) : ∀ a, a ^ p % p = a % p
  | 0 => by have := h.1; rw [Nat.zero_pow (by omega)]
  | a + 1 => by rw [frob a h, Nat.add_mod, fermat_all h a, ← Nat.add_mod]
theorem dvd_of_mod {p a b : Nat} (h : a % p = b % p) : p ∣ b - a := Nat.dvd_of_mod_eq_zero (Nat.sub_mod_eq_zero_of_mod_eq h.symm)
theorem mod_of_dvd {p a b : Nat} (hl : a ≤ b) (h : p ∣ b - a) : a % p = b % p := by
  obtain ⟨c, hc⟩ := h
  have : b = a + p * c := by omega
  rw [this, Nat.add_mul_mod_self_left]
theorem cancel_mod {p a b c : Nat} (hc : Nat.gcd p c = 1) (h : c * a % p = c * b % p) : a % p = b % p := by
  rcases Nat.le_total a b with hl | hl
  · have h1 : p ∣ c * (b - a) := by
      rw [Nat.mul_sub]; exact dvd_of_mod h
    have h2 := Nat.Coprime.dvd_of_dvd_mul_left hc h1
    exact mod_of_dvd hl h2
  · have h1 : p ∣ c * (a - b) := by
      rw [Nat.mul_sub]; exact dvd_of_mod h.symm
    have h2 := Nat.Coprime.dvd_of_dvd_mul_left hc h1
    exact (mod_of_dvd hl h2).symm
theorem fermat {p a : Nat} (h : Prm p) (ha : ¬ p ∣ a) : a ^ (p - 1) % p = 1 := by
  have h2 := h.1
  have h1 := fermat_all h a
  have e : a ^ p = a * a ^ (p - 1) := by rw [← Nat.pow_succ']; congr 1; omega
  have h3 : a * a ^ (p - 1) % p = a * 1 % p := by rw [← e, h1, Nat.mul_one]
  have := cancel_mod (h.coprime ha) h3
  rw [this, Nat.mod_eq_of_lt (by omega)]

/-! ### When a number is a prime -/
/-- An inverse, where there is one. -/
theorem inv_mod (a m : Nat) (hm : 0 < m) (h : Nat.gcd a m = 1) : ∃ u, u * a % m = 1 % m := by
  -- a permutes the remainders: by the pigeons; here by Euclid's steps
  have key : ∀ n a m, m ≤ n → 0 < m → Nat.gcd a m = 1 → ∃ u : Nat, u * a % m = 1 % m := by
    intro n
    induction n with
    | zero => intro a m h1 h2; exact absurd h2 (by have : m ≤ 0 := h1; omega)
    | succ n ih =>
      intro a m h1 h2 hg
      by_cases h3 : a % m = 0
      · have : Nat.gcd a m = m := by rw [Nat.gcd_rec, Nat.gcd_comm] at hg; rw [Nat.gcd_eq_right (Nat.dvd_of_mod_eq_zero h3)]
        rw [hg] at this
        exact ⟨0, by rw [← this]; simp [Nat.mod_one]⟩
      · have hr : a % m < m := Nat.mod_lt _ h2
        have hg2 : Nat.gcd m (a % m) = 1 := by rw [← hg, Nat.gcd_comm a m, Nat.gcd_rec m a, Nat.gcd_comm]
        obtain ⟨v, hv⟩ := ih m (a % m) (by omega) (by omega) hg2
        -- v m = 1 + c (a % m), so (m - c..) : take u with u (a % m) = v' m + 1
        have h5 := Nat.div_add_mod (v * m) (a % m)
        rw [hv] at h5
        generalize v * m / (a % m) = c at h5
        -- (a % m) * c + 1 % (a % m) = v * m
        by_cases h6 : a % m = 1
        · exact ⟨1, by rw [Nat.one_mul, h6, Nat.mod_eq_of_lt (by omega)]⟩
        · rw [Nat.mod_eq_of_lt (show 1 < a % m by omega)] at h5
          refine ⟨(m - 1) * c, ?_⟩
          have h7 : (m - 1) * c * a % m = (m - 1) * ((a % m) * c) % m := by
            rw [Nat.mul_assoc, Nat.mul_mod, Nat.mul_comm c a, ← Nat.mod_mul_mod a c, ← Nat.mul_mod]
          have h8 : (m - 1) * ((a % m) * c) + (m - 1) * 1 = (m - 1) * (v * m) := by rw [← Nat.mul_add, h5]
          rw [h7]
          have h9 : ((m - 1) * ((a % m) * c) + (m - 1)) % m = 0 := by rw [Nat.mul_one] at h8; rw [h8, ← Nat.mul_assoc, Nat.mul_mod_left]
          have h10 : ((m - 1) * ((a % m) * c) + m) % m = 1 % m := by
            have : (m - 1) * ((a % m) * c) + m = (m - 1) * ((a % m) * c) + (m - 1) + 1 := by omega
            rw [this, Nat.add_mod, h9, Nat.zero_add, Nat.mod_mod]
          rw [Nat.add_mod_right] at h10
          exact h10
  exact key m a m (Nat.le_refl m) hm h
theorem one_of_pow {p b q : Nat} (hp : Prm p) (hb : ¬ p ∣ b) (hq : Prm q) (hn : ¬ q ∣ p - 1) (h : b ^ q % p = 1) : b % p = 1 := by
  have h2 := hp.1
  by_cases h1 : p = 2
  · subst h1
    rcases Nat.mod_two_eq_zero_or_one b with h0 | h0
    · exact absurd (Nat.dvd_of_mod_eq_zero h0) hb
    · exact h0
  · obtain ⟨u, v, huv⟩ : ∃ u v, u * q = 1 + v * (p - 1) := by
      have hg : Nat.gcd q (p - 1) = 1 := hq.coprime hn
      have hi := inv_mod q (p - 1) (by omega) hg
      obtain ⟨u, hu⟩ := hi
      refine ⟨u, u * q / (p - 1), ?_⟩
      have := Nat.mod_add_div (u * q) (p - 1)
      rw [hu, Nat.mod_eq_of_lt (show 1 < p - 1 by omega)] at this
      rw [Nat.mul_comm (u * q / (p - 1))]
      exact this.symm
    have hf := fermat hp hb
    have e1 : b ^ (u * q) % p = 1 := by rw [Nat.mul_comm, Nat.pow_mul, Nat.pow_mod, h, Nat.one_pow, Nat.mod_eq_of_lt (by omega)]
    rw [huv, Nat.pow_add, Nat.pow_one, Nat.mul_comm v, Nat.pow_mul, Nat.mul_mod, Nat.pow_mod _ v, hf, Nat.one_pow, Nat.mod_eq_of_lt (show 1 < p by omega), Nat.mul_one, Nat.mod_mod] at e1
    exact e1
/-- A prime q that divides N - 1, with a witness, divides each prime divisor of N less 1. -/
theorem pock {N q p a : Nat} (hq : Prm q) (hqN : q ∣ N - 1) (hN : 2 ≤ N) (h1 : a ^ (N - 1) % N = 1) (h2 : Nat.gcd (a ^ ((N - 1) / q) % N + (N - 1)) N = 1) (hp : Prm p) (hpN : p ∣ N) : q ∣ p - 1 := by
  refine Classical.byContradiction fun hn => ?_
  have hp2 := hp.1
  have red : ∀ x, x % N % p = x % p := fun x => Nat.mod_mod_of_dvd x hpN
  have e1 : a ^ (N - 1) % p = 1 := by rw [← red, h1, Nat.mod_eq_of_lt (by omega)]
  have hpow : (a ^ ((N - 1) / q)) ^ q = a ^ (N - 1) := by rw [← Nat.pow_mul, Nat.div_mul_cancel hqN]
  have hb : ¬ p ∣ a ^ ((N - 1) / q) := fun hd => by
    have : p ∣ a ^ (N - 1) := by rw [← hpow]; exact Nat.dvd_trans hd (Nat.dvd_trans (Nat.dvd_refl _) (by have := hq.1; exact Nat.pow_dvd_pow (a ^ ((N - 1) / q)) (show 1 ≤ q by omega) |> fun h => by rwa [Nat.pow_one] at h))
    rw [Nat.mod_eq_zero_of_dvd this] at e1
    cases e1
  have hone := one_of_pow hp hb hq hn (by rw [hpow]; exact e1)
  have hd : p ∣ a ^ ((N - 1) / q) % N + (N - 1) := by
    refine Nat.dvd_of_mod_eq_zero ?_
    obtain ⟨c, hc⟩ := hpN
    have hN1 : (N - 1 + 1) % p = 0 := by rw [Nat.sub_add_cancel (by omega), hc, Nat.mul_mod_right]
    rw [Nat.add_mod, red, hone, ← Nat.add_mod_mod, Nat.add_comm 1] at *
    first | exact hN1 | (rw [Nat.add_mod] at hN1 ⊢; simpa using hN1)
  have := Nat.dvd_gcd hd hpN
  rw [h2] at this
  have := Nat.le_of_dvd (by omega) this
  omega
/-- Where F divides each prime divisor less 1, and F's square is above N: N is a prime. -/
theorem prime_of {N F : Nat} (hN : 2 ≤ N) (hF : N < F * F) (h : ∀ p, Prm p → p ∣ N → F ∣ p - 1) : Prm N := by
  refine ⟨hN, fun d hd => ?_⟩
  refine Classical.byContradiction fun hc => ?_
  obtain ⟨e, he⟩ := hd
  have hd1 : d ≠ 1 := fun h => hc (.inl h)
  have hdN : d ≠ N := fun h => hc (.inr h)
  have hd0 : d ≠ 0 := by rintro rfl; simp at he; omega
  have he0 : e ≠ 0 := by rintro rfl; simp at he; omega
  have he1 : e ≠ 1 := by rintro rfl; simp at he; exact hdN he.symm
  have big : ∀ x, x ∣ N → 2 ≤ x → F < x := fun x hx h2 => by
    obtain ⟨p, hp, hpx⟩ := has_prime x h2
    have h1 := h p hp (Nat.dvd_trans hpx hx)
    have hp2 := hp.1
    have := Nat.le_of_dvd (by omega) h1
    have := Nat.le_of_dvd (by omega) hpx
    omega
  have b1 := big d ⟨e, he⟩ (by omega)
  have b2 := big e ⟨d, by rw [he, Nat.mul_comm]⟩ (by omega)
  have := Nat.mul_le_mul (Nat.le_of_lt b1) (Nat.le_of_lt b2)
  omega
theorem prime_one {N q a : Nat} (hN : 2 ≤ N) (hF : N < q * q) (hq : Prm q) (hqN : q ∣ N - 1) (h1 : a ^ (N - 1) % N = 1) (h2 : Nat.gcd (a ^ ((N - 1) / q) % N + (N - 1)) N = 1) : Prm N :=
  prime_of hN hF fun _ hp hpN => pock hq hqN hN h1 h2 hp hpN
theorem both_dvd {q r m : Nat} (hq : Prm q) (hr : Prm r) (hne : q ≠ r) (h1 : q ∣ m) (h2 : r ∣ m) : q * r ∣ m := by
  have : Nat.gcd q r = 1 := hq.coprime fun hd => by
    rcases hr.2 q hd with h | h
    · have := hq.1; omega
    · exact hne h
  exact Nat.Coprime.mul_dvd_of_dvd_of_dvd this h1 h2
theorem prime_two {N q r a : Nat} (hN : 2 ≤ N) (hF : N < q * r * (q * r)) (hne : q ≠ r) (hq : Prm q) (hqN : q ∣ N - 1) (hr : Prm r) (hrN : r ∣ N - 1) (h1 : a ^ (N - 1) % N = 1) (h2 : Nat.gcd (a ^ ((N - 1) / q) % N + (N - 1)) N = 1) (h3 : Nat.gcd (a ^ ((N - 1) / r) % N + (N - 1)) N = 1) : Prm N :=
  prime_of hN hF fun _ hp hpN => both_dvd hq hr hne (pock hq hqN hN h1 h2 hp hpN) (pock hr hrN hN h1 h3 hp hpN)
/-- Divisors, one by one: is there none among d, d + 1, .. (k of them)? -/
def noDiv (n : Nat) : Nat → Nat → Bool
  | 0, _ => true
  | k + 1, d => n % d != 0 && noDiv n k (d + 1)
theorem noDiv_spec (n : Nat) : ∀ k d, noDiv n k d = true → ∀ e, d ≤ e → e < d + k → n % e ≠ 0
  | 0, d, _, e, h1, h2 => by omega
  | k + 1, d, h, e, h1, h2 => by
    simp only [noDiv, Bool.and_eq_true, bne_iff_ne] at h
    rcases Nat.eq_or_lt_of_le h1 with rfl | h3
    · exact h.1
    · exact noDiv_spec n k (d + 1) h.2 e (by omega) (by omega)
theorem prime_small {n k : Nat} (hn : 2 ≤ n) (hk : n < (k + 2) * (k + 2)) (h : noDiv n k 2 = true) : Prm n := by
  refine ⟨hn, fun d hd => ?_⟩
  refine Classical.byContradiction fun hc => ?_
  obtain ⟨e, he⟩ := hd
  have hd1 : d ≠ 1 := fun h => hc (.inl h)
  have hdN : d ≠ n := fun h => hc (.inr h)
  have hd0 : d ≠ 0 := by rintro rfl; simp at he; omega
  have he0 : e ≠ 0 := by rintro rfl; simp at he; omega
  have he1 : e ≠ 1 := by rintro rfl; simp at he; exact hdN he.symm
  have big : ∀ x, x ∣ n → 2 ≤ x → k + 2 ≤ x := fun x hx h2 => by
    refine Classical.byContradiction fun hlt => ?_
    exact noDiv_spec n k 2 h x h2 (by omega) (Nat.mod_eq_zero_of_dvd hx)
  have b1 := big d ⟨e, he⟩ (by omega)
  have b2 := big e ⟨d, by rw [he, Nat.mul_comm]⟩ (by omega)
  have := Nat.mul_le_mul b1 b2
  omega
end Go.Proofs.Ytbmokmkaebfneaa
namespace Go.Proofs.Ytbmokmkaebfneaa
set_option linter.unusedVariables false
set_option linter.unusedSimpArgs false
theorem prime_three {N q r s a : Nat} (hN : 2 ≤ N) (hF : N < q * r * s * (q * r * s)) (h12 : q ≠ r) (h13 : q ≠ s) (h23 : r ≠ s) (hq : Prm q) (hqN : q ∣ N - 1) (hr : Prm r) (hrN : r ∣ N - 1) (hs : Prm s) (hsN : s ∣ N - 1) (h1 : a ^ (N - 1) % N = 1)
    (h2 : Nat.gcd (a ^ ((N - 1) / q) % N + (N - 1)) N = 1) (h3 : Nat.gcd (a ^ ((N - 1) / r) % N + (N - 1)) N = 1) (h4 : Nat.gcd (a ^ ((N - 1) / s) % N + (N - 1)) N = 1) : Prm N :=
  prime_of hN hF fun _ hp hpN => by
    have a1 := pock hq hqN hN h1 h2 hp hpN
    have a2 := pock hr hrN hN h1 h3 hp hpN
    have a3 := pock hs hsN hN h1 h4 hp hpN
    have c : Nat.gcd s (q * r) = 1 := hs.coprime fun hd => by
      have hs2 := hs.1
      rcases hs.dvd_mul hd with h | h
      · rcases hq.2 s h with h | h
        · omega
        · exact h13 h.symm
      · rcases hr.2 s h with h | h
        · omega
        · exact h23 h.symm
    rw [Nat.mul_comm (q * r)]
    exact Nat.Coprime.mul_dvd_of_dvd_of_dvd c a3 (both_dvd hq hr h12 a1 a2)
theorem prm_1627771 : Prm 1627771 := prime_small (k := 1274) (by omega) (by decide) (by decide +kernel)
theorem prm_28181 : Prm 28181 := prime_small (k := 166) (by omega) (by decide) (by decide +kernel)
theorem prm_9349 : Prm 9349 := prime_small (k := 95) (by omega) (by decide) (by decide +kernel)
theorem prm_120233 : Prm 120233 := prime_small (k := 345) (by omega) (by decide) (by decide +kernel)
theorem prm_96557 : Prm 96557 := prime_small (k := 309) (by omega) (by decide) (by decide +kernel)
theorem prm_7240687 : Prm 7240687 := prime_small (k := 2689) (by omega) (by decide) (by decide +kernel)
theorem prm_297159362677 : Prm 297159362677 := prime_one (a := 2) (by decide) (by decide) prm_1627771 (Nat.dvd_of_mod_eq_zero (by decide +kernel)) (by rw [show 297159362677 - 1 = 297159362676 from by decide +kernel]; exact pow_of_pm 297159362677 2 297159362676 1 (by decide) (by decide +kernel)) (by rw [show (297159362677 - 1) / 1627771 = 182556 from by decide +kernel, pow_of_pm 297159362677 2 182556 114170894341 (by decide) (by decide +kernel)]; decide +kernel)
theorem prm_545358713 : Prm 545358713 := prime_one (a := 2) (by decide) (by decide) prm_28181 (Nat.dvd_of_mod_eq_zero (by decide +kernel)) (by rw [show 545358713 - 1 = 545358712 from by decide +kernel]; exact pow_of_pm 545358713 2 545358712 1 (by decide) (by decide +kernel)) (by rw [show (545358713 - 1) / 28181 = 19352 from by decide +kernel, pow_of_pm 545358713 2 19352 420071726 (by decide) (by decide +kernel)]; decide +kernel)
theorem prm_44706919 : Prm 44706919 := prime_one (a := 2) (by decide) (by decide) prm_9349 (Nat.dvd_of_mod_eq_zero (by decide +kernel)) (by rw [show 44706919 - 1 = 44706918 from by decide +kernel]; exact pow_of_pm 44706919 2 44706918 1 (by decide) (by decide +kernel)) (by rw [show (44706919 - 1) / 9349 = 4782 from by decide +kernel, pow_of_pm 44706919 2 4782 24793509 (by decide) (by decide +kernel)]; decide +kernel)
theorem prm_174723607534414371449 : Prm 174723607534414371449 := prime_two (a := 2) (by decide) (by decide) (by decide) prm_44706919 (Nat.dvd_of_mod_eq_zero (by decide +kernel)) prm_120233 (Nat.dvd_of_mod_eq_zero (by decide +kernel)) (by rw [show 174723607534414371449 - 1 = 174723607534414371448 from by decide +kernel]; exact pow_of_pm 174723607534414371449 2 174723607534414371448 1 (by decide) (by decide +kernel)) (by rw [show (174723607534414371449 - 1) / 44706919 = 3908200597192 from by decide +kernel, pow_of_pm 174723607534414371449 2 3908200597192 69188669156729060297 (by decide) (by decide +kernel)]; decide +kernel) (by rw [show (174723607534414371449 - 1) / 120233 = 1453208416444856 from by decide +kernel, pow_of_pm 174723607534414371449 2 1453208416444856 97784642313376440036 (by decide) (by decide +kernel)]; decide +kernel)
theorem prm_29047611873442575647497758179 : Prm 29047611873442575647497758179 := prime_two (a := 2) (by decide) (by decide) (by decide) prm_297159362677 (Nat.dvd_of_mod_eq_zero (by decide +kernel)) prm_545358713 (Nat.dvd_of_mod_eq_zero (by decide +kernel)) (by rw [show 29047611873442575647497758179 - 1 = 29047611873442575647497758178 from by decide +kernel]; exact pow_of_pm 29047611873442575647497758179 2 29047611873442575647497758178 1 (by decide) (by decide +kernel)) (by rw [show (29047611873442575647497758179 - 1) / 297159362677 = 97750956294169114 from by decide +kernel, pow_of_pm 29047611873442575647497758179 2 97750956294169114 16062460713643416818883781819 (by decide) (by decide +kernel)]; decide +kernel) (by rw [show (29047611873442575647497758179 - 1) / 545358713 = 53263313083699784306 from by decide +kernel, pow_of_pm 29047611873442575647497758179 2 53263313083699784306 1548700731856248688196814844 (by decide) (by decide +kernel)]; decide +kernel)
theorem prm_341948486974166000522343609283189 : Prm 341948486974166000522343609283189 := prime_one (a := 2) (by decide) (by decide) prm_29047611873442575647497758179 (Nat.dvd_of_mod_eq_zero (by decide +kernel)) (by rw [show 341948486974166000522343609283189 - 1 = 341948486974166000522343609283188 from by decide +kernel]; exact pow_of_pm 341948486974166000522343609283189 2 341948486974166000522343609283188 1 (by decide) (by decide +kernel)) (by rw [show (341948486974166000522343609283189 - 1) / 29047611873442575647497758179 = 11772 from by decide +kernel, pow_of_pm 341948486974166000522343609283189 2 11772 291782875431971620014836968593543 (by decide) (by decide +kernel)]; decide +kernel)
theorem prm_115792089237316195423570985008687907852837564279074904382605163141518161494337 : Prm 115792089237316195423570985008687907852837564279074904382605163141518161494337 := prime_two (a := 2) (by decide) (by decide) (by decide) prm_341948486974166000522343609283189 (Nat.dvd_of_mod_eq_zero (by decide +kernel)) prm_174723607534414371449 (Nat.dvd_of_mod_eq_zero (by decide +kernel)) (by rw [show 115792089237316195423570985008687907852837564279074904382605163141518161494337 - 1 = 115792089237316195423570985008687907852837564279074904382605163141518161494336 from by decide +kernel]; exact pow_of_pm 115792089237316195423570985008687907852837564279074904382605163141518161494337 2 115792089237316195423570985008687907852837564279074904382605163141518161494336 1 (by decide) (by decide +kernel)) (by rw [show (115792089237316195423570985008687907852837564279074904382605163141518161494337 - 1) / 341948486974166000522343609283189 = 338624364920977752681389262317185522840540224 from by decide +kernel, pow_of_pm 115792089237316195423570985008687907852837564279074904382605163141518161494337 2 338624364920977752681389262317185522840540224 86644313145397489891193855759928671818841495415153161568930588450251036589538 (by decide) (by decide +kernel)]; decide +kernel) (by rw [show (115792089237316195423570985008687907852837564279074904382605163141518161494337 - 1) / 174723607534414371449 = 662715765037699607481235088557493206623080876315205958464 from by decide +kernel, pow_of_pm 115792089237316195423570985008687907852837564279074904382605163141518161494337 2 662715765037699607481235088557493206623080876315205958464 58138579787377535003503259606714116115479494849592057519620557805018937774448 (by decide) (by decide +kernel)]; decide +kernel)
theorem prm_107590001 : Prm 107590001 := prime_small (k := 10371) (by omega) (by decide) (by decide +kernel)
theorem prm_255515944373312847190720520512484175977 : Prm 255515944373312847190720520512484175977 := prime_three (a := 2) (by decide) (by decide) (by decide) (by decide) (by decide) prm_107590001 (Nat.dvd_of_mod_eq_zero (by decide +kernel)) prm_7240687 (Nat.dvd_of_mod_eq_zero (by decide +kernel)) prm_96557 (Nat.dvd_of_mod_eq_zero (by decide +kernel)) (by rw [show 255515944373312847190720520512484175977 - 1 = 255515944373312847190720520512484175976 from by decide +kernel]; exact pow_of_pm 255515944373312847190720520512484175977 2 255515944373312847190720520512484175976 1 (by decide) (by decide +kernel)) (by rw [show (255515944373312847190720520512484175977 - 1) / 107590001 = 2374904191824599455024826335976 from by decide +kernel, pow_of_pm 255515944373312847190720520512484175977 2 2374904191824599455024826335976 82381214149343919061612748413412685903 (by decide) (by decide +kernel)]; decide +kernel) (by rw [show (255515944373312847190720520512484175977 - 1) / 7240687 = 35288908963101546467996824129048 from by decide +kernel, pow_of_pm 255515944373312847190720520512484175977 2 35288908963101546467996824129048 111233916942653821000329437866037388564 (by decide) (by decide +kernel)]; decide +kernel) (by rw [show (255515944373312847190720520512484175977 - 1) / 96557 = 2646270538369179315748423423599368 from by decide +kernel, pow_of_pm 255515944373312847190720520512484175977 2 2646270538369179315748423423599368 47418180093458530687350227428022525796 (by decide) (by decide +kernel)]; decide +kernel)
theorem prm_205115282021455665897114700593932402728804164701536103180137503955397371 : Prm 205115282021455665897114700593932402728804164701536103180137503955397371 := prime_one (a := 2) (by decide) (by decide) prm_255515944373312847190720520512484175977 (Nat.dvd_of_mod_eq_zero (by decide +kernel)) (by rw [show 205115282021455665897114700593932402728804164701536103180137503955397371 - 1 = 205115282021455665897114700593932402728804164701536103180137503955397370 from by decide +kernel]; exact pow_of_pm 205115282021455665897114700593932402728804164701536103180137503955397371 2 205115282021455665897114700593932402728804164701536103180137503955397370 1 (by decide) (by decide +kernel)) (by rw [show (205115282021455665897114700593932402728804164701536103180137503955397371 - 1) / 255515944373312847190720520512484175977 = 802749442992798076634733441528810 from by decide +kernel, pow_of_pm 205115282021455665897114700593932402728804164701536103180137503955397371 2 802749442992798076634733441528810 53072002638256206696760401718638995221936714922431175139555783581918754 (by decide) (by decide +kernel)]; decide +kernel)
theorem prm_115792089237316195423570985008687907853269984665640564039457584007908834671663 : Prm 115792089237316195423570985008687907853269984665640564039457584007908834671663 := prime_one (a := 2) (by decide) (by decide) prm_205115282021455665897114700593932402728804164701536103180137503955397371 (Nat.dvd_of_mod_eq_zero (by decide +kernel)) (by rw [show 115792089237316195423570985008687907853269984665640564039457584007908834671663 - 1 = 115792089237316195423570985008687907853269984665640564039457584007908834671662 from by decide +kernel]; exact pow_of_pm 115792089237316195423570985008687907853269984665640564039457584007908834671663 2 115792089237316195423570985008687907853269984665640564039457584007908834671662 1 (by decide) (by decide +kernel)) (by rw [show (115792089237316195423570985008687907853269984665640564039457584007908834671663 - 1) / 205115282021455665897114700593932402728804164701536103180137503955397371 = 564522 from by decide +kernel, pow_of_pm 115792089237316195423570985008687907853269984665640564039457584007908834671663 2 564522 30133174243114333125352536507925183895021889065932097717961225114769139489296 (by decide) (by decide +kernel)]; decide +kernel)
end Go.Proofs.Ytbmokmkaebfneaa
