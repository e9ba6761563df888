/- Bytes of numbers, in plain Lean. No program here. -/
import Derived.Test.YtcoljlanblngiaaN
import Derived.Laws.BytesArg
import Derived.Laws.BitsLemmas
import Derived.Laws.Bits64b
namespace Go.Proofs.Ytcoljlanblngiaa
set_option linter.unusedVariables false
set_option linter.unusedSimpArgs false

def byD (n j : Nat) : Nat := n / 256 ^ j % 256
theorem byt_is : ∃ f : Nat → Nat → Int, ∀ n k, f n k = (byD n k : Nat) := ⟨fun n k => (byD n k : Nat), fun _ _ => rfl⟩
noncomputable def byt : Nat → Nat → Int := Classical.choose byt_is
theorem byt_def (n k : Nat) : byt n k = (byD n k : Nat) := Classical.choose_spec byt_is n k
theorem byt_lo (n k : Nat) : 0 ≤ byt n k := by rw [byt_def]; omega
theorem byt_hi (n k : Nat) : byt n k < 256 := by rw [byt_def]; unfold byD; omega
theorem lbN_256 (n : Nat) : ∀ i, lbN n i = n / 256 ^ (8 * i) % 18446744073709551616 := by
  intro i
  induction i generalizing n with
  | zero => simp [lbN]
  | succ i ih =>
    simp only [lbN]
    rw [ih, Nat.div_div_eq_div_mul]
    have e : 18446744073709551616 * 256 ^ (8 * i) = 256 ^ (8 * (i + 1)) := by
      rw [show 8 * (i + 1) = 8 + 8 * i by omega, Nat.pow_add]
    rw [e]
/-- Byte t of word i. -/
theorem byte_word (n i t : Nat) (ht : t < 8) : lbN n i / 256 ^ t % 256 = byD n (8 * i + t) := by
  rw [lbN_256]
  unfold byD
  rw [Nat.pow_add, ← Nat.div_div_eq_div_mul]
  generalize n / 256 ^ (8 * i) = y
  obtain rfl | rfl | rfl | rfl | rfl | rfl | rfl | rfl : t = 0 ∨ t = 1 ∨ t = 2 ∨ t = 3 ∨ t = 4 ∨ t = 5 ∨ t = 6 ∨ t = 7 := by omega
  all_goals simp only [Nat.reducePow, Nat.pow_zero, Nat.pow_one]; omega
/-- A word whose upper k bytes have gone. -/
theorem xb_is : ∃ f : Nat → Nat → Nat → Int, ∀ n i k, f n i k = (lbN n i * 256 ^ k % 18446744073709551616 : Nat) := ⟨fun n i k => (lbN n i * 256 ^ k % 18446744073709551616 : Nat), fun _ _ _ => rfl⟩
noncomputable def xb : Nat → Nat → Nat → Int := Classical.choose xb_is
theorem xb_def (n i k : Nat) : xb n i k = (lbN n i * 256 ^ k % 18446744073709551616 : Nat) := Classical.choose_spec xb_is n i k
theorem xb_lo (n i k : Nat) : 0 ≤ xb n i k := by rw [xb_def]; exact Int.natCast_nonneg _
theorem xb_hi (n i k : Nat) : xb n i k < 18446744073709551616 := by rw [xb_def]; omega
theorem xb_zero (n i : Nat) : xb n i 0 = lb n i := by rw [xb_def, lb_def, Nat.pow_zero, Nat.mul_one, Nat.mod_eq_of_lt (lbN_lt n i)]
theorem xb_succ (n i k : Nat) : xb n i k * 256 % 18446744073709551616 = xb n i (k + 1) := by
  rw [xb_def, xb_def, Nat.pow_succ, ← Nat.mul_assoc]
  generalize lbN n i * 256 ^ k = y
  omega
theorem xb_byte (n i k : Nat) (hk : k < 8) : xb n i k / 72057594037927936 = byt n (8 * i + (7 - k)) := by
  rw [xb_def, byt_def, ← byte_word n i (7 - k) (by omega)]
  have h := lbN_lt n i
  generalize lbN n i = y at *
  obtain rfl | rfl | rfl | rfl | rfl | rfl | rfl | rfl : k = 0 ∨ k = 1 ∨ k = 2 ∨ k = 3 ∨ k = 4 ∨ k = 5 ∨ k = 6 ∨ k = 7 := by omega
  all_goals simp only [Nat.reducePow, Nat.reduceSub, Nat.pow_zero, Nat.pow_one]; omega
/-- The uppermost k bytes of 32, the highest first. -/
def bys (n : Nat) : Nat → List Int
  | 0 => []
  | k + 1 => bys n k ++ [((byD n (31 - k) : Nat) : Int)]
theorem bys_succ (n k : Nat) : bys n (k + 1) = bys n k ++ [byt n (31 - k)] := by rw [byt_def]; rfl
theorem bys_length (n : Nat) : ∀ k, (bys n k).length = k
  | 0 => rfl
  | k + 1 => by unfold bys; rw [List.length_append, bys_length n k]; rfl
theorem bys_get (n : Nat) : ∀ k i, i < k → (bys n k)[i]? = some (byt n (31 - i))
  | 0, i, h => by omega
  | k + 1, i, h => by
    rw [bys_succ]
    have hl := bys_length n k
    rcases Nat.lt_or_ge i k with h1 | h1
    · rw [List.getElem?_append_left (by omega)]
      exact bys_get n k i h1
    · obtain rfl : i = k := by omega
      rw [List.getElem?_append_right (by omega), hl, Nat.sub_self]
      rfl
/-- 32 bytes that come in from the last on: i are there. -/
noncomputable def mby (n i : Nat) : List Int := (List.range 32).map fun p => if 32 ≤ p + i then byt n (31 - p) else 0
theorem mby_length (n i : Nat) : (mby n i).length = 32 := by simp [mby]
theorem mby_get (n i p : Nat) (hp : p < 32) : (mby n i)[p]? = some (if 32 ≤ p + i then byt n (31 - p) else 0) := by
  unfold mby
  rw [List.getElem?_map, List.getElem?_range hp]; rfl
theorem mby_zero (n : Nat) : mby n 0 = List.replicate 32 0 := by
  apply List.ext_getElem?
  intro p
  rcases Nat.lt_or_ge p 32 with h | h
  · rw [mby_get n 0 p h, if_neg (by omega), List.getElem?_replicate, if_pos h]
  · rw [List.getElem?_eq_none (by rw [mby_length]; exact h), List.getElem?_eq_none (by simpa using h)]
theorem mby_set (n i : Nat) (hi : i < 32) : (mby n i).set (31 - i) (byt n i) = mby n (i + 1) := by
  apply List.ext_getElem?
  intro p
  rcases Nat.lt_or_ge p 32 with h | h
  · by_cases hp : 31 - i = p
    · rw [hp, List.getElem?_set_self (by rw [mby_length]; exact h), mby_get n (i + 1) p h, if_pos (by omega), show 31 - p = i by omega]
    · rw [List.getElem?_set_ne hp, mby_get n i p h, mby_get n (i + 1) p h]
      by_cases hq : 32 ≤ p + i
      · rw [if_pos hq, if_pos (by omega)]
      · rw [if_neg hq, if_neg (by omega)]
  · rw [List.getElem?_eq_none (by rw [List.length_set, mby_length]; exact h), List.getElem?_eq_none (by rw [mby_length]; exact h)]
theorem mby_all (n : Nat) : mby n 32 = bys n 32 := by
  apply List.ext_getElem?
  intro p
  rcases Nat.lt_or_ge p 32 with h | h
  · rw [mby_get n 32 p h, if_pos (by omega), bys_get n 32 p h]
  · rw [List.getElem?_eq_none (by rw [mby_length]; exact h), List.getElem?_eq_none (by rw [bys_length]; exact h)]
/-- Byte i by a shift. -/
theorem shr_byte (n i : Nat) : (lb n (i / 8) / 2 ^ (8 * (i % 8))) % 256 = byt n i := by
  rw [byt_def, lb_def]
  have h := byte_word n (i / 8) (i % 8) (Nat.mod_lt _ (by omega))
  rw [show 8 * (i / 8) + i % 8 = i by omega] at h
  have hp : (2 ^ (8 * (i % 8)) : Nat) = 256 ^ (i % 8) := by rw [Nat.pow_mul]
  rw [← h, ← hp, Int.natCast_emod, Int.natCast_ediv, Int.natCast_pow]
  rfl
/-- A word while its bytes come in from below: i of all are there. -/
theorem lw_is : ∃ f : Nat → Nat → Nat → Int, ∀ n i k, f n i k = (lbN n k % 256 ^ (i - 8 * k) : Nat) := ⟨fun n i k => (lbN n k % 256 ^ (i - 8 * k) : Nat), fun _ _ _ => rfl⟩
noncomputable def lw : Nat → Nat → Nat → Int := Classical.choose lw_is
theorem lw_def (n i k : Nat) : lw n i k = (lbN n k % 256 ^ (i - 8 * k) : Nat) := Classical.choose_spec lw_is n i k
theorem pow8 (t : Nat) (h : 8 ≤ t) : 18446744073709551616 ≤ 256 ^ t := Nat.le_trans (show 18446744073709551616 ≤ 256 ^ 8 by decide) (Nat.pow_le_pow_right (by omega) h)
theorem lw_zero (n k : Nat) : lw n 0 k = 0 := by rw [lw_def, Nat.zero_sub, Nat.pow_zero, Nat.mod_one]; rfl
theorem lw_end (n k : Nat) (hk : k < 4) : lw n 32 k = lb n k := by
  have h1 := lbN_lt n k
  have h2 := pow8 (32 - 8 * k) (by omega)
  rw [lw_def, lb_def, Nat.mod_eq_of_lt (by omega)]
theorem lw_lo (n i k : Nat) : 0 ≤ lw n i k := by rw [lw_def]; exact Int.natCast_nonneg _
theorem lw_far (n i k : Nat) (h : k ≠ i / 8) : lw n i k = lw n (i + 1) k := by
  have h1 := lbN_lt n k
  rw [lw_def, lw_def]
  rcases Nat.lt_or_ge i (8 * k) with h2 | h2
  · rw [show i - 8 * k = 0 by omega, show i + 1 - 8 * k = 0 by omega]
  · have a := pow8 (i - 8 * k) (by omega)
    have b := pow8 (i + 1 - 8 * k) (by omega)
    rw [Nat.mod_eq_of_lt (by omega), Nat.mod_eq_of_lt (by omega)]
theorem lw_here (n i k : Nat) (h : k = i / 8) : bits .or .u64 (lw n i k) (byt n i * 2 ^ (8 * (i % 8))) = lw n (i + 1) k ∧ byt n i * 2 ^ (8 * (i % 8)) < 18446744073709551616 := by
  subst h
  have h0 := byte_word n (i / 8) (i % 8) (Nat.mod_lt _ (by omega))
  rw [show 8 * (i / 8) + i % 8 = i by omega] at h0
  have h1 := lbN_lt n (i / 8)
  have e1 : i - 8 * (i / 8) = i % 8 := by omega
  have e2 : i + 1 - 8 * (i / 8) = i % 8 + 1 := by omega
  have h8 : i % 8 < 8 := Nat.mod_lt _ (by omega)
  have hb : byD n i < 256 := Nat.mod_lt _ (by omega)
  have hp : (2 ^ (8 * (i % 8)) : Nat) = 256 ^ (i % 8) := by rw [Nat.pow_mul]
  have hm : 0 < 256 ^ (i % 8) := Nat.pow_pos (by omega)
  have hle : 256 ^ (i % 8) ≤ 256 ^ 7 := Nat.pow_le_pow_right (by omega) (by omega)
  have hsum : lbN n (i / 8) % 256 ^ (i % 8 + 1) = 256 ^ (i % 8) * byD n i + lbN n (i / 8) % 256 ^ (i % 8) := by
    rw [Nat.pow_succ, Nat.mod_mul, h0]; omega
  have hlt2 : byD n i * 256 ^ (i % 8) ≤ 255 * 256 ^ 7 := Nat.mul_le_mul (by omega) hle
  have hbig : byD n i * 256 ^ (i % 8) < 18446744073709551616 := Nat.lt_of_le_of_lt hlt2 (by decide)
  have hlt1 : lbN n (i / 8) % 256 ^ (i % 8) < 18446744073709551616 := Nat.lt_of_le_of_lt (Nat.mod_le _ _) h1
  have hor : byD n i * 256 ^ (i % 8) ||| lbN n (i / 8) % 256 ^ (i % 8) = 256 ^ (i % 8) * byD n i + lbN n (i / 8) % 256 ^ (i % 8) := by
    have := Nat.two_pow_add_eq_or_of_lt (i := 8 * (i % 8)) (b := lbN n (i / 8) % 256 ^ (i % 8)) (by rw [hp]; exact Nat.mod_lt _ hm) (byD n i)
    rw [hp] at this
    rw [this, Nat.mul_comm]
  have hc : byt n i * 2 ^ (8 * (i % 8)) = ((byD n i * 256 ^ (i % 8) : Nat) : Int) := by
    rw [byt_def, ← hp]; push_cast; rfl
  refine ⟨?_, ?_⟩
  · rw [hc, lw_def, lw_def, e1, e2, hsum, ← hor, Nat.or_comm]
    exact bits_or_u64_nat _ _ hlt1 hbig
  · rw [hc]; exact Int.ofNat_lt.2 hbig
/-- A word while its bytes come in from above: i of all are still to come. -/
theorem hw_is : ∃ f : Nat → Nat → Nat → Int, ∀ n i k, f n i k = (lbN n k / 256 ^ (i - 8 * k) : Nat) := ⟨fun n i k => (lbN n k / 256 ^ (i - 8 * k) : Nat), fun _ _ _ => rfl⟩
noncomputable def hw : Nat → Nat → Nat → Int := Classical.choose hw_is
theorem hw_def (n i k : Nat) : hw n i k = (lbN n k / 256 ^ (i - 8 * k) : Nat) := Classical.choose_spec hw_is n i k
theorem hw_lo (n i k : Nat) : 0 ≤ hw n i k := by rw [hw_def]; exact Int.natCast_nonneg _
theorem hw_zero (n i k : Nat) (h : 8 * k + 8 ≤ i) : hw n i k = 0 := by
  have h1 := lbN_lt n k
  have h2 := pow8 (i - 8 * k) (by omega)
  rw [hw_def, Nat.div_eq_of_lt (by omega)]; rfl
theorem hw_end (n k : Nat) : hw n 0 k = lb n k := by rw [hw_def, lb_def, Nat.zero_sub, Nat.pow_zero, Nat.div_one]
theorem hw_far (n i k : Nat) (h : k ≠ i / 8) : hw n i k = hw n (i + 1) k := by
  rcases Nat.lt_or_ge i (8 * k) with h2 | h2
  · rw [hw_def, hw_def, show i - 8 * k = 0 by omega, show i + 1 - 8 * k = 0 by omega]
  · rw [hw_zero n i k (by omega), hw_zero n (i + 1) k (by omega)]
theorem hw_here (n i k : Nat) (h : k = i / 8) : hw n (i + 1) k * 256 + byt n i = hw n i k ∧ hw n (i + 1) k ≤ 72057594037927935 := by
  subst h
  have h0 := byte_word n (i / 8) (i % 8) (Nat.mod_lt _ (by omega))
  rw [show 8 * (i / 8) + i % 8 = i by omega] at h0
  have h1 := lbN_lt n (i / 8)
  rw [hw_def, hw_def, byt_def, ← h0, show i - 8 * (i / 8) = i % 8 by omega, show i + 1 - 8 * (i / 8) = i % 8 + 1 by omega, Nat.pow_succ, ← Nat.div_div_eq_div_mul]
  have h2 : lbN n (i / 8) / 256 ^ (i % 8) ≤ lbN n (i / 8) := Nat.div_le_self _ _
  generalize lbN n (i / 8) / 256 ^ (i % 8) = y at *
  omega
/-- Whatever the bytes are, there is a number of them. -/
theorem of_bytes (f : Nat → Nat) (hf : ∀ j, f j < 256) : ∀ k, ∃ n, n < 256 ^ k ∧ ∀ j, j < k → byD n j = f j := by
  intro k
  induction k with
  | zero => exact ⟨0, by decide, fun j hj => by omega⟩
  | succ k ih =>
    obtain ⟨n, hn, hb⟩ := ih
    have hp : 0 < 256 ^ k := Nat.pow_pos (by omega)
    have hk := hf k
    refine ⟨n + 256 ^ k * f k, ?_, fun j hj => ?_⟩
    · rw [Nat.pow_succ]
      have : 256 ^ k * f k ≤ 256 ^ k * 255 := Nat.mul_le_mul_left _ (by omega)
      omega
    · by_cases h : j = k
      · subst h
        unfold byD
        rw [Nat.add_mul_div_left _ _ hp, Nat.div_eq_of_lt hn, Nat.zero_add, Nat.mod_eq_of_lt hk]
      · rw [← hb j (by omega)]
        unfold byD
        have e : 256 ^ k * f k = 256 ^ j * (256 * (256 ^ (k - j - 1) * f k)) := by
          rw [← Nat.mul_assoc, ← Nat.mul_assoc, ← Nat.pow_succ, ← Nat.pow_add]
          congr 2; omega
        rw [e, Nat.add_mul_div_left _ _ (Nat.pow_pos (by omega)), Nat.add_mul_mod_self_left]
end Go.Proofs.Ytcoljlanblngiaa
