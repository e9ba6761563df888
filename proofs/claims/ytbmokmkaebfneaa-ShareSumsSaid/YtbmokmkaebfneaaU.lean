/- limb's bit, and the document's. -/
import Derived.Test.YtbmokmkaebfneaaA
import Derived.Test.YtbmokmkaebfneaaN
namespace Go.Proofs.Ytbmokmkaebfneaa
set_option linter.unusedVariables false
set_option linter.unusedSimpArgs false
open Go.RowKit

/-- Bit n of a number; 0 where there is none. -/
theorem bitN_is : ∃ f : Nat → Int → Int, ∀ x n, f x n = if 0 ≤ n ∧ n < 256 then ((x / 2 ^ n.toNat % 2 : Nat) : Int) else 0 := ⟨fun x n => if 0 ≤ n ∧ n < 256 then ((x / 2 ^ n.toNat % 2 : Nat) : Int) else 0, fun _ _ => rfl⟩
noncomputable def bitN : Nat → Int → Int := Classical.choose bitN_is
theorem bitN_def (x : Nat) (n : Int) : bitN x n = if 0 ≤ n ∧ n < 256 then ((x / 2 ^ n.toNat % 2 : Nat) : Int) else 0 := Classical.choose_spec bitN_is x n
theorem bitN_in (x i : Nat) (h : i < 256) : bitN x (i : Int) = ((x / 2 ^ i % 2 : Nat) : Int) := by
  rw [bitN_def, if_pos (by omega), Int.toNat_natCast]
theorem bitN_out (x : Nat) (n : Int) (h : n < 0 ∨ 256 ≤ n) : bitN x n = 0 := by rw [bitN_def, if_neg (by omega)]
theorem bit_part (x i s : Nat) (B : Nat) (hB : B = 2 ^ s) (hs : 0 < s) : x / B ^ (i / s) % B / 2 ^ (i % s) % 2 = x / 2 ^ i % 2 := by
  have hi : 2 ^ i = B ^ (i / s) * 2 ^ (i % s) := by
    rw [hB, ← Nat.pow_mul, ← Nat.pow_add, Nat.div_add_mod]
  rw [hi, ← Nat.div_div_eq_div_mul]
  generalize x / B ^ (i / s) = y
  have h64 : i % s < s := Nat.mod_lt _ hs
  generalize i % s = t at *
  have hs' : B = 2 ^ t * 2 ^ (s - t) := by rw [← Nat.pow_add, hB]; congr 1; omega
  rw [hs', Nat.mod_mul_right_div_self]
  have h2 : 2 ^ (s - t) = 2 * 2 ^ (s - t - 1) := by rw [← Nat.pow_succ']; congr 1; omega
  rw [h2, Nat.mod_mul_right_mod]
theorem bit_word (x i : Nat) (hi : i < 256) : bits .and .u64 (lb x (i / 64) / 2 ^ (i % 64)) 1 = bitN x (i : Int) := by
  have h0 : lb x (i / 64) / 2 ^ (i % 64) = ((lbN x (i / 64) / 2 ^ (i % 64) : Nat) : Int) := by
    rw [lb_def, Int.natCast_ediv, Int.natCast_pow]; rfl
  have hl := lbN_lt x (i / 64)
  have hl2 : lbN x (i / 64) / 2 ^ (i % 64) ≤ lbN x (i / 64) := Nat.div_le_self _ _
  have hq : lbN x (i / 64) / 2 ^ (i % 64) ≤ 18446744073709551615 := by omega
  rw [bitN_in x i hi, h0, and_one_u64 _ (Int.natCast_nonneg _) (by generalize lbN x (i / 64) / 2 ^ (i % 64) = q at *; omega)]
  have e : lbN x (i / 64) = x / 18446744073709551616 ^ (i / 64) % 18446744073709551616 := by
    have h1 : ∀ n i, lbN n i = n / 18446744073709551616 ^ i % 18446744073709551616 := by
      intro n i
      induction i generalizing n with
      | zero => simp [lbN]
      | succ i ih => simp only [lbN]; rw [ih, Nat.pow_succ, Nat.mul_comm (18446744073709551616 ^ i), Nat.div_div_eq_div_mul]
    exact h1 _ _
  rw [← bit_part x i 64 18446744073709551616 rfl (by omega), ← e]
  omega
theorem bit_digit (x i : Nat) (hi : i < 256) : dg x (i / 16) / 2 ^ (i % 16) % 2 = bitN x (i : Int) ∧ 0 ≤ dg x (i / 16) / 2 ^ (i % 16) ∧ dg x (i / 16) / 2 ^ (i % 16) < 65536 := by
  have h0 : dg x (i / 16) / 2 ^ (i % 16) = ((dgD x (i / 16) / 2 ^ (i % 16) : Nat) : Int) := by
    rw [dg_def, Int.natCast_ediv, Int.natCast_pow]; rfl
  have hl : dgD x (i / 16) < 65536 := Nat.mod_lt _ (by omega)
  have hl2 : dgD x (i / 16) / 2 ^ (i % 16) ≤ dgD x (i / 16) := Nat.div_le_self _ _
  rw [bitN_in x i hi, h0, ← bit_part x i 16 65536 rfl (by omega)]
  have e : x / 65536 ^ (i / 16) % 65536 = dgD x (i / 16) := rfl
  rw [e]
  generalize dgD x (i / 16) / 2 ^ (i % 16) = q at *
  refine ⟨by omega, by omega, by omega⟩
theorem numb_at (x k : Nat) (hk : k < 4) : (#[.int .u64 (lb x 0), .int .u64 (lb x 1), .int .u64 (lb x 2), .int .u64 (lb x 3)] : Array Value)[k]? = some (.int .u64 (lb x k)) := by
  obtain rfl | rfl | rfl | rfl : k = 0 ∨ k = 1 ∨ k = 2 ∨ k = 3 := by omega
  all_goals rfl
set_option maxHeartbeats 1000000 in
theorem bit_any (a : Nat) (n : Int) (w : World) : Calls Try.prog 90 #[num a, .int .i64 n] w fun e w' => e = .returned (.int .u64 (bitN a n)) ∧ Below w.heap.size w w' := by
  by_cases h0 : n < 0
  · have hd : decide (n < 0) = true := decide_eq_true h0
    rw [bitN_out a n (.inl h0)]
    go_enter Try.func90, Try.ntmps90
    go_wp2
    go_ret
    exact ⟨rfl, by go_grown⟩
  · by_cases h1 : 255 < n
    · have hd : decide (n < 0) = false := decide_eq_false h0
      have hd2 : decide (255 < n) = true := decide_eq_true h1
      rw [bitN_out a n (.inr (by omega))]
      go_enter Try.func90, Try.ntmps90
      go_wp2
      go_ret
      exact ⟨rfl, by go_grown⟩
    · obtain ⟨i, rfl⟩ := Int.eq_ofNat_of_zero_le (show 0 ≤ n by omega)
      have hi : i < 256 := by omega
      have hd : decide ((i : Int) < 0) = false := decide_eq_false h0
      have hd2 : decide (255 < (i : Int)) = false := decide_eq_false h1
      have hb := bit_word a i hi
      have kb : Blk (w.alloc (.cells #[.int .u64 (lb (a) 0), .int .u64 (lb (a) 1), .int .u64 (lb (a) 2), .int .u64 (lb (a) 3)] 24)) w.heap.size 24 #[.int .u64 (lb (a) 0), .int .u64 (lb (a) 1), .int .u64 (lb (a) 2), .int .u64 (lb (a) 3)] := Blk.new _ _ _
      have hx : (w.alloc (.cells #[.int .u64 (lb (a) 0), .int .u64 (lb (a) 1), .int .u64 (lb (a) 2), .int .u64 (lb (a) 3)] 24)).cell? ⟨w.heap.size, i / 64, none⟩ = some (.int .u64 (lb a (i / 64))) := by rw [kb.cell]; exact numb_at a (i / 64) (by omega)
      have w1 : IntKind.i64.wrap ((i : Int) / 64) = (i : Int) / 64 := IntWalk.i64_in _ (by omega)
      have w2 : 0 ≤ (i : Int) / 64 := by omega
      have w3 : (i : Int) / 64 < 4 := by omega
      have w4 : ((i : Int) / 64).toNat = i / 64 := by omega
      clear kb
      go_enter Try.func90, Try.ntmps90
      go_wp2
      go_ret
      exact ⟨rfl, by go_grown⟩
end Go.Proofs.Ytbmokmkaebfneaa
