/- Bytes of numbers, in plain Lean. No program here. The document's answer for layer 1: a number's bytes. limb's bytes of a number. limb's number of bytes, and the document's. -/
import Derived.Test.YtlibfjemdiochaaN
import Derived.Laws.BytesArg
import Derived.Laws.BitsLemmas
import Derived.Laws.Bits64b
import Derived.Test.YtlibfjemdiochaaP
import Derived.Test.YtlibfjemdiochaaA
namespace Go.Proofs.Ytlibfjemdiochaa
set_option linter.unusedVariables false
set_option linter.unusedSimpArgs false

def byD (n j : Nat) : Nat := n / 256 ^ j % 256
theorem byt_is : ∃ f : Nat → Nat → Int, ∀ n k, f n k = (byD n k : Nat) := ⟨fun n k => (byD n k : Nat), fun _ _ => rfl⟩
noncomputable def byt : Nat → Nat → Int := Classical.choose byt_is
theorem byt_def (n k : Nat) : byt n k = (byD n k : Nat) := Classical.choose_spec byt_is n k
theorem byt_lo (n k : Nat) : 0 ≤ byt n k := by rw [byt_def]; omega
theorem byt_hi (n k : Nat) : byt n k < 256 := by rw [byt_def]; unfold byD; omega
theorem lbN_256 (n : Nat) : ∀ i, lbN n i = n / 256 ^ (8 * i) % 18446744073709551616 := by
  intro i
  induction i generalizing n with
  | zero => simp [lbN]
  | succ i ih =>
    simp only [lbN]
    rw [ih, Nat.div_div_eq_div_mul]
    have e : 18446744073709551616 * 256 ^ (8 * i) = 256 ^ (8 * (i + 1)) := by
      rw [show 8 * (i + 1) = 8 + 8 * i by omega, Nat.pow_add]
    rw [e]
/-- Byte t of word i. -/
theorem byte_word (n i t : Nat) (ht : t < 8) : lbN n i / 256 ^ t % 256 = byD n (8 * i + t) := by
  rw [lbN_256]
  unfold byD
  rw [Nat.pow_add, ← Nat.div_div_eq_div_mul]
  generalize n / 256 ^ (8 * i) = y
  obtain rfl | rfl | rfl | rfl | rfl | rfl | rfl | rfl : t = 0 ∨ t = 1 ∨ t = 2 ∨ t = 3 ∨ t = 4 ∨ t = 5 ∨ t = 6 ∨ t = 7 := by omega
  all_goals simp only [Nat.reducePow, Nat.pow_zero, Nat.pow_one]; omega
/-- A word whose upper k bytes have gone. -/
theorem xb_is : ∃ f : Nat → Nat → Nat → Int, ∀ n i k, f n i k = (lbN n i * 256 ^ k % 18446744073709551616 : Nat) := ⟨fun n i k => (lbN n i * 256 ^ k % 18446744073709551616 : Nat), fun _ _ _ => rfl⟩
noncomputable def xb : Nat → Nat → Nat → Int := Classical.choose xb_is
theorem xb_def (n i k : Nat) : xb n i k = (lbN n i * 256 ^ k % 18446744073709551616 : Nat) := Classical.choose_spec xb_is n i k
theorem xb_lo (n i k : Nat) : 0 ≤ xb n i k := by rw [xb_def]; exact Int.natCast_nonneg _
theorem xb_hi (n i k : Nat) : xb n i k < 18446744073709551616 := by rw [xb_def]; omega
theorem xb_zero (n i : Nat) : xb n i 0 = lb n i := by rw [xb_def, lb_def, Nat.pow_zero, Nat.mul_one, Nat.mod_eq_of_lt (lbN_lt n i)]
theorem xb_succ (n i k : Nat) : xb n i k * 256 % 18446744073709551616 = xb n i (k + 1) := by
  rw [xb_def, xb_def, Nat.pow_succ, ← Nat.mul_assoc]
  generalize lbN n i * 256 ^ k = y
  omega
theorem xb_byte (n i k : Nat) (hk : k < 8) : xb n i k / 72057594037927936 = byt n (8 * i + (7 - k)) := by
  rw [xb_def, byt_def, ← byte_word n i (7 - k) (by omega)]
  have h := lbN_lt n i
  generalize lbN n i = y at *
  obtain rfl | rfl | rfl | rfl | rfl | rfl | rfl | rfl : k = 0 ∨ k = 1 ∨ k = 2 ∨ k = 3 ∨ k = 4 ∨ k = 5 ∨ k = 6 ∨ k = 7 := by omega
  all_goals simp only [Nat.reducePow, Nat.reduceSub, Nat.pow_zero, Nat.pow_one]; omega
/-- The uppermost k bytes of 32, the highest first. -/
def bys (n : Nat) : Nat → List Int
  | 0 => []
  | k + 1 => bys n k ++ [((byD n (31 - k) : Nat) : Int)]
theorem bys_succ (n k : Nat) : bys n (k + 1) = bys n k ++ [byt n (31 - k)] := by rw [byt_def]; rfl
theorem bys_length (n : Nat) : ∀ k, (bys n k).length = k
  | 0 => rfl
  | k + 1 => by unfold bys; rw [List.length_append, bys_length n k]; rfl
theorem bys_get (n : Nat) : ∀ k i, i < k → (bys n k)[i]? = some (byt n (31 - i))
  | 0, i, h => by omega
  | k + 1, i, h => by
    rw [bys_succ]
    have hl := bys_length n k
    rcases Nat.lt_or_ge i k with h1 | h1
    · rw [List.getElem?_append_left (by omega)]
      exact bys_get n k i h1
    · obtain rfl : i = k := by omega
      rw [List.getElem?_append_right (by omega), hl, Nat.sub_self]
      rfl
/-- 32 bytes that come in from the last on: i are there. -/
noncomputable def mby (n i : Nat) : List Int := (List.range 32).map fun p => if 32 ≤ p + i then byt n (31 - p) else 0
theorem mby_length (n i : Nat) : (mby n i).length = 32 := by simp [mby]
theorem mby_get (n i p : Nat) (hp : p < 32) : (mby n i)[p]? = some (if 32 ≤ p + i then byt n (31 - p) else 0) := by
  unfold mby
  rw [List.getElem?_map, List.getElem?_range hp]; rfl
theorem mby_zero (n : Nat) : mby n 0 = List.replicate 32 0 := by
  apply List.ext_getElem?
  intro p
  rcases Nat.lt_or_ge p 32 with h | h
  · rw [mby_get n 0 p h, if_neg (by omega), List.getElem?_replicate, if_pos h]
  · rw [List.getElem?_eq_none (by rw [mby_length]; exact h), List.getElem?_eq_none (by simpa using h)]
theorem mby_set (n i : Nat) (hi : i < 32) : (mby n i).set (31 - i) (byt n i) = mby n (i + 1) := by
  apply List.ext_getElem?
  intro p
  rcases Nat.lt_or_ge p 32 with h | h
  · by_cases hp : 31 - i = p
    · rw [hp, List.getElem?_set_self (by rw [mby_length]; exact h), mby_get n (i + 1) p h, if_pos (by omega), show 31 - p = i by omega]
    · rw [List.getElem?_set_ne hp, mby_get n i p h, mby_get n (i + 1) p h]
      by_cases hq : 32 ≤ p + i
      · rw [if_pos hq, if_pos (by omega)]
      · rw [if_neg hq, if_neg (by omega)]
  · rw [List.getElem?_eq_none (by rw [List.length_set, mby_length]; exact h), List.getElem?_eq_none (by rw [mby_length]; exact h)]
theorem mby_all (n : Nat) : mby n 32 = bys n 32 := by
  apply List.ext_getElem?
  intro p
  rcases Nat.lt_or_ge p 32 with h | h
  · rw [mby_get n 32 p h, if_pos (by omega), bys_get n 32 p h]
  · rw [List.getElem?_eq_none (by rw [mby_length]; exact h), List.getElem?_eq_none (by rw [bys_length]; exact h)]
/-- Byte i by a shift. -/
theorem shr_byte (n i : Nat) : (lb n (i / 8) / 2 ^ (8 * (i % 8))) % 256 = byt n i := by
  rw [byt_def, lb_def]
  have h := byte_word n (i / 8) (i % 8) (Nat.mod_lt _ (by omega))
  rw [show 8 * (i / 8) + i % 8 = i by omega] at h
  have hp : (2 ^ (8 * (i % 8)) : Nat) = 256 ^ (i % 8) := by rw [Nat.pow_mul]
  rw [← h, ← hp, Int.natCast_emod, Int.natCast_ediv, Int.natCast_pow]
  rfl
/-- A word while its bytes come in from below: i of all are there. -/
theorem lw_is : ∃ f : Nat → Nat → Nat → Int, ∀ n i k, f n i k = (lbN n k % 256 ^ (i - 8 * k) : Nat) := ⟨fun n i k => (lbN n k % 256 ^ (i - 8 * k) : Nat), fun _ _ _ => rfl⟩
noncomputable def lw : Nat → Nat → Nat → Int := Classical.choose lw_is
theorem lw_def (n i k : Nat) : lw n i k = (lbN n k % 256 ^ (i - 8 * k) : Nat) := Classical.choose_spec lw_is n i k
theorem pow8 (t : Nat) (h : 8 ≤ t) : 18446744073709551616 ≤ 256 ^ t := Nat.le_trans (show 18446744073709551616 ≤ 256 ^ 8 by decide) (Nat.pow_le_pow_right (by omega) h)
theorem lw_zero (n k : Nat) : lw n 0 k = 0 := by rw [lw_def, Nat.zero_sub, Nat.pow_zero, Nat.mod_one]; rfl
theorem lw_end (n k : Nat) (hk : k < 4) : lw n 32 k = lb n k := by
  have h1 := lbN_lt n k
  have h2 := pow8 (32 - 8 * k) (by omega)
  rw [lw_def, lb_def, Nat.mod_eq_of_lt (by omega)]
theorem lw_lo (n i k : Nat) : 0 ≤ lw n i k := by rw [lw_def]; exact Int.natCast_nonneg _
theorem lw_far (n i k : Nat) (h : k ≠ i / 8) : lw n i k = lw n (i + 1) k := by
  have h1 := lbN_lt n k
  rw [lw_def, lw_def]
  rcases Nat.lt_or_ge i (8 * k) with h2 | h2
  · rw [show i - 8 * k = 0 by omega, show i + 1 - 8 * k = 0 by omega]
  · have a := pow8 (i - 8 * k) (by omega)
    have b := pow8 (i + 1 - 8 * k) (by omega)
    rw [Nat.mod_eq_of_lt (by omega), Nat.mod_eq_of_lt (by omega)]
theorem lw_here (n i k : Nat) (h : k = i / 8) : bits .or .u64 (lw n i k) (byt n i * 2 ^ (8 * (i % 8))) = lw n (i + 1) k ∧ byt n i * 2 ^ (8 * (i % 8)) < 18446744073709551616 := by
  subst h
  have h0 := byte_word n (i / 8) (i % 8) (Nat.mod_lt _ (by omega))
  rw [show 8 * (i / 8) + i % 8 = i by omega] at h0
  have h1 := lbN_lt n (i / 8)
  have e1 : i - 8 * (i / 8) = i % 8 := by omega
  have e2 : i + 1 - 8 * (i / 8) = i % 8 + 1 := by omega
  have h8 : i % 8 < 8 := Nat.mod_lt _ (by omega)
  have hb : byD n i < 256 := Nat.mod_lt _ (by omega)
  have hp : (2 ^ (8 * (i % 8)) : Nat) = 256 ^ (i % 8) := by rw [Nat.pow_mul]
  have hm : 0 < 256 ^ (i % 8) := Nat.pow_pos (by omega)
  have hle : 256 ^ (i % 8) ≤ 256 ^ 7 := Nat.pow_le_pow_right (by omega) (by omega)
  have hsum : lbN n (i / 8) % 256 ^ (i % 8 + 1) = 256 ^ (i % 8) * byD n i + lbN n (i / 8) % 256 ^ (i % 8) := by
    rw [Nat.pow_succ, Nat.mod_mul, h0]; omega
  have hlt2 : byD n i * 256 ^ (i % 8) ≤ 255 * 256 ^ 7 := Nat.mul_le_mul (by omega) hle
  have hbig : byD n i * 256 ^ (i % 8) < 18446744073709551616 := Nat.lt_of_le_of_lt hlt2 (by decide)
  have hlt1 : lbN n (i / 8) % 256 ^ (i % 8) < 18446744073709551616 := Nat.lt_of_le_of_lt (Nat.mod_le _ _) h1
  have hor : byD n i * 256 ^ (i % 8) ||| lbN n (i / 8) % 256 ^ (i % 8) = 256 ^ (i % 8) * byD n i + lbN n (i / 8) % 256 ^ (i % 8) := by
    have := Nat.two_pow_add_eq_or_of_lt (i := 8 * (i % 8)) (b := lbN n (i / 8) % 256 ^ (i % 8)) (by rw [hp]; exact Nat.mod_lt _ hm) (byD n i)
    rw [hp] at this
    rw [this, Nat.mul_comm]
  have hc : byt n i * 2 ^ (8 * (i % 8)) = ((byD n i * 256 ^ (i % 8) : Nat) : Int) := by
    rw [byt_def, ← hp]; push_cast; rfl
  refine ⟨?_, ?_⟩
  · rw [hc, lw_def, lw_def, e1, e2, hsum, ← hor, Nat.or_comm]
    exact bits_or_u64_nat _ _ hlt1 hbig
  · rw [hc]; exact Int.ofNat_lt.2 hbig
/-- A word while its bytes come in from above: i of all are still to come. -/
theorem hw_is : ∃ f : Nat → Nat → Nat → Int, ∀ n i k, f n i k = (lbN n k / 256 ^ (i - 8 * k) : Nat) := ⟨fun n i k => (lbN n k / 256 ^ (i - 8 * k) : Nat), fun _ _ _ => rfl⟩
noncomputable def hw : Nat → Nat → Nat → Int := Classical.choose hw_is
theorem hw_def (n i k : Nat) : hw n i k = (lbN n k / 256 ^ (i - 8 * k) : Nat) := Classical.choose_spec hw_is n i k
theorem hw_lo (n i k : Nat) : 0 ≤ hw n i k := by rw [hw_def]; exact Int.natCast_nonneg _
theorem hw_zero (n i k : Nat) (h : 8 * k + 8 ≤ i) : hw n i k = 0 := by
  have h1 := lbN_lt n k
  have h2 := pow8 (i - 8 * k) (by omega)
  rw [hw_def, Nat.div_eq_of_lt (by omega)]; rfl
theorem hw_end (n k : Nat) : hw n 0 k = lb n k := by rw [hw_def, lb_def, Nat.zero_sub, Nat.pow_zero, Nat.div_one]
theorem hw_far (n i k : Nat) (h : k ≠ i / 8) : hw n i k = hw n (i + 1) k := by
  rcases Nat.lt_or_ge i (8 * k) with h2 | h2
  · rw [hw_def, hw_def, show i - 8 * k = 0 by omega, show i + 1 - 8 * k = 0 by omega]
  · rw [hw_zero n i k (by omega), hw_zero n (i + 1) k (by omega)]
theorem hw_here (n i k : Nat) (h : k = i / 8) : hw n (i + 1) k * 256 + byt n i = hw n i k ∧ hw n (i + 1) k ≤ 72057594037927935 := by
  subst h
  have h0 := byte_word n (i / 8) (i % 8) (Nat.mod_lt _ (by omega))
  rw [show 8 * (i / 8) + i % 8 = i by omega] at h0
  have h1 := lbN_lt n (i / 8)
  rw [hw_def, hw_def, byt_def, ← h0, show i - 8 * (i / 8) = i % 8 by omega, show i + 1 - 8 * (i / 8) = i % 8 + 1 by omega, Nat.pow_succ, ← Nat.div_div_eq_div_mul]
  have h2 : lbN n (i / 8) / 256 ^ (i % 8) ≤ lbN n (i / 8) := Nat.div_le_self _ _
  generalize lbN n (i / 8) / 256 ^ (i % 8) = y at *
  omega
/-- Whatever the bytes are, there is a number of them. -/
theorem of_bytes (f : Nat → Nat) (hf : ∀ j, f j < 256) : ∀ k, ∃ n, n < 256 ^ k ∧ ∀ j, j < k → byD n j = f j := by
  intro k
  induction k with
  | zero => exact ⟨0, by decide, fun j hj => by omega⟩
  | succ k ih =>
    obtain ⟨n, hn, hb⟩ := ih
    have hp : 0 < 256 ^ k := Nat.pow_pos (by omega)
    have hk := hf k
    refine ⟨n + 256 ^ k * f k, ?_, fun j hj => ?_⟩
    · rw [Nat.pow_succ]
      have : 256 ^ k * f k ≤ 256 ^ k * 255 := Nat.mul_le_mul_left _ (by omega)
      omega
    · by_cases h : j = k
      · subst h
        unfold byD
        rw [Nat.add_mul_div_left _ _ hp, Nat.div_eq_of_lt hn, Nat.zero_add, Nat.mod_eq_of_lt hk]
      · rw [← hb j (by omega)]
        unfold byD
        have e : 256 ^ k * f k = 256 ^ j * (256 * (256 ^ (k - j - 1) * f k)) := by
          rw [← Nat.mul_assoc, ← Nat.mul_assoc, ← Nat.pow_succ, ← Nat.pow_add]
          congr 2; omega
        rw [e, Nat.add_mul_div_left _ _ (Nat.pow_pos (by omega)), Nat.add_mul_mod_self_left]
end Go.Proofs.Ytlibfjemdiochaa
namespace Go.Proofs.Ytlibfjemdiochaa
set_option linter.unusedVariables false
set_option linter.unusedSimpArgs false
open Go.RowKit Go.Proofs.YtlibfjemdiochaaW.PrintWords

theorem info_byte : (Try.prog.info? 5).map (fun i => (i.zero, i.size, i.bytes)) = some (some (.int .u8 0), 1, 1) := by kernel_rfl
/-- A row of bytes of the call's own. -/
abbrev Byts (w : World) (base : Nat) (v : Value) (l : List Int) : Prop := Kd.R (Kd.int .u8) 5 w base (fun _ => True) v l
/-- A number's bytes as a string. -/
theorem bst_is : ∃ f : Nat → ByteArray, ∀ n, f n = strOfNums (bys n 32) := ⟨fun n => strOfNums (bys n 32), fun _ => rfl⟩
noncomputable def bst : Nat → ByteArray := Classical.choose bst_is
theorem bst_def (n : Nat) : bst n = strOfNums (bys n 32) := Classical.choose_spec bst_is n
def BytIn (n i : Nat) (w W0 wr : World) (o x j : Value) : Prop := ∃ k : Nat, k ≤ 8 ∧ j = .int .i64 k ∧ x = .int .u64 (xb n i k) ∧ Byts wr (w.heap.size + 1) o (bys n (8 * (3 - i) + k)) ∧ Below (w.heap.size + 1) W0 wr
def BytOut (n : Nat) (w W0 wr : World) (o i : Value) : Prop := ∃ z : Int, -1 ≤ z ∧ z ≤ 3 ∧ i = .int .i64 z ∧ Byts wr (w.heap.size + 1) o (bys n (8 * (3 - z).toNat)) ∧ Below (w.heap.size + 1) W0 wr
set_option maxHeartbeats 2000000 in
theorem rbytes_any (n : Nat) (w : World) : Calls Try.prog 39 #[num n] w fun e w' => e = .returned (.string (bst n)) ∧ Below w.heap.size w w' := by
  go_enter Try.func39, Try.ntmps39
  go_wp2
  obtain ⟨W0, hW0⟩ : ∃ W0, W0 = w.alloc (.cells #[.int .u64 (lb n 0), .int .u64 (lb n 1), .int .u64 (lb n 2), .int .u64 (lb n 3)] 24) := ⟨_, rfl⟩
  have H0 := Lib.hid hW0
  go_loopw [3, 4] (fun o i wr => BytOut n w W0 wr o i) (fun _ i _ => (intOf i + 1).toNat)
  case atStart =>
    refine ⟨3, by omega, by omega, rfl, Kd.R_nil _ _ _ _ _, ?_⟩
    rw [← hW0]; exact Below.refl _ _
  case round =>
    unfold BytOut at hrel
    obtain ⟨z, hz0, hz1, rfl, hown, hb⟩ := hrel
    clear hW0
    by_cases hlt : 0 ≤ z
    · obtain ⟨i, rfl⟩ := Int.eq_ofNat_of_zero_le hlt
      have hdt : decide (0 ≤ (i : Int)) = true := by simp
      rw [show (3 - (i : Int)).toNat = 3 - i by omega] at hown
      have hbx : Blk wr w.heap.size 24 #[.int .u64 (lb n 0), .int .u64 (lb n 1), .int .u64 (lb n 2), .int .u64 (lb n 3)] := by
        refine Blk.below ?_ hb (Nat.lt_succ_self _)
        rw [H0.out]; exact Blk.new _ _ _
      have hxi : wr.cell? ⟨w.heap.size, i, none⟩ = some (.int .u64 (xb n i 0)) := by
        rw [hbx.cell, xb_zero]; exact num_at n i (by omega)
      have hi4 : (i : Int) < 4 := by omega
      go_wp2
      obtain ⟨wo, rfl⟩ : ∃ wo : World, wo = wr := ⟨_, rfl⟩
      clear hxi hbx
      have Hb := Lib.hid hb
      go_loopw [3, 5, 6] (fun o x j wr => BytIn n i w W0 wr o x j) (fun _ _ j _ => 8 - (intOf j).toNat)
      case atStart => exact ⟨0, by omega, rfl, rfl, hown, hb⟩
      case round =>
        unfold BytIn at hrel
        obtain ⟨k, hk, rfl, rfl, hown1, hb1⟩ := hrel
        by_cases hlk : k < 8
        · have x0 := xb_lo n i k
          have x1 := xb_hi n i k
          have xd := xb_byte n i k hlk
          have xs := xb_succ n i k
          rw [show 8 * i + (7 - k) = 31 - (8 * (3 - i) + k) by omega] at xd
          have d0 := byt_lo n (31 - (8 * (3 - i) + k))
          have d1 := byt_hi n (31 - (8 * (3 - i) + k))
          have hsz := hb1.size
          have hs0 : w.heap.size + 1 ≤ wr.heap.size := by
            have h := hb1.size
            rw [H0.out] at h
            simpa using h
          have hle : ((bys n (8 * (3 - i) + k)).length + 1) * 1 ≤ 140737488355328 := by rw [bys_length]; omega
          go_wp2_with ((with_reducible refine gate_builtin (b := .append) (xs := #[.tmp 18, .tmp 22]) rfl ?_); at_builtin; refine Kd.R_append (Kd.int .u8) (w0 := W0) (w.heap.size + 1) rfl (.tmp 18) (.tmp 22) 83 5 (.int .u8 0) 1 rfl Try.underlying83 info_byte rfl (by decide) (by omega) u3 (bys n (8 * (3 - i) + k)) (byt n (31 - (8 * (3 - i) + k))) [.int .u8 (byt n (31 - (8 * (3 - i) + k)))] (fun _ => True) (fun _ => False) rfl rfl rfl (fun _ hk => hk.elim) (fun _ _ => trivial) hown1 hb1 hs0 hle ?_; intro v1 w1 hown2 hb2 _ _)
          go_roundw
          case rel =>
            have hr : BytIn n i w W0 w1 v1 (.int .u64 (xb n i k * 256 % 18446744073709551616)) (.int .i64 ((k : Int) + 1)) := ⟨k + 1, by omega, by go_num, by rw [xs], by rw [← Nat.add_assoc, bys_succ]; exact hown2, hb2⟩
            first | exact hr | ((repeat apply Exists.intro); exact ⟨hr, rfl⟩)
          case measure => simp [intOf]; omega
        · have hk8 : k = 8 := by omega
          subst hk8
          go_wp2
          go_roundw
          case rel =>
            have hr : BytOut n w W0 wr u3 (.int .i64 ((i : Int) - 1)) := ⟨(i : Int) - 1, by omega, by omega, by go_num, by rw [show (3 - ((i : Int) - 1)).toNat = (3 - i) + 1 by omega, Nat.mul_succ]; exact hown1, hb1⟩
            first | exact hr | ((repeat apply Exists.intro); exact ⟨hr, rfl⟩)
          case measure => simp [intOf]
    · have hz : z = -1 := by omega
      subst hz
      rw [show 8 * (3 - (-1 : Int)).toNat = 32 by omega] at hown
      obtain ⟨A, c, rfl, hc, hd⟩ := Kd.R_reads hown
      rw [bys_length] at hd hc
      have hcs := fun W (h : Below wr.heap.size wr W) => Kd.C_string (P := Try.prog) Try.underlying83 Try.underlying5 Try.underlying9 (c := c) (Kd.C_below hd h)
      have hcs0 := hcs wr (Below.refl _ _)
      clear hcs
      rw [← bst_def] at hcs0
      simp only [bys_length]
      go_wp2
      go_ret
      refine ⟨rfl, ?_⟩
      refine Below.trans ?_ (Below.mono hb (Nat.le_succ _))
      rw [H0.out]
      go_grown
end Go.Proofs.Ytlibfjemdiochaa
namespace Go.Proofs.Ytlibfjemdiochaa
set_option linter.unusedVariables false
set_option linter.unusedSimpArgs false
open Go.RowKit Go.Proofs.YtlibfjemdiochaaW.PrintWords

/-- Bytes as cells. -/
def u8A (l : List Int) : Array Value := (l.map (Value.int .u8)).toArray
theorem u8A_size (l : List Int) : (u8A l).size = l.length := by simp [u8A]
theorem u8A_get (l : List Int) (i : Nat) (x : Int) (h : l[i]? = some x) : (u8A l)[i]? = some (.int .u8 x) := by simp [u8A, h]
theorem u8A_set (l : List Int) (i : Nat) (x : Int) : (u8A l).setIfInBounds i (.int .u8 x) = u8A (l.set i x) := by simp [u8A, List.map_set]
structure ByteSt (n i : Nat) (w wr : World) : Prop where
  b : Below w.heap.size w wr
  ha : Blk wr w.heap.size 24 #[.int .u64 (lb n 0), .int .u64 (lb n 1), .int .u64 (lb n 2), .int .u64 (lb n 3)]
  ho : Blk wr (w.heap.size + 1) 97 (u8A (mby n i))
def ByteRel (n : Nat) (w : World) (s : Value) (wr : World) : Prop := ∃ i : Nat, s = .int .i64 (i : Int) ∧ i ≤ 32 ∧ ByteSt n i w wr
theorem ByteSt.put {n i : Nat} {w wr : World} (h : ByteSt n i w wr) (hi : i < 32) : ByteSt n (i + 1) w (wr.setCell ⟨w.heap.size + 1, 31 - i, none⟩ (.int .u8 (byt n i))) := by
  refine ⟨h.b.setCell (by dsimp only; omega) _, h.ha.far (by dsimp only; omega) _, ?_⟩
  have h1 := h.ho.set_ (31 - i) (.int .u8 (byt n i))
  rw [u8A_set, mby_set n i hi] at h1
  exact h1
set_option maxHeartbeats 2000000 in
theorem bytes_any (n : Nat) (w : World) : Calls Try.prog 67 #[num n] w fun e w' => e = .returned (.string (bst n)) ∧ Below w.heap.size w w' := by
  go_enter Try.func67, Try.ntmps67
  go_wp2
  go_loopw [5] (fun s wr => ByteRel n w s wr) (fun s _ => 32 - (intOf s).toNat)
  case atStart =>
    refine ⟨0, rfl, by omega, (by go_grown), (Blk.newAt (n := w.heap.size) _ _ _ rfl).alloc _, ?_⟩
    rw [mby_zero]
    exact Blk.newAt (n := w.heap.size + 1) _ _ _ (by simp)
  case round =>
    unfold ByteRel at hrel
    obtain ⟨i, rfl, hi, hst⟩ := hrel
    by_cases hlt : i < 32
    · have hdt : decide ((i : Int) < 32) = true := by simp; omega
      have w1 : IntKind.i64.wrap (31 - (i : Int)) = 31 - (i : Int) := IntWalk.i64_in _ (by omega)
      have w2 : 0 ≤ (i : Int) / 8 := by omega
      have w3 : (i : Int) / 8 < 4 := by omega
      have w4 : ((i : Int) / 8).toNat = i / 8 := by omega
      have w5 : 0 ≤ 31 - (i : Int) := by omega
      have w6 : 31 - (i : Int) < 32 := by omega
      have w7 : (31 - (i : Int)).toNat = 31 - i := by omega
      have hx : wr.cell? ⟨w.heap.size, i / 8, none⟩ = some (.int .u64 (lb n (i / 8))) := by rw [hst.ha.cell]; exact num_at n (i / 8) (by omega)
      have hcell : wr.cell? ⟨w.heap.size + 1, 31 - i, none⟩ = some (.int .u8 0) := by
        rw [hst.ho.cell]; refine u8A_get _ _ _ ?_
        rw [mby_get n i (31 - i) (by omega), if_neg (by omega)]
      have hfro := hst.ho.frozen (31 - i)
      have l0 := lb_lo n (i / 8)
      have l1 := lb_hi n (i / 8)
      have hsb := shr_byte n i
      go_wp2
      go_roundw
      case rel =>
        refine ⟨i + 1, by go_num, by omega, ?_⟩
        exact hst.put hlt
      case measure => simp [intOf]; omega
    · have h32 : i = 32 := by omega
      subst h32
      have hrd : ReadsInt wr .u8 (some ⟨w.heap.size + 1, 0, none⟩) 32 (mby n 32) := by
        refine ⟨mby_length _ _, by omega, fun _ => ⟨_, rfl, fun j hj => ?_⟩⟩
        have h1 : (⟨w.heap.size + 1, 0, none⟩ : Addr).add j = ⟨w.heap.size + 1, j, none⟩ := by simp [Addr.add]; try (intro h; exact h.symm)
        rw [h1, hst.ho.cell, u8A_get _ _ _ (mby_get n 32 j hj)]
        rw [List.getD_eq_getElem?_getD, mby_get n 32 j hj]; rfl
      have hcs := string_of_reads (P := Try.prog) Try.underlying83 Try.underlying5 Try.underlying9 (c := 32) hrd
      rw [mby_all, ← bst_def] at hcs
      go_wp2
      go_ret
      refine ⟨rfl, ?_⟩
      have hb := hst.b
      go_grown
end Go.Proofs.Ytlibfjemdiochaa
namespace Go.Proofs.Ytlibfjemdiochaa
set_option linter.unusedVariables false
set_option linter.unusedSimpArgs false
open Go.RowKit Go.Proofs.YtlibfjemdiochaaW.PrintWords

/-- s is the number's bytes, the highest first. -/
def IsBytes (s : ByteArray) (n : Nat) : Prop := s.size = 32 ∧ ∀ i (h : i < s.size), ((s[i]'h).toNat : Int) = byt n (31 - i)
theorem index_byte (s : ByteArray) (n : Nat) (hs : IsBytes s n) (i : Nat) (hi : i < 32) (z : Int) (hz : z = 31 - (i : Int)) (w : World) : (Instr.index 9 (.string s) (.int .i64 z)).run Try.prog w = .ok (.int .u8 (byt n i)) w := by
  subst hz
  rw [run_index_string w 9 s .i64 _ Try.underlying9]
  have h1 := hs.1
  have h0 : 0 ≤ 31 - (i : Int) ∧ 31 - (i : Int) < s.size := by omega
  rw [dif_pos h0]
  have h2 := hs.2 (31 - (i : Int)).toNat (by omega)
  rw [h2]
  congr 3
  omega
theorem isBytes_size {s : ByteArray} {n : Nat} (hs : IsBytes s n) : s.size = 32 := hs.1
structure FromSt (n i : Nat) (w wr : World) : Prop where
  b : Below w.heap.size w wr
  hq : Blk wr w.heap.size 24 #[.int .u64 0, .int .u64 0, .int .u64 0, .int .u64 0]
  ho : Blk wr (w.heap.size + 1) 24 #[.int .u64 (lw n i 0), .int .u64 (lw n i 1), .int .u64 (lw n i 2), .int .u64 (lw n i 3)]
def FromRel (n : Nat) (w : World) (s : Value) (wr : World) : Prop := ∃ i : Nat, s = .int .i64 (i : Int) ∧ i ≤ 32 ∧ FromSt n i w wr
theorem FromSt.drewN {n i : Nat} {w wr : World} (h : FromSt n i w wr) (m : Nat) : FromSt n i w (wr.drewN m) := ⟨⟨h.b.os, h.b.tape, h.b.output, h.b.size, h.b.block⟩, h.hq, h.ho⟩
theorem lw_word (n i k : Nat) (hk : k < 4) : (#[.int .u64 (lw n i 0), .int .u64 (lw n i 1), .int .u64 (lw n i 2), .int .u64 (lw n i 3)] : Array Value)[k]? = some (.int .u64 (lw n i k)) := by
  obtain rfl | rfl | rfl | rfl : k = 0 ∨ k = 1 ∨ k = 2 ∨ k = 3 := by omega
  all_goals rfl
theorem FromSt.put {n i : Nat} {w wr : World} (h : FromSt n i w wr) (hi : i < 32) : FromSt n (i + 1) w (wr.setCell ⟨w.heap.size + 1, i / 8, none⟩ (.int .u64 (lw n (i + 1) (i / 8)))) := by
  refine ⟨h.b.setCell (by dsimp only; omega) _, h.hq.far (by dsimp only; omega) _, ?_⟩
  have h1 := h.ho.set_ (i / 8) (.int .u64 (lw n (i + 1) (i / 8)))
  have f0 := fun e => lw_far n i 0 e
  have f1 := fun e => lw_far n i 1 e
  have f2 := fun e => lw_far n i 2 e
  have f3 := fun e => lw_far n i 3 e
  have hk : i / 8 = 0 ∨ i / 8 = 1 ∨ i / 8 = 2 ∨ i / 8 = 3 := by omega
  rcases hk with hk | hk | hk | hk <;> rw [hk] at h1 ⊢
  · rw [f1 (by omega), f2 (by omega), f3 (by omega)] at h1; exact h1
  · rw [f0 (by omega), f2 (by omega), f3 (by omega)] at h1; exact h1
  · rw [f0 (by omega), f1 (by omega), f3 (by omega)] at h1; exact h1
  · rw [f0 (by omega), f1 (by omega), f2 (by omega)] at h1; exact h1
set_option maxHeartbeats 2000000 in
theorem from_any (n : Nat) (s : ByteArray) (hs : IsBytes s n) (w : World) : Calls Try.prog 68 #[.string s] w fun e w' => e = .returned (.tuple #[num n, .int .i64 0]) ∧ Below w.heap.size w w' := by
  have hsz := isBytes_size hs
  go_enter Try.func68, Try.ntmps68
  go_wp2
  go_loopw [10] (fun s wr => FromRel n w s wr) (fun s _ => 32 - (intOf s).toNat)
  case atStart =>
    refine ⟨0, rfl, by omega, (by go_grown), (Blk.newAt (n := w.heap.size) _ _ _ rfl).alloc _, ?_⟩
    rw [lw_zero, lw_zero, lw_zero, lw_zero]
    exact Blk.newAt (n := w.heap.size + 1) _ _ _ (by simp)
  case round =>
    unfold FromRel at hrel
    obtain ⟨i, rfl, hi, hst⟩ := hrel
    by_cases hlt : i < 32
    · have hdt : decide ((i : Int) < 32) = true := by simp; omega
      have w1 : IntKind.i64.wrap (31 - (i : Int)) = 31 - (i : Int) := IntWalk.i64_in _ (by omega)
      have w2 : 0 ≤ (i : Int) / 8 := by omega
      have w3 : (i : Int) / 8 < 4 := by omega
      have w4 : ((i : Int) / 8).toNat = i / 8 := by omega
      have hx : wr.cell? ⟨w.heap.size + 1, i / 8, none⟩ = some (.int .u64 (lw n i (i / 8))) := by rw [hst.ho.cell]; exact lw_word n i (i / 8) (by omega)
      have hfro := hst.ho.frozen (i / 8)
      have hix := index_byte s n hs i hlt _ rfl
      have b0 := byt_lo n i
      have b1 := byt_hi n i
      obtain ⟨hor, hsl⟩ := lw_here n i (i / 8) rfl
      go_wp2
      go_region
      go_wp2
      go_roundw
      case rel =>
        have w5 : IntKind.u64.wrap (byt n i * 2 ^ (8 * (i % 8))) = byt n i * 2 ^ (8 * (i % 8)) := IntWalk.u64_in _ ⟨Int.mul_nonneg b0 (Int.le_of_lt (Int.pow_pos (by omega))), by omega⟩
        refine ⟨i + 1, by go_num, by omega, ?_⟩
        rw [w5, hor]
        exact (hst.put hlt).drewN 1
      case measure => simp [intOf]; omega
    · have h32 : i = 32 := by omega
      subst h32
      obtain ⟨kq1, kq2, kq3, kq4, _⟩ := hst.hq.knows
      obtain ⟨ko1, ko2, ko3, ko4, _⟩ := hst.ho.knows
      rw [lw_end n 0 (by omega), lw_end n 1 (by omega), lw_end n 2 (by omega), lw_end n 3 (by omega)] at ko1
      go_wp2
      refine bodyPost_ret (v := .tuple #[num n, .int .i64 0]) (by simp [results, Try.results68, go_sem, kq1, kq4]) rfl ?_
      refine ⟨rfl, ?_⟩
      have hb := hst.b
      go_grown
theorem from_bad (s : ByteArray) (hs : s.size ≠ 32) (hm : s.size ≤ maxLen) (w : World) : Calls Try.prog 68 #[.string s] w fun e w' => e = .returned (.tuple #[num 0, .int .i64 4]) ∧ Below w.heap.size w w' := by
  have hm2 : s.size ≤ 9223372036854775807 := by unfold maxLen at hm; omega
  have hne : ((s.size : Int) == 32) = false := by simp; omega
  rw [num_zero]
  go_enter Try.func68, Try.ntmps68
  go_wp2
  have kb : Blk (w.alloc (.cells #[.int .u64 0, .int .u64 0, .int .u64 0, .int .u64 0] 24)) w.heap.size 24 #[.int .u64 0, .int .u64 0, .int .u64 0, .int .u64 0] := Blk.new _ _ _
  obtain ⟨kq1, kq2, kq3, kq4, _⟩ := kb.knows
  refine bodyPost_ret (v := .tuple #[zeroV, .int .i64 4]) (by simp [results, Try.results68, go_sem, kq1, kq4]) rfl ?_
  refine ⟨rfl, ?_⟩
  go_grown
/-! ### The document's -/
structure RomSt (n i : Nat) (w wr : World) : Prop where
  b : Below w.heap.size w wr
  hq : Blk wr w.heap.size 24 #[.int .u64 0, .int .u64 0, .int .u64 0, .int .u64 0]
  ho : Blk wr (w.heap.size + 1) 24 #[.int .u64 (hw n i 0), .int .u64 (hw n i 1), .int .u64 (hw n i 2), .int .u64 (hw n i 3)]
def RomRel (n : Nat) (w : World) (s : Value) (wr : World) : Prop := ∃ i : Nat, s = .int .i64 (32 - (i : Int)) ∧ i ≤ 32 ∧ RomSt n i w wr
theorem RomSt.drewN {n i : Nat} {w wr : World} (h : RomSt n i w wr) (m : Nat) : RomSt n i w (wr.drewN m) := ⟨⟨h.b.os, h.b.tape, h.b.output, h.b.size, h.b.block⟩, h.hq, h.ho⟩
theorem hw_word (n i k : Nat) (hk : k < 4) : (#[.int .u64 (hw n i 0), .int .u64 (hw n i 1), .int .u64 (hw n i 2), .int .u64 (hw n i 3)] : Array Value)[k]? = some (.int .u64 (hw n i k)) := by
  obtain rfl | rfl | rfl | rfl : k = 0 ∨ k = 1 ∨ k = 2 ∨ k = 3 := by omega
  all_goals rfl
theorem RomSt.put {n i : Nat} {w wr : World} (h : RomSt n (i + 1) w wr) (hi : i < 32) : RomSt n i w (wr.setCell ⟨w.heap.size + 1, i / 8, none⟩ (.int .u64 (hw n i (i / 8)))) := by
  refine ⟨h.b.setCell (by dsimp only; omega) _, h.hq.far (by dsimp only; omega) _, ?_⟩
  have h1 := h.ho.set_ (i / 8) (.int .u64 (hw n i (i / 8)))
  have f0 := fun e => hw_far n i 0 e
  have f1 := fun e => hw_far n i 1 e
  have f2 := fun e => hw_far n i 2 e
  have f3 := fun e => hw_far n i 3 e
  have hk : i / 8 = 0 ∨ i / 8 = 1 ∨ i / 8 = 2 ∨ i / 8 = 3 := by omega
  rcases hk with hk | hk | hk | hk <;> rw [hk] at h1 ⊢
  · rw [f1 (by omega), f2 (by omega), f3 (by omega)]; exact h1
  · rw [f0 (by omega), f2 (by omega), f3 (by omega)]; exact h1
  · rw [f0 (by omega), f1 (by omega), f3 (by omega)]; exact h1
  · rw [f0 (by omega), f1 (by omega), f2 (by omega)]; exact h1
set_option maxHeartbeats 2000000 in
theorem rfrom_any (n : Nat) (s : ByteArray) (hs : IsBytes s n) (w : World) : Calls Try.prog 69 #[.string s] w fun e w' => e = .returned (.tuple #[num n, .int .i64 0]) ∧ Below w.heap.size w w' := by
  have hsz := isBytes_size hs
  go_enter Try.func69, Try.ntmps69
  go_wp2
  go_loopw [5, 6] (fun s _ wr => RomRel n w s wr) (fun s _ _ => 32 - (intOf s).toNat)
  case atStart =>
    refine ⟨32, by go_num, by omega, (by go_grown), (Blk.newAt (n := w.heap.size) _ _ _ rfl).alloc _, ?_⟩
    rw [hw_zero n 32 0 (by omega), hw_zero n 32 1 (by omega), hw_zero n 32 2 (by omega), hw_zero n 32 3 (by omega)]
    exact Blk.newAt (n := w.heap.size + 1) _ _ _ (by simp)
  case round =>
    unfold RomRel at hrel
    obtain ⟨i1, rfl, hi, hst⟩ := hrel
    by_cases hlt : 0 < i1
    · obtain ⟨i, rfl⟩ : ∃ i, i1 = i + 1 := ⟨i1 - 1, by omega⟩
      obtain ⟨z, hz⟩ : ∃ z : Int, z = 32 - ((i + 1 : Nat) : Int) := ⟨_, rfl⟩
      rw [← hz]
      have hz1 : z = 31 - (i : Int) := by omega
      have hdt : decide (z < 32) = true := by simp; omega
      have w1 : IntKind.i64.wrap (3 - z / 8) = ((i / 8 : Nat) : Int) := by rw [IntWalk.i64_in _ (by omega)]; omega
      have w3 : ((i / 8 : Nat) : Int) < 4 := by omega
      have w4 : (((i / 8 : Nat) : Int)).toNat = i / 8 := by omega
      have w5 : 0 ≤ ((i / 8 : Nat) : Int) := by omega
      have w6 : 3 - z / 8 = ((i / 8 : Nat) : Int) := by omega
      have hx : wr.cell? ⟨w.heap.size + 1, i / 8, none⟩ = some (.int .u64 (hw n (i + 1) (i / 8))) := by rw [hst.ho.cell]; exact hw_word n (i + 1) (i / 8) (by omega)
      have hfro := hst.ho.frozen (i / 8)
      have hix := index_byte s n hs i (by omega) z hz1
      have b0 := byt_lo n i
      have b1 := byt_hi n i
      have h0 := hw_lo n (i + 1) (i / 8)
      obtain ⟨hor, hsl⟩ := hw_here n i (i / 8) rfl
      have hh := hw_lo n i (i / 8)
      have hzs := Lib.hid hz
      have z0 : 0 ≤ z := by omega
      have z1 : z < 32 := by omega
      clear hz hz1
      go_wp2
      go_region
      go_wp2
      go_roundw
      case rel =>
        have hz := hzs.out
        refine ⟨i, by go_num, by omega, ?_⟩
        exact (hst.put (by omega)).drewN 1
      case measure => have hz := hzs.out; simp [intOf]; omega
    · have h32 : i1 = 0 := by omega
      subst h32
      obtain ⟨kq1, kq2, kq3, kq4, _⟩ := hst.hq.knows
      obtain ⟨ko1, ko2, ko3, ko4, _⟩ := hst.ho.knows
      rw [hw_end n 0, hw_end n 1, hw_end n 2, hw_end n 3] at ko1
      go_wp2
      refine bodyPost_ret (v := .tuple #[num n, .int .i64 0]) (by simp [results, Try.results69, go_sem, kq1, kq4]) rfl ?_
      refine ⟨rfl, ?_⟩
      have hb := hst.b
      go_grown
theorem rfrom_bad (s : ByteArray) (hs : s.size ≠ 32) (hm : s.size ≤ maxLen) (w : World) : Calls Try.prog 69 #[.string s] w fun e w' => e = .returned (.tuple #[num 0, .int .i64 4]) ∧ Below w.heap.size w w' := by
  have hm2 : s.size ≤ 9223372036854775807 := by unfold maxLen at hm; omega
  have hne : ((s.size : Int) == 32) = false := by simp; omega
  rw [num_zero]
  go_enter Try.func69, Try.ntmps69
  go_wp2
  have kb : Blk (w.alloc (.cells #[.int .u64 0, .int .u64 0, .int .u64 0, .int .u64 0] 24)) w.heap.size 24 #[.int .u64 0, .int .u64 0, .int .u64 0, .int .u64 0] := Blk.new _ _ _
  obtain ⟨kq1, kq2, kq3, kq4, _⟩ := kb.knows
  refine bodyPost_ret (v := .tuple #[zeroV, .int .i64 4]) (by simp [results, Try.results69, go_sem, kq1, kq4]) rfl ?_
  refine ⟨rfl, ?_⟩
  go_grown
end Go.Proofs.Ytlibfjemdiochaa
