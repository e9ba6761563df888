/- limb's remainder of a wide number. limb's remainder, told plainly. -/
import Derived.Test.YtbmokmkaebfneaaD
import Derived.Test.YtbmokmkaebfneaaA
namespace Go.Proofs.Ytbmokmkaebfneaa
set_option linter.unusedVariables false
set_option linter.unusedSimpArgs false
open Go.RowKit

/-- The remainder of what stands above bit i. -/
theorem upN_is : ∃ f : Nat → Nat → Nat → Nat, ∀ x m i, f x m i = x / 2 ^ i % m := ⟨fun x m i => x / 2 ^ i % m, fun _ _ _ => rfl⟩
noncomputable def upN : Nat → Nat → Nat → Nat := Classical.choose upN_is
theorem upN_def (x m i : Nat) : upN x m i = x / 2 ^ i % m := Classical.choose_spec upN_is x m i

/-- What Mod keeps: the wide number, the modulus, the result's place, and what is left so far. -/
structure ModSt (x m r : Nat) (w wr : World) : Prop where
  b : Below w.heap.size w wr
  hx : Blk wr w.heap.size 81 #[.int .u64 (lb x 0), .int .u64 (lb x 1), .int .u64 (lb x 2), .int .u64 (lb x 3), .int .u64 (lb x 4), .int .u64 (lb x 5), .int .u64 (lb x 6), .int .u64 (lb x 7)]
  hm : Blk wr (w.heap.size + 1) 24 #[.int .u64 (lb m 0), .int .u64 (lb m 1), .int .u64 (lb m 2), .int .u64 (lb m 3)]
  hq : Blk wr (w.heap.size + 1 + 1) 24 #[.int .u64 0, .int .u64 0, .int .u64 0, .int .u64 0]
  hr : Blk wr (w.heap.size + 1 + 1 + 1) 24 #[.int .u64 (lb r 0), .int .u64 (lb r 1), .int .u64 (lb r 2), .int .u64 (lb r 3)]
theorem ModSt.after {x m r : Nat} {w wr w1 : World} (h : ModSt x m r w wr) (hb : Below wr.heap.size wr w1) : ModSt x m r w w1 :=
  ⟨below_call hb h.b, h.hx.after hb, h.hm.after hb, h.hq.after hb, h.hr.after hb⟩
theorem ModSt.alloc {x m r : Nat} {w wr : World} (h : ModSt x m r w wr) (o : Obj) : ModSt x m r w (wr.alloc o) :=
  ⟨h.b.alloc h.b.size o, h.hx.alloc o, h.hm.alloc o, h.hq.alloc o, h.hr.alloc o⟩
theorem ModSt.drew {x m r : Nat} {w wr : World} (h : ModSt x m r w wr) : ModSt x m r w wr.drew := ⟨h.b.drew, h.hx, h.hm, h.hq, h.hr⟩
theorem ModSt.put (x m r r' : Nat) (w wr : World) (h : ModSt x m r w wr) : ModSt x m r' w ((((wr.setCell ⟨w.heap.size + 1 + 1 + 1, 0, none⟩ (.int .u64 (lb r' 0))).setCell ⟨w.heap.size + 1 + 1 + 1, 1, none⟩ (.int .u64 (lb r' 1))).setCell ⟨w.heap.size + 1 + 1 + 1, 2, none⟩ (.int .u64 (lb r' 2))).setCell ⟨w.heap.size + 1 + 1 + 1, 3, none⟩ (.int .u64 (lb r' 3))) := by
  refine ⟨?_, ?_, ?_, ?_, ?_⟩
  · exact (((h.b.setCell (by dsimp only; omega) _).setCell (by dsimp only; omega) _).setCell (by dsimp only; omega) _).setCell (by dsimp only; omega) _
  · exact (((h.hx.far (by dsimp only; omega) _).far (by dsimp only; omega) _).far (by dsimp only; omega) _).far (by dsimp only; omega) _
  · exact (((h.hm.far (by dsimp only; omega) _).far (by dsimp only; omega) _).far (by dsimp only; omega) _).far (by dsimp only; omega) _
  · exact (((h.hq.far (by dsimp only; omega) _).far (by dsimp only; omega) _).far (by dsimp only; omega) _).far (by dsimp only; omega) _
  · exact (((h.hr.set_ 0 _).set_ 1 _).set_ 2 _).set_ 3 _
theorem ModSt.put0 (x m r r' : Nat) (w wr : World) (h : ModSt x m r w wr) (e1 : lb r 1 = lb r' 1) (e2 : lb r 2 = lb r' 2) (e3 : lb r 3 = lb r' 3) : ModSt x m r' w (wr.setCell ⟨w.heap.size + 1 + 1 + 1, 0, none⟩ (.int .u64 (lb r' 0))) := by
  refine ⟨?_, ?_, ?_, ?_, ?_⟩
  · exact h.b.setCell (by dsimp only; omega) _
  · exact h.hx.far (by dsimp only; omega) _
  · exact h.hm.far (by dsimp only; omega) _
  · exact h.hq.far (by dsimp only; omega) _
  · have h1 := h.hr.set_ 0 (.int .u64 (lb r' 0))
    rw [e1, e2, e3] at h1
    exact h1
def ModRel (x m : Nat) (w : World) (s8 : Value) (wr : World) : Prop := ∃ z : Int, s8 = .int .i64 z ∧ -1 ≤ z ∧ z ≤ 511 ∧ ModSt x m (upN x m (z + 1).toNat) w wr
/-! ### A bit more -/
/-- Twice r, and a bit. -/
theorem twN_is : ∃ f : Nat → Nat → Nat, ∀ r b, f r b = (2 * r + b) % RR := ⟨fun r b => (2 * r + b) % RR, fun _ _ => rfl⟩
noncomputable def twN : Nat → Nat → Nat := Classical.choose twN_is
theorem twN_def (r b : Nat) : twN r b = (2 * r + b) % RR := Classical.choose_spec twN_is r b
/-- Bit i. -/
theorem btN_is : ∃ f : Nat → Nat → Nat, ∀ x i, f x i = x / 2 ^ i % 2 := ⟨fun x i => x / 2 ^ i % 2, fun _ _ => rfl⟩
noncomputable def btN : Nat → Nat → Nat := Classical.choose btN_is
theorem btN_def (x i : Nat) : btN x i = x / 2 ^ i % 2 := Classical.choose_spec btN_is x i
theorem btN_le (x i : Nat) : btN x i ≤ 1 := by rw [btN_def]; omega
theorem over_is (r : Nat) (hr : r < RR) : lb r 3 / 9223372036854775808 = ca r r 4 := by
  rw [ca_four r r hr hr, lb_def, lb3]
  unfold RR at *
  omega
theorem tw_word (r b : Nat) (hb : b ≤ 1) : lb (addN r r) 1 = lb (twN r b) 1 ∧ lb (addN r r) 2 = lb (twN r b) 2 ∧ lb (addN r r) 3 = lb (twN r b) 3 := by
  have e : addN r r % 2 = 0 := by rw [addN_def]; unfold RR; omega
  have e2 : twN r b = addN r r + b := by rw [twN_def, addN_def]; unfold RR; omega
  rw [e2]
  simp only [lb_def, lbN]
  generalize addN r r = s at *
  refine ⟨?_, ?_, ?_⟩ <;> omega
theorem or_even (s b : Nat) (hs : s % 2 = 0) (hb : b ≤ 1) : s ||| b = s + b := by
  have h0 : b = 0 ∨ b = 1 := by omega
  rcases h0 with rfl | rfl
  · simp
  · have h := Nat.two_pow_add_eq_or_of_lt (i := 1) (b := 1) (by omega) (s / 2)
    have e : 2 ^ 1 * (s / 2) = s := by omega
    rw [e] at h
    exact h.symm
theorem tw_zero (r b : Nat) (hb : b ≤ 1) : bits .or .u64 (lb (addN r r) 0) (b : Int) = lb (twN r b) 0 := by
  have e : addN r r % 2 = 0 := by rw [addN_def]; unfold RR; omega
  have e2 : twN r b = addN r r + b := by rw [twN_def, addN_def]; unfold RR; omega
  have h := bits_or_u64_nat (lbN (addN r r) 0) b (lbN_lt _ _) (by omega)
  rw [or_even _ _ (by rw [lb0]; omega) hb] at h
  rw [lb_def, h, e2, lb_def, lb0, lb0]
  omega
theorem up_step (x m i : Nat) (hm : 0 < m) : upN x m i = (2 * upN x m (i + 1) + btN x i) % m := by
  rw [upN_def, upN_def, btN_def, Nat.pow_succ, ← Nat.div_div_eq_div_mul]
  generalize x / 2 ^ i = y
  have e : y = 2 * (y / 2) + y % 2 := by omega
  conv => lhs; rw [e]
  rw [Nat.add_mod, Nat.mul_mod, Nat.add_mod (2 * (y / 2 % m)), Nat.mul_mod 2 (y / 2 % m), Nat.mod_mod]
theorem up_lt (x m i : Nat) (hm : 0 < m) : upN x m i < m := by rw [upN_def]; exact Nat.mod_lt _ hm
theorem mod_pick (x m i : Nat) (hm : 0 < m) (hR : m < RR) (y : Int) (hy : y % 2 = if ca (upN x m (i + 1)) (upN x m (i + 1)) 4 = 1 then 1 else 1 - bo (twN (upN x m (i + 1)) (btN x i)) m 4) :
    selN y (subN (twN (upN x m (i + 1)) (btN x i)) m) (twN (upN x m (i + 1)) (btN x i)) = upN x m i := by
  have h1 := up_lt x m (i + 1) hm
  have h2 := btN_le x i
  have h3 := ca_four (upN x m (i + 1)) (upN x m (i + 1)) (by omega) (by omega)
  rw [up_step x m i hm]
  refine final_sub _ ((upN x m (i + 1) + upN x m (i + 1)) / RR) _ m hR ?_ ?_ ?_ _ rfl y ?_
  · omega
  · rw [twN_def]; exact Nat.mod_lt _ (by unfold RR; omega)
  · rw [twN_def]
    have : (upN x m (i + 1) + upN x m (i + 1)) / RR = (2 * upN x m (i + 1) + btN x i) / RR := by unfold RR; omega
    rw [this]
    have := Nat.div_add_mod (2 * upN x m (i + 1) + btN x i) RR
    rw [Nat.mul_comm] at this
    exact this.symm
  · rw [hy, h3]
    have e : (((upN x m (i + 1) + upN x m (i + 1)) / RR : Nat) : Int) = 1 ↔ (upN x m (i + 1) + upN x m (i + 1)) / RR = 1 := by omega
    by_cases c : (upN x m (i + 1) + upN x m (i + 1)) / RR = 1
    · rw [if_pos (e.2 c), if_pos c]
    · rw [if_neg (fun h => c (e.1 h)), if_neg c]
theorem wide_at (x k : Nat) (hk : k < 8) : (#[.int .u64 (lb x 0), .int .u64 (lb x 1), .int .u64 (lb x 2), .int .u64 (lb x 3), .int .u64 (lb x 4), .int .u64 (lb x 5), .int .u64 (lb x 6), .int .u64 (lb x 7)] : Array Value)[k]? = some (.int .u64 (lb x k)) := by
  obtain rfl | rfl | rfl | rfl | rfl | rfl | rfl | rfl : k = 0 ∨ k = 1 ∨ k = 2 ∨ k = 3 ∨ k = 4 ∨ k = 5 ∨ k = 6 ∨ k = 7 := by omega
  all_goals rfl
theorem or_bit (x r i : Nat) : bits .or .u64 (lb (addN r r) 0) (bits .and .u64 (lb x (i / 64) / 2 ^ (i % 64)) 1) = lb (twN r (btN x i)) 0 := by
  have e : bits .and .u64 (lb x (i / 64) / 2 ^ (i % 64)) 1 = (btN x i : Nat) := by
    have h0 : lb x (i / 64) / 2 ^ (i % 64) = ((lbN x (i / 64) / 2 ^ (i % 64) : Nat) : Int) := by
      rw [lb_def, Int.natCast_ediv, Int.natCast_pow]; rfl
    have hl := lbN_lt x (i / 64)
    have hl2 : lbN x (i / 64) / 2 ^ (i % 64) ≤ lbN x (i / 64) := Nat.div_le_self _ _
    have hq : lbN x (i / 64) / 2 ^ (i % 64) ≤ 18446744073709551615 := by omega
    rw [h0, and_one_u64 _ (Int.natCast_nonneg _) (by generalize lbN x (i / 64) / 2 ^ (i % 64) = q at *; omega), btN_def, lbN_eq]
    have e2 : (18446744073709551616 : Nat) = 2 ^ 64 := rfl
    have e3 : x / 2 ^ i % 2 = x / 18446744073709551616 ^ (i / 64) % 18446744073709551616 / 2 ^ (i % 64) % 2 := by
      have hi : 2 ^ i = 18446744073709551616 ^ (i / 64) * 2 ^ (i % 64) := by
        rw [e2, ← Nat.pow_mul, ← Nat.pow_add]; congr 1; omega
      rw [hi, ← Nat.div_div_eq_div_mul]
      generalize x / 18446744073709551616 ^ (i / 64) = y
      have h64 : i % 64 < 64 := Nat.mod_lt _ (by omega)
      generalize i % 64 = s at *
      have hs : 18446744073709551616 = 2 ^ s * 2 ^ (64 - s) := by rw [← Nat.pow_add, e2]; congr 1; omega
      conv => rhs; rw [hs]
      rw [Nat.mod_mul_right_div_self]
      have h2 : 2 ^ (64 - s) = 2 * 2 ^ (63 - s) := by rw [← Nat.pow_succ']; congr 1; omega
      rw [h2, Nat.mod_mul_right_mod]
    rw [e3]
    omega
  rw [e, tw_zero _ _ (btN_le _ _)]
theorem up_zero (x m k : Nat) (h : x < 18446744073709551616 ^ k) : upN x m (64 * k) = 0 := by
  have e2 : (18446744073709551616 : Nat) = 2 ^ 64 := rfl
  rw [e2, ← Nat.pow_mul] at h
  rw [upN_def, Nat.div_eq_of_lt h, Nat.zero_mod]
theorem mod_start (x m : Nat) (w : World) : ModSt x m 0 w ((((w.alloc (.cells #[.int .u64 (lb x 0), .int .u64 (lb x 1), .int .u64 (lb x 2), .int .u64 (lb x 3), .int .u64 (lb x 4), .int .u64 (lb x 5), .int .u64 (lb x 6), .int .u64 (lb x 7)] 81)).alloc (.cells #[.int .u64 (lb m 0), .int .u64 (lb m 1), .int .u64 (lb m 2), .int .u64 (lb m 3)] 24)).alloc (.cells #[.int .u64 0, .int .u64 0, .int .u64 0, .int .u64 0] 24)).alloc (.cells #[.int .u64 0, .int .u64 0, .int .u64 0, .int .u64 0] 24)) := by
  refine ⟨(by go_grown), (((Blk.newAt _ _ _ rfl).alloc _).alloc _).alloc _, ((Blk.newAt _ _ _ (by simp)).alloc _).alloc _, (Blk.newAt _ _ _ (by simp)).alloc _, ?_⟩
  rw [lb_zero, lb_zero, lb_zero, lb_zero]
  exact Blk.newAt _ _ _ (by simp)
def TopIs (x : Nat) (s7 : Value) : Prop := ∃ k : Nat, k ≤ 8 ∧ s7 = .int .i64 (64 * (k : Int) - 1) ∧ x < 18446744073709551616 ^ k
theorem topIs (x k : Nat) (z : Int) (hk : k ≤ 8) (hz : z = 64 * (k : Int) - 1) (h : x < 18446744073709551616 ^ k) : TopIs x (.int .i64 z) := ⟨k, hk, by rw [hz], h⟩
theorem top_down (x k : Nat) (h : x < 18446744073709551616 ^ (k + 1)) (hz : (lb x k == 0) = true) : x < 18446744073709551616 ^ k := by
  rw [beq_iff_eq, lb_def] at hz
  have e := mod_succ x k
  rw [Nat.mod_eq_of_lt h] at e
  have : lbN x k = 0 := by omega
  rw [this, Nat.mul_zero, Nat.add_zero] at e
  rw [e]
  exact Nat.mod_lt _ (Nat.pow_pos (by omega))
set_option maxHeartbeats 2000000 in
theorem mod_any (x m : Nat) (hx : x < 18446744073709551616 ^ 8) (hm : m < RR) (h0 : m ≠ 0) (w : World) : Calls Try.prog 82 #[wide x, num m] w fun e w' => e = .returned (.tuple #[num (upN x m 0), .int .i64 0]) ∧ Below w.heap.size w w' := by
  have he := eqin_zero_other hm h0
  go_enter Try.func82, Try.ntmps82
  go_upto_block 0 with (fail)
  go_cut [7] (fun s7 wx => TopIs x s7 ∧ wx = (((w.alloc (.cells #[.int .u64 (lb x 0), .int .u64 (lb x 1), .int .u64 (lb x 2), .int .u64 (lb x 3), .int .u64 (lb x 4), .int .u64 (lb x 5), .int .u64 (lb x 6), .int .u64 (lb x 7)] 81)).alloc (.cells #[.int .u64 (lb m 0), .int .u64 (lb m 1), .int .u64 (lb m 2), .int .u64 (lb m 3)] 24)).alloc (.cells #[.int .u64 0, .int .u64 0, .int .u64 0, .int .u64 0] 24)).alloc (.cells #[.int .u64 0, .int .u64 0, .int .u64 0, .int .u64 0] 24))
  case first =>
    go_wp2
    go_loop [7] (fun s7 => TopIs x s7) (fun s7 => (intOf s7 + 1).toNat)
    case atStart => exact topIs x 8 _ (by omega) (by omega) hx
    case round =>
      obtain ⟨k, hk, rfl, hk2⟩ := hrel
      have hk2' := Lib.hid hk2
      clear hk2
      obtain rfl | rfl | rfl | rfl | rfl | rfl | rfl | rfl | rfl : k = 0 ∨ k = 1 ∨ k = 2 ∨ k = 3 ∨ k = 4 ∨ k = 5 ∨ k = 6 ∨ k = 7 ∨ k = 8 := by omega
      · go_wp2_with fail
        go_meet
        exact ⟨topIs x 0 _ (by omega) (by omega) hk2'.out, rfl⟩
      · by_cases hz : (lb x 0 == 0) = true
        · go_wp2
          go_round
          case rel => exact topIs x 0 _ (by omega) (by omega) (top_down x 0 hk2'.out hz)
          case measure => simp [intOf]
        · have hz' : (lb x 0 == 0) = false := by simpa using hz
          go_wp2_with fail
          go_meet
          exact ⟨topIs x 1 _ (by omega) (by omega) hk2'.out, rfl⟩
      · by_cases hz : (lb x 1 == 0) = true
        · go_wp2
          go_round
          case rel => exact topIs x 1 _ (by omega) (by omega) (top_down x 1 hk2'.out hz)
          case measure => simp [intOf]
        · have hz' : (lb x 1 == 0) = false := by simpa using hz
          go_wp2_with fail
          go_meet
          exact ⟨topIs x 2 _ (by omega) (by omega) hk2'.out, rfl⟩
      · by_cases hz : (lb x 2 == 0) = true
        · go_wp2
          go_round
          case rel => exact topIs x 2 _ (by omega) (by omega) (top_down x 2 hk2'.out hz)
          case measure => simp [intOf]
        · have hz' : (lb x 2 == 0) = false := by simpa using hz
          go_wp2_with fail
          go_meet
          exact ⟨topIs x 3 _ (by omega) (by omega) hk2'.out, rfl⟩
      · by_cases hz : (lb x 3 == 0) = true
        · go_wp2
          go_round
          case rel => exact topIs x 3 _ (by omega) (by omega) (top_down x 3 hk2'.out hz)
          case measure => simp [intOf]
        · have hz' : (lb x 3 == 0) = false := by simpa using hz
          go_wp2_with fail
          go_meet
          exact ⟨topIs x 4 _ (by omega) (by omega) hk2'.out, rfl⟩
      · by_cases hz : (lb x 4 == 0) = true
        · go_wp2
          go_round
          case rel => exact topIs x 4 _ (by omega) (by omega) (top_down x 4 hk2'.out hz)
          case measure => simp [intOf]
        · have hz' : (lb x 4 == 0) = false := by simpa using hz
          go_wp2_with fail
          go_meet
          exact ⟨topIs x 5 _ (by omega) (by omega) hk2'.out, rfl⟩
      · by_cases hz : (lb x 5 == 0) = true
        · go_wp2
          go_round
          case rel => exact topIs x 5 _ (by omega) (by omega) (top_down x 5 hk2'.out hz)
          case measure => simp [intOf]
        · have hz' : (lb x 5 == 0) = false := by simpa using hz
          go_wp2_with fail
          go_meet
          exact ⟨topIs x 6 _ (by omega) (by omega) hk2'.out, rfl⟩
      · by_cases hz : (lb x 6 == 0) = true
        · go_wp2
          go_round
          case rel => exact topIs x 6 _ (by omega) (by omega) (top_down x 6 hk2'.out hz)
          case measure => simp [intOf]
        · have hz' : (lb x 6 == 0) = false := by simpa using hz
          go_wp2_with fail
          go_meet
          exact ⟨topIs x 7 _ (by omega) (by omega) hk2'.out, rfl⟩
      · by_cases hz : (lb x 7 == 0) = true
        · go_wp2
          go_round
          case rel => exact topIs x 7 _ (by omega) (by omega) (top_down x 7 hk2'.out hz)
          case measure => simp [intOf]
        · have hz' : (lb x 7 == 0) = false := by simpa using hz
          go_wp2_with fail
          go_meet
          exact ⟨topIs x 8 _ (by omega) (by omega) hk2'.out, rfl⟩
  case rest =>
    obtain ⟨⟨k, hk, rfl, hk2⟩, rfl⟩ := hcut
    have hk2' := Lib.hid hk2
    clear hk2
    go_wp2
    go_loopw [8] (fun s8 wr => ModRel x m w s8 wr) (fun s8 wr => (intOf s8 + 1).toNat)
    case atStart =>
      refine ⟨64 * (k : Int) - 1, rfl, by omega, by omega, ?_⟩
      rw [show (64 * (k : Int) - 1 + 1).toNat = 64 * k by omega, up_zero x m k hk2'.out]
      exact mod_start x m w
    case round =>
      unfold ModRel at hrel
      obtain ⟨z, rfl, hz0, hz1, hst⟩ := hrel
      by_cases hz : 0 ≤ z
      · obtain ⟨i, rfl⟩ := Int.eq_ofNat_of_zero_le hz
        rw [show ((i : Int) + 1).toNat = i + 1 by omega] at hst
        have hov := over_is (upN x m (i + 1)) (Nat.lt_trans (up_lt x m (i + 1) (by omega)) hm)
        obtain ⟨kx1, kx2, kx3, _, _⟩ := hst.hx.knows
        obtain ⟨km1, km2, km3, _, _⟩ := hst.hm.knows
        obtain ⟨kr1, kr2, kr3, _, _⟩ := hst.hr.knows
        go_upto_region 11 with (fail)
        go_cut [] (fun wx => ModSt x m (addN (upN x m (i + 1)) (upN x m (i + 1))) w wx)
        case first =>
          go_wp2_with (go_at_call 84; refine (add_any (upN x m (i + 1)) (upN x m (i + 1)) _).mono ?_; rintro e w1 ⟨rfl, hbw1⟩; have hst1 := hst.after hbw1; clear kx1 kx2 kx3 km1 km2 km3 kr1 kr2 kr3; obtain ⟨kr1, kr2, kr3, _, _⟩ := hst1.hr.knows)
          go_meet
          exact ModSt.put _ _ _ _ _ _ hst1
        case rest =>
        clear kx1 kx2 kx3 km1 km2 km3 kr1 kr2 kr3 hst
        have hA := hcut
        clear hcut
        obtain ⟨kx1, kx2, kx3, _, _⟩ := hA.hx.knows
        obtain ⟨kr1, kr2, kr3, _, _⟩ := hA.hr.knows
        have hxi : wc.cell? ⟨w.heap.size, i / 64, none⟩ = some (.int .u64 (lb x (i / 64))) := by
          rw [kx1]; exact wide_at x (i / 64) (by omega)
        clear kx1 kx2
        have hi63 : i / 64 < 8 := by omega
        have hbit := or_bit x (upN x m (i + 1)) i
        go_upto_region 12 with (fail)
        go_cut [] (fun wx => ModSt x m (twN (upN x m (i + 1)) (btN x i)) w wx)
        case first =>
          go_region
          go_wp2_with fail
          go_meet
          exact (ModSt.put0 x m _ _ _ _ hA (tw_word _ _ (btN_le _ _)).1 (tw_word _ _ (btN_le _ _)).2.1 (tw_word _ _ (btN_le _ _)).2.2).drew
        case rest =>
        clear hxi kx3 kr1 kr2 kr3 hA
        have hB := hcut
        clear hcut
        obtain ⟨km1, km2, km3, _, _⟩ := hB.hm.knows
        obtain ⟨kr1, kr2, kr3, _, _⟩ := hB.hr.knows
        have tw_lt : twN (upN x m (i + 1)) (btN x i) < RR := by rw [twN_def]; exact Nat.mod_lt _ (by unfold RR; omega)
        have o0 := ca_lo (upN x m (i + 1)) (upN x m (i + 1)) 4
        have o1 := ca_hi (upN x m (i + 1)) (upN x m (i + 1)) 4
        have b0 := bo_lo (twN (upN x m (i + 1)) (btN x i)) m 4
        have b1 := bo_hi (twN (upN x m (i + 1)) (btN x i)) m 4
        have ob := or_bounds (ca (upN x m (i + 1)) (upN x m (i + 1)) 4) (bo (twN (upN x m (i + 1)) (btN x i)) m 4) (by omega) (by omega)
        have op := or_parity (ca (upN x m (i + 1)) (upN x m (i + 1)) 4) (bo (twN (upN x m (i + 1)) (btN x i)) m 4) (by omega) (by omega)
        have pk := Lib.hid (mod_pick x m i (by omega) hm _ op)
        clear op
        go_wp2_with (first
          | (go_at_call 73; refine (sub_any (twN (upN x m (i + 1)) (btN x i)) m hm _).mono ?_; rintro e w2 ⟨rfl, hbw2⟩; have hC := hB.after hbw2; clear km1 km2 km3 kr1 kr2 kr3 hB; obtain ⟨kr1, kr2, kr3, kr4, _⟩ := hC.hr.knows)
          | (go_at_call 85; refine (select_any _ (subN (twN (upN x m (i + 1)) (btN x i)) m) (twN (upN x m (i + 1)) (btN x i)) ob.1 ob.2 _).mono ?_; rintro e w3 ⟨rfl, hbw3⟩; have hD := (hC.alloc _).after hbw3; clear kr1 kr2 kr3 kr4 hC; obtain ⟨kr1, kr2, kr3, kr4, _⟩ := hD.hr.knows; rw [pk.out]))
        go_roundw
        case rel =>
          refine ⟨(i : Int) - 1, rfl, by omega, by omega, ?_⟩
          rw [show ((i : Int) - 1 + 1).toNat = i by omega]
          exact ModSt.put _ _ _ _ _ _ hD
        case measure => simp [intOf]
      · have hzm : z = -1 := by omega
        subst hzm
        obtain ⟨kq1, kq2, kq3, kq4, _⟩ := hst.hq.knows
        obtain ⟨kr1, kr2, kr3, kr4, _⟩ := hst.hr.knows
        go_wp2
        refine bodyPost_ret (v := .tuple #[num (upN x m 0), .int .i64 0]) (by simp [results, Try.results82, go_sem, kq1, kq4]) rfl ?_
        refine ⟨rfl, ?_⟩
        have hb := hst.b
        go_grown
end Go.Proofs.Ytbmokmkaebfneaa
namespace Go.Proofs.Ytbmokmkaebfneaa
set_option linter.unusedVariables false
set_option linter.unusedSimpArgs false
open Go.RowKit

theorem mod_zero (x : Nat) (w : World) : Calls Try.prog 82 #[wide x, num 0] w fun e w' => e = .returned (.tuple #[num 0, .int .i64 1]) ∧ Below w.heap.size w w' := by
  have he := eqin_zero_same
  rw [num_zero] at he ⊢
  go_enter Try.func82, Try.ntmps82
  go_wp2
  have kf : Blk (((w.alloc (.cells #[.int .u64 (lb (x) 0), .int .u64 (lb (x) 1), .int .u64 (lb (x) 2), .int .u64 (lb (x) 3), .int .u64 (lb (x) 4), .int .u64 (lb (x) 5), .int .u64 (lb (x) 6), .int .u64 (lb (x) 7)] 81)).alloc (.cells #[.int .u64 0, .int .u64 0, .int .u64 0, .int .u64 0] 24)).alloc (.cells #[.int .u64 0, .int .u64 0, .int .u64 0, .int .u64 0] 24)) (w.heap.size + 1 + 1) 24 #[.int .u64 0, .int .u64 0, .int .u64 0, .int .u64 0] := Blk.newAt _ _ _ (by simp)
  obtain ⟨kf_c, kf_f, kf_l, _⟩ := kf.knows
  refine bodyPost_ret (v := .tuple #[zeroV, .int .i64 1]) (by simp [results, Try.results82, go_sem, kf_c, kf_l]) rfl ?_
  exact ⟨rfl, by go_grown⟩
theorem mod_rest (x m : Nat) (hx : x < 18446744073709551616 ^ 8) (hm : m < RR) (h0 : m ≠ 0) (w : World) : Calls Try.prog 82 #[wide x, num m] w fun e w' => e = .returned (.tuple #[num (x % m), .int .i64 0]) ∧ Below w.heap.size w w' := by
  have h := mod_any x m hx hm h0 w
  rw [upN_def, Nat.pow_zero, Nat.div_one] at h
  exact h
end Go.Proofs.Ytbmokmkaebfneaa
