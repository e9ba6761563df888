/- limb's choice between two numbers, and a bit. -/
import Derived.Test.YtbmokmkaebfneaaA
namespace Go.Proofs.Ytbmokmkaebfneaa
set_option linter.unusedVariables false
set_option linter.unusedSimpArgs false
open Go.RowKit

theorem wrap_m1 : IntKind.u64.wrap (-1) = 18446744073709551615 := by rw [IntKind.wrap_u64]; rfl
theorem and_all (x : Int) (h0 : 0 ≤ x) (h1 : x < 18446744073709551616) : bits .and .u64 x (IntKind.u64.wrap (-1)) = x := by
  obtain ⟨n, rfl⟩ := Int.eq_ofNat_of_zero_le h0
  rw [wrap_m1]
  have h := bits_and_u64_nat n 18446744073709551615 (by omega) (by omega)
  have e : n &&& 18446744073709551615 = n % 18446744073709551616 := Nat.and_two_pow_sub_one_eq_mod n 64
  rw [e] at h
  exact h.trans (by omega)
theorem andNot_all (x : Int) : bits .andNot .u64 x (IntKind.u64.wrap (-1)) = 0 := by
  rw [wrap_m1]
  show IntKind.u64.wrap ((BitVec.ofInt 64 x &&& ~~~(BitVec.ofInt 64 18446744073709551615)).toNat : Int) = 0
  have e : ~~~(BitVec.ofInt 64 18446744073709551615) = 0#64 := by decide
  rw [e, BitVec.and_zero]
  rfl
theorem and_none (x : Int) : bits .and .u64 x 0 = 0 := by
  show IntKind.u64.wrap ((BitVec.ofInt 64 x &&& (BitVec.ofInt 64 0)).toNat : Int) = 0
  have e : (BitVec.ofInt 64 0) = 0#64 := by decide
  rw [e, BitVec.and_zero]
  rfl
theorem andNot_none (x : Int) (h0 : 0 ≤ x) (h1 : x < 18446744073709551616) : bits .andNot .u64 x 0 = x := by
  obtain ⟨n, rfl⟩ := Int.eq_ofNat_of_zero_le h0
  show IntKind.u64.wrap ((BitVec.ofInt 64 (n : Int) &&& ~~~(BitVec.ofInt 64 0)).toNat : Int) = n
  have e : ~~~(BitVec.ofInt 64 0) = BitVec.allOnes 64 := by decide
  rw [e, BitVec.and_allOnes, BitVec.ofInt_natCast, BitVec.toNat_ofNat, IntKind.wrap_u64]
  omega
theorem or_none (x : Int) (h0 : 0 ≤ x) (h1 : x < 18446744073709551616) : bits .or .u64 x 0 = x := by
  obtain ⟨n, rfl⟩ := Int.eq_ofNat_of_zero_le h0
  have h := bits_or_u64_nat n 0 (by omega) (by omega)
  rw [Nat.or_zero] at h
  exact h
theorem none_or (x : Int) (h0 : 0 ≤ x) (h1 : x < 18446744073709551616) : bits .or .u64 0 x = x := by
  obtain ⟨n, rfl⟩ := Int.eq_ofNat_of_zero_le h0
  have h := bits_or_u64_nat 0 n (by omega) (by omega)
  rw [Nat.zero_or] at h
  exact h

set_option maxHeartbeats 1000000 in
theorem select_odd (x : Int) (a b : Nat) (hx : bits .and .u64 x 1 = 1) (w : World) : Calls Try.prog 85 #[.int .u64 x, num a, num b] w fun e w' => e = .returned (num a) ∧ Below w.heap.size w w' := by
  have k1 := fun i => and_all (lb a i) (lb_lo _ _) (lb_hi _ _)
  have k2 := fun i => andNot_all (lb b i)
  have k3 := fun i => or_none (lb a i) (lb_lo _ _) (lb_hi _ _)
  go_enter Try.func85, Try.ntmps85
  go_wp2
  refine wp_loop_rounds 5 ?_
  rw [rounds_succ]; go_wp2; go_region; go_wp2
  rw [rounds_succ]; go_wp2; go_region; go_wp2
  rw [rounds_succ]; go_wp2; go_region; go_wp2
  rw [rounds_succ]; go_wp2; go_region; go_wp2
  rw [rounds_succ]; go_wp2
  go_returns
  refine ⟨rfl, ?_⟩
  go_grown
set_option maxHeartbeats 1000000 in
theorem select_even (x : Int) (a b : Nat) (hx : bits .and .u64 x 1 = 0) (w : World) : Calls Try.prog 85 #[.int .u64 x, num a, num b] w fun e w' => e = .returned (num b) ∧ Below w.heap.size w w' := by
  have k1 := fun i => and_none (lb a i)
  have k2 := fun i => andNot_none (lb b i) (lb_lo _ _) (lb_hi _ _)
  have k3 := fun i => none_or (lb b i) (lb_lo _ _) (lb_hi _ _)
  go_enter Try.func85, Try.ntmps85
  go_wp2
  refine wp_loop_rounds 5 ?_
  rw [rounds_succ]; go_wp2; go_region; go_wp2
  rw [rounds_succ]; go_wp2; go_region; go_wp2
  rw [rounds_succ]; go_wp2; go_region; go_wp2
  rw [rounds_succ]; go_wp2; go_region; go_wp2
  rw [rounds_succ]; go_wp2
  go_returns
  refine ⟨rfl, ?_⟩
  go_grown
theorem bit_is : ∃ f : Int → Nat → Nat → Nat, ∀ x a b, f x a b = if x % 2 = 1 then a else b := ⟨fun x a b => if x % 2 = 1 then a else b, fun _ _ _ => rfl⟩
noncomputable def selN : Int → Nat → Nat → Nat := Classical.choose bit_is
theorem selN_def (x : Int) (a b : Nat) : selN x a b = if x % 2 = 1 then a else b := Classical.choose_spec bit_is x a b
theorem select_any (x : Int) (a b : Nat) (h0 : 0 ≤ x) (h1 : x < 18446744073709551616) (w : World) : Calls Try.prog 85 #[.int .u64 x, num a, num b] w fun e w' => e = .returned (num (selN x a b)) ∧ Below w.heap.size w w' := by
  have h := and_one_u64 x h0 (by omega)
  rw [selN_def]
  by_cases hp : x % 2 = 1
  · rw [if_pos hp]; exact select_odd x a b (h.trans hp) w
  · rw [if_neg hp]; exact select_even x a b (h.trans (by omega)) w
end Go.Proofs.Ytbmokmkaebfneaa
