/- limb's remainder, told plainly. -/
import Derived.Test.YtlibfjemdiochaaE
namespace Go.Proofs.Ytlibfjemdiochaa
set_option linter.unusedVariables false
set_option linter.unusedSimpArgs false
open Go.RowKit

theorem mod_zero (x : Nat) (w : World) : Calls Try.prog 59 #[wide x, num 0] w fun e w' => e = .returned (.tuple #[num 0, .int .i64 1]) ∧ Below w.heap.size w w' := by
  have he := eqin_zero_same
  rw [num_zero] at he ⊢
  go_enter Try.func59, Try.ntmps59
  go_wp2
  have kf : Blk (((w.alloc (.cells #[.int .u64 (lb (x) 0), .int .u64 (lb (x) 1), .int .u64 (lb (x) 2), .int .u64 (lb (x) 3), .int .u64 (lb (x) 4), .int .u64 (lb (x) 5), .int .u64 (lb (x) 6), .int .u64 (lb (x) 7)] 43)).alloc (.cells #[.int .u64 0, .int .u64 0, .int .u64 0, .int .u64 0] 24)).alloc (.cells #[.int .u64 0, .int .u64 0, .int .u64 0, .int .u64 0] 24)) (w.heap.size + 1 + 1) 24 #[.int .u64 0, .int .u64 0, .int .u64 0, .int .u64 0] := Blk.newAt _ _ _ (by simp)
  obtain ⟨kf_c, kf_f, kf_l, _⟩ := kf.knows
  refine bodyPost_ret (v := .tuple #[zeroV, .int .i64 1]) (by simp [results, Try.results59, go_sem, kf_c, kf_l]) rfl ?_
  exact ⟨rfl, by go_grown⟩
theorem mod_rest (x m : Nat) (hx : x < 18446744073709551616 ^ 8) (hm : m < RR) (h0 : m ≠ 0) (w : World) : Calls Try.prog 59 #[wide x, num m] w fun e w' => e = .returned (.tuple #[num (x % m), .int .i64 0]) ∧ Below w.heap.size w w' := by
  have h := mod_any x m hx hm h0 w
  rw [upN_def, Nat.pow_zero, Nat.div_one] at h
  exact h
end Go.Proofs.Ytlibfjemdiochaa
