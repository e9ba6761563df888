/- The small case that each statement of layer 1 asks: R - 1 and 1 are 0, with a carry. -/
import Derived.Test.YtcoljlanblngiaaQ
import Derived.Test.YtcoljlanblngiaaK
namespace Go.Proofs.Ytcoljlanblngiaa
set_option linter.unusedVariables false
set_option linter.unusedSimpArgs false
open Go.RowKit

theorem mostN_is : ∃ n : Nat, n = RR - 1 := ⟨_, rfl⟩
noncomputable def mostN : Nat := Classical.choose mostN_is
theorem mostN_def : mostN = RR - 1 := Classical.choose_spec mostN_is
theorem lb_most : lb mostN 0 = 18446744073709551615 ∧ lb mostN 1 = 18446744073709551615 ∧ lb mostN 2 = 18446744073709551615 ∧ lb mostN 3 = 18446744073709551615 := by
  rw [mostN_def]; unfold RR; simp only [lb_def, lbN]; decide
theorem mostN_lt : mostN < RR := by rw [mostN_def]; unfold RR; decide
abbrev oneV : Value := .agg #[.int .u64 1, .int .u64 0, .int .u64 0, .int .u64 0]
theorem num_one : num 1 = oneV := by
  have h : lb 1 0 = 1 ∧ lb 1 1 = 0 ∧ lb 1 2 = 0 ∧ lb 1 3 = 0 := by simp only [lb_def, lbN]; decide
  unfold num oneV; rw [h.1, h.2.1, h.2.2.1, h.2.2.2]
theorem most_any (w : World) : Calls Try.prog 27 #[] w fun e w' => e = .returned (num mostN) ∧ Below w.heap.size w w' := by
  go_enter Try.func27, Try.ntmps27
  go_wp2
  go_returns
  refine ⟨?_, ?_⟩
  · unfold num; rw [lb_most.1, lb_most.2.1, lb_most.2.2.1, lb_most.2.2.2]
  · go_grown
theorem add_most_one (w : World) : Calls Try.prog 18 #[num mostN, oneV] w fun e w' => e = .returned (.tuple #[zeroV, .int .u64 1]) ∧ Below w.heap.size w w' := by
  have h := add_any mostN 1 w
  have e1 : addN mostN 1 = 0 := by rw [addN_def, mostN_def]; unfold RR; decide
  have e2 : ca mostN 1 4 = 1 := by rw [ca_four _ _ mostN_lt (by unfold RR; decide), mostN_def]; unfold RR; decide
  rw [num_one, e1, e2, num_zero] at h
  exact h
theorem eqin_zero (w : World) : (Op.equalIn 10000 24 zeroV zeroV).run Try.prog w = .ok true w := by
  have h := eqin_same 0 w; rw [num_zero] at h; exact h
theorem turns_any (w : World) : Calls Try.prog 17 #[] w fun e w' => e = .returned (.bool true) ∧ Below w.heap.size w w' := by
  have he := eqin_zero
  go_enter Try.func17, Try.ntmps17
  go_wp2_with fail; (with_reducible refine (most_any _).mono ?_); rintro e w1 ⟨rfl, hbw1⟩; have b_w1 := below_call hbw1 (w := w) (by go_grown); have s_w1 := b_w1.size; obtain ⟨cw1, fw1, zw1⟩ := bcell hbw1; (try simp only [World.size_alloc, World.size_setCell, World.size_drew] at zw1 cw1 fw1); clear zw1 hbw1
  go_wp2_with fail; (with_reducible refine (add_most_one _).mono ?_); rintro e w2 ⟨rfl, hbw2⟩; have b_w2 := below_call hbw2 (w := w) (by go_grown); have s_w2 := b_w2.size; obtain ⟨cw2, fw2, zw2⟩ := bcell hbw2; (try simp only [World.size_alloc, World.size_setCell, World.size_drew] at zw2 cw2 fw2); clear zw2 hbw2
  go_wp2
  go_ret
  refine ⟨rfl, ?_⟩
  go_grown
end Go.Proofs.Ytcoljlanblngiaa
