/- Of the fields' laws: the fields, a small case, a number of a field. -/
import Derived.Test.YtbmokmkaebfneaaLF0
namespace Go.Proofs.Ytbmokmkaebfneaa
set_option linter.unusedVariables false
set_option linter.unusedSimpArgs false
open Go.RowKit

theorem rreduce_in {base : Bool} (a : Nat) (ha : a < RR) (w : World) : Calls Try.prog 36 #[rfV base, .agg #[.int .u64 (lb a 0), .int .u64 (lb a 1), .int .u64 (lb a 2), .int .u64 (lb a 3), .int .u64 0, .int .u64 0, .int .u64 0, .int .u64 0]] w fun e w' => e = .returned (num (frdN base a)) ∧ Below w.heap.size w w' := by
  have h := rreduce (base := base) a (Nat.lt_trans ha (by unfold RR; decide)) w
  have hz : ∀ i, lb a (4 + i) = 0 := fun i => by rw [← lb_high, Nat.div_eq_of_lt ha, lb_zero]
  have z0 := hz 0
  have z1 := hz 1
  have z2 := hz 2
  have z3 := hz 3
  simp only [Nat.reduceAdd] at z0 z1 z2 z3
  unfold wide at h
  rw [z0, z1, z2, z3] at h
  exact h
end Go.Proofs.Ytbmokmkaebfneaa
