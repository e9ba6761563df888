/- '==' of numbers of eight words. -/
import Derived.Test.YtcoljlanblngiaaQ
namespace Go.Proofs.Ytcoljlanblngiaa
set_option linter.unusedVariables false
set_option linter.unusedSimpArgs false
open Go.RowKit

theorem eqin_wide_same (n : Nat) (w : World) : (Op.equalIn 10000 41 (wide n) (wide n)).run Try.prog w = .ok true w := by
  obtain ⟨i, hi⟩ := Option.isSome_iff_exists.1 info_word
  unfold wide
  rw [run_equalIn_array w 9999 _ _ Try.underlying41 hi, cells_word]
  have p : ∀ (a : Array Value) (k : Nat) (v : Value), a[k * 1]? = some v → (part 22 a (k * 1)).run Try.prog w = .ok v w := by
    intro a k v h
    have hg : (isAgg 22).run Try.prog w = .ok false w := by simp [isAgg, run_underlying Try.underlying22]
    simp only [part, Sem.run_bind, hg, Result.andThen_ok, h]
    simp
  have go : ∀ (a : Array Value) (is : List Nat), (∀ k, k ∈ is → ∃ x : Int, a[k * 1]? = some (.int .u64 x)) → (Op.eqItems 9999 22 1 a a is).run Try.prog w = .ok true w := by
    intro a is
    induction is with
    | nil => intro _; simp [Op.eqItems]
    | cons k is ih =>
      intro h
      obtain ⟨x, hx⟩ := h k (by simp)
      have h1 := eq_step (c := 1) (is := is) (p a k _ hx) (p a k _ hx) (eq_word 9998 x x w) (ih fun k hk => h k (by simp [hk]))
      rw [beq_self_eq_true, Bool.true_and] at h1
      exact h1
  refine go _ _ fun k hk => ?_
  have hk8 : k < 8 := by simpa using hk
  obtain rfl | rfl | rfl | rfl | rfl | rfl | rfl | rfl : k = 0 ∨ k = 1 ∨ k = 2 ∨ k = 3 ∨ k = 4 ∨ k = 5 ∨ k = 6 ∨ k = 7 := by omega
  all_goals exact ⟨_, rfl⟩
end Go.Proofs.Ytcoljlanblngiaa
