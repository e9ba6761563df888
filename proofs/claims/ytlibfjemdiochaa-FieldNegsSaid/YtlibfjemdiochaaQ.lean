/- '==' of numbers of four words. -/
import Derived.Test.YtlibfjemdiochaaA
import Derived.ChangeKeysEq
import Derived.KernelRfl
namespace Go.Proofs.Ytlibfjemdiochaa
set_option linter.unusedVariables false
set_option linter.unusedSimpArgs false
open Go.RowKit

abbrev zeroV : Value := .agg #[.int .u64 0, .int .u64 0, .int .u64 0, .int .u64 0]
theorem num_zero : num 0 = zeroV := by unfold num zeroV; rw [lb_zero, lb_zero, lb_zero, lb_zero]
theorem eq_word (d : Nat) (x y : Int) (w : World) : (Op.equalIn (d + 1) 22 (.int .u64 x) (.int .u64 y)).run Try.prog w = .ok (x == y) w := by
  simp only [Op.equalIn, Sem.run_bind, run_underlying Try.underlying22, Result.andThen_ok, if_true, Sem.run_pure]
theorem eq_step {d e c i : Nat} {xs ys : Array Value} {is : List Nat} {a b : Value} {r s : Bool} {w : World} (ha : (part e xs (i * c)).run Try.prog w = .ok a w) (hb : (part e ys (i * c)).run Try.prog w = .ok b w)
    (he : (Op.equalIn d e a b).run Try.prog w = .ok r w) (hr : (Op.eqItems d e c xs ys is).run Try.prog w = .ok s w) : (Op.eqItems d e c xs ys (i :: is)).run Try.prog w = .ok (r && s) w := by
  simp only [Op.eqItems, Sem.run_bind, ha, hb, he, Result.andThen_ok]
  cases r
  · simp
  · simpa using hr
theorem info_word : (Try.prog.info? 22).isSome = true := by kernel_rfl
theorem cells_word : Try.prog.cellsOf 22 = 1 := by kernel_rfl
theorem eqin_num (x0 x1 x2 x3 y0 y1 y2 y3 : Int) (w : World) : (Op.equalIn 10000 24 (.agg #[.int .u64 x0, .int .u64 x1, .int .u64 x2, .int .u64 x3]) (.agg #[.int .u64 y0, .int .u64 y1, .int .u64 y2, .int .u64 y3])).run Try.prog w = .ok (x0 == y0 && (x1 == y1 && (x2 == y2 && x3 == y3))) w := by
  obtain ⟨i, hi⟩ := Option.isSome_iff_exists.1 info_word
  rw [run_equalIn_array w 9999 _ _ Try.underlying24 hi, cells_word]
  have p : ∀ (a : Array Value) (k : Nat) (v : Value), a[k * 1]? = some v → (part 22 a (k * 1)).run Try.prog w = .ok v w := by
    intro a k v h
    have hg : (isAgg 22).run Try.prog w = .ok false w := by simp [isAgg, run_underlying Try.underlying22]
    simp only [part, Sem.run_bind, hg, Result.andThen_ok, h]
    simp
  have h3 := eq_step (d := 9998 + 1) (e := 22) (c := 1) (is := []) (p #[.int .u64 x0, .int .u64 x1, .int .u64 x2, .int .u64 x3] 3 (.int .u64 x3) rfl) (p #[.int .u64 y0, .int .u64 y1, .int .u64 y2, .int .u64 y3] 3 (.int .u64 y3) rfl) (eq_word 9998 x3 y3 w) (s := true) (by simp [Op.eqItems])
  have h2 := eq_step (p _ 2 (.int .u64 x2) rfl) (p _ 2 (.int .u64 y2) rfl) (eq_word 9998 x2 y2 w) h3
  have h1 := eq_step (p _ 1 (.int .u64 x1) rfl) (p _ 1 (.int .u64 y1) rfl) (eq_word 9998 x1 y1 w) h2
  have h0 := eq_step (p _ 0 (.int .u64 x0) rfl) (p _ 0 (.int .u64 y0) rfl) (eq_word 9998 x0 y0 w) h1
  rw [Bool.and_true] at h0
  exact h0
theorem eqin_same (n : Nat) (w : World) : (Op.equalIn 10000 24 (num n) (num n)).run Try.prog w = .ok true w := by
  unfold num; rw [eqin_num]; simp
theorem eqin_other {m n : Nat} (hm : m < RR) (hn : n < RR) (h : m ≠ n) (w : World) : (Op.equalIn 10000 24 (num m) (num n)).run Try.prog w = .ok false w := by
  unfold num
  rw [eqin_num]
  have : (lb m 0 == lb n 0 && (lb m 1 == lb n 1 && (lb m 2 == lb n 2 && lb m 3 == lb n 3))) = false := by
    rw [Bool.eq_false_iff]
    intro e
    simp only [Bool.and_eq_true, beq_iff_eq] at e
    exact h (words_ext hm hn e.1 e.2.1 e.2.2.1 e.2.2.2)
  rw [this]
theorem eqin_zero_other {m : Nat} (hm : m < RR) (h : m ≠ 0) (w : World) : (Op.equalIn 10000 24 (num m) zeroV).run Try.prog w = .ok false w := by
  rw [← num_zero]; exact eqin_other hm (by unfold RR; omega) h w
theorem eqin_zero_same (w : World) : (Op.equalIn 10000 24 (num 0) zeroV).run Try.prog w = .ok true w := by
  rw [← num_zero]; exact eqin_same 0 w
abbrev oneV : Value := .agg #[.int .u64 1, .int .u64 0, .int .u64 0, .int .u64 0]
theorem num_one : num 1 = oneV := by
  have h : lb 1 0 = 1 ∧ lb 1 1 = 0 ∧ lb 1 2 = 0 ∧ lb 1 3 = 0 := by simp only [lb_def, lbN]; decide
  unfold num oneV; rw [h.1, h.2.1, h.2.2.1, h.2.2.2]
end Go.Proofs.Ytlibfjemdiochaa
