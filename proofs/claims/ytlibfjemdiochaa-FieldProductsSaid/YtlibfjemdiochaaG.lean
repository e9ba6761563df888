/- Numbers of four words as arguments of a law: how they are read, and read again. -/
import Derived.Test.YtlibfjemdiochaaA
import Derived.Test.YtlibfjemdiochaaRows
import Derived.ProofKit
import Derived.OpenShut
import Derived.ShutString
namespace Go.Proofs.Ytlibfjemdiochaa
set_option linter.unusedVariables false
set_option linter.unusedSimpArgs false
open Go.ChangeShapes Go.WideShapes Go.ChangeAt Go.RowKit

theorem own_knob : ownKnob Try.prog.godebug = none := by kernel_rfl
theorem cells_num : Try.prog.cellsOf 24 = 4 := by kernel_rfl
theorem cells_u64 : Try.prog.cellsOf 22 = 1 := by kernel_rfl
theorem list_four {α : Type} : ∀ l : List α, l.length = 4 → ∃ a b c d, l = [a, b, c, d]
  | [a, b, c, d], _ => ⟨a, b, c, d, rfl⟩
theorem word_of_wf {x : Int} (h : (Lit.int .u64 x).wf = true) : 0 ≤ x ∧ x < 18446744073709551616 := by
  simp [Lit.wf, IntKind.min, IntKind.max, IntKind.signed, IntKind.bits] at h
  exact ⟨by omega, by omega⟩
theorem word_wf {x : Int} (h : 0 ≤ x ∧ x < 18446744073709551616) : (Lit.int .u64 x).wf = true := by
  simp [Lit.wf, IntKind.min, IntKind.max, IntKind.signed, IntKind.bits]
  omega
section
variable {H : Type} {enc : TypeId × Value → H} {W : World} {base : Nat} {spare : Nat → Bool} {held : Bool}
theorem shut_num (n : Nat) (hl : ∀ i, (Lit.int .u64 (lb n i)).wf = true) : DataW.Trod enc Try.prog W base spare held 24 (num n) (.agg [.lit (.int .u64 (lb n 0)), .lit (.int .u64 (lb n 1)), .lit (.int .u64 (lb n 2)), .lit (.int .u64 (lb n 3))]) [] :=
  ⟨2, by simp [DataW.trod, Value.cells, Try.underlying24, Try.underlying22, cells_num, cells_u64, hl 0, hl 1, hl 2, hl 3, show List.range 4 = [0, 1, 2, 3] from rfl]⟩
theorem open_num {r : Reach} {b0 : Nat} {v : Value} {d : DataW H} {p : List MemPlace} (hv : Value.okWide Try.prog W r b0 24 v) (h : DataW.Trod enc Try.prog W base spare held 24 v d p) :
    ∃ n, n < RR ∧ v = num n ∧ p = [] ∧ ∀ (W' : World) (base' : Nat) (spare' : Nat → Bool) (held' : Bool), DataW.Trod enc Try.prog W' base' spare' held' 24 (num n) d [] := by
  obtain ⟨cs, rfl, hsz, _⟩ : ∃ cs, v = .agg cs ∧ cs.size = Try.prog.cellsOf 24 ∧ Row.okWide Try.prog W r b0 24 cs := by
    simpa [Value.okWide, Try.underlying24] using hv
  rw [cells_num] at hsz
  obtain ⟨l⟩ := cs
  obtain ⟨c0, c1, c2, c3, rfl⟩ := list_four l hsz
  obtain ⟨fuel, hf⟩ := h
  obtain ⟨y0, y1, y2, y3, m, hx, hy0, hy1, hy2, hy3⟩ := trod_array4 Try.underlying24 cells_u64 hf
  obtain ⟨x0, e0, rfl, w0⟩ := DataW.trod_int Try.underlying22 hy0
  obtain ⟨x1, e1, rfl, w1⟩ := DataW.trod_int Try.underlying22 hy1
  obtain ⟨x2, e2, rfl, w2⟩ := DataW.trod_int Try.underlying22 hy2
  obtain ⟨x3, e3, rfl, w3⟩ := DataW.trod_int Try.underlying22 hy3
  simp at e0 e1 e2 e3
  subst e0 e1 e2 e3
  simp only [Prod.mk.injEq] at hx
  obtain ⟨rfl, rfl⟩ := hx
  obtain ⟨n, hn, rfl, rfl, rfl, rfl⟩ := of_words x0 x1 x2 x3 (word_of_wf w0) (word_of_wf w1) (word_of_wf w2) (word_of_wf w3)
  exact ⟨n, hn, rfl, rfl, fun W' base' spare' held' => shut_num n fun i => word_wf ⟨lb_lo n i, lb_hi n i⟩⟩
end
end Go.Proofs.Ytlibfjemdiochaa
