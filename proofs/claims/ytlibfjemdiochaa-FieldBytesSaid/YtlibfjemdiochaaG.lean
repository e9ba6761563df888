/- Numbers of four words as arguments of a law: how they are read, and read again. Numbers of eight words as arguments of a law: how they are read, and read again. -/
import Derived.Test.YtlibfjemdiochaaA
import Derived.Test.YtlibfjemdiochaaRows
import Derived.ProofKit
import Derived.OpenShut
import Derived.ShutString
namespace Go.Proofs.Ytlibfjemdiochaa
set_option linter.unusedVariables false
set_option linter.unusedSimpArgs false
open Go.ChangeShapes Go.WideShapes Go.ChangeAt Go.RowKit

theorem own_knob : ownKnob Try.prog.godebug = none := by kernel_rfl
theorem cells_num : Try.prog.cellsOf 24 = 4 := by kernel_rfl
theorem cells_u64 : Try.prog.cellsOf 22 = 1 := by kernel_rfl
theorem list_four {α : Type} : ∀ l : List α, l.length = 4 → ∃ a b c d, l = [a, b, c, d]
  | [a, b, c, d], _ => ⟨a, b, c, d, rfl⟩
theorem word_of_wf {x : Int} (h : (Lit.int .u64 x).wf = true) : 0 ≤ x ∧ x < 18446744073709551616 := by
  simp [Lit.wf, IntKind.min, IntKind.max, IntKind.signed, IntKind.bits] at h
  exact ⟨by omega, by omega⟩
theorem word_wf {x : Int} (h : 0 ≤ x ∧ x < 18446744073709551616) : (Lit.int .u64 x).wf = true := by
  simp [Lit.wf, IntKind.min, IntKind.max, IntKind.signed, IntKind.bits]
  omega
section
variable {H : Type} {enc : TypeId × Value → H} {W : World} {base : Nat} {spare : Nat → Bool} {held : Bool}
theorem shut_num (n : Nat) (hl : ∀ i, (Lit.int .u64 (lb n i)).wf = true) : DataW.Trod enc Try.prog W base spare held 24 (num n) (.agg [.lit (.int .u64 (lb n 0)), .lit (.int .u64 (lb n 1)), .lit (.int .u64 (lb n 2)), .lit (.int .u64 (lb n 3))]) [] :=
  ⟨2, by simp [DataW.trod, Value.cells, Try.underlying24, Try.underlying22, cells_num, cells_u64, hl 0, hl 1, hl 2, hl 3, show List.range 4 = [0, 1, 2, 3] from rfl]⟩
theorem open_num {r : Reach} {b0 : Nat} {v : Value} {d : DataW H} {p : List MemPlace} (hv : Value.okWide Try.prog W r b0 24 v) (h : DataW.Trod enc Try.prog W base spare held 24 v d p) :
    ∃ n, n < RR ∧ v = num n ∧ p = [] ∧ ∀ (W' : World) (base' : Nat) (spare' : Nat → Bool) (held' : Bool), DataW.Trod enc Try.prog W' base' spare' held' 24 (num n) d [] := by
  obtain ⟨cs, rfl, hsz, _⟩ : ∃ cs, v = .agg cs ∧ cs.size = Try.prog.cellsOf 24 ∧ Row.okWide Try.prog W r b0 24 cs := by
    simpa [Value.okWide, Try.underlying24] using hv
  rw [cells_num] at hsz
  obtain ⟨l⟩ := cs
  obtain ⟨c0, c1, c2, c3, rfl⟩ := list_four l hsz
  obtain ⟨fuel, hf⟩ := h
  obtain ⟨y0, y1, y2, y3, m, hx, hy0, hy1, hy2, hy3⟩ := trod_array4 Try.underlying24 cells_u64 hf
  obtain ⟨x0, e0, rfl, w0⟩ := DataW.trod_int Try.underlying22 hy0
  obtain ⟨x1, e1, rfl, w1⟩ := DataW.trod_int Try.underlying22 hy1
  obtain ⟨x2, e2, rfl, w2⟩ := DataW.trod_int Try.underlying22 hy2
  obtain ⟨x3, e3, rfl, w3⟩ := DataW.trod_int Try.underlying22 hy3
  simp at e0 e1 e2 e3
  subst e0 e1 e2 e3
  simp only [Prod.mk.injEq] at hx
  obtain ⟨rfl, rfl⟩ := hx
  obtain ⟨n, hn, rfl, rfl, rfl, rfl⟩ := of_words x0 x1 x2 x3 (word_of_wf w0) (word_of_wf w1) (word_of_wf w2) (word_of_wf w3)
  exact ⟨n, hn, rfl, rfl, fun W' base' spare' held' => shut_num n fun i => word_wf ⟨lb_lo n i, lb_hi n i⟩⟩
end
end Go.Proofs.Ytlibfjemdiochaa
namespace Go.Proofs.Ytlibfjemdiochaa
set_option linter.unusedVariables false
set_option linter.unusedSimpArgs false
open Go.ChangeShapes Go.WideShapes Go.ChangeAt Go.RowKit

theorem cells_wide : Try.prog.cellsOf 43 = 8 := by kernel_rfl
theorem list_eight {α : Type} : ∀ l : List α, l.length = 8 → ∃ a b c d e f g h, l = [a, b, c, d, e, f, g, h]
  | [a, b, c, d, e, f, g, h], _ => ⟨a, b, c, d, e, f, g, h, rfl⟩
theorem of_word (x : Int) (hx : 0 ≤ x ∧ x < 18446744073709551616) (m k : Nat) (hm : m < 18446744073709551616 ^ k) :
    ∃ n, n < 18446744073709551616 ^ (k + 1) ∧ x = lb n k ∧ ∀ i, i < k → lb n i = lb m i := by
  refine ⟨m + 18446744073709551616 ^ k * x.toNat, ?_, ?_, fun i hi => ?_⟩
  · rw [Nat.pow_succ]
    have : 18446744073709551616 ^ k * x.toNat ≤ 18446744073709551616 ^ k * 18446744073709551615 := Nat.mul_le_mul_left _ (by omega)
    omega
  · have e : ∀ (k : Nat) (m y : Nat), m < 18446744073709551616 ^ k → y < 18446744073709551616 → lbN (m + 18446744073709551616 ^ k * y) k = y := by
      intro k
      induction k with
      | zero => intro m y hm hy; simp only [lbN]; omega
      | succ k ih =>
        intro m y hm hy
        simp only [lbN]
        have e1 : (m + 18446744073709551616 ^ (k + 1) * y) / 18446744073709551616 = m / 18446744073709551616 + 18446744073709551616 ^ k * y := by
          rw [Nat.pow_succ, Nat.mul_comm (18446744073709551616 ^ k), Nat.mul_assoc]; omega
        rw [e1]
        exact ih _ y (by rw [Nat.pow_succ] at hm; omega) hy
    rw [lb_def, e k m x.toNat hm (by omega)]
    omega
  · rw [lb_def, lb_def, lbN_add_mul _ _ _ _ hi]
theorem of_words8 (a b c d e f g h : Int) (ha : 0 ≤ a ∧ a < 18446744073709551616) (hb : 0 ≤ b ∧ b < 18446744073709551616) (hc : 0 ≤ c ∧ c < 18446744073709551616) (hd : 0 ≤ d ∧ d < 18446744073709551616)
    (he : 0 ≤ e ∧ e < 18446744073709551616) (hf : 0 ≤ f ∧ f < 18446744073709551616) (hg : 0 ≤ g ∧ g < 18446744073709551616) (hh : 0 ≤ h ∧ h < 18446744073709551616) :
    ∃ n, n < 18446744073709551616 ^ 8 ∧ a = lb n 0 ∧ b = lb n 1 ∧ c = lb n 2 ∧ d = lb n 3 ∧ e = lb n 4 ∧ f = lb n 5 ∧ g = lb n 6 ∧ h = lb n 7 := by
  obtain ⟨n1, l1, e0, _⟩ := of_word a ha 0 0 (by decide)
  obtain ⟨n2, l2, e1, p1⟩ := of_word b hb n1 1 l1
  obtain ⟨n3, l3, e2, p2⟩ := of_word c hc n2 2 l2
  obtain ⟨n4, l4, e3, p3⟩ := of_word d hd n3 3 l3
  obtain ⟨n5, l5, e4, p4⟩ := of_word e he n4 4 l4
  obtain ⟨n6, l6, e5, p5⟩ := of_word f hf n5 5 l5
  obtain ⟨n7, l7, e6, p6⟩ := of_word g hg n6 6 l6
  obtain ⟨n8, l8, e7, p7⟩ := of_word h hh n7 7 l7
  refine ⟨n8, l8, ?_, ?_, ?_, ?_, ?_, ?_, ?_, e7⟩
  · rw [e0, p7 0 (by omega), p6 0 (by omega), p5 0 (by omega), p4 0 (by omega), p3 0 (by omega), p2 0 (by omega), p1 0 (by omega)]
  · rw [e1, p7 1 (by omega), p6 1 (by omega), p5 1 (by omega), p4 1 (by omega), p3 1 (by omega), p2 1 (by omega)]
  · rw [e2, p7 2 (by omega), p6 2 (by omega), p5 2 (by omega), p4 2 (by omega), p3 2 (by omega)]
  · rw [e3, p7 3 (by omega), p6 3 (by omega), p5 3 (by omega), p4 3 (by omega)]
  · rw [e4, p7 4 (by omega), p6 4 (by omega), p5 4 (by omega)]
  · rw [e5, p7 5 (by omega), p6 5 (by omega)]
  · rw [e6, p7 6 (by omega)]
section
variable {H : Type} {enc : TypeId × Value → H} {W : World} {base : Nat} {spare : Nat → Bool} {held : Bool}
theorem shut_wide (n : Nat) (hl : ∀ i, (Lit.int .u64 (lb n i)).wf = true) : DataW.Trod enc Try.prog W base spare held 43 (wide n) (.agg [.lit (.int .u64 (lb n 0)), .lit (.int .u64 (lb n 1)), .lit (.int .u64 (lb n 2)), .lit (.int .u64 (lb n 3)), .lit (.int .u64 (lb n 4)), .lit (.int .u64 (lb n 5)), .lit (.int .u64 (lb n 6)), .lit (.int .u64 (lb n 7))]) [] :=
  ⟨2, by simp [DataW.trod, Value.cells, Try.underlying43, Try.underlying22, cells_wide, cells_u64, hl 0, hl 1, hl 2, hl 3, hl 4, hl 5, hl 6, hl 7, show List.range 8 = [0, 1, 2, 3, 4, 5, 6, 7] from rfl]⟩
theorem open_wide {r : Reach} {b0 : Nat} {v : Value} {d : DataW H} {p : List MemPlace} (hv : Value.okWide Try.prog W r b0 43 v) (h : DataW.Trod enc Try.prog W base spare held 43 v d p) :
    ∃ n, n < 18446744073709551616 ^ 8 ∧ v = wide n ∧ p = [] ∧ ∀ (W' : World) (base' : Nat) (spare' : Nat → Bool) (held' : Bool), DataW.Trod enc Try.prog W' base' spare' held' 43 (wide n) d [] := by
  obtain ⟨cs, rfl, hsz, _⟩ : ∃ cs, v = .agg cs ∧ cs.size = Try.prog.cellsOf 43 ∧ Row.okWide Try.prog W r b0 43 cs := by
    simpa [Value.okWide, Try.underlying43] using hv
  rw [cells_wide] at hsz
  obtain ⟨l⟩ := cs
  obtain ⟨c0, c1, c2, c3, c4, c5, c6, c7, rfl⟩ := list_eight l hsz
  obtain ⟨fuel, hf⟩ := h
  obtain ⟨xs, m, _, hx, _, hl8, hi⟩ := DataW.trod_array Try.underlying43 hf
  obtain ⟨y0, y1, y2, y3, y4, y5, y6, y7, rfl⟩ := list_eight xs hl8
  rw [cells_u64] at hi
  obtain ⟨x0, e0, rfl, w0⟩ := DataW.trod_int Try.underlying22 (hi 0 (by omega))
  obtain ⟨x1, e1, rfl, w1⟩ := DataW.trod_int Try.underlying22 (hi 1 (by omega))
  obtain ⟨x2, e2, rfl, w2⟩ := DataW.trod_int Try.underlying22 (hi 2 (by omega))
  obtain ⟨x3, e3, rfl, w3⟩ := DataW.trod_int Try.underlying22 (hi 3 (by omega))
  obtain ⟨x4, e4, rfl, w4⟩ := DataW.trod_int Try.underlying22 (hi 4 (by omega))
  obtain ⟨x5, e5, rfl, w5⟩ := DataW.trod_int Try.underlying22 (hi 5 (by omega))
  obtain ⟨x6, e6, rfl, w6⟩ := DataW.trod_int Try.underlying22 (hi 6 (by omega))
  obtain ⟨x7, e7, rfl, w7⟩ := DataW.trod_int Try.underlying22 (hi 7 (by omega))
  simp [Value.cells] at e0 e1 e2 e3 e4 e5 e6 e7
  subst e0 e1 e2 e3 e4 e5 e6 e7
  simp only [Prod.mk.injEq] at hx
  obtain ⟨rfl, rfl⟩ := hx
  obtain ⟨n, hn, rfl, rfl, rfl, rfl, rfl, rfl, rfl, rfl⟩ := of_words8 x0 x1 x2 x3 x4 x5 x6 x7 (word_of_wf w0) (word_of_wf w1) (word_of_wf w2) (word_of_wf w3) (word_of_wf w4) (word_of_wf w5) (word_of_wf w6) (word_of_wf w7)
  exact ⟨n, hn, rfl, rfl, fun W' base' spare' held' => shut_wide n fun i => word_wf ⟨lb_lo n i, lb_hi n i⟩⟩
end
end Go.Proofs.Ytlibfjemdiochaa
