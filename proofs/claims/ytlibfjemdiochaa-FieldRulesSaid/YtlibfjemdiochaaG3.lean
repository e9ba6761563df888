/- Three numbers as an argument of a law: how they are read, and read again. -/
import Derived.Test.YtlibfjemdiochaaG
namespace Go.Proofs.Ytlibfjemdiochaa
set_option linter.unusedVariables false
set_option linter.unusedSimpArgs false
open Go.ChangeShapes Go.WideShapes Go.ChangeAt Go.RowKit

theorem cells_three : Try.prog.cellsOf 49 = 12 := by kernel_rfl
theorem list_three {α : Type} : ∀ l : List α, l.length = 3 → ∃ a b c, l = [a, b, c]
  | [a, b, c], _ => ⟨a, b, c, rfl⟩
theorem list_twelve {α : Type} : ∀ l : List α, l.length = 12 → ∃ a b c d e f g h i j k m, l = [a, b, c, d, e, f, g, h, i, j, k, m]
  | [a, b, c, d, e, f, g, h, i, j, k, m], _ => ⟨a, b, c, d, e, f, g, h, i, j, k, m, rfl⟩
noncomputable abbrev three (a b c : Nat) : Value := .agg #[.int .u64 (lb a 0), .int .u64 (lb a 1), .int .u64 (lb a 2), .int .u64 (lb a 3), .int .u64 (lb b 0), .int .u64 (lb b 1), .int .u64 (lb b 2), .int .u64 (lb b 3), .int .u64 (lb c 0), .int .u64 (lb c 1), .int .u64 (lb c 2), .int .u64 (lb c 3)]
section
variable {H : Type} {enc : TypeId × Value → H} {W : World} {base : Nat} {spare : Nat → Bool} {held : Bool}
theorem num_cells {m : Nat} {c0 c1 c2 c3 : Value} {y : DataW H × List MemPlace} (h : DataW.trod enc Try.prog W base spare held m 24 [c0, c1, c2, c3] = some y) :
    ∃ n, n < RR ∧ c0 = .int .u64 (lb n 0) ∧ c1 = .int .u64 (lb n 1) ∧ c2 = .int .u64 (lb n 2) ∧ c3 = .int .u64 (lb n 3) ∧ y = (.agg [.lit (.int .u64 (lb n 0)), .lit (.int .u64 (lb n 1)), .lit (.int .u64 (lb n 2)), .lit (.int .u64 (lb n 3))], []) := by
  obtain ⟨y0, y1, y2, y3, m, hx, hy0, hy1, hy2, hy3⟩ := trod_array4 Try.underlying24 cells_u64 h
  obtain ⟨x0, e0, rfl, w0⟩ := DataW.trod_int Try.underlying22 hy0
  obtain ⟨x1, e1, rfl, w1⟩ := DataW.trod_int Try.underlying22 hy1
  obtain ⟨x2, e2, rfl, w2⟩ := DataW.trod_int Try.underlying22 hy2
  obtain ⟨x3, e3, rfl, w3⟩ := DataW.trod_int Try.underlying22 hy3
  simp at e0 e1 e2 e3
  subst e0 e1 e2 e3
  obtain ⟨n, hn, rfl, rfl, rfl, rfl⟩ := of_words x0 x1 x2 x3 (word_of_wf w0) (word_of_wf w1) (word_of_wf w2) (word_of_wf w3)
  exact ⟨n, hn, rfl, rfl, rfl, rfl, by rw [hx]; rfl⟩
theorem num_laid (n : Nat) : DataW.trod enc Try.prog W base spare held 2 24 [.int .u64 (lb n 0), .int .u64 (lb n 1), .int .u64 (lb n 2), .int .u64 (lb n 3)] = some (.agg [.lit (.int .u64 (lb n 0)), .lit (.int .u64 (lb n 1)), .lit (.int .u64 (lb n 2)), .lit (.int .u64 (lb n 3))], []) := by
  have hl : ∀ i, (Lit.int .u64 (lb n i)).wf = true := fun i => word_wf ⟨lb_lo n i, lb_hi n i⟩
  simp [DataW.trod, Try.underlying24, Try.underlying22, cells_num, cells_u64, hl 0, hl 1, hl 2, hl 3, show List.range 4 = [0, 1, 2, 3] from rfl]
theorem shut_three (a b c : Nat) : DataW.Trod enc Try.prog W base spare held 49 (three a b c) (.agg [.agg [.lit (.int .u64 (lb a 0)), .lit (.int .u64 (lb a 1)), .lit (.int .u64 (lb a 2)), .lit (.int .u64 (lb a 3))], .agg [.lit (.int .u64 (lb b 0)), .lit (.int .u64 (lb b 1)), .lit (.int .u64 (lb b 2)), .lit (.int .u64 (lb b 3))], .agg [.lit (.int .u64 (lb c 0)), .lit (.int .u64 (lb c 1)), .lit (.int .u64 (lb c 2)), .lit (.int .u64 (lb c 3))]]) [] :=
  ⟨3, by
    have h := trod_struct_mk (enc := enc) (w := W) (base := base) (spare := spare) (held := held) (n := 2) (cs := [.int .u64 (lb a 0), .int .u64 (lb a 1), .int .u64 (lb a 2), .int .u64 (lb a 3), .int .u64 (lb b 0), .int .u64 (lb b 1), .int .u64 (lb b 2), .int .u64 (lb b 3), .int .u64 (lb c 0), .int .u64 (lb c 1), .int .u64 (lb c 2), .int .u64 (lb c 3)])
      (xs := [(.agg [.lit (.int .u64 (lb a 0)), .lit (.int .u64 (lb a 1)), .lit (.int .u64 (lb a 2)), .lit (.int .u64 (lb a 3))], []), (.agg [.lit (.int .u64 (lb b 0)), .lit (.int .u64 (lb b 1)), .lit (.int .u64 (lb b 2)), .lit (.int .u64 (lb b 3))], []), (.agg [.lit (.int .u64 (lb c 0)), .lit (.int .u64 (lb c 1)), .lit (.int .u64 (lb c 2)), .lit (.int .u64 (lb c 3))], [])])
      Try.underlying49 (by rw [cells_three]; rfl) (by simp [cells_num, num_laid])
    exact h⟩
theorem open_three {r : Reach} {b0 : Nat} {v : Value} {d : DataW H} {p : List MemPlace} (hv : Value.okWide Try.prog W r b0 49 v) (h : DataW.Trod enc Try.prog W base spare held 49 v d p) :
    ∃ a b c, a < RR ∧ b < RR ∧ c < RR ∧ v = three a b c ∧ p = [] ∧ ∀ (W' : World) (base' : Nat) (spare' : Nat → Bool) (held' : Bool), DataW.Trod enc Try.prog W' base' spare' held' 49 (three a b c) d [] := by
  obtain ⟨cs, rfl, hsz, _⟩ : ∃ cs, v = .agg cs ∧ cs.size = Try.prog.cellsOf 49 ∧ Row.okWide Try.prog W r b0 49 cs := by
    simpa [Value.okWide, Try.underlying49] using hv
  rw [cells_three] at hsz
  obtain ⟨l⟩ := cs
  obtain ⟨c0, c1, c2, c3, c4, c5, c6, c7, c8, c9, c10, c11, rfl⟩ := list_twelve l hsz
  obtain ⟨fuel, hf⟩ := h
  obtain ⟨xs, m, _, hx, _, hlen, hi⟩ := DataW.trod_struct Try.underlying49 hf
  obtain ⟨y0, y1, y2, rfl⟩ := list_three xs hlen
  have h0 := hi 0 _ rfl
  have h1 := hi 1 _ rfl
  have h2 := hi 2 _ rfl
  simp [cells_num, Value.cells] at h0 h1 h2
  obtain ⟨a, ha, rfl, rfl, rfl, rfl, rfl⟩ := num_cells h0
  obtain ⟨b, hb, rfl, rfl, rfl, rfl, rfl⟩ := num_cells h1
  obtain ⟨c, hc, rfl, rfl, rfl, rfl, rfl⟩ := num_cells h2
  simp only [Prod.mk.injEq] at hx
  obtain ⟨rfl, rfl⟩ := hx
  exact ⟨a, b, c, ha, hb, hc, rfl, rfl, fun W' base' spare' held' => shut_three a b c⟩
end
end Go.Proofs.Ytlibfjemdiochaa
