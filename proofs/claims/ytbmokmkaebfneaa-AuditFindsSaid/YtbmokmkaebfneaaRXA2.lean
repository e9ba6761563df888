/- Told shares as a law's arguments; AuditLeaks' walk. -/
import Derived.Test.YtbmokmkaebfneaaRXA1
import Derived.Test.YtbmokmkaebfneaaRXL
namespace Go.Proofs.Ytbmokmkaebfneaa
set_option linter.unusedVariables false
set_option linter.unusedSimpArgs false
open Go.ChangeShapes Go.WideShapes Go.ChangeAt Go.RowKit
open RX
noncomputable def toldVL (t : ToldN) : List Value := (.int .i64 t.node :: .int .u64 (lb t.dx 0) :: .int .u64 (lb t.dx 1) :: .int .u64 (lb t.dx 2) :: .int .u64 (lb t.dx 3) :: .int .u64 (lb t.dy 0) :: .int .u64 (lb t.dy 1) :: .int .u64 (lb t.dy 2) :: .int .u64 (lb t.dy 3) :: .bool t.di :: .int .u64 (lb t.ex 0) :: .int .u64 (lb t.ex 1) :: .int .u64 (lb t.ex 2) :: .int .u64 (lb t.ex 3) :: .int .u64 (lb t.ey 0) :: .int .u64 (lb t.ey 1) :: .int .u64 (lb t.ey 2) :: .int .u64 (lb t.ey 3) :: .bool t.ei :: .int .u64 (lb t.fa 0) :: .int .u64 (lb t.fa 1) :: .int .u64 (lb t.fa 2) :: .int .u64 (lb t.fa 3) :: .int .u64 (lb t.we 0) :: .int .u64 (lb t.we 1) :: .int .u64 (lb t.we 2) :: .int .u64 (lb t.we 3) :: .int .u64 (lb t.ch 0) :: .int .u64 (lb t.ch 1) :: .int .u64 (lb t.ch 2) :: .int .u64 (lb t.ch 3) :: .int .u64 (lb t.z 0) :: .int .u64 (lb t.z 1) :: .int .u64 (lb t.z 2) :: .int .u64 (lb t.z 3) :: [])
noncomputable abbrev toldV (t : ToldN) : Value := .agg (toldVL t).toArray
theorem plain_toldV : PlainIs Try.prog 30 (.i .i64 :: .i .u64 :: .i .u64 :: .i .u64 :: .i .u64 :: .i .u64 :: .i .u64 :: .i .u64 :: .i .u64 :: .b :: .i .u64 :: .i .u64 :: .i .u64 :: .i .u64 :: .i .u64 :: .i .u64 :: .i .u64 :: .i .u64 :: .b :: .i .u64 :: .i .u64 :: .i .u64 :: .i .u64 :: .i .u64 :: .i .u64 :: .i .u64 :: .i .u64 :: .i .u64 :: .i .u64 :: .i .u64 :: .i .u64 :: .i .u64 :: .i .u64 :: .i .u64 :: .i .u64 :: []) := ⟨by kernel_rfl, by kernel_rfl, by kernel_rfl⟩
theorem read_toldV (y0 : List Value) (f0 : fitsB (.i .i64 :: .i .u64 :: .i .u64 :: .i .u64 :: .i .u64 :: .i .u64 :: .i .u64 :: .i .u64 :: .i .u64 :: .b :: .i .u64 :: .i .u64 :: .i .u64 :: .i .u64 :: .i .u64 :: .i .u64 :: .i .u64 :: .i .u64 :: .b :: .i .u64 :: .i .u64 :: .i .u64 :: .i .u64 :: .i .u64 :: .i .u64 :: .i .u64 :: .i .u64 :: .i .u64 :: .i .u64 :: .i .u64 :: .i .u64 :: .i .u64 :: .i .u64 :: .i .u64 :: .i .u64 :: []) y0 = true) (w0 : y0.all wfV = true) : ∃ t : ToldN, ToldOk t ∧ y0 = toldVL t := by
  obtain ⟨x0, y1, rfl, l0, f1, w1⟩ := int_chunk f0 w0
  obtain ⟨x1, y2, l1, rfl, f2, w2⟩ := num_chunk f1 w1
  obtain ⟨x2, y3, l2, rfl, f3, w3⟩ := num_chunk f2 w2
  obtain ⟨x3, y4, rfl, f4, w4⟩ := bool_chunk f3 w3
  obtain ⟨x4, y5, l4, rfl, f5, w5⟩ := num_chunk f4 w4
  obtain ⟨x5, y6, l5, rfl, f6, w6⟩ := num_chunk f5 w5
  obtain ⟨x6, y7, rfl, f7, w7⟩ := bool_chunk f6 w6
  obtain ⟨x7, y8, l7, rfl, f8, w8⟩ := num_chunk f7 w7
  obtain ⟨x8, y9, l8, rfl, f9, w9⟩ := num_chunk f8 w8
  obtain ⟨x9, y10, l9, rfl, f10, w10⟩ := num_chunk f9 w9
  obtain ⟨x10, y11, l10, rfl, f11, w11⟩ := num_chunk f10 w10
  obtain rfl := nil_chunk f11
  exact ⟨⟨x0, x1, x2, x3, x4, x5, x6, x7, x8, x9, x10⟩, ⟨l0, l1, l2, l4, l5, l7, l8, l9, l10⟩, rfl⟩
set_option maxRecDepth 10000 in
theorem open_toldV {H : Type} {enc : TypeId × Value → H} {W : World} {base : Nat} {spare : Nat → Bool} {held : Bool} {r : Reach} {b0 : Nat} {v : Value} {d : DataW H} {p : List MemPlace} (hv : Value.okWide Try.prog W r b0 30 v) (h : DataW.Trod enc Try.prog W base spare held 30 v d p) :
    ∃ t : ToldN, ToldOk t ∧ v = toldV t ∧ p = [] ∧ ∀ (W' : World) (base' : Nat) (spare' : Nat → Bool) (held' : Bool), DataW.Trod enc Try.prog W' base' spare' held' 30 (toldV t) d [] := by
  obtain ⟨y0, f0, w0, rfl, rfl, hg⟩ := open_plain plain_toldV hv h
  obtain ⟨x0, y1, rfl, l0, f1, w1⟩ := int_chunk f0 w0
  obtain ⟨x1, y2, l1, rfl, f2, w2⟩ := num_chunk f1 w1
  obtain ⟨x2, y3, l2, rfl, f3, w3⟩ := num_chunk f2 w2
  obtain ⟨x3, y4, rfl, f4, w4⟩ := bool_chunk f3 w3
  obtain ⟨x4, y5, l4, rfl, f5, w5⟩ := num_chunk f4 w4
  obtain ⟨x5, y6, l5, rfl, f6, w6⟩ := num_chunk f5 w5
  obtain ⟨x6, y7, rfl, f7, w7⟩ := bool_chunk f6 w6
  obtain ⟨x7, y8, l7, rfl, f8, w8⟩ := num_chunk f7 w7
  obtain ⟨x8, y9, l8, rfl, f9, w9⟩ := num_chunk f8 w8
  obtain ⟨x9, y10, l9, rfl, f10, w10⟩ := num_chunk f9 w9
  obtain ⟨x10, y11, l10, rfl, f11, w11⟩ := num_chunk f10 w10
  obtain rfl := nil_chunk f11
  exact ⟨⟨x0, x1, x2, x3, x4, x5, x6, x7, x8, x9, x10⟩, ⟨l0, l1, l2, l4, l5, l7, l8, l9, l10⟩, rfl, rfl, hg⟩
set_option maxRecDepth 10000 in
theorem leaks_walk (a b : ToldN) (ha : ToldOk a) (hb : ToldOk b) (w : World) : Calls Try.prog 3 #[toldV a, toldV b] w fun e w' => e = .returned (.bool true) ∧ Below w.heap.size w w' :=
  (leaks_all a b ha hb).calls fn_wardmotelaw28_AuditLeaks (fun _ => rfl) (fun _ => rfl) w
end Go.Proofs.Ytbmokmkaebfneaa
