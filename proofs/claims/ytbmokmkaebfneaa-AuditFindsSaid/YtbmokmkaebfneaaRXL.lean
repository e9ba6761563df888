/- Numbers among a struct's cells. -/
import Derived.Test.YtbmokmkaebfneaaRXK
import Derived.Test.YtbmokmkaebfneaaRXI
namespace Go.Proofs.Ytbmokmkaebfneaa
set_option linter.unusedVariables false
set_option linter.unusedSimpArgs false
open Go.ChangeShapes Go.WideShapes Go.ChangeAt Go.RowKit
open RX
theorem own_knob : ownKnob Try.prog.godebug = none := by kernel_rfl
theorem word_of_wf {x : Int} (h : (Lit.int .u64 x).wf = true) : 0 ≤ x ∧ x < 18446744073709551616 := by
  simp [Lit.wf, IntKind.min, IntKind.max, IntKind.signed, IntKind.bits] at h
  exact ⟨by omega, by omega⟩
theorem num_chunk {ks : List LK} {xs : List Value} (h : fitsB (.i .u64 :: .i .u64 :: .i .u64 :: .i .u64 :: ks) xs = true) (hw : xs.all wfV = true) : ∃ (n : Nat) (ys : List Value), n < RR ∧ xs = lbs n ++ ys ∧ fitsB ks ys = true ∧ ys.all wfV = true := by
  obtain ⟨a, y1, rfl, w0, f1, w1⟩ := int_chunk h hw
  obtain ⟨b, y2, rfl, w1', f2, w2⟩ := int_chunk f1 w1
  obtain ⟨c, y3, rfl, w2', f3, w3⟩ := int_chunk f2 w2
  obtain ⟨d, y4, rfl, w3', f4, w4⟩ := int_chunk f3 w3
  obtain ⟨n, hn, rfl, rfl, rfl, rfl⟩ := of_words a b c d (word_of_wf w0) (word_of_wf w1') (word_of_wf w2') (word_of_wf w3')
  exact ⟨n, y4, hn, rfl, f4, w4⟩
theorem plain_numV : PlainIs Try.prog 24 [.i .u64, .i .u64, .i .u64, .i .u64] := ⟨by kernel_rfl, by kernel_rfl, by kernel_rfl⟩
set_option maxRecDepth 10000 in
theorem open_numV {H : Type} {enc : TypeId × Value → H} {W : World} {base : Nat} {spare : Nat → Bool} {held : Bool} {r : Reach} {b0 : Nat} {v : Value} {d : DataW H} {p : List MemPlace} (hv : Value.okWide Try.prog W r b0 24 v) (h : DataW.Trod enc Try.prog W base spare held 24 v d p) :
    ∃ n : Nat, n < RR ∧ v = num n ∧ p = [] ∧ ∀ (W' : World) (base' : Nat) (spare' : Nat → Bool) (held' : Bool), DataW.Trod enc Try.prog W' base' spare' held' 24 (num n) d [] := by
  obtain ⟨y0, f0, w0, rfl, rfl, hg⟩ := open_plain plain_numV hv h
  obtain ⟨n, y1, l, rfl, f1, w1⟩ := num_chunk f0 w0
  obtain rfl := nil_chunk f1
  exact ⟨n, l, rfl, rfl, hg⟩
end Go.Proofs.Ytbmokmkaebfneaa
