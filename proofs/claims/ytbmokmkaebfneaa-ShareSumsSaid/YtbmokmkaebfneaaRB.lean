/- The document's answer for layer 2: a product of two numbers. -/
import Derived.Test.YtbmokmkaebfneaaRA
import Derived.Test.YtbmokmkaebfneaaC
namespace Go.Proofs.Ytbmokmkaebfneaa
set_option linter.unusedVariables false
set_option linter.unusedSimpArgs false
open Go.RowKit

theorem pp_high (a b i j : Nat) (hb : b < RR) (hj : i + 4 ≤ j) : lb (pp a b i) j = 0 := by
  rw [lb_def, pp_def, lbN_eq, Nat.div_eq_of_lt]
  · rfl
  · refine Nat.lt_of_lt_of_le (ppD_lt a b i (by rw [show 18446744073709551616 ^ 4 = RR from by unfold RR; rfl]; exact hb)) (Nat.pow_le_pow_right (by omega) hj)
theorem pp_skip (a b i : Nat) (h : lb a i = 0) : pp a b (i + 1) = pp a b i := by
  have h0 : lbN a i = 0 := by rw [lb_def] at h; omega
  rw [pp_def, pp_def, ppD_succ, h0, Nat.zero_mul, Nat.zero_mul, Nat.add_zero]
theorem pp_all (a b : Nat) (ha : a < RR) : pp a b 4 = mulN a b := by rw [pp_four a b ha, mulN_def]
def TimesRel (a b : Nat) (w : World) (A B Q O : Nat) (s : Value) (wr : World) : Prop :=
  ∃ i : Nat, i ≤ 4 ∧ s = .int .i64 (i : Int) ∧ Blk wr A 24 #[.int .u64 (lb (a) 0), .int .u64 (lb (a) 1), .int .u64 (lb (a) 2), .int .u64 (lb (a) 3)] ∧ Blk wr B 24 #[.int .u64 (lb (b) 0), .int .u64 (lb (b) 1), .int .u64 (lb (b) 2), .int .u64 (lb (b) 3)] ∧ Blk wr Q 81 #[.int .u64 0, .int .u64 0, .int .u64 0, .int .u64 0, .int .u64 0, .int .u64 0, .int .u64 0, .int .u64 0] ∧ Blk wr O 81 #[.int .u64 (lb (pp a b i) 0), .int .u64 (lb (pp a b i) 1), .int .u64 (lb (pp a b i) 2), .int .u64 (lb (pp a b i) 3), .int .u64 (lb (pp a b i) 4), .int .u64 (lb (pp a b i) 5), .int .u64 (lb (pp a b i) 6), .int .u64 (lb (pp a b i) 7)] ∧ Below w.heap.size w wr
theorem wide_far {w : World} {g O : Nat} {t : TypeId} {cs : Array Value} (h : Blk w g t cs) (hn : g ≠ O) (i : Nat) (u : Value) : Blk (w.setCell ⟨O, i, none⟩ u) g t cs := h.far hn u
theorem put_w0 {w : World} {g : Nat} {t : TypeId} {x0 x1 x2 x3 x4 x5 x6 x7 : Value} (h : Blk w g t #[x0, x1, x2, x3, x4, x5, x6, x7]) (y0 y1 y2 y3 y4 : Value) :
    ∀ n0 n1 n2 n3, Blk ((((((((((w).drewN n0).setCell ⟨g, 0, none⟩ y0).drewN n1).setCell ⟨g, 1, none⟩ y1).drewN n2).setCell ⟨g, 2, none⟩ y2).drewN n3).setCell ⟨g, 3, none⟩ y3).setCell ⟨g, 4, none⟩ y4) g t #[y0, y1, y2, y3, y4, x5, x6, x7] := fun n0 n1 n2 n3 => by
  have h0 : Blk (((w).drewN n0).setCell ⟨g, 0, none⟩ y0) g t #[y0, x1, x2, x3, x4, x5, x6, x7] := (h.drewN n0).set_ 0 y0
  have h1 : Blk (((((w).drewN n0).setCell ⟨g, 0, none⟩ y0).drewN n1).setCell ⟨g, 1, none⟩ y1) g t #[y0, y1, x2, x3, x4, x5, x6, x7] := (h0.drewN n1).set_ 1 y1
  have h2 : Blk (((((((w).drewN n0).setCell ⟨g, 0, none⟩ y0).drewN n1).setCell ⟨g, 1, none⟩ y1).drewN n2).setCell ⟨g, 2, none⟩ y2) g t #[y0, y1, y2, x3, x4, x5, x6, x7] := (h1.drewN n2).set_ 2 y2
  have h3 : Blk (((((((((w).drewN n0).setCell ⟨g, 0, none⟩ y0).drewN n1).setCell ⟨g, 1, none⟩ y1).drewN n2).setCell ⟨g, 2, none⟩ y2).drewN n3).setCell ⟨g, 3, none⟩ y3) g t #[y0, y1, y2, y3, x4, x5, x6, x7] := (h2.drewN n3).set_ 3 y3
  have h4 : Blk ((((((((((w).drewN n0).setCell ⟨g, 0, none⟩ y0).drewN n1).setCell ⟨g, 1, none⟩ y1).drewN n2).setCell ⟨g, 2, none⟩ y2).drewN n3).setCell ⟨g, 3, none⟩ y3).setCell ⟨g, 4, none⟩ y4) g t #[y0, y1, y2, y3, y4, x5, x6, x7] := (h3).set_ 4 y4
  exact h4
theorem put_w1 {w : World} {g : Nat} {t : TypeId} {x0 x1 x2 x3 x4 x5 x6 x7 : Value} (h : Blk w g t #[x0, x1, x2, x3, x4, x5, x6, x7]) (y0 y1 y2 y3 y4 : Value) :
    ∀ n0 n1 n2 n3, Blk ((((((((((w).drewN n0).setCell ⟨g, 1, none⟩ y0).drewN n1).setCell ⟨g, 2, none⟩ y1).drewN n2).setCell ⟨g, 3, none⟩ y2).drewN n3).setCell ⟨g, 4, none⟩ y3).setCell ⟨g, 5, none⟩ y4) g t #[x0, y0, y1, y2, y3, y4, x6, x7] := fun n0 n1 n2 n3 => by
  have h0 : Blk (((w).drewN n0).setCell ⟨g, 1, none⟩ y0) g t #[x0, y0, x2, x3, x4, x5, x6, x7] := (h.drewN n0).set_ 1 y0
  have h1 : Blk (((((w).drewN n0).setCell ⟨g, 1, none⟩ y0).drewN n1).setCell ⟨g, 2, none⟩ y1) g t #[x0, y0, y1, x3, x4, x5, x6, x7] := (h0.drewN n1).set_ 2 y1
  have h2 : Blk (((((((w).drewN n0).setCell ⟨g, 1, none⟩ y0).drewN n1).setCell ⟨g, 2, none⟩ y1).drewN n2).setCell ⟨g, 3, none⟩ y2) g t #[x0, y0, y1, y2, x4, x5, x6, x7] := (h1.drewN n2).set_ 3 y2
  have h3 : Blk (((((((((w).drewN n0).setCell ⟨g, 1, none⟩ y0).drewN n1).setCell ⟨g, 2, none⟩ y1).drewN n2).setCell ⟨g, 3, none⟩ y2).drewN n3).setCell ⟨g, 4, none⟩ y3) g t #[x0, y0, y1, y2, y3, x5, x6, x7] := (h2.drewN n3).set_ 4 y3
  have h4 : Blk ((((((((((w).drewN n0).setCell ⟨g, 1, none⟩ y0).drewN n1).setCell ⟨g, 2, none⟩ y1).drewN n2).setCell ⟨g, 3, none⟩ y2).drewN n3).setCell ⟨g, 4, none⟩ y3).setCell ⟨g, 5, none⟩ y4) g t #[x0, y0, y1, y2, y3, y4, x6, x7] := (h3).set_ 5 y4
  exact h4
theorem put_w2 {w : World} {g : Nat} {t : TypeId} {x0 x1 x2 x3 x4 x5 x6 x7 : Value} (h : Blk w g t #[x0, x1, x2, x3, x4, x5, x6, x7]) (y0 y1 y2 y3 y4 : Value) :
    ∀ n0 n1 n2 n3, Blk ((((((((((w).drewN n0).setCell ⟨g, 2, none⟩ y0).drewN n1).setCell ⟨g, 3, none⟩ y1).drewN n2).setCell ⟨g, 4, none⟩ y2).drewN n3).setCell ⟨g, 5, none⟩ y3).setCell ⟨g, 6, none⟩ y4) g t #[x0, x1, y0, y1, y2, y3, y4, x7] := fun n0 n1 n2 n3 => by
  have h0 : Blk (((w).drewN n0).setCell ⟨g, 2, none⟩ y0) g t #[x0, x1, y0, x3, x4, x5, x6, x7] := (h.drewN n0).set_ 2 y0
  have h1 : Blk (((((w).drewN n0).setCell ⟨g, 2, none⟩ y0).drewN n1).setCell ⟨g, 3, none⟩ y1) g t #[x0, x1, y0, y1, x4, x5, x6, x7] := (h0.drewN n1).set_ 3 y1
  have h2 : Blk (((((((w).drewN n0).setCell ⟨g, 2, none⟩ y0).drewN n1).setCell ⟨g, 3, none⟩ y1).drewN n2).setCell ⟨g, 4, none⟩ y2) g t #[x0, x1, y0, y1, y2, x5, x6, x7] := (h1.drewN n2).set_ 4 y2
  have h3 : Blk (((((((((w).drewN n0).setCell ⟨g, 2, none⟩ y0).drewN n1).setCell ⟨g, 3, none⟩ y1).drewN n2).setCell ⟨g, 4, none⟩ y2).drewN n3).setCell ⟨g, 5, none⟩ y3) g t #[x0, x1, y0, y1, y2, y3, x6, x7] := (h2.drewN n3).set_ 5 y3
  have h4 : Blk ((((((((((w).drewN n0).setCell ⟨g, 2, none⟩ y0).drewN n1).setCell ⟨g, 3, none⟩ y1).drewN n2).setCell ⟨g, 4, none⟩ y2).drewN n3).setCell ⟨g, 5, none⟩ y3).setCell ⟨g, 6, none⟩ y4) g t #[x0, x1, y0, y1, y2, y3, y4, x7] := (h3).set_ 6 y4
  exact h4
theorem put_w3 {w : World} {g : Nat} {t : TypeId} {x0 x1 x2 x3 x4 x5 x6 x7 : Value} (h : Blk w g t #[x0, x1, x2, x3, x4, x5, x6, x7]) (y0 y1 y2 y3 y4 : Value) :
    ∀ n0 n1 n2 n3, Blk ((((((((((w).drewN n0).setCell ⟨g, 3, none⟩ y0).drewN n1).setCell ⟨g, 4, none⟩ y1).drewN n2).setCell ⟨g, 5, none⟩ y2).drewN n3).setCell ⟨g, 6, none⟩ y3).setCell ⟨g, 7, none⟩ y4) g t #[x0, x1, x2, y0, y1, y2, y3, y4] := fun n0 n1 n2 n3 => by
  have h0 : Blk (((w).drewN n0).setCell ⟨g, 3, none⟩ y0) g t #[x0, x1, x2, y0, x4, x5, x6, x7] := (h.drewN n0).set_ 3 y0
  have h1 : Blk (((((w).drewN n0).setCell ⟨g, 3, none⟩ y0).drewN n1).setCell ⟨g, 4, none⟩ y1) g t #[x0, x1, x2, y0, y1, x5, x6, x7] := (h0.drewN n1).set_ 4 y1
  have h2 : Blk (((((((w).drewN n0).setCell ⟨g, 3, none⟩ y0).drewN n1).setCell ⟨g, 4, none⟩ y1).drewN n2).setCell ⟨g, 5, none⟩ y2) g t #[x0, x1, x2, y0, y1, y2, x6, x7] := (h1.drewN n2).set_ 5 y2
  have h3 : Blk (((((((((w).drewN n0).setCell ⟨g, 3, none⟩ y0).drewN n1).setCell ⟨g, 4, none⟩ y1).drewN n2).setCell ⟨g, 5, none⟩ y2).drewN n3).setCell ⟨g, 6, none⟩ y3) g t #[x0, x1, x2, y0, y1, y2, y3, x7] := (h2.drewN n3).set_ 6 y3
  have h4 : Blk ((((((((((w).drewN n0).setCell ⟨g, 3, none⟩ y0).drewN n1).setCell ⟨g, 4, none⟩ y1).drewN n2).setCell ⟨g, 5, none⟩ y2).drewN n3).setCell ⟨g, 6, none⟩ y3).setCell ⟨g, 7, none⟩ y4) g t #[x0, x1, x2, y0, y1, y2, y3, y4] := (h3).set_ 7 y4
  exact h4
theorem put_w8 {w : World} {g : Nat} {t : TypeId} {x0 x1 x2 x3 x4 x5 x6 x7 : Value} (h : Blk w g t #[x0, x1, x2, x3, x4, x5, x6, x7]) (y0 y1 y2 y3 y4 y5 y6 y7 : Value) : Blk (((((((((w).setCell ⟨g, 0, none⟩ y0).setCell ⟨g, 1, none⟩ y1).setCell ⟨g, 2, none⟩ y2).setCell ⟨g, 3, none⟩ y3).setCell ⟨g, 4, none⟩ y4).setCell ⟨g, 5, none⟩ y5).setCell ⟨g, 6, none⟩ y6).setCell ⟨g, 7, none⟩ y7) g t #[y0, y1, y2, y3, y4, y5, y6, y7] := by
  have h0 : Blk ((w).setCell ⟨g, 0, none⟩ y0) g t #[y0, x1, x2, x3, x4, x5, x6, x7] := h.set_ 0 y0
  have h1 : Blk (((w).setCell ⟨g, 0, none⟩ y0).setCell ⟨g, 1, none⟩ y1) g t #[y0, y1, x2, x3, x4, x5, x6, x7] := h0.set_ 1 y1
  have h2 : Blk ((((w).setCell ⟨g, 0, none⟩ y0).setCell ⟨g, 1, none⟩ y1).setCell ⟨g, 2, none⟩ y2) g t #[y0, y1, y2, x3, x4, x5, x6, x7] := h1.set_ 2 y2
  have h3 : Blk (((((w).setCell ⟨g, 0, none⟩ y0).setCell ⟨g, 1, none⟩ y1).setCell ⟨g, 2, none⟩ y2).setCell ⟨g, 3, none⟩ y3) g t #[y0, y1, y2, y3, x4, x5, x6, x7] := h2.set_ 3 y3
  have h4 : Blk ((((((w).setCell ⟨g, 0, none⟩ y0).setCell ⟨g, 1, none⟩ y1).setCell ⟨g, 2, none⟩ y2).setCell ⟨g, 3, none⟩ y3).setCell ⟨g, 4, none⟩ y4) g t #[y0, y1, y2, y3, y4, x5, x6, x7] := h3.set_ 4 y4
  have h5 : Blk (((((((w).setCell ⟨g, 0, none⟩ y0).setCell ⟨g, 1, none⟩ y1).setCell ⟨g, 2, none⟩ y2).setCell ⟨g, 3, none⟩ y3).setCell ⟨g, 4, none⟩ y4).setCell ⟨g, 5, none⟩ y5) g t #[y0, y1, y2, y3, y4, y5, x6, x7] := h4.set_ 5 y5
  have h6 : Blk ((((((((w).setCell ⟨g, 0, none⟩ y0).setCell ⟨g, 1, none⟩ y1).setCell ⟨g, 2, none⟩ y2).setCell ⟨g, 3, none⟩ y3).setCell ⟨g, 4, none⟩ y4).setCell ⟨g, 5, none⟩ y5).setCell ⟨g, 6, none⟩ y6) g t #[y0, y1, y2, y3, y4, y5, y6, x7] := h5.set_ 6 y6
  have h7 : Blk (((((((((w).setCell ⟨g, 0, none⟩ y0).setCell ⟨g, 1, none⟩ y1).setCell ⟨g, 2, none⟩ y2).setCell ⟨g, 3, none⟩ y3).setCell ⟨g, 4, none⟩ y4).setCell ⟨g, 5, none⟩ y5).setCell ⟨g, 6, none⟩ y6).setCell ⟨g, 7, none⟩ y7) g t #[y0, y1, y2, y3, y4, y5, y6, y7] := h6.set_ 7 y7
  exact h7
set_option maxHeartbeats 16000000 in
set_option maxRecDepth 100000 in
theorem r2times_any (a b : Nat) (ha : a < RR) (hb : b < RR) (w : World) : Calls Try.prog 58 #[num a, num b] w fun e w' => e = .returned (wide (mulN a b)) ∧ Below w.heap.size w w' := by
  have hz := pp_high a b 0
  go_enter Try.func58, Try.ntmps58
  go_wp2
  have kA := (((Blk.newAt (n := w.heap.size) w 24 #[.int .u64 (lb (a) 0), .int .u64 (lb (a) 1), .int .u64 (lb (a) 2), .int .u64 (lb (a) 3)] rfl).alloc (.cells #[.int .u64 (lb (b) 0), .int .u64 (lb (b) 1), .int .u64 (lb (b) 2), .int .u64 (lb (b) 3)] 24)).alloc (.cells #[.int .u64 0, .int .u64 0, .int .u64 0, .int .u64 0, .int .u64 0, .int .u64 0, .int .u64 0, .int .u64 0] 81)).alloc (.cells #[.int .u64 0, .int .u64 0, .int .u64 0, .int .u64 0, .int .u64 0, .int .u64 0, .int .u64 0, .int .u64 0] 81)
  have kB := ((Blk.newAt (n := w.heap.size + 1) (w.alloc (.cells #[.int .u64 (lb (a) 0), .int .u64 (lb (a) 1), .int .u64 (lb (a) 2), .int .u64 (lb (a) 3)] 24)) 24 #[.int .u64 (lb (b) 0), .int .u64 (lb (b) 1), .int .u64 (lb (b) 2), .int .u64 (lb (b) 3)] (by simp)).alloc (.cells #[.int .u64 0, .int .u64 0, .int .u64 0, .int .u64 0, .int .u64 0, .int .u64 0, .int .u64 0, .int .u64 0] 81)).alloc (.cells #[.int .u64 0, .int .u64 0, .int .u64 0, .int .u64 0, .int .u64 0, .int .u64 0, .int .u64 0, .int .u64 0] 81)
  have kQ := (Blk.newAt (n := w.heap.size + 1 + 1) ((w.alloc (.cells #[.int .u64 (lb (a) 0), .int .u64 (lb (a) 1), .int .u64 (lb (a) 2), .int .u64 (lb (a) 3)] 24)).alloc (.cells #[.int .u64 (lb (b) 0), .int .u64 (lb (b) 1), .int .u64 (lb (b) 2), .int .u64 (lb (b) 3)] 24)) 81 #[.int .u64 0, .int .u64 0, .int .u64 0, .int .u64 0, .int .u64 0, .int .u64 0, .int .u64 0, .int .u64 0] (by simp)).alloc (.cells #[.int .u64 0, .int .u64 0, .int .u64 0, .int .u64 0, .int .u64 0, .int .u64 0, .int .u64 0, .int .u64 0] 81)
  have kO := Blk.newAt (n := w.heap.size + 1 + 1 + 1) (((w.alloc (.cells #[.int .u64 (lb (a) 0), .int .u64 (lb (a) 1), .int .u64 (lb (a) 2), .int .u64 (lb (a) 3)] 24)).alloc (.cells #[.int .u64 (lb (b) 0), .int .u64 (lb (b) 1), .int .u64 (lb (b) 2), .int .u64 (lb (b) 3)] 24)).alloc (.cells #[.int .u64 0, .int .u64 0, .int .u64 0, .int .u64 0, .int .u64 0, .int .u64 0, .int .u64 0, .int .u64 0] 81)) 81 #[.int .u64 0, .int .u64 0, .int .u64 0, .int .u64 0, .int .u64 0, .int .u64 0, .int .u64 0, .int .u64 0] (by simp)
  have bw : Below w.heap.size w ((((w.alloc (.cells #[.int .u64 (lb (a) 0), .int .u64 (lb (a) 1), .int .u64 (lb (a) 2), .int .u64 (lb (a) 3)] 24)).alloc (.cells #[.int .u64 (lb (b) 0), .int .u64 (lb (b) 1), .int .u64 (lb (b) 2), .int .u64 (lb (b) 3)] 24)).alloc (.cells #[.int .u64 0, .int .u64 0, .int .u64 0, .int .u64 0, .int .u64 0, .int .u64 0, .int .u64 0, .int .u64 0] 81)).alloc (.cells #[.int .u64 0, .int .u64 0, .int .u64 0, .int .u64 0, .int .u64 0, .int .u64 0, .int .u64 0, .int .u64 0] 81)) := by go_grown
  generalize (((w.alloc (.cells #[.int .u64 (lb (a) 0), .int .u64 (lb (a) 1), .int .u64 (lb (a) 2), .int .u64 (lb (a) 3)] 24)).alloc (.cells #[.int .u64 (lb (b) 0), .int .u64 (lb (b) 1), .int .u64 (lb (b) 2), .int .u64 (lb (b) 3)] 24)).alloc (.cells #[.int .u64 0, .int .u64 0, .int .u64 0, .int .u64 0, .int .u64 0, .int .u64 0, .int .u64 0, .int .u64 0] 81)).alloc (.cells #[.int .u64 0, .int .u64 0, .int .u64 0, .int .u64 0, .int .u64 0, .int .u64 0, .int .u64 0, .int .u64 0] 81) = W0 at *
  have lA : w.heap.size ≠ w.heap.size + 1 + 1 + 1 := by omega
  have lB : w.heap.size + 1 ≠ w.heap.size + 1 + 1 + 1 := by omega
  have lQ : w.heap.size + 1 + 1 ≠ w.heap.size + 1 + 1 + 1 := by omega
  have lW : w.heap.size ≤ w.heap.size + 1 + 1 + 1 := by omega
  have lV : w.heap.size ≤ w.heap.size + 1 + 1 := by omega
  generalize w.heap.size + 1 + 1 + 1 = O at *
  generalize w.heap.size + 1 + 1 = Q at *
  generalize w.heap.size + 1 = B at *
  obtain ⟨A, hA⟩ : ∃ A, A = w.heap.size := ⟨_, rfl⟩
  go_loopw [6] (fun s wr => TimesRel a b w w.heap.size B Q O s wr) (fun s _ => 4 - (intOf s).toNat)
  case atStart =>
    refine ⟨0, by omega, rfl, kA, kB, kQ, ?_, bw⟩
    rw [pp_zero, pp_zero, pp_zero, pp_zero, pp_zero, pp_zero, pp_zero, pp_zero]
    exact kO
  case round =>
    clear kA kB kQ kO bw hz
    unfold TimesRel at hrel
    obtain ⟨i, hi, rfl, kA, kB, kQ, kO, bw⟩ := hrel
    obtain ⟨kA_c, kA_f, kA_l, _⟩ := kA.knows
    obtain ⟨kB_c, kB_f, kB_l, _⟩ := kB.knows
    obtain ⟨kO_c, kO_f, kO_l, _⟩ := kO.knows
    obtain rfl | rfl | rfl | rfl | rfl : i = 0 ∨ i = 1 ∨ i = 2 ∨ i = 3 ∨ i = 4 := by omega
    · rw [show ((0 : Nat) : Int) = 0 from rfl]
      by_cases h0 : lb a 0 = 0
      · have hq : (lb a 0 == 0) = true := by rw [h0]; rfl
        have hs := pp_skip a b 0 h0
        go_wp2
        exact ⟨⟨1, by omega, rfl, kA, kB, kQ, by rw [hs]; exact kO, bw⟩, by simp [intOf]⟩
      · have hq : (lb a 0 == 0) = false := by simpa using h0
        obtain ⟨m0, p0, q0, g0, h0, f0, s0, u0⟩ := mul_step a b 0 0 hb (by omega)
        simp only [Nat.reduceAdd, cy_zero] at p0 q0 h0 f0 s0 u0
        obtain ⟨m1, p1, q1, g1, h1, f1, s1, u1⟩ := mul_step a b 0 1 hb (by omega)
        simp only [Nat.reduceAdd] at p1 q1 h1 f1 s1 u1
        obtain ⟨m2, p2, q2, g2, h2, f2, s2, u2⟩ := mul_step a b 0 2 hb (by omega)
        simp only [Nat.reduceAdd] at p2 q2 h2 f2 s2 u2
        obtain ⟨m3, p3, q3, g3, h3, f3, s3, u3⟩ := mul_step a b 0 3 hb (by omega)
        simp only [Nat.reduceAdd] at p3 q3 h3 f3 s3 u3
        have sf := cy_four a b 0 hb; simp only [Nat.reduceAdd] at sf
        go_wp2
        refine wp_loop_rounds 5 ?_
        rw [rounds_succ]; go_wp2; go_quiet ((go_at_call 78; refine (m0 _).mono ?_; rintro e w1 ⟨rfl, rfl⟩; exact ⟨rfl, _, rfl⟩)); go_wp2
        rw [rounds_succ]; go_wp2; go_quiet ((go_at_call 78; refine (m1 _).mono ?_; rintro e w1 ⟨rfl, rfl⟩; exact ⟨rfl, _, rfl⟩)); go_wp2
        rw [rounds_succ]; go_wp2; go_quiet ((go_at_call 78; refine (m2 _).mono ?_; rintro e w1 ⟨rfl, rfl⟩; exact ⟨rfl, _, rfl⟩)); go_wp2
        rw [rounds_succ]; go_wp2; go_quiet ((go_at_call 78; refine (m3 _).mono ?_; rintro e w1 ⟨rfl, rfl⟩; exact ⟨rfl, _, rfl⟩)); go_wp2
        rw [rounds_succ]; go_wp2
        clear m0 p0 q0 g0 h0 f0 s0 u0 m1 p1 q1 g1 h1 f1 s1 u1 m2 p2 q2 g2 h2 f2 s2 u2 m3 p3 q3 g3 h3 f3 s3 u3 sf
        have e5 : lb (pp a b 0) 5 = lb (pp a b 1) 5 := (pp_high a b 0 5 hb (by omega)).trans (pp_high a b 1 5 hb (by omega)).symm
        have e6 : lb (pp a b 0) 6 = lb (pp a b 1) 6 := (pp_high a b 0 6 hb (by omega)).trans (pp_high a b 1 6 hb (by omega)).symm
        have e7 : lb (pp a b 0) 7 = lb (pp a b 1) 7 := (pp_high a b 0 7 hb (by omega)).trans (pp_high a b 1 7 hb (by omega)).symm
        rw [e5, e6, e7] at kO
        refine ⟨⟨1, by omega, rfl, ?_, ?_, ?_, put_w0 kO _ _ _ _ _ _ _ _ _, ?_⟩, by simp [intOf]⟩
        · repeat' (first | (with_reducible exact kA) | (refine Blk.far ?_ lA _) | (refine Blk.drewN ?_ _))
        · repeat' (first | (with_reducible exact kB) | (refine Blk.far ?_ lB _) | (refine Blk.drewN ?_ _))
        · repeat' (first | (with_reducible exact kQ) | (refine Blk.far ?_ lQ _) | (refine Blk.drewN ?_ _))
        · repeat' (first | (with_reducible exact Below.refl _ _) | (with_reducible assumption) | (with_reducible refine below_drewN ?_ _) | (with_reducible refine Below.drew ?_) | (with_reducible refine Below.alloc ?_ ?_ _) | (with_reducible refine Below.setCell ?_ ?_ _) | go_size)
    · rw [show ((1 : Nat) : Int) = 1 from rfl]
      by_cases h0 : lb a 1 = 0
      · have hq : (lb a 1 == 0) = true := by rw [h0]; rfl
        have hs := pp_skip a b 1 h0
        go_wp2
        exact ⟨⟨2, by omega, rfl, kA, kB, kQ, by rw [hs]; exact kO, bw⟩, by simp [intOf]⟩
      · have hq : (lb a 1 == 0) = false := by simpa using h0
        obtain ⟨m0, p0, q0, g0, h0, f0, s0, u0⟩ := mul_step a b 1 0 hb (by omega)
        simp only [Nat.reduceAdd, cy_zero] at p0 q0 h0 f0 s0 u0
        obtain ⟨m1, p1, q1, g1, h1, f1, s1, u1⟩ := mul_step a b 1 1 hb (by omega)
        simp only [Nat.reduceAdd] at p1 q1 h1 f1 s1 u1
        obtain ⟨m2, p2, q2, g2, h2, f2, s2, u2⟩ := mul_step a b 1 2 hb (by omega)
        simp only [Nat.reduceAdd] at p2 q2 h2 f2 s2 u2
        obtain ⟨m3, p3, q3, g3, h3, f3, s3, u3⟩ := mul_step a b 1 3 hb (by omega)
        simp only [Nat.reduceAdd] at p3 q3 h3 f3 s3 u3
        have sf := cy_four a b 1 hb; simp only [Nat.reduceAdd] at sf
        go_wp2
        refine wp_loop_rounds 5 ?_
        rw [rounds_succ]; go_wp2; go_quiet ((go_at_call 78; refine (m0 _).mono ?_; rintro e w1 ⟨rfl, rfl⟩; exact ⟨rfl, _, rfl⟩)); go_wp2
        rw [rounds_succ]; go_wp2; go_quiet ((go_at_call 78; refine (m1 _).mono ?_; rintro e w1 ⟨rfl, rfl⟩; exact ⟨rfl, _, rfl⟩)); go_wp2
        rw [rounds_succ]; go_wp2; go_quiet ((go_at_call 78; refine (m2 _).mono ?_; rintro e w1 ⟨rfl, rfl⟩; exact ⟨rfl, _, rfl⟩)); go_wp2
        rw [rounds_succ]; go_wp2; go_quiet ((go_at_call 78; refine (m3 _).mono ?_; rintro e w1 ⟨rfl, rfl⟩; exact ⟨rfl, _, rfl⟩)); go_wp2
        rw [rounds_succ]; go_wp2
        clear m0 p0 q0 g0 h0 f0 s0 u0 m1 p1 q1 g1 h1 f1 s1 u1 m2 p2 q2 g2 h2 f2 s2 u2 m3 p3 q3 g3 h3 f3 s3 u3 sf
        have e0 : lb (pp a b 1) 0 = lb (pp a b 2) 0 := (lb_pp_keep a b 1 0 (by omega)).symm
        have e6 : lb (pp a b 1) 6 = lb (pp a b 2) 6 := (pp_high a b 1 6 hb (by omega)).trans (pp_high a b 2 6 hb (by omega)).symm
        have e7 : lb (pp a b 1) 7 = lb (pp a b 2) 7 := (pp_high a b 1 7 hb (by omega)).trans (pp_high a b 2 7 hb (by omega)).symm
        rw [e0, e6, e7] at kO
        refine ⟨⟨2, by omega, rfl, ?_, ?_, ?_, put_w1 kO _ _ _ _ _ _ _ _ _, ?_⟩, by simp [intOf]⟩
        · repeat' (first | (with_reducible exact kA) | (refine Blk.far ?_ lA _) | (refine Blk.drewN ?_ _))
        · repeat' (first | (with_reducible exact kB) | (refine Blk.far ?_ lB _) | (refine Blk.drewN ?_ _))
        · repeat' (first | (with_reducible exact kQ) | (refine Blk.far ?_ lQ _) | (refine Blk.drewN ?_ _))
        · repeat' (first | (with_reducible exact Below.refl _ _) | (with_reducible assumption) | (with_reducible refine below_drewN ?_ _) | (with_reducible refine Below.drew ?_) | (with_reducible refine Below.alloc ?_ ?_ _) | (with_reducible refine Below.setCell ?_ ?_ _) | go_size)
    · rw [show ((2 : Nat) : Int) = 2 from rfl]
      by_cases h0 : lb a 2 = 0
      · have hq : (lb a 2 == 0) = true := by rw [h0]; rfl
        have hs := pp_skip a b 2 h0
        go_wp2
        exact ⟨⟨3, by omega, rfl, kA, kB, kQ, by rw [hs]; exact kO, bw⟩, by simp [intOf]⟩
      · have hq : (lb a 2 == 0) = false := by simpa using h0
        obtain ⟨m0, p0, q0, g0, h0, f0, s0, u0⟩ := mul_step a b 2 0 hb (by omega)
        simp only [Nat.reduceAdd, cy_zero] at p0 q0 h0 f0 s0 u0
        obtain ⟨m1, p1, q1, g1, h1, f1, s1, u1⟩ := mul_step a b 2 1 hb (by omega)
        simp only [Nat.reduceAdd] at p1 q1 h1 f1 s1 u1
        obtain ⟨m2, p2, q2, g2, h2, f2, s2, u2⟩ := mul_step a b 2 2 hb (by omega)
        simp only [Nat.reduceAdd] at p2 q2 h2 f2 s2 u2
        obtain ⟨m3, p3, q3, g3, h3, f3, s3, u3⟩ := mul_step a b 2 3 hb (by omega)
        simp only [Nat.reduceAdd] at p3 q3 h3 f3 s3 u3
        have sf := cy_four a b 2 hb; simp only [Nat.reduceAdd] at sf
        go_wp2
        refine wp_loop_rounds 5 ?_
        rw [rounds_succ]; go_wp2; go_quiet ((go_at_call 78; refine (m0 _).mono ?_; rintro e w1 ⟨rfl, rfl⟩; exact ⟨rfl, _, rfl⟩)); go_wp2
        rw [rounds_succ]; go_wp2; go_quiet ((go_at_call 78; refine (m1 _).mono ?_; rintro e w1 ⟨rfl, rfl⟩; exact ⟨rfl, _, rfl⟩)); go_wp2
        rw [rounds_succ]; go_wp2; go_quiet ((go_at_call 78; refine (m2 _).mono ?_; rintro e w1 ⟨rfl, rfl⟩; exact ⟨rfl, _, rfl⟩)); go_wp2
        rw [rounds_succ]; go_wp2; go_quiet ((go_at_call 78; refine (m3 _).mono ?_; rintro e w1 ⟨rfl, rfl⟩; exact ⟨rfl, _, rfl⟩)); go_wp2
        rw [rounds_succ]; go_wp2
        clear m0 p0 q0 g0 h0 f0 s0 u0 m1 p1 q1 g1 h1 f1 s1 u1 m2 p2 q2 g2 h2 f2 s2 u2 m3 p3 q3 g3 h3 f3 s3 u3 sf
        have e0 : lb (pp a b 2) 0 = lb (pp a b 3) 0 := (lb_pp_keep a b 2 0 (by omega)).symm
        have e1 : lb (pp a b 2) 1 = lb (pp a b 3) 1 := (lb_pp_keep a b 2 1 (by omega)).symm
        have e7 : lb (pp a b 2) 7 = lb (pp a b 3) 7 := (pp_high a b 2 7 hb (by omega)).trans (pp_high a b 3 7 hb (by omega)).symm
        rw [e0, e1, e7] at kO
        refine ⟨⟨3, by omega, rfl, ?_, ?_, ?_, put_w2 kO _ _ _ _ _ _ _ _ _, ?_⟩, by simp [intOf]⟩
        · repeat' (first | (with_reducible exact kA) | (refine Blk.far ?_ lA _) | (refine Blk.drewN ?_ _))
        · repeat' (first | (with_reducible exact kB) | (refine Blk.far ?_ lB _) | (refine Blk.drewN ?_ _))
        · repeat' (first | (with_reducible exact kQ) | (refine Blk.far ?_ lQ _) | (refine Blk.drewN ?_ _))
        · repeat' (first | (with_reducible exact Below.refl _ _) | (with_reducible assumption) | (with_reducible refine below_drewN ?_ _) | (with_reducible refine Below.drew ?_) | (with_reducible refine Below.alloc ?_ ?_ _) | (with_reducible refine Below.setCell ?_ ?_ _) | go_size)
    · rw [show ((3 : Nat) : Int) = 3 from rfl]
      by_cases h0 : lb a 3 = 0
      · have hq : (lb a 3 == 0) = true := by rw [h0]; rfl
        have hs := pp_skip a b 3 h0
        go_wp2
        exact ⟨⟨4, by omega, rfl, kA, kB, kQ, by rw [hs]; exact kO, bw⟩, by simp [intOf]⟩
      · have hq : (lb a 3 == 0) = false := by simpa using h0
        obtain ⟨m0, p0, q0, g0, h0, f0, s0, u0⟩ := mul_step a b 3 0 hb (by omega)
        simp only [Nat.reduceAdd, cy_zero] at p0 q0 h0 f0 s0 u0
        obtain ⟨m1, p1, q1, g1, h1, f1, s1, u1⟩ := mul_step a b 3 1 hb (by omega)
        simp only [Nat.reduceAdd] at p1 q1 h1 f1 s1 u1
        obtain ⟨m2, p2, q2, g2, h2, f2, s2, u2⟩ := mul_step a b 3 2 hb (by omega)
        simp only [Nat.reduceAdd] at p2 q2 h2 f2 s2 u2
        obtain ⟨m3, p3, q3, g3, h3, f3, s3, u3⟩ := mul_step a b 3 3 hb (by omega)
        simp only [Nat.reduceAdd] at p3 q3 h3 f3 s3 u3
        have sf := cy_four a b 3 hb; simp only [Nat.reduceAdd] at sf
        go_wp2
        refine wp_loop_rounds 5 ?_
        rw [rounds_succ]; go_wp2; go_quiet ((go_at_call 78; refine (m0 _).mono ?_; rintro e w1 ⟨rfl, rfl⟩; exact ⟨rfl, _, rfl⟩)); go_wp2
        rw [rounds_succ]; go_wp2; go_quiet ((go_at_call 78; refine (m1 _).mono ?_; rintro e w1 ⟨rfl, rfl⟩; exact ⟨rfl, _, rfl⟩)); go_wp2
        rw [rounds_succ]; go_wp2; go_quiet ((go_at_call 78; refine (m2 _).mono ?_; rintro e w1 ⟨rfl, rfl⟩; exact ⟨rfl, _, rfl⟩)); go_wp2
        rw [rounds_succ]; go_wp2; go_quiet ((go_at_call 78; refine (m3 _).mono ?_; rintro e w1 ⟨rfl, rfl⟩; exact ⟨rfl, _, rfl⟩)); go_wp2
        rw [rounds_succ]; go_wp2
        clear m0 p0 q0 g0 h0 f0 s0 u0 m1 p1 q1 g1 h1 f1 s1 u1 m2 p2 q2 g2 h2 f2 s2 u2 m3 p3 q3 g3 h3 f3 s3 u3 sf
        have e0 : lb (pp a b 3) 0 = lb (pp a b 4) 0 := (lb_pp_keep a b 3 0 (by omega)).symm
        have e1 : lb (pp a b 3) 1 = lb (pp a b 4) 1 := (lb_pp_keep a b 3 1 (by omega)).symm
        have e2 : lb (pp a b 3) 2 = lb (pp a b 4) 2 := (lb_pp_keep a b 3 2 (by omega)).symm
        rw [e0, e1, e2] at kO
        refine ⟨⟨4, by omega, rfl, ?_, ?_, ?_, put_w3 kO _ _ _ _ _ _ _ _ _, ?_⟩, by simp [intOf]⟩
        · repeat' (first | (with_reducible exact kA) | (refine Blk.far ?_ lA _) | (refine Blk.drewN ?_ _))
        · repeat' (first | (with_reducible exact kB) | (refine Blk.far ?_ lB _) | (refine Blk.drewN ?_ _))
        · repeat' (first | (with_reducible exact kQ) | (refine Blk.far ?_ lQ _) | (refine Blk.drewN ?_ _))
        · repeat' (first | (with_reducible exact Below.refl _ _) | (with_reducible assumption) | (with_reducible refine below_drewN ?_ _) | (with_reducible refine Below.drew ?_) | (with_reducible refine Below.alloc ?_ ?_ _) | (with_reducible refine Below.setCell ?_ ?_ _) | go_size)
    · rw [show ((4 : Nat) : Int) = 4 from rfl]
      rw [pp_all a b ha] at kO
      clear kO_c kO_f kO_l
      obtain ⟨kO_c, kO_f, kO_l, _⟩ := kO.knows
      obtain ⟨kQ_c, kQ_f, kQ_l, _⟩ := kQ.knows
      go_wp2
      have kf := (put_w8 kQ (.int .u64 (lb (mulN a b) 0)) (.int .u64 (lb (mulN a b) 1)) (.int .u64 (lb (mulN a b) 2)) (.int .u64 (lb (mulN a b) 3)) (.int .u64 (lb (mulN a b) 4)) (.int .u64 (lb (mulN a b) 5)) (.int .u64 (lb (mulN a b) 6)) (.int .u64 (lb (mulN a b) 7))).knows
      obtain ⟨kf_c, kf_f, kf_l, _⟩ := kf
      refine bodyPost_ret (v := wide (mulN a b)) (by simp [results, Try.results58, go_sem, kf_c, kf_l]) rfl ?_
      refine ⟨rfl, ?_⟩
      repeat' (first | (with_reducible exact Below.refl _ _) | (with_reducible assumption) | (with_reducible refine below_drewN ?_ _) | (with_reducible refine Below.drew ?_) | (with_reducible refine Below.alloc ?_ ?_ _) | (with_reducible refine Below.setCell ?_ ?_ _) | go_size)
end Go.Proofs.Ytbmokmkaebfneaa
