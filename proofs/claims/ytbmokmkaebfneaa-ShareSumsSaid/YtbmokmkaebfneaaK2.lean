/- A number's place in memory is made, and the number stored. Blocks and worlds, for printed walks. -/
import Derived.Test.YtbmokmkaebfneaaA
import Derived.Test.YtbmokmkaebfneaaO
namespace Go.Proofs.Ytbmokmkaebfneaa
set_option linter.unusedVariables false
set_option linter.unusedSimpArgs false
open Go.RowKit

/-- A number's place is made, and the number stored. -/
theorem put_num {W w1 w2 w3 : World} {g : Nat} {t : TypeId} {cs : Array Value} (x0 x1 x2 x3 : Value) (hk : Blk W g t cs) (g1 : Grow W w1) (g2 : Grow (w1.alloc (.cells #[.int .u64 0, .int .u64 0, .int .u64 0, .int .u64 0] 24)) w2)
    (g3 : Grow ((((w2.setCell ⟨w1.heap.size, 0, none⟩ x0).setCell ⟨w1.heap.size, 1, none⟩ x1).setCell ⟨w1.heap.size, 2, none⟩ x2).setCell ⟨w1.heap.size, 3, none⟩ x3) w3) : Blk w3 g t cs := by
  have h1 := hk.after g1
  have hl := h1.lt
  have h2 := (h1.alloc (.cells #[.int .u64 0, .int .u64 0, .int .u64 0, .int .u64 0] 24)).after g2
  exact ((((h2.far (by dsimp only; omega) _).far (by dsimp only; omega) _).far (by dsimp only; omega) _).far (by dsimp only; omega) _).after g3
theorem put_new {w1 w2 w3 : World} (x0 x1 x2 x3 : Value) (g2 : Grow (w1.alloc (.cells #[.int .u64 0, .int .u64 0, .int .u64 0, .int .u64 0] 24)) w2)
    (g3 : Grow ((((w2.setCell ⟨w1.heap.size, 0, none⟩ x0).setCell ⟨w1.heap.size, 1, none⟩ x1).setCell ⟨w1.heap.size, 2, none⟩ x2).setCell ⟨w1.heap.size, 3, none⟩ x3) w3) : Blk w3 w1.heap.size 24 #[x0, x1, x2, x3] := by
  have h2 : Blk w2 w1.heap.size 24 #[.int .u64 0, .int .u64 0, .int .u64 0, .int .u64 0] := (Blk.new w1 _ _).after g2
  exact ((((h2.set_ 0 x0).set_ 1 x1).set_ 2 x2).set_ 3 x3).after g3
theorem put_below {B : Nat} {w W w1 w2 w3 : World} (x0 x1 x2 x3 : Value) (hb : Below B w W) (hB : B ≤ W.heap.size) (g1 : Grow W w1) (g2 : Grow (w1.alloc (.cells #[.int .u64 0, .int .u64 0, .int .u64 0, .int .u64 0] 24)) w2)
    (g3 : Grow ((((w2.setCell ⟨w1.heap.size, 0, none⟩ x0).setCell ⟨w1.heap.size, 1, none⟩ x1).setCell ⟨w1.heap.size, 2, none⟩ x2).setCell ⟨w1.heap.size, 3, none⟩ x3) w3) : Below B w w3 := by
  have s1 : W.heap.size ≤ w1.heap.size := Below.size g1
  have h1 : Below B w w1 := hb.trans (Below.mono g1 hB)
  have h2 := h1.alloc (Nat.le_trans hB s1) (.cells #[.int .u64 0, .int .u64 0, .int .u64 0, .int .u64 0] 24)
  have s2 : w1.heap.size + 1 ≤ w2.heap.size := by have := Below.size g2; simpa using this
  have h3 : Below B w w2 := h2.trans (Below.mono g2 (by simp; omega))
  have h4 := (((h3.setCell (p := ⟨w1.heap.size, 0, none⟩) (by dsimp only; omega) x0).setCell (p := ⟨w1.heap.size, 1, none⟩) (by dsimp only; omega) x1).setCell (p := ⟨w1.heap.size, 2, none⟩) (by dsimp only; omega) x2).setCell (p := ⟨w1.heap.size, 3, none⟩) (by dsimp only; omega) x3
  exact h4.trans (Below.mono g3 (by simp; omega))
theorem new_num {W w' : World} (hg : Grow (W.alloc (.cells #[.int .u64 0, .int .u64 0, .int .u64 0, .int .u64 0] 24)) w') : Blk w' W.heap.size 24 #[.int .u64 0, .int .u64 0, .int .u64 0, .int .u64 0] := (Blk.new W _ _).after hg
theorem Blk.put4 {w : World} {g : Nat} {t : TypeId} {x0 x1 x2 x3 : Value} (h : Blk w g t #[x0, x1, x2, x3]) (y0 y1 y2 y3 : Value) :
    Blk ((((w.setCell ⟨g, 0, none⟩ y0).setCell ⟨g, 1, none⟩ y1).setCell ⟨g, 2, none⟩ y2).setCell ⟨g, 3, none⟩ y3) g t #[y0, y1, y2, y3] := (((h.set_ 0 y0).set_ 1 y1).set_ 2 y2).set_ 3 y3
theorem put_after {w w1 w2 : World} {g : Nat} (hg : w.heap.size ≤ g) (x0 x1 x2 x3 : Value) (hb : Below w.heap.size w w1) (h : Grow ((((w1.setCell ⟨g, 0, none⟩ x0).setCell ⟨g, 1, none⟩ x1).setCell ⟨g, 2, none⟩ x2).setCell ⟨g, 3, none⟩ x3) w2) : Below w.heap.size w w2 := by
  have h4 := (((hb.setCell (p := ⟨g, 0, none⟩) (by dsimp only; omega) x0).setCell (p := ⟨g, 1, none⟩) (by dsimp only; omega) x1).setCell (p := ⟨g, 2, none⟩) (by dsimp only; omega) x2).setCell (p := ⟨g, 3, none⟩) (by dsimp only; omega) x3
  exact below_call h h4
end Go.Proofs.Ytbmokmkaebfneaa
namespace Go.Proofs.Ytbmokmkaebfneaa
set_option linter.unusedVariables false
set_option linter.unusedSimpArgs false
open Go.RowKit

theorem Blk.re {w : World} {g : Nat} {t : TypeId} {cs cs' : Array Value} (h : Blk w g t cs) (e : cs = cs') : Blk w g t cs' := e ▸ h
theorem below_alloc {B : Nat} {w w1 : World} (h : Below B w w1) (o : Obj) (hs : B ≤ w1.heap.size) : Below B w (w1.alloc o) := h.alloc hs o
theorem wp_world {P : Program} {c : Code} {Q : Exit → Act → World → Prop} {a : Act} {w : World} (R : World → Prop) (h : ∀ W, R W → c.wp P Q a W) (hr : R w) : c.wp P Q a w := h w hr
theorem eqin_eq {m n : Nat} (h : m = n) (w : World) : (Op.equalIn 10000 24 (num m) (num n)).run Try.prog w = .ok true w := by rw [h]; exact eqin_same n w
end Go.Proofs.Ytbmokmkaebfneaa
