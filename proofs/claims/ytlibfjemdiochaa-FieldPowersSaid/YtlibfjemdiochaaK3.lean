/- Blocks and worlds, for printed walks. -/
import Derived.Test.YtlibfjemdiochaaK2
import Derived.Test.YtlibfjemdiochaaQ
namespace Go.Proofs.Ytlibfjemdiochaa
set_option linter.unusedVariables false
set_option linter.unusedSimpArgs false
open Go.RowKit

theorem Blk.re {w : World} {g : Nat} {t : TypeId} {cs cs' : Array Value} (h : Blk w g t cs) (e : cs = cs') : Blk w g t cs' := e ▸ h
theorem below_alloc {B : Nat} {w w1 : World} (h : Below B w w1) (o : Obj) (hs : B ≤ w1.heap.size) : Below B w (w1.alloc o) := h.alloc hs o
theorem wp_world {P : Program} {c : Code} {Q : Exit → Act → World → Prop} {a : Act} {w : World} (R : World → Prop) (h : ∀ W, R W → c.wp P Q a W) (hr : R w) : c.wp P Q a w := h w hr
theorem eqin_eq {m n : Nat} (h : m = n) (w : World) : (Op.equalIn 10000 24 (num m) (num n)).run Try.prog w = .ok true w := by rw [h]; exact eqin_same n w
end Go.Proofs.Ytlibfjemdiochaa
