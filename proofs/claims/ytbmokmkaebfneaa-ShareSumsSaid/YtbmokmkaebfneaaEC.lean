/- The curve y^2 = x^3 + 7 over the numbers mod a prime: its points are a group. In plain Lean, no program here. -/
import Derived.Test.YtbmokmkaebfneaaPR
namespace Go.Proofs.Ytbmokmkaebfneaa
set_option linter.unusedVariables false
set_option linter.unusedSimpArgs false
set_option linter.unusedSectionVars false
section
variable {n : Nat} [NeZero n]
set_option maxHeartbeats 40000000 in
set_option maxRecDepth 100000 in
theorem gen_x (x1 y1 x2 y2 x3 y3 a b xs ys xt yt : Fin n)
    (e1 : y1 * y1 = x1 * x1 * x1 + 7) (ha : a * (x2 - x1) = y2 - y1) (hb : b * (x3 - x2) = y3 - y2)
    (ha' : a * (y1 + y2) = x1 * x1 + x1 * x2 + x2 * x2) (hb' : b * (y2 + y3) = x2 * x2 + x2 * x3 + x3 * x3)
    (hxs : xs = a * a - x1 - x2) (hys : ys = a * (x1 - xs) - y1) (hxt : xt = b * b - x2 - x3) (hyt : yt = b * (x2 - xt) - y2) :
    ((y3 - ys) * (y3 - ys) - (xs + x3) * ((x3 - xs) * (x3 - xs))) * ((xt - x1) * (xt - x1)) = ((yt - y1) * (yt - y1) - (x1 + xt) * ((xt - x1) * (xt - x1))) * ((x3 - xs) * (x3 - xs)) := by
  subst hys hyt hxs hxt
  grobner (ringSteps := 10000000)
set_option maxHeartbeats 40000000 in
set_option maxRecDepth 100000 in
theorem gen_y (x1 y1 x2 y2 x3 y3 a b xs ys xt yt n1 : Fin n)
    (e1 : y1 * y1 = x1 * x1 * x1 + 7) (ha : a * (x2 - x1) = y2 - y1) (hb : b * (x3 - x2) = y3 - y2)
    (ha' : a * (y1 + y2) = x1 * x1 + x1 * x2 + x2 * x2) (hb' : b * (y2 + y3) = x2 * x2 + x2 * x3 + x3 * x3)
    (hxs : xs = a * a - x1 - x2) (hys : ys = a * (x1 - xs) - y1) (hxt : xt = b * b - x2 - x3) (hyt : yt = b * (x2 - xt) - y2)
    (hn1 : n1 = (y3 - ys) * (y3 - ys) - (xs + x3) * ((x3 - xs) * (x3 - xs))) :
    ((y3 - ys) * (n1 - xs * ((x3 - xs) * (x3 - xs))) + ys * ((x3 - xs) * (x3 - xs) * (x3 - xs))) * (xt - x1) = ((yt - y1) * (n1 - x1 * ((x3 - xs) * (x3 - xs))) + y1 * ((xt - x1) * ((x3 - xs) * (x3 - xs)))) * (x3 - xs) := by
  subst hn1 hys hyt hxs hxt
  grobner (ringSteps := 10000000)
end
end Go.Proofs.Ytbmokmkaebfneaa
