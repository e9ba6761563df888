/- FieldNegs, the walk. -/
import Derived.Test.YtlibfjemdiochaaLF1
import Derived.Test.YtlibfjemdiochaaLF2
namespace Go.Proofs.Ytlibfjemdiochaa
set_option linter.unusedVariables false
set_option linter.unusedSimpArgs false
open Go.RowKit

set_option maxRecDepth 20000 in
set_option maxHeartbeats 2000000 in
theorem negs_walk (base : Bool) (a b : Nat) (ha : a < RR) (hb : b < RR) (w : World) : Calls Try.prog 8 #[.bool base, num a, num b] w fun e w' => e = .returned (.bool true) ∧ Below w.heap.size w w' := by
  have q1 : ∀ w, (Op.equalIn 10000 24 (num (fsbN base 0 (fsbN base 0 (frdN base b)))) (num (frdN base b))).run Try.prog w = .ok true w := by intro w; exact eqin_eq (neg_neg _ _ (frdN_lt _ _)) _
  have q2 : ∀ w, (Op.equalIn 10000 24 (num (fsbN base (frdN base a) (frdN base b))) (num (fadN base (frdN base a) (fsbN base 0 (frdN base b))))).run Try.prog w = .ok true w := by intro w; exact eqin_eq (sub_neg _ _ _ (frdN_lt _ _) (frdN_lt _ _)) _
  have q3 : ∀ w, (Op.equalIn 10000 24 (num (fmlN base (frdN base a) (fsbN base 0 (frdN base b)))) (num (fsbN base 0 (fmlN base (frdN base a) (frdN base b))))).run Try.prog w = .ok true w := by intro w; exact eqin_eq (mul_neg _ _ _ (frdN_lt _ _)) _
  go_enter Try.func8, Try.ntmps8
  go_wp2_with fail
  (with_reducible refine (of_any base _).mono ?_)
  rintro e w1 ⟨f0, g0, rfl, hF0, h1⟩
  have k1 := (((Blk.newAt (n := w.heap.size) _ _ _ (by first | rfl | simp)).alloc _).after h1)
  have k2 := ((Blk.newAt (n := w.heap.size + 1) _ _ _ (by first | rfl | simp)).after h1)
  have bw := below_call h1 (w := w) (by first | exact (below_alloc (Below.alloc (Below.refl _ _) (Below.size (Below.refl _ _)) _) _) | go_grown)
  clear h1
  obtain ⟨k1_c, k1_f, k1_l, k1_m, k1_n⟩ := k1.knows
  obtain ⟨k2_c, k2_f, k2_l, k2_m, k2_n⟩ := k2.knows
  go_wp2_with fail
  (with_reducible refine (in_any (base := base) a ha _).mono ?_)
  rintro e w2 ⟨rfl, h2⟩
  clear k1_c k1_f k1_m k1_n k2_c k2_f k2_m k2_n
  have o3 : w.heap.size + 1 < w1.heap.size := by first | exact k2_l | omega
  replace k2 := ((k2.alloc _).after h2)
  replace hF0 := ((hF0.alloc _).after h2)
  have k3 := ((Blk.newAt (n := w1.heap.size) _ _ _ (by first | rfl | simp)).after h2)
  have bwsz := Below.size bw
  replace bw := below_call h2 (w := w) (by first | exact (Below.alloc bw (Below.size bw) _) | go_grown)
  clear h2 bwsz k1_l k2_l
  clear k1
  obtain ⟨k2_c, k2_f, k2_l, k2_m, k2_n⟩ := k2.knows
  obtain ⟨k3_c, k3_f, k3_l, k3_m, k3_n⟩ := k3.knows
  go_wp2_with fail
  (with_reducible refine (in_any (base := base) b hb _).mono ?_)
  rintro e w3 ⟨rfl, h3⟩
  clear k2_c k2_f k2_m k2_n k3_c k3_f k3_m k3_n
  have o4 : w1.heap.size < w2.heap.size := by first | exact k3_l | omega
  replace hF0 := ((hF0.alloc _).after h3)
  have k4 := ((Blk.newAt (n := w2.heap.size) _ _ _ (by first | rfl | simp)).after h3)
  have bwsz := Below.size bw
  replace bw := below_call h3 (w := w) (by first | exact (Below.alloc bw (Below.size bw) _) | go_grown)
  clear h3 bwsz k2_l k3_l
  clear k2 k3
  obtain ⟨k4_c, k4_f, k4_l, k4_m, k4_n⟩ := k4.knows
  go_wp2_with fail
  (with_reducible refine (fneg_yes (hF0.alloc _) (frdN base b) (frdN_lt base b)).mono ?_)
  rintro e w4 ⟨rfl, h4⟩
  clear k4_c k4_f k4_m k4_n
  have o5 : w2.heap.size < w3.heap.size := by first | exact k4_l | omega
  replace hF0 := ((hF0.alloc _).after h4)
  replace k4 := ((k4.alloc _).after h4)
  have k5 := ((Blk.newAt (n := w3.heap.size) _ _ _ (by first | rfl | simp)).after h4)
  have bwsz := Below.size bw
  replace bw := below_call h4 (w := w) (by first | exact (Below.alloc bw (Below.size bw) _) | go_grown)
  clear h4 bwsz k4_l
  obtain ⟨k4_c, k4_f, k4_l, k4_m, k4_n⟩ := k4.knows
  obtain ⟨k5_c, k5_f, k5_l, k5_m, k5_n⟩ := k5.knows
  go_wp2_with fail
  (with_reducible refine (fneg_yes (hF0.alloc _) (fsbN base 0 (frdN base b)) (fsbN_lt base 0 (frdN base b))).mono ?_)
  rintro e w5 ⟨rfl, h5⟩
  clear k4_c k4_f k4_m k4_n k5_c k5_f k5_m k5_n
  have o6 : w3.heap.size < w4.heap.size := by first | exact k5_l | omega
  replace hF0 := ((hF0.alloc _).after h5)
  replace k4 := ((k4.alloc _).after h5)
  replace k5 := ((k5.alloc _).after h5)
  have k6 := ((Blk.newAt (n := w4.heap.size) _ _ _ (by first | rfl | simp)).after h5)
  have bwsz := Below.size bw
  replace bw := below_call h5 (w := w) (by first | exact (Below.alloc bw (Below.size bw) _) | go_grown)
  clear h5 bwsz k4_l k5_l
  obtain ⟨k4_c, k4_f, k4_l, k4_m, k4_n⟩ := k4.knows
  obtain ⟨k5_c, k5_f, k5_l, k5_m, k5_n⟩ := k5.knows
  obtain ⟨k6_c, k6_f, k6_l, k6_m, k6_n⟩ := k6.knows
  go_wp2_with fail
  (with_reducible refine (fsub_yes (hF0.alloc _) (frdN base a) (frdN base b) (frdN_lt base a) (frdN_lt base b)).mono ?_)
  rintro e w6 ⟨rfl, h6⟩
  clear k4_c k4_f k4_m k4_n k5_c k5_f k5_m k5_n k6_c k6_f k6_m k6_n
  have o7 : w4.heap.size < w5.heap.size := by first | exact k6_l | omega
  replace hF0 := ((hF0.alloc _).after h6)
  replace k4 := ((k4.alloc _).after h6)
  replace k5 := ((k5.alloc _).after h6)
  replace k6 := ((k6.alloc _).after h6)
  have k7 := ((Blk.newAt (n := w5.heap.size) _ _ _ (by first | rfl | simp)).after h6)
  have bwsz := Below.size bw
  replace bw := below_call h6 (w := w) (by first | exact (Below.alloc bw (Below.size bw) _) | go_grown)
  clear h6 bwsz k4_l k5_l k6_l
  obtain ⟨k4_c, k4_f, k4_l, k4_m, k4_n⟩ := k4.knows
  obtain ⟨k5_c, k5_f, k5_l, k5_m, k5_n⟩ := k5.knows
  obtain ⟨k6_c, k6_f, k6_l, k6_m, k6_n⟩ := k6.knows
  obtain ⟨k7_c, k7_f, k7_l, k7_m, k7_n⟩ := k7.knows
  go_wp2_with fail
  (with_reducible refine (fadd_yes (hF0.alloc _) (frdN base a) (fsbN base 0 (frdN base b)) (frdN_lt base a) (fsbN_lt base 0 (frdN base b))).mono ?_)
  rintro e w7 ⟨rfl, h7⟩
  clear k4_c k4_f k4_m k4_n k5_c k5_f k5_m k5_n k6_c k6_f k6_m k6_n k7_c k7_f k7_m k7_n
  have o8 : w5.heap.size < w6.heap.size := by first | exact k7_l | omega
  replace hF0 := ((hF0.alloc _).after h7)
  replace k4 := ((k4.alloc _).after h7)
  replace k5 := ((k5.alloc _).after h7)
  replace k6 := ((k6.alloc _).after h7)
  replace k7 := ((k7.alloc _).after h7)
  have k8 := ((Blk.newAt (n := w6.heap.size) _ _ _ (by first | rfl | simp)).after h7)
  have bwsz := Below.size bw
  replace bw := below_call h7 (w := w) (by first | exact (Below.alloc bw (Below.size bw) _) | go_grown)
  clear h7 bwsz k4_l k5_l k6_l k7_l
  obtain ⟨k4_c, k4_f, k4_l, k4_m, k4_n⟩ := k4.knows
  obtain ⟨k5_c, k5_f, k5_l, k5_m, k5_n⟩ := k5.knows
  obtain ⟨k6_c, k6_f, k6_l, k6_m, k6_n⟩ := k6.knows
  obtain ⟨k7_c, k7_f, k7_l, k7_m, k7_n⟩ := k7.knows
  obtain ⟨k8_c, k8_f, k8_l, k8_m, k8_n⟩ := k8.knows
  go_wp2_with fail
  (with_reducible refine (fmul_yes (hF0.alloc _) (frdN base a) (frdN base b) (frdN_lt base a) (frdN_lt base b)).mono ?_)
  rintro e w8 ⟨rfl, h8⟩
  clear k4_c k4_f k4_m k4_n k5_c k5_f k5_m k5_n k6_c k6_f k6_m k6_n k7_c k7_f k7_m k7_n k8_c k8_f k8_m k8_n
  have o9 : w6.heap.size < w7.heap.size := by first | exact k8_l | omega
  replace hF0 := ((hF0.alloc _).after h8)
  replace k4 := ((k4.alloc _).after h8)
  replace k5 := ((k5.alloc _).after h8)
  replace k6 := ((k6.alloc _).after h8)
  replace k7 := ((k7.alloc _).after h8)
  replace k8 := ((k8.alloc _).after h8)
  have k9 := ((Blk.newAt (n := w7.heap.size) _ _ _ (by first | rfl | simp)).after h8)
  have bwsz := Below.size bw
  replace bw := below_call h8 (w := w) (by first | exact (Below.alloc bw (Below.size bw) _) | go_grown)
  clear h8 bwsz k4_l k5_l k6_l k7_l k8_l
  obtain ⟨k4_c, k4_f, k4_l, k4_m, k4_n⟩ := k4.knows
  obtain ⟨k5_c, k5_f, k5_l, k5_m, k5_n⟩ := k5.knows
  obtain ⟨k6_c, k6_f, k6_l, k6_m, k6_n⟩ := k6.knows
  obtain ⟨k7_c, k7_f, k7_l, k7_m, k7_n⟩ := k7.knows
  obtain ⟨k8_c, k8_f, k8_l, k8_m, k8_n⟩ := k8.knows
  obtain ⟨k9_c, k9_f, k9_l, k9_m, k9_n⟩ := k9.knows
  go_wp2_with fail
  (with_reducible refine (fmul_yes (hF0.alloc _) (frdN base a) (fsbN base 0 (frdN base b)) (frdN_lt base a) (fsbN_lt base 0 (frdN base b))).mono ?_)
  rintro e w9 ⟨rfl, h9⟩
  clear k4_c k4_f k4_m k4_n k5_c k5_f k5_m k5_n k6_c k6_f k6_m k6_n k7_c k7_f k7_m k7_n k8_c k8_f k8_m k8_n k9_c k9_f k9_m k9_n
  have o10 : w7.heap.size < w8.heap.size := by first | exact k9_l | omega
  replace hF0 := ((hF0.alloc _).after h9)
  replace k5 := ((k5.alloc _).after h9)
  replace k7 := ((k7.alloc _).after h9)
  replace k8 := ((k8.alloc _).after h9)
  replace k9 := ((k9.alloc _).after h9)
  have k10 := ((Blk.newAt (n := w8.heap.size) _ _ _ (by first | rfl | simp)).after h9)
  have bwsz := Below.size bw
  replace bw := below_call h9 (w := w) (by first | exact (Below.alloc bw (Below.size bw) _) | go_grown)
  clear h9 bwsz k4_l k5_l k6_l k7_l k8_l k9_l
  clear k4 k6
  obtain ⟨k5_c, k5_f, k5_l, k5_m, k5_n⟩ := k5.knows
  obtain ⟨k7_c, k7_f, k7_l, k7_m, k7_n⟩ := k7.knows
  obtain ⟨k8_c, k8_f, k8_l, k8_m, k8_n⟩ := k8.knows
  obtain ⟨k9_c, k9_f, k9_l, k9_m, k9_n⟩ := k9.knows
  obtain ⟨k10_c, k10_f, k10_l, k10_m, k10_n⟩ := k10.knows
  go_wp2_with fail
  (with_reducible refine (fneg_yes (hF0.alloc _) (fmlN base (frdN base a) (frdN base b)) (fmlN_lt base (frdN base a) (frdN base b))).mono ?_)
  rintro e w10 ⟨rfl, h10⟩
  clear k5_c k5_f k5_m k5_n k7_c k7_f k7_m k7_n k8_c k8_f k8_m k8_n k9_c k9_f k9_m k9_n k10_c k10_f k10_m k10_n
  have o11 : w8.heap.size < w9.heap.size := by first | exact k10_l | omega
  replace hF0 := ((hF0.alloc _).after h10)
  replace k5 := ((k5.alloc _).after h10)
  replace k7 := ((k7.alloc _).after h10)
  replace k8 := ((k8.alloc _).after h10)
  replace k9 := ((k9.alloc _).after h10)
  have k11 := ((Blk.newAt (n := w9.heap.size) _ _ _ (by first | rfl | simp)).after h10)
  have bwsz := Below.size bw
  replace bw := below_call h10 (w := w) (by first | exact (Below.alloc bw (Below.size bw) _) | go_grown)
  clear h10 bwsz k5_l k7_l k8_l k9_l k10_l
  clear k10
  obtain ⟨k5_c, k5_f, k5_l, k5_m, k5_n⟩ := k5.knows
  obtain ⟨k7_c, k7_f, k7_l, k7_m, k7_n⟩ := k7.knows
  obtain ⟨k8_c, k8_f, k8_l, k8_m, k8_n⟩ := k8.knows
  obtain ⟨k9_c, k9_f, k9_l, k9_m, k9_n⟩ := k9.knows
  obtain ⟨k11_c, k11_f, k11_l, k11_m, k11_n⟩ := k11.knows
  go_wp2_with fail
  (with_reducible refine (half_any _).mono ?_)
  rintro e w11 ⟨rfl, h11⟩
  clear k5_c k5_f k5_m k5_n k7_c k7_f k7_m k7_n k8_c k8_f k8_m k8_n k9_c k9_f k9_m k9_n k11_c k11_f k11_m k11_n
  have o12 : w9.heap.size < w10.heap.size := by first | exact k11_l | omega
  replace hF0 := ((hF0.alloc _).after h11)
  have bwsz := Below.size bw
  replace bw := below_call h11 (w := w) (by first | exact (Below.alloc bw (Below.size bw) _) | go_grown)
  clear h11 bwsz k5_l k7_l k8_l k9_l k11_l
  clear k5 k7 k8 k9 k11
  go_wp2
  go_ret
  exact ⟨rfl, (by first | exact bw | go_grown)⟩
end Go.Proofs.Ytlibfjemdiochaa
