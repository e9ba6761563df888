/- FieldRules, the walk. -/
import Derived.Test.YtlibfjemdiochaaLF1
import Derived.Test.YtlibfjemdiochaaLF2
namespace Go.Proofs.Ytlibfjemdiochaa
set_option linter.unusedVariables false
set_option linter.unusedSimpArgs false
open Go.RowKit

set_option maxRecDepth 20000 in
set_option maxHeartbeats 2000000 in
theorem rules_zero (base : Bool) (a b c : Nat) (ha : a < RR) (hb : b < RR) (hc : c < RR) (h0 : frdN base a = 0) (w : World) : Calls Try.prog 7 #[.bool base, .agg #[.int .u64 (lb a 0), .int .u64 (lb a 1), .int .u64 (lb a 2), .int .u64 (lb a 3), .int .u64 (lb b 0), .int .u64 (lb b 1), .int .u64 (lb b 2), .int .u64 (lb b 3), .int .u64 (lb c 0), .int .u64 (lb c 1), .int .u64 (lb c 2), .int .u64 (lb c 3)]] w fun e w' => e = .returned (.bool true) ∧ Below w.heap.size w w' := by
  have h0_ := Lib.hid h0; clear h0
  have cl0 : ∀ (W : World) (f g : Nat), FieldB W f g base → Calls Try.prog 22 #[.pointer (some ⟨f, 0, none⟩), num (frdN base a), oneV] W fun e w' => e = .returned (.tuple #[num (fmlN base (frdN base a) 1), .int .i64 0]) ∧ Below W.heap.size W w' := by intro W f g hF; rw [← num_one]; exact fmul_yes hF (frdN base a) 1 (frdN_lt base a) (pN_one base)
  have q1 : ∀ w, (Op.equalIn 10000 24 (num (fmlN base (frdN base a) (frdN base b))) (num (fmlN base (frdN base b) (frdN base a)))).run Try.prog w = .ok true w := by intro w; exact eqin_eq (fml_comm _ _ _) _
  have q2 : ∀ w, (Op.equalIn 10000 24 (num (fmlN base (fmlN base (frdN base a) (frdN base b)) (frdN base c))) (num (fmlN base (frdN base a) (fmlN base (frdN base b) (frdN base c))))).run Try.prog w = .ok true w := by intro w; exact eqin_eq (fml_assoc _ _ _ _) _
  have q3 : ∀ w, (Op.equalIn 10000 24 (num (fmlN base (frdN base a) (fadN base (frdN base b) (frdN base c)))) (num (fadN base (fmlN base (frdN base a) (frdN base b)) (fmlN base (frdN base a) (frdN base c))))).run Try.prog w = .ok true w := by intro w; exact eqin_eq (fml_add _ _ _ _) _
  have q4 : ∀ w, (Op.equalIn 10000 24 (num (fadN base (frdN base a) (fsbN base 0 (frdN base a)))) (zeroV)).run Try.prog w = .ok true w := by intro w; rw [← num_zero]; exact eqin_eq (fad_neg _ _ (frdN_lt _ _)) _
  have q5 : ∀ w, (Op.equalIn 10000 24 (num (fmlN base (frdN base a) 1)) (num (frdN base a))).run Try.prog w = .ok true w := by intro w; exact eqin_eq (fml_one _ _ (frdN_lt _ _)) _
  have q6 : ∀ w, (Op.equalIn 10000 24 (num (frdN base a)) (zeroV)).run Try.prog w = .ok true w := by intro w; rw [← num_zero]; exact eqin_eq h0_.out _
  go_enter Try.func7, Try.ntmps7
  go_wp2_with fail
  (with_reducible refine (of_any base _).mono ?_)
  rintro e w1 ⟨f0, g0, rfl, hF0, h1⟩
  have k1 := ((Blk.newAt (n := w.heap.size) _ _ _ (by first | rfl | simp)).after h1)
  have bw := below_call h1 (w := w) (by first | exact (Below.alloc (Below.refl _ _) (Below.size (Below.refl _ _)) _) | go_grown)
  clear h1
  obtain ⟨k1_c, k1_f, k1_l, k1_m, k1_n⟩ := k1.knows
  go_wp2_with fail
  (with_reducible refine (in_any (base := base) a ha _).mono ?_)
  rintro e w2 ⟨rfl, h2⟩
  clear k1_c k1_f k1_m k1_n
  have o2 : w.heap.size < w1.heap.size := by first | exact k1_l | omega
  replace k1 := ((k1.alloc _).after h2)
  replace hF0 := ((hF0.alloc _).after h2)
  have k2 := ((Blk.newAt (n := w1.heap.size) _ _ _ (by first | rfl | simp)).after h2)
  have bwsz := Below.size bw
  replace bw := below_call h2 (w := w) (by first | exact (Below.alloc bw (Below.size bw) _) | go_grown)
  clear h2 bwsz k1_l
  obtain ⟨k1_c, k1_f, k1_l, k1_m, k1_n⟩ := k1.knows
  obtain ⟨k2_c, k2_f, k2_l, k2_m, k2_n⟩ := k2.knows
  go_wp2_with fail
  (with_reducible refine (in_any (base := base) b hb _).mono ?_)
  rintro e w3 ⟨rfl, h3⟩
  clear k1_c k1_f k1_m k1_n k2_c k2_f k2_m k2_n
  have o3 : w1.heap.size < w2.heap.size := by first | exact k2_l | omega
  replace k1 := ((k1.alloc _).after h3)
  replace hF0 := ((hF0.alloc _).after h3)
  replace k2 := ((k2.alloc _).after h3)
  have k3 := ((Blk.newAt (n := w2.heap.size) _ _ _ (by first | rfl | simp)).after h3)
  have bwsz := Below.size bw
  replace bw := below_call h3 (w := w) (by first | exact (Below.alloc bw (Below.size bw) _) | go_grown)
  clear h3 bwsz k1_l k2_l
  obtain ⟨k1_c, k1_f, k1_l, k1_m, k1_n⟩ := k1.knows
  obtain ⟨k2_c, k2_f, k2_l, k2_m, k2_n⟩ := k2.knows
  obtain ⟨k3_c, k3_f, k3_l, k3_m, k3_n⟩ := k3.knows
  go_wp2_with fail
  (with_reducible refine (in_any (base := base) c hc _).mono ?_)
  rintro e w4 ⟨rfl, h4⟩
  clear k1_c k1_f k1_m k1_n k2_c k2_f k2_m k2_n k3_c k3_f k3_m k3_n
  have o4 : w2.heap.size < w3.heap.size := by first | exact k3_l | omega
  replace hF0 := ((hF0.alloc _).after h4)
  replace k3 := ((k3.alloc _).after h4)
  have k4 := ((Blk.newAt (n := w3.heap.size) _ _ _ (by first | rfl | simp)).after h4)
  have bwsz := Below.size bw
  replace bw := below_call h4 (w := w) (by first | exact (Below.alloc bw (Below.size bw) _) | go_grown)
  clear h4 bwsz k1_l k2_l k3_l
  clear k1 k2
  obtain ⟨k3_c, k3_f, k3_l, k3_m, k3_n⟩ := k3.knows
  obtain ⟨k4_c, k4_f, k4_l, k4_m, k4_n⟩ := k4.knows
  go_wp2_with fail
  (with_reducible refine (fmul_yes (hF0.alloc _) (frdN base a) (frdN base b) (frdN_lt base a) (frdN_lt base b)).mono ?_)
  rintro e w5 ⟨rfl, h5⟩
  clear k3_c k3_f k3_m k3_n k4_c k4_f k4_m k4_n
  have o5 : w3.heap.size < w4.heap.size := by first | exact k4_l | omega
  replace hF0 := ((hF0.alloc _).after h5)
  replace k3 := ((k3.alloc _).after h5)
  replace k4 := ((k4.alloc _).after h5)
  have k5 := ((Blk.newAt (n := w4.heap.size) _ _ _ (by first | rfl | simp)).after h5)
  have bwsz := Below.size bw
  replace bw := below_call h5 (w := w) (by first | exact (Below.alloc bw (Below.size bw) _) | go_grown)
  clear h5 bwsz k3_l k4_l
  obtain ⟨k3_c, k3_f, k3_l, k3_m, k3_n⟩ := k3.knows
  obtain ⟨k4_c, k4_f, k4_l, k4_m, k4_n⟩ := k4.knows
  obtain ⟨k5_c, k5_f, k5_l, k5_m, k5_n⟩ := k5.knows
  go_wp2_with fail
  (with_reducible refine (fmul_yes (hF0.alloc _) (frdN base b) (frdN base a) (frdN_lt base b) (frdN_lt base a)).mono ?_)
  rintro e w6 ⟨rfl, h6⟩
  clear k3_c k3_f k3_m k3_n k4_c k4_f k4_m k4_n k5_c k5_f k5_m k5_n
  have o6 : w4.heap.size < w5.heap.size := by first | exact k5_l | omega
  replace hF0 := ((hF0.alloc _).after h6)
  replace k3 := ((k3.alloc _).after h6)
  replace k4 := ((k4.alloc _).after h6)
  replace k5 := ((k5.alloc _).after h6)
  have k6 := ((Blk.newAt (n := w5.heap.size) _ _ _ (by first | rfl | simp)).after h6)
  have bwsz := Below.size bw
  replace bw := below_call h6 (w := w) (by first | exact (Below.alloc bw (Below.size bw) _) | go_grown)
  clear h6 bwsz k3_l k4_l k5_l
  obtain ⟨k3_c, k3_f, k3_l, k3_m, k3_n⟩ := k3.knows
  obtain ⟨k4_c, k4_f, k4_l, k4_m, k4_n⟩ := k4.knows
  obtain ⟨k5_c, k5_f, k5_l, k5_m, k5_n⟩ := k5.knows
  obtain ⟨k6_c, k6_f, k6_l, k6_m, k6_n⟩ := k6.knows
  go_wp2_with fail
  (with_reducible refine (fmul_yes (hF0.alloc _) (fmlN base (frdN base a) (frdN base b)) (frdN base c) (fmlN_lt base (frdN base a) (frdN base b)) (frdN_lt base c)).mono ?_)
  rintro e w7 ⟨rfl, h7⟩
  clear k3_c k3_f k3_m k3_n k4_c k4_f k4_m k4_n k5_c k5_f k5_m k5_n k6_c k6_f k6_m k6_n
  have o7 : w5.heap.size < w6.heap.size := by first | exact k6_l | omega
  replace hF0 := ((hF0.alloc _).after h7)
  replace k3 := ((k3.alloc _).after h7)
  replace k4 := ((k4.alloc _).after h7)
  replace k5 := ((k5.alloc _).after h7)
  replace k6 := ((k6.alloc _).after h7)
  have k7 := ((Blk.newAt (n := w6.heap.size) _ _ _ (by first | rfl | simp)).after h7)
  have bwsz := Below.size bw
  replace bw := below_call h7 (w := w) (by first | exact (Below.alloc bw (Below.size bw) _) | go_grown)
  clear h7 bwsz k3_l k4_l k5_l k6_l
  obtain ⟨k3_c, k3_f, k3_l, k3_m, k3_n⟩ := k3.knows
  obtain ⟨k4_c, k4_f, k4_l, k4_m, k4_n⟩ := k4.knows
  obtain ⟨k5_c, k5_f, k5_l, k5_m, k5_n⟩ := k5.knows
  obtain ⟨k6_c, k6_f, k6_l, k6_m, k6_n⟩ := k6.knows
  obtain ⟨k7_c, k7_f, k7_l, k7_m, k7_n⟩ := k7.knows
  go_wp2_with fail
  (with_reducible refine (fmul_yes (hF0.alloc _) (frdN base b) (frdN base c) (frdN_lt base b) (frdN_lt base c)).mono ?_)
  rintro e w8 ⟨rfl, h8⟩
  clear k3_c k3_f k3_m k3_n k4_c k4_f k4_m k4_n k5_c k5_f k5_m k5_n k6_c k6_f k6_m k6_n k7_c k7_f k7_m k7_n
  have o8 : w6.heap.size < w7.heap.size := by first | exact k7_l | omega
  replace hF0 := ((hF0.alloc _).after h8)
  replace k3 := ((k3.alloc _).after h8)
  replace k4 := ((k4.alloc _).after h8)
  replace k5 := ((k5.alloc _).after h8)
  replace k6 := ((k6.alloc _).after h8)
  replace k7 := ((k7.alloc _).after h8)
  have k8 := ((Blk.newAt (n := w7.heap.size) _ _ _ (by first | rfl | simp)).after h8)
  have bwsz := Below.size bw
  replace bw := below_call h8 (w := w) (by first | exact (Below.alloc bw (Below.size bw) _) | go_grown)
  clear h8 bwsz k3_l k4_l k5_l k6_l k7_l
  obtain ⟨k3_c, k3_f, k3_l, k3_m, k3_n⟩ := k3.knows
  obtain ⟨k4_c, k4_f, k4_l, k4_m, k4_n⟩ := k4.knows
  obtain ⟨k5_c, k5_f, k5_l, k5_m, k5_n⟩ := k5.knows
  obtain ⟨k6_c, k6_f, k6_l, k6_m, k6_n⟩ := k6.knows
  obtain ⟨k7_c, k7_f, k7_l, k7_m, k7_n⟩ := k7.knows
  obtain ⟨k8_c, k8_f, k8_l, k8_m, k8_n⟩ := k8.knows
  go_wp2_with fail
  (with_reducible refine (fmul_yes (hF0.alloc _) (frdN base a) (fmlN base (frdN base b) (frdN base c)) (frdN_lt base a) (fmlN_lt base (frdN base b) (frdN base c))).mono ?_)
  rintro e w9 ⟨rfl, h9⟩
  clear k3_c k3_f k3_m k3_n k4_c k4_f k4_m k4_n k5_c k5_f k5_m k5_n k6_c k6_f k6_m k6_n k7_c k7_f k7_m k7_n k8_c k8_f k8_m k8_n
  have o9 : w7.heap.size < w8.heap.size := by first | exact k8_l | omega
  replace hF0 := ((hF0.alloc _).after h9)
  replace k3 := ((k3.alloc _).after h9)
  replace k4 := ((k4.alloc _).after h9)
  replace k5 := ((k5.alloc _).after h9)
  replace k6 := ((k6.alloc _).after h9)
  replace k7 := ((k7.alloc _).after h9)
  replace k8 := ((k8.alloc _).after h9)
  have bwsz := Below.size bw
  replace bw := below_call h9 (w := w) (by first | exact (Below.alloc bw (Below.size bw) _) | go_grown)
  clear h9 bwsz k3_l k4_l k5_l k6_l k7_l k8_l
  obtain ⟨k3_c, k3_f, k3_l, k3_m, k3_n⟩ := k3.knows
  obtain ⟨k4_c, k4_f, k4_l, k4_m, k4_n⟩ := k4.knows
  obtain ⟨k5_c, k5_f, k5_l, k5_m, k5_n⟩ := k5.knows
  obtain ⟨k6_c, k6_f, k6_l, k6_m, k6_n⟩ := k6.knows
  obtain ⟨k7_c, k7_f, k7_l, k7_m, k7_n⟩ := k7.knows
  obtain ⟨k8_c, k8_f, k8_l, k8_m, k8_n⟩ := k8.knows
  go_wp2_with fail
  (with_reducible refine (fmul_yes (hF0.alloc _) (frdN base a) (frdN base c) (frdN_lt base a) (frdN_lt base c)).mono ?_)
  rintro e w10 ⟨rfl, h10⟩
  clear k3_c k3_f k3_m k3_n k4_c k4_f k4_m k4_n k5_c k5_f k5_m k5_n k6_c k6_f k6_m k6_n k7_c k7_f k7_m k7_n k8_c k8_f k8_m k8_n
  have o10 : w7.heap.size < w9.heap.size := by first | exact k8_l | omega
  replace hF0 := ((hF0.alloc _).after h10)
  replace k3 := ((k3.alloc _).after h10)
  replace k4 := ((k4.alloc _).after h10)
  replace k5 := ((k5.alloc _).after h10)
  replace k6 := ((k6.alloc _).after h10)
  replace k7 := ((k7.alloc _).after h10)
  replace k8 := ((k8.alloc _).after h10)
  have k10 := ((Blk.newAt (n := w9.heap.size) _ _ _ (by first | rfl | simp)).after h10)
  have bwsz := Below.size bw
  replace bw := below_call h10 (w := w) (by first | exact (Below.alloc bw (Below.size bw) _) | go_grown)
  clear h10 bwsz k3_l k4_l k5_l k6_l k7_l k8_l
  obtain ⟨k3_c, k3_f, k3_l, k3_m, k3_n⟩ := k3.knows
  obtain ⟨k4_c, k4_f, k4_l, k4_m, k4_n⟩ := k4.knows
  obtain ⟨k5_c, k5_f, k5_l, k5_m, k5_n⟩ := k5.knows
  obtain ⟨k6_c, k6_f, k6_l, k6_m, k6_n⟩ := k6.knows
  obtain ⟨k7_c, k7_f, k7_l, k7_m, k7_n⟩ := k7.knows
  obtain ⟨k8_c, k8_f, k8_l, k8_m, k8_n⟩ := k8.knows
  obtain ⟨k10_c, k10_f, k10_l, k10_m, k10_n⟩ := k10.knows
  go_wp2_with fail
  (with_reducible refine (fadd_yes (hF0.alloc _) (frdN base b) (frdN base c) (frdN_lt base b) (frdN_lt base c)).mono ?_)
  rintro e w11 ⟨rfl, h11⟩
  clear k3_c k3_f k3_m k3_n k4_c k4_f k4_m k4_n k5_c k5_f k5_m k5_n k6_c k6_f k6_m k6_n k7_c k7_f k7_m k7_n k8_c k8_f k8_m k8_n k10_c k10_f k10_m k10_n
  have o11 : w9.heap.size < w10.heap.size := by first | exact k10_l | omega
  replace hF0 := ((hF0.alloc _).after h11)
  replace k3 := ((k3.alloc _).after h11)
  replace k6 := ((k6.alloc _).after h11)
  replace k7 := ((k7.alloc _).after h11)
  replace k8 := ((k8.alloc _).after h11)
  replace k10 := ((k10.alloc _).after h11)
  have k11 := ((Blk.newAt (n := w10.heap.size) _ _ _ (by first | rfl | simp)).after h11)
  have bwsz := Below.size bw
  replace bw := below_call h11 (w := w) (by first | exact (Below.alloc bw (Below.size bw) _) | go_grown)
  clear h11 bwsz k3_l k4_l k5_l k6_l k7_l k8_l k10_l
  clear k4 k5
  obtain ⟨k3_c, k3_f, k3_l, k3_m, k3_n⟩ := k3.knows
  obtain ⟨k6_c, k6_f, k6_l, k6_m, k6_n⟩ := k6.knows
  obtain ⟨k7_c, k7_f, k7_l, k7_m, k7_n⟩ := k7.knows
  obtain ⟨k8_c, k8_f, k8_l, k8_m, k8_n⟩ := k8.knows
  obtain ⟨k10_c, k10_f, k10_l, k10_m, k10_n⟩ := k10.knows
  obtain ⟨k11_c, k11_f, k11_l, k11_m, k11_n⟩ := k11.knows
  go_wp2_with fail
  (with_reducible refine (fmul_yes (hF0.alloc _) (frdN base a) (fadN base (frdN base b) (frdN base c)) (frdN_lt base a) (fadN_lt base (frdN base b) (frdN base c))).mono ?_)
  rintro e w12 ⟨rfl, h12⟩
  clear k3_c k3_f k3_m k3_n k6_c k6_f k6_m k6_n k7_c k7_f k7_m k7_n k8_c k8_f k8_m k8_n k10_c k10_f k10_m k10_n k11_c k11_f k11_m k11_n
  have o12 : w10.heap.size < w11.heap.size := by first | exact k11_l | omega
  replace hF0 := ((hF0.alloc _).after h12)
  replace k3 := ((k3.alloc _).after h12)
  replace k6 := ((k6.alloc _).after h12)
  replace k7 := ((k7.alloc _).after h12)
  replace k8 := ((k8.alloc _).after h12)
  replace k10 := ((k10.alloc _).after h12)
  replace k11 := ((k11.alloc _).after h12)
  have bwsz := Below.size bw
  replace bw := below_call h12 (w := w) (by first | exact (Below.alloc bw (Below.size bw) _) | go_grown)
  clear h12 bwsz k3_l k6_l k7_l k8_l k10_l k11_l
  obtain ⟨k3_c, k3_f, k3_l, k3_m, k3_n⟩ := k3.knows
  obtain ⟨k6_c, k6_f, k6_l, k6_m, k6_n⟩ := k6.knows
  obtain ⟨k7_c, k7_f, k7_l, k7_m, k7_n⟩ := k7.knows
  obtain ⟨k8_c, k8_f, k8_l, k8_m, k8_n⟩ := k8.knows
  obtain ⟨k10_c, k10_f, k10_l, k10_m, k10_n⟩ := k10.knows
  obtain ⟨k11_c, k11_f, k11_l, k11_m, k11_n⟩ := k11.knows
  go_wp2_with fail
  (with_reducible refine (fadd_yes (hF0.alloc _) (fmlN base (frdN base a) (frdN base b)) (fmlN base (frdN base a) (frdN base c)) (fmlN_lt base (frdN base a) (frdN base b)) (fmlN_lt base (frdN base a) (frdN base c))).mono ?_)
  rintro e w13 ⟨rfl, h13⟩
  clear k3_c k3_f k3_m k3_n k6_c k6_f k6_m k6_n k7_c k7_f k7_m k7_n k8_c k8_f k8_m k8_n k10_c k10_f k10_m k10_n k11_c k11_f k11_m k11_n
  have o13 : w10.heap.size < w12.heap.size := by first | exact k11_l | omega
  replace hF0 := ((hF0.alloc _).after h13)
  replace k3 := ((k3.alloc _).after h13)
  replace k6 := ((k6.alloc _).after h13)
  replace k7 := ((k7.alloc _).after h13)
  replace k8 := ((k8.alloc _).after h13)
  replace k10 := ((k10.alloc _).after h13)
  have k13 := ((Blk.newAt (n := w12.heap.size) _ _ _ (by first | rfl | simp)).after h13)
  have bwsz := Below.size bw
  replace bw := below_call h13 (w := w) (by first | exact (Below.alloc bw (Below.size bw) _) | go_grown)
  clear h13 bwsz k3_l k6_l k7_l k8_l k10_l k11_l
  clear k11
  obtain ⟨k3_c, k3_f, k3_l, k3_m, k3_n⟩ := k3.knows
  obtain ⟨k6_c, k6_f, k6_l, k6_m, k6_n⟩ := k6.knows
  obtain ⟨k7_c, k7_f, k7_l, k7_m, k7_n⟩ := k7.knows
  obtain ⟨k8_c, k8_f, k8_l, k8_m, k8_n⟩ := k8.knows
  obtain ⟨k10_c, k10_f, k10_l, k10_m, k10_n⟩ := k10.knows
  obtain ⟨k13_c, k13_f, k13_l, k13_m, k13_n⟩ := k13.knows
  go_wp2_with fail
  (with_reducible refine (fneg_yes (hF0.alloc _) (frdN base a) (frdN_lt base a)).mono ?_)
  rintro e w14 ⟨rfl, h14⟩
  clear k3_c k3_f k3_m k3_n k6_c k6_f k6_m k6_n k7_c k7_f k7_m k7_n k8_c k8_f k8_m k8_n k10_c k10_f k10_m k10_n k13_c k13_f k13_m k13_n
  have o14 : w12.heap.size < w13.heap.size := by first | exact k13_l | omega
  replace hF0 := ((hF0.alloc _).after h14)
  replace k3 := ((k3.alloc _).after h14)
  replace k6 := ((k6.alloc _).after h14)
  replace k7 := ((k7.alloc _).after h14)
  replace k8 := ((k8.alloc _).after h14)
  replace k10 := ((k10.alloc _).after h14)
  replace k13 := ((k13.alloc _).after h14)
  have k14 := ((Blk.newAt (n := w13.heap.size) _ _ _ (by first | rfl | simp)).after h14)
  have bwsz := Below.size bw
  replace bw := below_call h14 (w := w) (by first | exact (Below.alloc bw (Below.size bw) _) | go_grown)
  clear h14 bwsz k3_l k6_l k7_l k8_l k10_l k13_l
  obtain ⟨k3_c, k3_f, k3_l, k3_m, k3_n⟩ := k3.knows
  obtain ⟨k6_c, k6_f, k6_l, k6_m, k6_n⟩ := k6.knows
  obtain ⟨k7_c, k7_f, k7_l, k7_m, k7_n⟩ := k7.knows
  obtain ⟨k8_c, k8_f, k8_l, k8_m, k8_n⟩ := k8.knows
  obtain ⟨k10_c, k10_f, k10_l, k10_m, k10_n⟩ := k10.knows
  obtain ⟨k13_c, k13_f, k13_l, k13_m, k13_n⟩ := k13.knows
  obtain ⟨k14_c, k14_f, k14_l, k14_m, k14_n⟩ := k14.knows
  go_wp2_with fail
  (with_reducible refine (fadd_yes (hF0.alloc _) (frdN base a) (fsbN base 0 (frdN base a)) (frdN_lt base a) (fsbN_lt base 0 (frdN base a))).mono ?_)
  rintro e w15 ⟨rfl, h15⟩
  clear k3_c k3_f k3_m k3_n k6_c k6_f k6_m k6_n k7_c k7_f k7_m k7_n k8_c k8_f k8_m k8_n k10_c k10_f k10_m k10_n k13_c k13_f k13_m k13_n k14_c k14_f k14_m k14_n
  have o15 : w13.heap.size < w14.heap.size := by first | exact k14_l | omega
  replace hF0 := ((hF0.alloc _).after h15)
  replace k3 := ((k3.alloc _).after h15)
  replace k6 := ((k6.alloc _).after h15)
  replace k7 := ((k7.alloc _).after h15)
  replace k8 := ((k8.alloc _).after h15)
  replace k10 := ((k10.alloc _).after h15)
  replace k13 := ((k13.alloc _).after h15)
  replace k14 := ((k14.alloc _).after h15)
  have bwsz := Below.size bw
  replace bw := below_call h15 (w := w) (by first | exact (Below.alloc bw (Below.size bw) _) | go_grown)
  clear h15 bwsz k3_l k6_l k7_l k8_l k10_l k13_l k14_l
  obtain ⟨k3_c, k3_f, k3_l, k3_m, k3_n⟩ := k3.knows
  obtain ⟨k6_c, k6_f, k6_l, k6_m, k6_n⟩ := k6.knows
  obtain ⟨k7_c, k7_f, k7_l, k7_m, k7_n⟩ := k7.knows
  obtain ⟨k8_c, k8_f, k8_l, k8_m, k8_n⟩ := k8.knows
  obtain ⟨k10_c, k10_f, k10_l, k10_m, k10_n⟩ := k10.knows
  obtain ⟨k13_c, k13_f, k13_l, k13_m, k13_n⟩ := k13.knows
  obtain ⟨k14_c, k14_f, k14_l, k14_m, k14_n⟩ := k14.knows
  go_wp2_with fail
  (with_reducible refine (cl0 _ _ _ (hF0.alloc _)).mono ?_)
  rintro e w16 ⟨rfl, h16⟩
  clear k3_c k3_f k3_m k3_n k6_c k6_f k6_m k6_n k7_c k7_f k7_m k7_n k8_c k8_f k8_m k8_n k10_c k10_f k10_m k10_n k13_c k13_f k13_m k13_n k14_c k14_f k14_m k14_n
  have o16 : w13.heap.size < w15.heap.size := by first | exact k14_l | omega
  replace hF0 := ((hF0.alloc _).after h16)
  replace k3 := ((k3.alloc _).after h16)
  replace k6 := ((k6.alloc _).after h16)
  replace k7 := ((k7.alloc _).after h16)
  replace k8 := ((k8.alloc _).after h16)
  replace k10 := ((k10.alloc _).after h16)
  replace k13 := ((k13.alloc _).after h16)
  replace k14 := ((k14.alloc _).after h16)
  have k16 := ((Blk.newAt (n := w15.heap.size) _ _ _ (by first | rfl | simp)).after h16)
  have bwsz := Below.size bw
  replace bw := below_call h16 (w := w) (by first | exact (Below.alloc bw (Below.size bw) _) | go_grown)
  clear h16 bwsz k3_l k6_l k7_l k8_l k10_l k13_l k14_l
  obtain ⟨k3_c, k3_f, k3_l, k3_m, k3_n⟩ := k3.knows
  obtain ⟨k6_c, k6_f, k6_l, k6_m, k6_n⟩ := k6.knows
  obtain ⟨k7_c, k7_f, k7_l, k7_m, k7_n⟩ := k7.knows
  obtain ⟨k8_c, k8_f, k8_l, k8_m, k8_n⟩ := k8.knows
  obtain ⟨k10_c, k10_f, k10_l, k10_m, k10_n⟩ := k10.knows
  obtain ⟨k13_c, k13_f, k13_l, k13_m, k13_n⟩ := k13.knows
  obtain ⟨k14_c, k14_f, k14_l, k14_m, k14_n⟩ := k14.knows
  obtain ⟨k16_c, k16_f, k16_l, k16_m, k16_n⟩ := k16.knows
  go_wp2_with fail
  (with_reducible refine (finv_zero_eq (hF0.alloc _) (frdN base a) h0_.out).mono ?_)
  rintro e w17 ⟨rfl, h17⟩
  clear k3_c k3_f k3_m k3_n k6_c k6_f k6_m k6_n k7_c k7_f k7_m k7_n k8_c k8_f k8_m k8_n k10_c k10_f k10_m k10_n k13_c k13_f k13_m k13_n k14_c k14_f k14_m k14_n k16_c k16_f k16_m k16_n
  have o17 : w15.heap.size < w16.heap.size := by first | exact k16_l | omega
  replace hF0 := ((hF0.alloc _).after h17)
  replace k3 := ((k3.alloc _).after h17)
  replace k6 := ((k6.alloc _).after h17)
  replace k7 := ((k7.alloc _).after h17)
  replace k8 := ((k8.alloc _).after h17)
  replace k10 := ((k10.alloc _).after h17)
  replace k13 := ((k13.alloc _).after h17)
  replace k14 := ((k14.alloc _).after h17)
  replace k16 := ((k16.alloc _).after h17)
  have k17 := ((Blk.newAt (n := w16.heap.size) _ _ _ (by first | rfl | simp)).after h17)
  have bwsz := Below.size bw
  replace bw := below_call h17 (w := w) (by first | exact (Below.alloc bw (Below.size bw) _) | go_grown)
  clear h17 bwsz k3_l k6_l k7_l k8_l k10_l k13_l k14_l k16_l
  obtain ⟨k3_c, k3_f, k3_l, k3_m, k3_n⟩ := k3.knows
  obtain ⟨k6_c, k6_f, k6_l, k6_m, k6_n⟩ := k6.knows
  obtain ⟨k7_c, k7_f, k7_l, k7_m, k7_n⟩ := k7.knows
  obtain ⟨k8_c, k8_f, k8_l, k8_m, k8_n⟩ := k8.knows
  obtain ⟨k10_c, k10_f, k10_l, k10_m, k10_n⟩ := k10.knows
  obtain ⟨k13_c, k13_f, k13_l, k13_m, k13_n⟩ := k13.knows
  obtain ⟨k14_c, k14_f, k14_l, k14_m, k14_n⟩ := k14.knows
  obtain ⟨k16_c, k16_f, k16_l, k16_m, k16_n⟩ := k16.knows
  obtain ⟨k17_c, k17_f, k17_l, k17_m, k17_n⟩ := k17.knows
  go_wp2_with fail
  (with_reducible refine (fmul_yes (hF0.alloc _) (frdN base a) 0 (frdN_lt base a) (pN_pos base)).mono ?_)
  rintro e w18 ⟨rfl, h18⟩
  clear k3_c k3_f k3_m k3_n k6_c k6_f k6_m k6_n k7_c k7_f k7_m k7_n k8_c k8_f k8_m k8_n k10_c k10_f k10_m k10_n k13_c k13_f k13_m k13_n k14_c k14_f k14_m k14_n k16_c k16_f k16_m k16_n k17_c k17_f k17_m k17_n
  have o18 : w16.heap.size < w17.heap.size := by first | exact k17_l | omega
  replace hF0 := ((hF0.alloc _).after h18)
  replace k3 := ((k3.alloc _).after h18)
  replace k6 := ((k6.alloc _).after h18)
  replace k7 := ((k7.alloc _).after h18)
  replace k8 := ((k8.alloc _).after h18)
  replace k10 := ((k10.alloc _).after h18)
  replace k13 := ((k13.alloc _).after h18)
  replace k14 := ((k14.alloc _).after h18)
  replace k16 := ((k16.alloc _).after h18)
  replace k17 := ((k17.alloc _).after h18)
  have bwsz := Below.size bw
  replace bw := below_call h18 (w := w) (by first | exact (Below.alloc bw (Below.size bw) _) | go_grown)
  clear h18 bwsz k3_l k6_l k7_l k8_l k10_l k13_l k14_l k16_l k17_l
  obtain ⟨k3_c, k3_f, k3_l, k3_m, k3_n⟩ := k3.knows
  obtain ⟨k6_c, k6_f, k6_l, k6_m, k6_n⟩ := k6.knows
  obtain ⟨k7_c, k7_f, k7_l, k7_m, k7_n⟩ := k7.knows
  obtain ⟨k8_c, k8_f, k8_l, k8_m, k8_n⟩ := k8.knows
  obtain ⟨k10_c, k10_f, k10_l, k10_m, k10_n⟩ := k10.knows
  obtain ⟨k13_c, k13_f, k13_l, k13_m, k13_n⟩ := k13.knows
  obtain ⟨k14_c, k14_f, k14_l, k14_m, k14_n⟩ := k14.knows
  obtain ⟨k16_c, k16_f, k16_l, k16_m, k16_n⟩ := k16.knows
  obtain ⟨k17_c, k17_f, k17_l, k17_m, k17_n⟩ := k17.knows
  go_wp2_with fail
  (with_reducible refine (half_any _).mono ?_)
  rintro e w19 ⟨rfl, h19⟩
  clear k3_c k3_f k3_m k3_n k6_c k6_f k6_m k6_n k7_c k7_f k7_m k7_n k8_c k8_f k8_m k8_n k10_c k10_f k10_m k10_n k13_c k13_f k13_m k13_n k14_c k14_f k14_m k14_n k16_c k16_f k16_m k16_n k17_c k17_f k17_m k17_n
  have o19 : w16.heap.size < w18.heap.size := by first | exact k17_l | omega
  replace hF0 := ((hF0.alloc _).after h19)
  have bwsz := Below.size bw
  replace bw := below_call h19 (w := w) (by first | exact (Below.alloc bw (Below.size bw) _) | go_grown)
  clear h19 bwsz k3_l k6_l k7_l k8_l k10_l k13_l k14_l k16_l k17_l
  clear k3 k6 k7 k8 k10 k13 k14 k16 k17
  go_wp2
  go_ret
  exact ⟨rfl, (by first | exact bw | go_grown)⟩
set_option maxRecDepth 20000 in
set_option maxHeartbeats 2000000 in
theorem rules_not (base : Bool) (a b c : Nat) (ha : a < RR) (hb : b < RR) (hc : c < RR) (h0 : frdN base a ≠ 0) (w : World) : Calls Try.prog 7 #[.bool base, .agg #[.int .u64 (lb a 0), .int .u64 (lb a 1), .int .u64 (lb a 2), .int .u64 (lb a 3), .int .u64 (lb b 0), .int .u64 (lb b 1), .int .u64 (lb b 2), .int .u64 (lb b 3), .int .u64 (lb c 0), .int .u64 (lb c 1), .int .u64 (lb c 2), .int .u64 (lb c 3)]] w fun e w' => e = .returned (.bool true) ∧ Below w.heap.size w w' := by
  have cl0 : ∀ (W : World) (f g : Nat), FieldB W f g base → Calls Try.prog 22 #[.pointer (some ⟨f, 0, none⟩), num (frdN base a), oneV] W fun e w' => e = .returned (.tuple #[num (fmlN base (frdN base a) 1), .int .i64 0]) ∧ Below W.heap.size W w' := by intro W f g hF; rw [← num_one]; exact fmul_yes hF (frdN base a) 1 (frdN_lt base a) (pN_one base)
  have q1 : ∀ w, (Op.equalIn 10000 24 (num (fmlN base (frdN base a) (frdN base b))) (num (fmlN base (frdN base b) (frdN base a)))).run Try.prog w = .ok true w := by intro w; exact eqin_eq (fml_comm _ _ _) _
  have q2 : ∀ w, (Op.equalIn 10000 24 (num (fmlN base (fmlN base (frdN base a) (frdN base b)) (frdN base c))) (num (fmlN base (frdN base a) (fmlN base (frdN base b) (frdN base c))))).run Try.prog w = .ok true w := by intro w; exact eqin_eq (fml_assoc _ _ _ _) _
  have q3 : ∀ w, (Op.equalIn 10000 24 (num (fmlN base (frdN base a) (fadN base (frdN base b) (frdN base c)))) (num (fadN base (fmlN base (frdN base a) (frdN base b)) (fmlN base (frdN base a) (frdN base c))))).run Try.prog w = .ok true w := by intro w; exact eqin_eq (fml_add _ _ _ _) _
  have q4 : ∀ w, (Op.equalIn 10000 24 (num (fadN base (frdN base a) (fsbN base 0 (frdN base a)))) (zeroV)).run Try.prog w = .ok true w := by intro w; rw [← num_zero]; exact eqin_eq (fad_neg _ _ (frdN_lt _ _)) _
  have q5 : ∀ w, (Op.equalIn 10000 24 (num (fmlN base (frdN base a) 1)) (num (frdN base a))).run Try.prog w = .ok true w := by intro w; exact eqin_eq (fml_one _ _ (frdN_lt _ _)) _
  have q6 : ∀ w, (Op.equalIn 10000 24 (num (frdN base a)) (zeroV)).run Try.prog w = .ok false w := by intro w; rw [← num_zero]; exact eqin_other (lt_RR (frdN_lt base a)) RR_zero h0 _
  have q7 : ∀ w, (Op.equalIn 10000 24 (num (fmlN base (frdN base a) (fpwN base (frdN base a) (ieN base)))) (oneV)).run Try.prog w = .ok true w := by intro w; rw [← num_one]; exact eqin_eq (fml_inv _ _ (frdN_lt _ _) h0) _
  go_enter Try.func7, Try.ntmps7
  go_wp2_with fail
  (with_reducible refine (of_any base _).mono ?_)
  rintro e w1 ⟨f0, g0, rfl, hF0, h1⟩
  have k1 := ((Blk.newAt (n := w.heap.size) _ _ _ (by first | rfl | simp)).after h1)
  have bw := below_call h1 (w := w) (by first | exact (Below.alloc (Below.refl _ _) (Below.size (Below.refl _ _)) _) | go_grown)
  clear h1
  obtain ⟨k1_c, k1_f, k1_l, k1_m, k1_n⟩ := k1.knows
  go_wp2_with fail
  (with_reducible refine (in_any (base := base) a ha _).mono ?_)
  rintro e w2 ⟨rfl, h2⟩
  clear k1_c k1_f k1_m k1_n
  have o2 : w.heap.size < w1.heap.size := by first | exact k1_l | omega
  replace k1 := ((k1.alloc _).after h2)
  replace hF0 := ((hF0.alloc _).after h2)
  have k2 := ((Blk.newAt (n := w1.heap.size) _ _ _ (by first | rfl | simp)).after h2)
  have bwsz := Below.size bw
  replace bw := below_call h2 (w := w) (by first | exact (Below.alloc bw (Below.size bw) _) | go_grown)
  clear h2 bwsz k1_l
  obtain ⟨k1_c, k1_f, k1_l, k1_m, k1_n⟩ := k1.knows
  obtain ⟨k2_c, k2_f, k2_l, k2_m, k2_n⟩ := k2.knows
  go_wp2_with fail
  (with_reducible refine (in_any (base := base) b hb _).mono ?_)
  rintro e w3 ⟨rfl, h3⟩
  clear k1_c k1_f k1_m k1_n k2_c k2_f k2_m k2_n
  have o3 : w1.heap.size < w2.heap.size := by first | exact k2_l | omega
  replace k1 := ((k1.alloc _).after h3)
  replace hF0 := ((hF0.alloc _).after h3)
  replace k2 := ((k2.alloc _).after h3)
  have k3 := ((Blk.newAt (n := w2.heap.size) _ _ _ (by first | rfl | simp)).after h3)
  have bwsz := Below.size bw
  replace bw := below_call h3 (w := w) (by first | exact (Below.alloc bw (Below.size bw) _) | go_grown)
  clear h3 bwsz k1_l k2_l
  obtain ⟨k1_c, k1_f, k1_l, k1_m, k1_n⟩ := k1.knows
  obtain ⟨k2_c, k2_f, k2_l, k2_m, k2_n⟩ := k2.knows
  obtain ⟨k3_c, k3_f, k3_l, k3_m, k3_n⟩ := k3.knows
  go_wp2_with fail
  (with_reducible refine (in_any (base := base) c hc _).mono ?_)
  rintro e w4 ⟨rfl, h4⟩
  clear k1_c k1_f k1_m k1_n k2_c k2_f k2_m k2_n k3_c k3_f k3_m k3_n
  have o4 : w2.heap.size < w3.heap.size := by first | exact k3_l | omega
  replace hF0 := ((hF0.alloc _).after h4)
  replace k3 := ((k3.alloc _).after h4)
  have k4 := ((Blk.newAt (n := w3.heap.size) _ _ _ (by first | rfl | simp)).after h4)
  have bwsz := Below.size bw
  replace bw := below_call h4 (w := w) (by first | exact (Below.alloc bw (Below.size bw) _) | go_grown)
  clear h4 bwsz k1_l k2_l k3_l
  clear k1 k2
  obtain ⟨k3_c, k3_f, k3_l, k3_m, k3_n⟩ := k3.knows
  obtain ⟨k4_c, k4_f, k4_l, k4_m, k4_n⟩ := k4.knows
  go_wp2_with fail
  (with_reducible refine (fmul_yes (hF0.alloc _) (frdN base a) (frdN base b) (frdN_lt base a) (frdN_lt base b)).mono ?_)
  rintro e w5 ⟨rfl, h5⟩
  clear k3_c k3_f k3_m k3_n k4_c k4_f k4_m k4_n
  have o5 : w3.heap.size < w4.heap.size := by first | exact k4_l | omega
  replace hF0 := ((hF0.alloc _).after h5)
  replace k3 := ((k3.alloc _).after h5)
  replace k4 := ((k4.alloc _).after h5)
  have k5 := ((Blk.newAt (n := w4.heap.size) _ _ _ (by first | rfl | simp)).after h5)
  have bwsz := Below.size bw
  replace bw := below_call h5 (w := w) (by first | exact (Below.alloc bw (Below.size bw) _) | go_grown)
  clear h5 bwsz k3_l k4_l
  obtain ⟨k3_c, k3_f, k3_l, k3_m, k3_n⟩ := k3.knows
  obtain ⟨k4_c, k4_f, k4_l, k4_m, k4_n⟩ := k4.knows
  obtain ⟨k5_c, k5_f, k5_l, k5_m, k5_n⟩ := k5.knows
  go_wp2_with fail
  (with_reducible refine (fmul_yes (hF0.alloc _) (frdN base b) (frdN base a) (frdN_lt base b) (frdN_lt base a)).mono ?_)
  rintro e w6 ⟨rfl, h6⟩
  clear k3_c k3_f k3_m k3_n k4_c k4_f k4_m k4_n k5_c k5_f k5_m k5_n
  have o6 : w4.heap.size < w5.heap.size := by first | exact k5_l | omega
  replace hF0 := ((hF0.alloc _).after h6)
  replace k3 := ((k3.alloc _).after h6)
  replace k4 := ((k4.alloc _).after h6)
  replace k5 := ((k5.alloc _).after h6)
  have k6 := ((Blk.newAt (n := w5.heap.size) _ _ _ (by first | rfl | simp)).after h6)
  have bwsz := Below.size bw
  replace bw := below_call h6 (w := w) (by first | exact (Below.alloc bw (Below.size bw) _) | go_grown)
  clear h6 bwsz k3_l k4_l k5_l
  obtain ⟨k3_c, k3_f, k3_l, k3_m, k3_n⟩ := k3.knows
  obtain ⟨k4_c, k4_f, k4_l, k4_m, k4_n⟩ := k4.knows
  obtain ⟨k5_c, k5_f, k5_l, k5_m, k5_n⟩ := k5.knows
  obtain ⟨k6_c, k6_f, k6_l, k6_m, k6_n⟩ := k6.knows
  go_wp2_with fail
  (with_reducible refine (fmul_yes (hF0.alloc _) (fmlN base (frdN base a) (frdN base b)) (frdN base c) (fmlN_lt base (frdN base a) (frdN base b)) (frdN_lt base c)).mono ?_)
  rintro e w7 ⟨rfl, h7⟩
  clear k3_c k3_f k3_m k3_n k4_c k4_f k4_m k4_n k5_c k5_f k5_m k5_n k6_c k6_f k6_m k6_n
  have o7 : w5.heap.size < w6.heap.size := by first | exact k6_l | omega
  replace hF0 := ((hF0.alloc _).after h7)
  replace k3 := ((k3.alloc _).after h7)
  replace k4 := ((k4.alloc _).after h7)
  replace k5 := ((k5.alloc _).after h7)
  replace k6 := ((k6.alloc _).after h7)
  have k7 := ((Blk.newAt (n := w6.heap.size) _ _ _ (by first | rfl | simp)).after h7)
  have bwsz := Below.size bw
  replace bw := below_call h7 (w := w) (by first | exact (Below.alloc bw (Below.size bw) _) | go_grown)
  clear h7 bwsz k3_l k4_l k5_l k6_l
  obtain ⟨k3_c, k3_f, k3_l, k3_m, k3_n⟩ := k3.knows
  obtain ⟨k4_c, k4_f, k4_l, k4_m, k4_n⟩ := k4.knows
  obtain ⟨k5_c, k5_f, k5_l, k5_m, k5_n⟩ := k5.knows
  obtain ⟨k6_c, k6_f, k6_l, k6_m, k6_n⟩ := k6.knows
  obtain ⟨k7_c, k7_f, k7_l, k7_m, k7_n⟩ := k7.knows
  go_wp2_with fail
  (with_reducible refine (fmul_yes (hF0.alloc _) (frdN base b) (frdN base c) (frdN_lt base b) (frdN_lt base c)).mono ?_)
  rintro e w8 ⟨rfl, h8⟩
  clear k3_c k3_f k3_m k3_n k4_c k4_f k4_m k4_n k5_c k5_f k5_m k5_n k6_c k6_f k6_m k6_n k7_c k7_f k7_m k7_n
  have o8 : w6.heap.size < w7.heap.size := by first | exact k7_l | omega
  replace hF0 := ((hF0.alloc _).after h8)
  replace k3 := ((k3.alloc _).after h8)
  replace k4 := ((k4.alloc _).after h8)
  replace k5 := ((k5.alloc _).after h8)
  replace k6 := ((k6.alloc _).after h8)
  replace k7 := ((k7.alloc _).after h8)
  have k8 := ((Blk.newAt (n := w7.heap.size) _ _ _ (by first | rfl | simp)).after h8)
  have bwsz := Below.size bw
  replace bw := below_call h8 (w := w) (by first | exact (Below.alloc bw (Below.size bw) _) | go_grown)
  clear h8 bwsz k3_l k4_l k5_l k6_l k7_l
  obtain ⟨k3_c, k3_f, k3_l, k3_m, k3_n⟩ := k3.knows
  obtain ⟨k4_c, k4_f, k4_l, k4_m, k4_n⟩ := k4.knows
  obtain ⟨k5_c, k5_f, k5_l, k5_m, k5_n⟩ := k5.knows
  obtain ⟨k6_c, k6_f, k6_l, k6_m, k6_n⟩ := k6.knows
  obtain ⟨k7_c, k7_f, k7_l, k7_m, k7_n⟩ := k7.knows
  obtain ⟨k8_c, k8_f, k8_l, k8_m, k8_n⟩ := k8.knows
  go_wp2_with fail
  (with_reducible refine (fmul_yes (hF0.alloc _) (frdN base a) (fmlN base (frdN base b) (frdN base c)) (frdN_lt base a) (fmlN_lt base (frdN base b) (frdN base c))).mono ?_)
  rintro e w9 ⟨rfl, h9⟩
  clear k3_c k3_f k3_m k3_n k4_c k4_f k4_m k4_n k5_c k5_f k5_m k5_n k6_c k6_f k6_m k6_n k7_c k7_f k7_m k7_n k8_c k8_f k8_m k8_n
  have o9 : w7.heap.size < w8.heap.size := by first | exact k8_l | omega
  replace hF0 := ((hF0.alloc _).after h9)
  replace k3 := ((k3.alloc _).after h9)
  replace k4 := ((k4.alloc _).after h9)
  replace k5 := ((k5.alloc _).after h9)
  replace k6 := ((k6.alloc _).after h9)
  replace k7 := ((k7.alloc _).after h9)
  replace k8 := ((k8.alloc _).after h9)
  have bwsz := Below.size bw
  replace bw := below_call h9 (w := w) (by first | exact (Below.alloc bw (Below.size bw) _) | go_grown)
  clear h9 bwsz k3_l k4_l k5_l k6_l k7_l k8_l
  obtain ⟨k3_c, k3_f, k3_l, k3_m, k3_n⟩ := k3.knows
  obtain ⟨k4_c, k4_f, k4_l, k4_m, k4_n⟩ := k4.knows
  obtain ⟨k5_c, k5_f, k5_l, k5_m, k5_n⟩ := k5.knows
  obtain ⟨k6_c, k6_f, k6_l, k6_m, k6_n⟩ := k6.knows
  obtain ⟨k7_c, k7_f, k7_l, k7_m, k7_n⟩ := k7.knows
  obtain ⟨k8_c, k8_f, k8_l, k8_m, k8_n⟩ := k8.knows
  go_wp2_with fail
  (with_reducible refine (fmul_yes (hF0.alloc _) (frdN base a) (frdN base c) (frdN_lt base a) (frdN_lt base c)).mono ?_)
  rintro e w10 ⟨rfl, h10⟩
  clear k3_c k3_f k3_m k3_n k4_c k4_f k4_m k4_n k5_c k5_f k5_m k5_n k6_c k6_f k6_m k6_n k7_c k7_f k7_m k7_n k8_c k8_f k8_m k8_n
  have o10 : w7.heap.size < w9.heap.size := by first | exact k8_l | omega
  replace hF0 := ((hF0.alloc _).after h10)
  replace k3 := ((k3.alloc _).after h10)
  replace k4 := ((k4.alloc _).after h10)
  replace k5 := ((k5.alloc _).after h10)
  replace k6 := ((k6.alloc _).after h10)
  replace k7 := ((k7.alloc _).after h10)
  replace k8 := ((k8.alloc _).after h10)
  have k10 := ((Blk.newAt (n := w9.heap.size) _ _ _ (by first | rfl | simp)).after h10)
  have bwsz := Below.size bw
  replace bw := below_call h10 (w := w) (by first | exact (Below.alloc bw (Below.size bw) _) | go_grown)
  clear h10 bwsz k3_l k4_l k5_l k6_l k7_l k8_l
  obtain ⟨k3_c, k3_f, k3_l, k3_m, k3_n⟩ := k3.knows
  obtain ⟨k4_c, k4_f, k4_l, k4_m, k4_n⟩ := k4.knows
  obtain ⟨k5_c, k5_f, k5_l, k5_m, k5_n⟩ := k5.knows
  obtain ⟨k6_c, k6_f, k6_l, k6_m, k6_n⟩ := k6.knows
  obtain ⟨k7_c, k7_f, k7_l, k7_m, k7_n⟩ := k7.knows
  obtain ⟨k8_c, k8_f, k8_l, k8_m, k8_n⟩ := k8.knows
  obtain ⟨k10_c, k10_f, k10_l, k10_m, k10_n⟩ := k10.knows
  go_wp2_with fail
  (with_reducible refine (fadd_yes (hF0.alloc _) (frdN base b) (frdN base c) (frdN_lt base b) (frdN_lt base c)).mono ?_)
  rintro e w11 ⟨rfl, h11⟩
  clear k3_c k3_f k3_m k3_n k4_c k4_f k4_m k4_n k5_c k5_f k5_m k5_n k6_c k6_f k6_m k6_n k7_c k7_f k7_m k7_n k8_c k8_f k8_m k8_n k10_c k10_f k10_m k10_n
  have o11 : w9.heap.size < w10.heap.size := by first | exact k10_l | omega
  replace hF0 := ((hF0.alloc _).after h11)
  replace k3 := ((k3.alloc _).after h11)
  replace k6 := ((k6.alloc _).after h11)
  replace k7 := ((k7.alloc _).after h11)
  replace k8 := ((k8.alloc _).after h11)
  replace k10 := ((k10.alloc _).after h11)
  have k11 := ((Blk.newAt (n := w10.heap.size) _ _ _ (by first | rfl | simp)).after h11)
  have bwsz := Below.size bw
  replace bw := below_call h11 (w := w) (by first | exact (Below.alloc bw (Below.size bw) _) | go_grown)
  clear h11 bwsz k3_l k4_l k5_l k6_l k7_l k8_l k10_l
  clear k4 k5
  obtain ⟨k3_c, k3_f, k3_l, k3_m, k3_n⟩ := k3.knows
  obtain ⟨k6_c, k6_f, k6_l, k6_m, k6_n⟩ := k6.knows
  obtain ⟨k7_c, k7_f, k7_l, k7_m, k7_n⟩ := k7.knows
  obtain ⟨k8_c, k8_f, k8_l, k8_m, k8_n⟩ := k8.knows
  obtain ⟨k10_c, k10_f, k10_l, k10_m, k10_n⟩ := k10.knows
  obtain ⟨k11_c, k11_f, k11_l, k11_m, k11_n⟩ := k11.knows
  go_wp2_with fail
  (with_reducible refine (fmul_yes (hF0.alloc _) (frdN base a) (fadN base (frdN base b) (frdN base c)) (frdN_lt base a) (fadN_lt base (frdN base b) (frdN base c))).mono ?_)
  rintro e w12 ⟨rfl, h12⟩
  clear k3_c k3_f k3_m k3_n k6_c k6_f k6_m k6_n k7_c k7_f k7_m k7_n k8_c k8_f k8_m k8_n k10_c k10_f k10_m k10_n k11_c k11_f k11_m k11_n
  have o12 : w10.heap.size < w11.heap.size := by first | exact k11_l | omega
  replace hF0 := ((hF0.alloc _).after h12)
  replace k3 := ((k3.alloc _).after h12)
  replace k6 := ((k6.alloc _).after h12)
  replace k7 := ((k7.alloc _).after h12)
  replace k8 := ((k8.alloc _).after h12)
  replace k10 := ((k10.alloc _).after h12)
  replace k11 := ((k11.alloc _).after h12)
  have bwsz := Below.size bw
  replace bw := below_call h12 (w := w) (by first | exact (Below.alloc bw (Below.size bw) _) | go_grown)
  clear h12 bwsz k3_l k6_l k7_l k8_l k10_l k11_l
  obtain ⟨k3_c, k3_f, k3_l, k3_m, k3_n⟩ := k3.knows
  obtain ⟨k6_c, k6_f, k6_l, k6_m, k6_n⟩ := k6.knows
  obtain ⟨k7_c, k7_f, k7_l, k7_m, k7_n⟩ := k7.knows
  obtain ⟨k8_c, k8_f, k8_l, k8_m, k8_n⟩ := k8.knows
  obtain ⟨k10_c, k10_f, k10_l, k10_m, k10_n⟩ := k10.knows
  obtain ⟨k11_c, k11_f, k11_l, k11_m, k11_n⟩ := k11.knows
  go_wp2_with fail
  (with_reducible refine (fadd_yes (hF0.alloc _) (fmlN base (frdN base a) (frdN base b)) (fmlN base (frdN base a) (frdN base c)) (fmlN_lt base (frdN base a) (frdN base b)) (fmlN_lt base (frdN base a) (frdN base c))).mono ?_)
  rintro e w13 ⟨rfl, h13⟩
  clear k3_c k3_f k3_m k3_n k6_c k6_f k6_m k6_n k7_c k7_f k7_m k7_n k8_c k8_f k8_m k8_n k10_c k10_f k10_m k10_n k11_c k11_f k11_m k11_n
  have o13 : w10.heap.size < w12.heap.size := by first | exact k11_l | omega
  replace hF0 := ((hF0.alloc _).after h13)
  replace k3 := ((k3.alloc _).after h13)
  replace k6 := ((k6.alloc _).after h13)
  replace k7 := ((k7.alloc _).after h13)
  replace k8 := ((k8.alloc _).after h13)
  replace k10 := ((k10.alloc _).after h13)
  have k13 := ((Blk.newAt (n := w12.heap.size) _ _ _ (by first | rfl | simp)).after h13)
  have bwsz := Below.size bw
  replace bw := below_call h13 (w := w) (by first | exact (Below.alloc bw (Below.size bw) _) | go_grown)
  clear h13 bwsz k3_l k6_l k7_l k8_l k10_l k11_l
  clear k11
  obtain ⟨k3_c, k3_f, k3_l, k3_m, k3_n⟩ := k3.knows
  obtain ⟨k6_c, k6_f, k6_l, k6_m, k6_n⟩ := k6.knows
  obtain ⟨k7_c, k7_f, k7_l, k7_m, k7_n⟩ := k7.knows
  obtain ⟨k8_c, k8_f, k8_l, k8_m, k8_n⟩ := k8.knows
  obtain ⟨k10_c, k10_f, k10_l, k10_m, k10_n⟩ := k10.knows
  obtain ⟨k13_c, k13_f, k13_l, k13_m, k13_n⟩ := k13.knows
  go_wp2_with fail
  (with_reducible refine (fneg_yes (hF0.alloc _) (frdN base a) (frdN_lt base a)).mono ?_)
  rintro e w14 ⟨rfl, h14⟩
  clear k3_c k3_f k3_m k3_n k6_c k6_f k6_m k6_n k7_c k7_f k7_m k7_n k8_c k8_f k8_m k8_n k10_c k10_f k10_m k10_n k13_c k13_f k13_m k13_n
  have o14 : w12.heap.size < w13.heap.size := by first | exact k13_l | omega
  replace hF0 := ((hF0.alloc _).after h14)
  replace k3 := ((k3.alloc _).after h14)
  replace k6 := ((k6.alloc _).after h14)
  replace k7 := ((k7.alloc _).after h14)
  replace k8 := ((k8.alloc _).after h14)
  replace k10 := ((k10.alloc _).after h14)
  replace k13 := ((k13.alloc _).after h14)
  have k14 := ((Blk.newAt (n := w13.heap.size) _ _ _ (by first | rfl | simp)).after h14)
  have bwsz := Below.size bw
  replace bw := below_call h14 (w := w) (by first | exact (Below.alloc bw (Below.size bw) _) | go_grown)
  clear h14 bwsz k3_l k6_l k7_l k8_l k10_l k13_l
  obtain ⟨k3_c, k3_f, k3_l, k3_m, k3_n⟩ := k3.knows
  obtain ⟨k6_c, k6_f, k6_l, k6_m, k6_n⟩ := k6.knows
  obtain ⟨k7_c, k7_f, k7_l, k7_m, k7_n⟩ := k7.knows
  obtain ⟨k8_c, k8_f, k8_l, k8_m, k8_n⟩ := k8.knows
  obtain ⟨k10_c, k10_f, k10_l, k10_m, k10_n⟩ := k10.knows
  obtain ⟨k13_c, k13_f, k13_l, k13_m, k13_n⟩ := k13.knows
  obtain ⟨k14_c, k14_f, k14_l, k14_m, k14_n⟩ := k14.knows
  go_wp2_with fail
  (with_reducible refine (fadd_yes (hF0.alloc _) (frdN base a) (fsbN base 0 (frdN base a)) (frdN_lt base a) (fsbN_lt base 0 (frdN base a))).mono ?_)
  rintro e w15 ⟨rfl, h15⟩
  clear k3_c k3_f k3_m k3_n k6_c k6_f k6_m k6_n k7_c k7_f k7_m k7_n k8_c k8_f k8_m k8_n k10_c k10_f k10_m k10_n k13_c k13_f k13_m k13_n k14_c k14_f k14_m k14_n
  have o15 : w13.heap.size < w14.heap.size := by first | exact k14_l | omega
  replace hF0 := ((hF0.alloc _).after h15)
  replace k3 := ((k3.alloc _).after h15)
  replace k6 := ((k6.alloc _).after h15)
  replace k7 := ((k7.alloc _).after h15)
  replace k8 := ((k8.alloc _).after h15)
  replace k10 := ((k10.alloc _).after h15)
  replace k13 := ((k13.alloc _).after h15)
  replace k14 := ((k14.alloc _).after h15)
  have bwsz := Below.size bw
  replace bw := below_call h15 (w := w) (by first | exact (Below.alloc bw (Below.size bw) _) | go_grown)
  clear h15 bwsz k3_l k6_l k7_l k8_l k10_l k13_l k14_l
  obtain ⟨k3_c, k3_f, k3_l, k3_m, k3_n⟩ := k3.knows
  obtain ⟨k6_c, k6_f, k6_l, k6_m, k6_n⟩ := k6.knows
  obtain ⟨k7_c, k7_f, k7_l, k7_m, k7_n⟩ := k7.knows
  obtain ⟨k8_c, k8_f, k8_l, k8_m, k8_n⟩ := k8.knows
  obtain ⟨k10_c, k10_f, k10_l, k10_m, k10_n⟩ := k10.knows
  obtain ⟨k13_c, k13_f, k13_l, k13_m, k13_n⟩ := k13.knows
  obtain ⟨k14_c, k14_f, k14_l, k14_m, k14_n⟩ := k14.knows
  go_wp2_with fail
  (with_reducible refine (cl0 _ _ _ (hF0.alloc _)).mono ?_)
  rintro e w16 ⟨rfl, h16⟩
  clear k3_c k3_f k3_m k3_n k6_c k6_f k6_m k6_n k7_c k7_f k7_m k7_n k8_c k8_f k8_m k8_n k10_c k10_f k10_m k10_n k13_c k13_f k13_m k13_n k14_c k14_f k14_m k14_n
  have o16 : w13.heap.size < w15.heap.size := by first | exact k14_l | omega
  replace hF0 := ((hF0.alloc _).after h16)
  replace k3 := ((k3.alloc _).after h16)
  replace k6 := ((k6.alloc _).after h16)
  replace k7 := ((k7.alloc _).after h16)
  replace k8 := ((k8.alloc _).after h16)
  replace k10 := ((k10.alloc _).after h16)
  replace k13 := ((k13.alloc _).after h16)
  replace k14 := ((k14.alloc _).after h16)
  have k16 := ((Blk.newAt (n := w15.heap.size) _ _ _ (by first | rfl | simp)).after h16)
  have bwsz := Below.size bw
  replace bw := below_call h16 (w := w) (by first | exact (Below.alloc bw (Below.size bw) _) | go_grown)
  clear h16 bwsz k3_l k6_l k7_l k8_l k10_l k13_l k14_l
  obtain ⟨k3_c, k3_f, k3_l, k3_m, k3_n⟩ := k3.knows
  obtain ⟨k6_c, k6_f, k6_l, k6_m, k6_n⟩ := k6.knows
  obtain ⟨k7_c, k7_f, k7_l, k7_m, k7_n⟩ := k7.knows
  obtain ⟨k8_c, k8_f, k8_l, k8_m, k8_n⟩ := k8.knows
  obtain ⟨k10_c, k10_f, k10_l, k10_m, k10_n⟩ := k10.knows
  obtain ⟨k13_c, k13_f, k13_l, k13_m, k13_n⟩ := k13.knows
  obtain ⟨k14_c, k14_f, k14_l, k14_m, k14_n⟩ := k14.knows
  obtain ⟨k16_c, k16_f, k16_l, k16_m, k16_n⟩ := k16.knows
  go_wp2_with fail
  (with_reducible refine (finv_yes (hF0.alloc _) (frdN base a) (frdN_lt base a) h0).mono ?_)
  rintro e w17 ⟨rfl, h17⟩
  clear k3_c k3_f k3_m k3_n k6_c k6_f k6_m k6_n k7_c k7_f k7_m k7_n k8_c k8_f k8_m k8_n k10_c k10_f k10_m k10_n k13_c k13_f k13_m k13_n k14_c k14_f k14_m k14_n k16_c k16_f k16_m k16_n
  have o17 : w15.heap.size < w16.heap.size := by first | exact k16_l | omega
  replace hF0 := ((hF0.alloc _).after h17)
  replace k3 := ((k3.alloc _).after h17)
  replace k6 := ((k6.alloc _).after h17)
  replace k7 := ((k7.alloc _).after h17)
  replace k8 := ((k8.alloc _).after h17)
  replace k10 := ((k10.alloc _).after h17)
  replace k13 := ((k13.alloc _).after h17)
  replace k14 := ((k14.alloc _).after h17)
  replace k16 := ((k16.alloc _).after h17)
  have k17 := ((Blk.newAt (n := w16.heap.size) _ _ _ (by first | rfl | simp)).after h17)
  have bwsz := Below.size bw
  replace bw := below_call h17 (w := w) (by first | exact (Below.alloc bw (Below.size bw) _) | go_grown)
  clear h17 bwsz k3_l k6_l k7_l k8_l k10_l k13_l k14_l k16_l
  obtain ⟨k3_c, k3_f, k3_l, k3_m, k3_n⟩ := k3.knows
  obtain ⟨k6_c, k6_f, k6_l, k6_m, k6_n⟩ := k6.knows
  obtain ⟨k7_c, k7_f, k7_l, k7_m, k7_n⟩ := k7.knows
  obtain ⟨k8_c, k8_f, k8_l, k8_m, k8_n⟩ := k8.knows
  obtain ⟨k10_c, k10_f, k10_l, k10_m, k10_n⟩ := k10.knows
  obtain ⟨k13_c, k13_f, k13_l, k13_m, k13_n⟩ := k13.knows
  obtain ⟨k14_c, k14_f, k14_l, k14_m, k14_n⟩ := k14.knows
  obtain ⟨k16_c, k16_f, k16_l, k16_m, k16_n⟩ := k16.knows
  obtain ⟨k17_c, k17_f, k17_l, k17_m, k17_n⟩ := k17.knows
  go_wp2_with fail
  (with_reducible refine (fmul_yes (hF0.alloc _) (frdN base a) (fpwN base (frdN base a) (ieN base)) (frdN_lt base a) (fpwN_lt base (frdN base a) (ieN base))).mono ?_)
  rintro e w18 ⟨rfl, h18⟩
  clear k3_c k3_f k3_m k3_n k6_c k6_f k6_m k6_n k7_c k7_f k7_m k7_n k8_c k8_f k8_m k8_n k10_c k10_f k10_m k10_n k13_c k13_f k13_m k13_n k14_c k14_f k14_m k14_n k16_c k16_f k16_m k16_n k17_c k17_f k17_m k17_n
  have o18 : w16.heap.size < w17.heap.size := by first | exact k17_l | omega
  replace hF0 := ((hF0.alloc _).after h18)
  replace k3 := ((k3.alloc _).after h18)
  replace k6 := ((k6.alloc _).after h18)
  replace k7 := ((k7.alloc _).after h18)
  replace k8 := ((k8.alloc _).after h18)
  replace k10 := ((k10.alloc _).after h18)
  replace k13 := ((k13.alloc _).after h18)
  replace k14 := ((k14.alloc _).after h18)
  replace k16 := ((k16.alloc _).after h18)
  replace k17 := ((k17.alloc _).after h18)
  have bwsz := Below.size bw
  replace bw := below_call h18 (w := w) (by first | exact (Below.alloc bw (Below.size bw) _) | go_grown)
  clear h18 bwsz k3_l k6_l k7_l k8_l k10_l k13_l k14_l k16_l k17_l
  obtain ⟨k3_c, k3_f, k3_l, k3_m, k3_n⟩ := k3.knows
  obtain ⟨k6_c, k6_f, k6_l, k6_m, k6_n⟩ := k6.knows
  obtain ⟨k7_c, k7_f, k7_l, k7_m, k7_n⟩ := k7.knows
  obtain ⟨k8_c, k8_f, k8_l, k8_m, k8_n⟩ := k8.knows
  obtain ⟨k10_c, k10_f, k10_l, k10_m, k10_n⟩ := k10.knows
  obtain ⟨k13_c, k13_f, k13_l, k13_m, k13_n⟩ := k13.knows
  obtain ⟨k14_c, k14_f, k14_l, k14_m, k14_n⟩ := k14.knows
  obtain ⟨k16_c, k16_f, k16_l, k16_m, k16_n⟩ := k16.knows
  obtain ⟨k17_c, k17_f, k17_l, k17_m, k17_n⟩ := k17.knows
  go_wp2_with fail
  (with_reducible refine (half_any _).mono ?_)
  rintro e w19 ⟨rfl, h19⟩
  clear k3_c k3_f k3_m k3_n k6_c k6_f k6_m k6_n k7_c k7_f k7_m k7_n k8_c k8_f k8_m k8_n k10_c k10_f k10_m k10_n k13_c k13_f k13_m k13_n k14_c k14_f k14_m k14_n k16_c k16_f k16_m k16_n k17_c k17_f k17_m k17_n
  have o19 : w16.heap.size < w18.heap.size := by first | exact k17_l | omega
  replace hF0 := ((hF0.alloc _).after h19)
  have bwsz := Below.size bw
  replace bw := below_call h19 (w := w) (by first | exact (Below.alloc bw (Below.size bw) _) | go_grown)
  clear h19 bwsz k3_l k6_l k7_l k8_l k10_l k13_l k14_l k16_l k17_l
  clear k3 k6 k7 k8 k10 k13 k14 k16 k17
  go_wp2
  go_ret
  exact ⟨rfl, (by first | exact bw | go_grown)⟩
theorem rules_walk (base : Bool) (a b c : Nat) (ha : a < RR) (hb : b < RR) (hc : c < RR) (w : World) : Calls Try.prog 7 #[.bool base, .agg #[.int .u64 (lb a 0), .int .u64 (lb a 1), .int .u64 (lb a 2), .int .u64 (lb a 3), .int .u64 (lb b 0), .int .u64 (lb b 1), .int .u64 (lb b 2), .int .u64 (lb b 3), .int .u64 (lb c 0), .int .u64 (lb c 1), .int .u64 (lb c 2), .int .u64 (lb c 3)]] w fun e w' => e = .returned (.bool true) ∧ Below w.heap.size w w' := by
  by_cases h0 : frdN base a = 0
  · exact rules_zero base a b c ha hb hc h0 w
  · exact rules_not base a b c ha hb hc h0 w
end Go.Proofs.Ytlibfjemdiochaa
