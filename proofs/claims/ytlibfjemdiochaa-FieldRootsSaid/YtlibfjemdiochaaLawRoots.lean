/- FieldRoots, the walk. -/
import Derived.Test.YtlibfjemdiochaaLF1
import Derived.Test.YtlibfjemdiochaaLF2
import Derived.Test.YtlibfjemdiochaaRG3
namespace Go.Proofs.Ytlibfjemdiochaa
set_option linter.unusedVariables false
set_option linter.unusedSimpArgs false
open Go.RowKit

theorem ev_even (x : Nat) (h : x < pN true) : lb (evN true x) 0 % 2 = 0 := by
  have hp := pN_odd true
  have e : evN true x % 2 = 0 := by
    rw [evN_def]
    by_cases ho : x % 2 = 1
    · have h1 := pN_one true; rw [if_pos ho, fsbN_def, Nat.zero_add, Nat.mod_eq_of_lt (show pN true - x < pN true by omega)]; omega
    · rw [if_neg ho]; omega
  rw [lb_def, lb0]; omega
set_option maxRecDepth 20000 in
set_option maxHeartbeats 2000000 in
theorem roots_a_zero (a : Nat) (ha : a < RR) (hr : evN true (fpwN true (fmlN true (frdN true a) (frdN true a)) (rtN true)) = frdN true a) (h0 : frdN true a = 0) (h1 : fmlN true (fpwN true (frdN true a) (rtN true)) (fpwN true (frdN true a) (rtN true)) = frdN true a) (h2 : fmlN true (fpwN true (fsbN true 0 (frdN true a)) (rtN true)) (fpwN true (fsbN true 0 (frdN true a)) (rtN true)) = fsbN true 0 (frdN true a)) (w : World) : Calls Try.prog 4 #[num a] w fun e w' => e = .returned (.bool true) ∧ Below w.heap.size w w' := by
  have h0_ := Lib.hid h0; clear h0
  have h1_ := Lib.hid h1; clear h1
  have h2_ := Lib.hid h2; clear h2
  have hr_ := Lib.hid hr; clear hr
  have hev : (lb (evN true (fpwN true (fmlN true (frdN true a) (frdN true a)) (rtN true))) 0 % 2 == 0) = true := by rw [ev_even _ (fpwN_lt _ _ _)]; rfl
  have hev2 : (lb (evN true (fpwN true (fmlN true (frdN true a) (frdN true a)) (rtN true))) 0 % 2 != 0) = false := by rw [ev_even _ (fpwN_lt _ _ _)]; rfl
  have hev0 := lb_lo (evN true (fpwN true (fmlN true (frdN true a) (frdN true a)) (rtN true))) 0
  have hev1 := lb_hi (evN true (fpwN true (fmlN true (frdN true a) (frdN true a)) (rtN true))) 0
  have q1 : ∀ w, (Op.equalIn 10000 24 (num (fmlN true (evN true (fpwN true (fmlN true (frdN true a) (frdN true a)) (rtN true))) (evN true (fpwN true (fmlN true (frdN true a) (frdN true a)) (rtN true))))) (num (fmlN true (frdN true a) (frdN true a)))).run Try.prog w = .ok true w := by intro w; exact eqin_eq (root_again _ (frdN_lt _ _)) _
  have q2 : ∀ w, (Op.equalIn 10000 24 (num (evN true (fpwN true (fmlN true (frdN true a) (frdN true a)) (rtN true)))) (num (frdN true a))).run Try.prog w = .ok true w := by intro w; exact eqin_eq hr_.out _
  have q3 : ∀ w, (Op.equalIn 10000 24 (num (frdN true a)) (zeroV)).run Try.prog w = .ok true w := by intro w; rw [← num_zero]; exact eqin_eq h0_.out _
  go_enter Try.func4, Try.ntmps4
  go_wp2_with fail
  (with_reducible refine (of_any true _).mono ?_)
  rintro e w1 ⟨f0, g0, rfl, hF0, h1⟩
  have k1 := ((Blk.newAt (n := w.heap.size) _ _ _ (by first | rfl | simp)).after h1)
  have bw := below_call h1 (w := w) (by first | exact (Below.alloc (Below.refl _ _) (Below.size (Below.refl _ _)) _) | go_grown)
  clear h1
  obtain ⟨k1_c, k1_f, k1_l, k1_m, k1_n⟩ := k1.knows
  go_wp2_with fail
  (with_reducible refine (in_any (base := true) a ha _).mono ?_)
  rintro e w2 ⟨rfl, h2⟩
  clear k1_c k1_f k1_m k1_n
  have o2 : w.heap.size < w1.heap.size := by first | exact k1_l | omega
  replace hF0 := ((hF0.alloc _).after h2)
  have bwsz := Below.size bw
  replace bw := below_call h2 (w := w) (by first | exact (Below.alloc bw (Below.size bw) _) | go_grown)
  clear h2 bwsz k1_l
  clear k1
  go_wp2_with fail
  (with_reducible refine (fmul_yes (hF0.alloc _) (frdN true a) (frdN true a) (frdN_lt true a) (frdN_lt true a)).mono ?_)
  rintro e w3 ⟨rfl, h3⟩
  replace hF0 := ((hF0.alloc _).after h3)
  have k3 := ((Blk.newAt (n := w2.heap.size) _ _ _ (by first | rfl | simp)).after h3)
  have bwsz := Below.size bw
  replace bw := below_call h3 (w := w) (by first | exact (Below.alloc bw (Below.size bw) _) | go_grown)
  clear h3 bwsz
  obtain ⟨k3_c, k3_f, k3_l, k3_m, k3_n⟩ := k3.knows
  go_wp2_with fail
  (with_reducible refine (fsqrt_yes (hF0.alloc _) (fmlN true (frdN true a) (frdN true a)) (fmlN_lt true (frdN true a) (frdN true a)) (root_square _ (frdN_lt _ _))).mono ?_)
  rintro e w4 ⟨rfl, h4⟩
  clear k3_c k3_f k3_m k3_n
  have o4 : w2.heap.size < w3.heap.size := by first | exact k3_l | omega
  replace hF0 := ((hF0.alloc _).after h4)
  replace k3 := ((k3.alloc _).after h4)
  have k4 := ((Blk.newAt (n := w3.heap.size) _ _ _ (by first | rfl | simp)).after h4)
  have bwsz := Below.size bw
  replace bw := below_call h4 (w := w) (by first | exact (Below.alloc bw (Below.size bw) _) | go_grown)
  clear h4 bwsz k3_l
  obtain ⟨k3_c, k3_f, k3_l, k3_m, k3_n⟩ := k3.knows
  obtain ⟨k4_c, k4_f, k4_l, k4_m, k4_n⟩ := k4.knows
  go_wp2_with fail
  (with_reducible refine (fmul_yes (hF0.alloc _) (evN true (fpwN true (fmlN true (frdN true a) (frdN true a)) (rtN true))) (evN true (fpwN true (fmlN true (frdN true a) (frdN true a)) (rtN true))) (evN_lt true (fpwN true (fmlN true (frdN true a) (frdN true a)) (rtN true)) (fpwN_lt true (fmlN true (frdN true a) (frdN true a)) (rtN true))) (evN_lt true (fpwN true (fmlN true (frdN true a) (frdN true a)) (rtN true)) (fpwN_lt true (fmlN true (frdN true a) (frdN true a)) (rtN true)))).mono ?_)
  rintro e w5 ⟨rfl, h5⟩
  clear k3_c k3_f k3_m k3_n k4_c k4_f k4_m k4_n
  have o5 : w3.heap.size < w4.heap.size := by first | exact k4_l | omega
  replace hF0 := ((hF0.alloc _).after h5)
  replace k3 := ((k3.alloc _).after h5)
  replace k4 := ((k4.alloc _).after h5)
  have k5 := ((Blk.newAt (n := w4.heap.size) _ _ _ (by first | rfl | simp)).after h5)
  have bwsz := Below.size bw
  replace bw := below_call h5 (w := w) (by first | exact (Below.alloc bw (Below.size bw) _) | go_grown)
  clear h5 bwsz k3_l k4_l
  obtain ⟨k3_c, k3_f, k3_l, k3_m, k3_n⟩ := k3.knows
  obtain ⟨k4_c, k4_f, k4_l, k4_m, k4_n⟩ := k4.knows
  obtain ⟨k5_c, k5_f, k5_l, k5_m, k5_n⟩ := k5.knows
  go_wp2_with fail
  (with_reducible refine (fneg_yes (hF0.alloc _) (frdN true a) (frdN_lt true a)).mono ?_)
  rintro e w6 ⟨rfl, h6⟩
  clear k3_c k3_f k3_m k3_n k4_c k4_f k4_m k4_n k5_c k5_f k5_m k5_n
  have o6 : w4.heap.size < w5.heap.size := by first | exact k5_l | omega
  replace hF0 := ((hF0.alloc _).after h6)
  replace k3 := ((k3.alloc _).after h6)
  replace k4 := ((k4.alloc _).after h6)
  replace k5 := ((k5.alloc _).after h6)
  have k6 := ((Blk.newAt (n := w5.heap.size) _ _ _ (by first | rfl | simp)).after h6)
  have bwsz := Below.size bw
  replace bw := below_call h6 (w := w) (by first | exact (Below.alloc bw (Below.size bw) _) | go_grown)
  clear h6 bwsz k3_l k4_l k5_l
  obtain ⟨k3_c, k3_f, k3_l, k3_m, k3_n⟩ := k3.knows
  obtain ⟨k4_c, k4_f, k4_l, k4_m, k4_n⟩ := k4.knows
  obtain ⟨k5_c, k5_f, k5_l, k5_m, k5_n⟩ := k5.knows
  obtain ⟨k6_c, k6_f, k6_l, k6_m, k6_n⟩ := k6.knows
  go_wp2_with fail
  (with_reducible refine (fsqrt_yes (hF0.alloc _) (frdN true a) (frdN_lt true a) h1_.out).mono ?_)
  rintro e w7 ⟨rfl, h7⟩
  clear k3_c k3_f k3_m k3_n k4_c k4_f k4_m k4_n k5_c k5_f k5_m k5_n k6_c k6_f k6_m k6_n
  have o7 : w5.heap.size < w6.heap.size := by first | exact k6_l | omega
  replace hF0 := ((hF0.alloc _).after h7)
  replace k3 := ((k3.alloc _).after h7)
  have k7 := ((Blk.newAt (n := w6.heap.size) _ _ _ (by first | rfl | simp)).after h7)
  have bwsz := Below.size bw
  replace bw := below_call h7 (w := w) (by first | exact (Below.alloc bw (Below.size bw) _) | go_grown)
  clear h7 bwsz k3_l k4_l k5_l k6_l
  clear k4 k5 k6
  obtain ⟨k3_c, k3_f, k3_l, k3_m, k3_n⟩ := k3.knows
  obtain ⟨k7_c, k7_f, k7_l, k7_m, k7_n⟩ := k7.knows
  go_wp2_with fail
  (with_reducible refine (fsqrt_yes (hF0.alloc _) (fsbN true 0 (frdN true a)) (fsbN_lt true 0 (frdN true a)) h2_.out).mono ?_)
  rintro e w8 ⟨rfl, h8⟩
  clear k3_c k3_f k3_m k3_n k7_c k7_f k7_m k7_n
  have o8 : w6.heap.size < w7.heap.size := by first | exact k7_l | omega
  replace hF0 := ((hF0.alloc _).after h8)
  replace k3 := ((k3.alloc _).after h8)
  have bwsz := Below.size bw
  replace bw := below_call h8 (w := w) (by first | exact (Below.alloc bw (Below.size bw) _) | go_grown)
  clear h8 bwsz k3_l k7_l
  clear k7
  obtain ⟨k3_c, k3_f, k3_l, k3_m, k3_n⟩ := k3.knows
  go_wp2_with fail
  (with_reducible refine (half_any _).mono ?_)
  rintro e w9 ⟨rfl, h9⟩
  clear k3_c k3_f k3_m k3_n
  have o9 : w2.heap.size < w8.heap.size := by first | exact k3_l | omega
  replace hF0 := ((hF0.alloc _).after h9)
  have bwsz := Below.size bw
  replace bw := below_call h9 (w := w) (by first | exact (Below.alloc bw (Below.size bw) _) | go_grown)
  clear h9 bwsz k3_l
  clear k3
  go_wp2
  go_ret
  exact ⟨rfl, (by first | exact bw | go_grown)⟩
set_option maxRecDepth 20000 in
set_option maxHeartbeats 2000000 in
theorem roots_a_yes (a : Nat) (ha : a < RR) (hr : evN true (fpwN true (fmlN true (frdN true a) (frdN true a)) (rtN true)) = frdN true a) (h0 : frdN true a ≠ 0) (h1 : fmlN true (fpwN true (frdN true a) (rtN true)) (fpwN true (frdN true a) (rtN true)) = frdN true a) (h2 : fmlN true (fpwN true (fsbN true 0 (frdN true a)) (rtN true)) (fpwN true (fsbN true 0 (frdN true a)) (rtN true)) ≠ fsbN true 0 (frdN true a)) (w : World) : Calls Try.prog 4 #[num a] w fun e w' => e = .returned (.bool true) ∧ Below w.heap.size w w' := by
  have h1_ := Lib.hid h1; clear h1
  have hr_ := Lib.hid hr; clear hr
  have hev : (lb (evN true (fpwN true (fmlN true (frdN true a) (frdN true a)) (rtN true))) 0 % 2 == 0) = true := by rw [ev_even _ (fpwN_lt _ _ _)]; rfl
  have hev2 : (lb (evN true (fpwN true (fmlN true (frdN true a) (frdN true a)) (rtN true))) 0 % 2 != 0) = false := by rw [ev_even _ (fpwN_lt _ _ _)]; rfl
  have hev0 := lb_lo (evN true (fpwN true (fmlN true (frdN true a) (frdN true a)) (rtN true))) 0
  have hev1 := lb_hi (evN true (fpwN true (fmlN true (frdN true a) (frdN true a)) (rtN true))) 0
  have q1 : ∀ w, (Op.equalIn 10000 24 (num (fmlN true (evN true (fpwN true (fmlN true (frdN true a) (frdN true a)) (rtN true))) (evN true (fpwN true (fmlN true (frdN true a) (frdN true a)) (rtN true))))) (num (fmlN true (frdN true a) (frdN true a)))).run Try.prog w = .ok true w := by intro w; exact eqin_eq (root_again _ (frdN_lt _ _)) _
  have q2 : ∀ w, (Op.equalIn 10000 24 (num (evN true (fpwN true (fmlN true (frdN true a) (frdN true a)) (rtN true)))) (num (frdN true a))).run Try.prog w = .ok true w := by intro w; exact eqin_eq hr_.out _
  have q3 : ∀ w, (Op.equalIn 10000 24 (num (frdN true a)) (zeroV)).run Try.prog w = .ok false w := by intro w; rw [← num_zero]; exact eqin_other (lt_RR (frdN_lt true a)) RR_zero h0 _
  go_enter Try.func4, Try.ntmps4
  go_wp2_with fail
  (with_reducible refine (of_any true _).mono ?_)
  rintro e w1 ⟨f0, g0, rfl, hF0, h1⟩
  have k1 := ((Blk.newAt (n := w.heap.size) _ _ _ (by first | rfl | simp)).after h1)
  have bw := below_call h1 (w := w) (by first | exact (Below.alloc (Below.refl _ _) (Below.size (Below.refl _ _)) _) | go_grown)
  clear h1
  obtain ⟨k1_c, k1_f, k1_l, k1_m, k1_n⟩ := k1.knows
  go_wp2_with fail
  (with_reducible refine (in_any (base := true) a ha _).mono ?_)
  rintro e w2 ⟨rfl, h2⟩
  clear k1_c k1_f k1_m k1_n
  have o2 : w.heap.size < w1.heap.size := by first | exact k1_l | omega
  replace hF0 := ((hF0.alloc _).after h2)
  have bwsz := Below.size bw
  replace bw := below_call h2 (w := w) (by first | exact (Below.alloc bw (Below.size bw) _) | go_grown)
  clear h2 bwsz k1_l
  clear k1
  go_wp2_with fail
  (with_reducible refine (fmul_yes (hF0.alloc _) (frdN true a) (frdN true a) (frdN_lt true a) (frdN_lt true a)).mono ?_)
  rintro e w3 ⟨rfl, h3⟩
  replace hF0 := ((hF0.alloc _).after h3)
  have k3 := ((Blk.newAt (n := w2.heap.size) _ _ _ (by first | rfl | simp)).after h3)
  have bwsz := Below.size bw
  replace bw := below_call h3 (w := w) (by first | exact (Below.alloc bw (Below.size bw) _) | go_grown)
  clear h3 bwsz
  obtain ⟨k3_c, k3_f, k3_l, k3_m, k3_n⟩ := k3.knows
  go_wp2_with fail
  (with_reducible refine (fsqrt_yes (hF0.alloc _) (fmlN true (frdN true a) (frdN true a)) (fmlN_lt true (frdN true a) (frdN true a)) (root_square _ (frdN_lt _ _))).mono ?_)
  rintro e w4 ⟨rfl, h4⟩
  clear k3_c k3_f k3_m k3_n
  have o4 : w2.heap.size < w3.heap.size := by first | exact k3_l | omega
  replace hF0 := ((hF0.alloc _).after h4)
  replace k3 := ((k3.alloc _).after h4)
  have k4 := ((Blk.newAt (n := w3.heap.size) _ _ _ (by first | rfl | simp)).after h4)
  have bwsz := Below.size bw
  replace bw := below_call h4 (w := w) (by first | exact (Below.alloc bw (Below.size bw) _) | go_grown)
  clear h4 bwsz k3_l
  obtain ⟨k3_c, k3_f, k3_l, k3_m, k3_n⟩ := k3.knows
  obtain ⟨k4_c, k4_f, k4_l, k4_m, k4_n⟩ := k4.knows
  go_wp2_with fail
  (with_reducible refine (fmul_yes (hF0.alloc _) (evN true (fpwN true (fmlN true (frdN true a) (frdN true a)) (rtN true))) (evN true (fpwN true (fmlN true (frdN true a) (frdN true a)) (rtN true))) (evN_lt true (fpwN true (fmlN true (frdN true a) (frdN true a)) (rtN true)) (fpwN_lt true (fmlN true (frdN true a) (frdN true a)) (rtN true))) (evN_lt true (fpwN true (fmlN true (frdN true a) (frdN true a)) (rtN true)) (fpwN_lt true (fmlN true (frdN true a) (frdN true a)) (rtN true)))).mono ?_)
  rintro e w5 ⟨rfl, h5⟩
  clear k3_c k3_f k3_m k3_n k4_c k4_f k4_m k4_n
  have o5 : w3.heap.size < w4.heap.size := by first | exact k4_l | omega
  replace hF0 := ((hF0.alloc _).after h5)
  replace k3 := ((k3.alloc _).after h5)
  replace k4 := ((k4.alloc _).after h5)
  have k5 := ((Blk.newAt (n := w4.heap.size) _ _ _ (by first | rfl | simp)).after h5)
  have bwsz := Below.size bw
  replace bw := below_call h5 (w := w) (by first | exact (Below.alloc bw (Below.size bw) _) | go_grown)
  clear h5 bwsz k3_l k4_l
  obtain ⟨k3_c, k3_f, k3_l, k3_m, k3_n⟩ := k3.knows
  obtain ⟨k4_c, k4_f, k4_l, k4_m, k4_n⟩ := k4.knows
  obtain ⟨k5_c, k5_f, k5_l, k5_m, k5_n⟩ := k5.knows
  go_wp2_with fail
  (with_reducible refine (fneg_yes (hF0.alloc _) (frdN true a) (frdN_lt true a)).mono ?_)
  rintro e w6 ⟨rfl, h6⟩
  clear k3_c k3_f k3_m k3_n k4_c k4_f k4_m k4_n k5_c k5_f k5_m k5_n
  have o6 : w4.heap.size < w5.heap.size := by first | exact k5_l | omega
  replace hF0 := ((hF0.alloc _).after h6)
  replace k3 := ((k3.alloc _).after h6)
  replace k4 := ((k4.alloc _).after h6)
  replace k5 := ((k5.alloc _).after h6)
  have k6 := ((Blk.newAt (n := w5.heap.size) _ _ _ (by first | rfl | simp)).after h6)
  have bwsz := Below.size bw
  replace bw := below_call h6 (w := w) (by first | exact (Below.alloc bw (Below.size bw) _) | go_grown)
  clear h6 bwsz k3_l k4_l k5_l
  obtain ⟨k3_c, k3_f, k3_l, k3_m, k3_n⟩ := k3.knows
  obtain ⟨k4_c, k4_f, k4_l, k4_m, k4_n⟩ := k4.knows
  obtain ⟨k5_c, k5_f, k5_l, k5_m, k5_n⟩ := k5.knows
  obtain ⟨k6_c, k6_f, k6_l, k6_m, k6_n⟩ := k6.knows
  go_wp2_with fail
  (with_reducible refine (fsqrt_yes (hF0.alloc _) (frdN true a) (frdN_lt true a) h1_.out).mono ?_)
  rintro e w7 ⟨rfl, h7⟩
  clear k3_c k3_f k3_m k3_n k4_c k4_f k4_m k4_n k5_c k5_f k5_m k5_n k6_c k6_f k6_m k6_n
  have o7 : w5.heap.size < w6.heap.size := by first | exact k6_l | omega
  replace hF0 := ((hF0.alloc _).after h7)
  replace k3 := ((k3.alloc _).after h7)
  have k7 := ((Blk.newAt (n := w6.heap.size) _ _ _ (by first | rfl | simp)).after h7)
  have bwsz := Below.size bw
  replace bw := below_call h7 (w := w) (by first | exact (Below.alloc bw (Below.size bw) _) | go_grown)
  clear h7 bwsz k3_l k4_l k5_l k6_l
  clear k4 k5 k6
  obtain ⟨k3_c, k3_f, k3_l, k3_m, k3_n⟩ := k3.knows
  obtain ⟨k7_c, k7_f, k7_l, k7_m, k7_n⟩ := k7.knows
  go_wp2_with fail
  (with_reducible refine (fsqrt_bad (hF0.alloc _) (fsbN true 0 (frdN true a)) (fsbN_lt true 0 (frdN true a)) h2).mono ?_)
  rintro e w8 ⟨rfl, h8⟩
  clear k3_c k3_f k3_m k3_n k7_c k7_f k7_m k7_n
  have o8 : w6.heap.size < w7.heap.size := by first | exact k7_l | omega
  replace hF0 := ((hF0.alloc _).after h8)
  replace k3 := ((k3.alloc _).after h8)
  have bwsz := Below.size bw
  replace bw := below_call h8 (w := w) (by first | exact (Below.alloc bw (Below.size bw) _) | go_grown)
  clear h8 bwsz k3_l k7_l
  clear k7
  obtain ⟨k3_c, k3_f, k3_l, k3_m, k3_n⟩ := k3.knows
  go_wp2_with fail
  (with_reducible refine (half_any _).mono ?_)
  rintro e w9 ⟨rfl, h9⟩
  clear k3_c k3_f k3_m k3_n
  have o9 : w2.heap.size < w8.heap.size := by first | exact k3_l | omega
  replace hF0 := ((hF0.alloc _).after h9)
  have bwsz := Below.size bw
  replace bw := below_call h9 (w := w) (by first | exact (Below.alloc bw (Below.size bw) _) | go_grown)
  clear h9 bwsz k3_l
  clear k3
  go_wp2
  go_ret
  exact ⟨rfl, (by first | exact bw | go_grown)⟩
set_option maxRecDepth 20000 in
set_option maxHeartbeats 2000000 in
theorem roots_a_no (a : Nat) (ha : a < RR) (hr : evN true (fpwN true (fmlN true (frdN true a) (frdN true a)) (rtN true)) = frdN true a) (h0 : frdN true a ≠ 0) (h1 : fmlN true (fpwN true (frdN true a) (rtN true)) (fpwN true (frdN true a) (rtN true)) ≠ frdN true a) (h2 : fmlN true (fpwN true (fsbN true 0 (frdN true a)) (rtN true)) (fpwN true (fsbN true 0 (frdN true a)) (rtN true)) = fsbN true 0 (frdN true a)) (w : World) : Calls Try.prog 4 #[num a] w fun e w' => e = .returned (.bool true) ∧ Below w.heap.size w w' := by
  have h2_ := Lib.hid h2; clear h2
  have hr_ := Lib.hid hr; clear hr
  have hev : (lb (evN true (fpwN true (fmlN true (frdN true a) (frdN true a)) (rtN true))) 0 % 2 == 0) = true := by rw [ev_even _ (fpwN_lt _ _ _)]; rfl
  have hev2 : (lb (evN true (fpwN true (fmlN true (frdN true a) (frdN true a)) (rtN true))) 0 % 2 != 0) = false := by rw [ev_even _ (fpwN_lt _ _ _)]; rfl
  have hev0 := lb_lo (evN true (fpwN true (fmlN true (frdN true a) (frdN true a)) (rtN true))) 0
  have hev1 := lb_hi (evN true (fpwN true (fmlN true (frdN true a) (frdN true a)) (rtN true))) 0
  have q1 : ∀ w, (Op.equalIn 10000 24 (num (fmlN true (evN true (fpwN true (fmlN true (frdN true a) (frdN true a)) (rtN true))) (evN true (fpwN true (fmlN true (frdN true a) (frdN true a)) (rtN true))))) (num (fmlN true (frdN true a) (frdN true a)))).run Try.prog w = .ok true w := by intro w; exact eqin_eq (root_again _ (frdN_lt _ _)) _
  have q2 : ∀ w, (Op.equalIn 10000 24 (num (evN true (fpwN true (fmlN true (frdN true a) (frdN true a)) (rtN true)))) (num (frdN true a))).run Try.prog w = .ok true w := by intro w; exact eqin_eq hr_.out _
  have q3 : ∀ w, (Op.equalIn 10000 24 (num (frdN true a)) (zeroV)).run Try.prog w = .ok false w := by intro w; rw [← num_zero]; exact eqin_other (lt_RR (frdN_lt true a)) RR_zero h0 _
  go_enter Try.func4, Try.ntmps4
  go_wp2_with fail
  (with_reducible refine (of_any true _).mono ?_)
  rintro e w1 ⟨f0, g0, rfl, hF0, h1⟩
  have k1 := ((Blk.newAt (n := w.heap.size) _ _ _ (by first | rfl | simp)).after h1)
  have bw := below_call h1 (w := w) (by first | exact (Below.alloc (Below.refl _ _) (Below.size (Below.refl _ _)) _) | go_grown)
  clear h1
  obtain ⟨k1_c, k1_f, k1_l, k1_m, k1_n⟩ := k1.knows
  go_wp2_with fail
  (with_reducible refine (in_any (base := true) a ha _).mono ?_)
  rintro e w2 ⟨rfl, h2⟩
  clear k1_c k1_f k1_m k1_n
  have o2 : w.heap.size < w1.heap.size := by first | exact k1_l | omega
  replace hF0 := ((hF0.alloc _).after h2)
  have bwsz := Below.size bw
  replace bw := below_call h2 (w := w) (by first | exact (Below.alloc bw (Below.size bw) _) | go_grown)
  clear h2 bwsz k1_l
  clear k1
  go_wp2_with fail
  (with_reducible refine (fmul_yes (hF0.alloc _) (frdN true a) (frdN true a) (frdN_lt true a) (frdN_lt true a)).mono ?_)
  rintro e w3 ⟨rfl, h3⟩
  replace hF0 := ((hF0.alloc _).after h3)
  have k3 := ((Blk.newAt (n := w2.heap.size) _ _ _ (by first | rfl | simp)).after h3)
  have bwsz := Below.size bw
  replace bw := below_call h3 (w := w) (by first | exact (Below.alloc bw (Below.size bw) _) | go_grown)
  clear h3 bwsz
  obtain ⟨k3_c, k3_f, k3_l, k3_m, k3_n⟩ := k3.knows
  go_wp2_with fail
  (with_reducible refine (fsqrt_yes (hF0.alloc _) (fmlN true (frdN true a) (frdN true a)) (fmlN_lt true (frdN true a) (frdN true a)) (root_square _ (frdN_lt _ _))).mono ?_)
  rintro e w4 ⟨rfl, h4⟩
  clear k3_c k3_f k3_m k3_n
  have o4 : w2.heap.size < w3.heap.size := by first | exact k3_l | omega
  replace hF0 := ((hF0.alloc _).after h4)
  replace k3 := ((k3.alloc _).after h4)
  have k4 := ((Blk.newAt (n := w3.heap.size) _ _ _ (by first | rfl | simp)).after h4)
  have bwsz := Below.size bw
  replace bw := below_call h4 (w := w) (by first | exact (Below.alloc bw (Below.size bw) _) | go_grown)
  clear h4 bwsz k3_l
  obtain ⟨k3_c, k3_f, k3_l, k3_m, k3_n⟩ := k3.knows
  obtain ⟨k4_c, k4_f, k4_l, k4_m, k4_n⟩ := k4.knows
  go_wp2_with fail
  (with_reducible refine (fmul_yes (hF0.alloc _) (evN true (fpwN true (fmlN true (frdN true a) (frdN true a)) (rtN true))) (evN true (fpwN true (fmlN true (frdN true a) (frdN true a)) (rtN true))) (evN_lt true (fpwN true (fmlN true (frdN true a) (frdN true a)) (rtN true)) (fpwN_lt true (fmlN true (frdN true a) (frdN true a)) (rtN true))) (evN_lt true (fpwN true (fmlN true (frdN true a) (frdN true a)) (rtN true)) (fpwN_lt true (fmlN true (frdN true a) (frdN true a)) (rtN true)))).mono ?_)
  rintro e w5 ⟨rfl, h5⟩
  clear k3_c k3_f k3_m k3_n k4_c k4_f k4_m k4_n
  have o5 : w3.heap.size < w4.heap.size := by first | exact k4_l | omega
  replace hF0 := ((hF0.alloc _).after h5)
  replace k3 := ((k3.alloc _).after h5)
  replace k4 := ((k4.alloc _).after h5)
  have k5 := ((Blk.newAt (n := w4.heap.size) _ _ _ (by first | rfl | simp)).after h5)
  have bwsz := Below.size bw
  replace bw := below_call h5 (w := w) (by first | exact (Below.alloc bw (Below.size bw) _) | go_grown)
  clear h5 bwsz k3_l k4_l
  obtain ⟨k3_c, k3_f, k3_l, k3_m, k3_n⟩ := k3.knows
  obtain ⟨k4_c, k4_f, k4_l, k4_m, k4_n⟩ := k4.knows
  obtain ⟨k5_c, k5_f, k5_l, k5_m, k5_n⟩ := k5.knows
  go_wp2_with fail
  (with_reducible refine (fneg_yes (hF0.alloc _) (frdN true a) (frdN_lt true a)).mono ?_)
  rintro e w6 ⟨rfl, h6⟩
  clear k3_c k3_f k3_m k3_n k4_c k4_f k4_m k4_n k5_c k5_f k5_m k5_n
  have o6 : w4.heap.size < w5.heap.size := by first | exact k5_l | omega
  replace hF0 := ((hF0.alloc _).after h6)
  replace k3 := ((k3.alloc _).after h6)
  replace k4 := ((k4.alloc _).after h6)
  replace k5 := ((k5.alloc _).after h6)
  have k6 := ((Blk.newAt (n := w5.heap.size) _ _ _ (by first | rfl | simp)).after h6)
  have bwsz := Below.size bw
  replace bw := below_call h6 (w := w) (by first | exact (Below.alloc bw (Below.size bw) _) | go_grown)
  clear h6 bwsz k3_l k4_l k5_l
  obtain ⟨k3_c, k3_f, k3_l, k3_m, k3_n⟩ := k3.knows
  obtain ⟨k4_c, k4_f, k4_l, k4_m, k4_n⟩ := k4.knows
  obtain ⟨k5_c, k5_f, k5_l, k5_m, k5_n⟩ := k5.knows
  obtain ⟨k6_c, k6_f, k6_l, k6_m, k6_n⟩ := k6.knows
  go_wp2_with fail
  (with_reducible refine (fsqrt_bad (hF0.alloc _) (frdN true a) (frdN_lt true a) h1).mono ?_)
  rintro e w7 ⟨rfl, h7⟩
  clear k3_c k3_f k3_m k3_n k4_c k4_f k4_m k4_n k5_c k5_f k5_m k5_n k6_c k6_f k6_m k6_n
  have o7 : w5.heap.size < w6.heap.size := by first | exact k6_l | omega
  replace hF0 := ((hF0.alloc _).after h7)
  replace k3 := ((k3.alloc _).after h7)
  have k7 := ((Blk.newAt (n := w6.heap.size) _ _ _ (by first | rfl | simp)).after h7)
  have bwsz := Below.size bw
  replace bw := below_call h7 (w := w) (by first | exact (Below.alloc bw (Below.size bw) _) | go_grown)
  clear h7 bwsz k3_l k4_l k5_l k6_l
  clear k4 k5 k6
  obtain ⟨k3_c, k3_f, k3_l, k3_m, k3_n⟩ := k3.knows
  obtain ⟨k7_c, k7_f, k7_l, k7_m, k7_n⟩ := k7.knows
  go_wp2_with fail
  (with_reducible refine (fsqrt_yes (hF0.alloc _) (fsbN true 0 (frdN true a)) (fsbN_lt true 0 (frdN true a)) h2_.out).mono ?_)
  rintro e w8 ⟨rfl, h8⟩
  clear k3_c k3_f k3_m k3_n k7_c k7_f k7_m k7_n
  have o8 : w6.heap.size < w7.heap.size := by first | exact k7_l | omega
  replace hF0 := ((hF0.alloc _).after h8)
  replace k3 := ((k3.alloc _).after h8)
  have bwsz := Below.size bw
  replace bw := below_call h8 (w := w) (by first | exact (Below.alloc bw (Below.size bw) _) | go_grown)
  clear h8 bwsz k3_l k7_l
  clear k7
  obtain ⟨k3_c, k3_f, k3_l, k3_m, k3_n⟩ := k3.knows
  go_wp2_with fail
  (with_reducible refine (half_any _).mono ?_)
  rintro e w9 ⟨rfl, h9⟩
  clear k3_c k3_f k3_m k3_n
  have o9 : w2.heap.size < w8.heap.size := by first | exact k3_l | omega
  replace hF0 := ((hF0.alloc _).after h9)
  have bwsz := Below.size bw
  replace bw := below_call h9 (w := w) (by first | exact (Below.alloc bw (Below.size bw) _) | go_grown)
  clear h9 bwsz k3_l
  clear k3
  go_wp2
  go_ret
  exact ⟨rfl, (by first | exact bw | go_grown)⟩
set_option maxRecDepth 20000 in
set_option maxHeartbeats 2000000 in
theorem roots_n_zero (a : Nat) (ha : a < RR) (hr : evN true (fpwN true (fmlN true (frdN true a) (frdN true a)) (rtN true)) ≠ frdN true a) (hs : evN true (fpwN true (fmlN true (frdN true a) (frdN true a)) (rtN true)) = fsbN true 0 (frdN true a)) (h0 : frdN true a = 0) (h1 : fmlN true (fpwN true (frdN true a) (rtN true)) (fpwN true (frdN true a) (rtN true)) = frdN true a) (h2 : fmlN true (fpwN true (fsbN true 0 (frdN true a)) (rtN true)) (fpwN true (fsbN true 0 (frdN true a)) (rtN true)) = fsbN true 0 (frdN true a)) (w : World) : Calls Try.prog 4 #[num a] w fun e w' => e = .returned (.bool true) ∧ Below w.heap.size w w' := by
  have h0_ := Lib.hid h0; clear h0
  have h1_ := Lib.hid h1; clear h1
  have h2_ := Lib.hid h2; clear h2
  have hs_ := Lib.hid hs; clear hs
  have hev : (lb (evN true (fpwN true (fmlN true (frdN true a) (frdN true a)) (rtN true))) 0 % 2 == 0) = true := by rw [ev_even _ (fpwN_lt _ _ _)]; rfl
  have hev2 : (lb (evN true (fpwN true (fmlN true (frdN true a) (frdN true a)) (rtN true))) 0 % 2 != 0) = false := by rw [ev_even _ (fpwN_lt _ _ _)]; rfl
  have hev0 := lb_lo (evN true (fpwN true (fmlN true (frdN true a) (frdN true a)) (rtN true))) 0
  have hev1 := lb_hi (evN true (fpwN true (fmlN true (frdN true a) (frdN true a)) (rtN true))) 0
  have q1 : ∀ w, (Op.equalIn 10000 24 (num (fmlN true (evN true (fpwN true (fmlN true (frdN true a) (frdN true a)) (rtN true))) (evN true (fpwN true (fmlN true (frdN true a) (frdN true a)) (rtN true))))) (num (fmlN true (frdN true a) (frdN true a)))).run Try.prog w = .ok true w := by intro w; exact eqin_eq (root_again _ (frdN_lt _ _)) _
  have q2 : ∀ w, (Op.equalIn 10000 24 (num (evN true (fpwN true (fmlN true (frdN true a) (frdN true a)) (rtN true)))) (num (frdN true a))).run Try.prog w = .ok false w := by intro w; exact eqin_other (lt_RR (evN_lt true (fpwN true (fmlN true (frdN true a) (frdN true a)) (rtN true)) (fpwN_lt true (fmlN true (frdN true a) (frdN true a)) (rtN true)))) (lt_RR (frdN_lt true a)) hr _
  have q3 : ∀ w, (Op.equalIn 10000 24 (num (evN true (fpwN true (fmlN true (frdN true a) (frdN true a)) (rtN true)))) (num (fsbN true 0 (frdN true a)))).run Try.prog w = .ok true w := by intro w; exact eqin_eq hs_.out _
  have q4 : ∀ w, (Op.equalIn 10000 24 (num (frdN true a)) (zeroV)).run Try.prog w = .ok true w := by intro w; rw [← num_zero]; exact eqin_eq h0_.out _
  go_enter Try.func4, Try.ntmps4
  go_wp2_with fail
  (with_reducible refine (of_any true _).mono ?_)
  rintro e w1 ⟨f0, g0, rfl, hF0, h1⟩
  have k1 := ((Blk.newAt (n := w.heap.size) _ _ _ (by first | rfl | simp)).after h1)
  have bw := below_call h1 (w := w) (by first | exact (Below.alloc (Below.refl _ _) (Below.size (Below.refl _ _)) _) | go_grown)
  clear h1
  obtain ⟨k1_c, k1_f, k1_l, k1_m, k1_n⟩ := k1.knows
  go_wp2_with fail
  (with_reducible refine (in_any (base := true) a ha _).mono ?_)
  rintro e w2 ⟨rfl, h2⟩
  clear k1_c k1_f k1_m k1_n
  have o2 : w.heap.size < w1.heap.size := by first | exact k1_l | omega
  replace hF0 := ((hF0.alloc _).after h2)
  have bwsz := Below.size bw
  replace bw := below_call h2 (w := w) (by first | exact (Below.alloc bw (Below.size bw) _) | go_grown)
  clear h2 bwsz k1_l
  clear k1
  go_wp2_with fail
  (with_reducible refine (fmul_yes (hF0.alloc _) (frdN true a) (frdN true a) (frdN_lt true a) (frdN_lt true a)).mono ?_)
  rintro e w3 ⟨rfl, h3⟩
  replace hF0 := ((hF0.alloc _).after h3)
  have k3 := ((Blk.newAt (n := w2.heap.size) _ _ _ (by first | rfl | simp)).after h3)
  have bwsz := Below.size bw
  replace bw := below_call h3 (w := w) (by first | exact (Below.alloc bw (Below.size bw) _) | go_grown)
  clear h3 bwsz
  obtain ⟨k3_c, k3_f, k3_l, k3_m, k3_n⟩ := k3.knows
  go_wp2_with fail
  (with_reducible refine (fsqrt_yes (hF0.alloc _) (fmlN true (frdN true a) (frdN true a)) (fmlN_lt true (frdN true a) (frdN true a)) (root_square _ (frdN_lt _ _))).mono ?_)
  rintro e w4 ⟨rfl, h4⟩
  clear k3_c k3_f k3_m k3_n
  have o4 : w2.heap.size < w3.heap.size := by first | exact k3_l | omega
  replace hF0 := ((hF0.alloc _).after h4)
  replace k3 := ((k3.alloc _).after h4)
  have k4 := ((Blk.newAt (n := w3.heap.size) _ _ _ (by first | rfl | simp)).after h4)
  have bwsz := Below.size bw
  replace bw := below_call h4 (w := w) (by first | exact (Below.alloc bw (Below.size bw) _) | go_grown)
  clear h4 bwsz k3_l
  obtain ⟨k3_c, k3_f, k3_l, k3_m, k3_n⟩ := k3.knows
  obtain ⟨k4_c, k4_f, k4_l, k4_m, k4_n⟩ := k4.knows
  go_wp2_with fail
  (with_reducible refine (fmul_yes (hF0.alloc _) (evN true (fpwN true (fmlN true (frdN true a) (frdN true a)) (rtN true))) (evN true (fpwN true (fmlN true (frdN true a) (frdN true a)) (rtN true))) (evN_lt true (fpwN true (fmlN true (frdN true a) (frdN true a)) (rtN true)) (fpwN_lt true (fmlN true (frdN true a) (frdN true a)) (rtN true))) (evN_lt true (fpwN true (fmlN true (frdN true a) (frdN true a)) (rtN true)) (fpwN_lt true (fmlN true (frdN true a) (frdN true a)) (rtN true)))).mono ?_)
  rintro e w5 ⟨rfl, h5⟩
  clear k3_c k3_f k3_m k3_n k4_c k4_f k4_m k4_n
  have o5 : w3.heap.size < w4.heap.size := by first | exact k4_l | omega
  replace hF0 := ((hF0.alloc _).after h5)
  replace k3 := ((k3.alloc _).after h5)
  replace k4 := ((k4.alloc _).after h5)
  have k5 := ((Blk.newAt (n := w4.heap.size) _ _ _ (by first | rfl | simp)).after h5)
  have bwsz := Below.size bw
  replace bw := below_call h5 (w := w) (by first | exact (Below.alloc bw (Below.size bw) _) | go_grown)
  clear h5 bwsz k3_l k4_l
  obtain ⟨k3_c, k3_f, k3_l, k3_m, k3_n⟩ := k3.knows
  obtain ⟨k4_c, k4_f, k4_l, k4_m, k4_n⟩ := k4.knows
  obtain ⟨k5_c, k5_f, k5_l, k5_m, k5_n⟩ := k5.knows
  go_wp2_with fail
  (with_reducible refine (fneg_yes (hF0.alloc _) (frdN true a) (frdN_lt true a)).mono ?_)
  rintro e w6 ⟨rfl, h6⟩
  clear k3_c k3_f k3_m k3_n k4_c k4_f k4_m k4_n k5_c k5_f k5_m k5_n
  have o6 : w4.heap.size < w5.heap.size := by first | exact k5_l | omega
  replace hF0 := ((hF0.alloc _).after h6)
  replace k3 := ((k3.alloc _).after h6)
  replace k4 := ((k4.alloc _).after h6)
  replace k5 := ((k5.alloc _).after h6)
  have k6 := ((Blk.newAt (n := w5.heap.size) _ _ _ (by first | rfl | simp)).after h6)
  have bwsz := Below.size bw
  replace bw := below_call h6 (w := w) (by first | exact (Below.alloc bw (Below.size bw) _) | go_grown)
  clear h6 bwsz k3_l k4_l k5_l
  obtain ⟨k3_c, k3_f, k3_l, k3_m, k3_n⟩ := k3.knows
  obtain ⟨k4_c, k4_f, k4_l, k4_m, k4_n⟩ := k4.knows
  obtain ⟨k5_c, k5_f, k5_l, k5_m, k5_n⟩ := k5.knows
  obtain ⟨k6_c, k6_f, k6_l, k6_m, k6_n⟩ := k6.knows
  go_wp2_with fail
  (with_reducible refine (fsqrt_yes (hF0.alloc _) (frdN true a) (frdN_lt true a) h1_.out).mono ?_)
  rintro e w7 ⟨rfl, h7⟩
  clear k3_c k3_f k3_m k3_n k4_c k4_f k4_m k4_n k5_c k5_f k5_m k5_n k6_c k6_f k6_m k6_n
  have o7 : w5.heap.size < w6.heap.size := by first | exact k6_l | omega
  replace hF0 := ((hF0.alloc _).after h7)
  replace k3 := ((k3.alloc _).after h7)
  have k7 := ((Blk.newAt (n := w6.heap.size) _ _ _ (by first | rfl | simp)).after h7)
  have bwsz := Below.size bw
  replace bw := below_call h7 (w := w) (by first | exact (Below.alloc bw (Below.size bw) _) | go_grown)
  clear h7 bwsz k3_l k4_l k5_l k6_l
  clear k4 k5 k6
  obtain ⟨k3_c, k3_f, k3_l, k3_m, k3_n⟩ := k3.knows
  obtain ⟨k7_c, k7_f, k7_l, k7_m, k7_n⟩ := k7.knows
  go_wp2_with fail
  (with_reducible refine (fsqrt_yes (hF0.alloc _) (fsbN true 0 (frdN true a)) (fsbN_lt true 0 (frdN true a)) h2_.out).mono ?_)
  rintro e w8 ⟨rfl, h8⟩
  clear k3_c k3_f k3_m k3_n k7_c k7_f k7_m k7_n
  have o8 : w6.heap.size < w7.heap.size := by first | exact k7_l | omega
  replace hF0 := ((hF0.alloc _).after h8)
  replace k3 := ((k3.alloc _).after h8)
  have bwsz := Below.size bw
  replace bw := below_call h8 (w := w) (by first | exact (Below.alloc bw (Below.size bw) _) | go_grown)
  clear h8 bwsz k3_l k7_l
  clear k7
  obtain ⟨k3_c, k3_f, k3_l, k3_m, k3_n⟩ := k3.knows
  go_wp2_with fail
  (with_reducible refine (half_any _).mono ?_)
  rintro e w9 ⟨rfl, h9⟩
  clear k3_c k3_f k3_m k3_n
  have o9 : w2.heap.size < w8.heap.size := by first | exact k3_l | omega
  replace hF0 := ((hF0.alloc _).after h9)
  have bwsz := Below.size bw
  replace bw := below_call h9 (w := w) (by first | exact (Below.alloc bw (Below.size bw) _) | go_grown)
  clear h9 bwsz k3_l
  clear k3
  go_wp2
  go_ret
  exact ⟨rfl, (by first | exact bw | go_grown)⟩
set_option maxRecDepth 20000 in
set_option maxHeartbeats 2000000 in
theorem roots_n_yes (a : Nat) (ha : a < RR) (hr : evN true (fpwN true (fmlN true (frdN true a) (frdN true a)) (rtN true)) ≠ frdN true a) (hs : evN true (fpwN true (fmlN true (frdN true a) (frdN true a)) (rtN true)) = fsbN true 0 (frdN true a)) (h0 : frdN true a ≠ 0) (h1 : fmlN true (fpwN true (frdN true a) (rtN true)) (fpwN true (frdN true a) (rtN true)) = frdN true a) (h2 : fmlN true (fpwN true (fsbN true 0 (frdN true a)) (rtN true)) (fpwN true (fsbN true 0 (frdN true a)) (rtN true)) ≠ fsbN true 0 (frdN true a)) (w : World) : Calls Try.prog 4 #[num a] w fun e w' => e = .returned (.bool true) ∧ Below w.heap.size w w' := by
  have h1_ := Lib.hid h1; clear h1
  have hs_ := Lib.hid hs; clear hs
  have hev : (lb (evN true (fpwN true (fmlN true (frdN true a) (frdN true a)) (rtN true))) 0 % 2 == 0) = true := by rw [ev_even _ (fpwN_lt _ _ _)]; rfl
  have hev2 : (lb (evN true (fpwN true (fmlN true (frdN true a) (frdN true a)) (rtN true))) 0 % 2 != 0) = false := by rw [ev_even _ (fpwN_lt _ _ _)]; rfl
  have hev0 := lb_lo (evN true (fpwN true (fmlN true (frdN true a) (frdN true a)) (rtN true))) 0
  have hev1 := lb_hi (evN true (fpwN true (fmlN true (frdN true a) (frdN true a)) (rtN true))) 0
  have q1 : ∀ w, (Op.equalIn 10000 24 (num (fmlN true (evN true (fpwN true (fmlN true (frdN true a) (frdN true a)) (rtN true))) (evN true (fpwN true (fmlN true (frdN true a) (frdN true a)) (rtN true))))) (num (fmlN true (frdN true a) (frdN true a)))).run Try.prog w = .ok true w := by intro w; exact eqin_eq (root_again _ (frdN_lt _ _)) _
  have q2 : ∀ w, (Op.equalIn 10000 24 (num (evN true (fpwN true (fmlN true (frdN true a) (frdN true a)) (rtN true)))) (num (frdN true a))).run Try.prog w = .ok false w := by intro w; exact eqin_other (lt_RR (evN_lt true (fpwN true (fmlN true (frdN true a) (frdN true a)) (rtN true)) (fpwN_lt true (fmlN true (frdN true a) (frdN true a)) (rtN true)))) (lt_RR (frdN_lt true a)) hr _
  have q3 : ∀ w, (Op.equalIn 10000 24 (num (evN true (fpwN true (fmlN true (frdN true a) (frdN true a)) (rtN true)))) (num (fsbN true 0 (frdN true a)))).run Try.prog w = .ok true w := by intro w; exact eqin_eq hs_.out _
  have q4 : ∀ w, (Op.equalIn 10000 24 (num (frdN true a)) (zeroV)).run Try.prog w = .ok false w := by intro w; rw [← num_zero]; exact eqin_other (lt_RR (frdN_lt true a)) RR_zero h0 _
  go_enter Try.func4, Try.ntmps4
  go_wp2_with fail
  (with_reducible refine (of_any true _).mono ?_)
  rintro e w1 ⟨f0, g0, rfl, hF0, h1⟩
  have k1 := ((Blk.newAt (n := w.heap.size) _ _ _ (by first | rfl | simp)).after h1)
  have bw := below_call h1 (w := w) (by first | exact (Below.alloc (Below.refl _ _) (Below.size (Below.refl _ _)) _) | go_grown)
  clear h1
  obtain ⟨k1_c, k1_f, k1_l, k1_m, k1_n⟩ := k1.knows
  go_wp2_with fail
  (with_reducible refine (in_any (base := true) a ha _).mono ?_)
  rintro e w2 ⟨rfl, h2⟩
  clear k1_c k1_f k1_m k1_n
  have o2 : w.heap.size < w1.heap.size := by first | exact k1_l | omega
  replace hF0 := ((hF0.alloc _).after h2)
  have bwsz := Below.size bw
  replace bw := below_call h2 (w := w) (by first | exact (Below.alloc bw (Below.size bw) _) | go_grown)
  clear h2 bwsz k1_l
  clear k1
  go_wp2_with fail
  (with_reducible refine (fmul_yes (hF0.alloc _) (frdN true a) (frdN true a) (frdN_lt true a) (frdN_lt true a)).mono ?_)
  rintro e w3 ⟨rfl, h3⟩
  replace hF0 := ((hF0.alloc _).after h3)
  have k3 := ((Blk.newAt (n := w2.heap.size) _ _ _ (by first | rfl | simp)).after h3)
  have bwsz := Below.size bw
  replace bw := below_call h3 (w := w) (by first | exact (Below.alloc bw (Below.size bw) _) | go_grown)
  clear h3 bwsz
  obtain ⟨k3_c, k3_f, k3_l, k3_m, k3_n⟩ := k3.knows
  go_wp2_with fail
  (with_reducible refine (fsqrt_yes (hF0.alloc _) (fmlN true (frdN true a) (frdN true a)) (fmlN_lt true (frdN true a) (frdN true a)) (root_square _ (frdN_lt _ _))).mono ?_)
  rintro e w4 ⟨rfl, h4⟩
  clear k3_c k3_f k3_m k3_n
  have o4 : w2.heap.size < w3.heap.size := by first | exact k3_l | omega
  replace hF0 := ((hF0.alloc _).after h4)
  replace k3 := ((k3.alloc _).after h4)
  have k4 := ((Blk.newAt (n := w3.heap.size) _ _ _ (by first | rfl | simp)).after h4)
  have bwsz := Below.size bw
  replace bw := below_call h4 (w := w) (by first | exact (Below.alloc bw (Below.size bw) _) | go_grown)
  clear h4 bwsz k3_l
  obtain ⟨k3_c, k3_f, k3_l, k3_m, k3_n⟩ := k3.knows
  obtain ⟨k4_c, k4_f, k4_l, k4_m, k4_n⟩ := k4.knows
  go_wp2_with fail
  (with_reducible refine (fmul_yes (hF0.alloc _) (evN true (fpwN true (fmlN true (frdN true a) (frdN true a)) (rtN true))) (evN true (fpwN true (fmlN true (frdN true a) (frdN true a)) (rtN true))) (evN_lt true (fpwN true (fmlN true (frdN true a) (frdN true a)) (rtN true)) (fpwN_lt true (fmlN true (frdN true a) (frdN true a)) (rtN true))) (evN_lt true (fpwN true (fmlN true (frdN true a) (frdN true a)) (rtN true)) (fpwN_lt true (fmlN true (frdN true a) (frdN true a)) (rtN true)))).mono ?_)
  rintro e w5 ⟨rfl, h5⟩
  clear k3_c k3_f k3_m k3_n k4_c k4_f k4_m k4_n
  have o5 : w3.heap.size < w4.heap.size := by first | exact k4_l | omega
  replace hF0 := ((hF0.alloc _).after h5)
  replace k3 := ((k3.alloc _).after h5)
  replace k4 := ((k4.alloc _).after h5)
  have k5 := ((Blk.newAt (n := w4.heap.size) _ _ _ (by first | rfl | simp)).after h5)
  have bwsz := Below.size bw
  replace bw := below_call h5 (w := w) (by first | exact (Below.alloc bw (Below.size bw) _) | go_grown)
  clear h5 bwsz k3_l k4_l
  obtain ⟨k3_c, k3_f, k3_l, k3_m, k3_n⟩ := k3.knows
  obtain ⟨k4_c, k4_f, k4_l, k4_m, k4_n⟩ := k4.knows
  obtain ⟨k5_c, k5_f, k5_l, k5_m, k5_n⟩ := k5.knows
  go_wp2_with fail
  (with_reducible refine (fneg_yes (hF0.alloc _) (frdN true a) (frdN_lt true a)).mono ?_)
  rintro e w6 ⟨rfl, h6⟩
  clear k3_c k3_f k3_m k3_n k4_c k4_f k4_m k4_n k5_c k5_f k5_m k5_n
  have o6 : w4.heap.size < w5.heap.size := by first | exact k5_l | omega
  replace hF0 := ((hF0.alloc _).after h6)
  replace k3 := ((k3.alloc _).after h6)
  replace k4 := ((k4.alloc _).after h6)
  replace k5 := ((k5.alloc _).after h6)
  have k6 := ((Blk.newAt (n := w5.heap.size) _ _ _ (by first | rfl | simp)).after h6)
  have bwsz := Below.size bw
  replace bw := below_call h6 (w := w) (by first | exact (Below.alloc bw (Below.size bw) _) | go_grown)
  clear h6 bwsz k3_l k4_l k5_l
  obtain ⟨k3_c, k3_f, k3_l, k3_m, k3_n⟩ := k3.knows
  obtain ⟨k4_c, k4_f, k4_l, k4_m, k4_n⟩ := k4.knows
  obtain ⟨k5_c, k5_f, k5_l, k5_m, k5_n⟩ := k5.knows
  obtain ⟨k6_c, k6_f, k6_l, k6_m, k6_n⟩ := k6.knows
  go_wp2_with fail
  (with_reducible refine (fsqrt_yes (hF0.alloc _) (frdN true a) (frdN_lt true a) h1_.out).mono ?_)
  rintro e w7 ⟨rfl, h7⟩
  clear k3_c k3_f k3_m k3_n k4_c k4_f k4_m k4_n k5_c k5_f k5_m k5_n k6_c k6_f k6_m k6_n
  have o7 : w5.heap.size < w6.heap.size := by first | exact k6_l | omega
  replace hF0 := ((hF0.alloc _).after h7)
  replace k3 := ((k3.alloc _).after h7)
  have k7 := ((Blk.newAt (n := w6.heap.size) _ _ _ (by first | rfl | simp)).after h7)
  have bwsz := Below.size bw
  replace bw := below_call h7 (w := w) (by first | exact (Below.alloc bw (Below.size bw) _) | go_grown)
  clear h7 bwsz k3_l k4_l k5_l k6_l
  clear k4 k5 k6
  obtain ⟨k3_c, k3_f, k3_l, k3_m, k3_n⟩ := k3.knows
  obtain ⟨k7_c, k7_f, k7_l, k7_m, k7_n⟩ := k7.knows
  go_wp2_with fail
  (with_reducible refine (fsqrt_bad (hF0.alloc _) (fsbN true 0 (frdN true a)) (fsbN_lt true 0 (frdN true a)) h2).mono ?_)
  rintro e w8 ⟨rfl, h8⟩
  clear k3_c k3_f k3_m k3_n k7_c k7_f k7_m k7_n
  have o8 : w6.heap.size < w7.heap.size := by first | exact k7_l | omega
  replace hF0 := ((hF0.alloc _).after h8)
  replace k3 := ((k3.alloc _).after h8)
  have bwsz := Below.size bw
  replace bw := below_call h8 (w := w) (by first | exact (Below.alloc bw (Below.size bw) _) | go_grown)
  clear h8 bwsz k3_l k7_l
  clear k7
  obtain ⟨k3_c, k3_f, k3_l, k3_m, k3_n⟩ := k3.knows
  go_wp2_with fail
  (with_reducible refine (half_any _).mono ?_)
  rintro e w9 ⟨rfl, h9⟩
  clear k3_c k3_f k3_m k3_n
  have o9 : w2.heap.size < w8.heap.size := by first | exact k3_l | omega
  replace hF0 := ((hF0.alloc _).after h9)
  have bwsz := Below.size bw
  replace bw := below_call h9 (w := w) (by first | exact (Below.alloc bw (Below.size bw) _) | go_grown)
  clear h9 bwsz k3_l
  clear k3
  go_wp2
  go_ret
  exact ⟨rfl, (by first | exact bw | go_grown)⟩
set_option maxRecDepth 20000 in
set_option maxHeartbeats 2000000 in
theorem roots_n_no (a : Nat) (ha : a < RR) (hr : evN true (fpwN true (fmlN true (frdN true a) (frdN true a)) (rtN true)) ≠ frdN true a) (hs : evN true (fpwN true (fmlN true (frdN true a) (frdN true a)) (rtN true)) = fsbN true 0 (frdN true a)) (h0 : frdN true a ≠ 0) (h1 : fmlN true (fpwN true (frdN true a) (rtN true)) (fpwN true (frdN true a) (rtN true)) ≠ frdN true a) (h2 : fmlN true (fpwN true (fsbN true 0 (frdN true a)) (rtN true)) (fpwN true (fsbN true 0 (frdN true a)) (rtN true)) = fsbN true 0 (frdN true a)) (w : World) : Calls Try.prog 4 #[num a] w fun e w' => e = .returned (.bool true) ∧ Below w.heap.size w w' := by
  have h2_ := Lib.hid h2; clear h2
  have hs_ := Lib.hid hs; clear hs
  have hev : (lb (evN true (fpwN true (fmlN true (frdN true a) (frdN true a)) (rtN true))) 0 % 2 == 0) = true := by rw [ev_even _ (fpwN_lt _ _ _)]; rfl
  have hev2 : (lb (evN true (fpwN true (fmlN true (frdN true a) (frdN true a)) (rtN true))) 0 % 2 != 0) = false := by rw [ev_even _ (fpwN_lt _ _ _)]; rfl
  have hev0 := lb_lo (evN true (fpwN true (fmlN true (frdN true a) (frdN true a)) (rtN true))) 0
  have hev1 := lb_hi (evN true (fpwN true (fmlN true (frdN true a) (frdN true a)) (rtN true))) 0
  have q1 : ∀ w, (Op.equalIn 10000 24 (num (fmlN true (evN true (fpwN true (fmlN true (frdN true a) (frdN true a)) (rtN true))) (evN true (fpwN true (fmlN true (frdN true a) (frdN true a)) (rtN true))))) (num (fmlN true (frdN true a) (frdN true a)))).run Try.prog w = .ok true w := by intro w; exact eqin_eq (root_again _ (frdN_lt _ _)) _
  have q2 : ∀ w, (Op.equalIn 10000 24 (num (evN true (fpwN true (fmlN true (frdN true a) (frdN true a)) (rtN true)))) (num (frdN true a))).run Try.prog w = .ok false w := by intro w; exact eqin_other (lt_RR (evN_lt true (fpwN true (fmlN true (frdN true a) (frdN true a)) (rtN true)) (fpwN_lt true (fmlN true (frdN true a) (frdN true a)) (rtN true)))) (lt_RR (frdN_lt true a)) hr _
  have q3 : ∀ w, (Op.equalIn 10000 24 (num (evN true (fpwN true (fmlN true (frdN true a) (frdN true a)) (rtN true)))) (num (fsbN true 0 (frdN true a)))).run Try.prog w = .ok true w := by intro w; exact eqin_eq hs_.out _
  have q4 : ∀ w, (Op.equalIn 10000 24 (num (frdN true a)) (zeroV)).run Try.prog w = .ok false w := by intro w; rw [← num_zero]; exact eqin_other (lt_RR (frdN_lt true a)) RR_zero h0 _
  go_enter Try.func4, Try.ntmps4
  go_wp2_with fail
  (with_reducible refine (of_any true _).mono ?_)
  rintro e w1 ⟨f0, g0, rfl, hF0, h1⟩
  have k1 := ((Blk.newAt (n := w.heap.size) _ _ _ (by first | rfl | simp)).after h1)
  have bw := below_call h1 (w := w) (by first | exact (Below.alloc (Below.refl _ _) (Below.size (Below.refl _ _)) _) | go_grown)
  clear h1
  obtain ⟨k1_c, k1_f, k1_l, k1_m, k1_n⟩ := k1.knows
  go_wp2_with fail
  (with_reducible refine (in_any (base := true) a ha _).mono ?_)
  rintro e w2 ⟨rfl, h2⟩
  clear k1_c k1_f k1_m k1_n
  have o2 : w.heap.size < w1.heap.size := by first | exact k1_l | omega
  replace hF0 := ((hF0.alloc _).after h2)
  have bwsz := Below.size bw
  replace bw := below_call h2 (w := w) (by first | exact (Below.alloc bw (Below.size bw) _) | go_grown)
  clear h2 bwsz k1_l
  clear k1
  go_wp2_with fail
  (with_reducible refine (fmul_yes (hF0.alloc _) (frdN true a) (frdN true a) (frdN_lt true a) (frdN_lt true a)).mono ?_)
  rintro e w3 ⟨rfl, h3⟩
  replace hF0 := ((hF0.alloc _).after h3)
  have k3 := ((Blk.newAt (n := w2.heap.size) _ _ _ (by first | rfl | simp)).after h3)
  have bwsz := Below.size bw
  replace bw := below_call h3 (w := w) (by first | exact (Below.alloc bw (Below.size bw) _) | go_grown)
  clear h3 bwsz
  obtain ⟨k3_c, k3_f, k3_l, k3_m, k3_n⟩ := k3.knows
  go_wp2_with fail
  (with_reducible refine (fsqrt_yes (hF0.alloc _) (fmlN true (frdN true a) (frdN true a)) (fmlN_lt true (frdN true a) (frdN true a)) (root_square _ (frdN_lt _ _))).mono ?_)
  rintro e w4 ⟨rfl, h4⟩
  clear k3_c k3_f k3_m k3_n
  have o4 : w2.heap.size < w3.heap.size := by first | exact k3_l | omega
  replace hF0 := ((hF0.alloc _).after h4)
  replace k3 := ((k3.alloc _).after h4)
  have k4 := ((Blk.newAt (n := w3.heap.size) _ _ _ (by first | rfl | simp)).after h4)
  have bwsz := Below.size bw
  replace bw := below_call h4 (w := w) (by first | exact (Below.alloc bw (Below.size bw) _) | go_grown)
  clear h4 bwsz k3_l
  obtain ⟨k3_c, k3_f, k3_l, k3_m, k3_n⟩ := k3.knows
  obtain ⟨k4_c, k4_f, k4_l, k4_m, k4_n⟩ := k4.knows
  go_wp2_with fail
  (with_reducible refine (fmul_yes (hF0.alloc _) (evN true (fpwN true (fmlN true (frdN true a) (frdN true a)) (rtN true))) (evN true (fpwN true (fmlN true (frdN true a) (frdN true a)) (rtN true))) (evN_lt true (fpwN true (fmlN true (frdN true a) (frdN true a)) (rtN true)) (fpwN_lt true (fmlN true (frdN true a) (frdN true a)) (rtN true))) (evN_lt true (fpwN true (fmlN true (frdN true a) (frdN true a)) (rtN true)) (fpwN_lt true (fmlN true (frdN true a) (frdN true a)) (rtN true)))).mono ?_)
  rintro e w5 ⟨rfl, h5⟩
  clear k3_c k3_f k3_m k3_n k4_c k4_f k4_m k4_n
  have o5 : w3.heap.size < w4.heap.size := by first | exact k4_l | omega
  replace hF0 := ((hF0.alloc _).after h5)
  replace k3 := ((k3.alloc _).after h5)
  replace k4 := ((k4.alloc _).after h5)
  have k5 := ((Blk.newAt (n := w4.heap.size) _ _ _ (by first | rfl | simp)).after h5)
  have bwsz := Below.size bw
  replace bw := below_call h5 (w := w) (by first | exact (Below.alloc bw (Below.size bw) _) | go_grown)
  clear h5 bwsz k3_l k4_l
  obtain ⟨k3_c, k3_f, k3_l, k3_m, k3_n⟩ := k3.knows
  obtain ⟨k4_c, k4_f, k4_l, k4_m, k4_n⟩ := k4.knows
  obtain ⟨k5_c, k5_f, k5_l, k5_m, k5_n⟩ := k5.knows
  go_wp2_with fail
  (with_reducible refine (fneg_yes (hF0.alloc _) (frdN true a) (frdN_lt true a)).mono ?_)
  rintro e w6 ⟨rfl, h6⟩
  clear k3_c k3_f k3_m k3_n k4_c k4_f k4_m k4_n k5_c k5_f k5_m k5_n
  have o6 : w4.heap.size < w5.heap.size := by first | exact k5_l | omega
  replace hF0 := ((hF0.alloc _).after h6)
  replace k3 := ((k3.alloc _).after h6)
  replace k4 := ((k4.alloc _).after h6)
  replace k5 := ((k5.alloc _).after h6)
  have k6 := ((Blk.newAt (n := w5.heap.size) _ _ _ (by first | rfl | simp)).after h6)
  have bwsz := Below.size bw
  replace bw := below_call h6 (w := w) (by first | exact (Below.alloc bw (Below.size bw) _) | go_grown)
  clear h6 bwsz k3_l k4_l k5_l
  obtain ⟨k3_c, k3_f, k3_l, k3_m, k3_n⟩ := k3.knows
  obtain ⟨k4_c, k4_f, k4_l, k4_m, k4_n⟩ := k4.knows
  obtain ⟨k5_c, k5_f, k5_l, k5_m, k5_n⟩ := k5.knows
  obtain ⟨k6_c, k6_f, k6_l, k6_m, k6_n⟩ := k6.knows
  go_wp2_with fail
  (with_reducible refine (fsqrt_bad (hF0.alloc _) (frdN true a) (frdN_lt true a) h1).mono ?_)
  rintro e w7 ⟨rfl, h7⟩
  clear k3_c k3_f k3_m k3_n k4_c k4_f k4_m k4_n k5_c k5_f k5_m k5_n k6_c k6_f k6_m k6_n
  have o7 : w5.heap.size < w6.heap.size := by first | exact k6_l | omega
  replace hF0 := ((hF0.alloc _).after h7)
  replace k3 := ((k3.alloc _).after h7)
  have k7 := ((Blk.newAt (n := w6.heap.size) _ _ _ (by first | rfl | simp)).after h7)
  have bwsz := Below.size bw
  replace bw := below_call h7 (w := w) (by first | exact (Below.alloc bw (Below.size bw) _) | go_grown)
  clear h7 bwsz k3_l k4_l k5_l k6_l
  clear k4 k5 k6
  obtain ⟨k3_c, k3_f, k3_l, k3_m, k3_n⟩ := k3.knows
  obtain ⟨k7_c, k7_f, k7_l, k7_m, k7_n⟩ := k7.knows
  go_wp2_with fail
  (with_reducible refine (fsqrt_yes (hF0.alloc _) (fsbN true 0 (frdN true a)) (fsbN_lt true 0 (frdN true a)) h2_.out).mono ?_)
  rintro e w8 ⟨rfl, h8⟩
  clear k3_c k3_f k3_m k3_n k7_c k7_f k7_m k7_n
  have o8 : w6.heap.size < w7.heap.size := by first | exact k7_l | omega
  replace hF0 := ((hF0.alloc _).after h8)
  replace k3 := ((k3.alloc _).after h8)
  have bwsz := Below.size bw
  replace bw := below_call h8 (w := w) (by first | exact (Below.alloc bw (Below.size bw) _) | go_grown)
  clear h8 bwsz k3_l k7_l
  clear k7
  obtain ⟨k3_c, k3_f, k3_l, k3_m, k3_n⟩ := k3.knows
  go_wp2_with fail
  (with_reducible refine (half_any _).mono ?_)
  rintro e w9 ⟨rfl, h9⟩
  clear k3_c k3_f k3_m k3_n
  have o9 : w2.heap.size < w8.heap.size := by first | exact k3_l | omega
  replace hF0 := ((hF0.alloc _).after h9)
  have bwsz := Below.size bw
  replace bw := below_call h9 (w := w) (by first | exact (Below.alloc bw (Below.size bw) _) | go_grown)
  clear h9 bwsz k3_l
  clear k3
  go_wp2
  go_ret
  exact ⟨rfl, (by first | exact bw | go_grown)⟩
theorem roots_walk (a : Nat) (ha : a < RR) (w : World) : Calls Try.prog 4 #[num a] w fun e w' => e = .returned (.bool true) ∧ Below w.heap.size w w' := by
  obtain hc | hc | hc := root_cases (frdN true a) (frdN_lt _ _)
  all_goals obtain ⟨h0, h1, h2⟩ := hc
  all_goals by_cases hr : evN true (fpwN true (fmlN true (frdN true a) (frdN true a)) (rtN true)) = frdN true a
  · exact roots_a_zero a ha hr h0 h1 h2 w
  · exact roots_n_zero a ha hr ((root_either _ (frdN_lt _ _)).resolve_left hr) h0 h1 h2 w
  · exact roots_a_yes a ha hr h0 h1 h2 w
  · exact roots_n_yes a ha hr ((root_either _ (frdN_lt _ _)).resolve_left hr) h0 h1 h2 w
  · exact roots_a_no a ha hr h0 h1 h2 w
  · exact roots_n_no a ha hr ((root_either _ (frdN_lt _ _)).resolve_left hr) h0 h1 h2 w
end Go.Proofs.Ytlibfjemdiochaa
