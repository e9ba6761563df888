/- FieldPowers, the walk. -/
import Derived.Test.YtlibfjemdiochaaLF1
import Derived.Test.YtlibfjemdiochaaRG3
namespace Go.Proofs.Ytlibfjemdiochaa
set_option linter.unusedVariables false
set_option linter.unusedSimpArgs false
open Go.RowKit

theorem zero_square : fmlN true (fpwN true 0 (rtN true)) (fpwN true 0 (rtN true)) = 0 := by rw [fpwN_def, rtN_def, Nat.zero_pow (by decide), Nat.zero_mod, fmlN_def, Nat.zero_mul, Nat.zero_mod]
set_option maxRecDepth 20000 in
set_option maxHeartbeats 2000000 in
theorem powers_nox (base : Bool) (a b : Nat) (ha : a < RR) (hb : b < RR) (h : ¬ a < pN base) (w : World) : Calls Try.prog 3 #[.bool base, num a, num b] w fun e w' => e = .returned (.bool true) ∧ Below w.heap.size w w' := by
  have q1 : ∀ w, (Op.equalIn 10000 24 (num 0) (zeroV)).run Try.prog w = .ok true w := by intro w; rw [← num_zero]; exact eqin_same 0 _
  go_enter Try.func3, Try.ntmps3
  go_wp2_with fail
  (with_reducible refine (of_any base _).mono ?_)
  rintro e w1 ⟨f0, g0, rfl, hF0, h1⟩
  have k1 := (((Blk.newAt (n := w.heap.size) _ _ _ (by first | rfl | simp)).alloc _).after h1)
  have k2 := ((Blk.newAt (n := w.heap.size + 1) _ _ _ (by first | rfl | simp)).after h1)
  have bw := below_call h1 (w := w) (by first | exact (below_alloc (Below.alloc (Below.refl _ _) (Below.size (Below.refl _ _)) _) _) | go_grown)
  clear h1
  obtain ⟨k1_c, k1_f, k1_l, k1_m, k1_n⟩ := k1.knows
  obtain ⟨k2_c, k2_f, k2_l, k2_m, k2_n⟩ := k2.knows
  go_wp2_with fail
  (with_reducible refine (fpow_no (hF0.alloc _) a b ha h).mono ?_)
  rintro e w2 ⟨rfl, h2⟩
  clear k1_c k1_f k1_m k1_n k2_c k2_f k2_m k2_n
  have o3 : w.heap.size + 1 < w1.heap.size := by first | exact k2_l | omega
  replace k1 := ((k1.alloc _).after h2)
  replace hF0 := ((hF0.alloc _).after h2)
  have k3 := ((Blk.newAt (n := w1.heap.size) _ _ _ (by first | rfl | simp)).after h2)
  have bwsz := Below.size bw
  replace bw := below_call h2 (w := w) (by first | exact (Below.alloc bw (Below.size bw) _) | go_grown)
  clear h2 bwsz k1_l k2_l
  clear k2
  obtain ⟨k1_c, k1_f, k1_l, k1_m, k1_n⟩ := k1.knows
  obtain ⟨k3_c, k3_f, k3_l, k3_m, k3_n⟩ := k3.knows
  go_wp2_with fail
  (with_reducible refine (finv_no (hF0.alloc _) a ha h).mono ?_)
  rintro e w3 ⟨rfl, h3⟩
  clear k1_c k1_f k1_m k1_n k3_c k3_f k3_m k3_n
  have o4 : w1.heap.size < w2.heap.size := by first | exact k3_l | omega
  replace k1 := ((k1.alloc _).after h3)
  replace hF0 := ((hF0.alloc _).after h3)
  replace k3 := ((k3.alloc _).after h3)
  have k4 := ((Blk.newAt (n := w2.heap.size) _ _ _ (by first | rfl | simp)).after h3)
  have bwsz := Below.size bw
  replace bw := below_call h3 (w := w) (by first | exact (Below.alloc bw (Below.size bw) _) | go_grown)
  clear h3 bwsz k1_l k3_l
  obtain ⟨k1_c, k1_f, k1_l, k1_m, k1_n⟩ := k1.knows
  obtain ⟨k3_c, k3_f, k3_l, k3_m, k3_n⟩ := k3.knows
  obtain ⟨k4_c, k4_f, k4_l, k4_m, k4_n⟩ := k4.knows
  go_wp2_with fail
  (with_reducible refine (rinvert_no a ha h _).mono ?_)
  rintro e w4 ⟨rfl, h4⟩
  clear k1_c k1_f k1_m k1_n k3_c k3_f k3_m k3_n k4_c k4_f k4_m k4_n
  have o5 : w2.heap.size < w3.heap.size := by first | exact k4_l | omega
  replace k1 := ((k1.alloc _).after h4)
  replace hF0 := ((hF0.alloc _).after h4)
  replace k3 := ((k3.alloc _).after h4)
  replace k4 := ((k4.alloc _).after h4)
  have k5 := ((Blk.newAt (n := w3.heap.size) _ _ _ (by first | rfl | simp)).after h4)
  have bwsz := Below.size bw
  replace bw := below_call h4 (w := w) (by first | exact (Below.alloc bw (Below.size bw) _) | go_grown)
  clear h4 bwsz k1_l k3_l k4_l
  obtain ⟨k1_c, k1_f, k1_l, k1_m, k1_n⟩ := k1.knows
  obtain ⟨k3_c, k3_f, k3_l, k3_m, k3_n⟩ := k3.knows
  obtain ⟨k4_c, k4_f, k4_l, k4_m, k4_n⟩ := k4.knows
  obtain ⟨k5_c, k5_f, k5_l, k5_m, k5_n⟩ := k5.knows
  go_wp2_with fail
  (with_reducible refine (fsqrt_no (hF0.alloc _) a ha h).mono ?_)
  rintro e w5 ⟨rfl, h5⟩
  clear k1_c k1_f k1_m k1_n k3_c k3_f k3_m k3_n k4_c k4_f k4_m k4_n k5_c k5_f k5_m k5_n
  have o6 : w3.heap.size < w4.heap.size := by first | exact k5_l | omega
  replace k1 := ((k1.alloc _).after h5)
  replace hF0 := ((hF0.alloc _).after h5)
  replace k3 := ((k3.alloc _).after h5)
  replace k4 := ((k4.alloc _).after h5)
  replace k5 := ((k5.alloc _).after h5)
  have k6 := ((Blk.newAt (n := w4.heap.size) _ _ _ (by first | rfl | simp)).after h5)
  have bwsz := Below.size bw
  replace bw := below_call h5 (w := w) (by first | exact (Below.alloc bw (Below.size bw) _) | go_grown)
  clear h5 bwsz k1_l k3_l k4_l k5_l
  obtain ⟨k1_c, k1_f, k1_l, k1_m, k1_n⟩ := k1.knows
  obtain ⟨k3_c, k3_f, k3_l, k3_m, k3_n⟩ := k3.knows
  obtain ⟨k4_c, k4_f, k4_l, k4_m, k4_n⟩ := k4.knows
  obtain ⟨k5_c, k5_f, k5_l, k5_m, k5_n⟩ := k5.knows
  obtain ⟨k6_c, k6_f, k6_l, k6_m, k6_n⟩ := k6.knows
  go_wp2_with fail
  (with_reducible refine (rsqrt_no a ha h _).mono ?_)
  rintro e w6 ⟨rfl, h6⟩
  clear k1_c k1_f k1_m k1_n k3_c k3_f k3_m k3_n k4_c k4_f k4_m k4_n k5_c k5_f k5_m k5_n k6_c k6_f k6_m k6_n
  have o7 : w4.heap.size < w5.heap.size := by first | exact k6_l | omega
  replace k1 := ((k1.alloc _).after h6)
  replace hF0 := ((hF0.alloc _).after h6)
  replace k3 := ((k3.alloc _).after h6)
  replace k4 := ((k4.alloc _).after h6)
  replace k5 := ((k5.alloc _).after h6)
  replace k6 := ((k6.alloc _).after h6)
  have k7 := ((Blk.newAt (n := w5.heap.size) _ _ _ (by first | rfl | simp)).after h6)
  have bwsz := Below.size bw
  replace bw := below_call h6 (w := w) (by first | exact (Below.alloc bw (Below.size bw) _) | go_grown)
  clear h6 bwsz k1_l k3_l k4_l k5_l k6_l
  obtain ⟨k1_c, k1_f, k1_l, k1_m, k1_n⟩ := k1.knows
  obtain ⟨k3_c, k3_f, k3_l, k3_m, k3_n⟩ := k3.knows
  obtain ⟨k4_c, k4_f, k4_l, k4_m, k4_n⟩ := k4.knows
  obtain ⟨k5_c, k5_f, k5_l, k5_m, k5_n⟩ := k5.knows
  obtain ⟨k6_c, k6_f, k6_l, k6_m, k6_n⟩ := k6.knows
  obtain ⟨k7_c, k7_f, k7_l, k7_m, k7_n⟩ := k7.knows
  go_wp2_with fail
  (with_reducible refine (rhas_no a ha h _).mono ?_)
  rintro e w7 ⟨rfl, h7⟩
  clear k1_c k1_f k1_m k1_n k3_c k3_f k3_m k3_n k4_c k4_f k4_m k4_n k5_c k5_f k5_m k5_n k6_c k6_f k6_m k6_n k7_c k7_f k7_m k7_n
  have o8 : w5.heap.size < w6.heap.size := by first | exact k7_l | omega
  replace hF0 := ((hF0.alloc _).after h7)
  replace k4 := ((k4.alloc _).after h7)
  have bwsz := Below.size bw
  replace bw := below_call h7 (w := w) (by first | exact (Below.alloc bw (Below.size bw) _) | go_grown)
  clear h7 bwsz k1_l k3_l k4_l k5_l k6_l k7_l
  clear k1 k3 k5 k6 k7
  obtain ⟨k4_c, k4_f, k4_l, k4_m, k4_n⟩ := k4.knows
  go_upto_region 9 with (fail)
  clear k4_c k4_f k4_m k4_n
  clear k4_l
  refine wp_region_all [] 23 [(0, 1), (1, 1), (2, 1), (3, 0), (4, 1), (5, 1), (6, 1), (7, 1), (8, 1), (9, 1), (10, 1), (11, 0), (12, 0), (13, 0), (14, 0), (15, 0), (16, 1), (17, 1), (18, 1), (19, 1), (20, 0), (21, 1), (22, 1)] (by kernel_rfl) (by kernel_rfl) ?_
  (refine kind_pure (v := ?_) rfl ?_ ?_; rotate_left; (focus (intro K w' hK; go_simp; exact hK)); refine kinds_put (by (simp only [Act.put, List.setIfInBounds_toArray, List.set_cons_succ, List.set_cons_zero]; try rfl)) ?_)
  (refine kind_pure (v := ?_) rfl ?_ ?_; rotate_left; (focus (intro K w' hK; go_simp; exact hK)); refine kinds_put (by (simp only [Act.put, List.setIfInBounds_toArray, List.set_cons_succ, List.set_cons_zero]; try rfl)) ?_)
  (refine kind_pure (v := ?_) rfl ?_ ?_; rotate_left; (focus (intro K w' hK; go_simp; exact hK)); refine kinds_put (by (simp only [Act.put, List.setIfInBounds_toArray, List.set_cons_succ, List.set_cons_zero]; try rfl)) ?_)
  (refine kind_firm (v := ?_) rfl ?_ ?_; rotate_left; (focus (intro K w' hg hK; have hc1 := (k4.drew.after hg).cell; go_simp; exact hK _ (Grow.refl _))); refine kinds_put (by (simp only [Act.put, List.setIfInBounds_toArray, List.set_cons_succ, List.set_cons_zero]; try rfl)) ?_)
  (refine kind_pure (v := ?_) rfl ?_ ?_; rotate_left; (focus (intro K w' hK; go_simp; exact hK)); refine kinds_put (by (simp only [Act.put, List.setIfInBounds_toArray, List.set_cons_succ, List.set_cons_zero]; try rfl)) ?_)
  (refine kind_pure (v := ?_) rfl ?_ ?_; rotate_left; (focus (intro K w' hK; go_simp; exact hK)); refine kinds_put (by (simp only [Act.put, List.setIfInBounds_toArray, List.set_cons_succ, List.set_cons_zero]; try rfl)) ?_)
  (refine kind_pure (v := ?_) rfl ?_ ?_; rotate_left; (focus (intro K w' hK; go_simp; exact hK)); refine kinds_put (by (simp only [Act.put, List.setIfInBounds_toArray, List.set_cons_succ, List.set_cons_zero]; try rfl)) ?_)
  (refine kind_pure (v := ?_) rfl ?_ ?_; rotate_left; (focus (intro K w' hK; go_simp; exact hK)); refine kinds_put (by (simp only [Act.put, List.setIfInBounds_toArray, List.set_cons_succ, List.set_cons_zero]; try rfl)) ?_)
  (refine kind_pure (v := ?_) rfl ?_ ?_; rotate_left; (focus (intro K w' hK; go_simp; exact hK)); refine kinds_put (by (simp only [Act.put, List.setIfInBounds_toArray, List.set_cons_succ, List.set_cons_zero]; try rfl)) ?_)
  (refine kind_pure (v := ?_) rfl ?_ ?_; rotate_left; (focus (intro K w' hK; go_simp; exact hK)); refine kinds_put (by (simp only [Act.put, List.setIfInBounds_toArray, List.set_cons_succ, List.set_cons_zero]; try rfl)) ?_)
  (refine kind_pure (v := ?_) rfl ?_ ?_; rotate_left; (focus (intro K w' hK; go_simp; exact hK)); refine kinds_put (by (simp only [Act.put, List.setIfInBounds_toArray, List.set_cons_succ, List.set_cons_zero]; try rfl)) ?_)
  (refine kind_firm (v := ?_) rfl ?_ ?_; rotate_left; (focus (intro K w' hg hK; go_simp; exact hK _ (Grow.refl _))); refine kinds_put (by (simp only [Act.put, List.setIfInBounds_toArray, List.set_cons_succ, List.set_cons_zero]; try rfl)) ?_)
  (refine kind_firm (v := ?_) rfl ?_ ?_; rotate_left; (focus (intro K w' hg hK; go_simp; exact hK _ (Grow.refl _))); refine kinds_put (by (simp only [Act.put, List.setIfInBounds_toArray, List.set_cons_succ, List.set_cons_zero]; try rfl)) ?_)
  (refine kind_firm (v := ?_) rfl ?_ ?_; rotate_left; (focus (intro K w' hg hK; go_simp; exact hK _ (Grow.refl _))); refine kinds_put (by (simp only [Act.put, List.setIfInBounds_toArray, List.set_cons_succ, List.set_cons_zero]; try rfl)) ?_)
  (refine kind_firm (v := ?_) rfl ?_ ?_; rotate_left; (focus (intro K w' hg hK; go_simp; exact hK _ (Grow.refl _))); refine kinds_put (by (simp only [Act.put, List.setIfInBounds_toArray, List.set_cons_succ, List.set_cons_zero]; try rfl)) ?_)
  (refine kind_firm (v := ?_) rfl ?_ ?_; rotate_left; (focus (intro K w' hg hK; go_simp; exact hK _ (Grow.refl _))); refine kinds_put (by (simp only [Act.put, List.setIfInBounds_toArray, List.set_cons_succ, List.set_cons_zero]; try rfl)) ?_)
  (refine kind_pure (v := ?_) rfl ?_ ?_; rotate_left; (focus (intro K w' hK; go_simp; exact hK)); refine kinds_put (by (simp only [Act.put, List.setIfInBounds_toArray, List.set_cons_succ, List.set_cons_zero]; try rfl)) ?_)
  (refine kind_pure (v := ?_) rfl ?_ ?_; rotate_left; (focus (intro K w' hK; go_simp; exact hK)); refine kinds_put (by (simp only [Act.put, List.setIfInBounds_toArray, List.set_cons_succ, List.set_cons_zero]; try rfl)) ?_)
  (refine kind_pure (v := ?_) rfl ?_ ?_; rotate_left; (focus (intro K w' hK; go_simp; exact hK)); refine kinds_put (by (simp only [Act.put, List.setIfInBounds_toArray, List.set_cons_succ, List.set_cons_zero]; try rfl)) ?_)
  (refine kind_pure (v := ?_) rfl ?_ ?_; rotate_left; (focus (intro K w' hK; go_simp; exact hK)); refine kinds_put (by (simp only [Act.put, List.setIfInBounds_toArray, List.set_cons_succ, List.set_cons_zero]; try rfl)) ?_)
  (refine kind_firm (v := ?_) rfl ?_ ?_; rotate_left; (focus (intro K w' hg hK; go_simp; refine Calls.mono (half_any _) ?_; rintro e w'' ⟨rfl, hb⟩; refine ⟨_, rfl, ?_⟩; exact hK _ hb)); refine kinds_put (by (simp only [Act.put, List.setIfInBounds_toArray, List.set_cons_succ, List.set_cons_zero]; try rfl)) ?_)
  (refine kind_pure (v := ?_) rfl ?_ ?_; rotate_left; (focus (intro K w' hK; go_simp; exact hK)); refine kinds_put (by (simp only [Act.put, List.setIfInBounds_toArray, List.set_cons_succ, List.set_cons_zero]; try rfl)) ?_)
  (refine kind_pure (v := ?_) rfl ?_ ?_; rotate_left; (focus (intro K w' hK; go_simp; exact hK)); refine kinds_put (by (simp only [Act.put, List.setIfInBounds_toArray, List.set_cons_succ, List.set_cons_zero]; try rfl)) ?_)
  refine kind_end ?_
  intro w8 h8
  replace hF0 := (hF0.drew.after h8)
  have bwsz := Below.size bw
  replace bw := below_call h8 (w := w) (by first | exact (Below.drew bw) | go_grown)
  clear h8 bwsz
  clear k4
  go_wp2
  go_ret
  exact ⟨rfl, (by first | exact bw | go_grown)⟩
set_option maxRecDepth 20000 in
set_option maxHeartbeats 2000000 in
theorem powers_zero_true (b : Nat) (hb : b < RR) (w : World) : Calls Try.prog 3 #[.bool true, num 0, num b] w fun e w' => e = .returned (.bool true) ∧ Below w.heap.size w w' := by
  have q1 : ∀ w, (Op.equalIn 10000 24 (num 0) (zeroV)).run Try.prog w = .ok true w := by intro w; rw [← num_zero]; exact eqin_same 0 _
  have q2 : ∀ w, (Op.equalIn 10000 24 (num (evN true (fpwN true 0 (rtN true)))) (num (evN true (fpwN true 0 (rtN true))))).run Try.prog w = .ok true w := by intro w; exact eqin_same (evN true (fpwN true 0 (rtN true))) _
  have q3 : ∀ w, (Op.equalIn 10000 24 (num (fpwN true 0 b)) (num (fpwN true 0 b))).run Try.prog w = .ok true w := by intro w; exact eqin_same (fpwN true 0 b) _
  go_enter Try.func3, Try.ntmps3
  go_wp2_with fail
  (with_reducible refine (of_any true _).mono ?_)
  rintro e w1 ⟨f0, g0, rfl, hF0, h1⟩
  have k1 := (((Blk.newAt (n := w.heap.size) _ _ _ (by first | rfl | simp)).alloc _).after h1)
  have k2 := ((Blk.newAt (n := w.heap.size + 1) _ _ _ (by first | rfl | simp)).after h1)
  have bw := below_call h1 (w := w) (by first | exact (below_alloc (Below.alloc (Below.refl _ _) (Below.size (Below.refl _ _)) _) _) | go_grown)
  clear h1
  obtain ⟨k1_c, k1_f, k1_l, k1_m, k1_n⟩ := k1.knows
  obtain ⟨k2_c, k2_f, k2_l, k2_m, k2_n⟩ := k2.knows
  go_wp2_with fail
  (with_reducible refine (fpow_yes (hF0.alloc _) 0 b hb (pN_pos true)).mono ?_)
  rintro e w2 ⟨rfl, h2⟩
  clear k1_c k1_f k1_m k1_n k2_c k2_f k2_m k2_n
  have o3 : w.heap.size + 1 < w1.heap.size := by first | exact k2_l | omega
  replace k1 := ((k1.alloc _).after h2)
  replace k2 := ((k2.alloc _).after h2)
  replace hF0 := ((hF0.alloc _).after h2)
  have k3 := ((Blk.newAt (n := w1.heap.size) _ _ _ (by first | rfl | simp)).after h2)
  have bwsz := Below.size bw
  replace bw := below_call h2 (w := w) (by first | exact (Below.alloc bw (Below.size bw) _) | go_grown)
  clear h2 bwsz k1_l k2_l
  obtain ⟨k1_c, k1_f, k1_l, k1_m, k1_n⟩ := k1.knows
  obtain ⟨k2_c, k2_f, k2_l, k2_m, k2_n⟩ := k2.knows
  obtain ⟨k3_c, k3_f, k3_l, k3_m, k3_n⟩ := k3.knows
  go_wp2_with fail
  (with_reducible refine (finv_zero (hF0.alloc _)).mono ?_)
  rintro e w3 ⟨rfl, h3⟩
  clear k1_c k1_f k1_m k1_n k2_c k2_f k2_m k2_n k3_c k3_f k3_m k3_n
  have o4 : w1.heap.size < w2.heap.size := by first | exact k3_l | omega
  replace k1 := ((k1.alloc _).after h3)
  replace k2 := ((k2.alloc _).after h3)
  replace hF0 := ((hF0.alloc _).after h3)
  replace k3 := ((k3.alloc _).after h3)
  have k4 := ((Blk.newAt (n := w2.heap.size) _ _ _ (by first | rfl | simp)).after h3)
  have bwsz := Below.size bw
  replace bw := below_call h3 (w := w) (by first | exact (Below.alloc bw (Below.size bw) _) | go_grown)
  clear h3 bwsz k1_l k2_l k3_l
  obtain ⟨k1_c, k1_f, k1_l, k1_m, k1_n⟩ := k1.knows
  obtain ⟨k2_c, k2_f, k2_l, k2_m, k2_n⟩ := k2.knows
  obtain ⟨k3_c, k3_f, k3_l, k3_m, k3_n⟩ := k3.knows
  obtain ⟨k4_c, k4_f, k4_l, k4_m, k4_n⟩ := k4.knows
  go_wp2_with fail
  (with_reducible refine (rinvert_zero _).mono ?_)
  rintro e w4 ⟨rfl, h4⟩
  clear k1_c k1_f k1_m k1_n k2_c k2_f k2_m k2_n k3_c k3_f k3_m k3_n k4_c k4_f k4_m k4_n
  have o5 : w2.heap.size < w3.heap.size := by first | exact k4_l | omega
  replace k1 := ((k1.alloc _).after h4)
  replace k2 := ((k2.alloc _).after h4)
  replace hF0 := ((hF0.alloc _).after h4)
  replace k3 := ((k3.alloc _).after h4)
  replace k4 := ((k4.alloc _).after h4)
  have k5 := ((Blk.newAt (n := w3.heap.size) _ _ _ (by first | rfl | simp)).after h4)
  have bwsz := Below.size bw
  replace bw := below_call h4 (w := w) (by first | exact (Below.alloc bw (Below.size bw) _) | go_grown)
  clear h4 bwsz k1_l k2_l k3_l k4_l
  obtain ⟨k1_c, k1_f, k1_l, k1_m, k1_n⟩ := k1.knows
  obtain ⟨k2_c, k2_f, k2_l, k2_m, k2_n⟩ := k2.knows
  obtain ⟨k3_c, k3_f, k3_l, k3_m, k3_n⟩ := k3.knows
  obtain ⟨k4_c, k4_f, k4_l, k4_m, k4_n⟩ := k4.knows
  obtain ⟨k5_c, k5_f, k5_l, k5_m, k5_n⟩ := k5.knows
  go_wp2_with fail
  (with_reducible refine (fsqrt_yes (hF0.alloc _) 0 (pN_pos true) (zero_square)).mono ?_)
  rintro e w5 ⟨rfl, h5⟩
  clear k1_c k1_f k1_m k1_n k2_c k2_f k2_m k2_n k3_c k3_f k3_m k3_n k4_c k4_f k4_m k4_n k5_c k5_f k5_m k5_n
  have o6 : w3.heap.size < w4.heap.size := by first | exact k5_l | omega
  replace k1 := ((k1.alloc _).after h5)
  replace k2 := ((k2.alloc _).after h5)
  replace hF0 := ((hF0.alloc _).after h5)
  replace k3 := ((k3.alloc _).after h5)
  replace k4 := ((k4.alloc _).after h5)
  replace k5 := ((k5.alloc _).after h5)
  have k6 := ((Blk.newAt (n := w4.heap.size) _ _ _ (by first | rfl | simp)).after h5)
  have bwsz := Below.size bw
  replace bw := below_call h5 (w := w) (by first | exact (Below.alloc bw (Below.size bw) _) | go_grown)
  clear h5 bwsz k1_l k2_l k3_l k4_l k5_l
  obtain ⟨k1_c, k1_f, k1_l, k1_m, k1_n⟩ := k1.knows
  obtain ⟨k2_c, k2_f, k2_l, k2_m, k2_n⟩ := k2.knows
  obtain ⟨k3_c, k3_f, k3_l, k3_m, k3_n⟩ := k3.knows
  obtain ⟨k4_c, k4_f, k4_l, k4_m, k4_n⟩ := k4.knows
  obtain ⟨k5_c, k5_f, k5_l, k5_m, k5_n⟩ := k5.knows
  obtain ⟨k6_c, k6_f, k6_l, k6_m, k6_n⟩ := k6.knows
  go_wp2_with fail
  (with_reducible refine (rsqrt_yes 0 (pN_pos true) (zero_square) _).mono ?_)
  rintro e w6 ⟨rfl, h6⟩
  clear k1_c k1_f k1_m k1_n k2_c k2_f k2_m k2_n k3_c k3_f k3_m k3_n k4_c k4_f k4_m k4_n k5_c k5_f k5_m k5_n k6_c k6_f k6_m k6_n
  have o7 : w4.heap.size < w5.heap.size := by first | exact k6_l | omega
  replace k1 := ((k1.alloc _).after h6)
  replace k2 := ((k2.alloc _).after h6)
  replace hF0 := ((hF0.alloc _).after h6)
  replace k3 := ((k3.alloc _).after h6)
  replace k4 := ((k4.alloc _).after h6)
  replace k5 := ((k5.alloc _).after h6)
  replace k6 := ((k6.alloc _).after h6)
  have k7 := ((Blk.newAt (n := w5.heap.size) _ _ _ (by first | rfl | simp)).after h6)
  have bwsz := Below.size bw
  replace bw := below_call h6 (w := w) (by first | exact (Below.alloc bw (Below.size bw) _) | go_grown)
  clear h6 bwsz k1_l k2_l k3_l k4_l k5_l k6_l
  obtain ⟨k1_c, k1_f, k1_l, k1_m, k1_n⟩ := k1.knows
  obtain ⟨k2_c, k2_f, k2_l, k2_m, k2_n⟩ := k2.knows
  obtain ⟨k3_c, k3_f, k3_l, k3_m, k3_n⟩ := k3.knows
  obtain ⟨k4_c, k4_f, k4_l, k4_m, k4_n⟩ := k4.knows
  obtain ⟨k5_c, k5_f, k5_l, k5_m, k5_n⟩ := k5.knows
  obtain ⟨k6_c, k6_f, k6_l, k6_m, k6_n⟩ := k6.knows
  obtain ⟨k7_c, k7_f, k7_l, k7_m, k7_n⟩ := k7.knows
  go_wp2_with fail
  (with_reducible refine (rhas_yes 0 (pN_pos true) _).mono ?_)
  rintro e w7 ⟨rfl, h7⟩
  clear k1_c k1_f k1_m k1_n k2_c k2_f k2_m k2_n k3_c k3_f k3_m k3_n k4_c k4_f k4_m k4_n k5_c k5_f k5_m k5_n k6_c k6_f k6_m k6_n k7_c k7_f k7_m k7_n
  have o8 : w5.heap.size < w6.heap.size := by first | exact k7_l | omega
  replace k1 := ((k1.alloc _).after h7)
  replace k2 := ((k2.alloc _).after h7)
  replace hF0 := ((hF0.alloc _).after h7)
  replace k3 := ((k3.alloc _).after h7)
  replace k4 := ((k4.alloc _).after h7)
  have bwsz := Below.size bw
  replace bw := below_call h7 (w := w) (by first | exact (Below.alloc bw (Below.size bw) _) | go_grown)
  clear h7 bwsz k1_l k2_l k3_l k4_l k5_l k6_l k7_l
  clear k5 k6 k7
  obtain ⟨k1_c, k1_f, k1_l, k1_m, k1_n⟩ := k1.knows
  obtain ⟨k2_c, k2_f, k2_l, k2_m, k2_n⟩ := k2.knows
  obtain ⟨k3_c, k3_f, k3_l, k3_m, k3_n⟩ := k3.knows
  obtain ⟨k4_c, k4_f, k4_l, k4_m, k4_n⟩ := k4.knows
  go_upto_region 9 with (fail)
  clear k1_c k1_f k1_m k1_n k2_c k2_f k2_m k2_n k3_c k3_f k3_m k3_n k4_c k4_f k4_m k4_n
  clear k1_l k2_l k3_l k4_l
  refine wp_region_all [] 23 [(0, 1), (1, 1), (2, 1), (3, 0), (4, 1), (5, 1), (6, 1), (7, 1), (8, 1), (9, 1), (10, 1), (11, 0), (12, 0), (13, 0), (14, 0), (15, 0), (16, 1), (17, 1), (18, 1), (19, 1), (20, 0), (21, 1), (22, 1)] (by kernel_rfl) (by kernel_rfl) ?_
  (refine kind_pure (v := ?_) rfl ?_ ?_; rotate_left; (focus (intro K w' hK; go_simp; exact hK)); refine kinds_put (by (simp only [Act.put, List.setIfInBounds_toArray, List.set_cons_succ, List.set_cons_zero]; try rfl)) ?_)
  (refine kind_pure (v := ?_) rfl ?_ ?_; rotate_left; (focus (intro K w' hK; go_simp; exact hK)); refine kinds_put (by (simp only [Act.put, List.setIfInBounds_toArray, List.set_cons_succ, List.set_cons_zero]; try rfl)) ?_)
  (refine kind_pure (v := ?_) rfl ?_ ?_; rotate_left; (focus (intro K w' hK; go_simp; exact hK)); refine kinds_put (by (simp only [Act.put, List.setIfInBounds_toArray, List.set_cons_succ, List.set_cons_zero]; try rfl)) ?_)
  (refine kind_firm (v := ?_) rfl ?_ ?_; rotate_left; (focus (intro K w' hg hK; go_simp; exact hK _ (Grow.refl _))); refine kinds_put (by (simp only [Act.put, List.setIfInBounds_toArray, List.set_cons_succ, List.set_cons_zero]; try rfl)) ?_)
  (refine kind_pure (v := ?_) rfl ?_ ?_; rotate_left; (focus (intro K w' hK; go_simp; exact hK)); refine kinds_put (by (simp only [Act.put, List.setIfInBounds_toArray, List.set_cons_succ, List.set_cons_zero]; try rfl)) ?_)
  (refine kind_pure (v := ?_) rfl ?_ ?_; rotate_left; (focus (intro K w' hK; go_simp; exact hK)); refine kinds_put (by (simp only [Act.put, List.setIfInBounds_toArray, List.set_cons_succ, List.set_cons_zero]; try rfl)) ?_)
  (refine kind_pure (v := ?_) rfl ?_ ?_; rotate_left; (focus (intro K w' hK; go_simp; exact hK)); refine kinds_put (by (simp only [Act.put, List.setIfInBounds_toArray, List.set_cons_succ, List.set_cons_zero]; try rfl)) ?_)
  (refine kind_pure (v := ?_) rfl ?_ ?_; rotate_left; (focus (intro K w' hK; go_simp; exact hK)); refine kinds_put (by (simp only [Act.put, List.setIfInBounds_toArray, List.set_cons_succ, List.set_cons_zero]; try rfl)) ?_)
  (refine kind_pure (v := ?_) rfl ?_ ?_; rotate_left; (focus (intro K w' hK; go_simp; exact hK)); refine kinds_put (by (simp only [Act.put, List.setIfInBounds_toArray, List.set_cons_succ, List.set_cons_zero]; try rfl)) ?_)
  (refine kind_pure (v := ?_) rfl ?_ ?_; rotate_left; (focus (intro K w' hK; go_simp; exact hK)); refine kinds_put (by (simp only [Act.put, List.setIfInBounds_toArray, List.set_cons_succ, List.set_cons_zero]; try rfl)) ?_)
  (refine kind_pure (v := ?_) rfl ?_ ?_; rotate_left; (focus (intro K w' hK; go_simp; exact hK)); refine kinds_put (by (simp only [Act.put, List.setIfInBounds_toArray, List.set_cons_succ, List.set_cons_zero]; try rfl)) ?_)
  (refine kind_firm (v := ?_) rfl ?_ ?_; rotate_left; (focus (intro K w' hg hK; have hc1 := (k4.drew.after hg).cell; go_simp; exact hK _ (Grow.refl _))); refine kinds_put (by (simp only [Act.put, List.setIfInBounds_toArray, List.set_cons_succ, List.set_cons_zero]; try rfl)) ?_)
  (refine kind_firm (v := ?_) rfl ?_ ?_; rotate_left; (focus (intro K w' hg hK; have hc1 := (k3.drew.after hg).cell; go_simp; exact hK _ (Grow.refl _))); refine kinds_put (by (simp only [Act.put, List.setIfInBounds_toArray, List.set_cons_succ, List.set_cons_zero]; try rfl)) ?_)
  (refine kind_firm (v := ?_) rfl ?_ ?_; rotate_left; (focus (intro K w' hg hK; have hc1 := (k1.drew.after hg).cell; go_simp; exact hK _ (Grow.refl _))); refine kinds_put (by (simp only [Act.put, List.setIfInBounds_toArray, List.set_cons_succ, List.set_cons_zero]; try rfl)) ?_)
  (refine kind_firm (v := ?_) rfl ?_ ?_; rotate_left; (focus (intro K w' hg hK; have hc1 := (k2.drew.after hg).cell; go_simp; exact hK _ (Grow.refl _))); refine kinds_put (by (simp only [Act.put, List.setIfInBounds_toArray, List.set_cons_succ, List.set_cons_zero]; try rfl)) ?_)
  (refine kind_firm (v := ?_) rfl ?_ ?_; rotate_left; (focus (intro K w' hg hK; go_simp; refine Calls.mono (rpow 0 b RR_zero hb _) ?_; rintro e w'' ⟨rfl, hb⟩; refine ⟨_, rfl, ?_⟩; exact hK _ hb)); refine kinds_put (by (simp only [Act.put, List.setIfInBounds_toArray, List.set_cons_succ, List.set_cons_zero]; try rfl)) ?_)
  (refine kind_pure (v := ?_) rfl ?_ ?_; rotate_left; (focus (intro K w' hK; go_simp; exact hK)); refine kinds_put (by (simp only [Act.put, List.setIfInBounds_toArray, List.set_cons_succ, List.set_cons_zero]; try rfl)) ?_)
  (refine kind_pure (v := ?_) rfl ?_ ?_; rotate_left; (focus (intro K w' hK; go_simp; exact hK)); refine kinds_put (by (simp only [Act.put, List.setIfInBounds_toArray, List.set_cons_succ, List.set_cons_zero]; try rfl)) ?_)
  (refine kind_pure (v := ?_) rfl ?_ ?_; rotate_left; (focus (intro K w' hK; go_simp; exact hK)); refine kinds_put (by (simp only [Act.put, List.setIfInBounds_toArray, List.set_cons_succ, List.set_cons_zero]; try rfl)) ?_)
  (refine kind_pure (v := ?_) rfl ?_ ?_; rotate_left; (focus (intro K w' hK; go_simp; exact hK)); refine kinds_put (by (simp only [Act.put, List.setIfInBounds_toArray, List.set_cons_succ, List.set_cons_zero]; try rfl)) ?_)
  (refine kind_firm (v := ?_) rfl ?_ ?_; rotate_left; (focus (intro K w' hg hK; go_simp; refine Calls.mono (half_any _) ?_; rintro e w'' ⟨rfl, hb⟩; refine ⟨_, rfl, ?_⟩; exact hK _ hb)); refine kinds_put (by (simp only [Act.put, List.setIfInBounds_toArray, List.set_cons_succ, List.set_cons_zero]; try rfl)) ?_)
  (refine kind_pure (v := ?_) rfl ?_ ?_; rotate_left; (focus (intro K w' hK; go_simp; exact hK)); refine kinds_put (by (simp only [Act.put, List.setIfInBounds_toArray, List.set_cons_succ, List.set_cons_zero]; try rfl)) ?_)
  (refine kind_pure (v := ?_) rfl ?_ ?_; rotate_left; (focus (intro K w' hK; go_simp; exact hK)); refine kinds_put (by (simp only [Act.put, List.setIfInBounds_toArray, List.set_cons_succ, List.set_cons_zero]; try rfl)) ?_)
  refine kind_end ?_
  intro w8 h8
  replace hF0 := (hF0.drew.after h8)
  have bwsz := Below.size bw
  replace bw := below_call h8 (w := w) (by first | exact (Below.drew bw) | go_grown)
  clear h8 bwsz
  clear k1 k2 k3 k4
  go_wp2
  go_ret
  exact ⟨rfl, (by first | exact bw | go_grown)⟩
set_option maxRecDepth 20000 in
set_option maxHeartbeats 2000000 in
theorem powers_zero_false (b : Nat) (hb : b < RR) (w : World) : Calls Try.prog 3 #[.bool false, num 0, num b] w fun e w' => e = .returned (.bool true) ∧ Below w.heap.size w w' := by
  have q1 : ∀ w, (Op.equalIn 10000 24 (num 0) (zeroV)).run Try.prog w = .ok true w := by intro w; rw [← num_zero]; exact eqin_same 0 _
  have q2 : ∀ w, (Op.equalIn 10000 24 (num (fpwN false 0 b)) (num (fpwN false 0 b))).run Try.prog w = .ok true w := by intro w; exact eqin_same (fpwN false 0 b) _
  go_enter Try.func3, Try.ntmps3
  go_wp2_with fail
  (with_reducible refine (of_any false _).mono ?_)
  rintro e w1 ⟨f0, g0, rfl, hF0, h1⟩
  have k1 := (((Blk.newAt (n := w.heap.size) _ _ _ (by first | rfl | simp)).alloc _).after h1)
  have k2 := ((Blk.newAt (n := w.heap.size + 1) _ _ _ (by first | rfl | simp)).after h1)
  have bw := below_call h1 (w := w) (by first | exact (below_alloc (Below.alloc (Below.refl _ _) (Below.size (Below.refl _ _)) _) _) | go_grown)
  clear h1
  obtain ⟨k1_c, k1_f, k1_l, k1_m, k1_n⟩ := k1.knows
  obtain ⟨k2_c, k2_f, k2_l, k2_m, k2_n⟩ := k2.knows
  go_wp2_with fail
  (with_reducible refine (fpow_yes (hF0.alloc _) 0 b hb (pN_pos false)).mono ?_)
  rintro e w2 ⟨rfl, h2⟩
  clear k1_c k1_f k1_m k1_n k2_c k2_f k2_m k2_n
  have o3 : w.heap.size + 1 < w1.heap.size := by first | exact k2_l | omega
  replace k1 := ((k1.alloc _).after h2)
  replace k2 := ((k2.alloc _).after h2)
  replace hF0 := ((hF0.alloc _).after h2)
  have k3 := ((Blk.newAt (n := w1.heap.size) _ _ _ (by first | rfl | simp)).after h2)
  have bwsz := Below.size bw
  replace bw := below_call h2 (w := w) (by first | exact (Below.alloc bw (Below.size bw) _) | go_grown)
  clear h2 bwsz k1_l k2_l
  obtain ⟨k1_c, k1_f, k1_l, k1_m, k1_n⟩ := k1.knows
  obtain ⟨k2_c, k2_f, k2_l, k2_m, k2_n⟩ := k2.knows
  obtain ⟨k3_c, k3_f, k3_l, k3_m, k3_n⟩ := k3.knows
  go_wp2_with fail
  (with_reducible refine (finv_zero (hF0.alloc _)).mono ?_)
  rintro e w3 ⟨rfl, h3⟩
  clear k1_c k1_f k1_m k1_n k2_c k2_f k2_m k2_n k3_c k3_f k3_m k3_n
  have o4 : w1.heap.size < w2.heap.size := by first | exact k3_l | omega
  replace k1 := ((k1.alloc _).after h3)
  replace k2 := ((k2.alloc _).after h3)
  replace hF0 := ((hF0.alloc _).after h3)
  replace k3 := ((k3.alloc _).after h3)
  have k4 := ((Blk.newAt (n := w2.heap.size) _ _ _ (by first | rfl | simp)).after h3)
  have bwsz := Below.size bw
  replace bw := below_call h3 (w := w) (by first | exact (Below.alloc bw (Below.size bw) _) | go_grown)
  clear h3 bwsz k1_l k2_l k3_l
  obtain ⟨k1_c, k1_f, k1_l, k1_m, k1_n⟩ := k1.knows
  obtain ⟨k2_c, k2_f, k2_l, k2_m, k2_n⟩ := k2.knows
  obtain ⟨k3_c, k3_f, k3_l, k3_m, k3_n⟩ := k3.knows
  obtain ⟨k4_c, k4_f, k4_l, k4_m, k4_n⟩ := k4.knows
  go_wp2_with fail
  (with_reducible refine (rinvert_zero _).mono ?_)
  rintro e w4 ⟨rfl, h4⟩
  clear k1_c k1_f k1_m k1_n k2_c k2_f k2_m k2_n k3_c k3_f k3_m k3_n k4_c k4_f k4_m k4_n
  have o5 : w2.heap.size < w3.heap.size := by first | exact k4_l | omega
  replace k1 := ((k1.alloc _).after h4)
  replace k2 := ((k2.alloc _).after h4)
  replace hF0 := ((hF0.alloc _).after h4)
  replace k3 := ((k3.alloc _).after h4)
  replace k4 := ((k4.alloc _).after h4)
  have k5 := ((Blk.newAt (n := w3.heap.size) _ _ _ (by first | rfl | simp)).after h4)
  have bwsz := Below.size bw
  replace bw := below_call h4 (w := w) (by first | exact (Below.alloc bw (Below.size bw) _) | go_grown)
  clear h4 bwsz k1_l k2_l k3_l k4_l
  obtain ⟨k1_c, k1_f, k1_l, k1_m, k1_n⟩ := k1.knows
  obtain ⟨k2_c, k2_f, k2_l, k2_m, k2_n⟩ := k2.knows
  obtain ⟨k3_c, k3_f, k3_l, k3_m, k3_n⟩ := k3.knows
  obtain ⟨k4_c, k4_f, k4_l, k4_m, k4_n⟩ := k4.knows
  obtain ⟨k5_c, k5_f, k5_l, k5_m, k5_n⟩ := k5.knows
  go_wp2_with fail
  (with_reducible refine (fsqrt_none (hF0.alloc _) 0 (pN_pos false)).mono ?_)
  rintro e w5 ⟨rfl, h5⟩
  clear k1_c k1_f k1_m k1_n k2_c k2_f k2_m k2_n k3_c k3_f k3_m k3_n k4_c k4_f k4_m k4_n k5_c k5_f k5_m k5_n
  have o6 : w3.heap.size < w4.heap.size := by first | exact k5_l | omega
  replace k1 := ((k1.alloc _).after h5)
  replace k2 := ((k2.alloc _).after h5)
  replace hF0 := ((hF0.alloc _).after h5)
  replace k3 := ((k3.alloc _).after h5)
  replace k4 := ((k4.alloc _).after h5)
  replace k5 := ((k5.alloc _).after h5)
  have k6 := ((Blk.newAt (n := w4.heap.size) _ _ _ (by first | rfl | simp)).after h5)
  have bwsz := Below.size bw
  replace bw := below_call h5 (w := w) (by first | exact (Below.alloc bw (Below.size bw) _) | go_grown)
  clear h5 bwsz k1_l k2_l k3_l k4_l k5_l
  obtain ⟨k1_c, k1_f, k1_l, k1_m, k1_n⟩ := k1.knows
  obtain ⟨k2_c, k2_f, k2_l, k2_m, k2_n⟩ := k2.knows
  obtain ⟨k3_c, k3_f, k3_l, k3_m, k3_n⟩ := k3.knows
  obtain ⟨k4_c, k4_f, k4_l, k4_m, k4_n⟩ := k4.knows
  obtain ⟨k5_c, k5_f, k5_l, k5_m, k5_n⟩ := k5.knows
  obtain ⟨k6_c, k6_f, k6_l, k6_m, k6_n⟩ := k6.knows
  go_wp2_with fail
  (with_reducible refine (rsqrt_none 0 (pN_pos false) _).mono ?_)
  rintro e w6 ⟨rfl, h6⟩
  clear k1_c k1_f k1_m k1_n k2_c k2_f k2_m k2_n k3_c k3_f k3_m k3_n k4_c k4_f k4_m k4_n k5_c k5_f k5_m k5_n k6_c k6_f k6_m k6_n
  have o7 : w4.heap.size < w5.heap.size := by first | exact k6_l | omega
  replace k1 := ((k1.alloc _).after h6)
  replace k2 := ((k2.alloc _).after h6)
  replace hF0 := ((hF0.alloc _).after h6)
  replace k3 := ((k3.alloc _).after h6)
  replace k4 := ((k4.alloc _).after h6)
  replace k5 := ((k5.alloc _).after h6)
  replace k6 := ((k6.alloc _).after h6)
  have k7 := ((Blk.newAt (n := w5.heap.size) _ _ _ (by first | rfl | simp)).after h6)
  have bwsz := Below.size bw
  replace bw := below_call h6 (w := w) (by first | exact (Below.alloc bw (Below.size bw) _) | go_grown)
  clear h6 bwsz k1_l k2_l k3_l k4_l k5_l k6_l
  obtain ⟨k1_c, k1_f, k1_l, k1_m, k1_n⟩ := k1.knows
  obtain ⟨k2_c, k2_f, k2_l, k2_m, k2_n⟩ := k2.knows
  obtain ⟨k3_c, k3_f, k3_l, k3_m, k3_n⟩ := k3.knows
  obtain ⟨k4_c, k4_f, k4_l, k4_m, k4_n⟩ := k4.knows
  obtain ⟨k5_c, k5_f, k5_l, k5_m, k5_n⟩ := k5.knows
  obtain ⟨k6_c, k6_f, k6_l, k6_m, k6_n⟩ := k6.knows
  obtain ⟨k7_c, k7_f, k7_l, k7_m, k7_n⟩ := k7.knows
  go_wp2_with fail
  (with_reducible refine (rhas_yes 0 (pN_pos false) _).mono ?_)
  rintro e w7 ⟨rfl, h7⟩
  clear k1_c k1_f k1_m k1_n k2_c k2_f k2_m k2_n k3_c k3_f k3_m k3_n k4_c k4_f k4_m k4_n k5_c k5_f k5_m k5_n k6_c k6_f k6_m k6_n k7_c k7_f k7_m k7_n
  have o8 : w5.heap.size < w6.heap.size := by first | exact k7_l | omega
  replace k1 := ((k1.alloc _).after h7)
  replace k2 := ((k2.alloc _).after h7)
  replace hF0 := ((hF0.alloc _).after h7)
  replace k3 := ((k3.alloc _).after h7)
  replace k4 := ((k4.alloc _).after h7)
  have bwsz := Below.size bw
  replace bw := below_call h7 (w := w) (by first | exact (Below.alloc bw (Below.size bw) _) | go_grown)
  clear h7 bwsz k1_l k2_l k3_l k4_l k5_l k6_l k7_l
  clear k5 k6 k7
  obtain ⟨k1_c, k1_f, k1_l, k1_m, k1_n⟩ := k1.knows
  obtain ⟨k2_c, k2_f, k2_l, k2_m, k2_n⟩ := k2.knows
  obtain ⟨k3_c, k3_f, k3_l, k3_m, k3_n⟩ := k3.knows
  obtain ⟨k4_c, k4_f, k4_l, k4_m, k4_n⟩ := k4.knows
  go_upto_region 9 with (fail)
  clear k1_c k1_f k1_m k1_n k2_c k2_f k2_m k2_n k3_c k3_f k3_m k3_n k4_c k4_f k4_m k4_n
  clear k1_l k2_l k3_l k4_l
  refine wp_region_all [] 23 [(0, 1), (1, 1), (2, 1), (3, 0), (4, 1), (5, 1), (6, 1), (7, 1), (8, 1), (9, 1), (10, 1), (11, 0), (12, 0), (13, 0), (14, 0), (15, 0), (16, 1), (17, 1), (18, 1), (19, 1), (20, 0), (21, 1), (22, 1)] (by kernel_rfl) (by kernel_rfl) ?_
  (refine kind_pure (v := ?_) rfl ?_ ?_; rotate_left; (focus (intro K w' hK; go_simp; exact hK)); refine kinds_put (by (simp only [Act.put, List.setIfInBounds_toArray, List.set_cons_succ, List.set_cons_zero]; try rfl)) ?_)
  (refine kind_pure (v := ?_) rfl ?_ ?_; rotate_left; (focus (intro K w' hK; go_simp; exact hK)); refine kinds_put (by (simp only [Act.put, List.setIfInBounds_toArray, List.set_cons_succ, List.set_cons_zero]; try rfl)) ?_)
  (refine kind_pure (v := ?_) rfl ?_ ?_; rotate_left; (focus (intro K w' hK; go_simp; exact hK)); refine kinds_put (by (simp only [Act.put, List.setIfInBounds_toArray, List.set_cons_succ, List.set_cons_zero]; try rfl)) ?_)
  (refine kind_firm (v := ?_) rfl ?_ ?_; rotate_left; (focus (intro K w' hg hK; go_simp; exact hK _ (Grow.refl _))); refine kinds_put (by (simp only [Act.put, List.setIfInBounds_toArray, List.set_cons_succ, List.set_cons_zero]; try rfl)) ?_)
  (refine kind_pure (v := ?_) rfl ?_ ?_; rotate_left; (focus (intro K w' hK; go_simp; exact hK)); refine kinds_put (by (simp only [Act.put, List.setIfInBounds_toArray, List.set_cons_succ, List.set_cons_zero]; try rfl)) ?_)
  (refine kind_pure (v := ?_) rfl ?_ ?_; rotate_left; (focus (intro K w' hK; go_simp; exact hK)); refine kinds_put (by (simp only [Act.put, List.setIfInBounds_toArray, List.set_cons_succ, List.set_cons_zero]; try rfl)) ?_)
  (refine kind_pure (v := ?_) rfl ?_ ?_; rotate_left; (focus (intro K w' hK; go_simp; exact hK)); refine kinds_put (by (simp only [Act.put, List.setIfInBounds_toArray, List.set_cons_succ, List.set_cons_zero]; try rfl)) ?_)
  (refine kind_pure (v := ?_) rfl ?_ ?_; rotate_left; (focus (intro K w' hK; go_simp; exact hK)); refine kinds_put (by (simp only [Act.put, List.setIfInBounds_toArray, List.set_cons_succ, List.set_cons_zero]; try rfl)) ?_)
  (refine kind_pure (v := ?_) rfl ?_ ?_; rotate_left; (focus (intro K w' hK; go_simp; exact hK)); refine kinds_put (by (simp only [Act.put, List.setIfInBounds_toArray, List.set_cons_succ, List.set_cons_zero]; try rfl)) ?_)
  (refine kind_pure (v := ?_) rfl ?_ ?_; rotate_left; (focus (intro K w' hK; go_simp; exact hK)); refine kinds_put (by (simp only [Act.put, List.setIfInBounds_toArray, List.set_cons_succ, List.set_cons_zero]; try rfl)) ?_)
  (refine kind_pure (v := ?_) rfl ?_ ?_; rotate_left; (focus (intro K w' hK; go_simp; exact hK)); refine kinds_put (by (simp only [Act.put, List.setIfInBounds_toArray, List.set_cons_succ, List.set_cons_zero]; try rfl)) ?_)
  (refine kind_firm (v := ?_) rfl ?_ ?_; rotate_left; (focus (intro K w' hg hK; have hc1 := (k4.drew.after hg).cell; go_simp; exact hK _ (Grow.refl _))); refine kinds_put (by (simp only [Act.put, List.setIfInBounds_toArray, List.set_cons_succ, List.set_cons_zero]; try rfl)) ?_)
  (refine kind_firm (v := ?_) rfl ?_ ?_; rotate_left; (focus (intro K w' hg hK; have hc1 := (k3.drew.after hg).cell; go_simp; exact hK _ (Grow.refl _))); refine kinds_put (by (simp only [Act.put, List.setIfInBounds_toArray, List.set_cons_succ, List.set_cons_zero]; try rfl)) ?_)
  (refine kind_firm (v := ?_) rfl ?_ ?_; rotate_left; (focus (intro K w' hg hK; have hc1 := (k1.drew.after hg).cell; go_simp; exact hK _ (Grow.refl _))); refine kinds_put (by (simp only [Act.put, List.setIfInBounds_toArray, List.set_cons_succ, List.set_cons_zero]; try rfl)) ?_)
  (refine kind_firm (v := ?_) rfl ?_ ?_; rotate_left; (focus (intro K w' hg hK; have hc1 := (k2.drew.after hg).cell; go_simp; exact hK _ (Grow.refl _))); refine kinds_put (by (simp only [Act.put, List.setIfInBounds_toArray, List.set_cons_succ, List.set_cons_zero]; try rfl)) ?_)
  (refine kind_firm (v := ?_) rfl ?_ ?_; rotate_left; (focus (intro K w' hg hK; go_simp; refine Calls.mono (rpow 0 b RR_zero hb _) ?_; rintro e w'' ⟨rfl, hb⟩; refine ⟨_, rfl, ?_⟩; exact hK _ hb)); refine kinds_put (by (simp only [Act.put, List.setIfInBounds_toArray, List.set_cons_succ, List.set_cons_zero]; try rfl)) ?_)
  (refine kind_pure (v := ?_) rfl ?_ ?_; rotate_left; (focus (intro K w' hK; go_simp; exact hK)); refine kinds_put (by (simp only [Act.put, List.setIfInBounds_toArray, List.set_cons_succ, List.set_cons_zero]; try rfl)) ?_)
  (refine kind_pure (v := ?_) rfl ?_ ?_; rotate_left; (focus (intro K w' hK; go_simp; exact hK)); refine kinds_put (by (simp only [Act.put, List.setIfInBounds_toArray, List.set_cons_succ, List.set_cons_zero]; try rfl)) ?_)
  (refine kind_pure (v := ?_) rfl ?_ ?_; rotate_left; (focus (intro K w' hK; go_simp; exact hK)); refine kinds_put (by (simp only [Act.put, List.setIfInBounds_toArray, List.set_cons_succ, List.set_cons_zero]; try rfl)) ?_)
  (refine kind_pure (v := ?_) rfl ?_ ?_; rotate_left; (focus (intro K w' hK; go_simp; exact hK)); refine kinds_put (by (simp only [Act.put, List.setIfInBounds_toArray, List.set_cons_succ, List.set_cons_zero]; try rfl)) ?_)
  (refine kind_firm (v := ?_) rfl ?_ ?_; rotate_left; (focus (intro K w' hg hK; go_simp; refine Calls.mono (half_any _) ?_; rintro e w'' ⟨rfl, hb⟩; refine ⟨_, rfl, ?_⟩; exact hK _ hb)); refine kinds_put (by (simp only [Act.put, List.setIfInBounds_toArray, List.set_cons_succ, List.set_cons_zero]; try rfl)) ?_)
  (refine kind_pure (v := ?_) rfl ?_ ?_; rotate_left; (focus (intro K w' hK; go_simp; exact hK)); refine kinds_put (by (simp only [Act.put, List.setIfInBounds_toArray, List.set_cons_succ, List.set_cons_zero]; try rfl)) ?_)
  (refine kind_pure (v := ?_) rfl ?_ ?_; rotate_left; (focus (intro K w' hK; go_simp; exact hK)); refine kinds_put (by (simp only [Act.put, List.setIfInBounds_toArray, List.set_cons_succ, List.set_cons_zero]; try rfl)) ?_)
  refine kind_end ?_
  intro w8 h8
  replace hF0 := (hF0.drew.after h8)
  have bwsz := Below.size bw
  replace bw := below_call h8 (w := w) (by first | exact (Below.drew bw) | go_grown)
  clear h8 bwsz
  clear k1 k2 k3 k4
  go_wp2
  go_ret
  exact ⟨rfl, (by first | exact bw | go_grown)⟩
set_option maxRecDepth 20000 in
set_option maxHeartbeats 2000000 in
theorem powers_false (a b : Nat) (ha : a < RR) (hb : b < RR) (h : a < pN false) (h0 : a ≠ 0) (w : World) : Calls Try.prog 3 #[.bool false, num a, num b] w fun e w' => e = .returned (.bool true) ∧ Below w.heap.size w w' := by
  have q1 : ∀ w, (Op.equalIn 10000 24 (num (fpwN false a (ieN false))) (num (fpwN false a (ieN false)))).run Try.prog w = .ok true w := by intro w; exact eqin_same (fpwN false a (ieN false)) _
  have q2 : ∀ w, (Op.equalIn 10000 24 (num 0) (zeroV)).run Try.prog w = .ok true w := by intro w; rw [← num_zero]; exact eqin_same 0 _
  have q3 : ∀ w, (Op.equalIn 10000 24 (num (fpwN false a b)) (num (fpwN false a b))).run Try.prog w = .ok true w := by intro w; exact eqin_same (fpwN false a b) _
  go_enter Try.func3, Try.ntmps3
  go_wp2_with fail
  (with_reducible refine (of_any false _).mono ?_)
  rintro e w1 ⟨f0, g0, rfl, hF0, h1⟩
  have k1 := (((Blk.newAt (n := w.heap.size) _ _ _ (by first | rfl | simp)).alloc _).after h1)
  have k2 := ((Blk.newAt (n := w.heap.size + 1) _ _ _ (by first | rfl | simp)).after h1)
  have bw := below_call h1 (w := w) (by first | exact (below_alloc (Below.alloc (Below.refl _ _) (Below.size (Below.refl _ _)) _) _) | go_grown)
  clear h1
  obtain ⟨k1_c, k1_f, k1_l, k1_m, k1_n⟩ := k1.knows
  obtain ⟨k2_c, k2_f, k2_l, k2_m, k2_n⟩ := k2.knows
  go_wp2_with fail
  (with_reducible refine (fpow_yes (hF0.alloc _) a b hb h).mono ?_)
  rintro e w2 ⟨rfl, h2⟩
  clear k1_c k1_f k1_m k1_n k2_c k2_f k2_m k2_n
  have o3 : w.heap.size + 1 < w1.heap.size := by first | exact k2_l | omega
  replace k1 := ((k1.alloc _).after h2)
  replace k2 := ((k2.alloc _).after h2)
  replace hF0 := ((hF0.alloc _).after h2)
  have k3 := ((Blk.newAt (n := w1.heap.size) _ _ _ (by first | rfl | simp)).after h2)
  have bwsz := Below.size bw
  replace bw := below_call h2 (w := w) (by first | exact (Below.alloc bw (Below.size bw) _) | go_grown)
  clear h2 bwsz k1_l k2_l
  obtain ⟨k1_c, k1_f, k1_l, k1_m, k1_n⟩ := k1.knows
  obtain ⟨k2_c, k2_f, k2_l, k2_m, k2_n⟩ := k2.knows
  obtain ⟨k3_c, k3_f, k3_l, k3_m, k3_n⟩ := k3.knows
  go_wp2_with fail
  (with_reducible refine (finv_yes (hF0.alloc _) a h h0).mono ?_)
  rintro e w3 ⟨rfl, h3⟩
  clear k1_c k1_f k1_m k1_n k2_c k2_f k2_m k2_n k3_c k3_f k3_m k3_n
  have o4 : w1.heap.size < w2.heap.size := by first | exact k3_l | omega
  replace k1 := ((k1.alloc _).after h3)
  replace k2 := ((k2.alloc _).after h3)
  replace hF0 := ((hF0.alloc _).after h3)
  replace k3 := ((k3.alloc _).after h3)
  have k4 := ((Blk.newAt (n := w2.heap.size) _ _ _ (by first | rfl | simp)).after h3)
  have bwsz := Below.size bw
  replace bw := below_call h3 (w := w) (by first | exact (Below.alloc bw (Below.size bw) _) | go_grown)
  clear h3 bwsz k1_l k2_l k3_l
  obtain ⟨k1_c, k1_f, k1_l, k1_m, k1_n⟩ := k1.knows
  obtain ⟨k2_c, k2_f, k2_l, k2_m, k2_n⟩ := k2.knows
  obtain ⟨k3_c, k3_f, k3_l, k3_m, k3_n⟩ := k3.knows
  obtain ⟨k4_c, k4_f, k4_l, k4_m, k4_n⟩ := k4.knows
  go_wp2_with fail
  (with_reducible refine (rinvert_yes a h h0 _).mono ?_)
  rintro e w4 ⟨rfl, h4⟩
  clear k1_c k1_f k1_m k1_n k2_c k2_f k2_m k2_n k3_c k3_f k3_m k3_n k4_c k4_f k4_m k4_n
  have o5 : w2.heap.size < w3.heap.size := by first | exact k4_l | omega
  replace k1 := ((k1.alloc _).after h4)
  replace k2 := ((k2.alloc _).after h4)
  replace hF0 := ((hF0.alloc _).after h4)
  replace k3 := ((k3.alloc _).after h4)
  replace k4 := ((k4.alloc _).after h4)
  have k5 := ((Blk.newAt (n := w3.heap.size) _ _ _ (by first | rfl | simp)).after h4)
  have bwsz := Below.size bw
  replace bw := below_call h4 (w := w) (by first | exact (Below.alloc bw (Below.size bw) _) | go_grown)
  clear h4 bwsz k1_l k2_l k3_l k4_l
  obtain ⟨k1_c, k1_f, k1_l, k1_m, k1_n⟩ := k1.knows
  obtain ⟨k2_c, k2_f, k2_l, k2_m, k2_n⟩ := k2.knows
  obtain ⟨k3_c, k3_f, k3_l, k3_m, k3_n⟩ := k3.knows
  obtain ⟨k4_c, k4_f, k4_l, k4_m, k4_n⟩ := k4.knows
  obtain ⟨k5_c, k5_f, k5_l, k5_m, k5_n⟩ := k5.knows
  go_wp2_with fail
  (with_reducible refine (fsqrt_none (hF0.alloc _) a h).mono ?_)
  rintro e w5 ⟨rfl, h5⟩
  clear k1_c k1_f k1_m k1_n k2_c k2_f k2_m k2_n k3_c k3_f k3_m k3_n k4_c k4_f k4_m k4_n k5_c k5_f k5_m k5_n
  have o6 : w3.heap.size < w4.heap.size := by first | exact k5_l | omega
  replace k1 := ((k1.alloc _).after h5)
  replace k2 := ((k2.alloc _).after h5)
  replace hF0 := ((hF0.alloc _).after h5)
  replace k3 := ((k3.alloc _).after h5)
  replace k4 := ((k4.alloc _).after h5)
  replace k5 := ((k5.alloc _).after h5)
  have k6 := ((Blk.newAt (n := w4.heap.size) _ _ _ (by first | rfl | simp)).after h5)
  have bwsz := Below.size bw
  replace bw := below_call h5 (w := w) (by first | exact (Below.alloc bw (Below.size bw) _) | go_grown)
  clear h5 bwsz k1_l k2_l k3_l k4_l k5_l
  obtain ⟨k1_c, k1_f, k1_l, k1_m, k1_n⟩ := k1.knows
  obtain ⟨k2_c, k2_f, k2_l, k2_m, k2_n⟩ := k2.knows
  obtain ⟨k3_c, k3_f, k3_l, k3_m, k3_n⟩ := k3.knows
  obtain ⟨k4_c, k4_f, k4_l, k4_m, k4_n⟩ := k4.knows
  obtain ⟨k5_c, k5_f, k5_l, k5_m, k5_n⟩ := k5.knows
  obtain ⟨k6_c, k6_f, k6_l, k6_m, k6_n⟩ := k6.knows
  go_wp2_with fail
  (with_reducible refine (rsqrt_none a h _).mono ?_)
  rintro e w6 ⟨rfl, h6⟩
  clear k1_c k1_f k1_m k1_n k2_c k2_f k2_m k2_n k3_c k3_f k3_m k3_n k4_c k4_f k4_m k4_n k5_c k5_f k5_m k5_n k6_c k6_f k6_m k6_n
  have o7 : w4.heap.size < w5.heap.size := by first | exact k6_l | omega
  replace k1 := ((k1.alloc _).after h6)
  replace k2 := ((k2.alloc _).after h6)
  replace hF0 := ((hF0.alloc _).after h6)
  replace k3 := ((k3.alloc _).after h6)
  replace k4 := ((k4.alloc _).after h6)
  replace k5 := ((k5.alloc _).after h6)
  replace k6 := ((k6.alloc _).after h6)
  have k7 := ((Blk.newAt (n := w5.heap.size) _ _ _ (by first | rfl | simp)).after h6)
  have bwsz := Below.size bw
  replace bw := below_call h6 (w := w) (by first | exact (Below.alloc bw (Below.size bw) _) | go_grown)
  clear h6 bwsz k1_l k2_l k3_l k4_l k5_l k6_l
  obtain ⟨k1_c, k1_f, k1_l, k1_m, k1_n⟩ := k1.knows
  obtain ⟨k2_c, k2_f, k2_l, k2_m, k2_n⟩ := k2.knows
  obtain ⟨k3_c, k3_f, k3_l, k3_m, k3_n⟩ := k3.knows
  obtain ⟨k4_c, k4_f, k4_l, k4_m, k4_n⟩ := k4.knows
  obtain ⟨k5_c, k5_f, k5_l, k5_m, k5_n⟩ := k5.knows
  obtain ⟨k6_c, k6_f, k6_l, k6_m, k6_n⟩ := k6.knows
  obtain ⟨k7_c, k7_f, k7_l, k7_m, k7_n⟩ := k7.knows
  go_wp2_with fail
  (with_reducible refine (rhas_yes a h _).mono ?_)
  rintro e w7 ⟨rfl, h7⟩
  clear k1_c k1_f k1_m k1_n k2_c k2_f k2_m k2_n k3_c k3_f k3_m k3_n k4_c k4_f k4_m k4_n k5_c k5_f k5_m k5_n k6_c k6_f k6_m k6_n k7_c k7_f k7_m k7_n
  have o8 : w5.heap.size < w6.heap.size := by first | exact k7_l | omega
  replace k1 := ((k1.alloc _).after h7)
  replace k2 := ((k2.alloc _).after h7)
  replace hF0 := ((hF0.alloc _).after h7)
  replace k3 := ((k3.alloc _).after h7)
  replace k4 := ((k4.alloc _).after h7)
  have bwsz := Below.size bw
  replace bw := below_call h7 (w := w) (by first | exact (Below.alloc bw (Below.size bw) _) | go_grown)
  clear h7 bwsz k1_l k2_l k3_l k4_l k5_l k6_l k7_l
  clear k5 k6 k7
  obtain ⟨k1_c, k1_f, k1_l, k1_m, k1_n⟩ := k1.knows
  obtain ⟨k2_c, k2_f, k2_l, k2_m, k2_n⟩ := k2.knows
  obtain ⟨k3_c, k3_f, k3_l, k3_m, k3_n⟩ := k3.knows
  obtain ⟨k4_c, k4_f, k4_l, k4_m, k4_n⟩ := k4.knows
  go_upto_region 9 with (fail)
  clear k1_c k1_f k1_m k1_n k2_c k2_f k2_m k2_n k3_c k3_f k3_m k3_n k4_c k4_f k4_m k4_n
  clear k1_l k2_l k3_l k4_l
  refine wp_region_all [] 23 [(0, 1), (1, 1), (2, 1), (3, 0), (4, 1), (5, 1), (6, 1), (7, 1), (8, 1), (9, 1), (10, 1), (11, 0), (12, 0), (13, 0), (14, 0), (15, 0), (16, 1), (17, 1), (18, 1), (19, 1), (20, 0), (21, 1), (22, 1)] (by kernel_rfl) (by kernel_rfl) ?_
  (refine kind_pure (v := ?_) rfl ?_ ?_; rotate_left; (focus (intro K w' hK; go_simp; exact hK)); refine kinds_put (by (simp only [Act.put, List.setIfInBounds_toArray, List.set_cons_succ, List.set_cons_zero]; try rfl)) ?_)
  (refine kind_pure (v := ?_) rfl ?_ ?_; rotate_left; (focus (intro K w' hK; go_simp; exact hK)); refine kinds_put (by (simp only [Act.put, List.setIfInBounds_toArray, List.set_cons_succ, List.set_cons_zero]; try rfl)) ?_)
  (refine kind_pure (v := ?_) rfl ?_ ?_; rotate_left; (focus (intro K w' hK; go_simp; exact hK)); refine kinds_put (by (simp only [Act.put, List.setIfInBounds_toArray, List.set_cons_succ, List.set_cons_zero]; try rfl)) ?_)
  (refine kind_firm (v := ?_) rfl ?_ ?_; rotate_left; (focus (intro K w' hg hK; go_simp; exact hK _ (Grow.refl _))); refine kinds_put (by (simp only [Act.put, List.setIfInBounds_toArray, List.set_cons_succ, List.set_cons_zero]; try rfl)) ?_)
  (refine kind_pure (v := ?_) rfl ?_ ?_; rotate_left; (focus (intro K w' hK; go_simp; exact hK)); refine kinds_put (by (simp only [Act.put, List.setIfInBounds_toArray, List.set_cons_succ, List.set_cons_zero]; try rfl)) ?_)
  (refine kind_pure (v := ?_) rfl ?_ ?_; rotate_left; (focus (intro K w' hK; go_simp; exact hK)); refine kinds_put (by (simp only [Act.put, List.setIfInBounds_toArray, List.set_cons_succ, List.set_cons_zero]; try rfl)) ?_)
  (refine kind_pure (v := ?_) rfl ?_ ?_; rotate_left; (focus (intro K w' hK; go_simp; exact hK)); refine kinds_put (by (simp only [Act.put, List.setIfInBounds_toArray, List.set_cons_succ, List.set_cons_zero]; try rfl)) ?_)
  (refine kind_pure (v := ?_) rfl ?_ ?_; rotate_left; (focus (intro K w' hK; go_simp; exact hK)); refine kinds_put (by (simp only [Act.put, List.setIfInBounds_toArray, List.set_cons_succ, List.set_cons_zero]; try rfl)) ?_)
  (refine kind_pure (v := ?_) rfl ?_ ?_; rotate_left; (focus (intro K w' hK; go_simp; exact hK)); refine kinds_put (by (simp only [Act.put, List.setIfInBounds_toArray, List.set_cons_succ, List.set_cons_zero]; try rfl)) ?_)
  (refine kind_pure (v := ?_) rfl ?_ ?_; rotate_left; (focus (intro K w' hK; go_simp; exact hK)); refine kinds_put (by (simp only [Act.put, List.setIfInBounds_toArray, List.set_cons_succ, List.set_cons_zero]; try rfl)) ?_)
  (refine kind_pure (v := ?_) rfl ?_ ?_; rotate_left; (focus (intro K w' hK; go_simp; exact hK)); refine kinds_put (by (simp only [Act.put, List.setIfInBounds_toArray, List.set_cons_succ, List.set_cons_zero]; try rfl)) ?_)
  (refine kind_firm (v := ?_) rfl ?_ ?_; rotate_left; (focus (intro K w' hg hK; have hc1 := (k4.drew.after hg).cell; go_simp; exact hK _ (Grow.refl _))); refine kinds_put (by (simp only [Act.put, List.setIfInBounds_toArray, List.set_cons_succ, List.set_cons_zero]; try rfl)) ?_)
  (refine kind_firm (v := ?_) rfl ?_ ?_; rotate_left; (focus (intro K w' hg hK; have hc1 := (k3.drew.after hg).cell; go_simp; exact hK _ (Grow.refl _))); refine kinds_put (by (simp only [Act.put, List.setIfInBounds_toArray, List.set_cons_succ, List.set_cons_zero]; try rfl)) ?_)
  (refine kind_firm (v := ?_) rfl ?_ ?_; rotate_left; (focus (intro K w' hg hK; have hc1 := (k1.drew.after hg).cell; go_simp; exact hK _ (Grow.refl _))); refine kinds_put (by (simp only [Act.put, List.setIfInBounds_toArray, List.set_cons_succ, List.set_cons_zero]; try rfl)) ?_)
  (refine kind_firm (v := ?_) rfl ?_ ?_; rotate_left; (focus (intro K w' hg hK; have hc1 := (k2.drew.after hg).cell; go_simp; exact hK _ (Grow.refl _))); refine kinds_put (by (simp only [Act.put, List.setIfInBounds_toArray, List.set_cons_succ, List.set_cons_zero]; try rfl)) ?_)
  (refine kind_firm (v := ?_) rfl ?_ ?_; rotate_left; (focus (intro K w' hg hK; go_simp; refine Calls.mono (rpow a b ha hb _) ?_; rintro e w'' ⟨rfl, hb⟩; refine ⟨_, rfl, ?_⟩; exact hK _ hb)); refine kinds_put (by (simp only [Act.put, List.setIfInBounds_toArray, List.set_cons_succ, List.set_cons_zero]; try rfl)) ?_)
  (refine kind_pure (v := ?_) rfl ?_ ?_; rotate_left; (focus (intro K w' hK; go_simp; exact hK)); refine kinds_put (by (simp only [Act.put, List.setIfInBounds_toArray, List.set_cons_succ, List.set_cons_zero]; try rfl)) ?_)
  (refine kind_pure (v := ?_) rfl ?_ ?_; rotate_left; (focus (intro K w' hK; go_simp; exact hK)); refine kinds_put (by (simp only [Act.put, List.setIfInBounds_toArray, List.set_cons_succ, List.set_cons_zero]; try rfl)) ?_)
  (refine kind_pure (v := ?_) rfl ?_ ?_; rotate_left; (focus (intro K w' hK; go_simp; exact hK)); refine kinds_put (by (simp only [Act.put, List.setIfInBounds_toArray, List.set_cons_succ, List.set_cons_zero]; try rfl)) ?_)
  (refine kind_pure (v := ?_) rfl ?_ ?_; rotate_left; (focus (intro K w' hK; go_simp; exact hK)); refine kinds_put (by (simp only [Act.put, List.setIfInBounds_toArray, List.set_cons_succ, List.set_cons_zero]; try rfl)) ?_)
  (refine kind_firm (v := ?_) rfl ?_ ?_; rotate_left; (focus (intro K w' hg hK; go_simp; refine Calls.mono (half_any _) ?_; rintro e w'' ⟨rfl, hb⟩; refine ⟨_, rfl, ?_⟩; exact hK _ hb)); refine kinds_put (by (simp only [Act.put, List.setIfInBounds_toArray, List.set_cons_succ, List.set_cons_zero]; try rfl)) ?_)
  (refine kind_pure (v := ?_) rfl ?_ ?_; rotate_left; (focus (intro K w' hK; go_simp; exact hK)); refine kinds_put (by (simp only [Act.put, List.setIfInBounds_toArray, List.set_cons_succ, List.set_cons_zero]; try rfl)) ?_)
  (refine kind_pure (v := ?_) rfl ?_ ?_; rotate_left; (focus (intro K w' hK; go_simp; exact hK)); refine kinds_put (by (simp only [Act.put, List.setIfInBounds_toArray, List.set_cons_succ, List.set_cons_zero]; try rfl)) ?_)
  refine kind_end ?_
  intro w8 h8
  replace hF0 := (hF0.drew.after h8)
  have bwsz := Below.size bw
  replace bw := below_call h8 (w := w) (by first | exact (Below.drew bw) | go_grown)
  clear h8 bwsz
  clear k1 k2 k3 k4
  go_wp2
  go_ret
  exact ⟨rfl, (by first | exact bw | go_grown)⟩
set_option maxRecDepth 20000 in
set_option maxHeartbeats 2000000 in
theorem powers_true_yes (a b : Nat) (ha : a < RR) (hb : b < RR) (h : a < pN true) (h0 : a ≠ 0) (hq : fmlN true (fpwN true a (rtN true)) (fpwN true a (rtN true)) = a) (w : World) : Calls Try.prog 3 #[.bool true, num a, num b] w fun e w' => e = .returned (.bool true) ∧ Below w.heap.size w w' := by
  have hq_ := Lib.hid hq; clear hq
  have q1 : ∀ w, (Op.equalIn 10000 24 (num (fpwN true a (ieN true))) (num (fpwN true a (ieN true)))).run Try.prog w = .ok true w := by intro w; exact eqin_same (fpwN true a (ieN true)) _
  have q2 : ∀ w, (Op.equalIn 10000 24 (num (evN true (fpwN true a (rtN true)))) (num (evN true (fpwN true a (rtN true))))).run Try.prog w = .ok true w := by intro w; exact eqin_same (evN true (fpwN true a (rtN true))) _
  have q3 : ∀ w, (Op.equalIn 10000 24 (num (fpwN true a b)) (num (fpwN true a b))).run Try.prog w = .ok true w := by intro w; exact eqin_same (fpwN true a b) _
  go_enter Try.func3, Try.ntmps3
  go_wp2_with fail
  (with_reducible refine (of_any true _).mono ?_)
  rintro e w1 ⟨f0, g0, rfl, hF0, h1⟩
  have k1 := (((Blk.newAt (n := w.heap.size) _ _ _ (by first | rfl | simp)).alloc _).after h1)
  have k2 := ((Blk.newAt (n := w.heap.size + 1) _ _ _ (by first | rfl | simp)).after h1)
  have bw := below_call h1 (w := w) (by first | exact (below_alloc (Below.alloc (Below.refl _ _) (Below.size (Below.refl _ _)) _) _) | go_grown)
  clear h1
  obtain ⟨k1_c, k1_f, k1_l, k1_m, k1_n⟩ := k1.knows
  obtain ⟨k2_c, k2_f, k2_l, k2_m, k2_n⟩ := k2.knows
  go_wp2_with fail
  (with_reducible refine (fpow_yes (hF0.alloc _) a b hb h).mono ?_)
  rintro e w2 ⟨rfl, h2⟩
  clear k1_c k1_f k1_m k1_n k2_c k2_f k2_m k2_n
  have o3 : w.heap.size + 1 < w1.heap.size := by first | exact k2_l | omega
  replace k1 := ((k1.alloc _).after h2)
  replace k2 := ((k2.alloc _).after h2)
  replace hF0 := ((hF0.alloc _).after h2)
  have k3 := ((Blk.newAt (n := w1.heap.size) _ _ _ (by first | rfl | simp)).after h2)
  have bwsz := Below.size bw
  replace bw := below_call h2 (w := w) (by first | exact (Below.alloc bw (Below.size bw) _) | go_grown)
  clear h2 bwsz k1_l k2_l
  obtain ⟨k1_c, k1_f, k1_l, k1_m, k1_n⟩ := k1.knows
  obtain ⟨k2_c, k2_f, k2_l, k2_m, k2_n⟩ := k2.knows
  obtain ⟨k3_c, k3_f, k3_l, k3_m, k3_n⟩ := k3.knows
  go_wp2_with fail
  (with_reducible refine (finv_yes (hF0.alloc _) a h h0).mono ?_)
  rintro e w3 ⟨rfl, h3⟩
  clear k1_c k1_f k1_m k1_n k2_c k2_f k2_m k2_n k3_c k3_f k3_m k3_n
  have o4 : w1.heap.size < w2.heap.size := by first | exact k3_l | omega
  replace k1 := ((k1.alloc _).after h3)
  replace k2 := ((k2.alloc _).after h3)
  replace hF0 := ((hF0.alloc _).after h3)
  replace k3 := ((k3.alloc _).after h3)
  have k4 := ((Blk.newAt (n := w2.heap.size) _ _ _ (by first | rfl | simp)).after h3)
  have bwsz := Below.size bw
  replace bw := below_call h3 (w := w) (by first | exact (Below.alloc bw (Below.size bw) _) | go_grown)
  clear h3 bwsz k1_l k2_l k3_l
  obtain ⟨k1_c, k1_f, k1_l, k1_m, k1_n⟩ := k1.knows
  obtain ⟨k2_c, k2_f, k2_l, k2_m, k2_n⟩ := k2.knows
  obtain ⟨k3_c, k3_f, k3_l, k3_m, k3_n⟩ := k3.knows
  obtain ⟨k4_c, k4_f, k4_l, k4_m, k4_n⟩ := k4.knows
  go_wp2_with fail
  (with_reducible refine (rinvert_yes a h h0 _).mono ?_)
  rintro e w4 ⟨rfl, h4⟩
  clear k1_c k1_f k1_m k1_n k2_c k2_f k2_m k2_n k3_c k3_f k3_m k3_n k4_c k4_f k4_m k4_n
  have o5 : w2.heap.size < w3.heap.size := by first | exact k4_l | omega
  replace k1 := ((k1.alloc _).after h4)
  replace k2 := ((k2.alloc _).after h4)
  replace hF0 := ((hF0.alloc _).after h4)
  replace k3 := ((k3.alloc _).after h4)
  replace k4 := ((k4.alloc _).after h4)
  have k5 := ((Blk.newAt (n := w3.heap.size) _ _ _ (by first | rfl | simp)).after h4)
  have bwsz := Below.size bw
  replace bw := below_call h4 (w := w) (by first | exact (Below.alloc bw (Below.size bw) _) | go_grown)
  clear h4 bwsz k1_l k2_l k3_l k4_l
  obtain ⟨k1_c, k1_f, k1_l, k1_m, k1_n⟩ := k1.knows
  obtain ⟨k2_c, k2_f, k2_l, k2_m, k2_n⟩ := k2.knows
  obtain ⟨k3_c, k3_f, k3_l, k3_m, k3_n⟩ := k3.knows
  obtain ⟨k4_c, k4_f, k4_l, k4_m, k4_n⟩ := k4.knows
  obtain ⟨k5_c, k5_f, k5_l, k5_m, k5_n⟩ := k5.knows
  go_wp2_with fail
  (with_reducible refine (fsqrt_yes (hF0.alloc _) a h hq_.out).mono ?_)
  rintro e w5 ⟨rfl, h5⟩
  clear k1_c k1_f k1_m k1_n k2_c k2_f k2_m k2_n k3_c k3_f k3_m k3_n k4_c k4_f k4_m k4_n k5_c k5_f k5_m k5_n
  have o6 : w3.heap.size < w4.heap.size := by first | exact k5_l | omega
  replace k1 := ((k1.alloc _).after h5)
  replace k2 := ((k2.alloc _).after h5)
  replace hF0 := ((hF0.alloc _).after h5)
  replace k3 := ((k3.alloc _).after h5)
  replace k4 := ((k4.alloc _).after h5)
  replace k5 := ((k5.alloc _).after h5)
  have k6 := ((Blk.newAt (n := w4.heap.size) _ _ _ (by first | rfl | simp)).after h5)
  have bwsz := Below.size bw
  replace bw := below_call h5 (w := w) (by first | exact (Below.alloc bw (Below.size bw) _) | go_grown)
  clear h5 bwsz k1_l k2_l k3_l k4_l k5_l
  obtain ⟨k1_c, k1_f, k1_l, k1_m, k1_n⟩ := k1.knows
  obtain ⟨k2_c, k2_f, k2_l, k2_m, k2_n⟩ := k2.knows
  obtain ⟨k3_c, k3_f, k3_l, k3_m, k3_n⟩ := k3.knows
  obtain ⟨k4_c, k4_f, k4_l, k4_m, k4_n⟩ := k4.knows
  obtain ⟨k5_c, k5_f, k5_l, k5_m, k5_n⟩ := k5.knows
  obtain ⟨k6_c, k6_f, k6_l, k6_m, k6_n⟩ := k6.knows
  go_wp2_with fail
  (with_reducible refine (rsqrt_yes a h hq_.out _).mono ?_)
  rintro e w6 ⟨rfl, h6⟩
  clear k1_c k1_f k1_m k1_n k2_c k2_f k2_m k2_n k3_c k3_f k3_m k3_n k4_c k4_f k4_m k4_n k5_c k5_f k5_m k5_n k6_c k6_f k6_m k6_n
  have o7 : w4.heap.size < w5.heap.size := by first | exact k6_l | omega
  replace k1 := ((k1.alloc _).after h6)
  replace k2 := ((k2.alloc _).after h6)
  replace hF0 := ((hF0.alloc _).after h6)
  replace k3 := ((k3.alloc _).after h6)
  replace k4 := ((k4.alloc _).after h6)
  replace k5 := ((k5.alloc _).after h6)
  replace k6 := ((k6.alloc _).after h6)
  have k7 := ((Blk.newAt (n := w5.heap.size) _ _ _ (by first | rfl | simp)).after h6)
  have bwsz := Below.size bw
  replace bw := below_call h6 (w := w) (by first | exact (Below.alloc bw (Below.size bw) _) | go_grown)
  clear h6 bwsz k1_l k2_l k3_l k4_l k5_l k6_l
  obtain ⟨k1_c, k1_f, k1_l, k1_m, k1_n⟩ := k1.knows
  obtain ⟨k2_c, k2_f, k2_l, k2_m, k2_n⟩ := k2.knows
  obtain ⟨k3_c, k3_f, k3_l, k3_m, k3_n⟩ := k3.knows
  obtain ⟨k4_c, k4_f, k4_l, k4_m, k4_n⟩ := k4.knows
  obtain ⟨k5_c, k5_f, k5_l, k5_m, k5_n⟩ := k5.knows
  obtain ⟨k6_c, k6_f, k6_l, k6_m, k6_n⟩ := k6.knows
  obtain ⟨k7_c, k7_f, k7_l, k7_m, k7_n⟩ := k7.knows
  go_wp2_with fail
  (with_reducible refine (rhas_yes a h _).mono ?_)
  rintro e w7 ⟨rfl, h7⟩
  clear k1_c k1_f k1_m k1_n k2_c k2_f k2_m k2_n k3_c k3_f k3_m k3_n k4_c k4_f k4_m k4_n k5_c k5_f k5_m k5_n k6_c k6_f k6_m k6_n k7_c k7_f k7_m k7_n
  have o8 : w5.heap.size < w6.heap.size := by first | exact k7_l | omega
  replace k1 := ((k1.alloc _).after h7)
  replace k2 := ((k2.alloc _).after h7)
  replace hF0 := ((hF0.alloc _).after h7)
  replace k3 := ((k3.alloc _).after h7)
  replace k4 := ((k4.alloc _).after h7)
  have bwsz := Below.size bw
  replace bw := below_call h7 (w := w) (by first | exact (Below.alloc bw (Below.size bw) _) | go_grown)
  clear h7 bwsz k1_l k2_l k3_l k4_l k5_l k6_l k7_l
  clear k5 k6 k7
  obtain ⟨k1_c, k1_f, k1_l, k1_m, k1_n⟩ := k1.knows
  obtain ⟨k2_c, k2_f, k2_l, k2_m, k2_n⟩ := k2.knows
  obtain ⟨k3_c, k3_f, k3_l, k3_m, k3_n⟩ := k3.knows
  obtain ⟨k4_c, k4_f, k4_l, k4_m, k4_n⟩ := k4.knows
  go_upto_region 9 with (fail)
  clear k1_c k1_f k1_m k1_n k2_c k2_f k2_m k2_n k3_c k3_f k3_m k3_n k4_c k4_f k4_m k4_n
  clear k1_l k2_l k3_l k4_l
  refine wp_region_all [] 23 [(0, 1), (1, 1), (2, 1), (3, 0), (4, 1), (5, 1), (6, 1), (7, 1), (8, 1), (9, 1), (10, 1), (11, 0), (12, 0), (13, 0), (14, 0), (15, 0), (16, 1), (17, 1), (18, 1), (19, 1), (20, 0), (21, 1), (22, 1)] (by kernel_rfl) (by kernel_rfl) ?_
  (refine kind_pure (v := ?_) rfl ?_ ?_; rotate_left; (focus (intro K w' hK; go_simp; exact hK)); refine kinds_put (by (simp only [Act.put, List.setIfInBounds_toArray, List.set_cons_succ, List.set_cons_zero]; try rfl)) ?_)
  (refine kind_pure (v := ?_) rfl ?_ ?_; rotate_left; (focus (intro K w' hK; go_simp; exact hK)); refine kinds_put (by (simp only [Act.put, List.setIfInBounds_toArray, List.set_cons_succ, List.set_cons_zero]; try rfl)) ?_)
  (refine kind_pure (v := ?_) rfl ?_ ?_; rotate_left; (focus (intro K w' hK; go_simp; exact hK)); refine kinds_put (by (simp only [Act.put, List.setIfInBounds_toArray, List.set_cons_succ, List.set_cons_zero]; try rfl)) ?_)
  (refine kind_firm (v := ?_) rfl ?_ ?_; rotate_left; (focus (intro K w' hg hK; go_simp; exact hK _ (Grow.refl _))); refine kinds_put (by (simp only [Act.put, List.setIfInBounds_toArray, List.set_cons_succ, List.set_cons_zero]; try rfl)) ?_)
  (refine kind_pure (v := ?_) rfl ?_ ?_; rotate_left; (focus (intro K w' hK; go_simp; exact hK)); refine kinds_put (by (simp only [Act.put, List.setIfInBounds_toArray, List.set_cons_succ, List.set_cons_zero]; try rfl)) ?_)
  (refine kind_pure (v := ?_) rfl ?_ ?_; rotate_left; (focus (intro K w' hK; go_simp; exact hK)); refine kinds_put (by (simp only [Act.put, List.setIfInBounds_toArray, List.set_cons_succ, List.set_cons_zero]; try rfl)) ?_)
  (refine kind_pure (v := ?_) rfl ?_ ?_; rotate_left; (focus (intro K w' hK; go_simp; exact hK)); refine kinds_put (by (simp only [Act.put, List.setIfInBounds_toArray, List.set_cons_succ, List.set_cons_zero]; try rfl)) ?_)
  (refine kind_pure (v := ?_) rfl ?_ ?_; rotate_left; (focus (intro K w' hK; go_simp; exact hK)); refine kinds_put (by (simp only [Act.put, List.setIfInBounds_toArray, List.set_cons_succ, List.set_cons_zero]; try rfl)) ?_)
  (refine kind_pure (v := ?_) rfl ?_ ?_; rotate_left; (focus (intro K w' hK; go_simp; exact hK)); refine kinds_put (by (simp only [Act.put, List.setIfInBounds_toArray, List.set_cons_succ, List.set_cons_zero]; try rfl)) ?_)
  (refine kind_pure (v := ?_) rfl ?_ ?_; rotate_left; (focus (intro K w' hK; go_simp; exact hK)); refine kinds_put (by (simp only [Act.put, List.setIfInBounds_toArray, List.set_cons_succ, List.set_cons_zero]; try rfl)) ?_)
  (refine kind_pure (v := ?_) rfl ?_ ?_; rotate_left; (focus (intro K w' hK; go_simp; exact hK)); refine kinds_put (by (simp only [Act.put, List.setIfInBounds_toArray, List.set_cons_succ, List.set_cons_zero]; try rfl)) ?_)
  (refine kind_firm (v := ?_) rfl ?_ ?_; rotate_left; (focus (intro K w' hg hK; have hc1 := (k4.drew.after hg).cell; go_simp; exact hK _ (Grow.refl _))); refine kinds_put (by (simp only [Act.put, List.setIfInBounds_toArray, List.set_cons_succ, List.set_cons_zero]; try rfl)) ?_)
  (refine kind_firm (v := ?_) rfl ?_ ?_; rotate_left; (focus (intro K w' hg hK; have hc1 := (k3.drew.after hg).cell; go_simp; exact hK _ (Grow.refl _))); refine kinds_put (by (simp only [Act.put, List.setIfInBounds_toArray, List.set_cons_succ, List.set_cons_zero]; try rfl)) ?_)
  (refine kind_firm (v := ?_) rfl ?_ ?_; rotate_left; (focus (intro K w' hg hK; have hc1 := (k1.drew.after hg).cell; go_simp; exact hK _ (Grow.refl _))); refine kinds_put (by (simp only [Act.put, List.setIfInBounds_toArray, List.set_cons_succ, List.set_cons_zero]; try rfl)) ?_)
  (refine kind_firm (v := ?_) rfl ?_ ?_; rotate_left; (focus (intro K w' hg hK; have hc1 := (k2.drew.after hg).cell; go_simp; exact hK _ (Grow.refl _))); refine kinds_put (by (simp only [Act.put, List.setIfInBounds_toArray, List.set_cons_succ, List.set_cons_zero]; try rfl)) ?_)
  (refine kind_firm (v := ?_) rfl ?_ ?_; rotate_left; (focus (intro K w' hg hK; go_simp; refine Calls.mono (rpow a b ha hb _) ?_; rintro e w'' ⟨rfl, hb⟩; refine ⟨_, rfl, ?_⟩; exact hK _ hb)); refine kinds_put (by (simp only [Act.put, List.setIfInBounds_toArray, List.set_cons_succ, List.set_cons_zero]; try rfl)) ?_)
  (refine kind_pure (v := ?_) rfl ?_ ?_; rotate_left; (focus (intro K w' hK; go_simp; exact hK)); refine kinds_put (by (simp only [Act.put, List.setIfInBounds_toArray, List.set_cons_succ, List.set_cons_zero]; try rfl)) ?_)
  (refine kind_pure (v := ?_) rfl ?_ ?_; rotate_left; (focus (intro K w' hK; go_simp; exact hK)); refine kinds_put (by (simp only [Act.put, List.setIfInBounds_toArray, List.set_cons_succ, List.set_cons_zero]; try rfl)) ?_)
  (refine kind_pure (v := ?_) rfl ?_ ?_; rotate_left; (focus (intro K w' hK; go_simp; exact hK)); refine kinds_put (by (simp only [Act.put, List.setIfInBounds_toArray, List.set_cons_succ, List.set_cons_zero]; try rfl)) ?_)
  (refine kind_pure (v := ?_) rfl ?_ ?_; rotate_left; (focus (intro K w' hK; go_simp; exact hK)); refine kinds_put (by (simp only [Act.put, List.setIfInBounds_toArray, List.set_cons_succ, List.set_cons_zero]; try rfl)) ?_)
  (refine kind_firm (v := ?_) rfl ?_ ?_; rotate_left; (focus (intro K w' hg hK; go_simp; refine Calls.mono (half_any _) ?_; rintro e w'' ⟨rfl, hb⟩; refine ⟨_, rfl, ?_⟩; exact hK _ hb)); refine kinds_put (by (simp only [Act.put, List.setIfInBounds_toArray, List.set_cons_succ, List.set_cons_zero]; try rfl)) ?_)
  (refine kind_pure (v := ?_) rfl ?_ ?_; rotate_left; (focus (intro K w' hK; go_simp; exact hK)); refine kinds_put (by (simp only [Act.put, List.setIfInBounds_toArray, List.set_cons_succ, List.set_cons_zero]; try rfl)) ?_)
  (refine kind_pure (v := ?_) rfl ?_ ?_; rotate_left; (focus (intro K w' hK; go_simp; exact hK)); refine kinds_put (by (simp only [Act.put, List.setIfInBounds_toArray, List.set_cons_succ, List.set_cons_zero]; try rfl)) ?_)
  refine kind_end ?_
  intro w8 h8
  replace hF0 := (hF0.drew.after h8)
  have bwsz := Below.size bw
  replace bw := below_call h8 (w := w) (by first | exact (Below.drew bw) | go_grown)
  clear h8 bwsz
  clear k1 k2 k3 k4
  go_wp2
  go_ret
  exact ⟨rfl, (by first | exact bw | go_grown)⟩
set_option maxRecDepth 20000 in
set_option maxHeartbeats 2000000 in
theorem powers_true_no (a b : Nat) (ha : a < RR) (hb : b < RR) (h : a < pN true) (h0 : a ≠ 0) (hq : fmlN true (fpwN true a (rtN true)) (fpwN true a (rtN true)) ≠ a) (w : World) : Calls Try.prog 3 #[.bool true, num a, num b] w fun e w' => e = .returned (.bool true) ∧ Below w.heap.size w w' := by
  have q1 : ∀ w, (Op.equalIn 10000 24 (num (fpwN true a (ieN true))) (num (fpwN true a (ieN true)))).run Try.prog w = .ok true w := by intro w; exact eqin_same (fpwN true a (ieN true)) _
  have q2 : ∀ w, (Op.equalIn 10000 24 (num 0) (zeroV)).run Try.prog w = .ok true w := by intro w; rw [← num_zero]; exact eqin_same 0 _
  have q3 : ∀ w, (Op.equalIn 10000 24 (num (fpwN true a b)) (num (fpwN true a b))).run Try.prog w = .ok true w := by intro w; exact eqin_same (fpwN true a b) _
  go_enter Try.func3, Try.ntmps3
  go_wp2_with fail
  (with_reducible refine (of_any true _).mono ?_)
  rintro e w1 ⟨f0, g0, rfl, hF0, h1⟩
  have k1 := (((Blk.newAt (n := w.heap.size) _ _ _ (by first | rfl | simp)).alloc _).after h1)
  have k2 := ((Blk.newAt (n := w.heap.size + 1) _ _ _ (by first | rfl | simp)).after h1)
  have bw := below_call h1 (w := w) (by first | exact (below_alloc (Below.alloc (Below.refl _ _) (Below.size (Below.refl _ _)) _) _) | go_grown)
  clear h1
  obtain ⟨k1_c, k1_f, k1_l, k1_m, k1_n⟩ := k1.knows
  obtain ⟨k2_c, k2_f, k2_l, k2_m, k2_n⟩ := k2.knows
  go_wp2_with fail
  (with_reducible refine (fpow_yes (hF0.alloc _) a b hb h).mono ?_)
  rintro e w2 ⟨rfl, h2⟩
  clear k1_c k1_f k1_m k1_n k2_c k2_f k2_m k2_n
  have o3 : w.heap.size + 1 < w1.heap.size := by first | exact k2_l | omega
  replace k1 := ((k1.alloc _).after h2)
  replace k2 := ((k2.alloc _).after h2)
  replace hF0 := ((hF0.alloc _).after h2)
  have k3 := ((Blk.newAt (n := w1.heap.size) _ _ _ (by first | rfl | simp)).after h2)
  have bwsz := Below.size bw
  replace bw := below_call h2 (w := w) (by first | exact (Below.alloc bw (Below.size bw) _) | go_grown)
  clear h2 bwsz k1_l k2_l
  obtain ⟨k1_c, k1_f, k1_l, k1_m, k1_n⟩ := k1.knows
  obtain ⟨k2_c, k2_f, k2_l, k2_m, k2_n⟩ := k2.knows
  obtain ⟨k3_c, k3_f, k3_l, k3_m, k3_n⟩ := k3.knows
  go_wp2_with fail
  (with_reducible refine (finv_yes (hF0.alloc _) a h h0).mono ?_)
  rintro e w3 ⟨rfl, h3⟩
  clear k1_c k1_f k1_m k1_n k2_c k2_f k2_m k2_n k3_c k3_f k3_m k3_n
  have o4 : w1.heap.size < w2.heap.size := by first | exact k3_l | omega
  replace k1 := ((k1.alloc _).after h3)
  replace k2 := ((k2.alloc _).after h3)
  replace hF0 := ((hF0.alloc _).after h3)
  replace k3 := ((k3.alloc _).after h3)
  have k4 := ((Blk.newAt (n := w2.heap.size) _ _ _ (by first | rfl | simp)).after h3)
  have bwsz := Below.size bw
  replace bw := below_call h3 (w := w) (by first | exact (Below.alloc bw (Below.size bw) _) | go_grown)
  clear h3 bwsz k1_l k2_l k3_l
  obtain ⟨k1_c, k1_f, k1_l, k1_m, k1_n⟩ := k1.knows
  obtain ⟨k2_c, k2_f, k2_l, k2_m, k2_n⟩ := k2.knows
  obtain ⟨k3_c, k3_f, k3_l, k3_m, k3_n⟩ := k3.knows
  obtain ⟨k4_c, k4_f, k4_l, k4_m, k4_n⟩ := k4.knows
  go_wp2_with fail
  (with_reducible refine (rinvert_yes a h h0 _).mono ?_)
  rintro e w4 ⟨rfl, h4⟩
  clear k1_c k1_f k1_m k1_n k2_c k2_f k2_m k2_n k3_c k3_f k3_m k3_n k4_c k4_f k4_m k4_n
  have o5 : w2.heap.size < w3.heap.size := by first | exact k4_l | omega
  replace k1 := ((k1.alloc _).after h4)
  replace k2 := ((k2.alloc _).after h4)
  replace hF0 := ((hF0.alloc _).after h4)
  replace k3 := ((k3.alloc _).after h4)
  replace k4 := ((k4.alloc _).after h4)
  have k5 := ((Blk.newAt (n := w3.heap.size) _ _ _ (by first | rfl | simp)).after h4)
  have bwsz := Below.size bw
  replace bw := below_call h4 (w := w) (by first | exact (Below.alloc bw (Below.size bw) _) | go_grown)
  clear h4 bwsz k1_l k2_l k3_l k4_l
  obtain ⟨k1_c, k1_f, k1_l, k1_m, k1_n⟩ := k1.knows
  obtain ⟨k2_c, k2_f, k2_l, k2_m, k2_n⟩ := k2.knows
  obtain ⟨k3_c, k3_f, k3_l, k3_m, k3_n⟩ := k3.knows
  obtain ⟨k4_c, k4_f, k4_l, k4_m, k4_n⟩ := k4.knows
  obtain ⟨k5_c, k5_f, k5_l, k5_m, k5_n⟩ := k5.knows
  go_wp2_with fail
  (with_reducible refine (fsqrt_bad (hF0.alloc _) a h hq).mono ?_)
  rintro e w5 ⟨rfl, h5⟩
  clear k1_c k1_f k1_m k1_n k2_c k2_f k2_m k2_n k3_c k3_f k3_m k3_n k4_c k4_f k4_m k4_n k5_c k5_f k5_m k5_n
  have o6 : w3.heap.size < w4.heap.size := by first | exact k5_l | omega
  replace k1 := ((k1.alloc _).after h5)
  replace k2 := ((k2.alloc _).after h5)
  replace hF0 := ((hF0.alloc _).after h5)
  replace k3 := ((k3.alloc _).after h5)
  replace k4 := ((k4.alloc _).after h5)
  replace k5 := ((k5.alloc _).after h5)
  have k6 := ((Blk.newAt (n := w4.heap.size) _ _ _ (by first | rfl | simp)).after h5)
  have bwsz := Below.size bw
  replace bw := below_call h5 (w := w) (by first | exact (Below.alloc bw (Below.size bw) _) | go_grown)
  clear h5 bwsz k1_l k2_l k3_l k4_l k5_l
  obtain ⟨k1_c, k1_f, k1_l, k1_m, k1_n⟩ := k1.knows
  obtain ⟨k2_c, k2_f, k2_l, k2_m, k2_n⟩ := k2.knows
  obtain ⟨k3_c, k3_f, k3_l, k3_m, k3_n⟩ := k3.knows
  obtain ⟨k4_c, k4_f, k4_l, k4_m, k4_n⟩ := k4.knows
  obtain ⟨k5_c, k5_f, k5_l, k5_m, k5_n⟩ := k5.knows
  obtain ⟨k6_c, k6_f, k6_l, k6_m, k6_n⟩ := k6.knows
  go_wp2_with fail
  (with_reducible refine (rsqrt_bad a h hq _).mono ?_)
  rintro e w6 ⟨rfl, h6⟩
  clear k1_c k1_f k1_m k1_n k2_c k2_f k2_m k2_n k3_c k3_f k3_m k3_n k4_c k4_f k4_m k4_n k5_c k5_f k5_m k5_n k6_c k6_f k6_m k6_n
  have o7 : w4.heap.size < w5.heap.size := by first | exact k6_l | omega
  replace k1 := ((k1.alloc _).after h6)
  replace k2 := ((k2.alloc _).after h6)
  replace hF0 := ((hF0.alloc _).after h6)
  replace k3 := ((k3.alloc _).after h6)
  replace k4 := ((k4.alloc _).after h6)
  replace k5 := ((k5.alloc _).after h6)
  replace k6 := ((k6.alloc _).after h6)
  have k7 := ((Blk.newAt (n := w5.heap.size) _ _ _ (by first | rfl | simp)).after h6)
  have bwsz := Below.size bw
  replace bw := below_call h6 (w := w) (by first | exact (Below.alloc bw (Below.size bw) _) | go_grown)
  clear h6 bwsz k1_l k2_l k3_l k4_l k5_l k6_l
  obtain ⟨k1_c, k1_f, k1_l, k1_m, k1_n⟩ := k1.knows
  obtain ⟨k2_c, k2_f, k2_l, k2_m, k2_n⟩ := k2.knows
  obtain ⟨k3_c, k3_f, k3_l, k3_m, k3_n⟩ := k3.knows
  obtain ⟨k4_c, k4_f, k4_l, k4_m, k4_n⟩ := k4.knows
  obtain ⟨k5_c, k5_f, k5_l, k5_m, k5_n⟩ := k5.knows
  obtain ⟨k6_c, k6_f, k6_l, k6_m, k6_n⟩ := k6.knows
  obtain ⟨k7_c, k7_f, k7_l, k7_m, k7_n⟩ := k7.knows
  go_wp2_with fail
  (with_reducible refine (rhas_yes a h _).mono ?_)
  rintro e w7 ⟨rfl, h7⟩
  clear k1_c k1_f k1_m k1_n k2_c k2_f k2_m k2_n k3_c k3_f k3_m k3_n k4_c k4_f k4_m k4_n k5_c k5_f k5_m k5_n k6_c k6_f k6_m k6_n k7_c k7_f k7_m k7_n
  have o8 : w5.heap.size < w6.heap.size := by first | exact k7_l | omega
  replace k1 := ((k1.alloc _).after h7)
  replace k2 := ((k2.alloc _).after h7)
  replace hF0 := ((hF0.alloc _).after h7)
  replace k3 := ((k3.alloc _).after h7)
  replace k4 := ((k4.alloc _).after h7)
  have bwsz := Below.size bw
  replace bw := below_call h7 (w := w) (by first | exact (Below.alloc bw (Below.size bw) _) | go_grown)
  clear h7 bwsz k1_l k2_l k3_l k4_l k5_l k6_l k7_l
  clear k5 k6 k7
  obtain ⟨k1_c, k1_f, k1_l, k1_m, k1_n⟩ := k1.knows
  obtain ⟨k2_c, k2_f, k2_l, k2_m, k2_n⟩ := k2.knows
  obtain ⟨k3_c, k3_f, k3_l, k3_m, k3_n⟩ := k3.knows
  obtain ⟨k4_c, k4_f, k4_l, k4_m, k4_n⟩ := k4.knows
  go_upto_region 9 with (fail)
  clear k1_c k1_f k1_m k1_n k2_c k2_f k2_m k2_n k3_c k3_f k3_m k3_n k4_c k4_f k4_m k4_n
  clear k1_l k2_l k3_l k4_l
  refine wp_region_all [] 23 [(0, 1), (1, 1), (2, 1), (3, 0), (4, 1), (5, 1), (6, 1), (7, 1), (8, 1), (9, 1), (10, 1), (11, 0), (12, 0), (13, 0), (14, 0), (15, 0), (16, 1), (17, 1), (18, 1), (19, 1), (20, 0), (21, 1), (22, 1)] (by kernel_rfl) (by kernel_rfl) ?_
  (refine kind_pure (v := ?_) rfl ?_ ?_; rotate_left; (focus (intro K w' hK; go_simp; exact hK)); refine kinds_put (by (simp only [Act.put, List.setIfInBounds_toArray, List.set_cons_succ, List.set_cons_zero]; try rfl)) ?_)
  (refine kind_pure (v := ?_) rfl ?_ ?_; rotate_left; (focus (intro K w' hK; go_simp; exact hK)); refine kinds_put (by (simp only [Act.put, List.setIfInBounds_toArray, List.set_cons_succ, List.set_cons_zero]; try rfl)) ?_)
  (refine kind_pure (v := ?_) rfl ?_ ?_; rotate_left; (focus (intro K w' hK; go_simp; exact hK)); refine kinds_put (by (simp only [Act.put, List.setIfInBounds_toArray, List.set_cons_succ, List.set_cons_zero]; try rfl)) ?_)
  (refine kind_firm (v := ?_) rfl ?_ ?_; rotate_left; (focus (intro K w' hg hK; go_simp; exact hK _ (Grow.refl _))); refine kinds_put (by (simp only [Act.put, List.setIfInBounds_toArray, List.set_cons_succ, List.set_cons_zero]; try rfl)) ?_)
  (refine kind_pure (v := ?_) rfl ?_ ?_; rotate_left; (focus (intro K w' hK; go_simp; exact hK)); refine kinds_put (by (simp only [Act.put, List.setIfInBounds_toArray, List.set_cons_succ, List.set_cons_zero]; try rfl)) ?_)
  (refine kind_pure (v := ?_) rfl ?_ ?_; rotate_left; (focus (intro K w' hK; go_simp; exact hK)); refine kinds_put (by (simp only [Act.put, List.setIfInBounds_toArray, List.set_cons_succ, List.set_cons_zero]; try rfl)) ?_)
  (refine kind_pure (v := ?_) rfl ?_ ?_; rotate_left; (focus (intro K w' hK; go_simp; exact hK)); refine kinds_put (by (simp only [Act.put, List.setIfInBounds_toArray, List.set_cons_succ, List.set_cons_zero]; try rfl)) ?_)
  (refine kind_pure (v := ?_) rfl ?_ ?_; rotate_left; (focus (intro K w' hK; go_simp; exact hK)); refine kinds_put (by (simp only [Act.put, List.setIfInBounds_toArray, List.set_cons_succ, List.set_cons_zero]; try rfl)) ?_)
  (refine kind_pure (v := ?_) rfl ?_ ?_; rotate_left; (focus (intro K w' hK; go_simp; exact hK)); refine kinds_put (by (simp only [Act.put, List.setIfInBounds_toArray, List.set_cons_succ, List.set_cons_zero]; try rfl)) ?_)
  (refine kind_pure (v := ?_) rfl ?_ ?_; rotate_left; (focus (intro K w' hK; go_simp; exact hK)); refine kinds_put (by (simp only [Act.put, List.setIfInBounds_toArray, List.set_cons_succ, List.set_cons_zero]; try rfl)) ?_)
  (refine kind_pure (v := ?_) rfl ?_ ?_; rotate_left; (focus (intro K w' hK; go_simp; exact hK)); refine kinds_put (by (simp only [Act.put, List.setIfInBounds_toArray, List.set_cons_succ, List.set_cons_zero]; try rfl)) ?_)
  (refine kind_firm (v := ?_) rfl ?_ ?_; rotate_left; (focus (intro K w' hg hK; have hc1 := (k4.drew.after hg).cell; go_simp; exact hK _ (Grow.refl _))); refine kinds_put (by (simp only [Act.put, List.setIfInBounds_toArray, List.set_cons_succ, List.set_cons_zero]; try rfl)) ?_)
  (refine kind_firm (v := ?_) rfl ?_ ?_; rotate_left; (focus (intro K w' hg hK; have hc1 := (k3.drew.after hg).cell; go_simp; exact hK _ (Grow.refl _))); refine kinds_put (by (simp only [Act.put, List.setIfInBounds_toArray, List.set_cons_succ, List.set_cons_zero]; try rfl)) ?_)
  (refine kind_firm (v := ?_) rfl ?_ ?_; rotate_left; (focus (intro K w' hg hK; have hc1 := (k1.drew.after hg).cell; go_simp; exact hK _ (Grow.refl _))); refine kinds_put (by (simp only [Act.put, List.setIfInBounds_toArray, List.set_cons_succ, List.set_cons_zero]; try rfl)) ?_)
  (refine kind_firm (v := ?_) rfl ?_ ?_; rotate_left; (focus (intro K w' hg hK; have hc1 := (k2.drew.after hg).cell; go_simp; exact hK _ (Grow.refl _))); refine kinds_put (by (simp only [Act.put, List.setIfInBounds_toArray, List.set_cons_succ, List.set_cons_zero]; try rfl)) ?_)
  (refine kind_firm (v := ?_) rfl ?_ ?_; rotate_left; (focus (intro K w' hg hK; go_simp; refine Calls.mono (rpow a b ha hb _) ?_; rintro e w'' ⟨rfl, hb⟩; refine ⟨_, rfl, ?_⟩; exact hK _ hb)); refine kinds_put (by (simp only [Act.put, List.setIfInBounds_toArray, List.set_cons_succ, List.set_cons_zero]; try rfl)) ?_)
  (refine kind_pure (v := ?_) rfl ?_ ?_; rotate_left; (focus (intro K w' hK; go_simp; exact hK)); refine kinds_put (by (simp only [Act.put, List.setIfInBounds_toArray, List.set_cons_succ, List.set_cons_zero]; try rfl)) ?_)
  (refine kind_pure (v := ?_) rfl ?_ ?_; rotate_left; (focus (intro K w' hK; go_simp; exact hK)); refine kinds_put (by (simp only [Act.put, List.setIfInBounds_toArray, List.set_cons_succ, List.set_cons_zero]; try rfl)) ?_)
  (refine kind_pure (v := ?_) rfl ?_ ?_; rotate_left; (focus (intro K w' hK; go_simp; exact hK)); refine kinds_put (by (simp only [Act.put, List.setIfInBounds_toArray, List.set_cons_succ, List.set_cons_zero]; try rfl)) ?_)
  (refine kind_pure (v := ?_) rfl ?_ ?_; rotate_left; (focus (intro K w' hK; go_simp; exact hK)); refine kinds_put (by (simp only [Act.put, List.setIfInBounds_toArray, List.set_cons_succ, List.set_cons_zero]; try rfl)) ?_)
  (refine kind_firm (v := ?_) rfl ?_ ?_; rotate_left; (focus (intro K w' hg hK; go_simp; refine Calls.mono (half_any _) ?_; rintro e w'' ⟨rfl, hb⟩; refine ⟨_, rfl, ?_⟩; exact hK _ hb)); refine kinds_put (by (simp only [Act.put, List.setIfInBounds_toArray, List.set_cons_succ, List.set_cons_zero]; try rfl)) ?_)
  (refine kind_pure (v := ?_) rfl ?_ ?_; rotate_left; (focus (intro K w' hK; go_simp; exact hK)); refine kinds_put (by (simp only [Act.put, List.setIfInBounds_toArray, List.set_cons_succ, List.set_cons_zero]; try rfl)) ?_)
  (refine kind_pure (v := ?_) rfl ?_ ?_; rotate_left; (focus (intro K w' hK; go_simp; exact hK)); refine kinds_put (by (simp only [Act.put, List.setIfInBounds_toArray, List.set_cons_succ, List.set_cons_zero]; try rfl)) ?_)
  refine kind_end ?_
  intro w8 h8
  replace hF0 := (hF0.drew.after h8)
  have bwsz := Below.size bw
  replace bw := below_call h8 (w := w) (by first | exact (Below.drew bw) | go_grown)
  clear h8 bwsz
  clear k1 k2 k3 k4
  go_wp2
  go_ret
  exact ⟨rfl, (by first | exact bw | go_grown)⟩
theorem powers_walk (base : Bool) (a b : Nat) (ha : a < RR) (hb : b < RR) (w : World) : Calls Try.prog 3 #[.bool base, num a, num b] w fun e w' => e = .returned (.bool true) ∧ Below w.heap.size w w' := by
  by_cases h : a < pN base
  · by_cases h0 : a = 0
    · subst h0; cases base
      · exact powers_zero_false b hb w
      · exact powers_zero_true b hb w
    · cases base
      · exact powers_false a b ha hb h h0 w
      · by_cases hq : fmlN true (fpwN true a (rtN true)) (fpwN true a (rtN true)) = a
        · exact powers_true_yes a b ha hb h h0 hq w
        · exact powers_true_no a b ha hb h h0 hq w
  · exact powers_nox base a b ha hb h w
end Go.Proofs.Ytlibfjemdiochaa
