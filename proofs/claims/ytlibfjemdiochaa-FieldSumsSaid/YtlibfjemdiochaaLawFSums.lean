/- FieldSums, the walk. -/
import Derived.Test.YtlibfjemdiochaaLF1
namespace Go.Proofs.Ytlibfjemdiochaa
set_option linter.unusedVariables false
set_option linter.unusedSimpArgs false
open Go.RowKit

set_option maxRecDepth 20000 in
set_option maxHeartbeats 2000000 in
theorem sums_in (base : Bool) (a b : Nat) (ha : a < RR) (hb : b < RR) (h : a < pN base) (k : b < pN base) (w : World) : Calls Try.prog 9 #[.bool base, num a, num b] w fun e w' => e = .returned (.bool true) ∧ Below w.heap.size w w' := by
  have q1 : ∀ w, (Op.equalIn 10000 24 (num (pN base)) (num (pN base))).run Try.prog w = .ok true w := by intro w; exact eqin_same (pN base) _
  have q2 : ∀ w, (Op.equalIn 10000 24 (num (fadN base a b)) (num (fadN base a b))).run Try.prog w = .ok true w := by intro w; exact eqin_same (fadN base a b) _
  have q3 : ∀ w, (Op.equalIn 10000 24 (num (fsbN base a b)) (num (fsbN base a b))).run Try.prog w = .ok true w := by intro w; exact eqin_same (fsbN base a b) _
  have cl3 : ∀ W, Calls Try.prog 34 #[rfV base, zeroV, num a] W fun e w' => e = .returned (num (fsbN base 0 a)) ∧ Below W.heap.size W w' := by intro W; rw [← num_zero]; exact rfsub 0 a (pN_pos base) h _
  have q4 : ∀ w, (Op.equalIn 10000 24 (num (fsbN base 0 a)) (num (fsbN base 0 a))).run Try.prog w = .ok true w := by intro w; exact eqin_same (fsbN base 0 a) _
  go_enter Try.func9, Try.ntmps9
  go_wp2_with fail
  (with_reducible refine (of_any base _).mono ?_)
  rintro e w1 ⟨f0, g0, rfl, hF0, h1⟩
  have k1 := (((Blk.newAt (n := w.heap.size) _ _ _ (by first | rfl | simp)).alloc _).after h1)
  have k2 := ((Blk.newAt (n := w.heap.size + 1) _ _ _ (by first | rfl | simp)).after h1)
  have bw := below_call h1 (w := w) (by first | exact (below_alloc (Below.alloc (Below.refl _ _) (Below.size (Below.refl _ _)) _) _) | go_grown)
  clear h1
  obtain ⟨k1_c, k1_f, k1_l, k1_m, k1_n⟩ := k1.knows
  obtain ⟨k2_c, k2_f, k2_l, k2_m, k2_n⟩ := k2.knows
  go_wp2_with fail
  (with_reducible refine (fadd_yes (hF0.alloc _) a b h k).mono ?_)
  rintro e w2 ⟨rfl, h2⟩
  clear k1_c k1_f k1_m k1_n k2_c k2_f k2_m k2_n
  have o3 : w.heap.size + 1 < w1.heap.size := by first | exact k2_l | omega
  replace k1 := ((k1.alloc _).after h2)
  replace k2 := ((k2.alloc _).after h2)
  replace hF0 := ((hF0.alloc _).after h2)
  have k3 := ((Blk.newAt (n := w1.heap.size) _ _ _ (by first | rfl | simp)).after h2)
  have bwsz := Below.size bw
  replace bw := below_call h2 (w := w) (by first | exact (Below.alloc bw (Below.size bw) _) | go_grown)
  clear h2 bwsz k1_l k2_l
  obtain ⟨k1_c, k1_f, k1_l, k1_m, k1_n⟩ := k1.knows
  obtain ⟨k2_c, k2_f, k2_l, k2_m, k2_n⟩ := k2.knows
  obtain ⟨k3_c, k3_f, k3_l, k3_m, k3_n⟩ := k3.knows
  go_wp2_with fail
  (with_reducible refine (fsub_yes (hF0.alloc _) a b h k).mono ?_)
  rintro e w3 ⟨rfl, h3⟩
  clear k1_c k1_f k1_m k1_n k2_c k2_f k2_m k2_n k3_c k3_f k3_m k3_n
  have o4 : w1.heap.size < w2.heap.size := by first | exact k3_l | omega
  replace k1 := ((k1.alloc _).after h3)
  replace k2 := ((k2.alloc _).after h3)
  replace hF0 := ((hF0.alloc _).after h3)
  replace k3 := ((k3.alloc _).after h3)
  have k4 := ((Blk.newAt (n := w2.heap.size) _ _ _ (by first | rfl | simp)).after h3)
  have bwsz := Below.size bw
  replace bw := below_call h3 (w := w) (by first | exact (Below.alloc bw (Below.size bw) _) | go_grown)
  clear h3 bwsz k1_l k2_l k3_l
  obtain ⟨k1_c, k1_f, k1_l, k1_m, k1_n⟩ := k1.knows
  obtain ⟨k2_c, k2_f, k2_l, k2_m, k2_n⟩ := k2.knows
  obtain ⟨k3_c, k3_f, k3_l, k3_m, k3_n⟩ := k3.knows
  obtain ⟨k4_c, k4_f, k4_l, k4_m, k4_n⟩ := k4.knows
  go_wp2_with fail
  (with_reducible refine (fneg_yes (hF0.alloc _) a h).mono ?_)
  rintro e w4 ⟨rfl, h4⟩
  clear k1_c k1_f k1_m k1_n k2_c k2_f k2_m k2_n k3_c k3_f k3_m k3_n k4_c k4_f k4_m k4_n
  have o5 : w2.heap.size < w3.heap.size := by first | exact k4_l | omega
  replace k1 := ((k1.alloc _).after h4)
  replace k2 := ((k2.alloc _).after h4)
  replace hF0 := ((hF0.alloc _).after h4)
  replace k3 := ((k3.alloc _).after h4)
  replace k4 := ((k4.alloc _).after h4)
  have k5 := ((Blk.newAt (n := w3.heap.size) _ _ _ (by first | rfl | simp)).after h4)
  have bwsz := Below.size bw
  replace bw := below_call h4 (w := w) (by first | exact (Below.alloc bw (Below.size bw) _) | go_grown)
  clear h4 bwsz k1_l k2_l k3_l k4_l
  obtain ⟨k1_c, k1_f, k1_l, k1_m, k1_n⟩ := k1.knows
  obtain ⟨k2_c, k2_f, k2_l, k2_m, k2_n⟩ := k2.knows
  obtain ⟨k3_c, k3_f, k3_l, k3_m, k3_n⟩ := k3.knows
  obtain ⟨k4_c, k4_f, k4_l, k4_m, k4_n⟩ := k4.knows
  obtain ⟨k5_c, k5_f, k5_l, k5_m, k5_n⟩ := k5.knows
  go_wp2_with fail
  (with_reducible refine (rask_yes a b h k _).mono ?_)
  rintro e w5 ⟨rfl, h5⟩
  clear k1_c k1_f k1_m k1_n k2_c k2_f k2_m k2_n k3_c k3_f k3_m k3_n k4_c k4_f k4_m k4_n k5_c k5_f k5_m k5_n
  have o6 : w3.heap.size < w4.heap.size := by first | exact k5_l | omega
  replace k1 := ((k1.alloc _).after h5)
  replace k2 := ((k2.alloc _).after h5)
  replace hF0 := ((hF0.alloc _).after h5)
  replace k3 := ((k3.alloc _).after h5)
  replace k4 := ((k4.alloc _).after h5)
  replace k5 := ((k5.alloc _).after h5)
  have k6 := ((Blk.newAt (n := w4.heap.size) _ _ _ (by first | rfl | simp)).after h5)
  have bwsz := Below.size bw
  replace bw := below_call h5 (w := w) (by first | exact (Below.alloc bw (Below.size bw) _) | go_grown)
  clear h5 bwsz k1_l k2_l k3_l k4_l k5_l
  obtain ⟨k1_c, k1_f, k1_l, k1_m, k1_n⟩ := k1.knows
  obtain ⟨k2_c, k2_f, k2_l, k2_m, k2_n⟩ := k2.knows
  obtain ⟨k3_c, k3_f, k3_l, k3_m, k3_n⟩ := k3.knows
  obtain ⟨k4_c, k4_f, k4_l, k4_m, k4_n⟩ := k4.knows
  obtain ⟨k5_c, k5_f, k5_l, k5_m, k5_n⟩ := k5.knows
  obtain ⟨k6_c, k6_f, k6_l, k6_m, k6_n⟩ := k6.knows
  go_upto_region 6 with (fail)
  clear k1_c k1_f k1_m k1_n k2_c k2_f k2_m k2_n k3_c k3_f k3_m k3_n k4_c k4_f k4_m k4_n k5_c k5_f k5_m k5_n k6_c k6_f k6_m k6_n
  clear k1_l k2_l k3_l k4_l k5_l k6_l
  refine wp_region_all [] 33 [(0, 1), (1, 1), (2, 1), (3, 1), (4, 1), (5, 1), (6, 1), (7, 1), (8, 1), (9, 1), (10, 1), (11, 0), (12, 0), (13, 0), (14, 1), (15, 1), (16, 1), (17, 1), (18, 0), (19, 1), (20, 0), (21, 1), (22, 1), (23, 1), (24, 1), (25, 0), (26, 0), (27, 1), (28, 0), (29, 0), (30, 0), (31, 1), (32, 1)] (by kernel_rfl) (by kernel_rfl) ?_
  (refine kind_pure (v := ?_) rfl ?_ ?_; rotate_left; (focus (intro K w' hK; go_simp; exact hK)); refine kinds_put (by (simp only [Act.put, List.setIfInBounds_toArray, List.set_cons_succ, List.set_cons_zero]; try rfl)) ?_)
  (refine kind_pure (v := ?_) rfl ?_ ?_; rotate_left; (focus (intro K w' hK; go_simp; exact hK)); refine kinds_put (by (simp only [Act.put, List.setIfInBounds_toArray, List.set_cons_succ, List.set_cons_zero]; try rfl)) ?_)
  (refine kind_pure (v := ?_) rfl ?_ ?_; rotate_left; (focus (intro K w' hK; go_simp; exact hK)); refine kinds_put (by (simp only [Act.put, List.setIfInBounds_toArray, List.set_cons_succ, List.set_cons_zero]; try rfl)) ?_)
  (refine kind_pure (v := ?_) rfl ?_ ?_; rotate_left; (focus (intro K w' hK; go_simp; exact hK)); refine kinds_put (by (simp only [Act.put, List.setIfInBounds_toArray, List.set_cons_succ, List.set_cons_zero]; try rfl)) ?_)
  (refine kind_pure (v := ?_) rfl ?_ ?_; rotate_left; (focus (intro K w' hK; go_simp; exact hK)); refine kinds_put (by (simp only [Act.put, List.setIfInBounds_toArray, List.set_cons_succ, List.set_cons_zero]; try rfl)) ?_)
  (refine kind_pure (v := ?_) rfl ?_ ?_; rotate_left; (focus (intro K w' hK; go_simp; exact hK)); refine kinds_put (by (simp only [Act.put, List.setIfInBounds_toArray, List.set_cons_succ, List.set_cons_zero]; try rfl)) ?_)
  (refine kind_pure (v := ?_) rfl ?_ ?_; rotate_left; (focus (intro K w' hK; go_simp; exact hK)); refine kinds_put (by (simp only [Act.put, List.setIfInBounds_toArray, List.set_cons_succ, List.set_cons_zero]; try rfl)) ?_)
  (refine kind_pure (v := ?_) rfl ?_ ?_; rotate_left; (focus (intro K w' hK; go_simp; exact hK)); refine kinds_put (by (simp only [Act.put, List.setIfInBounds_toArray, List.set_cons_succ, List.set_cons_zero]; try rfl)) ?_)
  (refine kind_pure (v := ?_) rfl ?_ ?_; rotate_left; (focus (intro K w' hK; go_simp; exact hK)); refine kinds_put (by (simp only [Act.put, List.setIfInBounds_toArray, List.set_cons_succ, List.set_cons_zero]; try rfl)) ?_)
  (refine kind_pure (v := ?_) rfl ?_ ?_; rotate_left; (focus (intro K w' hK; go_simp; exact hK)); refine kinds_put (by (simp only [Act.put, List.setIfInBounds_toArray, List.set_cons_succ, List.set_cons_zero]; try rfl)) ?_)
  (refine kind_pure (v := ?_) rfl ?_ ?_; rotate_left; (focus (intro K w' hK; go_simp; exact hK)); refine kinds_put (by (simp only [Act.put, List.setIfInBounds_toArray, List.set_cons_succ, List.set_cons_zero]; try rfl)) ?_)
  (refine kind_firm (v := ?_) rfl ?_ ?_; rotate_left; (focus (intro K w' hg hK; have hc1 := (k3.drew.after hg).cell; go_simp; exact hK _ (Grow.refl _))); refine kinds_put (by (simp only [Act.put, List.setIfInBounds_toArray, List.set_cons_succ, List.set_cons_zero]; try rfl)) ?_)
  (refine kind_firm (v := ?_) rfl ?_ ?_; rotate_left; (focus (intro K w' hg hK; have hc1 := (k1.drew.after hg).cell; go_simp; exact hK _ (Grow.refl _))); refine kinds_put (by (simp only [Act.put, List.setIfInBounds_toArray, List.set_cons_succ, List.set_cons_zero]; try rfl)) ?_)
  (refine kind_firm (v := ?_) rfl ?_ ?_; rotate_left; (focus (intro K w' hg hK; go_simp; refine Calls.mono (rhas_yes a h _) ?_; rintro e w'' ⟨rfl, hb⟩; refine ⟨_, rfl, ?_⟩; exact hK _ hb)); refine kinds_put (by (simp only [Act.put, List.setIfInBounds_toArray, List.set_cons_succ, List.set_cons_zero]; try rfl)) ?_)
  (refine kind_pure (v := ?_) rfl ?_ ?_; rotate_left; (focus (intro K w' hK; go_simp; exact hK)); refine kinds_put (by (simp only [Act.put, List.setIfInBounds_toArray, List.set_cons_succ, List.set_cons_zero]; try rfl)) ?_)
  (refine kind_pure (v := ?_) rfl ?_ ?_; rotate_left; (focus (intro K w' hK; go_simp; exact hK)); refine kinds_put (by (simp only [Act.put, List.setIfInBounds_toArray, List.set_cons_succ, List.set_cons_zero]; try rfl)) ?_)
  (refine kind_pure (v := ?_) rfl ?_ ?_; rotate_left; (focus (intro K w' hK; go_simp; exact hK)); refine kinds_put (by (simp only [Act.put, List.setIfInBounds_toArray, List.set_cons_succ, List.set_cons_zero]; try rfl)) ?_)
  (refine kind_pure (v := ?_) rfl ?_ ?_; rotate_left; (focus (intro K w' hK; go_simp; exact hK)); refine kinds_put (by (simp only [Act.put, List.setIfInBounds_toArray, List.set_cons_succ, List.set_cons_zero]; try rfl)) ?_)
  (refine kind_firm (v := ?_) rfl ?_ ?_; rotate_left; (focus (intro K w' hg hK; go_simp; refine Calls.mono (modulus_any (hF0.drew.after hg)) ?_; rintro e w'' ⟨rfl, hb⟩; refine ⟨_, rfl, ?_⟩; exact hK _ hb)); refine kinds_put (by (simp only [Act.put, List.setIfInBounds_toArray, List.set_cons_succ, List.set_cons_zero]; try rfl)) ?_)
  (refine kind_pure (v := ?_) rfl ?_ ?_; rotate_left; (focus (intro K w' hK; go_simp; exact hK)); refine kinds_put (by (simp only [Act.put, List.setIfInBounds_toArray, List.set_cons_succ, List.set_cons_zero]; try rfl)) ?_)
  (refine kind_firm (v := ?_) rfl ?_ ?_; rotate_left; (focus (intro K w' hg hK; have hc1 := (k3.drew.after hg).cell; go_simp; exact hK _ (Grow.refl _))); refine kinds_put (by (simp only [Act.put, List.setIfInBounds_toArray, List.set_cons_succ, List.set_cons_zero]; try rfl)) ?_)
  (refine kind_pure (v := ?_) rfl ?_ ?_; rotate_left; (focus (intro K w' hK; go_simp; exact hK)); refine kinds_put (by (simp only [Act.put, List.setIfInBounds_toArray, List.set_cons_succ, List.set_cons_zero]; try rfl)) ?_)
  (refine kind_pure (v := ?_) rfl ?_ ?_; rotate_left; (focus (intro K w' hK; go_simp; exact hK)); refine kinds_put (by (simp only [Act.put, List.setIfInBounds_toArray, List.set_cons_succ, List.set_cons_zero]; try rfl)) ?_)
  (refine kind_pure (v := ?_) rfl ?_ ?_; rotate_left; (focus (intro K w' hK; go_simp; exact hK)); refine kinds_put (by (simp only [Act.put, List.setIfInBounds_toArray, List.set_cons_succ, List.set_cons_zero]; try rfl)) ?_)
  (refine kind_pure (v := ?_) rfl ?_ ?_; rotate_left; (focus (intro K w' hK; go_simp; exact hK)); refine kinds_put (by (simp only [Act.put, List.setIfInBounds_toArray, List.set_cons_succ, List.set_cons_zero]; try rfl)) ?_)
  (refine kind_firm (v := ?_) rfl ?_ ?_; rotate_left; (focus (intro K w' hg hK; have hc1 := (k1.drew.after hg).cell; go_simp; exact hK _ (Grow.refl _))); refine kinds_put (by (simp only [Act.put, List.setIfInBounds_toArray, List.set_cons_succ, List.set_cons_zero]; try rfl)) ?_)
  (refine kind_firm (v := ?_) rfl ?_ ?_; rotate_left; (focus (intro K w' hg hK; go_simp; refine Calls.mono (check_in (hF0.drew.after hg) a h) ?_; rintro e w'' ⟨rfl, hb⟩; refine ⟨_, rfl, ?_⟩; exact hK _ hb)); refine kinds_put (by (simp only [Act.put, List.setIfInBounds_toArray, List.set_cons_succ, List.set_cons_zero]; try rfl)) ?_)
  (refine kind_pure (v := ?_) rfl ?_ ?_; rotate_left; (focus (intro K w' hK; go_simp; exact hK)); refine kinds_put (by (simp only [Act.put, List.setIfInBounds_toArray, List.set_cons_succ, List.set_cons_zero]; try rfl)) ?_)
  (refine kind_firm (v := ?_) rfl ?_ ?_; rotate_left; (focus (intro K w' hg hK; have hc1 := (k3.drew.after hg).cell; go_simp; exact hK _ (Grow.refl _))); refine kinds_put (by (simp only [Act.put, List.setIfInBounds_toArray, List.set_cons_succ, List.set_cons_zero]; try rfl)) ?_)
  (refine kind_firm (v := ?_) rfl ?_ ?_; rotate_left; (focus (intro K w' hg hK; have hc1 := (k1.drew.after hg).cell; go_simp; exact hK _ (Grow.refl _))); refine kinds_put (by (simp only [Act.put, List.setIfInBounds_toArray, List.set_cons_succ, List.set_cons_zero]; try rfl)) ?_)
  (refine kind_firm (v := ?_) rfl ?_ ?_; rotate_left; (focus (intro K w' hg hK; go_simp; refine Calls.mono (rhas_yes a h _) ?_; rintro e w'' ⟨rfl, hb⟩; refine ⟨_, rfl, ?_⟩; exact hK _ hb)); refine kinds_put (by (simp only [Act.put, List.setIfInBounds_toArray, List.set_cons_succ, List.set_cons_zero]; try rfl)) ?_)
  (refine kind_pure (v := ?_) rfl ?_ ?_; rotate_left; (focus (intro K w' hK; go_simp; exact hK)); refine kinds_put (by (simp only [Act.put, List.setIfInBounds_toArray, List.set_cons_succ, List.set_cons_zero]; try rfl)) ?_)
  (refine kind_pure (v := ?_) rfl ?_ ?_; rotate_left; (focus (intro K w' hK; go_simp; exact hK)); refine kinds_put (by (simp only [Act.put, List.setIfInBounds_toArray, List.set_cons_succ, List.set_cons_zero]; try rfl)) ?_)
  refine kind_end ?_
  intro w6 h6
  replace k1 := (k1.drew.after h6)
  replace k2 := (k2.drew.after h6)
  replace hF0 := (hF0.drew.after h6)
  replace k3 := (k3.drew.after h6)
  replace k4 := (k4.drew.after h6)
  replace k5 := (k5.drew.after h6)
  replace k6 := (k6.drew.after h6)
  have bwsz := Below.size bw
  replace bw := below_call h6 (w := w) (by first | exact (Below.drew bw) | go_grown)
  clear h6 bwsz
  obtain ⟨k1_c, k1_f, k1_l, k1_m, k1_n⟩ := k1.knows
  obtain ⟨k2_c, k2_f, k2_l, k2_m, k2_n⟩ := k2.knows
  obtain ⟨k3_c, k3_f, k3_l, k3_m, k3_n⟩ := k3.knows
  obtain ⟨k4_c, k4_f, k4_l, k4_m, k4_n⟩ := k4.knows
  obtain ⟨k5_c, k5_f, k5_l, k5_m, k5_n⟩ := k5.knows
  obtain ⟨k6_c, k6_f, k6_l, k6_m, k6_n⟩ := k6.knows
  go_upto_region 10 with (fail)
  clear k1_c k1_f k1_m k1_n k2_c k2_f k2_m k2_n k3_c k3_f k3_m k3_n k4_c k4_f k4_m k4_n k5_c k5_f k5_m k5_n k6_c k6_f k6_m k6_n
  clear k1_l k2_l k3_l k4_l k5_l k6_l
  refine wp_region_all [] 26 [(0, 0), (1, 0), (2, 0), (3, 0), (4, 0), (5, 1), (6, 1), (7, 0), (8, 0), (9, 0), (10, 0), (11, 0), (12, 1), (13, 1), (14, 1), (15, 0), (16, 0), (17, 1), (18, 0), (19, 0), (20, 1), (21, 1), (22, 1), (23, 0), (24, 1), (25, 1)] (by kernel_rfl) (by kernel_rfl) ?_
  (refine kind_firm (v := ?_) rfl ?_ ?_; rotate_left; (focus (intro K w' hg hK; have hc1 := (k4.drew.after hg).cell; go_simp; exact hK _ (Grow.refl _))); refine kinds_put (by (simp only [Act.put, List.setIfInBounds_toArray, List.set_cons_succ, List.set_cons_zero]; try rfl)) ?_)
  (refine kind_firm (v := ?_) rfl ?_ ?_; rotate_left; (focus (intro K w' hg hK; have hc1 := (k3.drew.after hg).cell; go_simp; exact hK _ (Grow.refl _))); refine kinds_put (by (simp only [Act.put, List.setIfInBounds_toArray, List.set_cons_succ, List.set_cons_zero]; try rfl)) ?_)
  (refine kind_firm (v := ?_) rfl ?_ ?_; rotate_left; (focus (intro K w' hg hK; have hc1 := (k1.drew.after hg).cell; go_simp; exact hK _ (Grow.refl _))); refine kinds_put (by (simp only [Act.put, List.setIfInBounds_toArray, List.set_cons_succ, List.set_cons_zero]; try rfl)) ?_)
  (refine kind_firm (v := ?_) rfl ?_ ?_; rotate_left; (focus (intro K w' hg hK; have hc1 := (k2.drew.after hg).cell; go_simp; exact hK _ (Grow.refl _))); refine kinds_put (by (simp only [Act.put, List.setIfInBounds_toArray, List.set_cons_succ, List.set_cons_zero]; try rfl)) ?_)
  (refine kind_firm (v := ?_) rfl ?_ ?_; rotate_left; (focus (intro K w' hg hK; go_simp; refine Calls.mono (rfadd a b h k _) ?_; rintro e w'' ⟨rfl, hb⟩; refine ⟨_, rfl, ?_⟩; exact hK _ hb)); refine kinds_put (by (simp only [Act.put, List.setIfInBounds_toArray, List.set_cons_succ, List.set_cons_zero]; try rfl)) ?_)
  (refine kind_pure (v := ?_) rfl ?_ ?_; rotate_left; (focus (intro K w' hK; go_simp; exact hK)); refine kinds_put (by (simp only [Act.put, List.setIfInBounds_toArray, List.set_cons_succ, List.set_cons_zero]; try rfl)) ?_)
  (refine kind_pure (v := ?_) rfl ?_ ?_; rotate_left; (focus (intro K w' hK; go_simp; exact hK)); refine kinds_put (by (simp only [Act.put, List.setIfInBounds_toArray, List.set_cons_succ, List.set_cons_zero]; try rfl)) ?_)
  (refine kind_firm (v := ?_) rfl ?_ ?_; rotate_left; (focus (intro K w' hg hK; have hc1 := (k5.drew.after hg).cell; go_simp; exact hK _ (Grow.refl _))); refine kinds_put (by (simp only [Act.put, List.setIfInBounds_toArray, List.set_cons_succ, List.set_cons_zero]; try rfl)) ?_)
  (refine kind_firm (v := ?_) rfl ?_ ?_; rotate_left; (focus (intro K w' hg hK; have hc1 := (k3.drew.after hg).cell; go_simp; exact hK _ (Grow.refl _))); refine kinds_put (by (simp only [Act.put, List.setIfInBounds_toArray, List.set_cons_succ, List.set_cons_zero]; try rfl)) ?_)
  (refine kind_firm (v := ?_) rfl ?_ ?_; rotate_left; (focus (intro K w' hg hK; have hc1 := (k1.drew.after hg).cell; go_simp; exact hK _ (Grow.refl _))); refine kinds_put (by (simp only [Act.put, List.setIfInBounds_toArray, List.set_cons_succ, List.set_cons_zero]; try rfl)) ?_)
  (refine kind_firm (v := ?_) rfl ?_ ?_; rotate_left; (focus (intro K w' hg hK; have hc1 := (k2.drew.after hg).cell; go_simp; exact hK _ (Grow.refl _))); refine kinds_put (by (simp only [Act.put, List.setIfInBounds_toArray, List.set_cons_succ, List.set_cons_zero]; try rfl)) ?_)
  (refine kind_firm (v := ?_) rfl ?_ ?_; rotate_left; (focus (intro K w' hg hK; go_simp; refine Calls.mono (rfsub a b h k _) ?_; rintro e w'' ⟨rfl, hb⟩; refine ⟨_, rfl, ?_⟩; exact hK _ hb)); refine kinds_put (by (simp only [Act.put, List.setIfInBounds_toArray, List.set_cons_succ, List.set_cons_zero]; try rfl)) ?_)
  (refine kind_pure (v := ?_) rfl ?_ ?_; rotate_left; (focus (intro K w' hK; go_simp; exact hK)); refine kinds_put (by (simp only [Act.put, List.setIfInBounds_toArray, List.set_cons_succ, List.set_cons_zero]; try rfl)) ?_)
  (refine kind_pure (v := ?_) rfl ?_ ?_; rotate_left; (focus (intro K w' hK; go_simp; exact hK)); refine kinds_put (by (simp only [Act.put, List.setIfInBounds_toArray, List.set_cons_succ, List.set_cons_zero]; try rfl)) ?_)
  (refine kind_pure (v := ?_) rfl ?_ ?_; rotate_left; (focus (intro K w' hK; go_simp; exact hK)); refine kinds_put (by (simp only [Act.put, List.setIfInBounds_toArray, List.set_cons_succ, List.set_cons_zero]; try rfl)) ?_)
  (refine kind_firm (v := ?_) rfl ?_ ?_; rotate_left; (focus (intro K w' hg hK; have hc1 := (k6.drew.after hg).cell; go_simp; exact hK _ (Grow.refl _))); refine kinds_put (by (simp only [Act.put, List.setIfInBounds_toArray, List.set_cons_succ, List.set_cons_zero]; try rfl)) ?_)
  (refine kind_firm (v := ?_) rfl ?_ ?_; rotate_left; (focus (intro K w' hg hK; have hc1 := (k3.drew.after hg).cell; go_simp; exact hK _ (Grow.refl _))); refine kinds_put (by (simp only [Act.put, List.setIfInBounds_toArray, List.set_cons_succ, List.set_cons_zero]; try rfl)) ?_)
  (refine kind_pure (v := ?_) rfl ?_ ?_; rotate_left; (focus (intro K w' hK; go_simp; exact hK)); refine kinds_put (by (simp only [Act.put, List.setIfInBounds_toArray, List.set_cons_succ, List.set_cons_zero]; try rfl)) ?_)
  (refine kind_firm (v := ?_) rfl ?_ ?_; rotate_left; (focus (intro K w' hg hK; have hc1 := (k1.drew.after hg).cell; go_simp; exact hK _ (Grow.refl _))); refine kinds_put (by (simp only [Act.put, List.setIfInBounds_toArray, List.set_cons_succ, List.set_cons_zero]; try rfl)) ?_)
  (refine kind_firm (v := ?_) rfl ?_ ?_; rotate_left; (focus (intro K w' hg hK; go_simp; refine Calls.mono (cl3 _) ?_; rintro e w'' ⟨rfl, hb⟩; refine ⟨_, rfl, ?_⟩; exact hK _ hb)); refine kinds_put (by (simp only [Act.put, List.setIfInBounds_toArray, List.set_cons_succ, List.set_cons_zero]; try rfl)) ?_)
  (refine kind_pure (v := ?_) rfl ?_ ?_; rotate_left; (focus (intro K w' hK; go_simp; exact hK)); refine kinds_put (by (simp only [Act.put, List.setIfInBounds_toArray, List.set_cons_succ, List.set_cons_zero]; try rfl)) ?_)
  (refine kind_pure (v := ?_) rfl ?_ ?_; rotate_left; (focus (intro K w' hK; go_simp; exact hK)); refine kinds_put (by (simp only [Act.put, List.setIfInBounds_toArray, List.set_cons_succ, List.set_cons_zero]; try rfl)) ?_)
  (refine kind_pure (v := ?_) rfl ?_ ?_; rotate_left; (focus (intro K w' hK; go_simp; exact hK)); refine kinds_put (by (simp only [Act.put, List.setIfInBounds_toArray, List.set_cons_succ, List.set_cons_zero]; try rfl)) ?_)
  (refine kind_firm (v := ?_) rfl ?_ ?_; rotate_left; (focus (intro K w' hg hK; go_simp; refine Calls.mono (half_any _) ?_; rintro e w'' ⟨rfl, hb⟩; refine ⟨_, rfl, ?_⟩; exact hK _ hb)); refine kinds_put (by (simp only [Act.put, List.setIfInBounds_toArray, List.set_cons_succ, List.set_cons_zero]; try rfl)) ?_)
  (refine kind_pure (v := ?_) rfl ?_ ?_; rotate_left; (focus (intro K w' hK; go_simp; exact hK)); refine kinds_put (by (simp only [Act.put, List.setIfInBounds_toArray, List.set_cons_succ, List.set_cons_zero]; try rfl)) ?_)
  (refine kind_pure (v := ?_) rfl ?_ ?_; rotate_left; (focus (intro K w' hK; go_simp; exact hK)); refine kinds_put (by (simp only [Act.put, List.setIfInBounds_toArray, List.set_cons_succ, List.set_cons_zero]; try rfl)) ?_)
  refine kind_end ?_
  intro w7 h7
  replace hF0 := (hF0.drew.after h7)
  have bwsz := Below.size bw
  replace bw := below_call h7 (w := w) (by first | exact (Below.drew bw) | go_grown)
  clear h7 bwsz
  clear k1 k2 k3 k4 k5 k6
  go_wp2
  go_ret
  exact ⟨rfl, (by first | exact bw | go_grown)⟩
set_option maxRecDepth 20000 in
set_option maxHeartbeats 2000000 in
theorem sums_noy (base : Bool) (a b : Nat) (ha : a < RR) (hb : b < RR) (h : a < pN base) (k : ¬ b < pN base) (w : World) : Calls Try.prog 9 #[.bool base, num a, num b] w fun e w' => e = .returned (.bool true) ∧ Below w.heap.size w w' := by
  have q1 : ∀ w, (Op.equalIn 10000 24 (num (pN base)) (num (pN base))).run Try.prog w = .ok true w := by intro w; exact eqin_same (pN base) _
  have q2 : ∀ w, (Op.equalIn 10000 24 (num 0) (zeroV)).run Try.prog w = .ok true w := by intro w; rw [← num_zero]; exact eqin_same 0 _
  have cl2 : ∀ W, Calls Try.prog 34 #[rfV base, zeroV, num a] W fun e w' => e = .returned (num (fsbN base 0 a)) ∧ Below W.heap.size W w' := by intro W; rw [← num_zero]; exact rfsub 0 a (pN_pos base) h _
  have q3 : ∀ w, (Op.equalIn 10000 24 (num (fsbN base 0 a)) (num (fsbN base 0 a))).run Try.prog w = .ok true w := by intro w; exact eqin_same (fsbN base 0 a) _
  go_enter Try.func9, Try.ntmps9
  go_wp2_with fail
  (with_reducible refine (of_any base _).mono ?_)
  rintro e w1 ⟨f0, g0, rfl, hF0, h1⟩
  have k1 := (((Blk.newAt (n := w.heap.size) _ _ _ (by first | rfl | simp)).alloc _).after h1)
  have k2 := ((Blk.newAt (n := w.heap.size + 1) _ _ _ (by first | rfl | simp)).after h1)
  have bw := below_call h1 (w := w) (by first | exact (below_alloc (Below.alloc (Below.refl _ _) (Below.size (Below.refl _ _)) _) _) | go_grown)
  clear h1
  obtain ⟨k1_c, k1_f, k1_l, k1_m, k1_n⟩ := k1.knows
  obtain ⟨k2_c, k2_f, k2_l, k2_m, k2_n⟩ := k2.knows
  go_wp2_with fail
  (with_reducible refine (fadd_noy (hF0.alloc _) a b hb h k).mono ?_)
  rintro e w2 ⟨rfl, h2⟩
  clear k1_c k1_f k1_m k1_n k2_c k2_f k2_m k2_n
  have o3 : w.heap.size + 1 < w1.heap.size := by first | exact k2_l | omega
  replace k1 := ((k1.alloc _).after h2)
  replace k2 := ((k2.alloc _).after h2)
  replace hF0 := ((hF0.alloc _).after h2)
  have k3 := ((Blk.newAt (n := w1.heap.size) _ _ _ (by first | rfl | simp)).after h2)
  have bwsz := Below.size bw
  replace bw := below_call h2 (w := w) (by first | exact (Below.alloc bw (Below.size bw) _) | go_grown)
  clear h2 bwsz k1_l k2_l
  obtain ⟨k1_c, k1_f, k1_l, k1_m, k1_n⟩ := k1.knows
  obtain ⟨k2_c, k2_f, k2_l, k2_m, k2_n⟩ := k2.knows
  obtain ⟨k3_c, k3_f, k3_l, k3_m, k3_n⟩ := k3.knows
  go_wp2_with fail
  (with_reducible refine (fsub_noy (hF0.alloc _) a b hb h k).mono ?_)
  rintro e w3 ⟨rfl, h3⟩
  clear k1_c k1_f k1_m k1_n k2_c k2_f k2_m k2_n k3_c k3_f k3_m k3_n
  have o4 : w1.heap.size < w2.heap.size := by first | exact k3_l | omega
  replace k1 := ((k1.alloc _).after h3)
  replace k2 := ((k2.alloc _).after h3)
  replace hF0 := ((hF0.alloc _).after h3)
  replace k3 := ((k3.alloc _).after h3)
  have k4 := ((Blk.newAt (n := w2.heap.size) _ _ _ (by first | rfl | simp)).after h3)
  have bwsz := Below.size bw
  replace bw := below_call h3 (w := w) (by first | exact (Below.alloc bw (Below.size bw) _) | go_grown)
  clear h3 bwsz k1_l k2_l k3_l
  obtain ⟨k1_c, k1_f, k1_l, k1_m, k1_n⟩ := k1.knows
  obtain ⟨k2_c, k2_f, k2_l, k2_m, k2_n⟩ := k2.knows
  obtain ⟨k3_c, k3_f, k3_l, k3_m, k3_n⟩ := k3.knows
  obtain ⟨k4_c, k4_f, k4_l, k4_m, k4_n⟩ := k4.knows
  go_wp2_with fail
  (with_reducible refine (fneg_yes (hF0.alloc _) a h).mono ?_)
  rintro e w4 ⟨rfl, h4⟩
  clear k1_c k1_f k1_m k1_n k2_c k2_f k2_m k2_n k3_c k3_f k3_m k3_n k4_c k4_f k4_m k4_n
  have o5 : w2.heap.size < w3.heap.size := by first | exact k4_l | omega
  replace k1 := ((k1.alloc _).after h4)
  replace k2 := ((k2.alloc _).after h4)
  replace hF0 := ((hF0.alloc _).after h4)
  replace k3 := ((k3.alloc _).after h4)
  replace k4 := ((k4.alloc _).after h4)
  have k5 := ((Blk.newAt (n := w3.heap.size) _ _ _ (by first | rfl | simp)).after h4)
  have bwsz := Below.size bw
  replace bw := below_call h4 (w := w) (by first | exact (Below.alloc bw (Below.size bw) _) | go_grown)
  clear h4 bwsz k1_l k2_l k3_l k4_l
  obtain ⟨k1_c, k1_f, k1_l, k1_m, k1_n⟩ := k1.knows
  obtain ⟨k2_c, k2_f, k2_l, k2_m, k2_n⟩ := k2.knows
  obtain ⟨k3_c, k3_f, k3_l, k3_m, k3_n⟩ := k3.knows
  obtain ⟨k4_c, k4_f, k4_l, k4_m, k4_n⟩ := k4.knows
  obtain ⟨k5_c, k5_f, k5_l, k5_m, k5_n⟩ := k5.knows
  go_wp2_with fail
  (with_reducible refine (rask_noy a b hb h k _).mono ?_)
  rintro e w5 ⟨rfl, h5⟩
  clear k1_c k1_f k1_m k1_n k2_c k2_f k2_m k2_n k3_c k3_f k3_m k3_n k4_c k4_f k4_m k4_n k5_c k5_f k5_m k5_n
  have o6 : w3.heap.size < w4.heap.size := by first | exact k5_l | omega
  replace k1 := ((k1.alloc _).after h5)
  replace hF0 := ((hF0.alloc _).after h5)
  replace k3 := ((k3.alloc _).after h5)
  replace k4 := ((k4.alloc _).after h5)
  replace k5 := ((k5.alloc _).after h5)
  have k6 := ((Blk.newAt (n := w4.heap.size) _ _ _ (by first | rfl | simp)).after h5)
  have bwsz := Below.size bw
  replace bw := below_call h5 (w := w) (by first | exact (Below.alloc bw (Below.size bw) _) | go_grown)
  clear h5 bwsz k1_l k2_l k3_l k4_l k5_l
  clear k2
  obtain ⟨k1_c, k1_f, k1_l, k1_m, k1_n⟩ := k1.knows
  obtain ⟨k3_c, k3_f, k3_l, k3_m, k3_n⟩ := k3.knows
  obtain ⟨k4_c, k4_f, k4_l, k4_m, k4_n⟩ := k4.knows
  obtain ⟨k5_c, k5_f, k5_l, k5_m, k5_n⟩ := k5.knows
  obtain ⟨k6_c, k6_f, k6_l, k6_m, k6_n⟩ := k6.knows
  go_upto_region 6 with (fail)
  clear k1_c k1_f k1_m k1_n k3_c k3_f k3_m k3_n k4_c k4_f k4_m k4_n k5_c k5_f k5_m k5_n k6_c k6_f k6_m k6_n
  clear k1_l k3_l k4_l k5_l k6_l
  refine wp_region_all [] 33 [(0, 1), (1, 1), (2, 1), (3, 1), (4, 1), (5, 1), (6, 1), (7, 1), (8, 1), (9, 1), (10, 1), (11, 0), (12, 0), (13, 0), (14, 1), (15, 1), (16, 1), (17, 1), (18, 0), (19, 1), (20, 0), (21, 1), (22, 1), (23, 1), (24, 1), (25, 0), (26, 0), (27, 1), (28, 0), (29, 0), (30, 0), (31, 1), (32, 1)] (by kernel_rfl) (by kernel_rfl) ?_
  (refine kind_pure (v := ?_) rfl ?_ ?_; rotate_left; (focus (intro K w' hK; go_simp; exact hK)); refine kinds_put (by (simp only [Act.put, List.setIfInBounds_toArray, List.set_cons_succ, List.set_cons_zero]; try rfl)) ?_)
  (refine kind_pure (v := ?_) rfl ?_ ?_; rotate_left; (focus (intro K w' hK; go_simp; exact hK)); refine kinds_put (by (simp only [Act.put, List.setIfInBounds_toArray, List.set_cons_succ, List.set_cons_zero]; try rfl)) ?_)
  (refine kind_pure (v := ?_) rfl ?_ ?_; rotate_left; (focus (intro K w' hK; go_simp; exact hK)); refine kinds_put (by (simp only [Act.put, List.setIfInBounds_toArray, List.set_cons_succ, List.set_cons_zero]; try rfl)) ?_)
  (refine kind_pure (v := ?_) rfl ?_ ?_; rotate_left; (focus (intro K w' hK; go_simp; exact hK)); refine kinds_put (by (simp only [Act.put, List.setIfInBounds_toArray, List.set_cons_succ, List.set_cons_zero]; try rfl)) ?_)
  (refine kind_pure (v := ?_) rfl ?_ ?_; rotate_left; (focus (intro K w' hK; go_simp; exact hK)); refine kinds_put (by (simp only [Act.put, List.setIfInBounds_toArray, List.set_cons_succ, List.set_cons_zero]; try rfl)) ?_)
  (refine kind_pure (v := ?_) rfl ?_ ?_; rotate_left; (focus (intro K w' hK; go_simp; exact hK)); refine kinds_put (by (simp only [Act.put, List.setIfInBounds_toArray, List.set_cons_succ, List.set_cons_zero]; try rfl)) ?_)
  (refine kind_pure (v := ?_) rfl ?_ ?_; rotate_left; (focus (intro K w' hK; go_simp; exact hK)); refine kinds_put (by (simp only [Act.put, List.setIfInBounds_toArray, List.set_cons_succ, List.set_cons_zero]; try rfl)) ?_)
  (refine kind_pure (v := ?_) rfl ?_ ?_; rotate_left; (focus (intro K w' hK; go_simp; exact hK)); refine kinds_put (by (simp only [Act.put, List.setIfInBounds_toArray, List.set_cons_succ, List.set_cons_zero]; try rfl)) ?_)
  (refine kind_pure (v := ?_) rfl ?_ ?_; rotate_left; (focus (intro K w' hK; go_simp; exact hK)); refine kinds_put (by (simp only [Act.put, List.setIfInBounds_toArray, List.set_cons_succ, List.set_cons_zero]; try rfl)) ?_)
  (refine kind_pure (v := ?_) rfl ?_ ?_; rotate_left; (focus (intro K w' hK; go_simp; exact hK)); refine kinds_put (by (simp only [Act.put, List.setIfInBounds_toArray, List.set_cons_succ, List.set_cons_zero]; try rfl)) ?_)
  (refine kind_pure (v := ?_) rfl ?_ ?_; rotate_left; (focus (intro K w' hK; go_simp; exact hK)); refine kinds_put (by (simp only [Act.put, List.setIfInBounds_toArray, List.set_cons_succ, List.set_cons_zero]; try rfl)) ?_)
  (refine kind_firm (v := ?_) rfl ?_ ?_; rotate_left; (focus (intro K w' hg hK; have hc1 := (k3.drew.after hg).cell; go_simp; exact hK _ (Grow.refl _))); refine kinds_put (by (simp only [Act.put, List.setIfInBounds_toArray, List.set_cons_succ, List.set_cons_zero]; try rfl)) ?_)
  (refine kind_firm (v := ?_) rfl ?_ ?_; rotate_left; (focus (intro K w' hg hK; have hc1 := (k1.drew.after hg).cell; go_simp; exact hK _ (Grow.refl _))); refine kinds_put (by (simp only [Act.put, List.setIfInBounds_toArray, List.set_cons_succ, List.set_cons_zero]; try rfl)) ?_)
  (refine kind_firm (v := ?_) rfl ?_ ?_; rotate_left; (focus (intro K w' hg hK; go_simp; refine Calls.mono (rhas_yes a h _) ?_; rintro e w'' ⟨rfl, hb⟩; refine ⟨_, rfl, ?_⟩; exact hK _ hb)); refine kinds_put (by (simp only [Act.put, List.setIfInBounds_toArray, List.set_cons_succ, List.set_cons_zero]; try rfl)) ?_)
  (refine kind_pure (v := ?_) rfl ?_ ?_; rotate_left; (focus (intro K w' hK; go_simp; exact hK)); refine kinds_put (by (simp only [Act.put, List.setIfInBounds_toArray, List.set_cons_succ, List.set_cons_zero]; try rfl)) ?_)
  (refine kind_pure (v := ?_) rfl ?_ ?_; rotate_left; (focus (intro K w' hK; go_simp; exact hK)); refine kinds_put (by (simp only [Act.put, List.setIfInBounds_toArray, List.set_cons_succ, List.set_cons_zero]; try rfl)) ?_)
  (refine kind_pure (v := ?_) rfl ?_ ?_; rotate_left; (focus (intro K w' hK; go_simp; exact hK)); refine kinds_put (by (simp only [Act.put, List.setIfInBounds_toArray, List.set_cons_succ, List.set_cons_zero]; try rfl)) ?_)
  (refine kind_pure (v := ?_) rfl ?_ ?_; rotate_left; (focus (intro K w' hK; go_simp; exact hK)); refine kinds_put (by (simp only [Act.put, List.setIfInBounds_toArray, List.set_cons_succ, List.set_cons_zero]; try rfl)) ?_)
  (refine kind_firm (v := ?_) rfl ?_ ?_; rotate_left; (focus (intro K w' hg hK; go_simp; refine Calls.mono (modulus_any (hF0.drew.after hg)) ?_; rintro e w'' ⟨rfl, hb⟩; refine ⟨_, rfl, ?_⟩; exact hK _ hb)); refine kinds_put (by (simp only [Act.put, List.setIfInBounds_toArray, List.set_cons_succ, List.set_cons_zero]; try rfl)) ?_)
  (refine kind_pure (v := ?_) rfl ?_ ?_; rotate_left; (focus (intro K w' hK; go_simp; exact hK)); refine kinds_put (by (simp only [Act.put, List.setIfInBounds_toArray, List.set_cons_succ, List.set_cons_zero]; try rfl)) ?_)
  (refine kind_firm (v := ?_) rfl ?_ ?_; rotate_left; (focus (intro K w' hg hK; have hc1 := (k3.drew.after hg).cell; go_simp; exact hK _ (Grow.refl _))); refine kinds_put (by (simp only [Act.put, List.setIfInBounds_toArray, List.set_cons_succ, List.set_cons_zero]; try rfl)) ?_)
  (refine kind_pure (v := ?_) rfl ?_ ?_; rotate_left; (focus (intro K w' hK; go_simp; exact hK)); refine kinds_put (by (simp only [Act.put, List.setIfInBounds_toArray, List.set_cons_succ, List.set_cons_zero]; try rfl)) ?_)
  (refine kind_pure (v := ?_) rfl ?_ ?_; rotate_left; (focus (intro K w' hK; go_simp; exact hK)); refine kinds_put (by (simp only [Act.put, List.setIfInBounds_toArray, List.set_cons_succ, List.set_cons_zero]; try rfl)) ?_)
  (refine kind_pure (v := ?_) rfl ?_ ?_; rotate_left; (focus (intro K w' hK; go_simp; exact hK)); refine kinds_put (by (simp only [Act.put, List.setIfInBounds_toArray, List.set_cons_succ, List.set_cons_zero]; try rfl)) ?_)
  (refine kind_pure (v := ?_) rfl ?_ ?_; rotate_left; (focus (intro K w' hK; go_simp; exact hK)); refine kinds_put (by (simp only [Act.put, List.setIfInBounds_toArray, List.set_cons_succ, List.set_cons_zero]; try rfl)) ?_)
  (refine kind_firm (v := ?_) rfl ?_ ?_; rotate_left; (focus (intro K w' hg hK; have hc1 := (k1.drew.after hg).cell; go_simp; exact hK _ (Grow.refl _))); refine kinds_put (by (simp only [Act.put, List.setIfInBounds_toArray, List.set_cons_succ, List.set_cons_zero]; try rfl)) ?_)
  (refine kind_firm (v := ?_) rfl ?_ ?_; rotate_left; (focus (intro K w' hg hK; go_simp; refine Calls.mono (check_in (hF0.drew.after hg) a h) ?_; rintro e w'' ⟨rfl, hb⟩; refine ⟨_, rfl, ?_⟩; exact hK _ hb)); refine kinds_put (by (simp only [Act.put, List.setIfInBounds_toArray, List.set_cons_succ, List.set_cons_zero]; try rfl)) ?_)
  (refine kind_pure (v := ?_) rfl ?_ ?_; rotate_left; (focus (intro K w' hK; go_simp; exact hK)); refine kinds_put (by (simp only [Act.put, List.setIfInBounds_toArray, List.set_cons_succ, List.set_cons_zero]; try rfl)) ?_)
  (refine kind_firm (v := ?_) rfl ?_ ?_; rotate_left; (focus (intro K w' hg hK; have hc1 := (k3.drew.after hg).cell; go_simp; exact hK _ (Grow.refl _))); refine kinds_put (by (simp only [Act.put, List.setIfInBounds_toArray, List.set_cons_succ, List.set_cons_zero]; try rfl)) ?_)
  (refine kind_firm (v := ?_) rfl ?_ ?_; rotate_left; (focus (intro K w' hg hK; have hc1 := (k1.drew.after hg).cell; go_simp; exact hK _ (Grow.refl _))); refine kinds_put (by (simp only [Act.put, List.setIfInBounds_toArray, List.set_cons_succ, List.set_cons_zero]; try rfl)) ?_)
  (refine kind_firm (v := ?_) rfl ?_ ?_; rotate_left; (focus (intro K w' hg hK; go_simp; refine Calls.mono (rhas_yes a h _) ?_; rintro e w'' ⟨rfl, hb⟩; refine ⟨_, rfl, ?_⟩; exact hK _ hb)); refine kinds_put (by (simp only [Act.put, List.setIfInBounds_toArray, List.set_cons_succ, List.set_cons_zero]; try rfl)) ?_)
  (refine kind_pure (v := ?_) rfl ?_ ?_; rotate_left; (focus (intro K w' hK; go_simp; exact hK)); refine kinds_put (by (simp only [Act.put, List.setIfInBounds_toArray, List.set_cons_succ, List.set_cons_zero]; try rfl)) ?_)
  (refine kind_pure (v := ?_) rfl ?_ ?_; rotate_left; (focus (intro K w' hK; go_simp; exact hK)); refine kinds_put (by (simp only [Act.put, List.setIfInBounds_toArray, List.set_cons_succ, List.set_cons_zero]; try rfl)) ?_)
  refine kind_end ?_
  intro w6 h6
  replace k1 := (k1.drew.after h6)
  replace hF0 := (hF0.drew.after h6)
  replace k3 := (k3.drew.after h6)
  replace k4 := (k4.drew.after h6)
  replace k5 := (k5.drew.after h6)
  replace k6 := (k6.drew.after h6)
  have bwsz := Below.size bw
  replace bw := below_call h6 (w := w) (by first | exact (Below.drew bw) | go_grown)
  clear h6 bwsz
  obtain ⟨k1_c, k1_f, k1_l, k1_m, k1_n⟩ := k1.knows
  obtain ⟨k3_c, k3_f, k3_l, k3_m, k3_n⟩ := k3.knows
  obtain ⟨k4_c, k4_f, k4_l, k4_m, k4_n⟩ := k4.knows
  obtain ⟨k5_c, k5_f, k5_l, k5_m, k5_n⟩ := k5.knows
  obtain ⟨k6_c, k6_f, k6_l, k6_m, k6_n⟩ := k6.knows
  go_upto_region 9 with (fail)
  clear k1_c k1_f k1_m k1_n k3_c k3_f k3_m k3_n k4_c k4_f k4_m k4_n k5_c k5_f k5_m k5_n k6_c k6_f k6_m k6_n
  clear k1_l k3_l k4_l k5_l k6_l
  refine wp_region_all [] 33 [(0, 0), (1, 1), (2, 1), (3, 1), (4, 0), (5, 1), (6, 1), (7, 1), (8, 1), (9, 1), (10, 1), (11, 1), (12, 0), (13, 0), (14, 1), (15, 0), (16, 0), (17, 1), (18, 1), (19, 1), (20, 1), (21, 1), (22, 1), (23, 0), (24, 1), (25, 1), (26, 1), (27, 1), (28, 1), (29, 1), (30, 0), (31, 1), (32, 1)] (by kernel_rfl) (by kernel_rfl) ?_
  (refine kind_firm (v := ?_) rfl ?_ ?_; rotate_left; (focus (intro K w' hg hK; have hc1 := (k4.drew.after hg).cell; go_simp; exact hK _ (Grow.refl _))); refine kinds_put (by (simp only [Act.put, List.setIfInBounds_toArray, List.set_cons_succ, List.set_cons_zero]; try rfl)) ?_)
  (refine kind_pure (v := ?_) rfl ?_ ?_; rotate_left; (focus (intro K w' hK; go_simp; exact hK)); refine kinds_put (by (simp only [Act.put, List.setIfInBounds_toArray, List.set_cons_succ, List.set_cons_zero]; try rfl)) ?_)
  (refine kind_pure (v := ?_) rfl ?_ ?_; rotate_left; (focus (intro K w' hK; go_simp; exact hK)); refine kinds_put (by (simp only [Act.put, List.setIfInBounds_toArray, List.set_cons_succ, List.set_cons_zero]; try rfl)) ?_)
  (refine kind_pure (v := ?_) rfl ?_ ?_; rotate_left; (focus (intro K w' hK; go_simp; exact hK)); refine kinds_put (by (simp only [Act.put, List.setIfInBounds_toArray, List.set_cons_succ, List.set_cons_zero]; try rfl)) ?_)
  (refine kind_firm (v := ?_) rfl ?_ ?_; rotate_left; (focus (intro K w' hg hK; have hc1 := (k5.drew.after hg).cell; go_simp; exact hK _ (Grow.refl _))); refine kinds_put (by (simp only [Act.put, List.setIfInBounds_toArray, List.set_cons_succ, List.set_cons_zero]; try rfl)) ?_)
  (refine kind_pure (v := ?_) rfl ?_ ?_; rotate_left; (focus (intro K w' hK; go_simp; exact hK)); refine kinds_put (by (simp only [Act.put, List.setIfInBounds_toArray, List.set_cons_succ, List.set_cons_zero]; try rfl)) ?_)
  (refine kind_pure (v := ?_) rfl ?_ ?_; rotate_left; (focus (intro K w' hK; go_simp; exact hK)); refine kinds_put (by (simp only [Act.put, List.setIfInBounds_toArray, List.set_cons_succ, List.set_cons_zero]; try rfl)) ?_)
  (refine kind_pure (v := ?_) rfl ?_ ?_; rotate_left; (focus (intro K w' hK; go_simp; exact hK)); refine kinds_put (by (simp only [Act.put, List.setIfInBounds_toArray, List.set_cons_succ, List.set_cons_zero]; try rfl)) ?_)
  (refine kind_pure (v := ?_) rfl ?_ ?_; rotate_left; (focus (intro K w' hK; go_simp; exact hK)); refine kinds_put (by (simp only [Act.put, List.setIfInBounds_toArray, List.set_cons_succ, List.set_cons_zero]; try rfl)) ?_)
  (refine kind_pure (v := ?_) rfl ?_ ?_; rotate_left; (focus (intro K w' hK; go_simp; exact hK)); refine kinds_put (by (simp only [Act.put, List.setIfInBounds_toArray, List.set_cons_succ, List.set_cons_zero]; try rfl)) ?_)
  (refine kind_pure (v := ?_) rfl ?_ ?_; rotate_left; (focus (intro K w' hK; go_simp; exact hK)); refine kinds_put (by (simp only [Act.put, List.setIfInBounds_toArray, List.set_cons_succ, List.set_cons_zero]; try rfl)) ?_)
  (refine kind_pure (v := ?_) rfl ?_ ?_; rotate_left; (focus (intro K w' hK; go_simp; exact hK)); refine kinds_put (by (simp only [Act.put, List.setIfInBounds_toArray, List.set_cons_succ, List.set_cons_zero]; try rfl)) ?_)
  (refine kind_firm (v := ?_) rfl ?_ ?_; rotate_left; (focus (intro K w' hg hK; have hc1 := (k6.drew.after hg).cell; go_simp; exact hK _ (Grow.refl _))); refine kinds_put (by (simp only [Act.put, List.setIfInBounds_toArray, List.set_cons_succ, List.set_cons_zero]; try rfl)) ?_)
  (refine kind_firm (v := ?_) rfl ?_ ?_; rotate_left; (focus (intro K w' hg hK; have hc1 := (k3.drew.after hg).cell; go_simp; exact hK _ (Grow.refl _))); refine kinds_put (by (simp only [Act.put, List.setIfInBounds_toArray, List.set_cons_succ, List.set_cons_zero]; try rfl)) ?_)
  (refine kind_pure (v := ?_) rfl ?_ ?_; rotate_left; (focus (intro K w' hK; go_simp; exact hK)); refine kinds_put (by (simp only [Act.put, List.setIfInBounds_toArray, List.set_cons_succ, List.set_cons_zero]; try rfl)) ?_)
  (refine kind_firm (v := ?_) rfl ?_ ?_; rotate_left; (focus (intro K w' hg hK; have hc1 := (k1.drew.after hg).cell; go_simp; exact hK _ (Grow.refl _))); refine kinds_put (by (simp only [Act.put, List.setIfInBounds_toArray, List.set_cons_succ, List.set_cons_zero]; try rfl)) ?_)
  (refine kind_firm (v := ?_) rfl ?_ ?_; rotate_left; (focus (intro K w' hg hK; go_simp; refine Calls.mono (cl2 _) ?_; rintro e w'' ⟨rfl, hb⟩; refine ⟨_, rfl, ?_⟩; exact hK _ hb)); refine kinds_put (by (simp only [Act.put, List.setIfInBounds_toArray, List.set_cons_succ, List.set_cons_zero]; try rfl)) ?_)
  (refine kind_pure (v := ?_) rfl ?_ ?_; rotate_left; (focus (intro K w' hK; go_simp; exact hK)); refine kinds_put (by (simp only [Act.put, List.setIfInBounds_toArray, List.set_cons_succ, List.set_cons_zero]; try rfl)) ?_)
  (refine kind_pure (v := ?_) rfl ?_ ?_; rotate_left; (focus (intro K w' hK; go_simp; exact hK)); refine kinds_put (by (simp only [Act.put, List.setIfInBounds_toArray, List.set_cons_succ, List.set_cons_zero]; try rfl)) ?_)
  (refine kind_pure (v := ?_) rfl ?_ ?_; rotate_left; (focus (intro K w' hK; go_simp; exact hK)); refine kinds_put (by (simp only [Act.put, List.setIfInBounds_toArray, List.set_cons_succ, List.set_cons_zero]; try rfl)) ?_)
  (refine kind_pure (v := ?_) rfl ?_ ?_; rotate_left; (focus (intro K w' hK; go_simp; exact hK)); refine kinds_put (by (simp only [Act.put, List.setIfInBounds_toArray, List.set_cons_succ, List.set_cons_zero]; try rfl)) ?_)
  (refine kind_pure (v := ?_) rfl ?_ ?_; rotate_left; (focus (intro K w' hK; go_simp; exact hK)); refine kinds_put (by (simp only [Act.put, List.setIfInBounds_toArray, List.set_cons_succ, List.set_cons_zero]; try rfl)) ?_)
  (refine kind_pure (v := ?_) rfl ?_ ?_; rotate_left; (focus (intro K w' hK; go_simp; exact hK)); refine kinds_put (by (simp only [Act.put, List.setIfInBounds_toArray, List.set_cons_succ, List.set_cons_zero]; try rfl)) ?_)
  (refine kind_firm (v := ?_) rfl ?_ ?_; rotate_left; (focus (intro K w' hg hK; go_simp; exact hK _ (Grow.refl _))); refine kinds_put (by (simp only [Act.put, List.setIfInBounds_toArray, List.set_cons_succ, List.set_cons_zero]; try rfl)) ?_)
  (refine kind_pure (v := ?_) rfl ?_ ?_; rotate_left; (focus (intro K w' hK; go_simp; exact hK)); refine kinds_put (by (simp only [Act.put, List.setIfInBounds_toArray, List.set_cons_succ, List.set_cons_zero]; try rfl)) ?_)
  (refine kind_pure (v := ?_) rfl ?_ ?_; rotate_left; (focus (intro K w' hK; go_simp; exact hK)); refine kinds_put (by (simp only [Act.put, List.setIfInBounds_toArray, List.set_cons_succ, List.set_cons_zero]; try rfl)) ?_)
  (refine kind_pure (v := ?_) rfl ?_ ?_; rotate_left; (focus (intro K w' hK; go_simp; exact hK)); refine kinds_put (by (simp only [Act.put, List.setIfInBounds_toArray, List.set_cons_succ, List.set_cons_zero]; try rfl)) ?_)
  (refine kind_pure (v := ?_) rfl ?_ ?_; rotate_left; (focus (intro K w' hK; go_simp; exact hK)); refine kinds_put (by (simp only [Act.put, List.setIfInBounds_toArray, List.set_cons_succ, List.set_cons_zero]; try rfl)) ?_)
  (refine kind_pure (v := ?_) rfl ?_ ?_; rotate_left; (focus (intro K w' hK; go_simp; exact hK)); refine kinds_put (by (simp only [Act.put, List.setIfInBounds_toArray, List.set_cons_succ, List.set_cons_zero]; try rfl)) ?_)
  (refine kind_pure (v := ?_) rfl ?_ ?_; rotate_left; (focus (intro K w' hK; go_simp; exact hK)); refine kinds_put (by (simp only [Act.put, List.setIfInBounds_toArray, List.set_cons_succ, List.set_cons_zero]; try rfl)) ?_)
  (refine kind_firm (v := ?_) rfl ?_ ?_; rotate_left; (focus (intro K w' hg hK; go_simp; refine Calls.mono (half_any _) ?_; rintro e w'' ⟨rfl, hb⟩; refine ⟨_, rfl, ?_⟩; exact hK _ hb)); refine kinds_put (by (simp only [Act.put, List.setIfInBounds_toArray, List.set_cons_succ, List.set_cons_zero]; try rfl)) ?_)
  (refine kind_pure (v := ?_) rfl ?_ ?_; rotate_left; (focus (intro K w' hK; go_simp; exact hK)); refine kinds_put (by (simp only [Act.put, List.setIfInBounds_toArray, List.set_cons_succ, List.set_cons_zero]; try rfl)) ?_)
  (refine kind_pure (v := ?_) rfl ?_ ?_; rotate_left; (focus (intro K w' hK; go_simp; exact hK)); refine kinds_put (by (simp only [Act.put, List.setIfInBounds_toArray, List.set_cons_succ, List.set_cons_zero]; try rfl)) ?_)
  refine kind_end ?_
  intro w7 h7
  replace hF0 := (hF0.drew.after h7)
  have bwsz := Below.size bw
  replace bw := below_call h7 (w := w) (by first | exact (Below.drew bw) | go_grown)
  clear h7 bwsz
  clear k1 k3 k4 k5 k6
  go_wp2
  go_ret
  exact ⟨rfl, (by first | exact bw | go_grown)⟩
set_option maxRecDepth 20000 in
set_option maxHeartbeats 2000000 in
theorem sums_nox (base : Bool) (a b : Nat) (ha : a < RR) (hb : b < RR) (h : ¬ a < pN base) (w : World) : Calls Try.prog 9 #[.bool base, num a, num b] w fun e w' => e = .returned (.bool true) ∧ Below w.heap.size w w' := by
  have q1 : ∀ w, (Op.equalIn 10000 24 (num (pN base)) (num (pN base))).run Try.prog w = .ok true w := by intro w; exact eqin_same (pN base) _
  have q2 : ∀ w, (Op.equalIn 10000 24 (num 0) (zeroV)).run Try.prog w = .ok true w := by intro w; rw [← num_zero]; exact eqin_same 0 _
  go_enter Try.func9, Try.ntmps9
  go_wp2_with fail
  (with_reducible refine (of_any base _).mono ?_)
  rintro e w1 ⟨f0, g0, rfl, hF0, h1⟩
  have k1 := (((Blk.newAt (n := w.heap.size) _ _ _ (by first | rfl | simp)).alloc _).after h1)
  have k2 := ((Blk.newAt (n := w.heap.size + 1) _ _ _ (by first | rfl | simp)).after h1)
  have bw := below_call h1 (w := w) (by first | exact (below_alloc (Below.alloc (Below.refl _ _) (Below.size (Below.refl _ _)) _) _) | go_grown)
  clear h1
  obtain ⟨k1_c, k1_f, k1_l, k1_m, k1_n⟩ := k1.knows
  obtain ⟨k2_c, k2_f, k2_l, k2_m, k2_n⟩ := k2.knows
  go_wp2_with fail
  (with_reducible refine (fadd_nox (hF0.alloc _) a b ha h).mono ?_)
  rintro e w2 ⟨rfl, h2⟩
  clear k1_c k1_f k1_m k1_n k2_c k2_f k2_m k2_n
  have o3 : w.heap.size + 1 < w1.heap.size := by first | exact k2_l | omega
  replace k1 := ((k1.alloc _).after h2)
  replace k2 := ((k2.alloc _).after h2)
  replace hF0 := ((hF0.alloc _).after h2)
  have k3 := ((Blk.newAt (n := w1.heap.size) _ _ _ (by first | rfl | simp)).after h2)
  have bwsz := Below.size bw
  replace bw := below_call h2 (w := w) (by first | exact (Below.alloc bw (Below.size bw) _) | go_grown)
  clear h2 bwsz k1_l k2_l
  obtain ⟨k1_c, k1_f, k1_l, k1_m, k1_n⟩ := k1.knows
  obtain ⟨k2_c, k2_f, k2_l, k2_m, k2_n⟩ := k2.knows
  obtain ⟨k3_c, k3_f, k3_l, k3_m, k3_n⟩ := k3.knows
  go_wp2_with fail
  (with_reducible refine (fsub_nox (hF0.alloc _) a b ha h).mono ?_)
  rintro e w3 ⟨rfl, h3⟩
  clear k1_c k1_f k1_m k1_n k2_c k2_f k2_m k2_n k3_c k3_f k3_m k3_n
  have o4 : w1.heap.size < w2.heap.size := by first | exact k3_l | omega
  replace k1 := ((k1.alloc _).after h3)
  replace k2 := ((k2.alloc _).after h3)
  replace hF0 := ((hF0.alloc _).after h3)
  replace k3 := ((k3.alloc _).after h3)
  have k4 := ((Blk.newAt (n := w2.heap.size) _ _ _ (by first | rfl | simp)).after h3)
  have bwsz := Below.size bw
  replace bw := below_call h3 (w := w) (by first | exact (Below.alloc bw (Below.size bw) _) | go_grown)
  clear h3 bwsz k1_l k2_l k3_l
  obtain ⟨k1_c, k1_f, k1_l, k1_m, k1_n⟩ := k1.knows
  obtain ⟨k2_c, k2_f, k2_l, k2_m, k2_n⟩ := k2.knows
  obtain ⟨k3_c, k3_f, k3_l, k3_m, k3_n⟩ := k3.knows
  obtain ⟨k4_c, k4_f, k4_l, k4_m, k4_n⟩ := k4.knows
  go_wp2_with fail
  (with_reducible refine (fneg_no (hF0.alloc _) a ha h).mono ?_)
  rintro e w4 ⟨rfl, h4⟩
  clear k1_c k1_f k1_m k1_n k2_c k2_f k2_m k2_n k3_c k3_f k3_m k3_n k4_c k4_f k4_m k4_n
  have o5 : w2.heap.size < w3.heap.size := by first | exact k4_l | omega
  replace k1 := ((k1.alloc _).after h4)
  replace k2 := ((k2.alloc _).after h4)
  replace hF0 := ((hF0.alloc _).after h4)
  replace k3 := ((k3.alloc _).after h4)
  replace k4 := ((k4.alloc _).after h4)
  have k5 := ((Blk.newAt (n := w3.heap.size) _ _ _ (by first | rfl | simp)).after h4)
  have bwsz := Below.size bw
  replace bw := below_call h4 (w := w) (by first | exact (Below.alloc bw (Below.size bw) _) | go_grown)
  clear h4 bwsz k1_l k2_l k3_l k4_l
  obtain ⟨k1_c, k1_f, k1_l, k1_m, k1_n⟩ := k1.knows
  obtain ⟨k2_c, k2_f, k2_l, k2_m, k2_n⟩ := k2.knows
  obtain ⟨k3_c, k3_f, k3_l, k3_m, k3_n⟩ := k3.knows
  obtain ⟨k4_c, k4_f, k4_l, k4_m, k4_n⟩ := k4.knows
  obtain ⟨k5_c, k5_f, k5_l, k5_m, k5_n⟩ := k5.knows
  go_wp2_with fail
  (with_reducible refine (rask_nox a b ha h _).mono ?_)
  rintro e w5 ⟨rfl, h5⟩
  clear k1_c k1_f k1_m k1_n k2_c k2_f k2_m k2_n k3_c k3_f k3_m k3_n k4_c k4_f k4_m k4_n k5_c k5_f k5_m k5_n
  have o6 : w3.heap.size < w4.heap.size := by first | exact k5_l | omega
  replace k1 := ((k1.alloc _).after h5)
  replace hF0 := ((hF0.alloc _).after h5)
  replace k3 := ((k3.alloc _).after h5)
  replace k4 := ((k4.alloc _).after h5)
  replace k5 := ((k5.alloc _).after h5)
  have k6 := ((Blk.newAt (n := w4.heap.size) _ _ _ (by first | rfl | simp)).after h5)
  have bwsz := Below.size bw
  replace bw := below_call h5 (w := w) (by first | exact (Below.alloc bw (Below.size bw) _) | go_grown)
  clear h5 bwsz k1_l k2_l k3_l k4_l k5_l
  clear k2
  obtain ⟨k1_c, k1_f, k1_l, k1_m, k1_n⟩ := k1.knows
  obtain ⟨k3_c, k3_f, k3_l, k3_m, k3_n⟩ := k3.knows
  obtain ⟨k4_c, k4_f, k4_l, k4_m, k4_n⟩ := k4.knows
  obtain ⟨k5_c, k5_f, k5_l, k5_m, k5_n⟩ := k5.knows
  obtain ⟨k6_c, k6_f, k6_l, k6_m, k6_n⟩ := k6.knows
  go_upto_region 6 with (fail)
  clear k1_c k1_f k1_m k1_n k3_c k3_f k3_m k3_n k4_c k4_f k4_m k4_n k5_c k5_f k5_m k5_n k6_c k6_f k6_m k6_n
  clear k1_l k3_l k4_l k5_l k6_l
  refine wp_region_all [] 33 [(0, 1), (1, 1), (2, 1), (3, 1), (4, 1), (5, 1), (6, 1), (7, 1), (8, 1), (9, 1), (10, 1), (11, 0), (12, 0), (13, 0), (14, 1), (15, 1), (16, 1), (17, 1), (18, 0), (19, 1), (20, 0), (21, 1), (22, 1), (23, 1), (24, 1), (25, 0), (26, 0), (27, 1), (28, 0), (29, 0), (30, 0), (31, 1), (32, 1)] (by kernel_rfl) (by kernel_rfl) ?_
  (refine kind_pure (v := ?_) rfl ?_ ?_; rotate_left; (focus (intro K w' hK; go_simp; exact hK)); refine kinds_put (by (simp only [Act.put, List.setIfInBounds_toArray, List.set_cons_succ, List.set_cons_zero]; try rfl)) ?_)
  (refine kind_pure (v := ?_) rfl ?_ ?_; rotate_left; (focus (intro K w' hK; go_simp; exact hK)); refine kinds_put (by (simp only [Act.put, List.setIfInBounds_toArray, List.set_cons_succ, List.set_cons_zero]; try rfl)) ?_)
  (refine kind_pure (v := ?_) rfl ?_ ?_; rotate_left; (focus (intro K w' hK; go_simp; exact hK)); refine kinds_put (by (simp only [Act.put, List.setIfInBounds_toArray, List.set_cons_succ, List.set_cons_zero]; try rfl)) ?_)
  (refine kind_pure (v := ?_) rfl ?_ ?_; rotate_left; (focus (intro K w' hK; go_simp; exact hK)); refine kinds_put (by (simp only [Act.put, List.setIfInBounds_toArray, List.set_cons_succ, List.set_cons_zero]; try rfl)) ?_)
  (refine kind_pure (v := ?_) rfl ?_ ?_; rotate_left; (focus (intro K w' hK; go_simp; exact hK)); refine kinds_put (by (simp only [Act.put, List.setIfInBounds_toArray, List.set_cons_succ, List.set_cons_zero]; try rfl)) ?_)
  (refine kind_pure (v := ?_) rfl ?_ ?_; rotate_left; (focus (intro K w' hK; go_simp; exact hK)); refine kinds_put (by (simp only [Act.put, List.setIfInBounds_toArray, List.set_cons_succ, List.set_cons_zero]; try rfl)) ?_)
  (refine kind_pure (v := ?_) rfl ?_ ?_; rotate_left; (focus (intro K w' hK; go_simp; exact hK)); refine kinds_put (by (simp only [Act.put, List.setIfInBounds_toArray, List.set_cons_succ, List.set_cons_zero]; try rfl)) ?_)
  (refine kind_pure (v := ?_) rfl ?_ ?_; rotate_left; (focus (intro K w' hK; go_simp; exact hK)); refine kinds_put (by (simp only [Act.put, List.setIfInBounds_toArray, List.set_cons_succ, List.set_cons_zero]; try rfl)) ?_)
  (refine kind_pure (v := ?_) rfl ?_ ?_; rotate_left; (focus (intro K w' hK; go_simp; exact hK)); refine kinds_put (by (simp only [Act.put, List.setIfInBounds_toArray, List.set_cons_succ, List.set_cons_zero]; try rfl)) ?_)
  (refine kind_pure (v := ?_) rfl ?_ ?_; rotate_left; (focus (intro K w' hK; go_simp; exact hK)); refine kinds_put (by (simp only [Act.put, List.setIfInBounds_toArray, List.set_cons_succ, List.set_cons_zero]; try rfl)) ?_)
  (refine kind_pure (v := ?_) rfl ?_ ?_; rotate_left; (focus (intro K w' hK; go_simp; exact hK)); refine kinds_put (by (simp only [Act.put, List.setIfInBounds_toArray, List.set_cons_succ, List.set_cons_zero]; try rfl)) ?_)
  (refine kind_firm (v := ?_) rfl ?_ ?_; rotate_left; (focus (intro K w' hg hK; have hc1 := (k3.drew.after hg).cell; go_simp; exact hK _ (Grow.refl _))); refine kinds_put (by (simp only [Act.put, List.setIfInBounds_toArray, List.set_cons_succ, List.set_cons_zero]; try rfl)) ?_)
  (refine kind_firm (v := ?_) rfl ?_ ?_; rotate_left; (focus (intro K w' hg hK; have hc1 := (k1.drew.after hg).cell; go_simp; exact hK _ (Grow.refl _))); refine kinds_put (by (simp only [Act.put, List.setIfInBounds_toArray, List.set_cons_succ, List.set_cons_zero]; try rfl)) ?_)
  (refine kind_firm (v := ?_) rfl ?_ ?_; rotate_left; (focus (intro K w' hg hK; go_simp; refine Calls.mono (rhas_no a ha h _) ?_; rintro e w'' ⟨rfl, hb⟩; refine ⟨_, rfl, ?_⟩; exact hK _ hb)); refine kinds_put (by (simp only [Act.put, List.setIfInBounds_toArray, List.set_cons_succ, List.set_cons_zero]; try rfl)) ?_)
  (refine kind_pure (v := ?_) rfl ?_ ?_; rotate_left; (focus (intro K w' hK; go_simp; exact hK)); refine kinds_put (by (simp only [Act.put, List.setIfInBounds_toArray, List.set_cons_succ, List.set_cons_zero]; try rfl)) ?_)
  (refine kind_pure (v := ?_) rfl ?_ ?_; rotate_left; (focus (intro K w' hK; go_simp; exact hK)); refine kinds_put (by (simp only [Act.put, List.setIfInBounds_toArray, List.set_cons_succ, List.set_cons_zero]; try rfl)) ?_)
  (refine kind_pure (v := ?_) rfl ?_ ?_; rotate_left; (focus (intro K w' hK; go_simp; exact hK)); refine kinds_put (by (simp only [Act.put, List.setIfInBounds_toArray, List.set_cons_succ, List.set_cons_zero]; try rfl)) ?_)
  (refine kind_pure (v := ?_) rfl ?_ ?_; rotate_left; (focus (intro K w' hK; go_simp; exact hK)); refine kinds_put (by (simp only [Act.put, List.setIfInBounds_toArray, List.set_cons_succ, List.set_cons_zero]; try rfl)) ?_)
  (refine kind_firm (v := ?_) rfl ?_ ?_; rotate_left; (focus (intro K w' hg hK; go_simp; refine Calls.mono (modulus_any (hF0.drew.after hg)) ?_; rintro e w'' ⟨rfl, hb⟩; refine ⟨_, rfl, ?_⟩; exact hK _ hb)); refine kinds_put (by (simp only [Act.put, List.setIfInBounds_toArray, List.set_cons_succ, List.set_cons_zero]; try rfl)) ?_)
  (refine kind_pure (v := ?_) rfl ?_ ?_; rotate_left; (focus (intro K w' hK; go_simp; exact hK)); refine kinds_put (by (simp only [Act.put, List.setIfInBounds_toArray, List.set_cons_succ, List.set_cons_zero]; try rfl)) ?_)
  (refine kind_firm (v := ?_) rfl ?_ ?_; rotate_left; (focus (intro K w' hg hK; have hc1 := (k3.drew.after hg).cell; go_simp; exact hK _ (Grow.refl _))); refine kinds_put (by (simp only [Act.put, List.setIfInBounds_toArray, List.set_cons_succ, List.set_cons_zero]; try rfl)) ?_)
  (refine kind_pure (v := ?_) rfl ?_ ?_; rotate_left; (focus (intro K w' hK; go_simp; exact hK)); refine kinds_put (by (simp only [Act.put, List.setIfInBounds_toArray, List.set_cons_succ, List.set_cons_zero]; try rfl)) ?_)
  (refine kind_pure (v := ?_) rfl ?_ ?_; rotate_left; (focus (intro K w' hK; go_simp; exact hK)); refine kinds_put (by (simp only [Act.put, List.setIfInBounds_toArray, List.set_cons_succ, List.set_cons_zero]; try rfl)) ?_)
  (refine kind_pure (v := ?_) rfl ?_ ?_; rotate_left; (focus (intro K w' hK; go_simp; exact hK)); refine kinds_put (by (simp only [Act.put, List.setIfInBounds_toArray, List.set_cons_succ, List.set_cons_zero]; try rfl)) ?_)
  (refine kind_pure (v := ?_) rfl ?_ ?_; rotate_left; (focus (intro K w' hK; go_simp; exact hK)); refine kinds_put (by (simp only [Act.put, List.setIfInBounds_toArray, List.set_cons_succ, List.set_cons_zero]; try rfl)) ?_)
  (refine kind_firm (v := ?_) rfl ?_ ?_; rotate_left; (focus (intro K w' hg hK; have hc1 := (k1.drew.after hg).cell; go_simp; exact hK _ (Grow.refl _))); refine kinds_put (by (simp only [Act.put, List.setIfInBounds_toArray, List.set_cons_succ, List.set_cons_zero]; try rfl)) ?_)
  (refine kind_firm (v := ?_) rfl ?_ ?_; rotate_left; (focus (intro K w' hg hK; go_simp; refine Calls.mono (check_out (hF0.drew.after hg) a ha h) ?_; rintro e w'' ⟨rfl, hb⟩; refine ⟨_, rfl, ?_⟩; exact hK _ hb)); refine kinds_put (by (simp only [Act.put, List.setIfInBounds_toArray, List.set_cons_succ, List.set_cons_zero]; try rfl)) ?_)
  (refine kind_pure (v := ?_) rfl ?_ ?_; rotate_left; (focus (intro K w' hK; go_simp; exact hK)); refine kinds_put (by (simp only [Act.put, List.setIfInBounds_toArray, List.set_cons_succ, List.set_cons_zero]; try rfl)) ?_)
  (refine kind_firm (v := ?_) rfl ?_ ?_; rotate_left; (focus (intro K w' hg hK; have hc1 := (k3.drew.after hg).cell; go_simp; exact hK _ (Grow.refl _))); refine kinds_put (by (simp only [Act.put, List.setIfInBounds_toArray, List.set_cons_succ, List.set_cons_zero]; try rfl)) ?_)
  (refine kind_firm (v := ?_) rfl ?_ ?_; rotate_left; (focus (intro K w' hg hK; have hc1 := (k1.drew.after hg).cell; go_simp; exact hK _ (Grow.refl _))); refine kinds_put (by (simp only [Act.put, List.setIfInBounds_toArray, List.set_cons_succ, List.set_cons_zero]; try rfl)) ?_)
  (refine kind_firm (v := ?_) rfl ?_ ?_; rotate_left; (focus (intro K w' hg hK; go_simp; refine Calls.mono (rhas_no a ha h _) ?_; rintro e w'' ⟨rfl, hb⟩; refine ⟨_, rfl, ?_⟩; exact hK _ hb)); refine kinds_put (by (simp only [Act.put, List.setIfInBounds_toArray, List.set_cons_succ, List.set_cons_zero]; try rfl)) ?_)
  (refine kind_pure (v := ?_) rfl ?_ ?_; rotate_left; (focus (intro K w' hK; go_simp; exact hK)); refine kinds_put (by (simp only [Act.put, List.setIfInBounds_toArray, List.set_cons_succ, List.set_cons_zero]; try rfl)) ?_)
  (refine kind_pure (v := ?_) rfl ?_ ?_; rotate_left; (focus (intro K w' hK; go_simp; exact hK)); refine kinds_put (by (simp only [Act.put, List.setIfInBounds_toArray, List.set_cons_succ, List.set_cons_zero]; try rfl)) ?_)
  refine kind_end ?_
  intro w6 h6
  replace hF0 := (hF0.drew.after h6)
  replace k4 := (k4.drew.after h6)
  replace k5 := (k5.drew.after h6)
  replace k6 := (k6.drew.after h6)
  have bwsz := Below.size bw
  replace bw := below_call h6 (w := w) (by first | exact (Below.drew bw) | go_grown)
  clear h6 bwsz
  clear k1 k3
  obtain ⟨k4_c, k4_f, k4_l, k4_m, k4_n⟩ := k4.knows
  obtain ⟨k5_c, k5_f, k5_l, k5_m, k5_n⟩ := k5.knows
  obtain ⟨k6_c, k6_f, k6_l, k6_m, k6_n⟩ := k6.knows
  go_upto_region 9 with (fail)
  clear k4_c k4_f k4_m k4_n k5_c k5_f k5_m k5_n k6_c k6_f k6_m k6_n
  clear k4_l k5_l k6_l
  refine wp_region_all [] 33 [(0, 0), (1, 1), (2, 1), (3, 1), (4, 0), (5, 1), (6, 1), (7, 1), (8, 1), (9, 1), (10, 1), (11, 1), (12, 0), (13, 0), (14, 1), (15, 0), (16, 0), (17, 1), (18, 1), (19, 1), (20, 1), (21, 1), (22, 1), (23, 0), (24, 1), (25, 1), (26, 1), (27, 1), (28, 1), (29, 1), (30, 0), (31, 1), (32, 1)] (by kernel_rfl) (by kernel_rfl) ?_
  (refine kind_firm (v := ?_) rfl ?_ ?_; rotate_left; (focus (intro K w' hg hK; have hc1 := (k4.drew.after hg).cell; go_simp; exact hK _ (Grow.refl _))); refine kinds_put (by (simp only [Act.put, List.setIfInBounds_toArray, List.set_cons_succ, List.set_cons_zero]; try rfl)) ?_)
  (refine kind_pure (v := ?_) rfl ?_ ?_; rotate_left; (focus (intro K w' hK; go_simp; exact hK)); refine kinds_put (by (simp only [Act.put, List.setIfInBounds_toArray, List.set_cons_succ, List.set_cons_zero]; try rfl)) ?_)
  (refine kind_pure (v := ?_) rfl ?_ ?_; rotate_left; (focus (intro K w' hK; go_simp; exact hK)); refine kinds_put (by (simp only [Act.put, List.setIfInBounds_toArray, List.set_cons_succ, List.set_cons_zero]; try rfl)) ?_)
  (refine kind_pure (v := ?_) rfl ?_ ?_; rotate_left; (focus (intro K w' hK; go_simp; exact hK)); refine kinds_put (by (simp only [Act.put, List.setIfInBounds_toArray, List.set_cons_succ, List.set_cons_zero]; try rfl)) ?_)
  (refine kind_firm (v := ?_) rfl ?_ ?_; rotate_left; (focus (intro K w' hg hK; have hc1 := (k5.drew.after hg).cell; go_simp; exact hK _ (Grow.refl _))); refine kinds_put (by (simp only [Act.put, List.setIfInBounds_toArray, List.set_cons_succ, List.set_cons_zero]; try rfl)) ?_)
  (refine kind_pure (v := ?_) rfl ?_ ?_; rotate_left; (focus (intro K w' hK; go_simp; exact hK)); refine kinds_put (by (simp only [Act.put, List.setIfInBounds_toArray, List.set_cons_succ, List.set_cons_zero]; try rfl)) ?_)
  (refine kind_pure (v := ?_) rfl ?_ ?_; rotate_left; (focus (intro K w' hK; go_simp; exact hK)); refine kinds_put (by (simp only [Act.put, List.setIfInBounds_toArray, List.set_cons_succ, List.set_cons_zero]; try rfl)) ?_)
  (refine kind_pure (v := ?_) rfl ?_ ?_; rotate_left; (focus (intro K w' hK; go_simp; exact hK)); refine kinds_put (by (simp only [Act.put, List.setIfInBounds_toArray, List.set_cons_succ, List.set_cons_zero]; try rfl)) ?_)
  (refine kind_pure (v := ?_) rfl ?_ ?_; rotate_left; (focus (intro K w' hK; go_simp; exact hK)); refine kinds_put (by (simp only [Act.put, List.setIfInBounds_toArray, List.set_cons_succ, List.set_cons_zero]; try rfl)) ?_)
  (refine kind_pure (v := ?_) rfl ?_ ?_; rotate_left; (focus (intro K w' hK; go_simp; exact hK)); refine kinds_put (by (simp only [Act.put, List.setIfInBounds_toArray, List.set_cons_succ, List.set_cons_zero]; try rfl)) ?_)
  (refine kind_pure (v := ?_) rfl ?_ ?_; rotate_left; (focus (intro K w' hK; go_simp; exact hK)); refine kinds_put (by (simp only [Act.put, List.setIfInBounds_toArray, List.set_cons_succ, List.set_cons_zero]; try rfl)) ?_)
  (refine kind_pure (v := ?_) rfl ?_ ?_; rotate_left; (focus (intro K w' hK; go_simp; exact hK)); refine kinds_put (by (simp only [Act.put, List.setIfInBounds_toArray, List.set_cons_succ, List.set_cons_zero]; try rfl)) ?_)
  (refine kind_firm (v := ?_) rfl ?_ ?_; rotate_left; (focus (intro K w' hg hK; go_simp; exact hK _ (Grow.refl _))); refine kinds_put (by (simp only [Act.put, List.setIfInBounds_toArray, List.set_cons_succ, List.set_cons_zero]; try rfl)) ?_)
  (refine kind_firm (v := ?_) rfl ?_ ?_; rotate_left; (focus (intro K w' hg hK; go_simp; exact hK _ (Grow.refl _))); refine kinds_put (by (simp only [Act.put, List.setIfInBounds_toArray, List.set_cons_succ, List.set_cons_zero]; try rfl)) ?_)
  (refine kind_pure (v := ?_) rfl ?_ ?_; rotate_left; (focus (intro K w' hK; go_simp; exact hK)); refine kinds_put (by (simp only [Act.put, List.setIfInBounds_toArray, List.set_cons_succ, List.set_cons_zero]; try rfl)) ?_)
  (refine kind_firm (v := ?_) rfl ?_ ?_; rotate_left; (focus (intro K w' hg hK; go_simp; exact hK _ (Grow.refl _))); refine kinds_put (by (simp only [Act.put, List.setIfInBounds_toArray, List.set_cons_succ, List.set_cons_zero]; try rfl)) ?_)
  (refine kind_firm (v := ?_) rfl ?_ ?_; rotate_left; (focus (intro K w' hg hK; go_simp; exact hK _ (Grow.refl _))); refine kinds_put (by (simp only [Act.put, List.setIfInBounds_toArray, List.set_cons_succ, List.set_cons_zero]; try rfl)) ?_)
  (refine kind_pure (v := ?_) rfl ?_ ?_; rotate_left; (focus (intro K w' hK; go_simp; exact hK)); refine kinds_put (by (simp only [Act.put, List.setIfInBounds_toArray, List.set_cons_succ, List.set_cons_zero]; try rfl)) ?_)
  (refine kind_pure (v := ?_) rfl ?_ ?_; rotate_left; (focus (intro K w' hK; go_simp; exact hK)); refine kinds_put (by (simp only [Act.put, List.setIfInBounds_toArray, List.set_cons_succ, List.set_cons_zero]; try rfl)) ?_)
  (refine kind_pure (v := ?_) rfl ?_ ?_; rotate_left; (focus (intro K w' hK; go_simp; exact hK)); refine kinds_put (by (simp only [Act.put, List.setIfInBounds_toArray, List.set_cons_succ, List.set_cons_zero]; try rfl)) ?_)
  (refine kind_pure (v := ?_) rfl ?_ ?_; rotate_left; (focus (intro K w' hK; go_simp; exact hK)); refine kinds_put (by (simp only [Act.put, List.setIfInBounds_toArray, List.set_cons_succ, List.set_cons_zero]; try rfl)) ?_)
  (refine kind_pure (v := ?_) rfl ?_ ?_; rotate_left; (focus (intro K w' hK; go_simp; exact hK)); refine kinds_put (by (simp only [Act.put, List.setIfInBounds_toArray, List.set_cons_succ, List.set_cons_zero]; try rfl)) ?_)
  (refine kind_pure (v := ?_) rfl ?_ ?_; rotate_left; (focus (intro K w' hK; go_simp; exact hK)); refine kinds_put (by (simp only [Act.put, List.setIfInBounds_toArray, List.set_cons_succ, List.set_cons_zero]; try rfl)) ?_)
  (refine kind_firm (v := ?_) rfl ?_ ?_; rotate_left; (focus (intro K w' hg hK; have hc1 := (k6.drew.after hg).cell; go_simp; exact hK _ (Grow.refl _))); refine kinds_put (by (simp only [Act.put, List.setIfInBounds_toArray, List.set_cons_succ, List.set_cons_zero]; try rfl)) ?_)
  (refine kind_pure (v := ?_) rfl ?_ ?_; rotate_left; (focus (intro K w' hK; go_simp; exact hK)); refine kinds_put (by (simp only [Act.put, List.setIfInBounds_toArray, List.set_cons_succ, List.set_cons_zero]; try rfl)) ?_)
  (refine kind_pure (v := ?_) rfl ?_ ?_; rotate_left; (focus (intro K w' hK; go_simp; exact hK)); refine kinds_put (by (simp only [Act.put, List.setIfInBounds_toArray, List.set_cons_succ, List.set_cons_zero]; try rfl)) ?_)
  (refine kind_pure (v := ?_) rfl ?_ ?_; rotate_left; (focus (intro K w' hK; go_simp; exact hK)); refine kinds_put (by (simp only [Act.put, List.setIfInBounds_toArray, List.set_cons_succ, List.set_cons_zero]; try rfl)) ?_)
  (refine kind_pure (v := ?_) rfl ?_ ?_; rotate_left; (focus (intro K w' hK; go_simp; exact hK)); refine kinds_put (by (simp only [Act.put, List.setIfInBounds_toArray, List.set_cons_succ, List.set_cons_zero]; try rfl)) ?_)
  (refine kind_pure (v := ?_) rfl ?_ ?_; rotate_left; (focus (intro K w' hK; go_simp; exact hK)); refine kinds_put (by (simp only [Act.put, List.setIfInBounds_toArray, List.set_cons_succ, List.set_cons_zero]; try rfl)) ?_)
  (refine kind_pure (v := ?_) rfl ?_ ?_; rotate_left; (focus (intro K w' hK; go_simp; exact hK)); refine kinds_put (by (simp only [Act.put, List.setIfInBounds_toArray, List.set_cons_succ, List.set_cons_zero]; try rfl)) ?_)
  (refine kind_firm (v := ?_) rfl ?_ ?_; rotate_left; (focus (intro K w' hg hK; go_simp; refine Calls.mono (half_any _) ?_; rintro e w'' ⟨rfl, hb⟩; refine ⟨_, rfl, ?_⟩; exact hK _ hb)); refine kinds_put (by (simp only [Act.put, List.setIfInBounds_toArray, List.set_cons_succ, List.set_cons_zero]; try rfl)) ?_)
  (refine kind_pure (v := ?_) rfl ?_ ?_; rotate_left; (focus (intro K w' hK; go_simp; exact hK)); refine kinds_put (by (simp only [Act.put, List.setIfInBounds_toArray, List.set_cons_succ, List.set_cons_zero]; try rfl)) ?_)
  (refine kind_pure (v := ?_) rfl ?_ ?_; rotate_left; (focus (intro K w' hK; go_simp; exact hK)); refine kinds_put (by (simp only [Act.put, List.setIfInBounds_toArray, List.set_cons_succ, List.set_cons_zero]; try rfl)) ?_)
  refine kind_end ?_
  intro w7 h7
  replace hF0 := (hF0.drew.after h7)
  have bwsz := Below.size bw
  replace bw := below_call h7 (w := w) (by first | exact (Below.drew bw) | go_grown)
  clear h7 bwsz
  clear k4 k5 k6
  go_wp2
  go_ret
  exact ⟨rfl, (by first | exact bw | go_grown)⟩
theorem sums_walk (base : Bool) (a b : Nat) (ha : a < RR) (hb : b < RR) (w : World) : Calls Try.prog 9 #[.bool base, num a, num b] w fun e w' => e = .returned (.bool true) ∧ Below w.heap.size w w' := by
  by_cases h : a < pN base
  · by_cases k : b < pN base
    · exact sums_in base a b ha hb h k w
    · exact sums_noy base a b ha hb h k w
  · exact sums_nox base a b ha hb h w
end Go.Proofs.Ytlibfjemdiochaa
