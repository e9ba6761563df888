/- FieldProducts, the walk. -/
import Derived.Test.YtlibfjemdiochaaLF1
namespace Go.Proofs.Ytlibfjemdiochaa
set_option linter.unusedVariables false
set_option linter.unusedSimpArgs false
open Go.RowKit

set_option maxRecDepth 20000 in
set_option maxHeartbeats 2000000 in
theorem fprods_in (base : Bool) (a b : Nat) (ha : a < RR) (hb : b < RR) (h : a < pN base) (k : b < pN base) (w : World) : Calls Try.prog 5 #[.bool base, num a, num b] w fun e w' => e = .returned (.bool true) ∧ Below w.heap.size w w' := by
  have q1 : ∀ w, (Op.equalIn 10000 24 (num (fmlN base a b)) (num (fmlN base a b))).run Try.prog w = .ok true w := by intro w; exact eqin_same (fmlN base a b) _
  go_enter Try.func5, Try.ntmps5
  go_wp2_with fail
  (with_reducible refine (of_any base _).mono ?_)
  rintro e w1 ⟨f0, g0, rfl, hF0, h1⟩
  have k1 := (((Blk.newAt (n := w.heap.size) _ _ _ (by first | rfl | simp)).alloc _).after h1)
  have k2 := ((Blk.newAt (n := w.heap.size + 1) _ _ _ (by first | rfl | simp)).after h1)
  have bw := below_call h1 (w := w) (by first | exact (below_alloc (Below.alloc (Below.refl _ _) (Below.size (Below.refl _ _)) _) _) | go_grown)
  clear h1
  obtain ⟨k1_c, k1_f, k1_l, k1_m, k1_n⟩ := k1.knows
  obtain ⟨k2_c, k2_f, k2_l, k2_m, k2_n⟩ := k2.knows
  go_wp2_with fail
  (with_reducible refine (fmul_yes (hF0.alloc _) a b h k).mono ?_)
  rintro e w2 ⟨rfl, h2⟩
  clear k1_c k1_f k1_m k1_n k2_c k2_f k2_m k2_n
  have o3 : w.heap.size + 1 < w1.heap.size := by first | exact k2_l | omega
  replace k1 := ((k1.alloc _).after h2)
  replace k2 := ((k2.alloc _).after h2)
  replace hF0 := ((hF0.alloc _).after h2)
  have k3 := ((Blk.newAt (n := w1.heap.size) _ _ _ (by first | rfl | simp)).after h2)
  have bwsz := Below.size bw
  replace bw := below_call h2 (w := w) (by first | exact (Below.alloc bw (Below.size bw) _) | go_grown)
  clear h2 bwsz k1_l k2_l
  obtain ⟨k1_c, k1_f, k1_l, k1_m, k1_n⟩ := k1.knows
  obtain ⟨k2_c, k2_f, k2_l, k2_m, k2_n⟩ := k2.knows
  obtain ⟨k3_c, k3_f, k3_l, k3_m, k3_n⟩ := k3.knows
  go_wp2_with fail
  (with_reducible refine (r2times_any a b ha hb _).mono ?_)
  rintro e w3 ⟨rfl, h3⟩
  clear k1_c k1_f k1_m k1_n k2_c k2_f k2_m k2_n k3_c k3_f k3_m k3_n
  have o4 : w1.heap.size < w2.heap.size := by first | exact k3_l | omega
  replace k1 := ((k1.alloc _).after h3)
  replace k2 := ((k2.alloc _).after h3)
  replace hF0 := ((hF0.alloc _).after h3)
  replace k3 := ((k3.alloc _).after h3)
  have k4 := ((Blk.newAt (n := w2.heap.size) _ _ _ (by first | rfl | simp)).after h3)
  have bwsz := Below.size bw
  replace bw := below_call h3 (w := w) (by first | exact (Below.alloc bw (Below.size bw) _) | go_grown)
  clear h3 bwsz k1_l k2_l k3_l
  obtain ⟨k1_c, k1_f, k1_l, k1_m, k1_n⟩ := k1.knows
  obtain ⟨k2_c, k2_f, k2_l, k2_m, k2_n⟩ := k2.knows
  obtain ⟨k3_c, k3_f, k3_l, k3_m, k3_n⟩ := k3.knows
  obtain ⟨k4_c, k4_f, k4_l, k4_m, k4_n⟩ := k4.knows
  go_upto_region 4 with (fail)
  clear k1_c k1_f k1_m k1_n k2_c k2_f k2_m k2_n k3_c k3_f k3_m k3_n k4_c k4_f k4_m k4_n
  refine wp_world (fun W => Blk W w.heap.size 24 #[.int .u64 (lb a 0), .int .u64 (lb a 1), .int .u64 (lb a 2), .int .u64 (lb a 3)] ∧ Blk W (w.heap.size + 1) 24 #[.int .u64 (lb b 0), .int .u64 (lb b 1), .int .u64 (lb b 2), .int .u64 (lb b 3)] ∧ FieldB W f0 g0 base ∧ Blk W w1.heap.size 27 #[.int .u64 (lb (pN base) 0), .int .u64 (lb (pN base) 1), .int .u64 (lb (pN base) 2), .int .u64 (lb (pN base) 3), .int .u64 (lb (cN base) 0), .int .u64 (lb (cN base) 1), .int .u64 (lb (cN base) 2), .int .u64 (lb (cN base) 3)] ∧ Blk W w2.heap.size 24 #[.int .u64 (lb (fmlN base a b) 0), .int .u64 (lb (fmlN base a b) 1), .int .u64 (lb (fmlN base a b) 2), .int .u64 (lb (fmlN base a b) 3)] ∧ Blk W w3.heap.size 43 #[.int .u64 (lb (mulN a b) 0), .int .u64 (lb (mulN a b) 1), .int .u64 (lb (mulN a b) 2), .int .u64 (lb (mulN a b) 3), .int .u64 (lb (mulN a b) 4), .int .u64 (lb (mulN a b) 5), .int .u64 (lb (mulN a b) 6), .int .u64 (lb (mulN a b) 7)] ∧ Below w.heap.size w W) ?_ ⟨(k1.alloc _), (k2.alloc _), (hF0.alloc _), (k3.alloc _), (k4.alloc _), (Blk.newAt (n := w3.heap.size) _ _ _ (by first | rfl | simp)), (by first | exact (Below.alloc bw (Below.size bw) _) | go_grown)⟩
  have o5 : w2.heap.size < w3.heap.size := by first | exact k4_l | omega
  clear k1 k2 hF0 k3 k4 bw k1_l k2_l k3_l k4_l
  rintro W4 ⟨k1, k2, hF0, k3, k4, k5, bw⟩
  refine wp_region_all [] 27 [(0, 1), (1, 0), (2, 0), (3, 0), (4, 0), (5, 1), (6, 1), (7, 1), (8, 1), (9, 1), (10, 0), (11, 1), (12, 1), (13, 1), (14, 1), (15, 1), (16, 1), (17, 1), (18, 1), (19, 0), (20, 0), (21, 0), (22, 0), (23, 0), (24, 1), (25, 1), (26, 1)] (by kernel_rfl) (by kernel_rfl) ?_
  (refine kind_pure (v := ?_) rfl ?_ ?_; rotate_left; (focus (intro K w' hK; go_simp; exact hK)); refine kinds_put (by (simp only [Act.put, List.setIfInBounds_toArray, List.set_cons_succ, List.set_cons_zero]; try rfl)) ?_)
  (refine kind_firm (v := ?_) rfl ?_ ?_; rotate_left; (focus (intro K w' hg hK; have hc1 := (k3.drew.after hg).cell; go_simp; exact hK _ (Grow.refl _))); refine kinds_put (by (simp only [Act.put, List.setIfInBounds_toArray, List.set_cons_succ, List.set_cons_zero]; try rfl)) ?_)
  (refine kind_firm (v := ?_) rfl ?_ ?_; rotate_left; (focus (intro K w' hg hK; have hc1 := (k1.drew.after hg).cell; go_simp; exact hK _ (Grow.refl _))); refine kinds_put (by (simp only [Act.put, List.setIfInBounds_toArray, List.set_cons_succ, List.set_cons_zero]; try rfl)) ?_)
  (refine kind_firm (v := ?_) rfl ?_ ?_; rotate_left; (focus (intro K w' hg hK; have hc1 := (k2.drew.after hg).cell; go_simp; exact hK _ (Grow.refl _))); refine kinds_put (by (simp only [Act.put, List.setIfInBounds_toArray, List.set_cons_succ, List.set_cons_zero]; try rfl)) ?_)
  (refine kind_firm (v := ?_) rfl ?_ ?_; rotate_left; (focus (intro K w' hg hK; go_simp; refine Calls.mono (rask_yes a b h k _) ?_; rintro e w'' ⟨rfl, hb⟩; refine ⟨_, rfl, ?_⟩; exact hK _ hb)); refine kinds_put (by (simp only [Act.put, List.setIfInBounds_toArray, List.set_cons_succ, List.set_cons_zero]; try rfl)) ?_)
  (refine kind_pure (v := ?_) rfl ?_ ?_; rotate_left; (focus (intro K w' hK; go_simp; exact hK)); refine kinds_put (by (simp only [Act.put, List.setIfInBounds_toArray, List.set_cons_succ, List.set_cons_zero]; try rfl)) ?_)
  (refine kind_pure (v := ?_) rfl ?_ ?_; rotate_left; (focus (intro K w' hK; go_simp; exact hK)); refine kinds_put (by (simp only [Act.put, List.setIfInBounds_toArray, List.set_cons_succ, List.set_cons_zero]; try rfl)) ?_)
  (refine kind_pure (v := ?_) rfl ?_ ?_; rotate_left; (focus (intro K w' hK; go_simp; exact hK)); refine kinds_put (by (simp only [Act.put, List.setIfInBounds_toArray, List.set_cons_succ, List.set_cons_zero]; try rfl)) ?_)
  (refine kind_pure (v := ?_) rfl ?_ ?_; rotate_left; (focus (intro K w' hK; go_simp; exact hK)); refine kinds_put (by (simp only [Act.put, List.setIfInBounds_toArray, List.set_cons_succ, List.set_cons_zero]; try rfl)) ?_)
  (refine kind_pure (v := ?_) rfl ?_ ?_; rotate_left; (focus (intro K w' hK; go_simp; exact hK)); refine kinds_put (by (simp only [Act.put, List.setIfInBounds_toArray, List.set_cons_succ, List.set_cons_zero]; try rfl)) ?_)
  (refine kind_firm (v := ?_) rfl ?_ ?_; rotate_left; (focus (intro K w' hg hK; go_simp; exact hK _ (Grow.refl _))); refine kinds_put (by (simp only [Act.put, List.setIfInBounds_toArray, List.set_cons_succ, List.set_cons_zero]; try rfl)) ?_)
  (refine kind_pure (v := ?_) rfl ?_ ?_; rotate_left; (focus (intro K w' hK; go_simp; exact hK)); refine kinds_put (by (simp only [Act.put, List.setIfInBounds_toArray, List.set_cons_succ, List.set_cons_zero]; try rfl)) ?_)
  (refine kind_pure (v := ?_) rfl ?_ ?_; rotate_left; (focus (intro K w' hK; go_simp; exact hK)); refine kinds_put (by (simp only [Act.put, List.setIfInBounds_toArray, List.set_cons_succ, List.set_cons_zero]; try rfl)) ?_)
  (refine kind_pure (v := ?_) rfl ?_ ?_; rotate_left; (focus (intro K w' hK; go_simp; exact hK)); refine kinds_put (by (simp only [Act.put, List.setIfInBounds_toArray, List.set_cons_succ, List.set_cons_zero]; try rfl)) ?_)
  (refine kind_pure (v := ?_) rfl ?_ ?_; rotate_left; (focus (intro K w' hK; go_simp; exact hK)); refine kinds_put (by (simp only [Act.put, List.setIfInBounds_toArray, List.set_cons_succ, List.set_cons_zero]; try rfl)) ?_)
  (refine kind_pure (v := ?_) rfl ?_ ?_; rotate_left; (focus (intro K w' hK; go_simp; exact hK)); refine kinds_put (by (simp only [Act.put, List.setIfInBounds_toArray, List.set_cons_succ, List.set_cons_zero]; try rfl)) ?_)
  (refine kind_pure (v := ?_) rfl ?_ ?_; rotate_left; (focus (intro K w' hK; go_simp; exact hK)); refine kinds_put (by (simp only [Act.put, List.setIfInBounds_toArray, List.set_cons_succ, List.set_cons_zero]; try rfl)) ?_)
  (refine kind_pure (v := ?_) rfl ?_ ?_; rotate_left; (focus (intro K w' hK; go_simp; exact hK)); refine kinds_put (by (simp only [Act.put, List.setIfInBounds_toArray, List.set_cons_succ, List.set_cons_zero]; try rfl)) ?_)
  (refine kind_pure (v := ?_) rfl ?_ ?_; rotate_left; (focus (intro K w' hK; go_simp; exact hK)); refine kinds_put (by (simp only [Act.put, List.setIfInBounds_toArray, List.set_cons_succ, List.set_cons_zero]; try rfl)) ?_)
  (refine kind_firm (v := ?_) rfl ?_ ?_; rotate_left; (focus (intro K w' hg hK; have hc1 := (k4.drew.after hg).cell; go_simp; exact hK _ (Grow.refl _))); refine kinds_put (by (simp only [Act.put, List.setIfInBounds_toArray, List.set_cons_succ, List.set_cons_zero]; try rfl)) ?_)
  (refine kind_firm (v := ?_) rfl ?_ ?_; rotate_left; (focus (intro K w' hg hK; have hc1 := (k3.drew.after hg).cell; go_simp; exact hK _ (Grow.refl _))); refine kinds_put (by (simp only [Act.put, List.setIfInBounds_toArray, List.set_cons_succ, List.set_cons_zero]; try rfl)) ?_)
  (refine kind_firm (v := ?_) rfl ?_ ?_; rotate_left; (focus (intro K w' hg hK; have hc1 := (k1.drew.after hg).cell; go_simp; exact hK _ (Grow.refl _))); refine kinds_put (by (simp only [Act.put, List.setIfInBounds_toArray, List.set_cons_succ, List.set_cons_zero]; try rfl)) ?_)
  (refine kind_firm (v := ?_) rfl ?_ ?_; rotate_left; (focus (intro K w' hg hK; have hc1 := (k2.drew.after hg).cell; go_simp; exact hK _ (Grow.refl _))); refine kinds_put (by (simp only [Act.put, List.setIfInBounds_toArray, List.set_cons_succ, List.set_cons_zero]; try rfl)) ?_)
  (refine kind_firm (v := ?_) rfl ?_ ?_; rotate_left; (focus (intro K w' hg hK; go_simp; refine Calls.mono (rfmul a b ha hb _) ?_; rintro e w'' ⟨rfl, hb⟩; refine ⟨_, rfl, ?_⟩; exact hK _ hb)); refine kinds_put (by (simp only [Act.put, List.setIfInBounds_toArray, List.set_cons_succ, List.set_cons_zero]; try rfl)) ?_)
  (refine kind_pure (v := ?_) rfl ?_ ?_; rotate_left; (focus (intro K w' hK; go_simp; exact hK)); refine kinds_put (by (simp only [Act.put, List.setIfInBounds_toArray, List.set_cons_succ, List.set_cons_zero]; try rfl)) ?_)
  (refine kind_pure (v := ?_) rfl ?_ ?_; rotate_left; (focus (intro K w' hK; go_simp; exact hK)); refine kinds_put (by (simp only [Act.put, List.setIfInBounds_toArray, List.set_cons_succ, List.set_cons_zero]; try rfl)) ?_)
  (refine kind_pure (v := ?_) rfl ?_ ?_; rotate_left; (focus (intro K w' hK; go_simp; exact hK)); refine kinds_put (by (simp only [Act.put, List.setIfInBounds_toArray, List.set_cons_succ, List.set_cons_zero]; try rfl)) ?_)
  refine kind_end ?_
  intro w5 h5
  replace hF0 := (hF0.drew.after h5)
  replace k3 := (k3.drew.after h5)
  replace k5 := (k5.drew.after h5)
  have bwsz := Below.size bw
  replace bw := below_call h5 (w := w) (by first | exact (Below.drew bw) | go_grown)
  clear h5 bwsz
  clear k1 k2 k4
  obtain ⟨k3_c, k3_f, k3_l, k3_m, k3_n⟩ := k3.knows
  obtain ⟨k5_c, k5_f, k5_l, k5_m, k5_n⟩ := k5.knows
  go_upto_region 6 with (fail)
  clear k3_c k3_f k3_m k3_n k5_c k5_f k5_m k5_n
  clear k3_l k5_l
  refine wp_region_all [] 11 [(0, 1), (1, 0), (2, 0), (3, 0), (4, 0), (5, 0), (6, 1), (7, 1), (8, 0), (9, 1), (10, 1)] (by kernel_rfl) (by kernel_rfl) ?_
  (refine kind_pure (v := ?_) rfl ?_ ?_; rotate_left; (focus (intro K w' hK; go_simp; exact hK)); refine kinds_put (by (simp only [Act.put, List.setIfInBounds_toArray, List.set_cons_succ, List.set_cons_zero]; try rfl)) ?_)
  (refine kind_firm (v := ?_) rfl ?_ ?_; rotate_left; (focus (intro K w' hg hK; have hc1 := (k5.drew.after hg).cell; go_simp; exact hK _ (Grow.refl _))); refine kinds_put (by (simp only [Act.put, List.setIfInBounds_toArray, List.set_cons_succ, List.set_cons_zero]; try rfl)) ?_)
  (refine kind_firm (v := ?_) rfl ?_ ?_; rotate_left; (focus (intro K w' hg hK; go_simp; refine Calls.mono (freduce_mul (hF0.drew.after hg) a b ha hb) ?_; rintro e w'' ⟨rfl, hb⟩; refine ⟨_, rfl, ?_⟩; exact hK _ hb)); refine kinds_put (by (simp only [Act.put, List.setIfInBounds_toArray, List.set_cons_succ, List.set_cons_zero]; try rfl)) ?_)
  (refine kind_firm (v := ?_) rfl ?_ ?_; rotate_left; (focus (intro K w' hg hK; have hc1 := (k3.drew.after hg).cell; go_simp; exact hK _ (Grow.refl _))); refine kinds_put (by (simp only [Act.put, List.setIfInBounds_toArray, List.set_cons_succ, List.set_cons_zero]; try rfl)) ?_)
  (refine kind_firm (v := ?_) rfl ?_ ?_; rotate_left; (focus (intro K w' hg hK; have hc1 := (k5.drew.after hg).cell; go_simp; exact hK _ (Grow.refl _))); refine kinds_put (by (simp only [Act.put, List.setIfInBounds_toArray, List.set_cons_succ, List.set_cons_zero]; try rfl)) ?_)
  (refine kind_firm (v := ?_) rfl ?_ ?_; rotate_left; (focus (intro K w' hg hK; go_simp; refine Calls.mono (rreduce_mul a b ha hb _) ?_; rintro e w'' ⟨rfl, hb⟩; refine ⟨_, rfl, ?_⟩; exact hK _ hb)); refine kinds_put (by (simp only [Act.put, List.setIfInBounds_toArray, List.set_cons_succ, List.set_cons_zero]; try rfl)) ?_)
  (refine kind_pure (v := ?_) rfl ?_ ?_; rotate_left; (focus (intro K w' hK; go_simp; exact hK)); refine kinds_put (by (simp only [Act.put, List.setIfInBounds_toArray, List.set_cons_succ, List.set_cons_zero]; try rfl)) ?_)
  (refine kind_pure (v := ?_) rfl ?_ ?_; rotate_left; (focus (intro K w' hK; go_simp; exact hK)); refine kinds_put (by (simp only [Act.put, List.setIfInBounds_toArray, List.set_cons_succ, List.set_cons_zero]; try rfl)) ?_)
  (refine kind_firm (v := ?_) rfl ?_ ?_; rotate_left; (focus (intro K w' hg hK; go_simp; refine Calls.mono (half_any _) ?_; rintro e w'' ⟨rfl, hb⟩; refine ⟨_, rfl, ?_⟩; exact hK _ hb)); refine kinds_put (by (simp only [Act.put, List.setIfInBounds_toArray, List.set_cons_succ, List.set_cons_zero]; try rfl)) ?_)
  (refine kind_pure (v := ?_) rfl ?_ ?_; rotate_left; (focus (intro K w' hK; go_simp; exact hK)); refine kinds_put (by (simp only [Act.put, List.setIfInBounds_toArray, List.set_cons_succ, List.set_cons_zero]; try rfl)) ?_)
  (refine kind_pure (v := ?_) rfl ?_ ?_; rotate_left; (focus (intro K w' hK; go_simp; exact hK)); refine kinds_put (by (simp only [Act.put, List.setIfInBounds_toArray, List.set_cons_succ, List.set_cons_zero]; try rfl)) ?_)
  refine kind_end ?_
  intro w6 h6
  replace hF0 := (hF0.drew.after h6)
  have bwsz := Below.size bw
  replace bw := below_call h6 (w := w) (by first | exact (Below.drew bw) | go_grown)
  clear h6 bwsz
  clear k3 k5
  go_wp2
  go_ret
  exact ⟨rfl, (by first | exact bw | go_grown)⟩
set_option maxRecDepth 20000 in
set_option maxHeartbeats 2000000 in
theorem fprods_noy (base : Bool) (a b : Nat) (ha : a < RR) (hb : b < RR) (h : a < pN base) (k : ¬ b < pN base) (w : World) : Calls Try.prog 5 #[.bool base, num a, num b] w fun e w' => e = .returned (.bool true) ∧ Below w.heap.size w w' := by
  have q1 : ∀ w, (Op.equalIn 10000 24 (num 0) (zeroV)).run Try.prog w = .ok true w := by intro w; rw [← num_zero]; exact eqin_same 0 _
  have q2 : ∀ w, (Op.equalIn 10000 24 (num (fmlN base a b)) (num (fmlN base a b))).run Try.prog w = .ok true w := by intro w; exact eqin_same (fmlN base a b) _
  go_enter Try.func5, Try.ntmps5
  go_wp2_with fail
  (with_reducible refine (of_any base _).mono ?_)
  rintro e w1 ⟨f0, g0, rfl, hF0, h1⟩
  have k1 := (((Blk.newAt (n := w.heap.size) _ _ _ (by first | rfl | simp)).alloc _).after h1)
  have k2 := ((Blk.newAt (n := w.heap.size + 1) _ _ _ (by first | rfl | simp)).after h1)
  have bw := below_call h1 (w := w) (by first | exact (below_alloc (Below.alloc (Below.refl _ _) (Below.size (Below.refl _ _)) _) _) | go_grown)
  clear h1
  obtain ⟨k1_c, k1_f, k1_l, k1_m, k1_n⟩ := k1.knows
  obtain ⟨k2_c, k2_f, k2_l, k2_m, k2_n⟩ := k2.knows
  go_wp2_with fail
  (with_reducible refine (fmul_noy (hF0.alloc _) a b hb h k).mono ?_)
  rintro e w2 ⟨rfl, h2⟩
  clear k1_c k1_f k1_m k1_n k2_c k2_f k2_m k2_n
  have o3 : w.heap.size + 1 < w1.heap.size := by first | exact k2_l | omega
  replace k1 := ((k1.alloc _).after h2)
  replace k2 := ((k2.alloc _).after h2)
  replace hF0 := ((hF0.alloc _).after h2)
  have k3 := ((Blk.newAt (n := w1.heap.size) _ _ _ (by first | rfl | simp)).after h2)
  have bwsz := Below.size bw
  replace bw := below_call h2 (w := w) (by first | exact (Below.alloc bw (Below.size bw) _) | go_grown)
  clear h2 bwsz k1_l k2_l
  obtain ⟨k1_c, k1_f, k1_l, k1_m, k1_n⟩ := k1.knows
  obtain ⟨k2_c, k2_f, k2_l, k2_m, k2_n⟩ := k2.knows
  obtain ⟨k3_c, k3_f, k3_l, k3_m, k3_n⟩ := k3.knows
  go_wp2_with fail
  (with_reducible refine (r2times_any a b ha hb _).mono ?_)
  rintro e w3 ⟨rfl, h3⟩
  clear k1_c k1_f k1_m k1_n k2_c k2_f k2_m k2_n k3_c k3_f k3_m k3_n
  have o4 : w1.heap.size < w2.heap.size := by first | exact k3_l | omega
  replace k1 := ((k1.alloc _).after h3)
  replace k2 := ((k2.alloc _).after h3)
  replace hF0 := ((hF0.alloc _).after h3)
  replace k3 := ((k3.alloc _).after h3)
  have k4 := ((Blk.newAt (n := w2.heap.size) _ _ _ (by first | rfl | simp)).after h3)
  have bwsz := Below.size bw
  replace bw := below_call h3 (w := w) (by first | exact (Below.alloc bw (Below.size bw) _) | go_grown)
  clear h3 bwsz k1_l k2_l k3_l
  obtain ⟨k1_c, k1_f, k1_l, k1_m, k1_n⟩ := k1.knows
  obtain ⟨k2_c, k2_f, k2_l, k2_m, k2_n⟩ := k2.knows
  obtain ⟨k3_c, k3_f, k3_l, k3_m, k3_n⟩ := k3.knows
  obtain ⟨k4_c, k4_f, k4_l, k4_m, k4_n⟩ := k4.knows
  go_upto_region 4 with (fail)
  clear k1_c k1_f k1_m k1_n k2_c k2_f k2_m k2_n k3_c k3_f k3_m k3_n k4_c k4_f k4_m k4_n
  refine wp_world (fun W => Blk W w.heap.size 24 #[.int .u64 (lb a 0), .int .u64 (lb a 1), .int .u64 (lb a 2), .int .u64 (lb a 3)] ∧ Blk W (w.heap.size + 1) 24 #[.int .u64 (lb b 0), .int .u64 (lb b 1), .int .u64 (lb b 2), .int .u64 (lb b 3)] ∧ FieldB W f0 g0 base ∧ Blk W w1.heap.size 27 #[.int .u64 (lb (pN base) 0), .int .u64 (lb (pN base) 1), .int .u64 (lb (pN base) 2), .int .u64 (lb (pN base) 3), .int .u64 (lb (cN base) 0), .int .u64 (lb (cN base) 1), .int .u64 (lb (cN base) 2), .int .u64 (lb (cN base) 3)] ∧ Blk W w2.heap.size 24 #[.int .u64 (lb 0 0), .int .u64 (lb 0 1), .int .u64 (lb 0 2), .int .u64 (lb 0 3)] ∧ Blk W w3.heap.size 43 #[.int .u64 (lb (mulN a b) 0), .int .u64 (lb (mulN a b) 1), .int .u64 (lb (mulN a b) 2), .int .u64 (lb (mulN a b) 3), .int .u64 (lb (mulN a b) 4), .int .u64 (lb (mulN a b) 5), .int .u64 (lb (mulN a b) 6), .int .u64 (lb (mulN a b) 7)] ∧ Below w.heap.size w W) ?_ ⟨(k1.alloc _), (k2.alloc _), (hF0.alloc _), (k3.alloc _), (k4.alloc _), (Blk.newAt (n := w3.heap.size) _ _ _ (by first | rfl | simp)), (by first | exact (Below.alloc bw (Below.size bw) _) | go_grown)⟩
  have o5 : w2.heap.size < w3.heap.size := by first | exact k4_l | omega
  clear k1 k2 hF0 k3 k4 bw k1_l k2_l k3_l k4_l
  rintro W4 ⟨k1, k2, hF0, k3, k4, k5, bw⟩
  refine wp_region_all [] 27 [(0, 1), (1, 0), (2, 0), (3, 0), (4, 0), (5, 1), (6, 1), (7, 1), (8, 1), (9, 1), (10, 0), (11, 1), (12, 1), (13, 1), (14, 1), (15, 1), (16, 1), (17, 1), (18, 1), (19, 0), (20, 0), (21, 0), (22, 0), (23, 0), (24, 1), (25, 1), (26, 1)] (by kernel_rfl) (by kernel_rfl) ?_
  (refine kind_pure (v := ?_) rfl ?_ ?_; rotate_left; (focus (intro K w' hK; go_simp; exact hK)); refine kinds_put (by (simp only [Act.put, List.setIfInBounds_toArray, List.set_cons_succ, List.set_cons_zero]; try rfl)) ?_)
  (refine kind_firm (v := ?_) rfl ?_ ?_; rotate_left; (focus (intro K w' hg hK; have hc1 := (k3.drew.after hg).cell; go_simp; exact hK _ (Grow.refl _))); refine kinds_put (by (simp only [Act.put, List.setIfInBounds_toArray, List.set_cons_succ, List.set_cons_zero]; try rfl)) ?_)
  (refine kind_firm (v := ?_) rfl ?_ ?_; rotate_left; (focus (intro K w' hg hK; have hc1 := (k1.drew.after hg).cell; go_simp; exact hK _ (Grow.refl _))); refine kinds_put (by (simp only [Act.put, List.setIfInBounds_toArray, List.set_cons_succ, List.set_cons_zero]; try rfl)) ?_)
  (refine kind_firm (v := ?_) rfl ?_ ?_; rotate_left; (focus (intro K w' hg hK; have hc1 := (k2.drew.after hg).cell; go_simp; exact hK _ (Grow.refl _))); refine kinds_put (by (simp only [Act.put, List.setIfInBounds_toArray, List.set_cons_succ, List.set_cons_zero]; try rfl)) ?_)
  (refine kind_firm (v := ?_) rfl ?_ ?_; rotate_left; (focus (intro K w' hg hK; go_simp; refine Calls.mono (rask_noy a b hb h k _) ?_; rintro e w'' ⟨rfl, hb⟩; refine ⟨_, rfl, ?_⟩; exact hK _ hb)); refine kinds_put (by (simp only [Act.put, List.setIfInBounds_toArray, List.set_cons_succ, List.set_cons_zero]; try rfl)) ?_)
  (refine kind_pure (v := ?_) rfl ?_ ?_; rotate_left; (focus (intro K w' hK; go_simp; exact hK)); refine kinds_put (by (simp only [Act.put, List.setIfInBounds_toArray, List.set_cons_succ, List.set_cons_zero]; try rfl)) ?_)
  (refine kind_pure (v := ?_) rfl ?_ ?_; rotate_left; (focus (intro K w' hK; go_simp; exact hK)); refine kinds_put (by (simp only [Act.put, List.setIfInBounds_toArray, List.set_cons_succ, List.set_cons_zero]; try rfl)) ?_)
  (refine kind_pure (v := ?_) rfl ?_ ?_; rotate_left; (focus (intro K w' hK; go_simp; exact hK)); refine kinds_put (by (simp only [Act.put, List.setIfInBounds_toArray, List.set_cons_succ, List.set_cons_zero]; try rfl)) ?_)
  (refine kind_pure (v := ?_) rfl ?_ ?_; rotate_left; (focus (intro K w' hK; go_simp; exact hK)); refine kinds_put (by (simp only [Act.put, List.setIfInBounds_toArray, List.set_cons_succ, List.set_cons_zero]; try rfl)) ?_)
  (refine kind_pure (v := ?_) rfl ?_ ?_; rotate_left; (focus (intro K w' hK; go_simp; exact hK)); refine kinds_put (by (simp only [Act.put, List.setIfInBounds_toArray, List.set_cons_succ, List.set_cons_zero]; try rfl)) ?_)
  (refine kind_firm (v := ?_) rfl ?_ ?_; rotate_left; (focus (intro K w' hg hK; have hc1 := (k4.drew.after hg).cell; go_simp; exact hK _ (Grow.refl _))); refine kinds_put (by (simp only [Act.put, List.setIfInBounds_toArray, List.set_cons_succ, List.set_cons_zero]; try rfl)) ?_)
  (refine kind_pure (v := ?_) rfl ?_ ?_; rotate_left; (focus (intro K w' hK; go_simp; exact hK)); refine kinds_put (by (simp only [Act.put, List.setIfInBounds_toArray, List.set_cons_succ, List.set_cons_zero]; try rfl)) ?_)
  (refine kind_pure (v := ?_) rfl ?_ ?_; rotate_left; (focus (intro K w' hK; go_simp; exact hK)); refine kinds_put (by (simp only [Act.put, List.setIfInBounds_toArray, List.set_cons_succ, List.set_cons_zero]; try rfl)) ?_)
  (refine kind_pure (v := ?_) rfl ?_ ?_; rotate_left; (focus (intro K w' hK; go_simp; exact hK)); refine kinds_put (by (simp only [Act.put, List.setIfInBounds_toArray, List.set_cons_succ, List.set_cons_zero]; try rfl)) ?_)
  (refine kind_pure (v := ?_) rfl ?_ ?_; rotate_left; (focus (intro K w' hK; go_simp; exact hK)); refine kinds_put (by (simp only [Act.put, List.setIfInBounds_toArray, List.set_cons_succ, List.set_cons_zero]; try rfl)) ?_)
  (refine kind_pure (v := ?_) rfl ?_ ?_; rotate_left; (focus (intro K w' hK; go_simp; exact hK)); refine kinds_put (by (simp only [Act.put, List.setIfInBounds_toArray, List.set_cons_succ, List.set_cons_zero]; try rfl)) ?_)
  (refine kind_pure (v := ?_) rfl ?_ ?_; rotate_left; (focus (intro K w' hK; go_simp; exact hK)); refine kinds_put (by (simp only [Act.put, List.setIfInBounds_toArray, List.set_cons_succ, List.set_cons_zero]; try rfl)) ?_)
  (refine kind_pure (v := ?_) rfl ?_ ?_; rotate_left; (focus (intro K w' hK; go_simp; exact hK)); refine kinds_put (by (simp only [Act.put, List.setIfInBounds_toArray, List.set_cons_succ, List.set_cons_zero]; try rfl)) ?_)
  (refine kind_pure (v := ?_) rfl ?_ ?_; rotate_left; (focus (intro K w' hK; go_simp; exact hK)); refine kinds_put (by (simp only [Act.put, List.setIfInBounds_toArray, List.set_cons_succ, List.set_cons_zero]; try rfl)) ?_)
  (refine kind_firm (v := ?_) rfl ?_ ?_; rotate_left; (focus (intro K w' hg hK; go_simp; exact hK _ (Grow.refl _))); refine kinds_put (by (simp only [Act.put, List.setIfInBounds_toArray, List.set_cons_succ, List.set_cons_zero]; try rfl)) ?_)
  (refine kind_firm (v := ?_) rfl ?_ ?_; rotate_left; (focus (intro K w' hg hK; go_simp; exact hK _ (Grow.refl _))); refine kinds_put (by (simp only [Act.put, List.setIfInBounds_toArray, List.set_cons_succ, List.set_cons_zero]; try rfl)) ?_)
  (refine kind_firm (v := ?_) rfl ?_ ?_; rotate_left; (focus (intro K w' hg hK; go_simp; exact hK _ (Grow.refl _))); refine kinds_put (by (simp only [Act.put, List.setIfInBounds_toArray, List.set_cons_succ, List.set_cons_zero]; try rfl)) ?_)
  (refine kind_firm (v := ?_) rfl ?_ ?_; rotate_left; (focus (intro K w' hg hK; go_simp; exact hK _ (Grow.refl _))); refine kinds_put (by (simp only [Act.put, List.setIfInBounds_toArray, List.set_cons_succ, List.set_cons_zero]; try rfl)) ?_)
  (refine kind_firm (v := ?_) rfl ?_ ?_; rotate_left; (focus (intro K w' hg hK; go_simp; exact hK _ (Grow.refl _))); refine kinds_put (by (simp only [Act.put, List.setIfInBounds_toArray, List.set_cons_succ, List.set_cons_zero]; try rfl)) ?_)
  (refine kind_pure (v := ?_) rfl ?_ ?_; rotate_left; (focus (intro K w' hK; go_simp; exact hK)); refine kinds_put (by (simp only [Act.put, List.setIfInBounds_toArray, List.set_cons_succ, List.set_cons_zero]; try rfl)) ?_)
  (refine kind_pure (v := ?_) rfl ?_ ?_; rotate_left; (focus (intro K w' hK; go_simp; exact hK)); refine kinds_put (by (simp only [Act.put, List.setIfInBounds_toArray, List.set_cons_succ, List.set_cons_zero]; try rfl)) ?_)
  (refine kind_pure (v := ?_) rfl ?_ ?_; rotate_left; (focus (intro K w' hK; go_simp; exact hK)); refine kinds_put (by (simp only [Act.put, List.setIfInBounds_toArray, List.set_cons_succ, List.set_cons_zero]; try rfl)) ?_)
  refine kind_end ?_
  intro w5 h5
  replace hF0 := (hF0.drew.after h5)
  replace k3 := (k3.drew.after h5)
  replace k5 := (k5.drew.after h5)
  have bwsz := Below.size bw
  replace bw := below_call h5 (w := w) (by first | exact (Below.drew bw) | go_grown)
  clear h5 bwsz
  clear k1 k2 k4
  obtain ⟨k3_c, k3_f, k3_l, k3_m, k3_n⟩ := k3.knows
  obtain ⟨k5_c, k5_f, k5_l, k5_m, k5_n⟩ := k5.knows
  go_upto_region 6 with (fail)
  clear k3_c k3_f k3_m k3_n k5_c k5_f k5_m k5_n
  clear k3_l k5_l
  refine wp_region_all [] 11 [(0, 1), (1, 0), (2, 0), (3, 0), (4, 0), (5, 0), (6, 1), (7, 1), (8, 0), (9, 1), (10, 1)] (by kernel_rfl) (by kernel_rfl) ?_
  (refine kind_pure (v := ?_) rfl ?_ ?_; rotate_left; (focus (intro K w' hK; go_simp; exact hK)); refine kinds_put (by (simp only [Act.put, List.setIfInBounds_toArray, List.set_cons_succ, List.set_cons_zero]; try rfl)) ?_)
  (refine kind_firm (v := ?_) rfl ?_ ?_; rotate_left; (focus (intro K w' hg hK; have hc1 := (k5.drew.after hg).cell; go_simp; exact hK _ (Grow.refl _))); refine kinds_put (by (simp only [Act.put, List.setIfInBounds_toArray, List.set_cons_succ, List.set_cons_zero]; try rfl)) ?_)
  (refine kind_firm (v := ?_) rfl ?_ ?_; rotate_left; (focus (intro K w' hg hK; go_simp; refine Calls.mono (freduce_mul (hF0.drew.after hg) a b ha hb) ?_; rintro e w'' ⟨rfl, hb⟩; refine ⟨_, rfl, ?_⟩; exact hK _ hb)); refine kinds_put (by (simp only [Act.put, List.setIfInBounds_toArray, List.set_cons_succ, List.set_cons_zero]; try rfl)) ?_)
  (refine kind_firm (v := ?_) rfl ?_ ?_; rotate_left; (focus (intro K w' hg hK; have hc1 := (k3.drew.after hg).cell; go_simp; exact hK _ (Grow.refl _))); refine kinds_put (by (simp only [Act.put, List.setIfInBounds_toArray, List.set_cons_succ, List.set_cons_zero]; try rfl)) ?_)
  (refine kind_firm (v := ?_) rfl ?_ ?_; rotate_left; (focus (intro K w' hg hK; have hc1 := (k5.drew.after hg).cell; go_simp; exact hK _ (Grow.refl _))); refine kinds_put (by (simp only [Act.put, List.setIfInBounds_toArray, List.set_cons_succ, List.set_cons_zero]; try rfl)) ?_)
  (refine kind_firm (v := ?_) rfl ?_ ?_; rotate_left; (focus (intro K w' hg hK; go_simp; refine Calls.mono (rreduce_mul a b ha hb _) ?_; rintro e w'' ⟨rfl, hb⟩; refine ⟨_, rfl, ?_⟩; exact hK _ hb)); refine kinds_put (by (simp only [Act.put, List.setIfInBounds_toArray, List.set_cons_succ, List.set_cons_zero]; try rfl)) ?_)
  (refine kind_pure (v := ?_) rfl ?_ ?_; rotate_left; (focus (intro K w' hK; go_simp; exact hK)); refine kinds_put (by (simp only [Act.put, List.setIfInBounds_toArray, List.set_cons_succ, List.set_cons_zero]; try rfl)) ?_)
  (refine kind_pure (v := ?_) rfl ?_ ?_; rotate_left; (focus (intro K w' hK; go_simp; exact hK)); refine kinds_put (by (simp only [Act.put, List.setIfInBounds_toArray, List.set_cons_succ, List.set_cons_zero]; try rfl)) ?_)
  (refine kind_firm (v := ?_) rfl ?_ ?_; rotate_left; (focus (intro K w' hg hK; go_simp; refine Calls.mono (half_any _) ?_; rintro e w'' ⟨rfl, hb⟩; refine ⟨_, rfl, ?_⟩; exact hK _ hb)); refine kinds_put (by (simp only [Act.put, List.setIfInBounds_toArray, List.set_cons_succ, List.set_cons_zero]; try rfl)) ?_)
  (refine kind_pure (v := ?_) rfl ?_ ?_; rotate_left; (focus (intro K w' hK; go_simp; exact hK)); refine kinds_put (by (simp only [Act.put, List.setIfInBounds_toArray, List.set_cons_succ, List.set_cons_zero]; try rfl)) ?_)
  (refine kind_pure (v := ?_) rfl ?_ ?_; rotate_left; (focus (intro K w' hK; go_simp; exact hK)); refine kinds_put (by (simp only [Act.put, List.setIfInBounds_toArray, List.set_cons_succ, List.set_cons_zero]; try rfl)) ?_)
  refine kind_end ?_
  intro w6 h6
  replace hF0 := (hF0.drew.after h6)
  have bwsz := Below.size bw
  replace bw := below_call h6 (w := w) (by first | exact (Below.drew bw) | go_grown)
  clear h6 bwsz
  clear k3 k5
  go_wp2
  go_ret
  exact ⟨rfl, (by first | exact bw | go_grown)⟩
set_option maxRecDepth 20000 in
set_option maxHeartbeats 2000000 in
theorem fprods_nox (base : Bool) (a b : Nat) (ha : a < RR) (hb : b < RR) (h : ¬ a < pN base) (w : World) : Calls Try.prog 5 #[.bool base, num a, num b] w fun e w' => e = .returned (.bool true) ∧ Below w.heap.size w w' := by
  have q1 : ∀ w, (Op.equalIn 10000 24 (num 0) (zeroV)).run Try.prog w = .ok true w := by intro w; rw [← num_zero]; exact eqin_same 0 _
  have q2 : ∀ w, (Op.equalIn 10000 24 (num (fmlN base a b)) (num (fmlN base a b))).run Try.prog w = .ok true w := by intro w; exact eqin_same (fmlN base a b) _
  go_enter Try.func5, Try.ntmps5
  go_wp2_with fail
  (with_reducible refine (of_any base _).mono ?_)
  rintro e w1 ⟨f0, g0, rfl, hF0, h1⟩
  have k1 := (((Blk.newAt (n := w.heap.size) _ _ _ (by first | rfl | simp)).alloc _).after h1)
  have k2 := ((Blk.newAt (n := w.heap.size + 1) _ _ _ (by first | rfl | simp)).after h1)
  have bw := below_call h1 (w := w) (by first | exact (below_alloc (Below.alloc (Below.refl _ _) (Below.size (Below.refl _ _)) _) _) | go_grown)
  clear h1
  obtain ⟨k1_c, k1_f, k1_l, k1_m, k1_n⟩ := k1.knows
  obtain ⟨k2_c, k2_f, k2_l, k2_m, k2_n⟩ := k2.knows
  go_wp2_with fail
  (with_reducible refine (fmul_nox (hF0.alloc _) a b ha h).mono ?_)
  rintro e w2 ⟨rfl, h2⟩
  clear k1_c k1_f k1_m k1_n k2_c k2_f k2_m k2_n
  have o3 : w.heap.size + 1 < w1.heap.size := by first | exact k2_l | omega
  replace k1 := ((k1.alloc _).after h2)
  replace k2 := ((k2.alloc _).after h2)
  replace hF0 := ((hF0.alloc _).after h2)
  have k3 := ((Blk.newAt (n := w1.heap.size) _ _ _ (by first | rfl | simp)).after h2)
  have bwsz := Below.size bw
  replace bw := below_call h2 (w := w) (by first | exact (Below.alloc bw (Below.size bw) _) | go_grown)
  clear h2 bwsz k1_l k2_l
  obtain ⟨k1_c, k1_f, k1_l, k1_m, k1_n⟩ := k1.knows
  obtain ⟨k2_c, k2_f, k2_l, k2_m, k2_n⟩ := k2.knows
  obtain ⟨k3_c, k3_f, k3_l, k3_m, k3_n⟩ := k3.knows
  go_wp2_with fail
  (with_reducible refine (r2times_any a b ha hb _).mono ?_)
  rintro e w3 ⟨rfl, h3⟩
  clear k1_c k1_f k1_m k1_n k2_c k2_f k2_m k2_n k3_c k3_f k3_m k3_n
  have o4 : w1.heap.size < w2.heap.size := by first | exact k3_l | omega
  replace k1 := ((k1.alloc _).after h3)
  replace k2 := ((k2.alloc _).after h3)
  replace hF0 := ((hF0.alloc _).after h3)
  replace k3 := ((k3.alloc _).after h3)
  have k4 := ((Blk.newAt (n := w2.heap.size) _ _ _ (by first | rfl | simp)).after h3)
  have bwsz := Below.size bw
  replace bw := below_call h3 (w := w) (by first | exact (Below.alloc bw (Below.size bw) _) | go_grown)
  clear h3 bwsz k1_l k2_l k3_l
  obtain ⟨k1_c, k1_f, k1_l, k1_m, k1_n⟩ := k1.knows
  obtain ⟨k2_c, k2_f, k2_l, k2_m, k2_n⟩ := k2.knows
  obtain ⟨k3_c, k3_f, k3_l, k3_m, k3_n⟩ := k3.knows
  obtain ⟨k4_c, k4_f, k4_l, k4_m, k4_n⟩ := k4.knows
  go_upto_region 4 with (fail)
  clear k1_c k1_f k1_m k1_n k2_c k2_f k2_m k2_n k3_c k3_f k3_m k3_n k4_c k4_f k4_m k4_n
  refine wp_world (fun W => Blk W w.heap.size 24 #[.int .u64 (lb a 0), .int .u64 (lb a 1), .int .u64 (lb a 2), .int .u64 (lb a 3)] ∧ Blk W (w.heap.size + 1) 24 #[.int .u64 (lb b 0), .int .u64 (lb b 1), .int .u64 (lb b 2), .int .u64 (lb b 3)] ∧ FieldB W f0 g0 base ∧ Blk W w1.heap.size 27 #[.int .u64 (lb (pN base) 0), .int .u64 (lb (pN base) 1), .int .u64 (lb (pN base) 2), .int .u64 (lb (pN base) 3), .int .u64 (lb (cN base) 0), .int .u64 (lb (cN base) 1), .int .u64 (lb (cN base) 2), .int .u64 (lb (cN base) 3)] ∧ Blk W w2.heap.size 24 #[.int .u64 (lb 0 0), .int .u64 (lb 0 1), .int .u64 (lb 0 2), .int .u64 (lb 0 3)] ∧ Blk W w3.heap.size 43 #[.int .u64 (lb (mulN a b) 0), .int .u64 (lb (mulN a b) 1), .int .u64 (lb (mulN a b) 2), .int .u64 (lb (mulN a b) 3), .int .u64 (lb (mulN a b) 4), .int .u64 (lb (mulN a b) 5), .int .u64 (lb (mulN a b) 6), .int .u64 (lb (mulN a b) 7)] ∧ Below w.heap.size w W) ?_ ⟨(k1.alloc _), (k2.alloc _), (hF0.alloc _), (k3.alloc _), (k4.alloc _), (Blk.newAt (n := w3.heap.size) _ _ _ (by first | rfl | simp)), (by first | exact (Below.alloc bw (Below.size bw) _) | go_grown)⟩
  have o5 : w2.heap.size < w3.heap.size := by first | exact k4_l | omega
  clear k1 k2 hF0 k3 k4 bw k1_l k2_l k3_l k4_l
  rintro W4 ⟨k1, k2, hF0, k3, k4, k5, bw⟩
  refine wp_region_all [] 27 [(0, 1), (1, 0), (2, 0), (3, 0), (4, 0), (5, 1), (6, 1), (7, 1), (8, 1), (9, 1), (10, 0), (11, 1), (12, 1), (13, 1), (14, 1), (15, 1), (16, 1), (17, 1), (18, 1), (19, 0), (20, 0), (21, 0), (22, 0), (23, 0), (24, 1), (25, 1), (26, 1)] (by kernel_rfl) (by kernel_rfl) ?_
  (refine kind_pure (v := ?_) rfl ?_ ?_; rotate_left; (focus (intro K w' hK; go_simp; exact hK)); refine kinds_put (by (simp only [Act.put, List.setIfInBounds_toArray, List.set_cons_succ, List.set_cons_zero]; try rfl)) ?_)
  (refine kind_firm (v := ?_) rfl ?_ ?_; rotate_left; (focus (intro K w' hg hK; have hc1 := (k3.drew.after hg).cell; go_simp; exact hK _ (Grow.refl _))); refine kinds_put (by (simp only [Act.put, List.setIfInBounds_toArray, List.set_cons_succ, List.set_cons_zero]; try rfl)) ?_)
  (refine kind_firm (v := ?_) rfl ?_ ?_; rotate_left; (focus (intro K w' hg hK; have hc1 := (k1.drew.after hg).cell; go_simp; exact hK _ (Grow.refl _))); refine kinds_put (by (simp only [Act.put, List.setIfInBounds_toArray, List.set_cons_succ, List.set_cons_zero]; try rfl)) ?_)
  (refine kind_firm (v := ?_) rfl ?_ ?_; rotate_left; (focus (intro K w' hg hK; have hc1 := (k2.drew.after hg).cell; go_simp; exact hK _ (Grow.refl _))); refine kinds_put (by (simp only [Act.put, List.setIfInBounds_toArray, List.set_cons_succ, List.set_cons_zero]; try rfl)) ?_)
  (refine kind_firm (v := ?_) rfl ?_ ?_; rotate_left; (focus (intro K w' hg hK; go_simp; refine Calls.mono (rask_nox a b ha h _) ?_; rintro e w'' ⟨rfl, hb⟩; refine ⟨_, rfl, ?_⟩; exact hK _ hb)); refine kinds_put (by (simp only [Act.put, List.setIfInBounds_toArray, List.set_cons_succ, List.set_cons_zero]; try rfl)) ?_)
  (refine kind_pure (v := ?_) rfl ?_ ?_; rotate_left; (focus (intro K w' hK; go_simp; exact hK)); refine kinds_put (by (simp only [Act.put, List.setIfInBounds_toArray, List.set_cons_succ, List.set_cons_zero]; try rfl)) ?_)
  (refine kind_pure (v := ?_) rfl ?_ ?_; rotate_left; (focus (intro K w' hK; go_simp; exact hK)); refine kinds_put (by (simp only [Act.put, List.setIfInBounds_toArray, List.set_cons_succ, List.set_cons_zero]; try rfl)) ?_)
  (refine kind_pure (v := ?_) rfl ?_ ?_; rotate_left; (focus (intro K w' hK; go_simp; exact hK)); refine kinds_put (by (simp only [Act.put, List.setIfInBounds_toArray, List.set_cons_succ, List.set_cons_zero]; try rfl)) ?_)
  (refine kind_pure (v := ?_) rfl ?_ ?_; rotate_left; (focus (intro K w' hK; go_simp; exact hK)); refine kinds_put (by (simp only [Act.put, List.setIfInBounds_toArray, List.set_cons_succ, List.set_cons_zero]; try rfl)) ?_)
  (refine kind_pure (v := ?_) rfl ?_ ?_; rotate_left; (focus (intro K w' hK; go_simp; exact hK)); refine kinds_put (by (simp only [Act.put, List.setIfInBounds_toArray, List.set_cons_succ, List.set_cons_zero]; try rfl)) ?_)
  (refine kind_firm (v := ?_) rfl ?_ ?_; rotate_left; (focus (intro K w' hg hK; have hc1 := (k4.drew.after hg).cell; go_simp; exact hK _ (Grow.refl _))); refine kinds_put (by (simp only [Act.put, List.setIfInBounds_toArray, List.set_cons_succ, List.set_cons_zero]; try rfl)) ?_)
  (refine kind_pure (v := ?_) rfl ?_ ?_; rotate_left; (focus (intro K w' hK; go_simp; exact hK)); refine kinds_put (by (simp only [Act.put, List.setIfInBounds_toArray, List.set_cons_succ, List.set_cons_zero]; try rfl)) ?_)
  (refine kind_pure (v := ?_) rfl ?_ ?_; rotate_left; (focus (intro K w' hK; go_simp; exact hK)); refine kinds_put (by (simp only [Act.put, List.setIfInBounds_toArray, List.set_cons_succ, List.set_cons_zero]; try rfl)) ?_)
  (refine kind_pure (v := ?_) rfl ?_ ?_; rotate_left; (focus (intro K w' hK; go_simp; exact hK)); refine kinds_put (by (simp only [Act.put, List.setIfInBounds_toArray, List.set_cons_succ, List.set_cons_zero]; try rfl)) ?_)
  (refine kind_pure (v := ?_) rfl ?_ ?_; rotate_left; (focus (intro K w' hK; go_simp; exact hK)); refine kinds_put (by (simp only [Act.put, List.setIfInBounds_toArray, List.set_cons_succ, List.set_cons_zero]; try rfl)) ?_)
  (refine kind_pure (v := ?_) rfl ?_ ?_; rotate_left; (focus (intro K w' hK; go_simp; exact hK)); refine kinds_put (by (simp only [Act.put, List.setIfInBounds_toArray, List.set_cons_succ, List.set_cons_zero]; try rfl)) ?_)
  (refine kind_pure (v := ?_) rfl ?_ ?_; rotate_left; (focus (intro K w' hK; go_simp; exact hK)); refine kinds_put (by (simp only [Act.put, List.setIfInBounds_toArray, List.set_cons_succ, List.set_cons_zero]; try rfl)) ?_)
  (refine kind_pure (v := ?_) rfl ?_ ?_; rotate_left; (focus (intro K w' hK; go_simp; exact hK)); refine kinds_put (by (simp only [Act.put, List.setIfInBounds_toArray, List.set_cons_succ, List.set_cons_zero]; try rfl)) ?_)
  (refine kind_pure (v := ?_) rfl ?_ ?_; rotate_left; (focus (intro K w' hK; go_simp; exact hK)); refine kinds_put (by (simp only [Act.put, List.setIfInBounds_toArray, List.set_cons_succ, List.set_cons_zero]; try rfl)) ?_)
  (refine kind_firm (v := ?_) rfl ?_ ?_; rotate_left; (focus (intro K w' hg hK; go_simp; exact hK _ (Grow.refl _))); refine kinds_put (by (simp only [Act.put, List.setIfInBounds_toArray, List.set_cons_succ, List.set_cons_zero]; try rfl)) ?_)
  (refine kind_firm (v := ?_) rfl ?_ ?_; rotate_left; (focus (intro K w' hg hK; go_simp; exact hK _ (Grow.refl _))); refine kinds_put (by (simp only [Act.put, List.setIfInBounds_toArray, List.set_cons_succ, List.set_cons_zero]; try rfl)) ?_)
  (refine kind_firm (v := ?_) rfl ?_ ?_; rotate_left; (focus (intro K w' hg hK; go_simp; exact hK _ (Grow.refl _))); refine kinds_put (by (simp only [Act.put, List.setIfInBounds_toArray, List.set_cons_succ, List.set_cons_zero]; try rfl)) ?_)
  (refine kind_firm (v := ?_) rfl ?_ ?_; rotate_left; (focus (intro K w' hg hK; go_simp; exact hK _ (Grow.refl _))); refine kinds_put (by (simp only [Act.put, List.setIfInBounds_toArray, List.set_cons_succ, List.set_cons_zero]; try rfl)) ?_)
  (refine kind_firm (v := ?_) rfl ?_ ?_; rotate_left; (focus (intro K w' hg hK; go_simp; exact hK _ (Grow.refl _))); refine kinds_put (by (simp only [Act.put, List.setIfInBounds_toArray, List.set_cons_succ, List.set_cons_zero]; try rfl)) ?_)
  (refine kind_pure (v := ?_) rfl ?_ ?_; rotate_left; (focus (intro K w' hK; go_simp; exact hK)); refine kinds_put (by (simp only [Act.put, List.setIfInBounds_toArray, List.set_cons_succ, List.set_cons_zero]; try rfl)) ?_)
  (refine kind_pure (v := ?_) rfl ?_ ?_; rotate_left; (focus (intro K w' hK; go_simp; exact hK)); refine kinds_put (by (simp only [Act.put, List.setIfInBounds_toArray, List.set_cons_succ, List.set_cons_zero]; try rfl)) ?_)
  (refine kind_pure (v := ?_) rfl ?_ ?_; rotate_left; (focus (intro K w' hK; go_simp; exact hK)); refine kinds_put (by (simp only [Act.put, List.setIfInBounds_toArray, List.set_cons_succ, List.set_cons_zero]; try rfl)) ?_)
  refine kind_end ?_
  intro w5 h5
  replace hF0 := (hF0.drew.after h5)
  replace k3 := (k3.drew.after h5)
  replace k5 := (k5.drew.after h5)
  have bwsz := Below.size bw
  replace bw := below_call h5 (w := w) (by first | exact (Below.drew bw) | go_grown)
  clear h5 bwsz
  clear k1 k2 k4
  obtain ⟨k3_c, k3_f, k3_l, k3_m, k3_n⟩ := k3.knows
  obtain ⟨k5_c, k5_f, k5_l, k5_m, k5_n⟩ := k5.knows
  go_upto_region 6 with (fail)
  clear k3_c k3_f k3_m k3_n k5_c k5_f k5_m k5_n
  clear k3_l k5_l
  refine wp_region_all [] 11 [(0, 1), (1, 0), (2, 0), (3, 0), (4, 0), (5, 0), (6, 1), (7, 1), (8, 0), (9, 1), (10, 1)] (by kernel_rfl) (by kernel_rfl) ?_
  (refine kind_pure (v := ?_) rfl ?_ ?_; rotate_left; (focus (intro K w' hK; go_simp; exact hK)); refine kinds_put (by (simp only [Act.put, List.setIfInBounds_toArray, List.set_cons_succ, List.set_cons_zero]; try rfl)) ?_)
  (refine kind_firm (v := ?_) rfl ?_ ?_; rotate_left; (focus (intro K w' hg hK; have hc1 := (k5.drew.after hg).cell; go_simp; exact hK _ (Grow.refl _))); refine kinds_put (by (simp only [Act.put, List.setIfInBounds_toArray, List.set_cons_succ, List.set_cons_zero]; try rfl)) ?_)
  (refine kind_firm (v := ?_) rfl ?_ ?_; rotate_left; (focus (intro K w' hg hK; go_simp; refine Calls.mono (freduce_mul (hF0.drew.after hg) a b ha hb) ?_; rintro e w'' ⟨rfl, hb⟩; refine ⟨_, rfl, ?_⟩; exact hK _ hb)); refine kinds_put (by (simp only [Act.put, List.setIfInBounds_toArray, List.set_cons_succ, List.set_cons_zero]; try rfl)) ?_)
  (refine kind_firm (v := ?_) rfl ?_ ?_; rotate_left; (focus (intro K w' hg hK; have hc1 := (k3.drew.after hg).cell; go_simp; exact hK _ (Grow.refl _))); refine kinds_put (by (simp only [Act.put, List.setIfInBounds_toArray, List.set_cons_succ, List.set_cons_zero]; try rfl)) ?_)
  (refine kind_firm (v := ?_) rfl ?_ ?_; rotate_left; (focus (intro K w' hg hK; have hc1 := (k5.drew.after hg).cell; go_simp; exact hK _ (Grow.refl _))); refine kinds_put (by (simp only [Act.put, List.setIfInBounds_toArray, List.set_cons_succ, List.set_cons_zero]; try rfl)) ?_)
  (refine kind_firm (v := ?_) rfl ?_ ?_; rotate_left; (focus (intro K w' hg hK; go_simp; refine Calls.mono (rreduce_mul a b ha hb _) ?_; rintro e w'' ⟨rfl, hb⟩; refine ⟨_, rfl, ?_⟩; exact hK _ hb)); refine kinds_put (by (simp only [Act.put, List.setIfInBounds_toArray, List.set_cons_succ, List.set_cons_zero]; try rfl)) ?_)
  (refine kind_pure (v := ?_) rfl ?_ ?_; rotate_left; (focus (intro K w' hK; go_simp; exact hK)); refine kinds_put (by (simp only [Act.put, List.setIfInBounds_toArray, List.set_cons_succ, List.set_cons_zero]; try rfl)) ?_)
  (refine kind_pure (v := ?_) rfl ?_ ?_; rotate_left; (focus (intro K w' hK; go_simp; exact hK)); refine kinds_put (by (simp only [Act.put, List.setIfInBounds_toArray, List.set_cons_succ, List.set_cons_zero]; try rfl)) ?_)
  (refine kind_firm (v := ?_) rfl ?_ ?_; rotate_left; (focus (intro K w' hg hK; go_simp; refine Calls.mono (half_any _) ?_; rintro e w'' ⟨rfl, hb⟩; refine ⟨_, rfl, ?_⟩; exact hK _ hb)); refine kinds_put (by (simp only [Act.put, List.setIfInBounds_toArray, List.set_cons_succ, List.set_cons_zero]; try rfl)) ?_)
  (refine kind_pure (v := ?_) rfl ?_ ?_; rotate_left; (focus (intro K w' hK; go_simp; exact hK)); refine kinds_put (by (simp only [Act.put, List.setIfInBounds_toArray, List.set_cons_succ, List.set_cons_zero]; try rfl)) ?_)
  (refine kind_pure (v := ?_) rfl ?_ ?_; rotate_left; (focus (intro K w' hK; go_simp; exact hK)); refine kinds_put (by (simp only [Act.put, List.setIfInBounds_toArray, List.set_cons_succ, List.set_cons_zero]; try rfl)) ?_)
  refine kind_end ?_
  intro w6 h6
  replace hF0 := (hF0.drew.after h6)
  have bwsz := Below.size bw
  replace bw := below_call h6 (w := w) (by first | exact (Below.drew bw) | go_grown)
  clear h6 bwsz
  clear k3 k5
  go_wp2
  go_ret
  exact ⟨rfl, (by first | exact bw | go_grown)⟩
theorem fprods_walk (base : Bool) (a b : Nat) (ha : a < RR) (hb : b < RR) (w : World) : Calls Try.prog 5 #[.bool base, num a, num b] w fun e w' => e = .returned (.bool true) ∧ Below w.heap.size w w' := by
  by_cases h : a < pN base
  · by_cases k : b < pN base
    · exact fprods_in base a b ha hb h k w
    · exact fprods_noy base a b ha hb h k w
  · exact fprods_nox base a b ha hb h w
end Go.Proofs.Ytlibfjemdiochaa
