/- The document's answer for layer 2: roots, where it is odd. -/
import Derived.Test.YtlibfjemdiochaaRG2
namespace Go.Proofs.Ytlibfjemdiochaa
set_option linter.unusedVariables false
set_option linter.unusedSimpArgs false
open Go.RowKit

set_option maxRecDepth 20000 in
set_option maxHeartbeats 2000000 in
theorem rsqrt_odd (a : Nat) (h : a < pN true) (hq : fmlN true (fpwN true a (rtN true)) (fpwN true a (rtN true)) = a) (ho : (lb (fpwN true a (rtN true)) 0 % 2 == 1) = true) (w : World) : Calls Try.prog 17 #[rfV true, num a, .bool true] w fun e w' => e = .returned (.tuple #[num (fsbN true 0 (fpwN true a (rtN true))), .int .i64 0]) ∧ Below w.heap.size w w' := by
  have hq_ := Lib.hid hq; clear hq
  have l0 := lb_lo (fpwN true a (rtN true)) 0
  have l1 := lb_hi (fpwN true a (rtN true)) 0
  have q1 : ∀ w, (Op.equalIn 10000 24 (num (fmlN true (fpwN true a (rtN true)) (fpwN true a (rtN true)))) (num a)).run Try.prog w = .ok true w := by intro w; exact eqin_eq hq_.out _
  have cl1 : ∀ W, Calls Try.prog 34 #[rfV true, zeroV, num (fpwN true a (rtN true))] W fun e w' => e = .returned (num (fsbN true 0 (fpwN true a (rtN true)))) ∧ Below W.heap.size W w' := by intro W; rw [← num_zero]; exact rfsub 0 (fpwN true a (rtN true)) (pN_pos true) (fpwN_lt true a (rtN true)) _
  go_enter Try.func17, Try.ntmps17
  go_wp2_with fail
  (with_reducible refine (rhas_yes a h _).mono ?_)
  rintro e w1 ⟨rfl, h1⟩
  have k1 := ((((Blk.newAt (n := w.heap.size) _ _ _ (by first | rfl | simp)).alloc _).alloc _).after h1)
  have k2 := (((Blk.newAt (n := w.heap.size + 1) _ _ _ (by first | rfl | simp)).alloc _).after h1)
  have k3 := ((Blk.newAt (n := w.heap.size + 1 + 1) _ _ _ (by first | rfl | simp)).after h1)
  have bw := below_call h1 (w := w) (by first | exact (below_alloc (below_alloc (Below.alloc (Below.refl _ _) (Below.size (Below.refl _ _)) _) _) _) | go_grown)
  clear h1
  obtain ⟨k1_c, k1_f, k1_l, k1_m, k1_n⟩ := k1.knows
  obtain ⟨k2_c, k2_f, k2_l, k2_m, k2_n⟩ := k2.knows
  obtain ⟨k3_c, k3_f, k3_l, k3_m, k3_n⟩ := k3.knows
  go_wp2_with fail
  (with_reducible refine (rplus_p1 _).mono ?_)
  rintro e w2 ⟨rfl, h2⟩
  clear k1_c k1_f k1_m k1_n k2_c k2_f k2_m k2_n k3_c k3_f k3_m k3_n
  replace k1 := (k1.after h2)
  replace k2 := (k2.after h2)
  replace k3 := (k3.after h2)
  have bwsz := Below.size bw
  replace bw := below_call h2 (w := w) (by first | exact bw | go_grown)
  clear h2 bwsz k1_l k2_l k3_l
  obtain ⟨k1_c, k1_f, k1_l, k1_m, k1_n⟩ := k1.knows
  obtain ⟨k2_c, k2_f, k2_l, k2_m, k2_n⟩ := k2.knows
  obtain ⟨k3_c, k3_f, k3_l, k3_m, k3_n⟩ := k3.knows
  go_wp2
  refine wp_loop_rounds 5 ?_
  rw [rounds_succ]
  go_upto_region 12 with (fail)
  clear k1_c k1_f k1_m k1_n k2_c k2_f k2_m k2_n k3_c k3_f k3_m k3_n
  refine wp_world (fun W => Blk W w.heap.size 27 #[.int .u64 (lb (pN true) 0), .int .u64 (lb (pN true) 1), .int .u64 (lb (pN true) 2), .int .u64 (lb (pN true) 3), .int .u64 (lb (cN true) 0), .int .u64 (lb (cN true) 1), .int .u64 (lb (cN true) 2), .int .u64 (lb (cN true) 3)] ∧ Blk W (w.heap.size + 1) 24 #[.int .u64 (lb a 0), .int .u64 (lb a 1), .int .u64 (lb a 2), .int .u64 (lb a 3)] ∧ Blk W (w.heap.size + 1 + 1) 24 #[.int .u64 0, .int .u64 0, .int .u64 0, .int .u64 0] ∧ Blk W w2.heap.size 24 #[.int .u64 18446744069414583344, .int .u64 18446744073709551615, .int .u64 18446744073709551615, .int .u64 18446744073709551615] ∧ Blk W (w2.heap.size + 1) 24 #[.int .u64 4611686017353645836, .int .u64 0, .int .u64 0, .int .u64 0] ∧ Below w.heap.size w W) ?_ ⟨((k1.alloc _).alloc _), ((k2.alloc _).alloc _), ((k3.alloc _).alloc _), ((Blk.newAt (n := w2.heap.size) _ _ _ (by first | rfl | simp)).alloc _), (Blk.newAt (n := w2.heap.size + 1) _ _ _ (by first | rfl | simp)), (by first | exact (Below.alloc (Below.alloc bw (Below.size bw) _) (Below.size (Below.alloc bw (Below.size bw) _)) _) | go_grown)⟩
  have o4 : w.heap.size + 1 + 1 < w2.heap.size := by first | exact k3_l | omega
  have o5 : w2.heap.size < w2.heap.size + 1 := by first | exact k4_l | omega
  clear k1 k2 k3 bw k1_l k2_l k3_l
  rintro W3 ⟨k1, k2, k3, k4, k5, bw⟩
  refine wp_region_all [11] 12 [(0, 1), (1, 1), (2, 1), (3, 0), (4, 1), (5, 1), (6, 1), (7, 0), (8, 1), (9, 1), (10, 1), (11, 2)] (by kernel_rfl) (by kernel_rfl) ?_
  (refine kind_pure (v := ?_) rfl ?_ ?_; rotate_left; (focus (intro K w' hK; go_simp; exact hK)); refine kinds_put (by (simp only [Act.put, List.setIfInBounds_toArray, List.set_cons_succ, List.set_cons_zero]; try rfl)) ?_)
  (refine kind_pure (v := ?_) rfl ?_ ?_; rotate_left; (focus (intro K w' hK; go_simp; exact hK)); refine kinds_put (by (simp only [Act.put, List.setIfInBounds_toArray, List.set_cons_succ, List.set_cons_zero]; try rfl)) ?_)
  (refine kind_pure (v := ?_) rfl ?_ ?_; rotate_left; (focus (intro K w' hK; go_simp; exact hK)); refine kinds_put (by (simp only [Act.put, List.setIfInBounds_toArray, List.set_cons_succ, List.set_cons_zero]; try rfl)) ?_)
  (refine kind_firm (v := ?_) rfl ?_ ?_; rotate_left; (focus (intro K w' hg hK; have hc1 := (k5.drew.after hg).cell; go_simp; exact hK _ (Grow.refl _))); refine kinds_put (by (simp only [Act.put, List.setIfInBounds_toArray, List.set_cons_succ, List.set_cons_zero]; try rfl)) ?_)
  (refine kind_pure (v := ?_) rfl ?_ ?_; rotate_left; (focus (intro K w' hK; go_simp; exact hK)); refine kinds_put (by (simp only [Act.put, List.setIfInBounds_toArray, List.set_cons_succ, List.set_cons_zero]; try rfl)) ?_)
  (refine kind_pure (v := ?_) rfl ?_ ?_; rotate_left; (focus (intro K w' hK; go_simp; exact hK)); refine kinds_put (by (simp only [Act.put, List.setIfInBounds_toArray, List.set_cons_succ, List.set_cons_zero]; try rfl)) ?_)
  (refine kind_pure (v := ?_) rfl ?_ ?_; rotate_left; (focus (intro K w' hK; go_simp; exact hK)); refine kinds_put (by (simp only [Act.put, List.setIfInBounds_toArray, List.set_cons_succ, List.set_cons_zero]; try rfl)) ?_)
  (refine kind_firm (v := ?_) rfl ?_ ?_; rotate_left; (focus (intro K w' hg hK; have hc1 := (k4.drew.after hg).cell; go_simp; exact hK _ (Grow.refl _))); refine kinds_put (by (simp only [Act.put, List.setIfInBounds_toArray, List.set_cons_succ, List.set_cons_zero]; try rfl)) ?_)
  (refine kind_pure (v := ?_) rfl ?_ ?_; rotate_left; (focus (intro K w' hK; go_simp; exact hK)); refine kinds_put (by (simp only [Act.put, List.setIfInBounds_toArray, List.set_cons_succ, List.set_cons_zero]; try rfl)) ?_)
  (refine kind_pure (v := ?_) rfl ?_ ?_; rotate_left; (focus (intro K w' hK; go_simp; exact hK)); refine kinds_put (by (simp only [Act.put, List.setIfInBounds_toArray, List.set_cons_succ, List.set_cons_zero]; try rfl)) ?_)
  (refine kind_pure (v := ?_) rfl ?_ ?_; rotate_left; (focus (intro K w' hK; go_simp; exact hK)); refine kinds_put (by (simp only [Act.put, List.setIfInBounds_toArray, List.set_cons_succ, List.set_cons_zero]; try rfl)) ?_)
  (refine kind_store rfl rfl ?_; intro K wb4 gb4 hK; have hs : Blk wb4 (w2.heap.size + 1) 24 #[.int .u64 4611686017353645836, .int .u64 0, .int .u64 0, .int .u64 0] := (k5.drew.after gb4); have sc := hs.cell; have sf := hs.frozen; go_simp; refine hK _ _ ?_; clear hK K)
  clear sc sf hs
  refine kind_end ?_
  intro w5 h5
  replace k1 := (((k1.drew.after gb4).far (by dsimp only; omega) _).after h5)
  replace k2 := (((k2.drew.after gb4).far (by dsimp only; omega) _).after h5)
  replace k3 := (((k3.drew.after gb4).far (by dsimp only; omega) _).after h5)
  replace k4 := (((k4.drew.after gb4).far (by dsimp only; omega) _).after h5)
  replace k5 : Blk w5 (w2.heap.size + 1) 24 #[.int .u64 18446744072635809548, .int .u64 0, .int .u64 0, .int .u64 0] := (((k5.drew.after gb4).set_ 0 (.int .u64 18446744072635809548)).after h5)
  have bwsz := Below.size bw
  replace bw := below_call h5 (w := w) (by first | exact (Below.setCell (p := ⟨w2.heap.size + 1, 0, none⟩) (below_call gb4 (Below.drew bw)) (by dsimp only; omega) _) | go_grown)
  clear h5 bwsz
  obtain ⟨k1_c, k1_f, k1_l, k1_m, k1_n⟩ := k1.knows
  obtain ⟨k2_c, k2_f, k2_l, k2_m, k2_n⟩ := k2.knows
  obtain ⟨k3_c, k3_f, k3_l, k3_m, k3_n⟩ := k3.knows
  obtain ⟨k4_c, k4_f, k4_l, k4_m, k4_n⟩ := k4.knows
  obtain ⟨k5_c, k5_f, k5_l, k5_m, k5_n⟩ := k5.knows
  clear gb4
  go_wp2
  rw [rounds_succ]
  go_upto_region 12 with (fail)
  clear k1_c k1_f k1_m k1_n k2_c k2_f k2_m k2_n k3_c k3_f k3_m k3_n k4_c k4_f k4_m k4_n k5_c k5_f k5_m k5_n
  refine wp_world (fun W => Blk W w.heap.size 27 #[.int .u64 (lb (pN true) 0), .int .u64 (lb (pN true) 1), .int .u64 (lb (pN true) 2), .int .u64 (lb (pN true) 3), .int .u64 (lb (cN true) 0), .int .u64 (lb (cN true) 1), .int .u64 (lb (cN true) 2), .int .u64 (lb (cN true) 3)] ∧ Blk W (w.heap.size + 1) 24 #[.int .u64 (lb a 0), .int .u64 (lb a 1), .int .u64 (lb a 2), .int .u64 (lb a 3)] ∧ Blk W (w.heap.size + 1 + 1) 24 #[.int .u64 0, .int .u64 0, .int .u64 0, .int .u64 0] ∧ Blk W w2.heap.size 24 #[.int .u64 18446744069414583344, .int .u64 18446744073709551615, .int .u64 18446744073709551615, .int .u64 18446744073709551615] ∧ Blk W (w2.heap.size + 1) 24 #[.int .u64 18446744072635809548, .int .u64 4611686018427387903, .int .u64 0, .int .u64 0] ∧ Below w.heap.size w W) ?_ ⟨(k1.far (by dsimp only; omega) _), (k2.far (by dsimp only; omega) _), (k3.far (by dsimp only; omega) _), (k4.far (by dsimp only; omega) _), (k5.set_ 1 (.int .u64 4611686018427387903)), (by first | exact (Below.setCell (p := ⟨w2.heap.size + 1, 1, none⟩) bw (by dsimp only; omega) _) | go_grown)⟩
  clear k1 k2 k3 k4 k5 bw k1_l k2_l k3_l k4_l k5_l
  rintro W6 ⟨k1, k2, k3, k4, k5, bw⟩
  refine wp_region_all [11] 12 [(0, 1), (1, 1), (2, 1), (3, 0), (4, 1), (5, 1), (6, 1), (7, 0), (8, 1), (9, 1), (10, 1), (11, 2)] (by kernel_rfl) (by kernel_rfl) ?_
  (refine kind_pure (v := ?_) rfl ?_ ?_; rotate_left; (focus (intro K w' hK; go_simp; exact hK)); refine kinds_put (by (simp only [Act.put, List.setIfInBounds_toArray, List.set_cons_succ, List.set_cons_zero]; try rfl)) ?_)
  (refine kind_pure (v := ?_) rfl ?_ ?_; rotate_left; (focus (intro K w' hK; go_simp; exact hK)); refine kinds_put (by (simp only [Act.put, List.setIfInBounds_toArray, List.set_cons_succ, List.set_cons_zero]; try rfl)) ?_)
  (refine kind_pure (v := ?_) rfl ?_ ?_; rotate_left; (focus (intro K w' hK; go_simp; exact hK)); refine kinds_put (by (simp only [Act.put, List.setIfInBounds_toArray, List.set_cons_succ, List.set_cons_zero]; try rfl)) ?_)
  (refine kind_firm (v := ?_) rfl ?_ ?_; rotate_left; (focus (intro K w' hg hK; have hc1 := (k5.drew.after hg).cell; go_simp; exact hK _ (Grow.refl _))); refine kinds_put (by (simp only [Act.put, List.setIfInBounds_toArray, List.set_cons_succ, List.set_cons_zero]; try rfl)) ?_)
  (refine kind_pure (v := ?_) rfl ?_ ?_; rotate_left; (focus (intro K w' hK; go_simp; exact hK)); refine kinds_put (by (simp only [Act.put, List.setIfInBounds_toArray, List.set_cons_succ, List.set_cons_zero]; try rfl)) ?_)
  (refine kind_pure (v := ?_) rfl ?_ ?_; rotate_left; (focus (intro K w' hK; go_simp; exact hK)); refine kinds_put (by (simp only [Act.put, List.setIfInBounds_toArray, List.set_cons_succ, List.set_cons_zero]; try rfl)) ?_)
  (refine kind_pure (v := ?_) rfl ?_ ?_; rotate_left; (focus (intro K w' hK; go_simp; exact hK)); refine kinds_put (by (simp only [Act.put, List.setIfInBounds_toArray, List.set_cons_succ, List.set_cons_zero]; try rfl)) ?_)
  (refine kind_firm (v := ?_) rfl ?_ ?_; rotate_left; (focus (intro K w' hg hK; have hc1 := (k4.drew.after hg).cell; go_simp; exact hK _ (Grow.refl _))); refine kinds_put (by (simp only [Act.put, List.setIfInBounds_toArray, List.set_cons_succ, List.set_cons_zero]; try rfl)) ?_)
  (refine kind_pure (v := ?_) rfl ?_ ?_; rotate_left; (focus (intro K w' hK; go_simp; exact hK)); refine kinds_put (by (simp only [Act.put, List.setIfInBounds_toArray, List.set_cons_succ, List.set_cons_zero]; try rfl)) ?_)
  (refine kind_pure (v := ?_) rfl ?_ ?_; rotate_left; (focus (intro K w' hK; go_simp; exact hK)); refine kinds_put (by (simp only [Act.put, List.setIfInBounds_toArray, List.set_cons_succ, List.set_cons_zero]; try rfl)) ?_)
  (refine kind_pure (v := ?_) rfl ?_ ?_; rotate_left; (focus (intro K w' hK; go_simp; exact hK)); refine kinds_put (by (simp only [Act.put, List.setIfInBounds_toArray, List.set_cons_succ, List.set_cons_zero]; try rfl)) ?_)
  (refine kind_store rfl rfl ?_; intro K wb7 gb7 hK; have hs : Blk wb7 (w2.heap.size + 1) 24 #[.int .u64 18446744072635809548, .int .u64 4611686018427387903, .int .u64 0, .int .u64 0] := (k5.drew.after gb7); have sc := hs.cell; have sf := hs.frozen; go_simp; refine hK _ _ ?_; clear hK K)
  clear sc sf hs
  refine kind_end ?_
  intro w8 h8
  replace k1 := (((k1.drew.after gb7).far (by dsimp only; omega) _).after h8)
  replace k2 := (((k2.drew.after gb7).far (by dsimp only; omega) _).after h8)
  replace k3 := (((k3.drew.after gb7).far (by dsimp only; omega) _).after h8)
  replace k4 := (((k4.drew.after gb7).far (by dsimp only; omega) _).after h8)
  replace k5 : Blk w8 (w2.heap.size + 1) 24 #[.int .u64 18446744072635809548, .int .u64 18446744073709551615, .int .u64 0, .int .u64 0] := (((k5.drew.after gb7).set_ 1 (.int .u64 18446744073709551615)).after h8)
  have bwsz := Below.size bw
  replace bw := below_call h8 (w := w) (by first | exact (Below.setCell (p := ⟨w2.heap.size + 1, 1, none⟩) (below_call gb7 (Below.drew bw)) (by dsimp only; omega) _) | go_grown)
  clear h8 bwsz
  obtain ⟨k1_c, k1_f, k1_l, k1_m, k1_n⟩ := k1.knows
  obtain ⟨k2_c, k2_f, k2_l, k2_m, k2_n⟩ := k2.knows
  obtain ⟨k3_c, k3_f, k3_l, k3_m, k3_n⟩ := k3.knows
  obtain ⟨k4_c, k4_f, k4_l, k4_m, k4_n⟩ := k4.knows
  obtain ⟨k5_c, k5_f, k5_l, k5_m, k5_n⟩ := k5.knows
  clear gb7
  go_wp2
  rw [rounds_succ]
  go_upto_region 12 with (fail)
  clear k1_c k1_f k1_m k1_n k2_c k2_f k2_m k2_n k3_c k3_f k3_m k3_n k4_c k4_f k4_m k4_n k5_c k5_f k5_m k5_n
  refine wp_world (fun W => Blk W w.heap.size 27 #[.int .u64 (lb (pN true) 0), .int .u64 (lb (pN true) 1), .int .u64 (lb (pN true) 2), .int .u64 (lb (pN true) 3), .int .u64 (lb (cN true) 0), .int .u64 (lb (cN true) 1), .int .u64 (lb (cN true) 2), .int .u64 (lb (cN true) 3)] ∧ Blk W (w.heap.size + 1) 24 #[.int .u64 (lb a 0), .int .u64 (lb a 1), .int .u64 (lb a 2), .int .u64 (lb a 3)] ∧ Blk W (w.heap.size + 1 + 1) 24 #[.int .u64 0, .int .u64 0, .int .u64 0, .int .u64 0] ∧ Blk W w2.heap.size 24 #[.int .u64 18446744069414583344, .int .u64 18446744073709551615, .int .u64 18446744073709551615, .int .u64 18446744073709551615] ∧ Blk W (w2.heap.size + 1) 24 #[.int .u64 18446744072635809548, .int .u64 18446744073709551615, .int .u64 4611686018427387903, .int .u64 0] ∧ Below w.heap.size w W) ?_ ⟨(k1.far (by dsimp only; omega) _), (k2.far (by dsimp only; omega) _), (k3.far (by dsimp only; omega) _), (k4.far (by dsimp only; omega) _), (k5.set_ 2 (.int .u64 4611686018427387903)), (by first | exact (Below.setCell (p := ⟨w2.heap.size + 1, 2, none⟩) bw (by dsimp only; omega) _) | go_grown)⟩
  clear k1 k2 k3 k4 k5 bw k1_l k2_l k3_l k4_l k5_l
  rintro W9 ⟨k1, k2, k3, k4, k5, bw⟩
  refine wp_region_all [11] 12 [(0, 1), (1, 1), (2, 1), (3, 0), (4, 1), (5, 1), (6, 1), (7, 0), (8, 1), (9, 1), (10, 1), (11, 2)] (by kernel_rfl) (by kernel_rfl) ?_
  (refine kind_pure (v := ?_) rfl ?_ ?_; rotate_left; (focus (intro K w' hK; go_simp; exact hK)); refine kinds_put (by (simp only [Act.put, List.setIfInBounds_toArray, List.set_cons_succ, List.set_cons_zero]; try rfl)) ?_)
  (refine kind_pure (v := ?_) rfl ?_ ?_; rotate_left; (focus (intro K w' hK; go_simp; exact hK)); refine kinds_put (by (simp only [Act.put, List.setIfInBounds_toArray, List.set_cons_succ, List.set_cons_zero]; try rfl)) ?_)
  (refine kind_pure (v := ?_) rfl ?_ ?_; rotate_left; (focus (intro K w' hK; go_simp; exact hK)); refine kinds_put (by (simp only [Act.put, List.setIfInBounds_toArray, List.set_cons_succ, List.set_cons_zero]; try rfl)) ?_)
  (refine kind_firm (v := ?_) rfl ?_ ?_; rotate_left; (focus (intro K w' hg hK; have hc1 := (k5.drew.after hg).cell; go_simp; exact hK _ (Grow.refl _))); refine kinds_put (by (simp only [Act.put, List.setIfInBounds_toArray, List.set_cons_succ, List.set_cons_zero]; try rfl)) ?_)
  (refine kind_pure (v := ?_) rfl ?_ ?_; rotate_left; (focus (intro K w' hK; go_simp; exact hK)); refine kinds_put (by (simp only [Act.put, List.setIfInBounds_toArray, List.set_cons_succ, List.set_cons_zero]; try rfl)) ?_)
  (refine kind_pure (v := ?_) rfl ?_ ?_; rotate_left; (focus (intro K w' hK; go_simp; exact hK)); refine kinds_put (by (simp only [Act.put, List.setIfInBounds_toArray, List.set_cons_succ, List.set_cons_zero]; try rfl)) ?_)
  (refine kind_pure (v := ?_) rfl ?_ ?_; rotate_left; (focus (intro K w' hK; go_simp; exact hK)); refine kinds_put (by (simp only [Act.put, List.setIfInBounds_toArray, List.set_cons_succ, List.set_cons_zero]; try rfl)) ?_)
  (refine kind_firm (v := ?_) rfl ?_ ?_; rotate_left; (focus (intro K w' hg hK; have hc1 := (k4.drew.after hg).cell; go_simp; exact hK _ (Grow.refl _))); refine kinds_put (by (simp only [Act.put, List.setIfInBounds_toArray, List.set_cons_succ, List.set_cons_zero]; try rfl)) ?_)
  (refine kind_pure (v := ?_) rfl ?_ ?_; rotate_left; (focus (intro K w' hK; go_simp; exact hK)); refine kinds_put (by (simp only [Act.put, List.setIfInBounds_toArray, List.set_cons_succ, List.set_cons_zero]; try rfl)) ?_)
  (refine kind_pure (v := ?_) rfl ?_ ?_; rotate_left; (focus (intro K w' hK; go_simp; exact hK)); refine kinds_put (by (simp only [Act.put, List.setIfInBounds_toArray, List.set_cons_succ, List.set_cons_zero]; try rfl)) ?_)
  (refine kind_pure (v := ?_) rfl ?_ ?_; rotate_left; (focus (intro K w' hK; go_simp; exact hK)); refine kinds_put (by (simp only [Act.put, List.setIfInBounds_toArray, List.set_cons_succ, List.set_cons_zero]; try rfl)) ?_)
  (refine kind_store rfl rfl ?_; intro K wb10 gb10 hK; have hs : Blk wb10 (w2.heap.size + 1) 24 #[.int .u64 18446744072635809548, .int .u64 18446744073709551615, .int .u64 4611686018427387903, .int .u64 0] := (k5.drew.after gb10); have sc := hs.cell; have sf := hs.frozen; go_simp; refine hK _ _ ?_; clear hK K)
  clear sc sf hs
  refine kind_end ?_
  intro w11 h11
  replace k1 := (((k1.drew.after gb10).far (by dsimp only; omega) _).after h11)
  replace k2 := (((k2.drew.after gb10).far (by dsimp only; omega) _).after h11)
  replace k3 := (((k3.drew.after gb10).far (by dsimp only; omega) _).after h11)
  replace k4 := (((k4.drew.after gb10).far (by dsimp only; omega) _).after h11)
  replace k5 : Blk w11 (w2.heap.size + 1) 24 #[.int .u64 18446744072635809548, .int .u64 18446744073709551615, .int .u64 18446744073709551615, .int .u64 0] := (((k5.drew.after gb10).set_ 2 (.int .u64 18446744073709551615)).after h11)
  have bwsz := Below.size bw
  replace bw := below_call h11 (w := w) (by first | exact (Below.setCell (p := ⟨w2.heap.size + 1, 2, none⟩) (below_call gb10 (Below.drew bw)) (by dsimp only; omega) _) | go_grown)
  clear h11 bwsz
  obtain ⟨k1_c, k1_f, k1_l, k1_m, k1_n⟩ := k1.knows
  obtain ⟨k2_c, k2_f, k2_l, k2_m, k2_n⟩ := k2.knows
  obtain ⟨k3_c, k3_f, k3_l, k3_m, k3_n⟩ := k3.knows
  obtain ⟨k4_c, k4_f, k4_l, k4_m, k4_n⟩ := k4.knows
  obtain ⟨k5_c, k5_f, k5_l, k5_m, k5_n⟩ := k5.knows
  clear gb10
  go_wp2
  rw [rounds_succ]
  go_wp2
  rw [rounds_succ]
  go_wp2_with fail
  (with_reducible refine (rpow_rt a (lt_RR h) _).mono ?_)
  rintro e w12 ⟨rfl, h12⟩
  clear k1_c k1_f k1_m k1_n k2_c k2_f k2_m k2_n k3_c k3_f k3_m k3_n k4_c k4_f k4_m k4_n k5_c k5_f k5_m k5_n
  replace k1 := ((k1.far (by dsimp only; omega) _).after h12)
  replace k2 := ((k2.far (by dsimp only; omega) _).after h12)
  replace k3 := ((k3.far (by dsimp only; omega) _).after h12)
  have bwsz := Below.size bw
  replace bw := below_call h12 (w := w) (by first | exact (Below.setCell (p := ⟨w2.heap.size + 1, 3, none⟩) bw (by dsimp only; omega) _) | go_grown)
  clear h12 bwsz k1_l k2_l k3_l k4_l k5_l
  clear k4 k5
  obtain ⟨k1_c, k1_f, k1_l, k1_m, k1_n⟩ := k1.knows
  obtain ⟨k2_c, k2_f, k2_l, k2_m, k2_n⟩ := k2.knows
  obtain ⟨k3_c, k3_f, k3_l, k3_m, k3_n⟩ := k3.knows
  go_upto_region 14 with (fail)
  clear k1_c k1_f k1_m k1_n k2_c k2_f k2_m k2_n k3_c k3_f k3_m k3_n
  refine wp_world (fun W => Blk W w.heap.size 27 #[.int .u64 (lb (pN true) 0), .int .u64 (lb (pN true) 1), .int .u64 (lb (pN true) 2), .int .u64 (lb (pN true) 3), .int .u64 (lb (cN true) 0), .int .u64 (lb (cN true) 1), .int .u64 (lb (cN true) 2), .int .u64 (lb (cN true) 3)] ∧ Blk W (w.heap.size + 1) 24 #[.int .u64 (lb a 0), .int .u64 (lb a 1), .int .u64 (lb a 2), .int .u64 (lb a 3)] ∧ Blk W (w.heap.size + 1 + 1) 24 #[.int .u64 0, .int .u64 0, .int .u64 0, .int .u64 0] ∧ Blk W w12.heap.size 24 #[.int .u64 (lb (fpwN true a (rtN true)) 0), .int .u64 (lb (fpwN true a (rtN true)) 1), .int .u64 (lb (fpwN true a (rtN true)) 2), .int .u64 (lb (fpwN true a (rtN true)) 3)] ∧ Below w.heap.size w W) ?_ ⟨(k1.alloc _), (k2.alloc _), (k3.alloc _), (Blk.newAt (n := w12.heap.size) _ _ _ (by first | rfl | simp)), (by first | exact (Below.alloc bw (Below.size bw) _) | go_grown)⟩
  have o6 : w.heap.size + 1 + 1 < w12.heap.size := by first | exact k3_l | omega
  clear k1 k2 k3 bw k1_l k2_l k3_l
  rintro W13 ⟨k1, k2, k3, k6, bw⟩
  refine wp_region_all [] 6 [(0, 0), (1, 0), (2, 0), (3, 0), (4, 0), (5, 1)] (by kernel_rfl) (by kernel_rfl) ?_
  (refine kind_firm (v := ?_) rfl ?_ ?_; rotate_left; (focus (intro K w' hg hK; have hc1 := (k1.drew.after hg).cell; go_simp; exact hK _ (Grow.refl _))); refine kinds_put (by (simp only [Act.put, List.setIfInBounds_toArray, List.set_cons_succ, List.set_cons_zero]; try rfl)) ?_)
  (refine kind_firm (v := ?_) rfl ?_ ?_; rotate_left; (focus (intro K w' hg hK; have hc1 := (k6.drew.after hg).cell; go_simp; exact hK _ (Grow.refl _))); refine kinds_put (by (simp only [Act.put, List.setIfInBounds_toArray, List.set_cons_succ, List.set_cons_zero]; try rfl)) ?_)
  (refine kind_firm (v := ?_) rfl ?_ ?_; rotate_left; (focus (intro K w' hg hK; have hc1 := (k6.drew.after hg).cell; go_simp; exact hK _ (Grow.refl _))); refine kinds_put (by (simp only [Act.put, List.setIfInBounds_toArray, List.set_cons_succ, List.set_cons_zero]; try rfl)) ?_)
  (refine kind_firm (v := ?_) rfl ?_ ?_; rotate_left; (focus (intro K w' hg hK; go_simp; refine Calls.mono (rfmul (fpwN true a (rtN true)) (fpwN true a (rtN true)) (lt_RR (fpwN_lt true a (rtN true))) (lt_RR (fpwN_lt true a (rtN true))) _) ?_; rintro e w'' ⟨rfl, hb⟩; refine ⟨_, rfl, ?_⟩; exact hK _ hb)); refine kinds_put (by (simp only [Act.put, List.setIfInBounds_toArray, List.set_cons_succ, List.set_cons_zero]; try rfl)) ?_)
  (refine kind_firm (v := ?_) rfl ?_ ?_; rotate_left; (focus (intro K w' hg hK; have hc1 := (k2.drew.after hg).cell; go_simp; exact hK _ (Grow.refl _))); refine kinds_put (by (simp only [Act.put, List.setIfInBounds_toArray, List.set_cons_succ, List.set_cons_zero]; try rfl)) ?_)
  (refine kind_pure (v := ?_) rfl ?_ ?_; rotate_left; (focus (intro K w' hK; go_simp; exact hK)); refine kinds_put (by (simp only [Act.put, List.setIfInBounds_toArray, List.set_cons_succ, List.set_cons_zero]; try rfl)) ?_)
  refine kind_end ?_
  intro w14 h14
  replace k1 := (k1.drew.after h14)
  replace k3 := (k3.drew.after h14)
  replace k6 := (k6.drew.after h14)
  have bwsz := Below.size bw
  replace bw := below_call h14 (w := w) (by first | exact (Below.drew bw) | go_grown)
  clear h14 bwsz
  clear k2
  obtain ⟨k1_c, k1_f, k1_l, k1_m, k1_n⟩ := k1.knows
  obtain ⟨k3_c, k3_f, k3_l, k3_m, k3_n⟩ := k3.knows
  obtain ⟨k6_c, k6_f, k6_l, k6_m, k6_n⟩ := k6.knows
  go_wp2_with fail
  (with_reducible refine (cl1 _).mono ?_)
  rintro e w15 ⟨rfl, h15⟩
  clear k1_c k1_f k1_m k1_n k3_c k3_f k3_m k3_n k6_c k6_f k6_m k6_n
  replace k3 := (k3.after h15)
  replace k6 := (k6.after h15)
  have bwsz := Below.size bw
  replace bw := below_call h15 (w := w) (by first | exact bw | go_grown)
  clear h15 bwsz k1_l k3_l k6_l
  clear k1
  obtain ⟨k3_c, k3_f, k3_l, k3_m, k3_n⟩ := k3.knows
  obtain ⟨k6_c, k6_f, k6_l, k6_m, k6_n⟩ := k6.knows
  go_wp2
  obtain ⟨rk3_c, rk3_f, rk3_l, -⟩ := ((((((((((k3.far (p := ⟨w12.heap.size, 0, none⟩) (by dsimp only; omega) (.int .u64 (lb (fsbN true 0 (fpwN true a (rtN true))) 0))).far (p := ⟨w12.heap.size, 1, none⟩) (by dsimp only; omega) (.int .u64 (lb (fsbN true 0 (fpwN true a (rtN true))) 1))).far (p := ⟨w12.heap.size, 2, none⟩) (by dsimp only; omega) (.int .u64 (lb (fsbN true 0 (fpwN true a (rtN true))) 2))).far (p := ⟨w12.heap.size, 3, none⟩) (by dsimp only; omega) (.int .u64 (lb (fsbN true 0 (fpwN true a (rtN true))) 3))).set_ 0 (.int .u64 (lb (fsbN true 0 (fpwN true a (rtN true))) 0))).set_ 1 (.int .u64 (lb (fsbN true 0 (fpwN true a (rtN true))) 1))).set_ 2 (.int .u64 (lb (fsbN true 0 (fpwN true a (rtN true))) 2))).set_ 3 (.int .u64 (lb (fsbN true 0 (fpwN true a (rtN true))) 3)))).re (cs' := #[.int .u64 (lb (fsbN true 0 (fpwN true a (rtN true))) 0), .int .u64 (lb (fsbN true 0 (fpwN true a (rtN true))) 1), .int .u64 (lb (fsbN true 0 (fpwN true a (rtN true))) 2), .int .u64 (lb (fsbN true 0 (fpwN true a (rtN true))) 3)]) rfl).knows
  refine bodyPost_ret (v := .tuple #[num (fsbN true 0 (fpwN true a (rtN true))), .int .i64 0]) (by simp [results, Try.results17, go_sem, rk3_c, rk3_l]) rfl ?_
  exact ⟨rfl, (by first | exact (Below.setCell (p := ⟨w.heap.size + 1 + 1, 3, none⟩) (Below.setCell (p := ⟨w.heap.size + 1 + 1, 2, none⟩) (Below.setCell (p := ⟨w.heap.size + 1 + 1, 1, none⟩) (Below.setCell (p := ⟨w.heap.size + 1 + 1, 0, none⟩) (Below.setCell (p := ⟨w12.heap.size, 3, none⟩) (Below.setCell (p := ⟨w12.heap.size, 2, none⟩) (Below.setCell (p := ⟨w12.heap.size, 1, none⟩) (Below.setCell (p := ⟨w12.heap.size, 0, none⟩) bw (by dsimp only; omega) _) (by dsimp only; omega) _) (by dsimp only; omega) _) (by dsimp only; omega) _) (by dsimp only; omega) _) (by dsimp only; omega) _) (by dsimp only; omega) _) (by dsimp only; omega) _) | go_grown)⟩
theorem rsqrt_yes (a : Nat) (h : a < pN true) (hq : fmlN true (fpwN true a (rtN true)) (fpwN true a (rtN true)) = a) (w : World) : Calls Try.prog 17 #[rfV true, num a, .bool true] w fun e w' => e = .returned (.tuple #[num (evN true (fpwN true a (rtN true))), .int .i64 0]) ∧ Below w.heap.size w w' := by
  rw [evN_def]
  have e : lb (fpwN true a (rtN true)) 0 % 2 = (((fpwN true a (rtN true)) % 2 : Nat) : Int) := by rw [lb_def, lb0]; omega
  by_cases ho : (fpwN true a (rtN true)) % 2 = 1
  · rw [if_pos ho]; exact rsqrt_odd a h hq (by rw [e, ho]; rfl) w
  · rw [if_neg ho]; exact rsqrt_even a h hq (by rw [e, show (fpwN true a (rtN true)) % 2 = 0 by omega]; rfl) w
end Go.Proofs.Ytlibfjemdiochaa
