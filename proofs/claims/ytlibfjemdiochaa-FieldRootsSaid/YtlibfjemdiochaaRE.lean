/- The document's answer for layer 2: products. -/
import Derived.Test.YtlibfjemdiochaaRD
namespace Go.Proofs.Ytlibfjemdiochaa
set_option linter.unusedVariables false
set_option linter.unusedSimpArgs false
open Go.RowKit

theorem mulN_wide {x y : Nat} (hx : x < RR) (hy : y < RR) : mulN x y < 18446744073709551616 ^ 8 := by
  rw [mulN_def]
  have h := Nat.mul_lt_mul'' hx hy
  rw [show (18446744073709551616 : Nat) ^ 8 = RR * RR from by unfold RR; rfl]
  exact h
theorem rreduce_mul {base : Bool} (x y : Nat) (hx : x < RR) (hy : y < RR) (w : World) : Calls Try.prog 28 #[rfV base, wide (mulN x y)] w fun e w' => e = .returned (num (fmlN base x y)) ∧ Below w.heap.size w w' := by
  have h := rreduce (base := base) (mulN x y) (mulN_wide hx hy) w
  have e : frdN base (mulN x y) = fmlN base x y := by rw [frdN_def, mulN_def, fmlN_def]
  rw [e] at h
  exact h
set_option maxRecDepth 20000 in
set_option maxHeartbeats 2000000 in
theorem rfmul {base : Bool} (a b : Nat) (ha : a < RR) (hb : b < RR) (w : World) : Calls Try.prog 26 #[rfV base, num a, num b] w fun e w' => e = .returned (num (fmlN base a b)) ∧ Below w.heap.size w w' := by
  go_enter Try.func26, Try.ntmps26
  go_upto_region 1 with (fail)
  refine wp_world (fun W => Blk W w.heap.size 27 #[.int .u64 (lb (pN base) 0), .int .u64 (lb (pN base) 1), .int .u64 (lb (pN base) 2), .int .u64 (lb (pN base) 3), .int .u64 (lb (cN base) 0), .int .u64 (lb (cN base) 1), .int .u64 (lb (cN base) 2), .int .u64 (lb (cN base) 3)] ∧ Blk W (w.heap.size + 1) 24 #[.int .u64 (lb a 0), .int .u64 (lb a 1), .int .u64 (lb a 2), .int .u64 (lb a 3)] ∧ Blk W (w.heap.size + 1 + 1) 24 #[.int .u64 (lb b 0), .int .u64 (lb b 1), .int .u64 (lb b 2), .int .u64 (lb b 3)] ∧ Blk W (w.heap.size + 1 + 1 + 1) 24 #[.int .u64 0, .int .u64 0, .int .u64 0, .int .u64 0] ∧ Below w.heap.size w W) ?_ ⟨((((Blk.newAt (n := w.heap.size) _ _ _ (by first | rfl | simp)).alloc _).alloc _).alloc _), (((Blk.newAt (n := w.heap.size + 1) _ _ _ (by first | rfl | simp)).alloc _).alloc _), ((Blk.newAt (n := w.heap.size + 1 + 1) _ _ _ (by first | rfl | simp)).alloc _), (Blk.newAt (n := w.heap.size + 1 + 1 + 1) _ _ _ (by first | rfl | simp)), (by first | exact (below_alloc (below_alloc (below_alloc (Below.alloc (Below.refl _ _) (Below.size (Below.refl _ _)) _) _) _) _) | go_grown)⟩
  rintro W1 ⟨k1, k2, k3, k4, bw⟩
  refine wp_region_all [5] 6 [(0, 0), (1, 0), (2, 0), (3, 0), (4, 0), (5, 2)] (by kernel_rfl) (by kernel_rfl) ?_
  (refine kind_firm (v := ?_) rfl ?_ ?_; rotate_left; (focus (intro K w' hg hK; have hc1 := (k1.drew.after hg).cell; go_simp; exact hK _ (Grow.refl _))); refine kinds_put (by (simp only [Act.put, List.setIfInBounds_toArray, List.set_cons_succ, List.set_cons_zero]; try rfl)) ?_)
  (refine kind_firm (v := ?_) rfl ?_ ?_; rotate_left; (focus (intro K w' hg hK; have hc1 := (k2.drew.after hg).cell; go_simp; exact hK _ (Grow.refl _))); refine kinds_put (by (simp only [Act.put, List.setIfInBounds_toArray, List.set_cons_succ, List.set_cons_zero]; try rfl)) ?_)
  (refine kind_firm (v := ?_) rfl ?_ ?_; rotate_left; (focus (intro K w' hg hK; have hc1 := (k3.drew.after hg).cell; go_simp; exact hK _ (Grow.refl _))); refine kinds_put (by (simp only [Act.put, List.setIfInBounds_toArray, List.set_cons_succ, List.set_cons_zero]; try rfl)) ?_)
  (refine kind_firm (v := ?_) rfl ?_ ?_; rotate_left; (focus (intro K w' hg hK; go_simp; refine Calls.mono (r2times_any a b ha hb _) ?_; rintro e w'' ⟨rfl, hb⟩; refine ⟨_, rfl, ?_⟩; exact hK _ hb)); refine kinds_put (by (simp only [Act.put, List.setIfInBounds_toArray, List.set_cons_succ, List.set_cons_zero]; try rfl)) ?_)
  (refine kind_firm (v := ?_) rfl ?_ ?_; rotate_left; (focus (intro K w' hg hK; go_simp; refine Calls.mono (rreduce_mul a b ha hb _) ?_; rintro e w'' ⟨rfl, hb⟩; refine ⟨_, rfl, ?_⟩; exact hK _ hb)); refine kinds_put (by (simp only [Act.put, List.setIfInBounds_toArray, List.set_cons_succ, List.set_cons_zero]; try rfl)) ?_)
  (refine kind_store rfl rfl ?_; intro K wb2 gb2 hK; have hs : Blk wb2 (w.heap.size + 1 + 1 + 1) 24 #[.int .u64 0, .int .u64 0, .int .u64 0, .int .u64 0] := (k4.drew.after gb2); have sc := hs.cell; have sf := hs.frozen; go_simp; refine hK _ _ ?_; clear hK K)
  clear sc sf hs
  refine kind_end ?_
  intro w3 h3
  replace k4 : Blk w3 (w.heap.size + 1 + 1 + 1) 24 #[.int .u64 (lb (fmlN base a b) 0), .int .u64 (lb (fmlN base a b) 1), .int .u64 (lb (fmlN base a b) 2), .int .u64 (lb (fmlN base a b) 3)] := ((((((k4.drew.after gb2).set_ 0 (.int .u64 (lb (fmlN base a b) 0))).set_ 1 (.int .u64 (lb (fmlN base a b) 1))).set_ 2 (.int .u64 (lb (fmlN base a b) 2))).set_ 3 (.int .u64 (lb (fmlN base a b) 3))).after h3)
  have bwsz := Below.size bw
  replace bw := below_call h3 (w := w) (by first | exact (Below.setCell (p := ⟨w.heap.size + 1 + 1 + 1, 3, none⟩) (Below.setCell (p := ⟨w.heap.size + 1 + 1 + 1, 2, none⟩) (Below.setCell (p := ⟨w.heap.size + 1 + 1 + 1, 1, none⟩) (Below.setCell (p := ⟨w.heap.size + 1 + 1 + 1, 0, none⟩) (below_call gb2 (Below.drew bw)) (by dsimp only; omega) _) (by dsimp only; omega) _) (by dsimp only; omega) _) (by dsimp only; omega) _) | go_grown)
  clear h3 bwsz
  clear k1 k2 k3
  obtain ⟨k4_c, k4_f, k4_l, k4_m, k4_n⟩ := k4.knows
  clear gb2
  go_wp2
  have rk4_c := k4_c; have rk4_l := k4_l
  refine bodyPost_ret (v := num (fmlN base a b)) (by simp [results, Try.results26, go_sem, rk4_c, rk4_l]) rfl ?_
  exact ⟨rfl, (by first | exact bw | go_grown)⟩
end Go.Proofs.Ytlibfjemdiochaa
