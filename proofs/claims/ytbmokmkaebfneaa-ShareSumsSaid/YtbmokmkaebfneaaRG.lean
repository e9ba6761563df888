/- The document's answer for layer 2: inverses and roots. -/
import Derived.Test.YtbmokmkaebfneaaRE
import Derived.Test.YtbmokmkaebfneaaFE
namespace Go.Proofs.Ytbmokmkaebfneaa
set_option linter.unusedVariables false
set_option linter.unusedSimpArgs false
open Go.RowKit

theorem rminus_two (b : Bool) (w : World) : Calls Try.prog 57 #[num (pN b), twoNV] w fun e w' => e = .returned (num (ieN b)) ∧ Below w.heap.size w w' := by
  have h := rminus_any (pN b) 2 (by unfold RR; omega) w
  have h1 := pN_lt b
  have h2 := pN_one b
  have e : subN (pN b) 2 = ieN b := by rw [subN_def, ieN_def, show pN b + RR - 2 = pN b - 2 + RR by omega, Nat.add_mod_right, Nat.mod_eq_of_lt (by omega)]
  rw [e, num_two] at h
  exact h
set_option maxRecDepth 20000 in
set_option maxHeartbeats 2000000 in
theorem rinv {base : Bool} (a : Nat) (ha : a < RR) (w : World) : Calls Try.prog 40 #[rfV base, num a] w fun e w' => e = .returned (num (fpwN base a (ieN base))) ∧ Below w.heap.size w w' := by
  go_enter Try.func40, Try.ntmps40
  go_upto_region 1 with (fail)
  refine wp_world (fun W => Blk W w.heap.size 45 #[.int .u64 (lb (pN base) 0), .int .u64 (lb (pN base) 1), .int .u64 (lb (pN base) 2), .int .u64 (lb (pN base) 3), .int .u64 (lb (cN base) 0), .int .u64 (lb (cN base) 1), .int .u64 (lb (cN base) 2), .int .u64 (lb (cN base) 3)] ∧ Blk W (w.heap.size + 1) 24 #[.int .u64 (lb a 0), .int .u64 (lb a 1), .int .u64 (lb a 2), .int .u64 (lb a 3)] ∧ Blk W (w.heap.size + 1 + 1) 24 #[.int .u64 0, .int .u64 0, .int .u64 0, .int .u64 0] ∧ Below w.heap.size w W) ?_ ⟨(((Blk.newAt (n := w.heap.size) _ _ _ (by first | rfl | simp)).alloc _).alloc _), ((Blk.newAt (n := w.heap.size + 1) _ _ _ (by first | rfl | simp)).alloc _), (Blk.newAt (n := w.heap.size + 1 + 1) _ _ _ (by first | rfl | simp)), (by first | exact (below_alloc (below_alloc (Below.alloc (Below.refl _ _) (Below.size (Below.refl _ _)) _) _) _) | go_grown)⟩
  rintro W1 ⟨k1, k2, k3, bw⟩
  refine wp_region_all [7] 8 [(0, 0), (1, 0), (2, 1), (3, 0), (4, 1), (5, 0), (6, 0), (7, 2)] (by kernel_rfl) (by kernel_rfl) ?_
  (refine kind_firm (v := ?_) rfl ?_ ?_; rotate_left; (focus (intro K w' hg hK; have hc1 := (k1.drew.after hg).cell; go_simp; exact hK _ (Grow.refl _))); refine kinds_put (by (simp only [Act.put, List.setIfInBounds_toArray, List.set_cons_succ, List.set_cons_zero]; try rfl)) ?_)
  (refine kind_firm (v := ?_) rfl ?_ ?_; rotate_left; (focus (intro K w' hg hK; have hc1 := (k2.drew.after hg).cell; go_simp; exact hK _ (Grow.refl _))); refine kinds_put (by (simp only [Act.put, List.setIfInBounds_toArray, List.set_cons_succ, List.set_cons_zero]; try rfl)) ?_)
  (refine kind_pure (v := ?_) rfl ?_ ?_; rotate_left; (focus (intro K w' hK; go_simp; exact hK)); refine kinds_put (by (simp only [Act.put, List.setIfInBounds_toArray, List.set_cons_succ, List.set_cons_zero]; try rfl)) ?_)
  (refine kind_firm (v := ?_) rfl ?_ ?_; rotate_left; (focus (intro K w' hg hK; have hc1 := (k1.drew.after hg).cell; go_simp; exact hK _ (Grow.refl _))); refine kinds_put (by (simp only [Act.put, List.setIfInBounds_toArray, List.set_cons_succ, List.set_cons_zero]; try rfl)) ?_)
  (refine kind_pure (v := ?_) rfl ?_ ?_; rotate_left; (focus (intro K w' hK; go_simp; exact hK)); refine kinds_put (by (simp only [Act.put, List.setIfInBounds_toArray, List.set_cons_succ, List.set_cons_zero]; try rfl)) ?_)
  (refine kind_firm (v := ?_) rfl ?_ ?_; rotate_left; (focus (intro K w' hg hK; go_simp; refine Calls.mono (rminus_two base _) ?_; rintro e w'' ⟨rfl, hb⟩; refine ⟨_, rfl, ?_⟩; exact hK _ hb)); refine kinds_put (by (simp only [Act.put, List.setIfInBounds_toArray, List.set_cons_succ, List.set_cons_zero]; try rfl)) ?_)
  (refine kind_firm (v := ?_) rfl ?_ ?_; rotate_left; (focus (intro K w' hg hK; go_simp; refine Calls.mono (rpow a (ieN base) ha (ieN_lt base) _) ?_; rintro e w'' ⟨rfl, hb⟩; refine ⟨_, rfl, ?_⟩; exact hK _ hb)); refine kinds_put (by (simp only [Act.put, List.setIfInBounds_toArray, List.set_cons_succ, List.set_cons_zero]; try rfl)) ?_)
  (refine kind_store rfl rfl ?_; intro K wb2 gb2 hK; have hs : Blk wb2 (w.heap.size + 1 + 1) 24 #[.int .u64 0, .int .u64 0, .int .u64 0, .int .u64 0] := (k3.drew.after gb2); have sc := hs.cell; have sf := hs.frozen; go_simp; refine hK _ _ ?_; clear hK K)
  clear sc sf hs
  refine kind_end ?_
  intro w3 h3
  replace k3 : Blk w3 (w.heap.size + 1 + 1) 24 #[.int .u64 (lb (fpwN base a (ieN base)) 0), .int .u64 (lb (fpwN base a (ieN base)) 1), .int .u64 (lb (fpwN base a (ieN base)) 2), .int .u64 (lb (fpwN base a (ieN base)) 3)] := ((((((k3.drew.after gb2).set_ 0 (.int .u64 (lb (fpwN base a (ieN base)) 0))).set_ 1 (.int .u64 (lb (fpwN base a (ieN base)) 1))).set_ 2 (.int .u64 (lb (fpwN base a (ieN base)) 2))).set_ 3 (.int .u64 (lb (fpwN base a (ieN base)) 3))).after h3)
  have bwsz := Below.size bw
  replace bw := below_call h3 (w := w) (by first | exact (Below.setCell (p := ⟨w.heap.size + 1 + 1, 3, none⟩) (Below.setCell (p := ⟨w.heap.size + 1 + 1, 2, none⟩) (Below.setCell (p := ⟨w.heap.size + 1 + 1, 1, none⟩) (Below.setCell (p := ⟨w.heap.size + 1 + 1, 0, none⟩) (below_call gb2 (Below.drew bw)) (by dsimp only; omega) _) (by dsimp only; omega) _) (by dsimp only; omega) _) (by dsimp only; omega) _) | go_grown)
  clear h3 bwsz
  clear k1 k2
  obtain ⟨k3_c, k3_f, k3_l, k3_m, k3_n⟩ := k3.knows
  clear gb2
  go_wp2
  have rk3_c := k3_c; have rk3_l := k3_l
  refine bodyPost_ret (v := num (fpwN base a (ieN base))) (by simp [results, Try.results40, go_sem, rk3_c, rk3_l]) rfl ?_
  exact ⟨rfl, (by first | exact bw | go_grown)⟩
abbrev p1V : Value := .agg #[.int .u64 18446744069414583344, .int .u64 18446744073709551615, .int .u64 18446744073709551615, .int .u64 18446744073709551615]
abbrev rtV : Value := .agg #[.int .u64 18446744072635809548, .int .u64 18446744073709551615, .int .u64 18446744073709551615, .int .u64 4611686018427387903]
theorem num_rt : num (rtN true) = rtV := by
  have h := lb_rt true
  unfold num rtV
  rw [h.1, h.2.1, h.2.2.1, h.2.2.2]
  rfl
theorem rplus_p1 (w : World) : Calls Try.prog 55 #[num (pN true), oneV] w fun e w' => e = .returned (.tuple #[p1V, .bool (ca (pN true) 1 4 == 1)]) ∧ Below w.heap.size w w' := by
  have h := rplus_any (pN true) 1 w
  have e : num (addN (pN true) 1) = p1V := by
    have hx : lb (addN (pN true) 1) 0 = 18446744069414583344 ∧ lb (addN (pN true) 1) 1 = 18446744073709551615 ∧ lb (addN (pN true) 1) 2 = 18446744073709551615 ∧ lb (addN (pN true) 1) 3 = 18446744073709551615 := by
      rw [addN_def, pN_def]; unfold RR; simp only [lb_def, lbN]; decide
    unfold num p1V; rw [hx.1, hx.2.1, hx.2.2.1, hx.2.2.2]
  rw [e, num_one] at h
  exact h
theorem rpow_rt (a : Nat) (ha : a < RR) (w : World) : Calls Try.prog 66 #[rfV true, num a, rtV] w fun e w' => e = .returned (num (fpwN true a (rtN true))) ∧ Below w.heap.size w w' := by
  have h := rpow (base := true) a (rtN true) ha (rtN_lt true) w
  rw [num_rt] at h
  exact h
theorem evN_lt (b : Bool) (x : Nat) (h : x < pN b) : evN b x < pN b := by
  rw [evN_def]; split
  · exact fsbN_lt b 0 x
  · exact h
end Go.Proofs.Ytbmokmkaebfneaa
