/- The document's answer for layer 2: inverses and roots. -/
import Derived.Test.YtlibfjemdiochaaRE
import Derived.Test.YtlibfjemdiochaaFE
namespace Go.Proofs.Ytlibfjemdiochaa
set_option linter.unusedVariables false
set_option linter.unusedSimpArgs false
open Go.RowKit

theorem rminus_two (b : Bool) (w : World) : Calls Try.prog 60 #[num (pN b), twoNV] w fun e w' => e = .returned (num (ieN b)) ∧ Below w.heap.size w w' := by
  have h := rminus_any (pN b) 2 (by unfold RR; omega) w
  have h1 := pN_lt b
  have h2 := pN_one b
  have e : subN (pN b) 2 = ieN b := by rw [subN_def, ieN_def, show pN b + RR - 2 = pN b - 2 + RR by omega, Nat.add_mod_right, Nat.mod_eq_of_lt (by omega)]
  rw [e, num_two] at h
  exact h
set_option maxRecDepth 20000 in
set_option maxHeartbeats 2000000 in
theorem rinv {base : Bool} (a : Nat) (ha : a < RR) (w : World) : Calls Try.prog 50 #[rfV base, num a] w fun e w' => e = .returned (num (fpwN base a (ieN base))) ∧ Below w.heap.size w w' := by
  go_enter Try.func50, Try.ntmps50
  go_upto_region 1 with (fail)
  refine wp_world (fun W => Blk W w.heap.size 27 #[.int .u64 (lb (pN base) 0), .int .u64 (lb (pN base) 1), .int .u64 (lb (pN base) 2), .int .u64 (lb (pN base) 3), .int .u64 (lb (cN base) 0), .int .u64 (lb (cN base) 1), .int .u64 (lb (cN base) 2), .int .u64 (lb (cN base) 3)] ∧ Blk W (w.heap.size + 1) 24 #[.int .u64 (lb a 0), .int .u64 (lb a 1), .int .u64 (lb a 2), .int .u64 (lb a 3)] ∧ Blk W (w.heap.size + 1 + 1) 24 #[.int .u64 0, .int .u64 0, .int .u64 0, .int .u64 0] ∧ Below w.heap.size w W) ?_ ⟨(((Blk.newAt (n := w.heap.size) _ _ _ (by first | rfl | simp)).alloc _).alloc _), ((Blk.newAt (n := w.heap.size + 1) _ _ _ (by first | rfl | simp)).alloc _), (Blk.newAt (n := w.heap.size + 1 + 1) _ _ _ (by first | rfl | simp)), (by first | exact (below_alloc (below_alloc (Below.alloc (Below.refl _ _) (Below.size (Below.refl _ _)) _) _) _) | go_grown)⟩
  rintro W1 ⟨k1, k2, k3, bw⟩
  refine wp_region_all [7] 8 [(0, 0), (1, 0), (2, 1), (3, 0), (4, 1), (5, 0), (6, 0), (7, 2)] (by kernel_rfl) (by kernel_rfl) ?_
  (refine kind_firm (v := ?_) rfl ?_ ?_; rotate_left; (focus (intro K w' hg hK; have hc1 := (k1.drew.after hg).cell; go_simp; exact hK _ (Grow.refl _))); refine kinds_put (by (simp only [Act.put, List.setIfInBounds_toArray, List.set_cons_succ, List.set_cons_zero]; try rfl)) ?_)
  (refine kind_firm (v := ?_) rfl ?_ ?_; rotate_left; (focus (intro K w' hg hK; have hc1 := (k2.drew.after hg).cell; go_simp; exact hK _ (Grow.refl _))); refine kinds_put (by (simp only [Act.put, List.setIfInBounds_toArray, List.set_cons_succ, List.set_cons_zero]; try rfl)) ?_)
  (refine kind_pure (v := ?_) rfl ?_ ?_; rotate_left; (focus (intro K w' hK; go_simp; exact hK)); refine kinds_put (by (simp only [Act.put, List.setIfInBounds_toArray, List.set_cons_succ, List.set_cons_zero]; try rfl)) ?_)
  (refine kind_firm (v := ?_) rfl ?_ ?_; rotate_left; (focus (intro K w' hg hK; have hc1 := (k1.drew.after hg).cell; go_simp; exact hK _ (Grow.refl _))); refine kinds_put (by (simp only [Act.put, List.setIfInBounds_toArray, List.set_cons_succ, List.set_cons_zero]; try rfl)) ?_)
  (refine kind_pure (v := ?_) rfl ?_ ?_; rotate_left; (focus (intro K w' hK; go_simp; exact hK)); refine kinds_put (by (simp only [Act.put, List.setIfInBounds_toArray, List.set_cons_succ, List.set_cons_zero]; try rfl)) ?_)
  (refine kind_firm (v := ?_) rfl ?_ ?_; rotate_left; (focus (intro K w' hg hK; go_simp; refine Calls.mono (rminus_two base _) ?_; rintro e w'' ⟨rfl, hb⟩; refine ⟨_, rfl, ?_⟩; exact hK _ hb)); refine kinds_put (by (simp only [Act.put, List.setIfInBounds_toArray, List.set_cons_succ, List.set_cons_zero]; try rfl)) ?_)
  (refine kind_firm (v := ?_) rfl ?_ ?_; rotate_left; (focus (intro K w' hg hK; go_simp; refine Calls.mono (rpow a (ieN base) ha (ieN_lt base) _) ?_; rintro e w'' ⟨rfl, hb⟩; refine ⟨_, rfl, ?_⟩; exact hK _ hb)); refine kinds_put (by (simp only [Act.put, List.setIfInBounds_toArray, List.set_cons_succ, List.set_cons_zero]; try rfl)) ?_)
  (refine kind_store rfl rfl ?_; intro K wb2 gb2 hK; have hs : Blk wb2 (w.heap.size + 1 + 1) 24 #[.int .u64 0, .int .u64 0, .int .u64 0, .int .u64 0] := (k3.drew.after gb2); have sc := hs.cell; have sf := hs.frozen; go_simp; refine hK _ _ ?_; clear hK K)
  clear sc sf hs
  refine kind_end ?_
  intro w3 h3
  replace k3 : Blk w3 (w.heap.size + 1 + 1) 24 #[.int .u64 (lb (fpwN base a (ieN base)) 0), .int .u64 (lb (fpwN base a (ieN base)) 1), .int .u64 (lb (fpwN base a (ieN base)) 2), .int .u64 (lb (fpwN base a (ieN base)) 3)] := ((((((k3.drew.after gb2).set_ 0 (.int .u64 (lb (fpwN base a (ieN base)) 0))).set_ 1 (.int .u64 (lb (fpwN base a (ieN base)) 1))).set_ 2 (.int .u64 (lb (fpwN base a (ieN base)) 2))).set_ 3 (.int .u64 (lb (fpwN base a (ieN base)) 3))).after h3)
  have bwsz := Below.size bw
  replace bw := below_call h3 (w := w) (by first | exact (Below.setCell (p := ⟨w.heap.size + 1 + 1, 3, none⟩) (Below.setCell (p := ⟨w.heap.size + 1 + 1, 2, none⟩) (Below.setCell (p := ⟨w.heap.size + 1 + 1, 1, none⟩) (Below.setCell (p := ⟨w.heap.size + 1 + 1, 0, none⟩) (below_call gb2 (Below.drew bw)) (by dsimp only; omega) _) (by dsimp only; omega) _) (by dsimp only; omega) _) (by dsimp only; omega) _) | go_grown)
  clear h3 bwsz
  clear k1 k2
  obtain ⟨k3_c, k3_f, k3_l, k3_m, k3_n⟩ := k3.knows
  clear gb2
  go_wp2
  have rk3_c := k3_c; have rk3_l := k3_l
  refine bodyPost_ret (v := num (fpwN base a (ieN base))) (by simp [results, Try.results50, go_sem, rk3_c, rk3_l]) rfl ?_
  exact ⟨rfl, (by first | exact bw | go_grown)⟩
set_option maxRecDepth 20000 in
set_option maxHeartbeats 2000000 in
theorem rinvert_no {base : Bool} (a : Nat) (ha : a < RR) (h : ¬ a < pN base) (w : World) : Calls Try.prog 15 #[rfV base, num a] w fun e w' => e = .returned (.tuple #[zeroV, .int .i64 20]) ∧ Below w.heap.size w w' := by
  go_enter Try.func15, Try.ntmps15
  go_wp2_with fail
  (with_reducible refine (rhas_no a ha h _).mono ?_)
  rintro e w1 ⟨rfl, h1⟩
  have k3 := ((Blk.newAt (n := w.heap.size + 1 + 1) _ _ _ (by first | rfl | simp)).after h1)
  have bw := below_call h1 (w := w) (by first | exact (below_alloc (below_alloc (Below.alloc (Below.refl _ _) (Below.size (Below.refl _ _)) _) _) _) | go_grown)
  clear h1
  obtain ⟨k3_c, k3_f, k3_l, k3_m, k3_n⟩ := k3.knows
  go_wp2
  obtain ⟨rk3_c, rk3_f, rk3_l, -⟩ := ((((((k3.set_ 0 (.int .u64 0)).set_ 1 (.int .u64 0)).set_ 2 (.int .u64 0)).set_ 3 (.int .u64 0))).re (cs' := #[.int .u64 0, .int .u64 0, .int .u64 0, .int .u64 0]) rfl).knows
  refine bodyPost_ret (v := .tuple #[zeroV, .int .i64 20]) (by simp [results, Try.results15, go_sem, rk3_c, rk3_l]) rfl ?_
  exact ⟨rfl, (by first | exact (Below.setCell (p := ⟨w.heap.size + 1 + 1, 3, none⟩) (Below.setCell (p := ⟨w.heap.size + 1 + 1, 2, none⟩) (Below.setCell (p := ⟨w.heap.size + 1 + 1, 1, none⟩) (Below.setCell (p := ⟨w.heap.size + 1 + 1, 0, none⟩) bw (by dsimp only; omega) _) (by dsimp only; omega) _) (by dsimp only; omega) _) (by dsimp only; omega) _) | go_grown)⟩
set_option maxRecDepth 20000 in
set_option maxHeartbeats 2000000 in
theorem rinvert_zero {base : Bool} (w : World) : Calls Try.prog 15 #[rfV base, num 0] w fun e w' => e = .returned (.tuple #[zeroV, .int .i64 21]) ∧ Below w.heap.size w w' := by
  go_enter Try.func15, Try.ntmps15
  go_wp2_with fail
  (with_reducible refine (rhas_yes 0 (pN_pos base) _).mono ?_)
  rintro e w1 ⟨rfl, h1⟩
  have k2 := (((Blk.newAt (n := w.heap.size + 1) _ _ _ (by first | rfl | simp)).alloc _).after h1)
  have k3 := ((Blk.newAt (n := w.heap.size + 1 + 1) _ _ _ (by first | rfl | simp)).after h1)
  have bw := below_call h1 (w := w) (by first | exact (below_alloc (below_alloc (Below.alloc (Below.refl _ _) (Below.size (Below.refl _ _)) _) _) _) | go_grown)
  clear h1
  obtain ⟨k2_c, k2_f, k2_l, k2_m, k2_n⟩ := k2.knows
  obtain ⟨k3_c, k3_f, k3_l, k3_m, k3_n⟩ := k3.knows
  go_wp2_with fail
  (with_reducible refine (zero_any 0 RR_zero true (decide_eq_true rfl) _).mono ?_)
  rintro e w2 ⟨rfl, h2⟩
  clear k2_c k2_f k2_m k2_n k3_c k3_f k3_m k3_n
  replace k3 := (k3.after h2)
  have bwsz := Below.size bw
  replace bw := below_call h2 (w := w) (by first | exact bw | go_grown)
  clear h2 bwsz k2_l k3_l
  clear k2
  obtain ⟨k3_c, k3_f, k3_l, k3_m, k3_n⟩ := k3.knows
  go_wp2
  obtain ⟨rk3_c, rk3_f, rk3_l, -⟩ := ((((((k3.set_ 0 (.int .u64 0)).set_ 1 (.int .u64 0)).set_ 2 (.int .u64 0)).set_ 3 (.int .u64 0))).re (cs' := #[.int .u64 0, .int .u64 0, .int .u64 0, .int .u64 0]) rfl).knows
  refine bodyPost_ret (v := .tuple #[zeroV, .int .i64 21]) (by simp [results, Try.results15, go_sem, rk3_c, rk3_l]) rfl ?_
  exact ⟨rfl, (by first | exact (Below.setCell (p := ⟨w.heap.size + 1 + 1, 3, none⟩) (Below.setCell (p := ⟨w.heap.size + 1 + 1, 2, none⟩) (Below.setCell (p := ⟨w.heap.size + 1 + 1, 1, none⟩) (Below.setCell (p := ⟨w.heap.size + 1 + 1, 0, none⟩) bw (by dsimp only; omega) _) (by dsimp only; omega) _) (by dsimp only; omega) _) (by dsimp only; omega) _) | go_grown)⟩
set_option maxRecDepth 20000 in
set_option maxHeartbeats 2000000 in
theorem rinvert_yes {base : Bool} (a : Nat) (h : a < pN base) (h0 : a ≠ 0) (w : World) : Calls Try.prog 15 #[rfV base, num a] w fun e w' => e = .returned (.tuple #[num (fpwN base a (ieN base)), .int .i64 0]) ∧ Below w.heap.size w w' := by
  go_enter Try.func15, Try.ntmps15
  go_wp2_with fail
  (with_reducible refine (rhas_yes a h _).mono ?_)
  rintro e w1 ⟨rfl, h1⟩
  have k1 := ((((Blk.newAt (n := w.heap.size) _ _ _ (by first | rfl | simp)).alloc _).alloc _).after h1)
  have k2 := (((Blk.newAt (n := w.heap.size + 1) _ _ _ (by first | rfl | simp)).alloc _).after h1)
  have k3 := ((Blk.newAt (n := w.heap.size + 1 + 1) _ _ _ (by first | rfl | simp)).after h1)
  have bw := below_call h1 (w := w) (by first | exact (below_alloc (below_alloc (Below.alloc (Below.refl _ _) (Below.size (Below.refl _ _)) _) _) _) | go_grown)
  clear h1
  obtain ⟨k1_c, k1_f, k1_l, k1_m, k1_n⟩ := k1.knows
  obtain ⟨k2_c, k2_f, k2_l, k2_m, k2_n⟩ := k2.knows
  obtain ⟨k3_c, k3_f, k3_l, k3_m, k3_n⟩ := k3.knows
  go_wp2_with fail
  (with_reducible refine (zero_any a (lt_RR h) false (decide_eq_false h0) _).mono ?_)
  rintro e w2 ⟨rfl, h2⟩
  clear k1_c k1_f k1_m k1_n k2_c k2_f k2_m k2_n k3_c k3_f k3_m k3_n
  replace k1 := (k1.after h2)
  replace k2 := (k2.after h2)
  replace k3 := (k3.after h2)
  have bwsz := Below.size bw
  replace bw := below_call h2 (w := w) (by first | exact bw | go_grown)
  clear h2 bwsz k1_l k2_l k3_l
  obtain ⟨k1_c, k1_f, k1_l, k1_m, k1_n⟩ := k1.knows
  obtain ⟨k2_c, k2_f, k2_l, k2_m, k2_n⟩ := k2.knows
  obtain ⟨k3_c, k3_f, k3_l, k3_m, k3_n⟩ := k3.knows
  go_wp2_with fail
  (with_reducible refine (rinv a (lt_RR h) _).mono ?_)
  rintro e w3 ⟨rfl, h3⟩
  clear k1_c k1_f k1_m k1_n k2_c k2_f k2_m k2_n k3_c k3_f k3_m k3_n
  replace k3 := (k3.after h3)
  have bwsz := Below.size bw
  replace bw := below_call h3 (w := w) (by first | exact bw | go_grown)
  clear h3 bwsz k1_l k2_l k3_l
  clear k1 k2
  obtain ⟨k3_c, k3_f, k3_l, k3_m, k3_n⟩ := k3.knows
  go_wp2
  obtain ⟨rk3_c, rk3_f, rk3_l, -⟩ := ((((((k3.set_ 0 (.int .u64 (lb (fpwN base a (ieN base)) 0))).set_ 1 (.int .u64 (lb (fpwN base a (ieN base)) 1))).set_ 2 (.int .u64 (lb (fpwN base a (ieN base)) 2))).set_ 3 (.int .u64 (lb (fpwN base a (ieN base)) 3)))).re (cs' := #[.int .u64 (lb (fpwN base a (ieN base)) 0), .int .u64 (lb (fpwN base a (ieN base)) 1), .int .u64 (lb (fpwN base a (ieN base)) 2), .int .u64 (lb (fpwN base a (ieN base)) 3)]) rfl).knows
  refine bodyPost_ret (v := .tuple #[num (fpwN base a (ieN base)), .int .i64 0]) (by simp [results, Try.results15, go_sem, rk3_c, rk3_l]) rfl ?_
  exact ⟨rfl, (by first | exact (Below.setCell (p := ⟨w.heap.size + 1 + 1, 3, none⟩) (Below.setCell (p := ⟨w.heap.size + 1 + 1, 2, none⟩) (Below.setCell (p := ⟨w.heap.size + 1 + 1, 1, none⟩) (Below.setCell (p := ⟨w.heap.size + 1 + 1, 0, none⟩) bw (by dsimp only; omega) _) (by dsimp only; omega) _) (by dsimp only; omega) _) (by dsimp only; omega) _) | go_grown)⟩
abbrev p1V : Value := .agg #[.int .u64 18446744069414583344, .int .u64 18446744073709551615, .int .u64 18446744073709551615, .int .u64 18446744073709551615]
abbrev rtV : Value := .agg #[.int .u64 18446744072635809548, .int .u64 18446744073709551615, .int .u64 18446744073709551615, .int .u64 4611686018427387903]
theorem num_rt : num (rtN true) = rtV := by
  have h := lb_rt true
  unfold num rtV
  rw [h.1, h.2.1, h.2.2.1, h.2.2.2]
  rfl
theorem rplus_p1 (w : World) : Calls Try.prog 54 #[num (pN true), oneV] w fun e w' => e = .returned (.tuple #[p1V, .bool (ca (pN true) 1 4 == 1)]) ∧ Below w.heap.size w w' := by
  have h := rplus_any (pN true) 1 w
  have e : num (addN (pN true) 1) = p1V := by
    have hx : lb (addN (pN true) 1) 0 = 18446744069414583344 ∧ lb (addN (pN true) 1) 1 = 18446744073709551615 ∧ lb (addN (pN true) 1) 2 = 18446744073709551615 ∧ lb (addN (pN true) 1) 3 = 18446744073709551615 := by
      rw [addN_def, pN_def]; unfold RR; simp only [lb_def, lbN]; decide
    unfold num p1V; rw [hx.1, hx.2.1, hx.2.2.1, hx.2.2.2]
  rw [e, num_one] at h
  exact h
theorem rpow_rt (a : Nat) (ha : a < RR) (w : World) : Calls Try.prog 19 #[rfV true, num a, rtV] w fun e w' => e = .returned (num (fpwN true a (rtN true))) ∧ Below w.heap.size w w' := by
  have h := rpow (base := true) a (rtN true) ha (rtN_lt true) w
  rw [num_rt] at h
  exact h
theorem evN_lt (b : Bool) (x : Nat) (h : x < pN b) : evN b x < pN b := by
  rw [evN_def]; split
  · exact fsbN_lt b 0 x
  · exact h
set_option maxRecDepth 20000 in
set_option maxHeartbeats 2000000 in
theorem rsqrt_no {base t : Bool} (a : Nat) (ha : a < RR) (h : ¬ a < pN base) (w : World) : Calls Try.prog 17 #[rfV base, num a, .bool t] w fun e w' => e = .returned (.tuple #[zeroV, .int .i64 20]) ∧ Below w.heap.size w w' := by
  go_enter Try.func17, Try.ntmps17
  go_wp2_with fail
  (with_reducible refine (rhas_no a ha h _).mono ?_)
  rintro e w1 ⟨rfl, h1⟩
  have k3 := ((Blk.newAt (n := w.heap.size + 1 + 1) _ _ _ (by first | rfl | simp)).after h1)
  have bw := below_call h1 (w := w) (by first | exact (below_alloc (below_alloc (Below.alloc (Below.refl _ _) (Below.size (Below.refl _ _)) _) _) _) | go_grown)
  clear h1
  obtain ⟨k3_c, k3_f, k3_l, k3_m, k3_n⟩ := k3.knows
  go_wp2
  obtain ⟨rk3_c, rk3_f, rk3_l, -⟩ := ((((((k3.set_ 0 (.int .u64 0)).set_ 1 (.int .u64 0)).set_ 2 (.int .u64 0)).set_ 3 (.int .u64 0))).re (cs' := #[.int .u64 0, .int .u64 0, .int .u64 0, .int .u64 0]) rfl).knows
  refine bodyPost_ret (v := .tuple #[zeroV, .int .i64 20]) (by simp [results, Try.results17, go_sem, rk3_c, rk3_l]) rfl ?_
  exact ⟨rfl, (by first | exact (Below.setCell (p := ⟨w.heap.size + 1 + 1, 3, none⟩) (Below.setCell (p := ⟨w.heap.size + 1 + 1, 2, none⟩) (Below.setCell (p := ⟨w.heap.size + 1 + 1, 1, none⟩) (Below.setCell (p := ⟨w.heap.size + 1 + 1, 0, none⟩) bw (by dsimp only; omega) _) (by dsimp only; omega) _) (by dsimp only; omega) _) (by dsimp only; omega) _) | go_grown)⟩
set_option maxRecDepth 20000 in
set_option maxHeartbeats 2000000 in
theorem rsqrt_none (a : Nat) (h : a < pN false) (w : World) : Calls Try.prog 17 #[rfV false, num a, .bool false] w fun e w' => e = .returned (.tuple #[zeroV, .int .i64 7]) ∧ Below w.heap.size w w' := by
  go_enter Try.func17, Try.ntmps17
  go_wp2_with fail
  (with_reducible refine (rhas_yes a h _).mono ?_)
  rintro e w1 ⟨rfl, h1⟩
  have k3 := ((Blk.newAt (n := w.heap.size + 1 + 1) _ _ _ (by first | rfl | simp)).after h1)
  have bw := below_call h1 (w := w) (by first | exact (below_alloc (below_alloc (Below.alloc (Below.refl _ _) (Below.size (Below.refl _ _)) _) _) _) | go_grown)
  clear h1
  obtain ⟨k3_c, k3_f, k3_l, k3_m, k3_n⟩ := k3.knows
  go_wp2
  obtain ⟨rk3_c, rk3_f, rk3_l, -⟩ := ((((((k3.set_ 0 (.int .u64 0)).set_ 1 (.int .u64 0)).set_ 2 (.int .u64 0)).set_ 3 (.int .u64 0))).re (cs' := #[.int .u64 0, .int .u64 0, .int .u64 0, .int .u64 0]) rfl).knows
  refine bodyPost_ret (v := .tuple #[zeroV, .int .i64 7]) (by simp [results, Try.results17, go_sem, rk3_c, rk3_l]) rfl ?_
  exact ⟨rfl, (by first | exact (Below.setCell (p := ⟨w.heap.size + 1 + 1, 3, none⟩) (Below.setCell (p := ⟨w.heap.size + 1 + 1, 2, none⟩) (Below.setCell (p := ⟨w.heap.size + 1 + 1, 1, none⟩) (Below.setCell (p := ⟨w.heap.size + 1 + 1, 0, none⟩) bw (by dsimp only; omega) _) (by dsimp only; omega) _) (by dsimp only; omega) _) (by dsimp only; omega) _) | go_grown)⟩
end Go.Proofs.Ytlibfjemdiochaa
