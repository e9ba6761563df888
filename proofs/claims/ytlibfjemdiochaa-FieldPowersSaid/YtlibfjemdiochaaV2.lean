/- limb's Montgomery way: products, to it and from it. -/
import Derived.Test.YtlibfjemdiochaaV
import Derived.Test.YtlibfjemdiochaaC
import Derived.Test.YtlibfjemdiochaaQ
namespace Go.Proofs.Ytlibfjemdiochaa
set_option linter.unusedVariables false
set_option linter.unusedSimpArgs false
open Go.RowKit

theorem lt_mulR (m a b : Nat) (ha : a < m) (hb : b < RR) : mulN a b < m * RR := by
  rw [mulN_def]; exact Nat.mul_lt_mul_of_lt_of_le ha (Nat.le_of_lt hb) (by unfold RR; decide)
theorem wide_num (x : Nat) (hx : x < RR) : (.agg #[.int .u64 (lb x 0), .int .u64 (lb x 1), .int .u64 (lb x 2), .int .u64 (lb x 3), .int .u64 0, .int .u64 0, .int .u64 0, .int .u64 0] : Value) = wide x := by
  have h : ∀ j, 4 ≤ j → lb x j = 0 := fun j hj => by rw [lb_def, lbN_high x j hx hj]; rfl
  unfold wide
  rw [h 4 (by omega), h 5 (by omega), h 6 (by omega), h 7 (by omega)]
section
variable (b m r2 : Nat) (w : World) (hM : MontB w b m r2 (ivN m)) (hm : m < RR)
include hM hm
set_option maxHeartbeats 2000000 in
theorem mmul_nox (x y : Nat) (hx : x < RR) (h : ¬ x < m) : Calls Try.prog 45 #[.pointer (some ⟨b, 0, none⟩), num x, num y] w fun e w' => e = .returned (.tuple #[num 0, .int .i64 1]) ∧ Below w.heap.size w w' := by
  rw [num_zero]
  go_enter Try.func45, Try.ntmps45
  go_wp2_with fail; (with_reducible refine (below_any b _ x m r2 (ivN m) false _ (hM.below (by go_grown)) (((Blk.newAt (n := w.heap.size) _ _ _ rfl).alloc _).alloc _) hx hm (decide_eq_false h)).mono ?_); rintro e w1 ⟨rfl, h1⟩; have kx := (((Blk.newAt (n := w.heap.size) _ _ _ (by first | rfl | simp)).alloc _).alloc _).after h1; have ky := ((Blk.newAt (n := w.heap.size + 1) _ _ _ (by first | rfl | simp)).alloc _).after h1; have kq := (Blk.newAt (n := w.heap.size + 1 + 1) _ _ _ (by first | rfl | simp)).after h1; have bw := below_call h1 (w := w) (by go_grown); obtain ⟨kx_c, kx_f, kx_l, kx_m, _⟩ := kx.knows; obtain ⟨ky_c, ky_f, ky_l, ky_m, _⟩ := ky.knows; obtain ⟨kq_c, kq_f, kq_l, kq_m, _⟩ := kq.knows
  go_wp2
  have kf := (kq.put4 (.int .u64 0) (.int .u64 0) (.int .u64 0) (.int .u64 0)).knows
  obtain ⟨kf_c, kf_f, kf_l, _⟩ := kf
  refine bodyPost_ret (v := .tuple #[zeroV, .int .i64 1]) (by simp [results, Try.results45, go_sem, kf_c, kf_l]) rfl ?_
  exact ⟨rfl, by go_grown⟩
set_option maxHeartbeats 2000000 in
theorem mmul_noy (x y : Nat) (hx : x < RR) (hy : y < RR) (h : x < m) (h' : ¬ y < m) : Calls Try.prog 45 #[.pointer (some ⟨b, 0, none⟩), num x, num y] w fun e w' => e = .returned (.tuple #[num 0, .int .i64 1]) ∧ Below w.heap.size w w' := by
  rw [num_zero]
  go_enter Try.func45, Try.ntmps45
  go_wp2_with fail; (with_reducible refine (below_any b _ x m r2 (ivN m) true _ (hM.below (by go_grown)) (((Blk.newAt (n := w.heap.size) _ _ _ rfl).alloc _).alloc _) hx hm (decide_eq_true h)).mono ?_); rintro e w1 ⟨rfl, h1⟩; have kx := (((Blk.newAt (n := w.heap.size) _ _ _ (by first | rfl | simp)).alloc _).alloc _).after h1; have ky := ((Blk.newAt (n := w.heap.size + 1) _ _ _ (by first | rfl | simp)).alloc _).after h1; have kq := (Blk.newAt (n := w.heap.size + 1 + 1) _ _ _ (by first | rfl | simp)).after h1; have bw := below_call h1 (w := w) (by go_grown); obtain ⟨kx_c, kx_f, kx_l, kx_m, _⟩ := kx.knows; obtain ⟨ky_c, ky_f, ky_l, ky_m, _⟩ := ky.knows; obtain ⟨kq_c, kq_f, kq_l, kq_m, _⟩ := kq.knows
  go_wp2_with fail; (with_reducible refine (below_any b _ y m r2 (ivN m) false _ (hM.below bw) (ky) hy hm (decide_eq_false h')).mono ?_); rintro e w2 ⟨rfl, h2⟩; clear kx_c kx_f kx_l kx_m ky_c ky_f ky_l ky_m kq_c kq_f kq_l kq_m; (first | replace kx := kx.after h2 | replace kx := (kx.alloc _).after h2 | replace kx := ((kx.alloc _).alloc _).after h2 | replace kx := kx.drew.after h2 | replace kx := (kx.alloc _).drew.after h2 | replace kx := (kx.drew.alloc _).after h2); (first | replace ky := ky.after h2 | replace ky := (ky.alloc _).after h2 | replace ky := ((ky.alloc _).alloc _).after h2 | replace ky := ky.drew.after h2 | replace ky := (ky.alloc _).drew.after h2 | replace ky := (ky.drew.alloc _).after h2); (first | replace kq := kq.after h2 | replace kq := (kq.alloc _).after h2 | replace kq := ((kq.alloc _).alloc _).after h2 | replace kq := kq.drew.after h2 | replace kq := (kq.alloc _).drew.after h2 | replace kq := (kq.drew.alloc _).after h2); have bwsz := Below.size bw; replace bw := below_call h2 (w := w) (by go_grown); clear h2 bwsz; obtain ⟨kx_c, kx_f, kx_l, kx_m, _⟩ := kx.knows; obtain ⟨ky_c, ky_f, ky_l, ky_m, _⟩ := ky.knows; obtain ⟨kq_c, kq_f, kq_l, kq_m, _⟩ := kq.knows
  go_wp2
  have kf := (kq.put4 (.int .u64 0) (.int .u64 0) (.int .u64 0) (.int .u64 0)).knows
  obtain ⟨kf_c, kf_f, kf_l, _⟩ := kf
  refine bodyPost_ret (v := .tuple #[zeroV, .int .i64 1]) (by simp [results, Try.results45, go_sem, kf_c, kf_l]) rfl ?_
  exact ⟨rfl, by go_grown⟩
set_option maxHeartbeats 2000000 in
theorem mmul_yes (x y : Nat) (hx : x < RR) (hy : y < RR) (ho : m % 2 = 1) (h : x < m) (h' : y < m) : Calls Try.prog 45 #[.pointer (some ⟨b, 0, none⟩), num x, num y] w fun e w' => e = .returned (.tuple #[num (redN m (mulN x y)), .int .i64 0]) ∧ Below w.heap.size w w' := by
  go_enter Try.func45, Try.ntmps45
  go_wp2_with fail; (with_reducible refine (below_any b _ x m r2 (ivN m) true _ (hM.below (by go_grown)) (((Blk.newAt (n := w.heap.size) _ _ _ rfl).alloc _).alloc _) hx hm (decide_eq_true h)).mono ?_); rintro e w1 ⟨rfl, h1⟩; have kx := (((Blk.newAt (n := w.heap.size) _ _ _ (by first | rfl | simp)).alloc _).alloc _).after h1; have ky := ((Blk.newAt (n := w.heap.size + 1) _ _ _ (by first | rfl | simp)).alloc _).after h1; have kq := (Blk.newAt (n := w.heap.size + 1 + 1) _ _ _ (by first | rfl | simp)).after h1; have bw := below_call h1 (w := w) (by go_grown); obtain ⟨kx_c, kx_f, kx_l, kx_m, _⟩ := kx.knows; obtain ⟨ky_c, ky_f, ky_l, ky_m, _⟩ := ky.knows; obtain ⟨kq_c, kq_f, kq_l, kq_m, _⟩ := kq.knows
  go_wp2_with fail; (with_reducible refine (below_any b _ y m r2 (ivN m) true _ (hM.below bw) (ky) hy hm (decide_eq_true h')).mono ?_); rintro e w2 ⟨rfl, h2⟩; clear kx_c kx_f kx_l kx_m ky_c ky_f ky_l ky_m kq_c kq_f kq_l kq_m; (first | replace kx := kx.after h2 | replace kx := (kx.alloc _).after h2 | replace kx := ((kx.alloc _).alloc _).after h2 | replace kx := kx.drew.after h2 | replace kx := (kx.alloc _).drew.after h2 | replace kx := (kx.drew.alloc _).after h2); (first | replace ky := ky.after h2 | replace ky := (ky.alloc _).after h2 | replace ky := ((ky.alloc _).alloc _).after h2 | replace ky := ky.drew.after h2 | replace ky := (ky.alloc _).drew.after h2 | replace ky := (ky.drew.alloc _).after h2); (first | replace kq := kq.after h2 | replace kq := (kq.alloc _).after h2 | replace kq := ((kq.alloc _).alloc _).after h2 | replace kq := kq.drew.after h2 | replace kq := (kq.alloc _).drew.after h2 | replace kq := (kq.drew.alloc _).after h2); have bwsz := Below.size bw; replace bw := below_call h2 (w := w) (by go_grown); clear h2 bwsz; obtain ⟨kx_c, kx_f, kx_l, kx_m, _⟩ := kx.knows; obtain ⟨ky_c, ky_f, ky_l, ky_m, _⟩ := ky.knows; obtain ⟨kq_c, kq_f, kq_l, kq_m, _⟩ := kq.knows
  go_wp2_with fail; (with_reducible refine (mul_any x y hx hy _).mono ?_); rintro e w3 ⟨rfl, h3⟩; clear kx_c kx_f kx_l kx_m ky_c ky_f ky_l ky_m kq_c kq_f kq_l kq_m; (first | replace kx := kx.after h3 | replace kx := (kx.alloc _).after h3 | replace kx := ((kx.alloc _).alloc _).after h3 | replace kx := kx.drew.after h3 | replace kx := (kx.alloc _).drew.after h3 | replace kx := (kx.drew.alloc _).after h3); (first | replace ky := ky.after h3 | replace ky := (ky.alloc _).after h3 | replace ky := ((ky.alloc _).alloc _).after h3 | replace ky := ky.drew.after h3 | replace ky := (ky.alloc _).drew.after h3 | replace ky := (ky.drew.alloc _).after h3); (first | replace kq := kq.after h3 | replace kq := (kq.alloc _).after h3 | replace kq := ((kq.alloc _).alloc _).after h3 | replace kq := kq.drew.after h3 | replace kq := (kq.alloc _).drew.after h3 | replace kq := (kq.drew.alloc _).after h3); have bwsz := Below.size bw; replace bw := below_call h3 (w := w) (by go_grown); clear h3 bwsz; obtain ⟨kx_c, kx_f, kx_l, kx_m, _⟩ := kx.knows; obtain ⟨ky_c, ky_f, ky_l, ky_m, _⟩ := ky.knows; obtain ⟨kq_c, kq_f, kq_l, kq_m, _⟩ := kq.knows
  go_wp2_with fail; (with_reducible refine (reduce_any b (mulN x y) m r2 _ (hM.below bw) hm ho (lt_mulR m x y h hy)).mono ?_); rintro e w4 ⟨rfl, h4⟩; clear kx_c kx_f kx_l kx_m ky_c ky_f ky_l ky_m kq_c kq_f kq_l kq_m; (first | replace kx := kx.after h4 | replace kx := (kx.alloc _).after h4 | replace kx := ((kx.alloc _).alloc _).after h4 | replace kx := kx.drew.after h4 | replace kx := (kx.alloc _).drew.after h4 | replace kx := (kx.drew.alloc _).after h4); (first | replace ky := ky.after h4 | replace ky := (ky.alloc _).after h4 | replace ky := ((ky.alloc _).alloc _).after h4 | replace ky := ky.drew.after h4 | replace ky := (ky.alloc _).drew.after h4 | replace ky := (ky.drew.alloc _).after h4); (first | replace kq := kq.after h4 | replace kq := (kq.alloc _).after h4 | replace kq := ((kq.alloc _).alloc _).after h4 | replace kq := kq.drew.after h4 | replace kq := (kq.alloc _).drew.after h4 | replace kq := (kq.drew.alloc _).after h4); have bwsz := Below.size bw; replace bw := below_call h4 (w := w) (by go_grown); clear h4 bwsz; obtain ⟨kx_c, kx_f, kx_l, kx_m, _⟩ := kx.knows; obtain ⟨ky_c, ky_f, ky_l, ky_m, _⟩ := ky.knows; obtain ⟨kq_c, kq_f, kq_l, kq_m, _⟩ := kq.knows
  go_wp2
  have kf := (kq.put4 (.int .u64 (lb (redN m (mulN x y)) 0)) (.int .u64 (lb (redN m (mulN x y)) 1)) (.int .u64 (lb (redN m (mulN x y)) 2)) (.int .u64 (lb (redN m (mulN x y)) 3))).knows
  obtain ⟨kf_c, kf_f, kf_l, _⟩ := kf
  refine bodyPost_ret (v := .tuple #[num (redN m (mulN x y)), .int .i64 0]) (by simp [results, Try.results45, go_sem, kf_c, kf_l]) rfl ?_
  exact ⟨rfl, by go_grown⟩
set_option maxHeartbeats 2000000 in
theorem mto_no (x : Nat) (hx : x < RR) (h : ¬ x < m) : Calls Try.prog 44 #[.pointer (some ⟨b, 0, none⟩), num x] w fun e w' => e = .returned (.tuple #[num 0, .int .i64 1]) ∧ Below w.heap.size w w' := by
  rw [num_zero]
  go_enter Try.func44, Try.ntmps44
  go_wp2_with fail; (with_reducible refine (below_any b _ x m r2 (ivN m) false _ (hM.below (by go_grown)) ((Blk.newAt (n := w.heap.size) _ _ _ rfl).alloc _) hx hm (decide_eq_false h)).mono ?_); rintro e w1 ⟨rfl, h1⟩; have kx := ((Blk.newAt (n := w.heap.size) _ _ _ (by first | rfl | simp)).alloc _).after h1; have kq := (Blk.newAt (n := w.heap.size + 1) _ _ _ (by first | rfl | simp)).after h1; have bw := below_call h1 (w := w) (by go_grown); obtain ⟨kx_c, kx_f, kx_l, kx_m, _⟩ := kx.knows; obtain ⟨kq_c, kq_f, kq_l, kq_m, _⟩ := kq.knows
  go_wp2
  have kf := (kq.put4 (.int .u64 0) (.int .u64 0) (.int .u64 0) (.int .u64 0)).knows
  obtain ⟨kf_c, kf_f, kf_l, _⟩ := kf
  refine bodyPost_ret (v := .tuple #[zeroV, .int .i64 1]) (by simp [results, Try.results44, go_sem, kf_c, kf_l]) rfl ?_
  exact ⟨rfl, by go_grown⟩
set_option maxHeartbeats 2000000 in
theorem mto_yes (x : Nat) (hx : x < RR) (ho : m % 2 = 1) (hr : r2 < RR) (h : x < m) : Calls Try.prog 44 #[.pointer (some ⟨b, 0, none⟩), num x] w fun e w' => e = .returned (.tuple #[num (redN m (mulN x r2)), .int .i64 0]) ∧ Below w.heap.size w w' := by
  go_enter Try.func44, Try.ntmps44
  go_wp2_with fail; (with_reducible refine (below_any b _ x m r2 (ivN m) true _ (hM.below (by go_grown)) ((Blk.newAt (n := w.heap.size) _ _ _ rfl).alloc _) hx hm (decide_eq_true h)).mono ?_); rintro e w1 ⟨rfl, h1⟩; have kx := ((Blk.newAt (n := w.heap.size) _ _ _ (by first | rfl | simp)).alloc _).after h1; have kq := (Blk.newAt (n := w.heap.size + 1) _ _ _ (by first | rfl | simp)).after h1; have bw := below_call h1 (w := w) (by go_grown); obtain ⟨kx_c, kx_f, kx_l, kx_m, _⟩ := kx.knows; obtain ⟨kq_c, kq_f, kq_l, kq_m, _⟩ := kq.knows
  clear kx_c kx_f kx_l kx_m kq_c kq_f kq_l kq_m
  have kM : Blk w1 b 89 #[.int .u64 (lb (m) 0), .int .u64 (lb (m) 1), .int .u64 (lb (m) 2), .int .u64 (lb (m) 3), .int .u64 (lb (r2) 0), .int .u64 (lb (r2) 1), .int .u64 (lb (r2) 2), .int .u64 (lb (r2) 3), .int .u64 (lb (ivN m) 0)] := hM.below bw
  go_upto_region 3 with (fail)
  refine wp_region_kinds [] 8 [(0, 0), (1, 0), (2, 0), (3, 0), (4, 0), (5, 0), (6, 0), (7, 0)] (by kernel_rfl) (by kernel_rfl) ?_
  (refine kind_firm (v := ?_) rfl ?_ ?_; rotate_left; (focus (intro K w' hg hK; go_simp; exact hK _ (Grow.refl _))); refine kinds_put (by (simp only [Act.put, List.setIfInBounds_toArray, List.set_cons_succ, List.set_cons_zero]; try rfl)) ?_)
  (refine kind_firm (v := ?_) rfl ?_ ?_; rotate_left; (focus (intro K w' hg hK; have hc1 := (kx.drew.after hg).cell; go_simp; exact hK _ (Grow.refl _))); refine kinds_put (by (simp only [Act.put, List.setIfInBounds_toArray, List.set_cons_succ, List.set_cons_zero]; try rfl)) ?_)
  (refine kind_firm (v := ?_) rfl ?_ ?_; rotate_left; (focus (intro K w' hg hK; go_simp; exact hK _ (Grow.refl _))); refine kinds_put (by (simp only [Act.put, List.setIfInBounds_toArray, List.set_cons_succ, List.set_cons_zero]; try rfl)) ?_)
  (refine kind_firm (v := ?_) rfl ?_ ?_; rotate_left; (focus (intro K w' hg hK; go_simp; exact hK _ (Grow.refl _))); refine kinds_put (by (simp only [Act.put, List.setIfInBounds_toArray, List.set_cons_succ, List.set_cons_zero]; try rfl)) ?_)
  (refine kind_firm (v := ?_) rfl ?_ ?_; rotate_left; (focus (intro K w' hg hK; go_simp; exact hK _ (Grow.refl _))); refine kinds_put (by (simp only [Act.put, List.setIfInBounds_toArray, List.set_cons_succ, List.set_cons_zero]; try rfl)) ?_)
  (refine kind_firm (v := ?_) rfl ?_ ?_; rotate_left; (focus (intro K w' hg hK; have hc1 := (kM.drew.after hg).cell; go_simp; exact hK _ (Grow.refl _))); refine kinds_put (by (simp only [Act.put, List.setIfInBounds_toArray, List.set_cons_succ, List.set_cons_zero]; try rfl)) ?_)
  (refine kind_firm (v := ?_) rfl ?_ ?_; rotate_left; (focus (intro K w' hg hK; go_simp; refine Calls.mono (mul_any x r2 hx hr _) ?_; rintro e w'' ⟨rfl, hb⟩; refine ⟨_, rfl, ?_⟩; exact hK _ hb)); refine kinds_put (by (simp only [Act.put, List.setIfInBounds_toArray, List.set_cons_succ, List.set_cons_zero]; try rfl)) ?_)
  (refine kind_firm (v := ?_) rfl ?_ ?_; rotate_left; (focus (intro K w' hg hK; go_simp; refine Calls.mono (reduce_any b (mulN x r2) m r2 _ (kM.drew.after hg) hm ho (lt_mulR m x r2 h hr)) ?_; rintro e w'' ⟨rfl, hb⟩; refine ⟨_, rfl, ?_⟩; exact hK _ hb)); refine kinds_put (by (simp only [Act.put, List.setIfInBounds_toArray, List.set_cons_succ, List.set_cons_zero]; try rfl)) ?_)
  refine kind_end ?_
  intro w4 h4
  replace kq := kq.drew.after h4
  replace bw := below_call h4 bw.drew
  obtain ⟨kq_c, kq_f, kq_l, kq_m, _⟩ := kq.knows
  clear h4
  go_wp2
  have kf := (kq.put4 (.int .u64 (lb (redN m (mulN x r2)) 0)) (.int .u64 (lb (redN m (mulN x r2)) 1)) (.int .u64 (lb (redN m (mulN x r2)) 2)) (.int .u64 (lb (redN m (mulN x r2)) 3))).knows
  obtain ⟨kf_c, kf_f, kf_l, _⟩ := kf
  refine bodyPost_ret (v := .tuple #[num (redN m (mulN x r2)), .int .i64 0]) (by simp [results, Try.results44, go_sem, kf_c, kf_l]) rfl ?_
  exact ⟨rfl, by go_grown⟩
set_option maxHeartbeats 2000000 in
theorem mfrom_no (x : Nat) (hx : x < RR) (h : ¬ x < m) : Calls Try.prog 47 #[.pointer (some ⟨b, 0, none⟩), num x] w fun e w' => e = .returned (.tuple #[num 0, .int .i64 1]) ∧ Below w.heap.size w w' := by
  rw [num_zero]
  go_enter Try.func47, Try.ntmps47
  go_wp2_with fail; (with_reducible refine (below_any b _ x m r2 (ivN m) false _ (hM.below (by go_grown)) ((Blk.newAt (n := w.heap.size) _ _ _ rfl).alloc _) hx hm (decide_eq_false h)).mono ?_); rintro e w1 ⟨rfl, h1⟩; have kx := ((Blk.newAt (n := w.heap.size) _ _ _ (by first | rfl | simp)).alloc _).after h1; have kq := (Blk.newAt (n := w.heap.size + 1) _ _ _ (by first | rfl | simp)).after h1; have bw := below_call h1 (w := w) (by go_grown); obtain ⟨kx_c, kx_f, kx_l, kx_m, _⟩ := kx.knows; obtain ⟨kq_c, kq_f, kq_l, kq_m, _⟩ := kq.knows
  go_wp2
  have kf := (kq.put4 (.int .u64 0) (.int .u64 0) (.int .u64 0) (.int .u64 0)).knows
  obtain ⟨kf_c, kf_f, kf_l, _⟩ := kf
  refine bodyPost_ret (v := .tuple #[zeroV, .int .i64 1]) (by simp [results, Try.results47, go_sem, kf_c, kf_l]) rfl ?_
  exact ⟨rfl, by go_grown⟩
set_option maxHeartbeats 2000000 in
theorem mfrom_yes (x : Nat) (hx : x < RR) (ho : m % 2 = 1) (h : x < m) : Calls Try.prog 47 #[.pointer (some ⟨b, 0, none⟩), num x] w fun e w' => e = .returned (.tuple #[num (redN m x), .int .i64 0]) ∧ Below w.heap.size w w' := by
  have hw := wide_num x hx
  go_enter Try.func47, Try.ntmps47
  go_wp2_with fail; (with_reducible refine (below_any b _ x m r2 (ivN m) true _ (hM.below (by go_grown)) ((Blk.newAt (n := w.heap.size) _ _ _ rfl).alloc _) hx hm (decide_eq_true h)).mono ?_); rintro e w1 ⟨rfl, h1⟩; have kx := ((Blk.newAt (n := w.heap.size) _ _ _ (by first | rfl | simp)).alloc _).after h1; have kq := (Blk.newAt (n := w.heap.size + 1) _ _ _ (by first | rfl | simp)).after h1; have bw := below_call h1 (w := w) (by go_grown); obtain ⟨kx_c, kx_f, kx_l, kx_m, _⟩ := kx.knows; obtain ⟨kq_c, kq_f, kq_l, kq_m, _⟩ := kq.knows
  go_wp2_with fail
  (with_reducible refine (reduce_any b x m r2 _ (hM.below bw) hm ho (Nat.lt_of_lt_of_le h (Nat.le_mul_of_pos_right m (by unfold RR; decide)))).mono ?_)
  rintro e w4 ⟨rfl, h4⟩
  clear kx_c kx_f kx_l kx_m kq_c kq_f kq_l kq_m
  replace kq := kq.after h4
  replace bw := below_call h4 bw
  obtain ⟨kq_c, kq_f, kq_l, kq_m, _⟩ := kq.knows
  go_wp2
  have kf := (kq.put4 (.int .u64 (lb (redN m x) 0)) (.int .u64 (lb (redN m x) 1)) (.int .u64 (lb (redN m x) 2)) (.int .u64 (lb (redN m x) 3))).knows
  obtain ⟨kf_c, kf_f, kf_l, _⟩ := kf
  refine bodyPost_ret (v := .tuple #[num (redN m x), .int .i64 0]) (by simp [results, Try.results47, go_sem, kf_c, kf_l]) rfl ?_
  exact ⟨rfl, by go_grown⟩
end
end Go.Proofs.Ytlibfjemdiochaa
