/- limb's Montgomery way: the step, and which numbers are below the modulus. limb's Montgomery way: products, to it and from it. limb's Montgomery way: it is made. -/
import Derived.Test.YtbmokmkaebfneaaM4
import Derived.Test.YtbmokmkaebfneaaK2
import Derived.Test.YtbmokmkaebfneaaO
import Derived.Test.YtbmokmkaebfneaaC
import Derived.Test.YtbmokmkaebfneaaA
import Derived.Test.YtbmokmkaebfneaaE
namespace Go.Proofs.Ytbmokmkaebfneaa
set_option linter.unusedVariables false
set_option linter.unusedSimpArgs false
open Go.RowKit

theorem red_pick (x m : Nat) (hm : m < RR) (ho : m % 2 = 1) (hx : x < m * 18446744073709551616 ^ 4) :
    selN (bits .or .u64 (tp x m (ivN m) 4) (1 - bo (rr x m (ivN m)) m 4)) (subN (rr x m (ivN m)) m) (rr x m (ivN m)) = redN m x := by
  obtain ⟨s1, s2⟩ := step_is x m (ivN m) (ivN_ok m ho) (by omega) hx
  have hv := vvD_mod x m (ivN m) 4
  have h8 : vvD x m (ivN m) 4 / 18446744073709551616 ^ 8 = vvD x m (ivN m) 4 / 18446744073709551616 ^ 4 / RR := by
    rw [RR_pow, Nat.div_div_eq_div_mul, ← Nat.pow_add]
  have ht : tp x m (ivN m) 4 = ((vvD x m (ivN m) 4 / 18446744073709551616 ^ 4 / RR : Nat) : Int) := by rw [tp_def, h8]
  have hr : rr x m (ivN m) = vvD x m (ivN m) 4 / 18446744073709551616 ^ 4 % RR := rr_def _ _ _
  rw [← s1] at hv
  have hrl := rr_lt x m (ivN m)
  have hl := tp_lo x m (ivN m) 4
  have hu := tp_le x m (ivN m) hm hx 4 (by omega)
  have b0 := bo_lo (rr x m (ivN m)) m 4
  have b1 := bo_hi (rr x m (ivN m)) m 4
  have op := or_parity (tp x m (ivN m) 4) (bo (rr x m (ivN m)) m 4) (by omega) (by omega)
  have hF := redN_unique m x (vvD x m (ivN m) 4 / 18446744073709551616 ^ 4 % m) ho (Nat.mod_lt _ (by omega)) (by rw [Nat.mod_mul_mod, RR_pow]; exact hv)
  rw [← hF]
  generalize vvD x m (ivN m) 4 / 18446744073709551616 ^ 4 = F at *
  refine final_sub F (F / RR) _ m hm s2 hrl ?_ _ rfl _ ?_
  · rw [hr, Nat.mul_comm]; exact (Nat.div_add_mod F RR).symm
  · rw [op, ht]
    by_cases c : F / RR = 1
    · rw [if_pos (by omega), if_pos c]
    · rw [if_neg (by omega), if_neg c]
theorem reduce_any (b x m r2 : Nat) (w : World) (hM : MontB w b m r2 (ivN m)) (hm : m < RR) (ho : m % 2 = 1) (hx : x < m * RR) :
    Calls Try.prog 96 #[.pointer (some ⟨b, 0, none⟩), wide x] w fun e w' => e = .returned (num (redN m x)) ∧ Below w.heap.size w w' := by
  rw [RR_pow] at hx
  have hx8 : x < 18446744073709551616 ^ 8 := by
    have h2 : m * 18446744073709551616 ^ 4 ≤ 18446744073709551616 ^ 4 * 18446744073709551616 ^ 4 := Nat.mul_le_mul_right _ (by rw [RR_pow] at hm; exact Nat.le_of_lt hm)
    rw [← Nat.pow_add] at h2
    exact Nat.lt_of_lt_of_le hx h2
  have h := reduce_walk b x m r2 (ivN m) w hM hm (ivN_lt m) hx8 (tp_le x m (ivN m) hm hx)
  rw [red_pick x m hm ho hx] at h
  exact h
set_option maxHeartbeats 2000000 in
theorem below_any (b g a m r2 iv : Nat) (t : Bool) (w : World) (hM : MontB w b m r2 iv) (kg : Blk w g 24 #[.int .u64 (lb (a) 0), .int .u64 (lb (a) 1), .int .u64 (lb (a) 2), .int .u64 (lb (a) 3)]) (ha : a < RR) (hm : m < RR) (ht : decide (a < m) = t) :
    Calls Try.prog 95 #[.pointer (some ⟨b, 0, none⟩), .pointer (some ⟨g, 0, none⟩)] w fun e w' => e = .returned (.bool t) ∧ Below w.heap.size w w' := by
  have kM : Blk w b 136 #[.int .u64 (lb (m) 0), .int .u64 (lb (m) 1), .int .u64 (lb (m) 2), .int .u64 (lb (m) 3), .int .u64 (lb (r2) 0), .int .u64 (lb (r2) 1), .int .u64 (lb (r2) 2), .int .u64 (lb (r2) 3), .int .u64 (lb (iv) 0)] := hM
  have hb1 : (bo a m 4 == 1) = t := by
    rw [← ht, bo_four a m ha hm]
    by_cases h : a < m
    · rw [if_pos h]; simp [h]
    · rw [if_neg h]; simp [h]
  go_enter Try.func95, Try.ntmps95
  go_wp2
  refine wp_region_kinds [12] 13 [(0, 0), (1, 0), (2, 0), (3, 0), (4, 0), (5, 0), (6, 0), (7, 0), (8, 1), (9, 1), (10, 1), (11, 2), (12, 2)] (by kernel_rfl) (by kernel_rfl) ?_
  (refine kind_firm (v := ?_) rfl ?_ ?_; rotate_left; (focus (intro K w' hg hK; go_simp; exact hK _ (Grow.refl _))); refine kinds_put (by (simp only [Act.put, List.setIfInBounds_toArray, List.set_cons_succ, List.set_cons_zero]; try rfl)) ?_)
  (refine kind_firm (v := ?_) rfl ?_ ?_; rotate_left; (focus (intro K w' hg hK; go_simp; exact hK _ (Grow.refl _))); refine kinds_put (by (simp only [Act.put, List.setIfInBounds_toArray, List.set_cons_succ, List.set_cons_zero]; try rfl)) ?_)
  (refine kind_firm (v := ?_) rfl ?_ ?_; rotate_left; (focus (intro K w' hg hK; have hc1 := (kg.drew.after hg).cell; go_simp; exact hK _ (Grow.refl _))); refine kinds_put (by (simp only [Act.put, List.setIfInBounds_toArray, List.set_cons_succ, List.set_cons_zero]; try rfl)) ?_)
  (refine kind_firm (v := ?_) rfl ?_ ?_; rotate_left; (focus (intro K w' hg hK; go_simp; exact hK _ (Grow.refl _))); refine kinds_put (by (simp only [Act.put, List.setIfInBounds_toArray, List.set_cons_succ, List.set_cons_zero]; try rfl)) ?_)
  (refine kind_firm (v := ?_) rfl ?_ ?_; rotate_left; (focus (intro K w' hg hK; go_simp; exact hK _ (Grow.refl _))); refine kinds_put (by (simp only [Act.put, List.setIfInBounds_toArray, List.set_cons_succ, List.set_cons_zero]; try rfl)) ?_)
  (refine kind_firm (v := ?_) rfl ?_ ?_; rotate_left; (focus (intro K w' hg hK; go_simp; exact hK _ (Grow.refl _))); refine kinds_put (by (simp only [Act.put, List.setIfInBounds_toArray, List.set_cons_succ, List.set_cons_zero]; try rfl)) ?_)
  (refine kind_firm (v := ?_) rfl ?_ ?_; rotate_left; (focus (intro K w' hg hK; have hc1 := (kM.drew.after hg).cell; go_simp; exact hK _ (Grow.refl _))); refine kinds_put (by (simp only [Act.put, List.setIfInBounds_toArray, List.set_cons_succ, List.set_cons_zero]; try rfl)) ?_)
  (refine kind_firm (v := ?_) rfl ?_ ?_; rotate_left; (focus (intro K w' hg hK; go_simp; refine Calls.mono (sub_any a m hm _) ?_; rintro e w'' ⟨rfl, hb⟩; refine ⟨_, rfl, ?_⟩; exact hK _ hb)); refine kinds_put (by (simp only [Act.put, List.setIfInBounds_toArray, List.set_cons_succ, List.set_cons_zero]; try rfl)) ?_)
  (refine kind_pure (v := ?_) rfl ?_ ?_; rotate_left; (focus (intro K w' hK; go_simp; exact hK)); refine kinds_put (by (simp only [Act.put, List.setIfInBounds_toArray, List.set_cons_succ, List.set_cons_zero]; try rfl)) ?_)
  (refine kind_pure (v := ?_) rfl ?_ ?_; rotate_left; (focus (intro K w' hK; go_simp; exact hK)); refine kinds_put (by (simp only [Act.put, List.setIfInBounds_toArray, List.set_cons_succ, List.set_cons_zero]; try rfl)) ?_)
  (refine kind_pure (v := ?_) rfl ?_ ?_; rotate_left; (focus (intro K w' hK; go_simp; exact hK)); refine kinds_put (by (simp only [Act.put, List.setIfInBounds_toArray, List.set_cons_succ, List.set_cons_zero]; try rfl)) ?_)
  (refine kind_loose rfl ?_; intro K wa1 ga1 hK; go_simp; refine hK _ _ (grow_alloc _ _) ?_; clear hK K)
  (refine kind_store rfl rfl ?_; intro K wb1 gb1 hK; have hs := new_num gb1; have sc := hs.cell; have sf := hs.frozen; go_simp; refine hK _ _ ?_; clear hK K)
  refine kind_end ?_
  intro w6 h6
  have bw : Below w.heap.size w w6 := put_below _ _ _ _ (Below.refl w.heap.size w).drew (Nat.le_refl _) ga1 gb1 h6
  clear h6 sc sf hs gb1 ga1
  go_wp2
  go_ret
  exact ⟨rfl, bw⟩
end Go.Proofs.Ytbmokmkaebfneaa
namespace Go.Proofs.Ytbmokmkaebfneaa
set_option linter.unusedVariables false
set_option linter.unusedSimpArgs false
open Go.RowKit

theorem lt_mulR (m a b : Nat) (ha : a < m) (hb : b < RR) : mulN a b < m * RR := by
  rw [mulN_def]; exact Nat.mul_lt_mul_of_lt_of_le ha (Nat.le_of_lt hb) (by unfold RR; decide)
theorem wide_num (x : Nat) (hx : x < RR) : (.agg #[.int .u64 (lb x 0), .int .u64 (lb x 1), .int .u64 (lb x 2), .int .u64 (lb x 3), .int .u64 0, .int .u64 0, .int .u64 0, .int .u64 0] : Value) = wide x := by
  have h : ∀ j, 4 ≤ j → lb x j = 0 := fun j hj => by rw [lb_def, lbN_high x j hx hj]; rfl
  unfold wide
  rw [h 4 (by omega), h 5 (by omega), h 6 (by omega), h 7 (by omega)]
section
variable (b m r2 : Nat) (w : World) (hM : MontB w b m r2 (ivN m)) (hm : m < RR)
include hM hm
set_option maxHeartbeats 2000000 in
theorem mmul_nox (x y : Nat) (hx : x < RR) (h : ¬ x < m) : Calls Try.prog 89 #[.pointer (some ⟨b, 0, none⟩), num x, num y] w fun e w' => e = .returned (.tuple #[num 0, .int .i64 1]) ∧ Below w.heap.size w w' := by
  rw [num_zero]
  go_enter Try.func89, Try.ntmps89
  go_wp2_with fail; (with_reducible refine (below_any b _ x m r2 (ivN m) false _ (hM.below (by go_grown)) (((Blk.newAt (n := w.heap.size) _ _ _ rfl).alloc _).alloc _) hx hm (decide_eq_false h)).mono ?_); rintro e w1 ⟨rfl, h1⟩; have kx := (((Blk.newAt (n := w.heap.size) _ _ _ (by first | rfl | simp)).alloc _).alloc _).after h1; have ky := ((Blk.newAt (n := w.heap.size + 1) _ _ _ (by first | rfl | simp)).alloc _).after h1; have kq := (Blk.newAt (n := w.heap.size + 1 + 1) _ _ _ (by first | rfl | simp)).after h1; have bw := below_call h1 (w := w) (by go_grown); obtain ⟨kx_c, kx_f, kx_l, kx_m, _⟩ := kx.knows; obtain ⟨ky_c, ky_f, ky_l, ky_m, _⟩ := ky.knows; obtain ⟨kq_c, kq_f, kq_l, kq_m, _⟩ := kq.knows
  go_wp2
  have kf := (kq.put4 (.int .u64 0) (.int .u64 0) (.int .u64 0) (.int .u64 0)).knows
  obtain ⟨kf_c, kf_f, kf_l, _⟩ := kf
  refine bodyPost_ret (v := .tuple #[zeroV, .int .i64 1]) (by simp [results, Try.results89, go_sem, kf_c, kf_l]) rfl ?_
  exact ⟨rfl, by go_grown⟩
set_option maxHeartbeats 2000000 in
theorem mmul_noy (x y : Nat) (hx : x < RR) (hy : y < RR) (h : x < m) (h' : ¬ y < m) : Calls Try.prog 89 #[.pointer (some ⟨b, 0, none⟩), num x, num y] w fun e w' => e = .returned (.tuple #[num 0, .int .i64 1]) ∧ Below w.heap.size w w' := by
  rw [num_zero]
  go_enter Try.func89, Try.ntmps89
  go_wp2_with fail; (with_reducible refine (below_any b _ x m r2 (ivN m) true _ (hM.below (by go_grown)) (((Blk.newAt (n := w.heap.size) _ _ _ rfl).alloc _).alloc _) hx hm (decide_eq_true h)).mono ?_); rintro e w1 ⟨rfl, h1⟩; have kx := (((Blk.newAt (n := w.heap.size) _ _ _ (by first | rfl | simp)).alloc _).alloc _).after h1; have ky := ((Blk.newAt (n := w.heap.size + 1) _ _ _ (by first | rfl | simp)).alloc _).after h1; have kq := (Blk.newAt (n := w.heap.size + 1 + 1) _ _ _ (by first | rfl | simp)).after h1; have bw := below_call h1 (w := w) (by go_grown); obtain ⟨kx_c, kx_f, kx_l, kx_m, _⟩ := kx.knows; obtain ⟨ky_c, ky_f, ky_l, ky_m, _⟩ := ky.knows; obtain ⟨kq_c, kq_f, kq_l, kq_m, _⟩ := kq.knows
  go_wp2_with fail; (with_reducible refine (below_any b _ y m r2 (ivN m) false _ (hM.below bw) (ky) hy hm (decide_eq_false h')).mono ?_); rintro e w2 ⟨rfl, h2⟩; clear kx_c kx_f kx_l kx_m ky_c ky_f ky_l ky_m kq_c kq_f kq_l kq_m; (first | replace kx := kx.after h2 | replace kx := (kx.alloc _).after h2 | replace kx := ((kx.alloc _).alloc _).after h2 | replace kx := kx.drew.after h2 | replace kx := (kx.alloc _).drew.after h2 | replace kx := (kx.drew.alloc _).after h2); (first | replace ky := ky.after h2 | replace ky := (ky.alloc _).after h2 | replace ky := ((ky.alloc _).alloc _).after h2 | replace ky := ky.drew.after h2 | replace ky := (ky.alloc _).drew.after h2 | replace ky := (ky.drew.alloc _).after h2); (first | replace kq := kq.after h2 | replace kq := (kq.alloc _).after h2 | replace kq := ((kq.alloc _).alloc _).after h2 | replace kq := kq.drew.after h2 | replace kq := (kq.alloc _).drew.after h2 | replace kq := (kq.drew.alloc _).after h2); have bwsz := Below.size bw; replace bw := below_call h2 (w := w) (by go_grown); clear h2 bwsz; obtain ⟨kx_c, kx_f, kx_l, kx_m, _⟩ := kx.knows; obtain ⟨ky_c, ky_f, ky_l, ky_m, _⟩ := ky.knows; obtain ⟨kq_c, kq_f, kq_l, kq_m, _⟩ := kq.knows
  go_wp2
  have kf := (kq.put4 (.int .u64 0) (.int .u64 0) (.int .u64 0) (.int .u64 0)).knows
  obtain ⟨kf_c, kf_f, kf_l, _⟩ := kf
  refine bodyPost_ret (v := .tuple #[zeroV, .int .i64 1]) (by simp [results, Try.results89, go_sem, kf_c, kf_l]) rfl ?_
  exact ⟨rfl, by go_grown⟩
set_option maxHeartbeats 2000000 in
theorem mmul_yes (x y : Nat) (hx : x < RR) (hy : y < RR) (ho : m % 2 = 1) (h : x < m) (h' : y < m) : Calls Try.prog 89 #[.pointer (some ⟨b, 0, none⟩), num x, num y] w fun e w' => e = .returned (.tuple #[num (redN m (mulN x y)), .int .i64 0]) ∧ Below w.heap.size w w' := by
  go_enter Try.func89, Try.ntmps89
  go_wp2_with fail; (with_reducible refine (below_any b _ x m r2 (ivN m) true _ (hM.below (by go_grown)) (((Blk.newAt (n := w.heap.size) _ _ _ rfl).alloc _).alloc _) hx hm (decide_eq_true h)).mono ?_); rintro e w1 ⟨rfl, h1⟩; have kx := (((Blk.newAt (n := w.heap.size) _ _ _ (by first | rfl | simp)).alloc _).alloc _).after h1; have ky := ((Blk.newAt (n := w.heap.size + 1) _ _ _ (by first | rfl | simp)).alloc _).after h1; have kq := (Blk.newAt (n := w.heap.size + 1 + 1) _ _ _ (by first | rfl | simp)).after h1; have bw := below_call h1 (w := w) (by go_grown); obtain ⟨kx_c, kx_f, kx_l, kx_m, _⟩ := kx.knows; obtain ⟨ky_c, ky_f, ky_l, ky_m, _⟩ := ky.knows; obtain ⟨kq_c, kq_f, kq_l, kq_m, _⟩ := kq.knows
  go_wp2_with fail; (with_reducible refine (below_any b _ y m r2 (ivN m) true _ (hM.below bw) (ky) hy hm (decide_eq_true h')).mono ?_); rintro e w2 ⟨rfl, h2⟩; clear kx_c kx_f kx_l kx_m ky_c ky_f ky_l ky_m kq_c kq_f kq_l kq_m; (first | replace kx := kx.after h2 | replace kx := (kx.alloc _).after h2 | replace kx := ((kx.alloc _).alloc _).after h2 | replace kx := kx.drew.after h2 | replace kx := (kx.alloc _).drew.after h2 | replace kx := (kx.drew.alloc _).after h2); (first | replace ky := ky.after h2 | replace ky := (ky.alloc _).after h2 | replace ky := ((ky.alloc _).alloc _).after h2 | replace ky := ky.drew.after h2 | replace ky := (ky.alloc _).drew.after h2 | replace ky := (ky.drew.alloc _).after h2); (first | replace kq := kq.after h2 | replace kq := (kq.alloc _).after h2 | replace kq := ((kq.alloc _).alloc _).after h2 | replace kq := kq.drew.after h2 | replace kq := (kq.alloc _).drew.after h2 | replace kq := (kq.drew.alloc _).after h2); have bwsz := Below.size bw; replace bw := below_call h2 (w := w) (by go_grown); clear h2 bwsz; obtain ⟨kx_c, kx_f, kx_l, kx_m, _⟩ := kx.knows; obtain ⟨ky_c, ky_f, ky_l, ky_m, _⟩ := ky.knows; obtain ⟨kq_c, kq_f, kq_l, kq_m, _⟩ := kq.knows
  go_wp2_with fail; (with_reducible refine (mul_any x y hx hy _).mono ?_); rintro e w3 ⟨rfl, h3⟩; clear kx_c kx_f kx_l kx_m ky_c ky_f ky_l ky_m kq_c kq_f kq_l kq_m; (first | replace kx := kx.after h3 | replace kx := (kx.alloc _).after h3 | replace kx := ((kx.alloc _).alloc _).after h3 | replace kx := kx.drew.after h3 | replace kx := (kx.alloc _).drew.after h3 | replace kx := (kx.drew.alloc _).after h3); (first | replace ky := ky.after h3 | replace ky := (ky.alloc _).after h3 | replace ky := ((ky.alloc _).alloc _).after h3 | replace ky := ky.drew.after h3 | replace ky := (ky.alloc _).drew.after h3 | replace ky := (ky.drew.alloc _).after h3); (first | replace kq := kq.after h3 | replace kq := (kq.alloc _).after h3 | replace kq := ((kq.alloc _).alloc _).after h3 | replace kq := kq.drew.after h3 | replace kq := (kq.alloc _).drew.after h3 | replace kq := (kq.drew.alloc _).after h3); have bwsz := Below.size bw; replace bw := below_call h3 (w := w) (by go_grown); clear h3 bwsz; obtain ⟨kx_c, kx_f, kx_l, kx_m, _⟩ := kx.knows; obtain ⟨ky_c, ky_f, ky_l, ky_m, _⟩ := ky.knows; obtain ⟨kq_c, kq_f, kq_l, kq_m, _⟩ := kq.knows
  go_wp2_with fail; (with_reducible refine (reduce_any b (mulN x y) m r2 _ (hM.below bw) hm ho (lt_mulR m x y h hy)).mono ?_); rintro e w4 ⟨rfl, h4⟩; clear kx_c kx_f kx_l kx_m ky_c ky_f ky_l ky_m kq_c kq_f kq_l kq_m; (first | replace kx := kx.after h4 | replace kx := (kx.alloc _).after h4 | replace kx := ((kx.alloc _).alloc _).after h4 | replace kx := kx.drew.after h4 | replace kx := (kx.alloc _).drew.after h4 | replace kx := (kx.drew.alloc _).after h4); (first | replace ky := ky.after h4 | replace ky := (ky.alloc _).after h4 | replace ky := ((ky.alloc _).alloc _).after h4 | replace ky := ky.drew.after h4 | replace ky := (ky.alloc _).drew.after h4 | replace ky := (ky.drew.alloc _).after h4); (first | replace kq := kq.after h4 | replace kq := (kq.alloc _).after h4 | replace kq := ((kq.alloc _).alloc _).after h4 | replace kq := kq.drew.after h4 | replace kq := (kq.alloc _).drew.after h4 | replace kq := (kq.drew.alloc _).after h4); have bwsz := Below.size bw; replace bw := below_call h4 (w := w) (by go_grown); clear h4 bwsz; obtain ⟨kx_c, kx_f, kx_l, kx_m, _⟩ := kx.knows; obtain ⟨ky_c, ky_f, ky_l, ky_m, _⟩ := ky.knows; obtain ⟨kq_c, kq_f, kq_l, kq_m, _⟩ := kq.knows
  go_wp2
  have kf := (kq.put4 (.int .u64 (lb (redN m (mulN x y)) 0)) (.int .u64 (lb (redN m (mulN x y)) 1)) (.int .u64 (lb (redN m (mulN x y)) 2)) (.int .u64 (lb (redN m (mulN x y)) 3))).knows
  obtain ⟨kf_c, kf_f, kf_l, _⟩ := kf
  refine bodyPost_ret (v := .tuple #[num (redN m (mulN x y)), .int .i64 0]) (by simp [results, Try.results89, go_sem, kf_c, kf_l]) rfl ?_
  exact ⟨rfl, by go_grown⟩
set_option maxHeartbeats 2000000 in
theorem mto_no (x : Nat) (hx : x < RR) (h : ¬ x < m) : Calls Try.prog 88 #[.pointer (some ⟨b, 0, none⟩), num x] w fun e w' => e = .returned (.tuple #[num 0, .int .i64 1]) ∧ Below w.heap.size w w' := by
  rw [num_zero]
  go_enter Try.func88, Try.ntmps88
  go_wp2_with fail; (with_reducible refine (below_any b _ x m r2 (ivN m) false _ (hM.below (by go_grown)) ((Blk.newAt (n := w.heap.size) _ _ _ rfl).alloc _) hx hm (decide_eq_false h)).mono ?_); rintro e w1 ⟨rfl, h1⟩; have kx := ((Blk.newAt (n := w.heap.size) _ _ _ (by first | rfl | simp)).alloc _).after h1; have kq := (Blk.newAt (n := w.heap.size + 1) _ _ _ (by first | rfl | simp)).after h1; have bw := below_call h1 (w := w) (by go_grown); obtain ⟨kx_c, kx_f, kx_l, kx_m, _⟩ := kx.knows; obtain ⟨kq_c, kq_f, kq_l, kq_m, _⟩ := kq.knows
  go_wp2
  have kf := (kq.put4 (.int .u64 0) (.int .u64 0) (.int .u64 0) (.int .u64 0)).knows
  obtain ⟨kf_c, kf_f, kf_l, _⟩ := kf
  refine bodyPost_ret (v := .tuple #[zeroV, .int .i64 1]) (by simp [results, Try.results88, go_sem, kf_c, kf_l]) rfl ?_
  exact ⟨rfl, by go_grown⟩
set_option maxHeartbeats 2000000 in
theorem mto_yes (x : Nat) (hx : x < RR) (ho : m % 2 = 1) (hr : r2 < RR) (h : x < m) : Calls Try.prog 88 #[.pointer (some ⟨b, 0, none⟩), num x] w fun e w' => e = .returned (.tuple #[num (redN m (mulN x r2)), .int .i64 0]) ∧ Below w.heap.size w w' := by
  go_enter Try.func88, Try.ntmps88
  go_wp2_with fail; (with_reducible refine (below_any b _ x m r2 (ivN m) true _ (hM.below (by go_grown)) ((Blk.newAt (n := w.heap.size) _ _ _ rfl).alloc _) hx hm (decide_eq_true h)).mono ?_); rintro e w1 ⟨rfl, h1⟩; have kx := ((Blk.newAt (n := w.heap.size) _ _ _ (by first | rfl | simp)).alloc _).after h1; have kq := (Blk.newAt (n := w.heap.size + 1) _ _ _ (by first | rfl | simp)).after h1; have bw := below_call h1 (w := w) (by go_grown); obtain ⟨kx_c, kx_f, kx_l, kx_m, _⟩ := kx.knows; obtain ⟨kq_c, kq_f, kq_l, kq_m, _⟩ := kq.knows
  clear kx_c kx_f kx_l kx_m kq_c kq_f kq_l kq_m
  have kM : Blk w1 b 136 #[.int .u64 (lb (m) 0), .int .u64 (lb (m) 1), .int .u64 (lb (m) 2), .int .u64 (lb (m) 3), .int .u64 (lb (r2) 0), .int .u64 (lb (r2) 1), .int .u64 (lb (r2) 2), .int .u64 (lb (r2) 3), .int .u64 (lb (ivN m) 0)] := hM.below bw
  go_upto_region 3 with (fail)
  refine wp_region_kinds [] 8 [(0, 0), (1, 0), (2, 0), (3, 0), (4, 0), (5, 0), (6, 0), (7, 0)] (by kernel_rfl) (by kernel_rfl) ?_
  (refine kind_firm (v := ?_) rfl ?_ ?_; rotate_left; (focus (intro K w' hg hK; go_simp; exact hK _ (Grow.refl _))); refine kinds_put (by (simp only [Act.put, List.setIfInBounds_toArray, List.set_cons_succ, List.set_cons_zero]; try rfl)) ?_)
  (refine kind_firm (v := ?_) rfl ?_ ?_; rotate_left; (focus (intro K w' hg hK; have hc1 := (kx.drew.after hg).cell; go_simp; exact hK _ (Grow.refl _))); refine kinds_put (by (simp only [Act.put, List.setIfInBounds_toArray, List.set_cons_succ, List.set_cons_zero]; try rfl)) ?_)
  (refine kind_firm (v := ?_) rfl ?_ ?_; rotate_left; (focus (intro K w' hg hK; go_simp; exact hK _ (Grow.refl _))); refine kinds_put (by (simp only [Act.put, List.setIfInBounds_toArray, List.set_cons_succ, List.set_cons_zero]; try rfl)) ?_)
  (refine kind_firm (v := ?_) rfl ?_ ?_; rotate_left; (focus (intro K w' hg hK; go_simp; exact hK _ (Grow.refl _))); refine kinds_put (by (simp only [Act.put, List.setIfInBounds_toArray, List.set_cons_succ, List.set_cons_zero]; try rfl)) ?_)
  (refine kind_firm (v := ?_) rfl ?_ ?_; rotate_left; (focus (intro K w' hg hK; go_simp; exact hK _ (Grow.refl _))); refine kinds_put (by (simp only [Act.put, List.setIfInBounds_toArray, List.set_cons_succ, List.set_cons_zero]; try rfl)) ?_)
  (refine kind_firm (v := ?_) rfl ?_ ?_; rotate_left; (focus (intro K w' hg hK; have hc1 := (kM.drew.after hg).cell; go_simp; exact hK _ (Grow.refl _))); refine kinds_put (by (simp only [Act.put, List.setIfInBounds_toArray, List.set_cons_succ, List.set_cons_zero]; try rfl)) ?_)
  (refine kind_firm (v := ?_) rfl ?_ ?_; rotate_left; (focus (intro K w' hg hK; go_simp; refine Calls.mono (mul_any x r2 hx hr _) ?_; rintro e w'' ⟨rfl, hb⟩; refine ⟨_, rfl, ?_⟩; exact hK _ hb)); refine kinds_put (by (simp only [Act.put, List.setIfInBounds_toArray, List.set_cons_succ, List.set_cons_zero]; try rfl)) ?_)
  (refine kind_firm (v := ?_) rfl ?_ ?_; rotate_left; (focus (intro K w' hg hK; go_simp; refine Calls.mono (reduce_any b (mulN x r2) m r2 _ (kM.drew.after hg) hm ho (lt_mulR m x r2 h hr)) ?_; rintro e w'' ⟨rfl, hb⟩; refine ⟨_, rfl, ?_⟩; exact hK _ hb)); refine kinds_put (by (simp only [Act.put, List.setIfInBounds_toArray, List.set_cons_succ, List.set_cons_zero]; try rfl)) ?_)
  refine kind_end ?_
  intro w4 h4
  replace kq := kq.drew.after h4
  replace bw := below_call h4 bw.drew
  obtain ⟨kq_c, kq_f, kq_l, kq_m, _⟩ := kq.knows
  clear h4
  go_wp2
  have kf := (kq.put4 (.int .u64 (lb (redN m (mulN x r2)) 0)) (.int .u64 (lb (redN m (mulN x r2)) 1)) (.int .u64 (lb (redN m (mulN x r2)) 2)) (.int .u64 (lb (redN m (mulN x r2)) 3))).knows
  obtain ⟨kf_c, kf_f, kf_l, _⟩ := kf
  refine bodyPost_ret (v := .tuple #[num (redN m (mulN x r2)), .int .i64 0]) (by simp [results, Try.results88, go_sem, kf_c, kf_l]) rfl ?_
  exact ⟨rfl, by go_grown⟩
set_option maxHeartbeats 2000000 in
theorem mfrom_no (x : Nat) (hx : x < RR) (h : ¬ x < m) : Calls Try.prog 91 #[.pointer (some ⟨b, 0, none⟩), num x] w fun e w' => e = .returned (.tuple #[num 0, .int .i64 1]) ∧ Below w.heap.size w w' := by
  rw [num_zero]
  go_enter Try.func91, Try.ntmps91
  go_wp2_with fail; (with_reducible refine (below_any b _ x m r2 (ivN m) false _ (hM.below (by go_grown)) ((Blk.newAt (n := w.heap.size) _ _ _ rfl).alloc _) hx hm (decide_eq_false h)).mono ?_); rintro e w1 ⟨rfl, h1⟩; have kx := ((Blk.newAt (n := w.heap.size) _ _ _ (by first | rfl | simp)).alloc _).after h1; have kq := (Blk.newAt (n := w.heap.size + 1) _ _ _ (by first | rfl | simp)).after h1; have bw := below_call h1 (w := w) (by go_grown); obtain ⟨kx_c, kx_f, kx_l, kx_m, _⟩ := kx.knows; obtain ⟨kq_c, kq_f, kq_l, kq_m, _⟩ := kq.knows
  go_wp2
  have kf := (kq.put4 (.int .u64 0) (.int .u64 0) (.int .u64 0) (.int .u64 0)).knows
  obtain ⟨kf_c, kf_f, kf_l, _⟩ := kf
  refine bodyPost_ret (v := .tuple #[zeroV, .int .i64 1]) (by simp [results, Try.results91, go_sem, kf_c, kf_l]) rfl ?_
  exact ⟨rfl, by go_grown⟩
set_option maxHeartbeats 2000000 in
theorem mfrom_yes (x : Nat) (hx : x < RR) (ho : m % 2 = 1) (h : x < m) : Calls Try.prog 91 #[.pointer (some ⟨b, 0, none⟩), num x] w fun e w' => e = .returned (.tuple #[num (redN m x), .int .i64 0]) ∧ Below w.heap.size w w' := by
  have hw := wide_num x hx
  go_enter Try.func91, Try.ntmps91
  go_wp2_with fail; (with_reducible refine (below_any b _ x m r2 (ivN m) true _ (hM.below (by go_grown)) ((Blk.newAt (n := w.heap.size) _ _ _ rfl).alloc _) hx hm (decide_eq_true h)).mono ?_); rintro e w1 ⟨rfl, h1⟩; have kx := ((Blk.newAt (n := w.heap.size) _ _ _ (by first | rfl | simp)).alloc _).after h1; have kq := (Blk.newAt (n := w.heap.size + 1) _ _ _ (by first | rfl | simp)).after h1; have bw := below_call h1 (w := w) (by go_grown); obtain ⟨kx_c, kx_f, kx_l, kx_m, _⟩ := kx.knows; obtain ⟨kq_c, kq_f, kq_l, kq_m, _⟩ := kq.knows
  go_wp2_with fail
  (with_reducible refine (reduce_any b x m r2 _ (hM.below bw) hm ho (Nat.lt_of_lt_of_le h (Nat.le_mul_of_pos_right m (by unfold RR; decide)))).mono ?_)
  rintro e w4 ⟨rfl, h4⟩
  clear kx_c kx_f kx_l kx_m kq_c kq_f kq_l kq_m
  replace kq := kq.after h4
  replace bw := below_call h4 bw
  obtain ⟨kq_c, kq_f, kq_l, kq_m, _⟩ := kq.knows
  go_wp2
  have kf := (kq.put4 (.int .u64 (lb (redN m x) 0)) (.int .u64 (lb (redN m x) 1)) (.int .u64 (lb (redN m x) 2)) (.int .u64 (lb (redN m x) 3))).knows
  obtain ⟨kf_c, kf_f, kf_l, _⟩ := kf
  refine bodyPost_ret (v := .tuple #[num (redN m x), .int .i64 0]) (by simp [results, Try.results91, go_sem, kf_c, kf_l]) rfl ?_
  exact ⟨rfl, by go_grown⟩
end
end Go.Proofs.Ytbmokmkaebfneaa
namespace Go.Proofs.Ytbmokmkaebfneaa
set_option linter.unusedVariables false
set_option linter.unusedSimpArgs false
open Go.RowKit

/-- R's square mod m. -/
theorem r2N_is : ∃ f : Nat → Nat, ∀ m, f m = RR * RR % m := ⟨fun m => RR * RR % m, fun _ => rfl⟩
noncomputable def r2N : Nat → Nat := Classical.choose r2N_is
theorem r2N_def (m : Nat) : r2N m = RR * RR % m := Classical.choose_spec r2N_is m
theorem r1N_is : ∃ f : Nat → Nat, ∀ m, f m = RR % m := ⟨fun m => RR % m, fun _ => rfl⟩
noncomputable def r1N : Nat → Nat := Classical.choose r1N_is
theorem r1N_def (m : Nat) : r1N m = RR % m := Classical.choose_spec r1N_is m
abbrev bigV : Value := .agg #[.int .u64 0, .int .u64 0, .int .u64 0, .int .u64 0, .int .u64 1, .int .u64 0, .int .u64 0, .int .u64 0]
theorem wide_R : wide RR = bigV := by
  have h : lb RR 0 = 0 ∧ lb RR 1 = 0 ∧ lb RR 2 = 0 ∧ lb RR 3 = 0 ∧ lb RR 4 = 1 ∧ lb RR 5 = 0 ∧ lb RR 6 = 0 ∧ lb RR 7 = 0 := by
    unfold RR; simp only [lb_def, lbN]; decide
  unfold wide bigV
  rw [h.1, h.2.1, h.2.2.1, h.2.2.2.1, h.2.2.2.2.1, h.2.2.2.2.2.1, h.2.2.2.2.2.2.1, h.2.2.2.2.2.2.2]
theorem mod_R (m : Nat) (hm : m < RR) (h0 : m ≠ 0) (w : World) : Calls Try.prog 82 #[bigV, num m] w fun e w' => e = .returned (.tuple #[num (r1N m), .int .i64 0]) ∧ Below w.heap.size w w' := by
  rw [← wide_R, r1N_def]
  exact mod_rest RR m (by unfold RR; decide) hm h0 w
theorem mod_R2 (m : Nat) (hm : m < RR) (h0 : m ≠ 0) (w : World) : Calls Try.prog 82 #[wide (mulN (r1N m) (r1N m)), num m] w fun e w' => e = .returned (.tuple #[num (r2N m), .int .i64 0]) ∧ Below w.heap.size w w' := by
  have hl : r1N m < RR := by rw [r1N_def]; exact Nat.lt_trans (Nat.mod_lt _ (by omega)) hm
  have h8 : mulN (r1N m) (r1N m) < 18446744073709551616 ^ 8 := by
    rw [mulN_def, show 18446744073709551616 ^ 8 = RR * RR from by unfold RR; decide]
    exact Nat.mul_lt_mul_of_lt_of_le hl (Nat.le_of_lt hl) (by unfold RR; decide)
  have h := mod_rest (mulN (r1N m) (r1N m)) m h8 hm h0 w
  have e : mulN (r1N m) (r1N m) % m = r2N m := by rw [mulN_def, r1N_def, r2N_def, ← Nat.mul_mod]
  rw [e] at h
  exact h
theorem newmont_even (m : Nat) (he : m % 2 = 0) (w : World) : Calls Try.prog 68 #[num m] w fun e w' => e = .returned (.tuple #[.pointer none, .int .i64 1]) ∧ Below w.heap.size w w' := by
  have h0 : bits .and .u64 (lb m 0) 1 = 0 := by
    rw [and_one_u64 _ (lb_lo _ _) (by have := lb_hi m 0; omega), lb_def, lb0]; omega
  go_enter Try.func68, Try.ntmps68
  go_wp2
  refine bodyPost_ret (v := .tuple #[.pointer none, .int .i64 1]) (by simp [results, Try.results68, go_sem]) rfl ?_
  exact ⟨rfl, by go_grown⟩
theorem newmont_one (w : World) : Calls Try.prog 68 #[num 1] w fun e w' => e = .returned (.tuple #[.pointer none, .int .i64 1]) ∧ Below w.heap.size w w' := by
  have he := eqin_same 1
  rw [num_one] at he ⊢
  have h0 : bits .and .u64 1 1 = 1 := rfl
  go_enter Try.func68, Try.ntmps68
  go_wp2
  refine bodyPost_ret (v := .tuple #[.pointer none, .int .i64 1]) (by simp [results, Try.results68, go_sem]) rfl ?_
  exact ⟨rfl, by go_grown⟩
theorem eqin_one_other {m : Nat} (hm : m < RR) (h : m ≠ 1) (w : World) : (Op.equalIn 10000 24 (num m) oneV).run Try.prog w = .ok false w := by
  rw [← num_one]; exact eqin_other hm (by unfold RR; omega) h w
def NewRel (m : Nat) (w : World) (s4 s20 : Value) (wr : World) : Prop := ∃ k : Nat, k ≤ 6 ∧ s20 = .int .i64 (k : Int) ∧ s4 = .int .u64 (nw m k) ∧ wr = w
set_option maxHeartbeats 2000000 in
theorem newmont_new (m : Nat) (hm : m < RR) (ho : m % 2 = 1) (h1 : m ≠ 1) (w : World) : Calls Try.prog 68 #[num m] w fun e w' => ∃ g, e = .returned (.tuple #[.pointer (some ⟨g, 0, none⟩), .int .i64 0]) ∧ MontB w' g m (r2N m) (ivN m) ∧ Below w.heap.size w w' ∧ w.heap.size ≤ g := by
  have h0 : bits .and .u64 (lb m 0) 1 = 1 := by
    rw [and_one_u64 _ (lb_lo _ _) (by have := lb_hi m 0; omega), lb_def, lb0]; omega
  have he := eqin_one_other hm h1
  have nz := nw_zero m
  go_enter Try.func68, Try.ntmps68
  go_wp2
  have ka := Blk.new w 24 #[.int .u64 (lb (m) 0), .int .u64 (lb (m) 1), .int .u64 (lb (m) 2), .int .u64 (lb (m) 3)]
  have bw : Below w.heap.size w (w.alloc (.cells #[.int .u64 (lb (m) 0), .int .u64 (lb (m) 1), .int .u64 (lb (m) 2), .int .u64 (lb (m) 3)] 24)) := by go_grown
  generalize w.alloc (.cells #[.int .u64 (lb (m) 0), .int .u64 (lb (m) 1), .int .u64 (lb (m) 2), .int .u64 (lb (m) 3)] 24) = W1 at *
  go_loopw [4, 20] (fun s4 s20 wr => NewRel m W1 s4 s20 wr) (fun _ s20 _ => 6 - (intOf s20).toNat)
  case atStart => exact ⟨0, by omega, rfl, by rw [nw_zero], rfl⟩
  case round =>
    unfold NewRel at hrel
    obtain ⟨k, hk, rfl, rfl, rfl⟩ := hrel
    obtain ⟨ka_c, ka_f, ka_l, ka_m, _⟩ := ka.knows
    by_cases hlt : k < 6
    · have hdt : decide ((k : Int) < 6) = true := by simp; omega
      have ns := nw_succ m k
      go_wp2
      exact ⟨⟨k + 1, by omega, by go_num, rfl, rfl⟩, by simp [intOf]; omega⟩
    · have h6 : k = 6 := by omega
      subst h6
      have hiv := ivN_lb m
      clear ka_c ka_f ka_l ka_m
      have ka0 := ka.knows
      obtain ⟨ka_c, ka_f, ka_l, ka_m, _⟩ := ka0
      go_wp2_with fail
      (with_reducible refine (mod_R m hm (by omega) _).mono ?_)
      rintro e w1 ⟨rfl, b1⟩
      clear ka_c ka_f ka_l ka_m
      replace ka := ka.after b1
      replace bw := below_call b1 bw
      go_upto_region 9 with (fail)
      have hl : r1N m < RR := by rw [r1N_def]; exact Nat.lt_trans (Nat.mod_lt _ (by omega)) hm
      have kr := Blk.new w1 24 #[.int .u64 (lb (r1N m) 0), .int .u64 (lb (r1N m) 1), .int .u64 (lb (r1N m) 2), .int .u64 (lb (r1N m) 3)]; replace ka := ka.alloc (.cells #[.int .u64 (lb (r1N m) 0), .int .u64 (lb (r1N m) 1), .int .u64 (lb (r1N m) 2), .int .u64 (lb (r1N m) 3)] 24); replace bw := bw.alloc bw.size (.cells #[.int .u64 (lb (r1N m) 0), .int .u64 (lb (r1N m) 1), .int .u64 (lb (r1N m) 2), .int .u64 (lb (r1N m) 3)] 24); generalize w1.heap.size = g_kr at *; generalize w1.alloc _ = W3 at *
      refine wp_region_kinds [9] 10 [(0, 0), (1, 0), (3, 0), (2, 0), (4, 0), (5, 1), (6, 1), (7, 1), (8, 2), (9, 2)] (by kernel_rfl) (by kernel_rfl) ?_
      (refine kind_firm (v := ?_) rfl ?_ ?_; rotate_left; (focus (intro K w' hg hK; have hc1 := (kr.drew.after hg).cell; go_simp; exact hK _ (Grow.refl _))); refine kinds_put (by (simp only [Act.put, List.setIfInBounds_toArray, List.set_cons_succ, List.set_cons_zero]; try rfl)) ?_)
      (refine kind_firm (v := ?_) rfl ?_ ?_; rotate_left; (focus (intro K w' hg hK; have hc1 := (kr.drew.after hg).cell; go_simp; exact hK _ (Grow.refl _))); refine kinds_put (by (simp only [Act.put, List.setIfInBounds_toArray, List.set_cons_succ, List.set_cons_zero]; try rfl)) ?_)
      (refine kind_firm (v := ?_) rfl ?_ ?_; rotate_left; (focus (intro K w' hg hK; have hc1 := (ka.drew.after hg).cell; go_simp; exact hK _ (Grow.refl _))); refine kinds_put (by (simp only [Act.put, List.setIfInBounds_toArray, List.set_cons_succ, List.set_cons_zero]; try rfl)) ?_)
      (refine kind_firm (v := ?_) rfl ?_ ?_; rotate_left; (focus (intro K w' hg hK; go_simp; refine Calls.mono (mul_any (r1N m) (r1N m) hl hl _) ?_; rintro e w'' ⟨rfl, hb⟩; refine ⟨_, rfl, ?_⟩; exact hK _ hb)); refine kinds_put (by (simp only [Act.put, List.setIfInBounds_toArray, List.set_cons_succ, List.set_cons_zero]; try rfl)) ?_)
      (refine kind_firm (v := ?_) rfl ?_ ?_; rotate_left; (focus (intro K w' hg hK; go_simp; refine Calls.mono (mod_R2 m hm (by omega) _) ?_; rintro e w'' ⟨rfl, hb⟩; refine ⟨_, rfl, ?_⟩; exact hK _ hb)); refine kinds_put (by (simp only [Act.put, List.setIfInBounds_toArray, List.set_cons_succ, List.set_cons_zero]; try rfl)) ?_)
      (refine kind_pure (v := ?_) rfl ?_ ?_; rotate_left; (focus (intro K w' hK; go_simp; exact hK)); refine kinds_put (by (simp only [Act.put, List.setIfInBounds_toArray, List.set_cons_succ, List.set_cons_zero]; try rfl)) ?_)
      (refine kind_pure (v := ?_) rfl ?_ ?_; rotate_left; (focus (intro K w' hK; go_simp; exact hK)); refine kinds_put (by (simp only [Act.put, List.setIfInBounds_toArray, List.set_cons_succ, List.set_cons_zero]; try rfl)) ?_)
      (refine kind_pure (v := ?_) rfl ?_ ?_; rotate_left; (focus (intro K w' hK; go_simp; exact hK)); refine kinds_put (by (simp only [Act.put, List.setIfInBounds_toArray, List.set_cons_succ, List.set_cons_zero]; try rfl)) ?_)
      (refine kind_loose rfl ?_; intro K wa1 ga1 hK; go_simp; refine hK _ _ (grow_alloc _ _) ?_; clear hK K)
      (refine kind_store rfl rfl ?_; intro K wb1 gb1 hK; have hs := new_num gb1; have sc := hs.cell; have sf := hs.frozen; go_simp; refine hK _ _ ?_; clear hK K)
      refine kind_end ?_
      intro w6 h6
      replace ka := put_num _ _ _ _ ka.drew ga1 gb1 h6
      have kp := put_new _ _ _ _ gb1 h6
      replace bw := put_below _ _ _ _ bw.drew bw.size ga1 gb1 h6
      obtain ⟨ka_c, ka_f, ka_l, ka_m, _⟩ := ka.knows
      obtain ⟨kp_c, kp_f, kp_l, kp_m, _⟩ := kp.knows
      clear sc sf hs h6 gb1 ga1
      go_wp2
      refine bodyPost_ret (v := .tuple #[.pointer (some ⟨w6.heap.size, 0, none⟩), .int .i64 0]) (by simp [results, Try.results68, go_sem]) rfl ?_
      exact ⟨_, rfl, Blk.new _ _ _, by go_grown, bw.size⟩
theorem newmont_any (m : Nat) (hm : m < RR) (ho : m % 2 = 1) (h1 : m ≠ 1) (w : World) : Calls Try.prog 68 #[num m] w fun e w' => ∃ g, e = .returned (.tuple #[.pointer (some ⟨g, 0, none⟩), .int .i64 0]) ∧ MontB w' g m (r2N m) (ivN m) ∧ Below w.heap.size w w' :=
  (newmont_new m hm ho h1 w).mono fun e w' ⟨g, a, b, c, _⟩ => ⟨g, a, b, c⟩
end Go.Proofs.Ytbmokmkaebfneaa
