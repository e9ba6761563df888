/- limb's Montgomery way: the step, and which numbers are below the modulus. -/
import Derived.Test.YtlibfjemdiochaaM4
import Derived.Test.YtlibfjemdiochaaK2
import Derived.Test.YtlibfjemdiochaaO2
namespace Go.Proofs.Ytlibfjemdiochaa
set_option linter.unusedVariables false
set_option linter.unusedSimpArgs false
open Go.RowKit

theorem red_pick (x m : Nat) (hm : m < RR) (ho : m % 2 = 1) (hx : x < m * 18446744073709551616 ^ 4) :
    selN (bits .or .u64 (tp x m (ivN m) 4) (1 - bo (rr x m (ivN m)) m 4)) (subN (rr x m (ivN m)) m) (rr x m (ivN m)) = redN m x := by
  obtain ⟨s1, s2⟩ := step_is x m (ivN m) (ivN_ok m ho) (by omega) hx
  have hv := vvD_mod x m (ivN m) 4
  have h8 : vvD x m (ivN m) 4 / 18446744073709551616 ^ 8 = vvD x m (ivN m) 4 / 18446744073709551616 ^ 4 / RR := by
    rw [RR_pow, Nat.div_div_eq_div_mul, ← Nat.pow_add]
  have ht : tp x m (ivN m) 4 = ((vvD x m (ivN m) 4 / 18446744073709551616 ^ 4 / RR : Nat) : Int) := by rw [tp_def, h8]
  have hr : rr x m (ivN m) = vvD x m (ivN m) 4 / 18446744073709551616 ^ 4 % RR := rr_def _ _ _
  rw [← s1] at hv
  have hrl := rr_lt x m (ivN m)
  have hl := tp_lo x m (ivN m) 4
  have hu := tp_le x m (ivN m) hm hx 4 (by omega)
  have b0 := bo_lo (rr x m (ivN m)) m 4
  have b1 := bo_hi (rr x m (ivN m)) m 4
  have op := or_parity (tp x m (ivN m) 4) (bo (rr x m (ivN m)) m 4) (by omega) (by omega)
  have hF := redN_unique m x (vvD x m (ivN m) 4 / 18446744073709551616 ^ 4 % m) ho (Nat.mod_lt _ (by omega)) (by rw [Nat.mod_mul_mod, RR_pow]; exact hv)
  rw [← hF]
  generalize vvD x m (ivN m) 4 / 18446744073709551616 ^ 4 = F at *
  refine final_sub F (F / RR) _ m hm s2 hrl ?_ _ rfl _ ?_
  · rw [hr, Nat.mul_comm]; exact (Nat.div_add_mod F RR).symm
  · rw [op, ht]
    by_cases c : F / RR = 1
    · rw [if_pos (by omega), if_pos c]
    · rw [if_neg (by omega), if_neg c]
theorem reduce_any (b x m r2 : Nat) (w : World) (hM : MontB w b m r2 (ivN m)) (hm : m < RR) (ho : m % 2 = 1) (hx : x < m * RR) :
    Calls Try.prog 72 #[.pointer (some ⟨b, 0, none⟩), wide x] w fun e w' => e = .returned (num (redN m x)) ∧ Below w.heap.size w w' := by
  rw [RR_pow] at hx
  have hx8 : x < 18446744073709551616 ^ 8 := by
    have h2 : m * 18446744073709551616 ^ 4 ≤ 18446744073709551616 ^ 4 * 18446744073709551616 ^ 4 := Nat.mul_le_mul_right _ (by rw [RR_pow] at hm; exact Nat.le_of_lt hm)
    rw [← Nat.pow_add] at h2
    exact Nat.lt_of_lt_of_le hx h2
  have h := reduce_walk b x m r2 (ivN m) w hM hm (ivN_lt m) hx8 (tp_le x m (ivN m) hm hx)
  rw [red_pick x m hm ho hx] at h
  exact h
set_option maxHeartbeats 2000000 in
theorem below_any (b g a m r2 iv : Nat) (t : Bool) (w : World) (hM : MontB w b m r2 iv) (kg : Blk w g 24 #[.int .u64 (lb (a) 0), .int .u64 (lb (a) 1), .int .u64 (lb (a) 2), .int .u64 (lb (a) 3)]) (ha : a < RR) (hm : m < RR) (ht : decide (a < m) = t) :
    Calls Try.prog 71 #[.pointer (some ⟨b, 0, none⟩), .pointer (some ⟨g, 0, none⟩)] w fun e w' => e = .returned (.bool t) ∧ Below w.heap.size w w' := by
  have kM : Blk w b 89 #[.int .u64 (lb (m) 0), .int .u64 (lb (m) 1), .int .u64 (lb (m) 2), .int .u64 (lb (m) 3), .int .u64 (lb (r2) 0), .int .u64 (lb (r2) 1), .int .u64 (lb (r2) 2), .int .u64 (lb (r2) 3), .int .u64 (lb (iv) 0)] := hM
  have hb1 : (bo a m 4 == 1) = t := by
    rw [← ht, bo_four a m ha hm]
    by_cases h : a < m
    · rw [if_pos h]; simp [h]
    · rw [if_neg h]; simp [h]
  go_enter Try.func71, Try.ntmps71
  go_wp2
  refine wp_region_kinds [12] 13 [(0, 0), (1, 0), (2, 0), (3, 0), (4, 0), (5, 0), (6, 0), (7, 0), (8, 1), (9, 1), (10, 1), (11, 2), (12, 2)] (by kernel_rfl) (by kernel_rfl) ?_
  (refine kind_firm (v := ?_) rfl ?_ ?_; rotate_left; (focus (intro K w' hg hK; go_simp; exact hK _ (Grow.refl _))); refine kinds_put (by (simp only [Act.put, List.setIfInBounds_toArray, List.set_cons_succ, List.set_cons_zero]; try rfl)) ?_)
  (refine kind_firm (v := ?_) rfl ?_ ?_; rotate_left; (focus (intro K w' hg hK; go_simp; exact hK _ (Grow.refl _))); refine kinds_put (by (simp only [Act.put, List.setIfInBounds_toArray, List.set_cons_succ, List.set_cons_zero]; try rfl)) ?_)
  (refine kind_firm (v := ?_) rfl ?_ ?_; rotate_left; (focus (intro K w' hg hK; have hc1 := (kg.drew.after hg).cell; go_simp; exact hK _ (Grow.refl _))); refine kinds_put (by (simp only [Act.put, List.setIfInBounds_toArray, List.set_cons_succ, List.set_cons_zero]; try rfl)) ?_)
  (refine kind_firm (v := ?_) rfl ?_ ?_; rotate_left; (focus (intro K w' hg hK; go_simp; exact hK _ (Grow.refl _))); refine kinds_put (by (simp only [Act.put, List.setIfInBounds_toArray, List.set_cons_succ, List.set_cons_zero]; try rfl)) ?_)
  (refine kind_firm (v := ?_) rfl ?_ ?_; rotate_left; (focus (intro K w' hg hK; go_simp; exact hK _ (Grow.refl _))); refine kinds_put (by (simp only [Act.put, List.setIfInBounds_toArray, List.set_cons_succ, List.set_cons_zero]; try rfl)) ?_)
  (refine kind_firm (v := ?_) rfl ?_ ?_; rotate_left; (focus (intro K w' hg hK; go_simp; exact hK _ (Grow.refl _))); refine kinds_put (by (simp only [Act.put, List.setIfInBounds_toArray, List.set_cons_succ, List.set_cons_zero]; try rfl)) ?_)
  (refine kind_firm (v := ?_) rfl ?_ ?_; rotate_left; (focus (intro K w' hg hK; have hc1 := (kM.drew.after hg).cell; go_simp; exact hK _ (Grow.refl _))); refine kinds_put (by (simp only [Act.put, List.setIfInBounds_toArray, List.set_cons_succ, List.set_cons_zero]; try rfl)) ?_)
  (refine kind_firm (v := ?_) rfl ?_ ?_; rotate_left; (focus (intro K w' hg hK; go_simp; refine Calls.mono (sub_any a m hm _) ?_; rintro e w'' ⟨rfl, hb⟩; refine ⟨_, rfl, ?_⟩; exact hK _ hb)); refine kinds_put (by (simp only [Act.put, List.setIfInBounds_toArray, List.set_cons_succ, List.set_cons_zero]; try rfl)) ?_)
  (refine kind_pure (v := ?_) rfl ?_ ?_; rotate_left; (focus (intro K w' hK; go_simp; exact hK)); refine kinds_put (by (simp only [Act.put, List.setIfInBounds_toArray, List.set_cons_succ, List.set_cons_zero]; try rfl)) ?_)
  (refine kind_pure (v := ?_) rfl ?_ ?_; rotate_left; (focus (intro K w' hK; go_simp; exact hK)); refine kinds_put (by (simp only [Act.put, List.setIfInBounds_toArray, List.set_cons_succ, List.set_cons_zero]; try rfl)) ?_)
  (refine kind_pure (v := ?_) rfl ?_ ?_; rotate_left; (focus (intro K w' hK; go_simp; exact hK)); refine kinds_put (by (simp only [Act.put, List.setIfInBounds_toArray, List.set_cons_succ, List.set_cons_zero]; try rfl)) ?_)
  (refine kind_loose rfl ?_; intro K wa1 ga1 hK; go_simp; refine hK _ _ (grow_alloc _ _) ?_; clear hK K)
  (refine kind_store rfl rfl ?_; intro K wb1 gb1 hK; have hs := new_num gb1; have sc := hs.cell; have sf := hs.frozen; go_simp; refine hK _ _ ?_; clear hK K)
  refine kind_end ?_
  intro w6 h6
  have bw : Below w.heap.size w w6 := put_below _ _ _ _ (Below.refl w.heap.size w).drew (Nat.le_refl _) ga1 gb1 h6
  clear h6 sc sf hs gb1 ga1
  go_wp2
  go_ret
  exact ⟨rfl, bw⟩
end Go.Proofs.Ytlibfjemdiochaa
