/- The two fields' inverses, roots, remainders and bytes. -/
import Derived.Test.YtlibfjemdiochaaFD
namespace Go.Proofs.Ytlibfjemdiochaa
set_option linter.unusedVariables false
set_option linter.unusedSimpArgs false
open Go.RowKit

abbrev twoNV : Value := .agg #[.int .u64 2, .int .u64 0, .int .u64 0, .int .u64 0]
theorem num_two : num 2 = twoNV := by
  have h : lb 2 0 = 2 ∧ lb 2 1 = 0 ∧ lb 2 2 = 0 ∧ lb 2 3 = 0 := by simp only [lb_def, lbN]; decide
  unfold num twoNV; rw [h.1, h.2.1, h.2.2.1, h.2.2.2]
theorem ieN_is : ∃ f : Bool → Nat, ∀ b, f b = pN b - 2 := ⟨fun b => pN b - 2, fun _ => rfl⟩
/-- An inverse's exponent. -/
noncomputable def ieN : Bool → Nat := Classical.choose ieN_is
theorem ieN_def (b : Bool) : ieN b = pN b - 2 := Classical.choose_spec ieN_is b
theorem ieN_lt (b : Bool) : ieN b < RR := by have := pN_lt b; rw [ieN_def]; omega
theorem sub_two (b : Bool) (w : World) : Calls Try.prog 48 #[num (pN b), twoNV] w fun e w' => e = .returned (.tuple #[num (ieN b), .int .u64 (bo (pN b) 2 4)]) ∧ Below w.heap.size w w' := by
  have h := sub_any (pN b) 2 (by unfold RR; omega) w
  have h1 := pN_lt b
  have h2 := pN_one b
  have e : subN (pN b) 2 = ieN b := by
    rw [subN_def, ieN_def, show pN b + RR - 2 = pN b - 2 + RR by omega, Nat.add_mod_right, Nat.mod_eq_of_lt (by omega)]
  rw [e, num_two] at h
  exact h
theorem frdN_is : ∃ f : Bool → Nat → Nat, ∀ b x, f b x = x % pN b := ⟨fun b x => x % pN b, fun _ _ => rfl⟩
/-- A remainder. -/
noncomputable def frdN : Bool → Nat → Nat := Classical.choose frdN_is
theorem frdN_def (b : Bool) (x : Nat) : frdN b x = x % pN b := Classical.choose_spec frdN_is b x
theorem frdN_lt (b : Bool) (x : Nat) : frdN b x < pN b := by rw [frdN_def]; exact Nat.mod_lt _ (pN_pos b)
theorem evN_is : ∃ f : Bool → Nat → Nat, ∀ b x, f b x = if x % 2 = 1 then fsbN b 0 x else x := ⟨fun b x => if x % 2 = 1 then fsbN b 0 x else x, fun _ _ => rfl⟩
/-- Of a number and its negative the even one. -/
noncomputable def evN : Bool → Nat → Nat := Classical.choose evN_is
theorem evN_def (b : Bool) (x : Nat) : evN b x = if x % 2 = 1 then fsbN b 0 x else x := Classical.choose_spec evN_is b x
theorem ev_pick (b : Bool) (x : Nat) : selN (lb x 0) (fsbN b 0 x) x = evN b x := by
  rw [selN_def, evN_def, lb_def, lb0]
  by_cases h : x % 2 = 1
  · rw [if_pos h, if_pos (by omega)]
  · rw [if_neg h, if_neg (by omega)]
theorem rt_nz : rtN true ≠ 0 := by rw [rtN_def]; decide
section
variable {base : Bool} {f g : Nat} {w : World} (hF : FieldB w f g base)
include hF
set_option maxHeartbeats 2000000 in
theorem finv_no (a : Nat) (ha : a < RR) (h : ¬ a < pN base) : Calls Try.prog 14 #[.pointer (some ⟨f, 0, none⟩), num a] w fun e w' => e = .returned (.tuple #[num 0, .int .i64 20]) ∧ Below w.heap.size w w' := by
  rw [num_zero]
  go_enter Try.func14, Try.ntmps14
  go_wp2_with fail; (with_reducible refine (check_out ((hF.alloc _).alloc _) a ha h).mono ?_); rintro e w1 ⟨rfl, h1⟩; have ka := ((Blk.newAt (n := w.heap.size) _ _ _ (by first | rfl | simp)).alloc _).after h1; have kq := (Blk.newAt (n := w.heap.size + 1) _ _ _ (by first | rfl | simp)).after h1; have bw := below_call h1 (w := w) (by go_grown); obtain ⟨ka_c, ka_f, ka_l, ka_m, _⟩ := ka.knows; obtain ⟨kq_c, kq_f, kq_l, kq_m, _⟩ := kq.knows
  go_wp2
  have kf := (kq.put4 (.int .u64 0) (.int .u64 0) (.int .u64 0) (.int .u64 0)).knows
  obtain ⟨kf_c, kf_f, kf_l, _⟩ := kf
  refine bodyPost_ret (v := .tuple #[zeroV, .int .i64 20]) (by simp [results, Try.results14, go_sem, kf_c, kf_l]) rfl ?_
  exact ⟨rfl, by go_grown⟩
set_option maxHeartbeats 2000000 in
theorem finv_zero : Calls Try.prog 14 #[.pointer (some ⟨f, 0, none⟩), num 0] w fun e w' => e = .returned (.tuple #[num 0, .int .i64 21]) ∧ Below w.heap.size w w' := by
  have he := eqin_zero_same
  have ci : ∀ w1, FieldB w1 f g base → Calls Try.prog 33 #[.pointer (some ⟨f, 0, none⟩), zeroV] w1 fun e w' => e = .returned (.int .i64 0) ∧ Below w1.heap.size w1 w' := by
    intro w1 h1; rw [← num_zero]; exact check_in h1 0 (pN_pos base)
  rw [num_zero] at he ⊢
  go_enter Try.func14, Try.ntmps14
  go_wp2_with fail; (with_reducible refine (ci _ ((hF.alloc _).alloc _)).mono ?_); rintro e w1 ⟨rfl, h1⟩; have ka := ((Blk.newAt (n := w.heap.size) _ _ _ (by first | rfl | simp)).alloc _).after h1; have kq := (Blk.newAt (n := w.heap.size + 1) _ _ _ (by first | rfl | simp)).after h1; have bw := below_call h1 (w := w) (by go_grown); obtain ⟨ka_c, ka_f, ka_l, ka_m, _⟩ := ka.knows; obtain ⟨kq_c, kq_f, kq_l, kq_m, _⟩ := kq.knows
  go_wp2
  have kf := (kq.put4 (.int .u64 0) (.int .u64 0) (.int .u64 0) (.int .u64 0)).knows
  obtain ⟨kf_c, kf_f, kf_l, _⟩ := kf
  refine bodyPost_ret (v := .tuple #[zeroV, .int .i64 21]) (by simp [results, Try.results14, go_sem, kf_c, kf_l]) rfl ?_
  exact ⟨rfl, by go_grown⟩
set_option maxHeartbeats 2000000 in
theorem finv_yes (a : Nat) (h : a < pN base) (h0 : a ≠ 0) : Calls Try.prog 14 #[.pointer (some ⟨f, 0, none⟩), num a] w fun e w' => e = .returned (.tuple #[num (fpwN base a (ieN base)), .int .i64 0]) ∧ Below w.heap.size w w' := by
  have he := eqin_zero_other (lt_RR h) h0
  go_enter Try.func14, Try.ntmps14
  go_wp2_with fail; (with_reducible refine (check_in ((hF.alloc _).alloc _) a h).mono ?_); rintro e w1 ⟨rfl, h1⟩; have ka := ((Blk.newAt (n := w.heap.size) _ _ _ (by first | rfl | simp)).alloc _).after h1; have kq := (Blk.newAt (n := w.heap.size + 1) _ _ _ (by first | rfl | simp)).after h1; have bw := below_call h1 (w := w) (by go_grown); obtain ⟨ka_c, ka_f, ka_l, ka_m, _⟩ := ka.knows; obtain ⟨kq_c, kq_f, kq_l, kq_m, _⟩ := kq.knows
  have kF := (hF.after bw).1
  obtain ⟨kF_c, kF_f, kF_l, _⟩ := kF.knows
  go_wp2_with fail; (with_reducible refine (sub_two base _).mono ?_); rintro e w2 ⟨rfl, h2⟩; clear ka_c ka_f ka_l ka_m kq_c kq_f kq_l kq_m; (first | replace ka := ka.after h2 | replace ka := (ka.alloc _).after h2 | replace ka := ((ka.alloc _).alloc _).after h2 | replace ka := ka.drew.after h2 | replace ka := (ka.alloc _).drew.after h2 | replace ka := (ka.drew.alloc _).after h2); (first | replace kq := kq.after h2 | replace kq := (kq.alloc _).after h2 | replace kq := ((kq.alloc _).alloc _).after h2 | replace kq := kq.drew.after h2 | replace kq := (kq.alloc _).drew.after h2 | replace kq := (kq.drew.alloc _).after h2); have bwsz := Below.size bw; replace bw := below_call h2 (w := w) (by go_grown); clear h2 bwsz; obtain ⟨ka_c, ka_f, ka_l, ka_m, _⟩ := ka.knows; obtain ⟨kq_c, kq_f, kq_l, kq_m, _⟩ := kq.knows
  clear kF_c kF_f kF_l kF
  go_upto_region 7 with (fail)
  clear ka_c ka_f ka_l ka_m kq_c kq_f kq_l kq_m
  have ks := Blk.new w2 24 #[.int .u64 (lb (ieN base) 0), .int .u64 (lb (ieN base) 1), .int .u64 (lb (ieN base) 2), .int .u64 (lb (ieN base) 3)]; replace ka := ka.alloc (.cells #[.int .u64 (lb (ieN base) 0), .int .u64 (lb (ieN base) 1), .int .u64 (lb (ieN base) 2), .int .u64 (lb (ieN base) 3)] 24); replace kq := kq.alloc (.cells #[.int .u64 (lb (ieN base) 0), .int .u64 (lb (ieN base) 1), .int .u64 (lb (ieN base) 2), .int .u64 (lb (ieN base) 3)] 24); replace bw := bw.alloc bw.size (.cells #[.int .u64 (lb (ieN base) 0), .int .u64 (lb (ieN base) 1), .int .u64 (lb (ieN base) 2), .int .u64 (lb (ieN base) 3)] 24); generalize w2.heap.size = g_ks at *; generalize w2.alloc _ = W3 at *
  obtain ⟨ka_c, ka_f, ka_l, _⟩ := ka.knows
  obtain ⟨ks_c, ks_f, ks_l, _⟩ := ks.knows
  go_wp2_with fail
  (with_reducible refine (fpow_yes (hF.after bw) a (ieN base) (ieN_lt base) h).mono ?_)
  rintro e w4 ⟨rfl, h4⟩
  clear ka_c ka_f ka_l ks_c ks_f ks_l
  replace kq := kq.after h4
  replace bw := below_call h4 bw
  clear h4 ka ks
  obtain ⟨kq_c, kq_f, kq_l, kq_m, _⟩ := kq.knows
  go_wp2
  have kf := (kq.put4 (.int .u64 (lb (fpwN base a (ieN base)) 0)) (.int .u64 (lb (fpwN base a (ieN base)) 1)) (.int .u64 (lb (fpwN base a (ieN base)) 2)) (.int .u64 (lb (fpwN base a (ieN base)) 3))).knows
  obtain ⟨kf_c, kf_f, kf_l, _⟩ := kf
  refine bodyPost_ret (v := .tuple #[num (fpwN base a (ieN base)), .int .i64 0]) (by simp [results, Try.results14, go_sem, kf_c, kf_l]) rfl ?_
  exact ⟨rfl, by go_grown⟩
set_option maxHeartbeats 2000000 in
theorem fsqrt_no (a : Nat) (ha : a < RR) (h : ¬ a < pN base) : Calls Try.prog 16 #[.pointer (some ⟨f, 0, none⟩), num a] w fun e w' => e = .returned (.tuple #[num 0, .int .i64 20]) ∧ Below w.heap.size w w' := by
  rw [num_zero]
  go_enter Try.func16, Try.ntmps16
  go_wp2_with fail; (with_reducible refine (check_out ((hF.alloc _).alloc _) a ha h).mono ?_); rintro e w1 ⟨rfl, h1⟩; have ka := ((Blk.newAt (n := w.heap.size) _ _ _ (by first | rfl | simp)).alloc _).after h1; have kq := (Blk.newAt (n := w.heap.size + 1) _ _ _ (by first | rfl | simp)).after h1; have bw := below_call h1 (w := w) (by go_grown); obtain ⟨ka_c, ka_f, ka_l, ka_m, _⟩ := ka.knows; obtain ⟨kq_c, kq_f, kq_l, kq_m, _⟩ := kq.knows
  go_wp2
  have kf := (kq.put4 (.int .u64 0) (.int .u64 0) (.int .u64 0) (.int .u64 0)).knows
  obtain ⟨kf_c, kf_f, kf_l, _⟩ := kf
  refine bodyPost_ret (v := .tuple #[zeroV, .int .i64 20]) (by simp [results, Try.results16, go_sem, kf_c, kf_l]) rfl ?_
  exact ⟨rfl, by go_grown⟩
set_option maxHeartbeats 2000000 in
theorem freduce_any (x : Nat) (hx : x < 18446744073709551616 ^ 8) : Calls Try.prog 27 #[.pointer (some ⟨f, 0, none⟩), wide x] w fun e w' => e = .returned (num (frdN base x)) ∧ Below w.heap.size w w' := by
  have hm := pN_lt base
  have hp := pN_pos base
  have cm : ∀ w1, Calls Try.prog 59 #[wide x, num (pN base)] w1 fun e w' => e = .returned (.tuple #[num (frdN base x), .int .i64 0]) ∧ Below w1.heap.size w1 w' := by
    intro w1; rw [frdN_def]; exact mod_rest x (pN base) hx hm (by omega) w1
  go_enter Try.func27, Try.ntmps27
  go_upto_region 3 with (fail)
  have ka := (Blk.newAt (n := w.heap.size) w 43 #[.int .u64 (lb (x) 0), .int .u64 (lb (x) 1), .int .u64 (lb (x) 2), .int .u64 (lb (x) 3), .int .u64 (lb (x) 4), .int .u64 (lb (x) 5), .int .u64 (lb (x) 6), .int .u64 (lb (x) 7)] rfl).alloc (.cells #[.int .u64 0, .int .u64 0, .int .u64 0, .int .u64 0] 24)
  have kq := Blk.newAt (n := w.heap.size + 1) (w.alloc (.cells #[.int .u64 (lb (x) 0), .int .u64 (lb (x) 1), .int .u64 (lb (x) 2), .int .u64 (lb (x) 3), .int .u64 (lb (x) 4), .int .u64 (lb (x) 5), .int .u64 (lb (x) 6), .int .u64 (lb (x) 7)] 43)) 24 #[.int .u64 0, .int .u64 0, .int .u64 0, .int .u64 0] (by simp)
  have bw : Below w.heap.size w ((w.alloc (.cells #[.int .u64 (lb (x) 0), .int .u64 (lb (x) 1), .int .u64 (lb (x) 2), .int .u64 (lb (x) 3), .int .u64 (lb (x) 4), .int .u64 (lb (x) 5), .int .u64 (lb (x) 6), .int .u64 (lb (x) 7)] 43)).alloc (.cells #[.int .u64 0, .int .u64 0, .int .u64 0, .int .u64 0] 24)) := by go_grown
  generalize (w.alloc (.cells #[.int .u64 (lb (x) 0), .int .u64 (lb (x) 1), .int .u64 (lb (x) 2), .int .u64 (lb (x) 3), .int .u64 (lb (x) 4), .int .u64 (lb (x) 5), .int .u64 (lb (x) 6), .int .u64 (lb (x) 7)] 43)).alloc (.cells #[.int .u64 0, .int .u64 0, .int .u64 0, .int .u64 0] 24) = W3 at *
  have kF := (hF.after bw).1
  refine wp_region_kinds [10] 11 [(0, 0), (1, 0), (2, 0), (3, 0), (4, 0), (5, 0), (6, 1), (7, 1), (8, 1), (9, 2), (10, 2)] (by kernel_rfl) (by kernel_rfl) ?_
  (refine kind_firm (v := ?_) rfl ?_ ?_; rotate_left; (focus (intro K w' hg hK; have hc1 := (ka.drew.after hg).cell; go_simp; exact hK _ (Grow.refl _))); refine kinds_put (by (simp only [Act.put, List.setIfInBounds_toArray, List.set_cons_succ, List.set_cons_zero]; try rfl)) ?_)
  (refine kind_firm (v := ?_) rfl ?_ ?_; rotate_left; (focus (intro K w' hg hK; go_simp; exact hK _ (Grow.refl _))); refine kinds_put (by (simp only [Act.put, List.setIfInBounds_toArray, List.set_cons_succ, List.set_cons_zero]; try rfl)) ?_)
  (refine kind_firm (v := ?_) rfl ?_ ?_; rotate_left; (focus (intro K w' hg hK; go_simp; exact hK _ (Grow.refl _))); refine kinds_put (by (simp only [Act.put, List.setIfInBounds_toArray, List.set_cons_succ, List.set_cons_zero]; try rfl)) ?_)
  (refine kind_firm (v := ?_) rfl ?_ ?_; rotate_left; (focus (intro K w' hg hK; go_simp; exact hK _ (Grow.refl _))); refine kinds_put (by (simp only [Act.put, List.setIfInBounds_toArray, List.set_cons_succ, List.set_cons_zero]; try rfl)) ?_)
  (refine kind_firm (v := ?_) rfl ?_ ?_; rotate_left; (focus (intro K w' hg hK; have hc1 := (kF.drew.after hg).cell; go_simp; exact hK _ (Grow.refl _))); refine kinds_put (by (simp only [Act.put, List.setIfInBounds_toArray, List.set_cons_succ, List.set_cons_zero]; try rfl)) ?_)
  (refine kind_firm (v := ?_) rfl ?_ ?_; rotate_left; (focus (intro K w' hg hK; go_simp; refine Calls.mono (cm _) ?_; rintro e w'' ⟨rfl, hb⟩; refine ⟨_, rfl, ?_⟩; exact hK _ hb)); refine kinds_put (by (simp only [Act.put, List.setIfInBounds_toArray, List.set_cons_succ, List.set_cons_zero]; try rfl)) ?_)
  (refine kind_pure (v := ?_) rfl ?_ ?_; rotate_left; (focus (intro K w' hK; go_simp; exact hK)); refine kinds_put (by (simp only [Act.put, List.setIfInBounds_toArray, List.set_cons_succ, List.set_cons_zero]; try rfl)) ?_)
  (refine kind_pure (v := ?_) rfl ?_ ?_; rotate_left; (focus (intro K w' hK; go_simp; exact hK)); refine kinds_put (by (simp only [Act.put, List.setIfInBounds_toArray, List.set_cons_succ, List.set_cons_zero]; try rfl)) ?_)
  (refine kind_pure (v := ?_) rfl ?_ ?_; rotate_left; (focus (intro K w' hK; go_simp; exact hK)); refine kinds_put (by (simp only [Act.put, List.setIfInBounds_toArray, List.set_cons_succ, List.set_cons_zero]; try rfl)) ?_)
  (refine kind_loose rfl ?_; intro K wa1 ga1 hK; go_simp; refine hK _ _ (grow_alloc _ _) ?_; clear hK K)
  (refine kind_store rfl rfl ?_; intro K wb1 gb1 hK; have hs := new_num gb1; have sc := hs.cell; have sf := hs.frozen; go_simp; refine hK _ _ ?_; clear hK K)
  refine kind_end ?_
  intro w6 h6
  replace kq := put_num _ _ _ _ kq.drew ga1 gb1 h6
  have kd := put_new _ _ _ _ gb1 h6
  replace bw := put_below _ _ _ _ bw.drew bw.size ga1 gb1 h6
  clear sc sf hs h6 gb1 ga1 ka kF
  obtain ⟨kq_c, kq_f, kq_l, kq_m, _⟩ := kq.knows
  obtain ⟨kd_c, kd_f, kd_l, kd_m, _⟩ := kd.knows
  go_wp2
  have kf := (kq.put4 (.int .u64 (lb (frdN base x) 0)) (.int .u64 (lb (frdN base x) 1)) (.int .u64 (lb (frdN base x) 2)) (.int .u64 (lb (frdN base x) 3))).knows
  obtain ⟨kf_c, kf_f, kf_l, _⟩ := kf
  refine bodyPost_ret (v := num (frdN base x)) (by simp [results, Try.results27, go_sem, kf_c, kf_l]) rfl ?_
  exact ⟨rfl, by go_grown⟩
end
section
variable {f g : Nat} {w : World}
set_option maxHeartbeats 2000000 in
theorem fsqrt_none (hF : FieldB w f g false) (a : Nat) (h : a < pN false) : Calls Try.prog 16 #[.pointer (some ⟨f, 0, none⟩), num a] w fun e w' => e = .returned (.tuple #[num 0, .int .i64 7]) ∧ Below w.heap.size w w' := by
  have he := eqin_zero_same
  rw [← rt_none] at he
  rw [num_zero]
  go_enter Try.func16, Try.ntmps16
  go_wp2_with fail; (with_reducible refine (check_in ((hF.alloc _).alloc _) a h).mono ?_); rintro e w1 ⟨rfl, h1⟩; have ka := ((Blk.newAt (n := w.heap.size) _ _ _ (by first | rfl | simp)).alloc _).after h1; have kq := (Blk.newAt (n := w.heap.size + 1) _ _ _ (by first | rfl | simp)).after h1; have bw := below_call h1 (w := w) (by go_grown); obtain ⟨ka_c, ka_f, ka_l, ka_m, _⟩ := ka.knows; obtain ⟨kq_c, kq_f, kq_l, kq_m, _⟩ := kq.knows
  have kF := (hF.after bw).1
  obtain ⟨kF_c, kF_f, kF_l, _⟩ := kF.knows
  go_wp2
  have kf := (kq.put4 (.int .u64 0) (.int .u64 0) (.int .u64 0) (.int .u64 0)).knows
  obtain ⟨kf_c, kf_f, kf_l, _⟩ := kf
  refine bodyPost_ret (v := .tuple #[zeroV, .int .i64 7]) (by simp [results, Try.results16, go_sem, kf_c, kf_l]) rfl ?_
  exact ⟨rfl, by go_grown⟩
set_option maxHeartbeats 4000000 in
theorem fsqrt_bad (hF : FieldB w f g true) (a : Nat) (h : a < pN true) (hq : fmlN true (fpwN true a (rtN true)) (fpwN true a (rtN true)) ≠ a) : Calls Try.prog 16 #[.pointer (some ⟨f, 0, none⟩), num a] w fun e w' => e = .returned (.tuple #[num 0, .int .i64 22]) ∧ Below w.heap.size w w' := by
  rw [num_zero]
  have he := eqin_zero_other (rtN_lt true) rt_nz
  have hne := eqin_other (lt_RR (fmlN_lt true (fpwN true a (rtN true)) (fpwN true a (rtN true)))) (lt_RR h) hq
  go_enter Try.func16, Try.ntmps16
  go_wp2_with fail; (with_reducible refine (check_in ((hF.alloc _).alloc _) a h).mono ?_); rintro e w1 ⟨rfl, h1⟩; have ka := ((Blk.newAt (n := w.heap.size) _ _ _ (by first | rfl | simp)).alloc _).after h1; have kq := (Blk.newAt (n := w.heap.size + 1) _ _ _ (by first | rfl | simp)).after h1; have bw := below_call h1 (w := w) (by go_grown); obtain ⟨ka_c, ka_f, ka_l, ka_m, _⟩ := ka.knows; obtain ⟨kq_c, kq_f, kq_l, kq_m, _⟩ := kq.knows
  have kF := (hF.after bw).1
  obtain ⟨kF_c, kF_f, kF_l, _⟩ := kF.knows
  go_upto_region 6 with (fail)
  clear kF_c kF_f kF_l ka_c ka_f ka_l ka_m kq_c kq_f kq_l kq_m
  refine wp_region_kinds [11] 12 [(0, 0), (1, 0), (2, 0), (3, 0), (4, 0), (5, 0), (6, 0), (7, 1), (8, 1), (9, 1), (10, 2), (11, 2)] (by kernel_rfl) (by kernel_rfl) ?_
  (refine kind_firm (v := ?_) rfl ?_ ?_; rotate_left; (focus (intro K w' hg hK; go_simp; exact hK _ (Grow.refl _))); refine kinds_put (by (simp only [Act.put, List.setIfInBounds_toArray, List.set_cons_succ, List.set_cons_zero]; try rfl)) ?_)
  (refine kind_firm (v := ?_) rfl ?_ ?_; rotate_left; (focus (intro K w' hg hK; have hc1 := (ka.drew.after hg).cell; go_simp; exact hK _ (Grow.refl _))); refine kinds_put (by (simp only [Act.put, List.setIfInBounds_toArray, List.set_cons_succ, List.set_cons_zero]; try rfl)) ?_)
  (refine kind_firm (v := ?_) rfl ?_ ?_; rotate_left; (focus (intro K w' hg hK; go_simp; exact hK _ (Grow.refl _))); refine kinds_put (by (simp only [Act.put, List.setIfInBounds_toArray, List.set_cons_succ, List.set_cons_zero]; try rfl)) ?_)
  (refine kind_firm (v := ?_) rfl ?_ ?_; rotate_left; (focus (intro K w' hg hK; go_simp; exact hK _ (Grow.refl _))); refine kinds_put (by (simp only [Act.put, List.setIfInBounds_toArray, List.set_cons_succ, List.set_cons_zero]; try rfl)) ?_)
  (refine kind_firm (v := ?_) rfl ?_ ?_; rotate_left; (focus (intro K w' hg hK; go_simp; exact hK _ (Grow.refl _))); refine kinds_put (by (simp only [Act.put, List.setIfInBounds_toArray, List.set_cons_succ, List.set_cons_zero]; try rfl)) ?_)
  (refine kind_firm (v := ?_) rfl ?_ ?_; rotate_left; (focus (intro K w' hg hK; have hc1 := (kF.drew.after hg).cell; go_simp; exact hK _ (Grow.refl _))); refine kinds_put (by (simp only [Act.put, List.setIfInBounds_toArray, List.set_cons_succ, List.set_cons_zero]; try rfl)) ?_)
  (refine kind_firm (v := ?_) rfl ?_ ?_; rotate_left; (focus (intro K w' hg hK; go_simp; refine Calls.mono (fpow_yes ((hF.after bw).drew.after hg) a (rtN true) (rtN_lt true) h) ?_; rintro e w'' ⟨rfl, hb⟩; refine ⟨_, rfl, ?_⟩; exact hK _ hb)); refine kinds_put (by (simp only [Act.put, List.setIfInBounds_toArray, List.set_cons_succ, List.set_cons_zero]; try rfl)) ?_)
  (refine kind_pure (v := ?_) rfl ?_ ?_; rotate_left; (focus (intro K w' hK; go_simp; exact hK)); refine kinds_put (by (simp only [Act.put, List.setIfInBounds_toArray, List.set_cons_succ, List.set_cons_zero]; try rfl)) ?_)
  (refine kind_pure (v := ?_) rfl ?_ ?_; rotate_left; (focus (intro K w' hK; go_simp; exact hK)); refine kinds_put (by (simp only [Act.put, List.setIfInBounds_toArray, List.set_cons_succ, List.set_cons_zero]; try rfl)) ?_)
  (refine kind_pure (v := ?_) rfl ?_ ?_; rotate_left; (focus (intro K w' hK; go_simp; exact hK)); refine kinds_put (by (simp only [Act.put, List.setIfInBounds_toArray, List.set_cons_succ, List.set_cons_zero]; try rfl)) ?_)
  (refine kind_loose rfl ?_; intro K wa1 ga1 hK; go_simp; refine hK _ _ (grow_alloc _ _) ?_; clear hK K)
  (refine kind_store rfl rfl ?_; intro K wb1 gb1 hK; have hs := new_num gb1; have sc := hs.cell; have sf := hs.frozen; go_simp; refine hK _ _ ?_; clear hK K)
  refine kind_end ?_
  intro w6 h6
  replace kq := put_num _ _ _ _ kq.drew ga1 gb1 h6
  replace ka := put_num _ _ _ _ ka.drew ga1 gb1 h6
  have ks := put_new _ _ _ _ gb1 h6
  replace bw := put_below _ _ _ _ bw.drew bw.size ga1 gb1 h6
  clear sc sf hs h6 gb1 ga1 kF
  have hr := fpwN_lt true a (rtN true)
  go_upto_region 7 with (fail)
  refine wp_region_all [] 6 [(0, 0), (1, 0), (2, 0), (3, 0), (4, 0), (5, 1)] (by kernel_rfl) (by kernel_rfl) ?_
  (refine kind_firm (v := ?_) rfl ?_ ?_; rotate_left; (focus (intro K w' hg hK; go_simp; exact hK _ (Grow.refl _))); refine kinds_put (by (simp only [Act.put, List.setIfInBounds_toArray, List.set_cons_succ, List.set_cons_zero]; try rfl)) ?_)
  (refine kind_firm (v := ?_) rfl ?_ ?_; rotate_left; (focus (intro K w' hg hK; have hc1 := (ks.drew.after hg).cell; go_simp; exact hK _ (Grow.refl _))); refine kinds_put (by (simp only [Act.put, List.setIfInBounds_toArray, List.set_cons_succ, List.set_cons_zero]; try rfl)) ?_)
  (refine kind_firm (v := ?_) rfl ?_ ?_; rotate_left; (focus (intro K w' hg hK; have hc1 := (ks.drew.after hg).cell; go_simp; exact hK _ (Grow.refl _))); refine kinds_put (by (simp only [Act.put, List.setIfInBounds_toArray, List.set_cons_succ, List.set_cons_zero]; try rfl)) ?_)
  (refine kind_firm (v := ?_) rfl ?_ ?_; rotate_left; (focus (intro K w' hg hK; go_simp; refine Calls.mono (ftimes_any ((hF.after bw).drew.after hg) (fpwN true a (rtN true)) (fpwN true a (rtN true)) hr hr) ?_; rintro e w'' ⟨rfl, hb⟩; refine ⟨_, rfl, ?_⟩; exact hK _ hb)); refine kinds_put (by (simp only [Act.put, List.setIfInBounds_toArray, List.set_cons_succ, List.set_cons_zero]; try rfl)) ?_)
  (refine kind_firm (v := ?_) rfl ?_ ?_; rotate_left; (focus (intro K w' hg hK; have hc1 := (ka.drew.after hg).cell; go_simp; exact hK _ (Grow.refl _))); refine kinds_put (by (simp only [Act.put, List.setIfInBounds_toArray, List.set_cons_succ, List.set_cons_zero]; try rfl)) ?_)
  (refine kind_pure (v := ?_) rfl ?_ ?_; rotate_left; (focus (intro K w' hK; go_simp; exact hK)); refine kinds_put (by (simp only [Act.put, List.setIfInBounds_toArray, List.set_cons_succ, List.set_cons_zero]; try rfl)) ?_)
  refine kind_end ?_
  intro w7 h7
  replace kq := kq.drew.after h7
  replace ks := ks.drew.after h7
  replace bw := below_call h7 bw.drew
  clear h7
  obtain ⟨kq_c, kq_f, kq_l, kq_m, _⟩ := kq.knows
  go_wp2
  have kf := (kq.put4 (.int .u64 0) (.int .u64 0) (.int .u64 0) (.int .u64 0)).knows
  obtain ⟨kf_c, kf_f, kf_l, _⟩ := kf
  refine bodyPost_ret (v := .tuple #[zeroV, .int .i64 22]) (by simp [results, Try.results16, go_sem, kf_c, kf_l]) rfl ?_
  exact ⟨rfl, by go_grown⟩
set_option maxHeartbeats 4000000 in
theorem fsqrt_yes (hF : FieldB w f g true) (a : Nat) (h : a < pN true) (hq : fmlN true (fpwN true a (rtN true)) (fpwN true a (rtN true)) = a) : Calls Try.prog 16 #[.pointer (some ⟨f, 0, none⟩), num a] w fun e w' => e = .returned (.tuple #[num (evN true (fpwN true a (rtN true))), .int .i64 0]) ∧ Below w.heap.size w w' := by
  have cmi : ∀ w1, FieldB w1 f g true → Calls Try.prog 53 #[.pointer (some ⟨f, 0, none⟩), zeroV, num (fpwN true a (rtN true))] w1 fun e w' => e = .returned (num (fsbN true 0 (fpwN true a (rtN true)))) ∧ Below w1.heap.size w1 w' := by
    intro w1 h1; rw [← num_zero]; exact fminus_any 0 _ h1 (pN_pos true) (fpwN_lt _ _ _)
  have csel : ∀ w1, Calls Try.prog 52 #[.int .u64 (lb (fpwN true a (rtN true)) 0), num (fsbN true 0 (fpwN true a (rtN true))), num (fpwN true a (rtN true))] w1 fun e w' => e = .returned (num (evN true (fpwN true a (rtN true)))) ∧ Below w1.heap.size w1 w' := by
    intro w1; rw [← ev_pick]; exact select_any _ _ _ (lb_lo _ _) (lb_hi _ _) w1
  have he := eqin_zero_other (rtN_lt true) rt_nz
  have hne : ∀ w, (Op.equalIn 10000 24 (num (fmlN true (fpwN true a (rtN true)) (fpwN true a (rtN true)))) (num a)).run Try.prog w = .ok true w := by intro w; rw [hq]; exact eqin_same a w
  clear hq
  go_enter Try.func16, Try.ntmps16
  go_wp2_with fail; (with_reducible refine (check_in ((hF.alloc _).alloc _) a h).mono ?_); rintro e w1 ⟨rfl, h1⟩; have ka := ((Blk.newAt (n := w.heap.size) _ _ _ (by first | rfl | simp)).alloc _).after h1; have kq := (Blk.newAt (n := w.heap.size + 1) _ _ _ (by first | rfl | simp)).after h1; have bw := below_call h1 (w := w) (by go_grown); obtain ⟨ka_c, ka_f, ka_l, ka_m, _⟩ := ka.knows; obtain ⟨kq_c, kq_f, kq_l, kq_m, _⟩ := kq.knows
  have kF := (hF.after bw).1
  obtain ⟨kF_c, kF_f, kF_l, _⟩ := kF.knows
  go_upto_region 6 with (fail)
  clear kF_c kF_f kF_l ka_c ka_f ka_l ka_m kq_c kq_f kq_l kq_m
  refine wp_region_kinds [11] 12 [(0, 0), (1, 0), (2, 0), (3, 0), (4, 0), (5, 0), (6, 0), (7, 1), (8, 1), (9, 1), (10, 2), (11, 2)] (by kernel_rfl) (by kernel_rfl) ?_
  (refine kind_firm (v := ?_) rfl ?_ ?_; rotate_left; (focus (intro K w' hg hK; go_simp; exact hK _ (Grow.refl _))); refine kinds_put (by (simp only [Act.put, List.setIfInBounds_toArray, List.set_cons_succ, List.set_cons_zero]; try rfl)) ?_)
  (refine kind_firm (v := ?_) rfl ?_ ?_; rotate_left; (focus (intro K w' hg hK; have hc1 := (ka.drew.after hg).cell; go_simp; exact hK _ (Grow.refl _))); refine kinds_put (by (simp only [Act.put, List.setIfInBounds_toArray, List.set_cons_succ, List.set_cons_zero]; try rfl)) ?_)
  (refine kind_firm (v := ?_) rfl ?_ ?_; rotate_left; (focus (intro K w' hg hK; go_simp; exact hK _ (Grow.refl _))); refine kinds_put (by (simp only [Act.put, List.setIfInBounds_toArray, List.set_cons_succ, List.set_cons_zero]; try rfl)) ?_)
  (refine kind_firm (v := ?_) rfl ?_ ?_; rotate_left; (focus (intro K w' hg hK; go_simp; exact hK _ (Grow.refl _))); refine kinds_put (by (simp only [Act.put, List.setIfInBounds_toArray, List.set_cons_succ, List.set_cons_zero]; try rfl)) ?_)
  (refine kind_firm (v := ?_) rfl ?_ ?_; rotate_left; (focus (intro K w' hg hK; go_simp; exact hK _ (Grow.refl _))); refine kinds_put (by (simp only [Act.put, List.setIfInBounds_toArray, List.set_cons_succ, List.set_cons_zero]; try rfl)) ?_)
  (refine kind_firm (v := ?_) rfl ?_ ?_; rotate_left; (focus (intro K w' hg hK; have hc1 := (kF.drew.after hg).cell; go_simp; exact hK _ (Grow.refl _))); refine kinds_put (by (simp only [Act.put, List.setIfInBounds_toArray, List.set_cons_succ, List.set_cons_zero]; try rfl)) ?_)
  (refine kind_firm (v := ?_) rfl ?_ ?_; rotate_left; (focus (intro K w' hg hK; go_simp; refine Calls.mono (fpow_yes ((hF.after bw).drew.after hg) a (rtN true) (rtN_lt true) h) ?_; rintro e w'' ⟨rfl, hb⟩; refine ⟨_, rfl, ?_⟩; exact hK _ hb)); refine kinds_put (by (simp only [Act.put, List.setIfInBounds_toArray, List.set_cons_succ, List.set_cons_zero]; try rfl)) ?_)
  (refine kind_pure (v := ?_) rfl ?_ ?_; rotate_left; (focus (intro K w' hK; go_simp; exact hK)); refine kinds_put (by (simp only [Act.put, List.setIfInBounds_toArray, List.set_cons_succ, List.set_cons_zero]; try rfl)) ?_)
  (refine kind_pure (v := ?_) rfl ?_ ?_; rotate_left; (focus (intro K w' hK; go_simp; exact hK)); refine kinds_put (by (simp only [Act.put, List.setIfInBounds_toArray, List.set_cons_succ, List.set_cons_zero]; try rfl)) ?_)
  (refine kind_pure (v := ?_) rfl ?_ ?_; rotate_left; (focus (intro K w' hK; go_simp; exact hK)); refine kinds_put (by (simp only [Act.put, List.setIfInBounds_toArray, List.set_cons_succ, List.set_cons_zero]; try rfl)) ?_)
  (refine kind_loose rfl ?_; intro K wa1 ga1 hK; go_simp; refine hK _ _ (grow_alloc _ _) ?_; clear hK K)
  (refine kind_store rfl rfl ?_; intro K wb1 gb1 hK; have hs := new_num gb1; have sc := hs.cell; have sf := hs.frozen; go_simp; refine hK _ _ ?_; clear hK K)
  refine kind_end ?_
  intro w6 h6
  replace kq := put_num _ _ _ _ kq.drew ga1 gb1 h6
  replace ka := put_num _ _ _ _ ka.drew ga1 gb1 h6
  have ks := put_new _ _ _ _ gb1 h6
  replace bw := put_below _ _ _ _ bw.drew bw.size ga1 gb1 h6
  clear sc sf hs h6 gb1 ga1 kF
  have hr := fpwN_lt true a (rtN true)
  go_upto_region 7 with (fail)
  refine wp_region_all [] 6 [(0, 0), (1, 0), (2, 0), (3, 0), (4, 0), (5, 1)] (by kernel_rfl) (by kernel_rfl) ?_
  (refine kind_firm (v := ?_) rfl ?_ ?_; rotate_left; (focus (intro K w' hg hK; go_simp; exact hK _ (Grow.refl _))); refine kinds_put (by (simp only [Act.put, List.setIfInBounds_toArray, List.set_cons_succ, List.set_cons_zero]; try rfl)) ?_)
  (refine kind_firm (v := ?_) rfl ?_ ?_; rotate_left; (focus (intro K w' hg hK; have hc1 := (ks.drew.after hg).cell; go_simp; exact hK _ (Grow.refl _))); refine kinds_put (by (simp only [Act.put, List.setIfInBounds_toArray, List.set_cons_succ, List.set_cons_zero]; try rfl)) ?_)
  (refine kind_firm (v := ?_) rfl ?_ ?_; rotate_left; (focus (intro K w' hg hK; have hc1 := (ks.drew.after hg).cell; go_simp; exact hK _ (Grow.refl _))); refine kinds_put (by (simp only [Act.put, List.setIfInBounds_toArray, List.set_cons_succ, List.set_cons_zero]; try rfl)) ?_)
  (refine kind_firm (v := ?_) rfl ?_ ?_; rotate_left; (focus (intro K w' hg hK; go_simp; refine Calls.mono (ftimes_any ((hF.after bw).drew.after hg) (fpwN true a (rtN true)) (fpwN true a (rtN true)) hr hr) ?_; rintro e w'' ⟨rfl, hb⟩; refine ⟨_, rfl, ?_⟩; exact hK _ hb)); refine kinds_put (by (simp only [Act.put, List.setIfInBounds_toArray, List.set_cons_succ, List.set_cons_zero]; try rfl)) ?_)
  (refine kind_firm (v := ?_) rfl ?_ ?_; rotate_left; (focus (intro K w' hg hK; have hc1 := (ka.drew.after hg).cell; go_simp; exact hK _ (Grow.refl _))); refine kinds_put (by (simp only [Act.put, List.setIfInBounds_toArray, List.set_cons_succ, List.set_cons_zero]; try rfl)) ?_)
  (refine kind_pure (v := ?_) rfl ?_ ?_; rotate_left; (focus (intro K w' hK; go_simp; exact hK)); refine kinds_put (by (simp only [Act.put, List.setIfInBounds_toArray, List.set_cons_succ, List.set_cons_zero]; try rfl)) ?_)
  refine kind_end ?_
  intro w7 h7
  replace kq := kq.drew.after h7
  replace ks := ks.drew.after h7
  replace bw := below_call h7 bw.drew
  clear h7
  go_upto_region 9 with (fail)
  refine wp_region_kinds [8] 9 [(0, 0), (1, 0), (2, 0), (3, 0), (4, 0), (5, 0), (6, 0), (7, 0), (8, 2)] (by kernel_rfl) (by kernel_rfl) ?_
  (refine kind_firm (v := ?_) rfl ?_ ?_; rotate_left; (focus (intro K w' hg hK; go_simp; exact hK _ (Grow.refl _))); refine kinds_put (by (simp only [Act.put, List.setIfInBounds_toArray, List.set_cons_succ, List.set_cons_zero]; try rfl)) ?_)
  (refine kind_firm (v := ?_) rfl ?_ ?_; rotate_left; (focus (intro K w' hg hK; have hc1 := (ks.drew.after hg).cell; go_simp; exact hK _ (Grow.refl _))); refine kinds_put (by (simp only [Act.put, List.setIfInBounds_toArray, List.set_cons_succ, List.set_cons_zero]; try rfl)) ?_)
  (refine kind_firm (v := ?_) rfl ?_ ?_; rotate_left; (focus (intro K w' hg hK; go_simp; exact hK _ (Grow.refl _))); refine kinds_put (by (simp only [Act.put, List.setIfInBounds_toArray, List.set_cons_succ, List.set_cons_zero]; try rfl)) ?_)
  (refine kind_firm (v := ?_) rfl ?_ ?_; rotate_left; (focus (intro K w' hg hK; go_simp; exact hK _ (Grow.refl _))); refine kinds_put (by (simp only [Act.put, List.setIfInBounds_toArray, List.set_cons_succ, List.set_cons_zero]; try rfl)) ?_)
  (refine kind_firm (v := ?_) rfl ?_ ?_; rotate_left; (focus (intro K w' hg hK; have hc1 := (ks.drew.after hg).cell; go_simp; exact hK _ (Grow.refl _))); refine kinds_put (by (simp only [Act.put, List.setIfInBounds_toArray, List.set_cons_succ, List.set_cons_zero]; try rfl)) ?_)
  (refine kind_firm (v := ?_) rfl ?_ ?_; rotate_left; (focus (intro K w' hg hK; go_simp; refine Calls.mono (cmi _ ((hF.after bw).drew.after hg)) ?_; rintro e w'' ⟨rfl, hb⟩; refine ⟨_, rfl, ?_⟩; exact hK _ hb)); refine kinds_put (by (simp only [Act.put, List.setIfInBounds_toArray, List.set_cons_succ, List.set_cons_zero]; try rfl)) ?_)
  (refine kind_firm (v := ?_) rfl ?_ ?_; rotate_left; (focus (intro K w' hg hK; have hc1 := (ks.drew.after hg).cell; go_simp; exact hK _ (Grow.refl _))); refine kinds_put (by (simp only [Act.put, List.setIfInBounds_toArray, List.set_cons_succ, List.set_cons_zero]; try rfl)) ?_)
  (refine kind_firm (v := ?_) rfl ?_ ?_; rotate_left; (focus (intro K w' hg hK; go_simp; refine Calls.mono (csel _) ?_; rintro e w'' ⟨rfl, hb⟩; refine ⟨_, rfl, ?_⟩; exact hK _ hb)); refine kinds_put (by (simp only [Act.put, List.setIfInBounds_toArray, List.set_cons_succ, List.set_cons_zero]; try rfl)) ?_)
  (refine kind_store rfl rfl ?_; intro K wb1 gb1 hK; have hs := kq.drew.after gb1; have sc := hs.cell; have sf := hs.frozen; go_simp; refine hK _ _ ?_; clear hK K)
  refine kind_end ?_
  intro w9 h9
  have kf := (hs.put4 (.int .u64 (lb (evN true (fpwN true a (rtN true))) 0)) (.int .u64 (lb (evN true (fpwN true a (rtN true))) 1)) (.int .u64 (lb (evN true (fpwN true a (rtN true))) 2)) (.int .u64 (lb (evN true (fpwN true a (rtN true))) 3))).after h9
  replace bw := put_after (by omega) _ _ _ _ (below_call gb1 bw.drew) h9
  clear sc sf hs h9 gb1 kq
  obtain ⟨kf_c, kf_f, kf_l, _⟩ := kf.knows
  go_wp2
  refine bodyPost_ret (v := .tuple #[num (evN true (fpwN true a (rtN true))), .int .i64 0]) (by simp [results, Try.results16, go_sem, kf_c, kf_l]) rfl ?_
  exact ⟨rfl, bw⟩
end
end Go.Proofs.Ytlibfjemdiochaa
