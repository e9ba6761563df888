/- Products of the two fields; sums, differences, products and negatives as they are exported. -/
import Derived.Test.YtlibfjemdiochaaFB
namespace Go.Proofs.Ytlibfjemdiochaa
set_option linter.unusedVariables false
set_option linter.unusedSimpArgs false
open Go.RowKit

theorem fmlN_is : ∃ f : Bool → Nat → Nat → Nat, ∀ b x y, f b x y = x * y % pN b := ⟨fun b x y => x * y % pN b, fun _ _ _ => rfl⟩
/-- A product of the field. -/
noncomputable def fmlN : Bool → Nat → Nat → Nat := Classical.choose fmlN_is
theorem fmlN_def (b : Bool) (x y : Nat) : fmlN b x y = x * y % pN b := Classical.choose_spec fmlN_is b x y
theorem fmlN_lt (b : Bool) (x y : Nat) : fmlN b x y < pN b := by rw [fmlN_def]; exact Nat.mod_lt _ (pN_pos b)
theorem r2p_lt (b : Bool) : r2N (pN b) < RR := by rw [r2N_def]; exact Nat.lt_trans (Nat.mod_lt _ (pN_pos b)) (pN_lt b)
/-- A number in Montgomery's form. -/
theorem tfN_is : ∃ f : Bool → Nat → Nat, ∀ b x, f b x = toN (pN b) x := ⟨fun b x => toN (pN b) x, fun _ _ => rfl⟩
noncomputable def tfN : Bool → Nat → Nat := Classical.choose tfN_is
theorem tfN_def (b : Bool) (x : Nat) : tfN b x = toN (pN b) x := Classical.choose_spec tfN_is b x
theorem tfN_lt (b : Bool) (x : Nat) : tfN b x < pN b := by rw [tfN_def]; exact toN_lt _ _ (pN_pos b)
section
variable {base : Bool} {f g : Nat} {w : World} (hF : FieldB w f g base)
include hF
theorem way_to (x : Nat) (h : x < pN base) : Calls Try.prog 44 #[.pointer (some ⟨g, 0, none⟩), num x] w fun e w' => e = .returned (.tuple #[num (tfN base x), .int .i64 0]) ∧ Below w.heap.size w w' := by
  have h1 := mto_yes g (pN base) (r2N (pN base)) w hF.2 (pN_lt base) x (lt_RR h) (pN_odd base) (r2p_lt base) h
  have e : redN (pN base) (mulN x (r2N (pN base))) = tfN base x := by rw [mulN_def, r2N_def, tfN_def]; exact redN_to _ x (pN_odd base)
  rw [e] at h1
  exact h1
theorem way_times (x y : Nat) (hy : y < pN base) : Calls Try.prog 45 #[.pointer (some ⟨g, 0, none⟩), num (tfN base x), num y] w fun e w' => e = .returned (.tuple #[num (fmlN base x y), .int .i64 0]) ∧ Below w.heap.size w w' := by
  have h1 := mmul_yes g (pN base) (r2N (pN base)) w hF.2 (pN_lt base) (tfN base x) y (lt_RR (tfN_lt base x)) (lt_RR hy) (pN_odd base) (tfN_lt base x) hy
  have e : redN (pN base) (mulN (tfN base x) y) = fmlN base x y := by rw [mulN_def, fmlN_def, tfN_def]; exact redN_times _ x y (pN_odd base)
  rw [e] at h1
  exact h1
theorem way_mul (x y : Nat) : Calls Try.prog 45 #[.pointer (some ⟨g, 0, none⟩), num (tfN base x), num (tfN base y)] w fun e w' => e = .returned (.tuple #[num (tfN base (fmlN base x y)), .int .i64 0]) ∧ Below w.heap.size w w' := by
  have h1 := mmul_yes g (pN base) (r2N (pN base)) w hF.2 (pN_lt base) (tfN base x) (tfN base y) (lt_RR (tfN_lt base x)) (lt_RR (tfN_lt base y)) (pN_odd base) (tfN_lt base x) (tfN_lt base y)
  have e : redN (pN base) (mulN (tfN base x) (tfN base y)) = tfN base (fmlN base x y) := by
    rw [mulN_def, fmlN_def, tfN_def, tfN_def, tfN_def, redN_tos _ x y (pN_odd base), toN_def, toN_def, Nat.mod_mul_mod]
  rw [e] at h1
  exact h1
theorem way_from (x : Nat) (hx : x < pN base) : Calls Try.prog 47 #[.pointer (some ⟨g, 0, none⟩), num (tfN base x)] w fun e w' => e = .returned (.tuple #[num x, .int .i64 0]) ∧ Below w.heap.size w w' := by
  have h1 := mfrom_yes g (pN base) (r2N (pN base)) w hF.2 (pN_lt base) (tfN base x) (lt_RR (tfN_lt base x)) (pN_odd base) (tfN_lt base x)
  have e : redN (pN base) (tfN base x) = x := by rw [tfN_def]; exact redN_back _ x (pN_odd base) hx
  rw [e] at h1
  exact h1
set_option maxHeartbeats 4000000 in
theorem ftimes_any (a b : Nat) (ha : a < pN base) (hb : b < pN base) : Calls Try.prog 51 #[.pointer (some ⟨f, 0, none⟩), num a, num b] w fun e w' => e = .returned (num (fmlN base a b)) ∧ Below w.heap.size w w' := by
  have fl := hF.lt.1
  go_enter Try.func51, Try.ntmps51
  go_upto_region 1 with (fail)
  have ka := ((Blk.newAt (n := w.heap.size) w 24 #[.int .u64 (lb (a) 0), .int .u64 (lb (a) 1), .int .u64 (lb (a) 2), .int .u64 (lb (a) 3)] rfl).alloc (.cells #[.int .u64 (lb (b) 0), .int .u64 (lb (b) 1), .int .u64 (lb (b) 2), .int .u64 (lb (b) 3)] 24)).alloc (.cells #[.int .u64 0, .int .u64 0, .int .u64 0, .int .u64 0] 24)
  have kb := (Blk.newAt (n := w.heap.size + 1) (w.alloc (.cells #[.int .u64 (lb (a) 0), .int .u64 (lb (a) 1), .int .u64 (lb (a) 2), .int .u64 (lb (a) 3)] 24)) 24 #[.int .u64 (lb (b) 0), .int .u64 (lb (b) 1), .int .u64 (lb (b) 2), .int .u64 (lb (b) 3)] (by simp)).alloc (.cells #[.int .u64 0, .int .u64 0, .int .u64 0, .int .u64 0] 24)
  have kq := Blk.newAt (n := w.heap.size + 1 + 1) ((w.alloc (.cells #[.int .u64 (lb (a) 0), .int .u64 (lb (a) 1), .int .u64 (lb (a) 2), .int .u64 (lb (a) 3)] 24)).alloc (.cells #[.int .u64 (lb (b) 0), .int .u64 (lb (b) 1), .int .u64 (lb (b) 2), .int .u64 (lb (b) 3)] 24)) 24 #[.int .u64 0, .int .u64 0, .int .u64 0, .int .u64 0] (by simp)
  have bw : Below w.heap.size w (((w.alloc (.cells #[.int .u64 (lb (a) 0), .int .u64 (lb (a) 1), .int .u64 (lb (a) 2), .int .u64 (lb (a) 3)] 24)).alloc (.cells #[.int .u64 (lb (b) 0), .int .u64 (lb (b) 1), .int .u64 (lb (b) 2), .int .u64 (lb (b) 3)] 24)).alloc (.cells #[.int .u64 0, .int .u64 0, .int .u64 0, .int .u64 0] 24)) := by go_grown
  generalize ((w.alloc (.cells #[.int .u64 (lb (a) 0), .int .u64 (lb (a) 1), .int .u64 (lb (a) 2), .int .u64 (lb (a) 3)] 24)).alloc (.cells #[.int .u64 (lb (b) 0), .int .u64 (lb (b) 1), .int .u64 (lb (b) 2), .int .u64 (lb (b) 3)] 24)).alloc (.cells #[.int .u64 0, .int .u64 0, .int .u64 0, .int .u64 0] 24) = W3 at *
  have kF := hF.after bw
  refine wp_region_kinds [10] 11 [(0, 0), (1, 0), (2, 0), (3, 0), (4, 0), (5, 0), (6, 1), (7, 1), (8, 1), (9, 2), (10, 2)] (by kernel_rfl) (by kernel_rfl) ?_
  (refine kind_firm (v := ?_) rfl ?_ ?_; rotate_left; (focus (intro K w' hg hK; go_simp; exact hK _ (Grow.refl _))); refine kinds_put (by (simp only [Act.put, List.setIfInBounds_toArray, List.set_cons_succ, List.set_cons_zero]; try rfl)) ?_)
  (refine kind_firm (v := ?_) rfl ?_ ?_; rotate_left; (focus (intro K w' hg hK; go_simp; exact hK _ (Grow.refl _))); refine kinds_put (by (simp only [Act.put, List.setIfInBounds_toArray, List.set_cons_succ, List.set_cons_zero]; try rfl)) ?_)
  (refine kind_firm (v := ?_) rfl ?_ ?_; rotate_left; (focus (intro K w' hg hK; go_simp; exact hK _ (Grow.refl _))); refine kinds_put (by (simp only [Act.put, List.setIfInBounds_toArray, List.set_cons_succ, List.set_cons_zero]; try rfl)) ?_)
  (refine kind_firm (v := ?_) rfl ?_ ?_; rotate_left; (focus (intro K w' hg hK; have hc1 := (kF.1.drew.after hg).cell; go_simp; exact hK _ (Grow.refl _))); refine kinds_put (by (simp only [Act.put, List.setIfInBounds_toArray, List.set_cons_succ, List.set_cons_zero]; try rfl)) ?_)
  (refine kind_firm (v := ?_) rfl ?_ ?_; rotate_left; (focus (intro K w' hg hK; have hc1 := (ka.drew.after hg).cell; go_simp; exact hK _ (Grow.refl _))); refine kinds_put (by (simp only [Act.put, List.setIfInBounds_toArray, List.set_cons_succ, List.set_cons_zero]; try rfl)) ?_)
  (refine kind_firm (v := ?_) rfl ?_ ?_; rotate_left; (focus (intro K w' hg hK; go_simp; refine Calls.mono (way_to (kF.drew.after hg) a ha) ?_; rintro e w'' ⟨rfl, hb⟩; refine ⟨_, rfl, ?_⟩; exact hK _ hb)); refine kinds_put (by (simp only [Act.put, List.setIfInBounds_toArray, List.set_cons_succ, List.set_cons_zero]; try rfl)) ?_)
  (refine kind_pure (v := ?_) rfl ?_ ?_; rotate_left; (focus (intro K w' hK; go_simp; exact hK)); refine kinds_put (by (simp only [Act.put, List.setIfInBounds_toArray, List.set_cons_succ, List.set_cons_zero]; try rfl)) ?_)
  (refine kind_pure (v := ?_) rfl ?_ ?_; rotate_left; (focus (intro K w' hK; go_simp; exact hK)); refine kinds_put (by (simp only [Act.put, List.setIfInBounds_toArray, List.set_cons_succ, List.set_cons_zero]; try rfl)) ?_)
  (refine kind_pure (v := ?_) rfl ?_ ?_; rotate_left; (focus (intro K w' hK; go_simp; exact hK)); refine kinds_put (by (simp only [Act.put, List.setIfInBounds_toArray, List.set_cons_succ, List.set_cons_zero]; try rfl)) ?_)
  (refine kind_loose rfl ?_; intro K wa1 ga1 hK; go_simp; refine hK _ _ (grow_alloc _ _) ?_; clear hK K)
  (refine kind_store rfl rfl ?_; intro K wb1 gb1 hK; have hs := new_num gb1; have sc := hs.cell; have sf := hs.frozen; go_simp; refine hK _ _ ?_; clear hK K)
  refine kind_end ?_
  intro w6 h6
  replace kq := put_num _ _ _ _ kq.drew ga1 gb1 h6
  replace kb := put_num _ _ _ _ kb.drew ga1 gb1 h6
  have ks := put_new _ _ _ _ gb1 h6
  replace bw := put_below _ _ _ _ bw.drew bw.size ga1 gb1 h6
  replace kF := hF.after bw
  clear sc sf hs h6 gb1 ga1 ka
  go_upto_region 2 with (fail)
  refine wp_region_kinds [11] 12 [(0, 0), (1, 0), (2, 0), (3, 0), (4, 0), (5, 0), (6, 0), (7, 1), (8, 1), (9, 1), (10, 2), (11, 2)] (by kernel_rfl) (by kernel_rfl) ?_
  (refine kind_firm (v := ?_) rfl ?_ ?_; rotate_left; (focus (intro K w' hg hK; go_simp; exact hK _ (Grow.refl _))); refine kinds_put (by (simp only [Act.put, List.setIfInBounds_toArray, List.set_cons_succ, List.set_cons_zero]; try rfl)) ?_)
  (refine kind_firm (v := ?_) rfl ?_ ?_; rotate_left; (focus (intro K w' hg hK; go_simp; exact hK _ (Grow.refl _))); refine kinds_put (by (simp only [Act.put, List.setIfInBounds_toArray, List.set_cons_succ, List.set_cons_zero]; try rfl)) ?_)
  (refine kind_firm (v := ?_) rfl ?_ ?_; rotate_left; (focus (intro K w' hg hK; go_simp; exact hK _ (Grow.refl _))); refine kinds_put (by (simp only [Act.put, List.setIfInBounds_toArray, List.set_cons_succ, List.set_cons_zero]; try rfl)) ?_)
  (refine kind_firm (v := ?_) rfl ?_ ?_; rotate_left; (focus (intro K w' hg hK; have hc1 := (kF.1.drew.after hg).cell; go_simp; exact hK _ (Grow.refl _))); refine kinds_put (by (simp only [Act.put, List.setIfInBounds_toArray, List.set_cons_succ, List.set_cons_zero]; try rfl)) ?_)
  (refine kind_firm (v := ?_) rfl ?_ ?_; rotate_left; (focus (intro K w' hg hK; have hc1 := (ks.drew.after hg).cell; go_simp; exact hK _ (Grow.refl _))); refine kinds_put (by (simp only [Act.put, List.setIfInBounds_toArray, List.set_cons_succ, List.set_cons_zero]; try rfl)) ?_)
  (refine kind_firm (v := ?_) rfl ?_ ?_; rotate_left; (focus (intro K w' hg hK; have hc1 := (kb.drew.after hg).cell; go_simp; exact hK _ (Grow.refl _))); refine kinds_put (by (simp only [Act.put, List.setIfInBounds_toArray, List.set_cons_succ, List.set_cons_zero]; try rfl)) ?_)
  (refine kind_firm (v := ?_) rfl ?_ ?_; rotate_left; (focus (intro K w' hg hK; go_simp; refine Calls.mono (way_times (kF.drew.after hg) a b hb) ?_; rintro e w'' ⟨rfl, hb⟩; refine ⟨_, rfl, ?_⟩; exact hK _ hb)); refine kinds_put (by (simp only [Act.put, List.setIfInBounds_toArray, List.set_cons_succ, List.set_cons_zero]; try rfl)) ?_)
  (refine kind_pure (v := ?_) rfl ?_ ?_; rotate_left; (focus (intro K w' hK; go_simp; exact hK)); refine kinds_put (by (simp only [Act.put, List.setIfInBounds_toArray, List.set_cons_succ, List.set_cons_zero]; try rfl)) ?_)
  (refine kind_pure (v := ?_) rfl ?_ ?_; rotate_left; (focus (intro K w' hK; go_simp; exact hK)); refine kinds_put (by (simp only [Act.put, List.setIfInBounds_toArray, List.set_cons_succ, List.set_cons_zero]; try rfl)) ?_)
  (refine kind_pure (v := ?_) rfl ?_ ?_; rotate_left; (focus (intro K w' hK; go_simp; exact hK)); refine kinds_put (by (simp only [Act.put, List.setIfInBounds_toArray, List.set_cons_succ, List.set_cons_zero]; try rfl)) ?_)
  (refine kind_loose rfl ?_; intro K wa2 ga2 hK; go_simp; refine hK _ _ (grow_alloc _ _) ?_; clear hK K)
  (refine kind_store rfl rfl ?_; intro K wb2 gb2 hK; have hs := new_num gb2; have sc := hs.cell; have sf := hs.frozen; go_simp; refine hK _ _ ?_; clear hK K)
  refine kind_end ?_
  intro w7 h7
  replace kq := put_num _ _ _ _ kq.drew ga2 gb2 h7
  have kd := put_new _ _ _ _ gb2 h7
  replace bw := put_below _ _ _ _ bw.drew bw.size ga2 gb2 h7
  clear sc sf hs h7 gb2 ga2 ks kb kF
  obtain ⟨kq_c, kq_f, kq_l, kq_m, _⟩ := kq.knows
  obtain ⟨kd_c, kd_f, kd_l, kd_m, _⟩ := kd.knows
  go_wp2
  have kf := (kq.put4 (.int .u64 (lb (fmlN base a b) 0)) (.int .u64 (lb (fmlN base a b) 1)) (.int .u64 (lb (fmlN base a b) 2)) (.int .u64 (lb (fmlN base a b) 3))).knows
  obtain ⟨kf_c, kf_f, kf_l, _⟩ := kf
  refine bodyPost_ret (v := num (fmlN base a b)) (by simp [results, Try.results51, go_sem, kf_c, kf_l]) rfl ?_
  exact ⟨rfl, by go_grown⟩
theorem check_in (a : Nat) (h : a < pN base) : Calls Try.prog 33 #[.pointer (some ⟨f, 0, none⟩), num a] w fun e w' => e = .returned (.int .i64 0) ∧ Below w.heap.size w w' := by
  have h1 := check_any a hF (lt_RR h)
  rw [chkN_def, if_pos h] at h1
  exact h1
theorem check_out (a : Nat) (ha : a < RR) (h : ¬ a < pN base) : Calls Try.prog 33 #[.pointer (some ⟨f, 0, none⟩), num a] w fun e w' => e = .returned (.int .i64 20) ∧ Below w.heap.size w w' := by
  have h1 := check_any a hF ha
  rw [chkN_def, if_neg h] at h1
  exact h1
set_option maxHeartbeats 2000000 in
theorem two_nox (F : Nat) (a b : Nat) (ha : a < RR) (h : ¬ a < pN base) : Calls Try.prog 56 #[.pointer (some ⟨f, 0, none⟩), .func (.func F) #[.pointer (some ⟨f, 0, none⟩)] #[], num a, num b] w fun e w' => e = .returned (.tuple #[num 0, .int .i64 20]) ∧ Below w.heap.size w w' := by
  rw [num_zero]
  go_enter Try.func56, Try.ntmps56
  go_wp2_with fail; (with_reducible refine (check_out ((hF.alloc _).alloc _ |>.alloc _) a ha h).mono ?_); rintro e w1 ⟨rfl, h1⟩; have ka := (((Blk.newAt (n := w.heap.size) _ _ _ (by first | rfl | simp)).alloc _).alloc _).after h1; have kb := ((Blk.newAt (n := w.heap.size + 1) _ _ _ (by first | rfl | simp)).alloc _).after h1; have kq := (Blk.newAt (n := w.heap.size + 1 + 1) _ _ _ (by first | rfl | simp)).after h1; have bw := below_call h1 (w := w) (by go_grown); obtain ⟨ka_c, ka_f, ka_l, ka_m, _⟩ := ka.knows; obtain ⟨kb_c, kb_f, kb_l, kb_m, _⟩ := kb.knows; obtain ⟨kq_c, kq_f, kq_l, kq_m, _⟩ := kq.knows
  go_wp2
  have kf := (kq.put4 (.int .u64 0) (.int .u64 0) (.int .u64 0) (.int .u64 0)).knows
  obtain ⟨kf_c, kf_f, kf_l, _⟩ := kf
  refine bodyPost_ret (v := .tuple #[zeroV, .int .i64 20]) (by simp [results, Try.results56, go_sem, kf_c, kf_l]) rfl ?_
  exact ⟨rfl, by go_grown⟩
set_option maxHeartbeats 2000000 in
theorem two_noy (F : Nat) (a b : Nat) (hb : b < RR) (h : a < pN base) (h' : ¬ b < pN base) : Calls Try.prog 56 #[.pointer (some ⟨f, 0, none⟩), .func (.func F) #[.pointer (some ⟨f, 0, none⟩)] #[], num a, num b] w fun e w' => e = .returned (.tuple #[num 0, .int .i64 20]) ∧ Below w.heap.size w w' := by
  rw [num_zero]
  go_enter Try.func56, Try.ntmps56
  go_wp2_with fail; (with_reducible refine (check_in ((hF.alloc _).alloc _ |>.alloc _) a h).mono ?_); rintro e w1 ⟨rfl, h1⟩; have ka := (((Blk.newAt (n := w.heap.size) _ _ _ (by first | rfl | simp)).alloc _).alloc _).after h1; have kb := ((Blk.newAt (n := w.heap.size + 1) _ _ _ (by first | rfl | simp)).alloc _).after h1; have kq := (Blk.newAt (n := w.heap.size + 1 + 1) _ _ _ (by first | rfl | simp)).after h1; have bw := below_call h1 (w := w) (by go_grown); obtain ⟨ka_c, ka_f, ka_l, ka_m, _⟩ := ka.knows; obtain ⟨kb_c, kb_f, kb_l, kb_m, _⟩ := kb.knows; obtain ⟨kq_c, kq_f, kq_l, kq_m, _⟩ := kq.knows
  go_wp2_with fail; (with_reducible refine (check_out (hF.after bw) b hb h').mono ?_); rintro e w2 ⟨rfl, h2⟩; clear ka_c ka_f ka_l ka_m kb_c kb_f kb_l kb_m kq_c kq_f kq_l kq_m; (first | replace ka := ka.after h2 | replace ka := (ka.alloc _).after h2 | replace ka := ((ka.alloc _).alloc _).after h2 | replace ka := ka.drew.after h2 | replace ka := (ka.alloc _).drew.after h2 | replace ka := (ka.drew.alloc _).after h2); (first | replace kb := kb.after h2 | replace kb := (kb.alloc _).after h2 | replace kb := ((kb.alloc _).alloc _).after h2 | replace kb := kb.drew.after h2 | replace kb := (kb.alloc _).drew.after h2 | replace kb := (kb.drew.alloc _).after h2); (first | replace kq := kq.after h2 | replace kq := (kq.alloc _).after h2 | replace kq := ((kq.alloc _).alloc _).after h2 | replace kq := kq.drew.after h2 | replace kq := (kq.alloc _).drew.after h2 | replace kq := (kq.drew.alloc _).after h2); have bwsz := Below.size bw; replace bw := below_call h2 (w := w) (by go_grown); clear h2 bwsz; obtain ⟨ka_c, ka_f, ka_l, ka_m, _⟩ := ka.knows; obtain ⟨kb_c, kb_f, kb_l, kb_m, _⟩ := kb.knows; obtain ⟨kq_c, kq_f, kq_l, kq_m, _⟩ := kq.knows
  go_wp2
  have kf := (kq.put4 (.int .u64 0) (.int .u64 0) (.int .u64 0) (.int .u64 0)).knows
  obtain ⟨kf_c, kf_f, kf_l, _⟩ := kf
  refine bodyPost_ret (v := .tuple #[zeroV, .int .i64 20]) (by simp [results, Try.results56, go_sem, kf_c, kf_l]) rfl ?_
  exact ⟨rfl, by go_grown⟩
set_option maxHeartbeats 2000000 in
theorem two_plus (a b : Nat) (h : a < pN base) (h' : b < pN base) :
    Calls Try.prog 56 #[.pointer (some ⟨f, 0, none⟩), .func (.func 65) #[.pointer (some ⟨f, 0, none⟩)] #[], num a, num b] w fun e w' => e = .returned (.tuple #[num (fadN base a b), .int .i64 0]) ∧ Below w.heap.size w w' := by
  go_enter Try.func56, Try.ntmps56
  go_wp2_with fail; (with_reducible refine (check_in ((hF.alloc _).alloc _ |>.alloc _) a h).mono ?_); rintro e w1 ⟨rfl, h1⟩; have ka := (((Blk.newAt (n := w.heap.size) _ _ _ (by first | rfl | simp)).alloc _).alloc _).after h1; have kb := ((Blk.newAt (n := w.heap.size + 1) _ _ _ (by first | rfl | simp)).alloc _).after h1; have kq := (Blk.newAt (n := w.heap.size + 1 + 1) _ _ _ (by first | rfl | simp)).after h1; have bw := below_call h1 (w := w) (by go_grown); obtain ⟨ka_c, ka_f, ka_l, ka_m, _⟩ := ka.knows; obtain ⟨kb_c, kb_f, kb_l, kb_m, _⟩ := kb.knows; obtain ⟨kq_c, kq_f, kq_l, kq_m, _⟩ := kq.knows
  go_wp2_with fail; (with_reducible refine (check_in (hF.after bw) b h').mono ?_); rintro e w2 ⟨rfl, h2⟩; clear ka_c ka_f ka_l ka_m kb_c kb_f kb_l kb_m kq_c kq_f kq_l kq_m; (first | replace ka := ka.after h2 | replace ka := (ka.alloc _).after h2 | replace ka := ((ka.alloc _).alloc _).after h2 | replace ka := ka.drew.after h2 | replace ka := (ka.alloc _).drew.after h2 | replace ka := (ka.drew.alloc _).after h2); (first | replace kb := kb.after h2 | replace kb := (kb.alloc _).after h2 | replace kb := ((kb.alloc _).alloc _).after h2 | replace kb := kb.drew.after h2 | replace kb := (kb.alloc _).drew.after h2 | replace kb := (kb.drew.alloc _).after h2); (first | replace kq := kq.after h2 | replace kq := (kq.alloc _).after h2 | replace kq := ((kq.alloc _).alloc _).after h2 | replace kq := kq.drew.after h2 | replace kq := (kq.alloc _).drew.after h2 | replace kq := (kq.drew.alloc _).after h2); have bwsz := Below.size bw; replace bw := below_call h2 (w := w) (by go_grown); clear h2 bwsz; obtain ⟨ka_c, ka_f, ka_l, ka_m, _⟩ := ka.knows; obtain ⟨kb_c, kb_f, kb_l, kb_m, _⟩ := kb.knows; obtain ⟨kq_c, kq_f, kq_l, kq_m, _⟩ := kq.knows
  go_wp2_with fail; (with_reducible refine (fplus_any a b (hF.after bw) h h').mono ?_); rintro e w3 ⟨rfl, h3⟩; clear ka_c ka_f ka_l ka_m kb_c kb_f kb_l kb_m kq_c kq_f kq_l kq_m; (first | replace ka := ka.after h3 | replace ka := (ka.alloc _).after h3 | replace ka := ((ka.alloc _).alloc _).after h3 | replace ka := ka.drew.after h3 | replace ka := (ka.alloc _).drew.after h3 | replace ka := (ka.drew.alloc _).after h3); (first | replace kb := kb.after h3 | replace kb := (kb.alloc _).after h3 | replace kb := ((kb.alloc _).alloc _).after h3 | replace kb := kb.drew.after h3 | replace kb := (kb.alloc _).drew.after h3 | replace kb := (kb.drew.alloc _).after h3); (first | replace kq := kq.after h3 | replace kq := (kq.alloc _).after h3 | replace kq := ((kq.alloc _).alloc _).after h3 | replace kq := kq.drew.after h3 | replace kq := (kq.alloc _).drew.after h3 | replace kq := (kq.drew.alloc _).after h3); have bwsz := Below.size bw; replace bw := below_call h3 (w := w) (by go_grown); clear h3 bwsz; obtain ⟨ka_c, ka_f, ka_l, ka_m, _⟩ := ka.knows; obtain ⟨kb_c, kb_f, kb_l, kb_m, _⟩ := kb.knows; obtain ⟨kq_c, kq_f, kq_l, kq_m, _⟩ := kq.knows
  go_wp2
  have kf := (kq.put4 (.int .u64 (lb (fadN base a b) 0)) (.int .u64 (lb (fadN base a b) 1)) (.int .u64 (lb (fadN base a b) 2)) (.int .u64 (lb (fadN base a b) 3))).knows
  obtain ⟨kf_c, kf_f, kf_l, _⟩ := kf
  refine bodyPost_ret (v := .tuple #[num (fadN base a b), .int .i64 0]) (by simp [results, Try.results56, go_sem, kf_c, kf_l]) rfl ?_
  exact ⟨rfl, by go_grown⟩
set_option maxHeartbeats 2000000 in
theorem two_minus (a b : Nat) (h : a < pN base) (h' : b < pN base) :
    Calls Try.prog 56 #[.pointer (some ⟨f, 0, none⟩), .func (.func 53) #[.pointer (some ⟨f, 0, none⟩)] #[], num a, num b] w fun e w' => e = .returned (.tuple #[num (fsbN base a b), .int .i64 0]) ∧ Below w.heap.size w w' := by
  go_enter Try.func56, Try.ntmps56
  go_wp2_with fail; (with_reducible refine (check_in ((hF.alloc _).alloc _ |>.alloc _) a h).mono ?_); rintro e w1 ⟨rfl, h1⟩; have ka := (((Blk.newAt (n := w.heap.size) _ _ _ (by first | rfl | simp)).alloc _).alloc _).after h1; have kb := ((Blk.newAt (n := w.heap.size + 1) _ _ _ (by first | rfl | simp)).alloc _).after h1; have kq := (Blk.newAt (n := w.heap.size + 1 + 1) _ _ _ (by first | rfl | simp)).after h1; have bw := below_call h1 (w := w) (by go_grown); obtain ⟨ka_c, ka_f, ka_l, ka_m, _⟩ := ka.knows; obtain ⟨kb_c, kb_f, kb_l, kb_m, _⟩ := kb.knows; obtain ⟨kq_c, kq_f, kq_l, kq_m, _⟩ := kq.knows
  go_wp2_with fail; (with_reducible refine (check_in (hF.after bw) b h').mono ?_); rintro e w2 ⟨rfl, h2⟩; clear ka_c ka_f ka_l ka_m kb_c kb_f kb_l kb_m kq_c kq_f kq_l kq_m; (first | replace ka := ka.after h2 | replace ka := (ka.alloc _).after h2 | replace ka := ((ka.alloc _).alloc _).after h2 | replace ka := ka.drew.after h2 | replace ka := (ka.alloc _).drew.after h2 | replace ka := (ka.drew.alloc _).after h2); (first | replace kb := kb.after h2 | replace kb := (kb.alloc _).after h2 | replace kb := ((kb.alloc _).alloc _).after h2 | replace kb := kb.drew.after h2 | replace kb := (kb.alloc _).drew.after h2 | replace kb := (kb.drew.alloc _).after h2); (first | replace kq := kq.after h2 | replace kq := (kq.alloc _).after h2 | replace kq := ((kq.alloc _).alloc _).after h2 | replace kq := kq.drew.after h2 | replace kq := (kq.alloc _).drew.after h2 | replace kq := (kq.drew.alloc _).after h2); have bwsz := Below.size bw; replace bw := below_call h2 (w := w) (by go_grown); clear h2 bwsz; obtain ⟨ka_c, ka_f, ka_l, ka_m, _⟩ := ka.knows; obtain ⟨kb_c, kb_f, kb_l, kb_m, _⟩ := kb.knows; obtain ⟨kq_c, kq_f, kq_l, kq_m, _⟩ := kq.knows
  go_wp2_with fail; (with_reducible refine (fminus_any a b (hF.after bw) h h').mono ?_); rintro e w3 ⟨rfl, h3⟩; clear ka_c ka_f ka_l ka_m kb_c kb_f kb_l kb_m kq_c kq_f kq_l kq_m; (first | replace ka := ka.after h3 | replace ka := (ka.alloc _).after h3 | replace ka := ((ka.alloc _).alloc _).after h3 | replace ka := ka.drew.after h3 | replace ka := (ka.alloc _).drew.after h3 | replace ka := (ka.drew.alloc _).after h3); (first | replace kb := kb.after h3 | replace kb := (kb.alloc _).after h3 | replace kb := ((kb.alloc _).alloc _).after h3 | replace kb := kb.drew.after h3 | replace kb := (kb.alloc _).drew.after h3 | replace kb := (kb.drew.alloc _).after h3); (first | replace kq := kq.after h3 | replace kq := (kq.alloc _).after h3 | replace kq := ((kq.alloc _).alloc _).after h3 | replace kq := kq.drew.after h3 | replace kq := (kq.alloc _).drew.after h3 | replace kq := (kq.drew.alloc _).after h3); have bwsz := Below.size bw; replace bw := below_call h3 (w := w) (by go_grown); clear h3 bwsz; obtain ⟨ka_c, ka_f, ka_l, ka_m, _⟩ := ka.knows; obtain ⟨kb_c, kb_f, kb_l, kb_m, _⟩ := kb.knows; obtain ⟨kq_c, kq_f, kq_l, kq_m, _⟩ := kq.knows
  go_wp2
  have kf := (kq.put4 (.int .u64 (lb (fsbN base a b) 0)) (.int .u64 (lb (fsbN base a b) 1)) (.int .u64 (lb (fsbN base a b) 2)) (.int .u64 (lb (fsbN base a b) 3))).knows
  obtain ⟨kf_c, kf_f, kf_l, _⟩ := kf
  refine bodyPost_ret (v := .tuple #[num (fsbN base a b), .int .i64 0]) (by simp [results, Try.results56, go_sem, kf_c, kf_l]) rfl ?_
  exact ⟨rfl, by go_grown⟩
set_option maxHeartbeats 2000000 in
theorem two_times (a b : Nat) (h : a < pN base) (h' : b < pN base) :
    Calls Try.prog 56 #[.pointer (some ⟨f, 0, none⟩), .func (.func 51) #[.pointer (some ⟨f, 0, none⟩)] #[], num a, num b] w fun e w' => e = .returned (.tuple #[num (fmlN base a b), .int .i64 0]) ∧ Below w.heap.size w w' := by
  go_enter Try.func56, Try.ntmps56
  go_wp2_with fail; (with_reducible refine (check_in ((hF.alloc _).alloc _ |>.alloc _) a h).mono ?_); rintro e w1 ⟨rfl, h1⟩; have ka := (((Blk.newAt (n := w.heap.size) _ _ _ (by first | rfl | simp)).alloc _).alloc _).after h1; have kb := ((Blk.newAt (n := w.heap.size + 1) _ _ _ (by first | rfl | simp)).alloc _).after h1; have kq := (Blk.newAt (n := w.heap.size + 1 + 1) _ _ _ (by first | rfl | simp)).after h1; have bw := below_call h1 (w := w) (by go_grown); obtain ⟨ka_c, ka_f, ka_l, ka_m, _⟩ := ka.knows; obtain ⟨kb_c, kb_f, kb_l, kb_m, _⟩ := kb.knows; obtain ⟨kq_c, kq_f, kq_l, kq_m, _⟩ := kq.knows
  go_wp2_with fail; (with_reducible refine (check_in (hF.after bw) b h').mono ?_); rintro e w2 ⟨rfl, h2⟩; clear ka_c ka_f ka_l ka_m kb_c kb_f kb_l kb_m kq_c kq_f kq_l kq_m; (first | replace ka := ka.after h2 | replace ka := (ka.alloc _).after h2 | replace ka := ((ka.alloc _).alloc _).after h2 | replace ka := ka.drew.after h2 | replace ka := (ka.alloc _).drew.after h2 | replace ka := (ka.drew.alloc _).after h2); (first | replace kb := kb.after h2 | replace kb := (kb.alloc _).after h2 | replace kb := ((kb.alloc _).alloc _).after h2 | replace kb := kb.drew.after h2 | replace kb := (kb.alloc _).drew.after h2 | replace kb := (kb.drew.alloc _).after h2); (first | replace kq := kq.after h2 | replace kq := (kq.alloc _).after h2 | replace kq := ((kq.alloc _).alloc _).after h2 | replace kq := kq.drew.after h2 | replace kq := (kq.alloc _).drew.after h2 | replace kq := (kq.drew.alloc _).after h2); have bwsz := Below.size bw; replace bw := below_call h2 (w := w) (by go_grown); clear h2 bwsz; obtain ⟨ka_c, ka_f, ka_l, ka_m, _⟩ := ka.knows; obtain ⟨kb_c, kb_f, kb_l, kb_m, _⟩ := kb.knows; obtain ⟨kq_c, kq_f, kq_l, kq_m, _⟩ := kq.knows
  go_wp2_with fail; (with_reducible refine (ftimes_any (hF.after bw) a b h h').mono ?_); rintro e w3 ⟨rfl, h3⟩; clear ka_c ka_f ka_l ka_m kb_c kb_f kb_l kb_m kq_c kq_f kq_l kq_m; (first | replace ka := ka.after h3 | replace ka := (ka.alloc _).after h3 | replace ka := ((ka.alloc _).alloc _).after h3 | replace ka := ka.drew.after h3 | replace ka := (ka.alloc _).drew.after h3 | replace ka := (ka.drew.alloc _).after h3); (first | replace kb := kb.after h3 | replace kb := (kb.alloc _).after h3 | replace kb := ((kb.alloc _).alloc _).after h3 | replace kb := kb.drew.after h3 | replace kb := (kb.alloc _).drew.after h3 | replace kb := (kb.drew.alloc _).after h3); (first | replace kq := kq.after h3 | replace kq := (kq.alloc _).after h3 | replace kq := ((kq.alloc _).alloc _).after h3 | replace kq := kq.drew.after h3 | replace kq := (kq.alloc _).drew.after h3 | replace kq := (kq.drew.alloc _).after h3); have bwsz := Below.size bw; replace bw := below_call h3 (w := w) (by go_grown); clear h3 bwsz; obtain ⟨ka_c, ka_f, ka_l, ka_m, _⟩ := ka.knows; obtain ⟨kb_c, kb_f, kb_l, kb_m, _⟩ := kb.knows; obtain ⟨kq_c, kq_f, kq_l, kq_m, _⟩ := kq.knows
  go_wp2
  have kf := (kq.put4 (.int .u64 (lb (fmlN base a b) 0)) (.int .u64 (lb (fmlN base a b) 1)) (.int .u64 (lb (fmlN base a b) 2)) (.int .u64 (lb (fmlN base a b) 3))).knows
  obtain ⟨kf_c, kf_f, kf_l, _⟩ := kf
  refine bodyPost_ret (v := .tuple #[num (fmlN base a b), .int .i64 0]) (by simp [results, Try.results56, go_sem, kf_c, kf_l]) rfl ?_
  exact ⟨rfl, by go_grown⟩
set_option maxHeartbeats 2000000 in
theorem fadd_nox (a b : Nat) (ha : a < RR) (h : ¬ a < pN base) : Calls Try.prog 30 #[.pointer (some ⟨f, 0, none⟩), num a, num b] w fun e w' => e = .returned (.tuple #[num 0, .int .i64 20]) ∧ Below w.heap.size w w' := by
  go_enter Try.func30, Try.ntmps30
  go_wp2_with fail; (with_reducible refine (two_nox ((hF.alloc _).alloc _ |>.alloc _) 65 a b ha h).mono ?_); rintro e w1 ⟨rfl, h1⟩; have ka := (((Blk.newAt (n := w.heap.size) _ _ _ (by first | rfl | simp)).alloc _).alloc _).after h1; have kb := ((Blk.newAt (n := w.heap.size + 1) _ _ _ (by first | rfl | simp)).alloc _).after h1; have kq := (Blk.newAt (n := w.heap.size + 1 + 1) _ _ _ (by first | rfl | simp)).after h1; have bw := below_call h1 (w := w) (by go_grown); obtain ⟨ka_c, ka_f, ka_l, ka_m, _⟩ := ka.knows; obtain ⟨kb_c, kb_f, kb_l, kb_m, _⟩ := kb.knows; obtain ⟨kq_c, kq_f, kq_l, kq_m, _⟩ := kq.knows
  go_wp2
  have kf := (kq.put4 (.int .u64 (lb 0 0)) (.int .u64 (lb 0 1)) (.int .u64 (lb 0 2)) (.int .u64 (lb 0 3))).knows
  obtain ⟨kf_c, kf_f, kf_l, _⟩ := kf
  refine bodyPost_ret (v := .tuple #[num 0, .int .i64 20]) (by simp [results, Try.results30, go_sem, kf_c, kf_l]) rfl ?_
  exact ⟨rfl, by go_grown⟩
set_option maxHeartbeats 2000000 in
theorem fadd_noy (a b : Nat) (hb : b < RR) (h : a < pN base) (h' : ¬ b < pN base) : Calls Try.prog 30 #[.pointer (some ⟨f, 0, none⟩), num a, num b] w fun e w' => e = .returned (.tuple #[num 0, .int .i64 20]) ∧ Below w.heap.size w w' := by
  go_enter Try.func30, Try.ntmps30
  go_wp2_with fail; (with_reducible refine (two_noy ((hF.alloc _).alloc _ |>.alloc _) 65 a b hb h h').mono ?_); rintro e w1 ⟨rfl, h1⟩; have ka := (((Blk.newAt (n := w.heap.size) _ _ _ (by first | rfl | simp)).alloc _).alloc _).after h1; have kb := ((Blk.newAt (n := w.heap.size + 1) _ _ _ (by first | rfl | simp)).alloc _).after h1; have kq := (Blk.newAt (n := w.heap.size + 1 + 1) _ _ _ (by first | rfl | simp)).after h1; have bw := below_call h1 (w := w) (by go_grown); obtain ⟨ka_c, ka_f, ka_l, ka_m, _⟩ := ka.knows; obtain ⟨kb_c, kb_f, kb_l, kb_m, _⟩ := kb.knows; obtain ⟨kq_c, kq_f, kq_l, kq_m, _⟩ := kq.knows
  go_wp2
  have kf := (kq.put4 (.int .u64 (lb 0 0)) (.int .u64 (lb 0 1)) (.int .u64 (lb 0 2)) (.int .u64 (lb 0 3))).knows
  obtain ⟨kf_c, kf_f, kf_l, _⟩ := kf
  refine bodyPost_ret (v := .tuple #[num 0, .int .i64 20]) (by simp [results, Try.results30, go_sem, kf_c, kf_l]) rfl ?_
  exact ⟨rfl, by go_grown⟩
set_option maxHeartbeats 2000000 in
theorem fadd_yes (a b : Nat) (h : a < pN base) (h' : b < pN base) : Calls Try.prog 30 #[.pointer (some ⟨f, 0, none⟩), num a, num b] w fun e w' => e = .returned (.tuple #[num (fadN base a b), .int .i64 0]) ∧ Below w.heap.size w w' := by
  go_enter Try.func30, Try.ntmps30
  go_wp2_with fail; (with_reducible refine (two_plus ((hF.alloc _).alloc _ |>.alloc _) a b h h').mono ?_); rintro e w1 ⟨rfl, h1⟩; have ka := (((Blk.newAt (n := w.heap.size) _ _ _ (by first | rfl | simp)).alloc _).alloc _).after h1; have kb := ((Blk.newAt (n := w.heap.size + 1) _ _ _ (by first | rfl | simp)).alloc _).after h1; have kq := (Blk.newAt (n := w.heap.size + 1 + 1) _ _ _ (by first | rfl | simp)).after h1; have bw := below_call h1 (w := w) (by go_grown); obtain ⟨ka_c, ka_f, ka_l, ka_m, _⟩ := ka.knows; obtain ⟨kb_c, kb_f, kb_l, kb_m, _⟩ := kb.knows; obtain ⟨kq_c, kq_f, kq_l, kq_m, _⟩ := kq.knows
  go_wp2
  have kf := (kq.put4 (.int .u64 (lb (fadN base a b) 0)) (.int .u64 (lb (fadN base a b) 1)) (.int .u64 (lb (fadN base a b) 2)) (.int .u64 (lb (fadN base a b) 3))).knows
  obtain ⟨kf_c, kf_f, kf_l, _⟩ := kf
  refine bodyPost_ret (v := .tuple #[num (fadN base a b), .int .i64 0]) (by simp [results, Try.results30, go_sem, kf_c, kf_l]) rfl ?_
  exact ⟨rfl, by go_grown⟩
set_option maxHeartbeats 2000000 in
theorem fsub_nox (a b : Nat) (ha : a < RR) (h : ¬ a < pN base) : Calls Try.prog 31 #[.pointer (some ⟨f, 0, none⟩), num a, num b] w fun e w' => e = .returned (.tuple #[num 0, .int .i64 20]) ∧ Below w.heap.size w w' := by
  go_enter Try.func31, Try.ntmps31
  go_wp2_with fail; (with_reducible refine (two_nox ((hF.alloc _).alloc _ |>.alloc _) 53 a b ha h).mono ?_); rintro e w1 ⟨rfl, h1⟩; have ka := (((Blk.newAt (n := w.heap.size) _ _ _ (by first | rfl | simp)).alloc _).alloc _).after h1; have kb := ((Blk.newAt (n := w.heap.size + 1) _ _ _ (by first | rfl | simp)).alloc _).after h1; have kq := (Blk.newAt (n := w.heap.size + 1 + 1) _ _ _ (by first | rfl | simp)).after h1; have bw := below_call h1 (w := w) (by go_grown); obtain ⟨ka_c, ka_f, ka_l, ka_m, _⟩ := ka.knows; obtain ⟨kb_c, kb_f, kb_l, kb_m, _⟩ := kb.knows; obtain ⟨kq_c, kq_f, kq_l, kq_m, _⟩ := kq.knows
  go_wp2
  have kf := (kq.put4 (.int .u64 (lb 0 0)) (.int .u64 (lb 0 1)) (.int .u64 (lb 0 2)) (.int .u64 (lb 0 3))).knows
  obtain ⟨kf_c, kf_f, kf_l, _⟩ := kf
  refine bodyPost_ret (v := .tuple #[num 0, .int .i64 20]) (by simp [results, Try.results31, go_sem, kf_c, kf_l]) rfl ?_
  exact ⟨rfl, by go_grown⟩
set_option maxHeartbeats 2000000 in
theorem fsub_noy (a b : Nat) (hb : b < RR) (h : a < pN base) (h' : ¬ b < pN base) : Calls Try.prog 31 #[.pointer (some ⟨f, 0, none⟩), num a, num b] w fun e w' => e = .returned (.tuple #[num 0, .int .i64 20]) ∧ Below w.heap.size w w' := by
  go_enter Try.func31, Try.ntmps31
  go_wp2_with fail; (with_reducible refine (two_noy ((hF.alloc _).alloc _ |>.alloc _) 53 a b hb h h').mono ?_); rintro e w1 ⟨rfl, h1⟩; have ka := (((Blk.newAt (n := w.heap.size) _ _ _ (by first | rfl | simp)).alloc _).alloc _).after h1; have kb := ((Blk.newAt (n := w.heap.size + 1) _ _ _ (by first | rfl | simp)).alloc _).after h1; have kq := (Blk.newAt (n := w.heap.size + 1 + 1) _ _ _ (by first | rfl | simp)).after h1; have bw := below_call h1 (w := w) (by go_grown); obtain ⟨ka_c, ka_f, ka_l, ka_m, _⟩ := ka.knows; obtain ⟨kb_c, kb_f, kb_l, kb_m, _⟩ := kb.knows; obtain ⟨kq_c, kq_f, kq_l, kq_m, _⟩ := kq.knows
  go_wp2
  have kf := (kq.put4 (.int .u64 (lb 0 0)) (.int .u64 (lb 0 1)) (.int .u64 (lb 0 2)) (.int .u64 (lb 0 3))).knows
  obtain ⟨kf_c, kf_f, kf_l, _⟩ := kf
  refine bodyPost_ret (v := .tuple #[num 0, .int .i64 20]) (by simp [results, Try.results31, go_sem, kf_c, kf_l]) rfl ?_
  exact ⟨rfl, by go_grown⟩
set_option maxHeartbeats 2000000 in
theorem fsub_yes (a b : Nat) (h : a < pN base) (h' : b < pN base) : Calls Try.prog 31 #[.pointer (some ⟨f, 0, none⟩), num a, num b] w fun e w' => e = .returned (.tuple #[num (fsbN base a b), .int .i64 0]) ∧ Below w.heap.size w w' := by
  go_enter Try.func31, Try.ntmps31
  go_wp2_with fail; (with_reducible refine (two_minus ((hF.alloc _).alloc _ |>.alloc _) a b h h').mono ?_); rintro e w1 ⟨rfl, h1⟩; have ka := (((Blk.newAt (n := w.heap.size) _ _ _ (by first | rfl | simp)).alloc _).alloc _).after h1; have kb := ((Blk.newAt (n := w.heap.size + 1) _ _ _ (by first | rfl | simp)).alloc _).after h1; have kq := (Blk.newAt (n := w.heap.size + 1 + 1) _ _ _ (by first | rfl | simp)).after h1; have bw := below_call h1 (w := w) (by go_grown); obtain ⟨ka_c, ka_f, ka_l, ka_m, _⟩ := ka.knows; obtain ⟨kb_c, kb_f, kb_l, kb_m, _⟩ := kb.knows; obtain ⟨kq_c, kq_f, kq_l, kq_m, _⟩ := kq.knows
  go_wp2
  have kf := (kq.put4 (.int .u64 (lb (fsbN base a b) 0)) (.int .u64 (lb (fsbN base a b) 1)) (.int .u64 (lb (fsbN base a b) 2)) (.int .u64 (lb (fsbN base a b) 3))).knows
  obtain ⟨kf_c, kf_f, kf_l, _⟩ := kf
  refine bodyPost_ret (v := .tuple #[num (fsbN base a b), .int .i64 0]) (by simp [results, Try.results31, go_sem, kf_c, kf_l]) rfl ?_
  exact ⟨rfl, by go_grown⟩
set_option maxHeartbeats 2000000 in
theorem fmul_nox (a b : Nat) (ha : a < RR) (h : ¬ a < pN base) : Calls Try.prog 22 #[.pointer (some ⟨f, 0, none⟩), num a, num b] w fun e w' => e = .returned (.tuple #[num 0, .int .i64 20]) ∧ Below w.heap.size w w' := by
  go_enter Try.func22, Try.ntmps22
  go_wp2_with fail; (with_reducible refine (two_nox ((hF.alloc _).alloc _ |>.alloc _) 51 a b ha h).mono ?_); rintro e w1 ⟨rfl, h1⟩; have ka := (((Blk.newAt (n := w.heap.size) _ _ _ (by first | rfl | simp)).alloc _).alloc _).after h1; have kb := ((Blk.newAt (n := w.heap.size + 1) _ _ _ (by first | rfl | simp)).alloc _).after h1; have kq := (Blk.newAt (n := w.heap.size + 1 + 1) _ _ _ (by first | rfl | simp)).after h1; have bw := below_call h1 (w := w) (by go_grown); obtain ⟨ka_c, ka_f, ka_l, ka_m, _⟩ := ka.knows; obtain ⟨kb_c, kb_f, kb_l, kb_m, _⟩ := kb.knows; obtain ⟨kq_c, kq_f, kq_l, kq_m, _⟩ := kq.knows
  go_wp2
  have kf := (kq.put4 (.int .u64 (lb 0 0)) (.int .u64 (lb 0 1)) (.int .u64 (lb 0 2)) (.int .u64 (lb 0 3))).knows
  obtain ⟨kf_c, kf_f, kf_l, _⟩ := kf
  refine bodyPost_ret (v := .tuple #[num 0, .int .i64 20]) (by simp [results, Try.results22, go_sem, kf_c, kf_l]) rfl ?_
  exact ⟨rfl, by go_grown⟩
set_option maxHeartbeats 2000000 in
theorem fmul_noy (a b : Nat) (hb : b < RR) (h : a < pN base) (h' : ¬ b < pN base) : Calls Try.prog 22 #[.pointer (some ⟨f, 0, none⟩), num a, num b] w fun e w' => e = .returned (.tuple #[num 0, .int .i64 20]) ∧ Below w.heap.size w w' := by
  go_enter Try.func22, Try.ntmps22
  go_wp2_with fail; (with_reducible refine (two_noy ((hF.alloc _).alloc _ |>.alloc _) 51 a b hb h h').mono ?_); rintro e w1 ⟨rfl, h1⟩; have ka := (((Blk.newAt (n := w.heap.size) _ _ _ (by first | rfl | simp)).alloc _).alloc _).after h1; have kb := ((Blk.newAt (n := w.heap.size + 1) _ _ _ (by first | rfl | simp)).alloc _).after h1; have kq := (Blk.newAt (n := w.heap.size + 1 + 1) _ _ _ (by first | rfl | simp)).after h1; have bw := below_call h1 (w := w) (by go_grown); obtain ⟨ka_c, ka_f, ka_l, ka_m, _⟩ := ka.knows; obtain ⟨kb_c, kb_f, kb_l, kb_m, _⟩ := kb.knows; obtain ⟨kq_c, kq_f, kq_l, kq_m, _⟩ := kq.knows
  go_wp2
  have kf := (kq.put4 (.int .u64 (lb 0 0)) (.int .u64 (lb 0 1)) (.int .u64 (lb 0 2)) (.int .u64 (lb 0 3))).knows
  obtain ⟨kf_c, kf_f, kf_l, _⟩ := kf
  refine bodyPost_ret (v := .tuple #[num 0, .int .i64 20]) (by simp [results, Try.results22, go_sem, kf_c, kf_l]) rfl ?_
  exact ⟨rfl, by go_grown⟩
set_option maxHeartbeats 2000000 in
theorem fmul_yes (a b : Nat) (h : a < pN base) (h' : b < pN base) : Calls Try.prog 22 #[.pointer (some ⟨f, 0, none⟩), num a, num b] w fun e w' => e = .returned (.tuple #[num (fmlN base a b), .int .i64 0]) ∧ Below w.heap.size w w' := by
  go_enter Try.func22, Try.ntmps22
  go_wp2_with fail; (with_reducible refine (two_times ((hF.alloc _).alloc _ |>.alloc _) a b h h').mono ?_); rintro e w1 ⟨rfl, h1⟩; have ka := (((Blk.newAt (n := w.heap.size) _ _ _ (by first | rfl | simp)).alloc _).alloc _).after h1; have kb := ((Blk.newAt (n := w.heap.size + 1) _ _ _ (by first | rfl | simp)).alloc _).after h1; have kq := (Blk.newAt (n := w.heap.size + 1 + 1) _ _ _ (by first | rfl | simp)).after h1; have bw := below_call h1 (w := w) (by go_grown); obtain ⟨ka_c, ka_f, ka_l, ka_m, _⟩ := ka.knows; obtain ⟨kb_c, kb_f, kb_l, kb_m, _⟩ := kb.knows; obtain ⟨kq_c, kq_f, kq_l, kq_m, _⟩ := kq.knows
  go_wp2
  have kf := (kq.put4 (.int .u64 (lb (fmlN base a b) 0)) (.int .u64 (lb (fmlN base a b) 1)) (.int .u64 (lb (fmlN base a b) 2)) (.int .u64 (lb (fmlN base a b) 3))).knows
  obtain ⟨kf_c, kf_f, kf_l, _⟩ := kf
  refine bodyPost_ret (v := .tuple #[num (fmlN base a b), .int .i64 0]) (by simp [results, Try.results22, go_sem, kf_c, kf_l]) rfl ?_
  exact ⟨rfl, by go_grown⟩
set_option maxHeartbeats 2000000 in
theorem fneg_yes (a : Nat) (h : a < pN base) : Calls Try.prog 23 #[.pointer (some ⟨f, 0, none⟩), num a] w fun e w' => e = .returned (.tuple #[num (fsbN base 0 a), .int .i64 0]) ∧ Below w.heap.size w w' := by
  have c : ∀ w1, FieldB w1 f g base → Calls Try.prog 31 #[.pointer (some ⟨f, 0, none⟩), zeroV, num a] w1 fun e w' => e = .returned (.tuple #[num (fsbN base 0 a), .int .i64 0]) ∧ Below w1.heap.size w1 w' := by
    intro w1 h1; rw [← num_zero]; exact fsub_yes h1 0 a (pN_pos base) h
  go_enter Try.func23, Try.ntmps23
  go_wp2_with fail; (with_reducible refine (c _ ((hF.alloc _).alloc _)).mono ?_); rintro e w1 ⟨rfl, h1⟩; have ka := ((Blk.newAt (n := w.heap.size) _ _ _ (by first | rfl | simp)).alloc _).after h1; have kq := (Blk.newAt (n := w.heap.size + 1) _ _ _ (by first | rfl | simp)).after h1; have bw := below_call h1 (w := w) (by go_grown); obtain ⟨ka_c, ka_f, ka_l, ka_m, _⟩ := ka.knows; obtain ⟨kq_c, kq_f, kq_l, kq_m, _⟩ := kq.knows
  go_wp2
  have kf := (kq.put4 (.int .u64 (lb (fsbN base 0 a) 0)) (.int .u64 (lb (fsbN base 0 a) 1)) (.int .u64 (lb (fsbN base 0 a) 2)) (.int .u64 (lb (fsbN base 0 a) 3))).knows
  obtain ⟨kf_c, kf_f, kf_l, _⟩ := kf
  refine bodyPost_ret (v := .tuple #[num (fsbN base 0 a), .int .i64 0]) (by simp [results, Try.results23, go_sem, kf_c, kf_l]) rfl ?_
  exact ⟨rfl, by go_grown⟩
set_option maxHeartbeats 2000000 in
theorem fneg_no (a : Nat) (ha : a < RR) (h : ¬ a < pN base) : Calls Try.prog 23 #[.pointer (some ⟨f, 0, none⟩), num a] w fun e w' => e = .returned (.tuple #[num 0, .int .i64 20]) ∧ Below w.heap.size w w' := by
  have c : ∀ w1, FieldB w1 f g base → Calls Try.prog 31 #[.pointer (some ⟨f, 0, none⟩), zeroV, num a] w1 fun e w' => e = .returned (.tuple #[num 0, .int .i64 20]) ∧ Below w1.heap.size w1 w' := by
    intro w1 h1; rw [← num_zero]; exact fsub_noy h1 0 a ha (pN_pos base) h
  go_enter Try.func23, Try.ntmps23
  go_wp2_with fail; (with_reducible refine (c _ ((hF.alloc _).alloc _)).mono ?_); rintro e w1 ⟨rfl, h1⟩; have ka := ((Blk.newAt (n := w.heap.size) _ _ _ (by first | rfl | simp)).alloc _).after h1; have kq := (Blk.newAt (n := w.heap.size + 1) _ _ _ (by first | rfl | simp)).after h1; have bw := below_call h1 (w := w) (by go_grown); obtain ⟨ka_c, ka_f, ka_l, ka_m, _⟩ := ka.knows; obtain ⟨kq_c, kq_f, kq_l, kq_m, _⟩ := kq.knows
  go_wp2
  have kf := (kq.put4 (.int .u64 (lb 0 0)) (.int .u64 (lb 0 1)) (.int .u64 (lb 0 2)) (.int .u64 (lb 0 3))).knows
  obtain ⟨kf_c, kf_f, kf_l, _⟩ := kf
  refine bodyPost_ret (v := .tuple #[num 0, .int .i64 20]) (by simp [results, Try.results23, go_sem, kf_c, kf_l]) rfl ?_
  exact ⟨rfl, by go_grown⟩
end
end Go.Proofs.Ytlibfjemdiochaa
