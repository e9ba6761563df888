/- Sums and differences of the two fields; which numbers are theirs. -/
import Derived.Test.YtlibfjemdiochaaFA
import Derived.Test.YtlibfjemdiochaaB
namespace Go.Proofs.Ytlibfjemdiochaa
set_option linter.unusedVariables false
set_option linter.unusedSimpArgs false
open Go.RowKit

theorem chkN_is : ∃ f : Bool → Nat → Int, ∀ b a, f b a = if a < pN b then 0 else 20 := ⟨fun b a => if a < pN b then 0 else 20, fun _ _ => rfl⟩
noncomputable def chkN : Bool → Nat → Int := Classical.choose chkN_is
theorem chkN_def (b : Bool) (a : Nat) : chkN b a = if a < pN b then 0 else 20 := Classical.choose_spec chkN_is b a
theorem fadN_is : ∃ f : Bool → Nat → Nat → Nat, ∀ b x y, f b x y = (x + y) % pN b := ⟨fun b x y => (x + y) % pN b, fun _ _ _ => rfl⟩
/-- A sum of the field. -/
noncomputable def fadN : Bool → Nat → Nat → Nat := Classical.choose fadN_is
theorem fadN_def (b : Bool) (x y : Nat) : fadN b x y = (x + y) % pN b := Classical.choose_spec fadN_is b x y
theorem fsbN_is : ∃ f : Bool → Nat → Nat → Nat, ∀ b x y, f b x y = (x + pN b - y) % pN b := ⟨fun b x y => (x + pN b - y) % pN b, fun _ _ _ => rfl⟩
/-- A difference of the field. -/
noncomputable def fsbN : Bool → Nat → Nat → Nat := Classical.choose fsbN_is
theorem fsbN_def (b : Bool) (x y : Nat) : fsbN b x y = (x + pN b - y) % pN b := Classical.choose_spec fsbN_is b x y
theorem pN_pos (b : Bool) : 0 < pN b := by have := pN_one b; omega
theorem fadN_lt (b : Bool) (x y : Nat) : fadN b x y < pN b := by rw [fadN_def]; exact Nat.mod_lt _ (pN_pos b)
theorem fsbN_lt (b : Bool) (x y : Nat) : fsbN b x y < pN b := by rw [fsbN_def]; exact Nat.mod_lt _ (pN_pos b)
theorem lt_RR {b : Bool} {x : Nat} (h : x < pN b) : x < RR := Nat.lt_trans h (pN_lt b)
theorem plus_pick (b : Bool) (x y : Nat) (hx : x < pN b) (hy : y < pN b) :
    selN (bits .or .u64 (ca x y 4) (1 - bo (addN x y) (pN b) 4)) (subN (addN x y) (pN b)) (addN x y) = fadN b x y := by
  have hm := pN_lt b
  have c := ca_four x y (lt_RR hx) (lt_RR hy)
  have c0 := ca_lo x y 4
  have c1 := ca_hi x y 4
  have b0 := bo_lo (addN x y) (pN b) 4
  have b1 := bo_hi (addN x y) (pN b) 4
  rw [fadN_def]
  refine final_sub (x + y) ((x + y) / RR) _ _ hm (by omega) (addN_lt _ _) ?_ _ rfl _ ?_
  · rw [addN_def, Nat.mul_comm]; exact (Nat.div_add_mod _ _).symm
  · rw [or_parity _ _ (by omega) (by omega), c]
    by_cases h : (x + y) / RR = 1
    · rw [if_pos (by omega), if_pos h]
    · rw [if_neg (by omega), if_neg h]
theorem minus_pick (b : Bool) (x y : Nat) (hx : x < pN b) (hy : y < pN b) : selN (bo x y 4) (addN (subN x y) (pN b)) (subN x y) = fsbN b x y := by
  have hm := pN_lt b
  have c := bo_four x y (lt_RR hx) (lt_RR hy)
  rw [selN_def, fsbN_def, addN_def, subN_def, c]
  generalize pN b = p at *
  by_cases h : x < y
  · rw [if_pos h, if_pos (by decide), Nat.mod_eq_of_lt (show x + RR - y < RR by omega), show x + RR - y + p = x + p - y + RR by omega, Nat.add_mod_right, Nat.mod_eq_of_lt (show x + p - y < RR by omega), Nat.mod_eq_of_lt (by omega)]
  · rw [if_neg h, if_neg (by decide), show x + RR - y = x - y + RR by omega, Nat.add_mod_right, Nat.mod_eq_of_lt (show x - y < RR by omega), show x + p - y = x - y + p by omega, Nat.add_mod_right, Nat.mod_eq_of_lt (by omega)]
set_option maxHeartbeats 2000000 in
theorem check_any {base : Bool} {f g : Nat} (a : Nat) {w : World} (hF : FieldB w f g base) (ha : a < RR) : Calls Try.prog 33 #[.pointer (some ⟨f, 0, none⟩), num a] w fun e w' => e = .returned (.int .i64 (chkN base a)) ∧ Below w.heap.size w w' := by
  have hm := pN_lt base
  by_cases h : a < pN base
  · have cN : decide (0 ≤ cmpN a (pN base)) = false := by rw [cmpN_def, if_pos h]; rfl
    have cP : ¬ 0 ≤ cmpN a (pN base) := of_decide_eq_false cN
    rw [chkN_def, if_pos h]
    go_enter Try.func33, Try.ntmps33
    go_upto_region 3 with (fail)
    have ka := Blk.new w 24 #[.int .u64 (lb (a) 0), .int .u64 (lb (a) 1), .int .u64 (lb (a) 2), .int .u64 (lb (a) 3)]
    have kF := hF.1.alloc (.cells #[.int .u64 (lb (a) 0), .int .u64 (lb (a) 1), .int .u64 (lb (a) 2), .int .u64 (lb (a) 3)] 24)
    have bw : Below w.heap.size w (w.alloc (.cells #[.int .u64 (lb (a) 0), .int .u64 (lb (a) 1), .int .u64 (lb (a) 2), .int .u64 (lb (a) 3)] 24)) := by go_grown
    generalize w.alloc (.cells #[.int .u64 (lb (a) 0), .int .u64 (lb (a) 1), .int .u64 (lb (a) 2), .int .u64 (lb (a) 3)] 24) = W1 at *
    refine wp_region_kinds [] 7 [(0, 0), (1, 0), (2, 0), (3, 0), (4, 0), (5, 0), (6, 1)] (by kernel_rfl) (by kernel_rfl) ?_
    (refine kind_firm (v := ?_) rfl ?_ ?_; rotate_left; (focus (intro K w' hg hK; have hc1 := (ka.drew.after hg).cell; go_simp; exact hK _ (Grow.refl _))); refine kinds_put (by (simp only [Act.put, List.setIfInBounds_toArray, List.set_cons_succ, List.set_cons_zero]; try rfl)) ?_)
    (refine kind_firm (v := ?_) rfl ?_ ?_; rotate_left; (focus (intro K w' hg hK; go_simp; exact hK _ (Grow.refl _))); refine kinds_put (by (simp only [Act.put, List.setIfInBounds_toArray, List.set_cons_succ, List.set_cons_zero]; try rfl)) ?_)
    (refine kind_firm (v := ?_) rfl ?_ ?_; rotate_left; (focus (intro K w' hg hK; go_simp; exact hK _ (Grow.refl _))); refine kinds_put (by (simp only [Act.put, List.setIfInBounds_toArray, List.set_cons_succ, List.set_cons_zero]; try rfl)) ?_)
    (refine kind_firm (v := ?_) rfl ?_ ?_; rotate_left; (focus (intro K w' hg hK; go_simp; exact hK _ (Grow.refl _))); refine kinds_put (by (simp only [Act.put, List.setIfInBounds_toArray, List.set_cons_succ, List.set_cons_zero]; try rfl)) ?_)
    (refine kind_firm (v := ?_) rfl ?_ ?_; rotate_left; (focus (intro K w' hg hK; have hc1 := (kF.drew.after hg).cell; go_simp; exact hK _ (Grow.refl _))); refine kinds_put (by (simp only [Act.put, List.setIfInBounds_toArray, List.set_cons_succ, List.set_cons_zero]; try rfl)) ?_)
    (refine kind_firm (v := ?_) rfl ?_ ?_; rotate_left; (focus (intro K w' hg hK; go_simp; refine Calls.mono (cmp_any a (pN base) ha hm _) ?_; rintro e w'' ⟨rfl, hb⟩; refine ⟨_, rfl, ?_⟩; exact hK _ hb)); refine kinds_put (by (simp only [Act.put, List.setIfInBounds_toArray, List.set_cons_succ, List.set_cons_zero]; try rfl)) ?_)
    (refine kind_pure (v := ?_) rfl ?_ ?_; rotate_left; (focus (intro K w' hK; go_simp; exact hK)); refine kinds_put (by (simp only [Act.put, List.setIfInBounds_toArray, List.set_cons_succ, List.set_cons_zero]; try rfl)) ?_)
    refine kind_end ?_
    intro w6 h6
    replace bw := below_call h6 bw.drew
    go_wp2
    go_ret
    exact ⟨rfl, by go_grown⟩
  · have cN : decide (0 ≤ cmpN a (pN base)) = true := by rw [cmpN_def, if_neg h]; split <;> rfl
    have cP : 0 ≤ cmpN a (pN base) := of_decide_eq_true cN
    rw [chkN_def, if_neg h]
    go_enter Try.func33, Try.ntmps33
    go_upto_region 3 with (fail)
    have ka := Blk.new w 24 #[.int .u64 (lb (a) 0), .int .u64 (lb (a) 1), .int .u64 (lb (a) 2), .int .u64 (lb (a) 3)]
    have kF := hF.1.alloc (.cells #[.int .u64 (lb (a) 0), .int .u64 (lb (a) 1), .int .u64 (lb (a) 2), .int .u64 (lb (a) 3)] 24)
    have bw : Below w.heap.size w (w.alloc (.cells #[.int .u64 (lb (a) 0), .int .u64 (lb (a) 1), .int .u64 (lb (a) 2), .int .u64 (lb (a) 3)] 24)) := by go_grown
    generalize w.alloc (.cells #[.int .u64 (lb (a) 0), .int .u64 (lb (a) 1), .int .u64 (lb (a) 2), .int .u64 (lb (a) 3)] 24) = W1 at *
    refine wp_region_kinds [] 7 [(0, 0), (1, 0), (2, 0), (3, 0), (4, 0), (5, 0), (6, 1)] (by kernel_rfl) (by kernel_rfl) ?_
    (refine kind_firm (v := ?_) rfl ?_ ?_; rotate_left; (focus (intro K w' hg hK; have hc1 := (ka.drew.after hg).cell; go_simp; exact hK _ (Grow.refl _))); refine kinds_put (by (simp only [Act.put, List.setIfInBounds_toArray, List.set_cons_succ, List.set_cons_zero]; try rfl)) ?_)
    (refine kind_firm (v := ?_) rfl ?_ ?_; rotate_left; (focus (intro K w' hg hK; go_simp; exact hK _ (Grow.refl _))); refine kinds_put (by (simp only [Act.put, List.setIfInBounds_toArray, List.set_cons_succ, List.set_cons_zero]; try rfl)) ?_)
    (refine kind_firm (v := ?_) rfl ?_ ?_; rotate_left; (focus (intro K w' hg hK; go_simp; exact hK _ (Grow.refl _))); refine kinds_put (by (simp only [Act.put, List.setIfInBounds_toArray, List.set_cons_succ, List.set_cons_zero]; try rfl)) ?_)
    (refine kind_firm (v := ?_) rfl ?_ ?_; rotate_left; (focus (intro K w' hg hK; go_simp; exact hK _ (Grow.refl _))); refine kinds_put (by (simp only [Act.put, List.setIfInBounds_toArray, List.set_cons_succ, List.set_cons_zero]; try rfl)) ?_)
    (refine kind_firm (v := ?_) rfl ?_ ?_; rotate_left; (focus (intro K w' hg hK; have hc1 := (kF.drew.after hg).cell; go_simp; exact hK _ (Grow.refl _))); refine kinds_put (by (simp only [Act.put, List.setIfInBounds_toArray, List.set_cons_succ, List.set_cons_zero]; try rfl)) ?_)
    (refine kind_firm (v := ?_) rfl ?_ ?_; rotate_left; (focus (intro K w' hg hK; go_simp; refine Calls.mono (cmp_any a (pN base) ha hm _) ?_; rintro e w'' ⟨rfl, hb⟩; refine ⟨_, rfl, ?_⟩; exact hK _ hb)); refine kinds_put (by (simp only [Act.put, List.setIfInBounds_toArray, List.set_cons_succ, List.set_cons_zero]; try rfl)) ?_)
    (refine kind_pure (v := ?_) rfl ?_ ?_; rotate_left; (focus (intro K w' hK; go_simp; exact hK)); refine kinds_put (by (simp only [Act.put, List.setIfInBounds_toArray, List.set_cons_succ, List.set_cons_zero]; try rfl)) ?_)
    refine kind_end ?_
    intro w6 h6
    replace bw := below_call h6 bw.drew
    go_wp2
    go_ret
    exact ⟨rfl, by go_grown⟩
set_option maxHeartbeats 2000000 in
theorem modulus_any {base : Bool} {f g : Nat} {w : World} (hF : FieldB w f g base) : Calls Try.prog 32 #[.pointer (some ⟨f, 0, none⟩)] w fun e w' => e = .returned (num (pN base)) ∧ Below w.heap.size w w' := by
  obtain ⟨kF_c, kF_f, kF_l, _⟩ := hF.1.knows
  go_enter Try.func32, Try.ntmps32
  go_wp2
  refine bodyPost_ret (v := num (pN base)) (by simp [results, Try.results32, go_sem]) rfl ?_
  exact ⟨rfl, by go_grown⟩
set_option maxHeartbeats 2000000 in
theorem fplus_any {base : Bool} {f g : Nat} (a b : Nat) {w : World} (hF : FieldB w f g base) (ha : a < pN base) (hb : b < pN base) : Calls Try.prog 65 #[.pointer (some ⟨f, 0, none⟩), num a, num b] w fun e w' => e = .returned (num (fadN base a b)) ∧ Below w.heap.size w w' := by
  have hm := pN_lt base
  have pk := plus_pick base a b ha hb
  have c0 := ca_lo a b 4
  have c1 := ca_hi a b 4
  have b0 := bo_lo (addN a b) (pN base) 4
  have b1 := bo_hi (addN a b) (pN base) 4
  have ob := or_bounds (ca a b 4) (bo (addN a b) (pN base) 4) (by omega) (by omega)
  have hwr : IntKind.u64.wrap (1 - bo (addN a b) (pN base) 4) = 1 - bo (addN a b) (pN base) 4 := IntWalk.u64_in _ (by omega)
  go_enter Try.func65, Try.ntmps65
  go_wp2_with fail; (with_reducible refine (add_any a b _).mono ?_); rintro e w1 ⟨rfl, h1⟩; have ka := (((Blk.newAt (n := w.heap.size) _ _ _ (by first | rfl | simp)).alloc _).alloc _).after h1; have kb := ((Blk.newAt (n := w.heap.size + 1) _ _ _ (by first | rfl | simp)).alloc _).after h1; have kq := (Blk.newAt (n := w.heap.size + 1 + 1) _ _ _ (by first | rfl | simp)).after h1; have bw := below_call h1 (w := w) (by go_grown); obtain ⟨ka_c, ka_f, ka_l, ka_m, _⟩ := ka.knows; obtain ⟨kb_c, kb_f, kb_l, kb_m, _⟩ := kb.knows; obtain ⟨kq_c, kq_f, kq_l, kq_m, _⟩ := kq.knows
  go_upto_region 2 with (fail)
  clear ka_c ka_f ka_l ka_m kb_c kb_f kb_l kb_m kq_c kq_f kq_l kq_m
  have ks := Blk.new w1 24 #[.int .u64 (lb (addN a b) 0), .int .u64 (lb (addN a b) 1), .int .u64 (lb (addN a b) 2), .int .u64 (lb (addN a b) 3)]; replace ka := ka.alloc (.cells #[.int .u64 (lb (addN a b) 0), .int .u64 (lb (addN a b) 1), .int .u64 (lb (addN a b) 2), .int .u64 (lb (addN a b) 3)] 24); replace kb := kb.alloc (.cells #[.int .u64 (lb (addN a b) 0), .int .u64 (lb (addN a b) 1), .int .u64 (lb (addN a b) 2), .int .u64 (lb (addN a b) 3)] 24); replace kq := kq.alloc (.cells #[.int .u64 (lb (addN a b) 0), .int .u64 (lb (addN a b) 1), .int .u64 (lb (addN a b) 2), .int .u64 (lb (addN a b) 3)] 24); replace bw := bw.alloc bw.size (.cells #[.int .u64 (lb (addN a b) 0), .int .u64 (lb (addN a b) 1), .int .u64 (lb (addN a b) 2), .int .u64 (lb (addN a b) 3)] 24); generalize w1.heap.size = g_ks at *; generalize w1.alloc _ = W3 at *
  have kF := (hF.after bw).1
  refine wp_region_kinds [10] 11 [(0, 0), (1, 0), (2, 0), (3, 0), (4, 0), (5, 0), (6, 1), (7, 1), (8, 1), (9, 2), (10, 2)] (by kernel_rfl) (by kernel_rfl) ?_
  (refine kind_firm (v := ?_) rfl ?_ ?_; rotate_left; (focus (intro K w' hg hK; have hc1 := (ks.drew.after hg).cell; go_simp; exact hK _ (Grow.refl _))); refine kinds_put (by (simp only [Act.put, List.setIfInBounds_toArray, List.set_cons_succ, List.set_cons_zero]; try rfl)) ?_)
  (refine kind_firm (v := ?_) rfl ?_ ?_; rotate_left; (focus (intro K w' hg hK; go_simp; exact hK _ (Grow.refl _))); refine kinds_put (by (simp only [Act.put, List.setIfInBounds_toArray, List.set_cons_succ, List.set_cons_zero]; try rfl)) ?_)
  (refine kind_firm (v := ?_) rfl ?_ ?_; rotate_left; (focus (intro K w' hg hK; go_simp; exact hK _ (Grow.refl _))); refine kinds_put (by (simp only [Act.put, List.setIfInBounds_toArray, List.set_cons_succ, List.set_cons_zero]; try rfl)) ?_)
  (refine kind_firm (v := ?_) rfl ?_ ?_; rotate_left; (focus (intro K w' hg hK; go_simp; exact hK _ (Grow.refl _))); refine kinds_put (by (simp only [Act.put, List.setIfInBounds_toArray, List.set_cons_succ, List.set_cons_zero]; try rfl)) ?_)
  (refine kind_firm (v := ?_) rfl ?_ ?_; rotate_left; (focus (intro K w' hg hK; have hc1 := (kF.drew.after hg).cell; go_simp; exact hK _ (Grow.refl _))); refine kinds_put (by (simp only [Act.put, List.setIfInBounds_toArray, List.set_cons_succ, List.set_cons_zero]; try rfl)) ?_)
  (refine kind_firm (v := ?_) rfl ?_ ?_; rotate_left; (focus (intro K w' hg hK; go_simp; refine Calls.mono (sub_any (addN a b) (pN base) hm _) ?_; rintro e w'' ⟨rfl, hb⟩; refine ⟨_, rfl, ?_⟩; exact hK _ hb)); refine kinds_put (by (simp only [Act.put, List.setIfInBounds_toArray, List.set_cons_succ, List.set_cons_zero]; try rfl)) ?_)
  (refine kind_pure (v := ?_) rfl ?_ ?_; rotate_left; (focus (intro K w' hK; go_simp; exact hK)); refine kinds_put (by (simp only [Act.put, List.setIfInBounds_toArray, List.set_cons_succ, List.set_cons_zero]; try rfl)) ?_)
  (refine kind_pure (v := ?_) rfl ?_ ?_; rotate_left; (focus (intro K w' hK; go_simp; exact hK)); refine kinds_put (by (simp only [Act.put, List.setIfInBounds_toArray, List.set_cons_succ, List.set_cons_zero]; try rfl)) ?_)
  (refine kind_pure (v := ?_) rfl ?_ ?_; rotate_left; (focus (intro K w' hK; go_simp; exact hK)); refine kinds_put (by (simp only [Act.put, List.setIfInBounds_toArray, List.set_cons_succ, List.set_cons_zero]; try rfl)) ?_)
  (refine kind_loose rfl ?_; intro K wa1 ga1 hK; go_simp; refine hK _ _ (grow_alloc _ _) ?_; clear hK K)
  (refine kind_store rfl rfl ?_; intro K wb1 gb1 hK; have hs := new_num gb1; have sc := hs.cell; have sf := hs.frozen; go_simp; refine hK _ _ ?_; clear hK K)
  refine kind_end ?_
  intro w6 h6
  replace kq := put_num _ _ _ _ kq.drew ga1 gb1 h6
  replace ks := put_num _ _ _ _ ks.drew ga1 gb1 h6
  have kd := put_new _ _ _ _ gb1 h6
  replace bw := put_below _ _ _ _ bw.drew bw.size ga1 gb1 h6
  clear sc sf hs h6 gb1 ga1 ka kb kF
  obtain ⟨kq_c, kq_f, kq_l, kq_m, _⟩ := kq.knows
  obtain ⟨ks_c, ks_f, ks_l, ks_m, _⟩ := ks.knows
  obtain ⟨kd_c, kd_f, kd_l, kd_m, _⟩ := kd.knows
  go_wp2_with fail
  (with_reducible refine (select_any (bits .or .u64 (ca a b 4) (1 - bo (addN a b) (pN base) 4)) (subN (addN a b) (pN base)) (addN a b) ob.1 ob.2 _).mono ?_)
  rintro e w7 ⟨rfl, h7⟩
  rw [pk]
  clear kq_c kq_f kq_l kq_m ks_c ks_f ks_l ks_m kd_c kd_f kd_l kd_m
  replace kq := kq.after h7
  replace bw := below_call h7 bw
  clear h7 ks kd
  obtain ⟨kq_c, kq_f, kq_l, kq_m, _⟩ := kq.knows
  go_wp2
  have kf := (kq.put4 (.int .u64 (lb (fadN base a b) 0)) (.int .u64 (lb (fadN base a b) 1)) (.int .u64 (lb (fadN base a b) 2)) (.int .u64 (lb (fadN base a b) 3))).knows
  obtain ⟨kf_c, kf_f, kf_l, _⟩ := kf
  refine bodyPost_ret (v := num (fadN base a b)) (by simp [results, Try.results65, go_sem, kf_c, kf_l]) rfl ?_
  exact ⟨rfl, by go_grown⟩
set_option maxHeartbeats 2000000 in
theorem fminus_any {base : Bool} {f g : Nat} (a b : Nat) {w : World} (hF : FieldB w f g base) (ha : a < pN base) (hb : b < pN base) : Calls Try.prog 53 #[.pointer (some ⟨f, 0, none⟩), num a, num b] w fun e w' => e = .returned (num (fsbN base a b)) ∧ Below w.heap.size w w' := by
  have hm := pN_lt base
  have pk := minus_pick base a b ha hb
  have b0 := bo_lo a b 4
  have b1 := bo_hi a b 4
  go_enter Try.func53, Try.ntmps53
  go_wp2_with fail; (with_reducible refine (sub_any a b (lt_RR hb) _).mono ?_); rintro e w1 ⟨rfl, h1⟩; have ka := (((Blk.newAt (n := w.heap.size) _ _ _ (by first | rfl | simp)).alloc _).alloc _).after h1; have kb := ((Blk.newAt (n := w.heap.size + 1) _ _ _ (by first | rfl | simp)).alloc _).after h1; have kq := (Blk.newAt (n := w.heap.size + 1 + 1) _ _ _ (by first | rfl | simp)).after h1; have bw := below_call h1 (w := w) (by go_grown); obtain ⟨ka_c, ka_f, ka_l, ka_m, _⟩ := ka.knows; obtain ⟨kb_c, kb_f, kb_l, kb_m, _⟩ := kb.knows; obtain ⟨kq_c, kq_f, kq_l, kq_m, _⟩ := kq.knows
  go_upto_region 2 with (fail)
  clear ka_c ka_f ka_l ka_m kb_c kb_f kb_l kb_m kq_c kq_f kq_l kq_m
  have ks := Blk.new w1 24 #[.int .u64 (lb (subN a b) 0), .int .u64 (lb (subN a b) 1), .int .u64 (lb (subN a b) 2), .int .u64 (lb (subN a b) 3)]; replace ka := ka.alloc (.cells #[.int .u64 (lb (subN a b) 0), .int .u64 (lb (subN a b) 1), .int .u64 (lb (subN a b) 2), .int .u64 (lb (subN a b) 3)] 24); replace kb := kb.alloc (.cells #[.int .u64 (lb (subN a b) 0), .int .u64 (lb (subN a b) 1), .int .u64 (lb (subN a b) 2), .int .u64 (lb (subN a b) 3)] 24); replace kq := kq.alloc (.cells #[.int .u64 (lb (subN a b) 0), .int .u64 (lb (subN a b) 1), .int .u64 (lb (subN a b) 2), .int .u64 (lb (subN a b) 3)] 24); replace bw := bw.alloc bw.size (.cells #[.int .u64 (lb (subN a b) 0), .int .u64 (lb (subN a b) 1), .int .u64 (lb (subN a b) 2), .int .u64 (lb (subN a b) 3)] 24); generalize w1.heap.size = g_ks at *; generalize w1.alloc _ = W3 at *
  have kF := (hF.after bw).1
  refine wp_region_kinds [10] 11 [(0, 0), (1, 0), (2, 0), (3, 0), (4, 0), (5, 0), (6, 1), (7, 1), (8, 1), (9, 2), (10, 2)] (by kernel_rfl) (by kernel_rfl) ?_
  (refine kind_firm (v := ?_) rfl ?_ ?_; rotate_left; (focus (intro K w' hg hK; have hc1 := (ks.drew.after hg).cell; go_simp; exact hK _ (Grow.refl _))); refine kinds_put (by (simp only [Act.put, List.setIfInBounds_toArray, List.set_cons_succ, List.set_cons_zero]; try rfl)) ?_)
  (refine kind_firm (v := ?_) rfl ?_ ?_; rotate_left; (focus (intro K w' hg hK; go_simp; exact hK _ (Grow.refl _))); refine kinds_put (by (simp only [Act.put, List.setIfInBounds_toArray, List.set_cons_succ, List.set_cons_zero]; try rfl)) ?_)
  (refine kind_firm (v := ?_) rfl ?_ ?_; rotate_left; (focus (intro K w' hg hK; go_simp; exact hK _ (Grow.refl _))); refine kinds_put (by (simp only [Act.put, List.setIfInBounds_toArray, List.set_cons_succ, List.set_cons_zero]; try rfl)) ?_)
  (refine kind_firm (v := ?_) rfl ?_ ?_; rotate_left; (focus (intro K w' hg hK; go_simp; exact hK _ (Grow.refl _))); refine kinds_put (by (simp only [Act.put, List.setIfInBounds_toArray, List.set_cons_succ, List.set_cons_zero]; try rfl)) ?_)
  (refine kind_firm (v := ?_) rfl ?_ ?_; rotate_left; (focus (intro K w' hg hK; have hc1 := (kF.drew.after hg).cell; go_simp; exact hK _ (Grow.refl _))); refine kinds_put (by (simp only [Act.put, List.setIfInBounds_toArray, List.set_cons_succ, List.set_cons_zero]; try rfl)) ?_)
  (refine kind_firm (v := ?_) rfl ?_ ?_; rotate_left; (focus (intro K w' hg hK; go_simp; refine Calls.mono (add_any (subN a b) (pN base) _) ?_; rintro e w'' ⟨rfl, hb⟩; refine ⟨_, rfl, ?_⟩; exact hK _ hb)); refine kinds_put (by (simp only [Act.put, List.setIfInBounds_toArray, List.set_cons_succ, List.set_cons_zero]; try rfl)) ?_)
  (refine kind_pure (v := ?_) rfl ?_ ?_; rotate_left; (focus (intro K w' hK; go_simp; exact hK)); refine kinds_put (by (simp only [Act.put, List.setIfInBounds_toArray, List.set_cons_succ, List.set_cons_zero]; try rfl)) ?_)
  (refine kind_pure (v := ?_) rfl ?_ ?_; rotate_left; (focus (intro K w' hK; go_simp; exact hK)); refine kinds_put (by (simp only [Act.put, List.setIfInBounds_toArray, List.set_cons_succ, List.set_cons_zero]; try rfl)) ?_)
  (refine kind_pure (v := ?_) rfl ?_ ?_; rotate_left; (focus (intro K w' hK; go_simp; exact hK)); refine kinds_put (by (simp only [Act.put, List.setIfInBounds_toArray, List.set_cons_succ, List.set_cons_zero]; try rfl)) ?_)
  (refine kind_loose rfl ?_; intro K wa1 ga1 hK; go_simp; refine hK _ _ (grow_alloc _ _) ?_; clear hK K)
  (refine kind_store rfl rfl ?_; intro K wb1 gb1 hK; have hs := new_num gb1; have sc := hs.cell; have sf := hs.frozen; go_simp; refine hK _ _ ?_; clear hK K)
  refine kind_end ?_
  intro w6 h6
  replace kq := put_num _ _ _ _ kq.drew ga1 gb1 h6
  replace ks := put_num _ _ _ _ ks.drew ga1 gb1 h6
  have kd := put_new _ _ _ _ gb1 h6
  replace bw := put_below _ _ _ _ bw.drew bw.size ga1 gb1 h6
  clear sc sf hs h6 gb1 ga1 ka kb kF
  obtain ⟨kq_c, kq_f, kq_l, kq_m, _⟩ := kq.knows
  obtain ⟨ks_c, ks_f, ks_l, ks_m, _⟩ := ks.knows
  obtain ⟨kd_c, kd_f, kd_l, kd_m, _⟩ := kd.knows
  go_wp2_with fail
  (with_reducible refine (select_any (bo a b 4) (addN (subN a b) (pN base)) (subN a b) b0 (by omega) _).mono ?_)
  rintro e w7 ⟨rfl, h7⟩
  rw [pk]
  clear kq_c kq_f kq_l kq_m ks_c ks_f ks_l ks_m kd_c kd_f kd_l kd_m
  replace kq := kq.after h7
  replace bw := below_call h7 bw
  clear h7 ks kd
  obtain ⟨kq_c, kq_f, kq_l, kq_m, _⟩ := kq.knows
  go_wp2
  have kf := (kq.put4 (.int .u64 (lb (fsbN base a b) 0)) (.int .u64 (lb (fsbN base a b) 1)) (.int .u64 (lb (fsbN base a b) 2)) (.int .u64 (lb (fsbN base a b) 3))).knows
  obtain ⟨kf_c, kf_f, kf_l, _⟩ := kf
  refine bodyPost_ret (v := num (fsbN base a b)) (by simp [results, Try.results53, go_sem, kf_c, kf_l]) rfl ?_
  exact ⟨rfl, by go_grown⟩
end Go.Proofs.Ytlibfjemdiochaa
