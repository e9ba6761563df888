/- LimbRules, the walk. -/
import Derived.Test.YtcoljlanblngiaaC
import Derived.Test.YtcoljlanblngiaaF
import Derived.Test.YtcoljlanblngiaaO3
import Derived.Test.YtcoljlanblngiaaQ2
import Derived.Deep.DeepCutAuto
namespace Go.Proofs.Ytcoljlanblngiaa
set_option linter.unusedVariables false
set_option linter.unusedSimpArgs false
open Go.RowKit

/-- The lower half. -/
theorem lowN_is : ∃ f : Nat → Nat, ∀ x, f x = x % RR := ⟨fun x => x % RR, fun _ => rfl⟩
noncomputable def lowN : Nat → Nat := Classical.choose lowN_is
theorem lowN_def (x : Nat) : lowN x = x % RR := Classical.choose_spec lowN_is x
theorem lb_lowN (x : Nat) {i : Nat} (hi : i < 4) : lb x i = lb (lowN x) i := by rw [lowN_def, lb_mod_RR _ hi]
theorem lower_any (x : Nat) (w : World) : Calls Try.prog 34 #[wide x] w fun e w' => e = .returned (num (lowN x)) ∧ Below w.heap.size w w' := by
  go_enter Try.func34, Try.ntmps34
  go_wp2
  go_returns
  refine ⟨?_, ?_⟩
  · unfold num; rw [← lb_lowN x (i := 0) (by omega), ← lb_lowN x (i := 1) (by omega), ← lb_lowN x (i := 2) (by omega), ← lb_lowN x (i := 3) (by omega)]
  · go_grown
/-- A number's place is made, and the number stored. -/
theorem put_num {W w1 w2 w3 : World} {g : Nat} {t : TypeId} {cs : Array Value} (x0 x1 x2 x3 : Value) (hk : Blk W g t cs) (g1 : Grow W w1) (g2 : Grow (w1.alloc (.cells #[.int .u64 0, .int .u64 0, .int .u64 0, .int .u64 0] 24)) w2)
    (g3 : Grow ((((w2.setCell ⟨w1.heap.size, 0, none⟩ x0).setCell ⟨w1.heap.size, 1, none⟩ x1).setCell ⟨w1.heap.size, 2, none⟩ x2).setCell ⟨w1.heap.size, 3, none⟩ x3) w3) : Blk w3 g t cs := by
  have h1 := hk.after g1
  have hl := h1.lt
  have h2 := (h1.alloc (.cells #[.int .u64 0, .int .u64 0, .int .u64 0, .int .u64 0] 24)).after g2
  exact ((((h2.far (by dsimp only; omega) _).far (by dsimp only; omega) _).far (by dsimp only; omega) _).far (by dsimp only; omega) _).after g3
theorem put_new {w1 w2 w3 : World} (x0 x1 x2 x3 : Value) (g2 : Grow (w1.alloc (.cells #[.int .u64 0, .int .u64 0, .int .u64 0, .int .u64 0] 24)) w2)
    (g3 : Grow ((((w2.setCell ⟨w1.heap.size, 0, none⟩ x0).setCell ⟨w1.heap.size, 1, none⟩ x1).setCell ⟨w1.heap.size, 2, none⟩ x2).setCell ⟨w1.heap.size, 3, none⟩ x3) w3) : Blk w3 w1.heap.size 24 #[x0, x1, x2, x3] := by
  have h2 : Blk w2 w1.heap.size 24 #[.int .u64 0, .int .u64 0, .int .u64 0, .int .u64 0] := (Blk.new w1 _ _).after g2
  exact ((((h2.set_ 0 x0).set_ 1 x1).set_ 2 x2).set_ 3 x3).after g3
theorem put_below {B : Nat} {w W w1 w2 w3 : World} (x0 x1 x2 x3 : Value) (hb : Below B w W) (hB : B ≤ W.heap.size) (g1 : Grow W w1) (g2 : Grow (w1.alloc (.cells #[.int .u64 0, .int .u64 0, .int .u64 0, .int .u64 0] 24)) w2)
    (g3 : Grow ((((w2.setCell ⟨w1.heap.size, 0, none⟩ x0).setCell ⟨w1.heap.size, 1, none⟩ x1).setCell ⟨w1.heap.size, 2, none⟩ x2).setCell ⟨w1.heap.size, 3, none⟩ x3) w3) : Below B w w3 := by
  have s1 : W.heap.size ≤ w1.heap.size := Below.size g1
  have h1 : Below B w w1 := hb.trans (Below.mono g1 hB)
  have h2 := h1.alloc (Nat.le_trans hB s1) (.cells #[.int .u64 0, .int .u64 0, .int .u64 0, .int .u64 0] 24)
  have s2 : w1.heap.size + 1 ≤ w2.heap.size := by have := Below.size g2; simpa using this
  have h3 : Below B w w2 := h2.trans (Below.mono g2 (by simp; omega))
  have h4 := (((h3.setCell (p := ⟨w1.heap.size, 0, none⟩) (by dsimp only; omega) x0).setCell (p := ⟨w1.heap.size, 1, none⟩) (by dsimp only; omega) x1).setCell (p := ⟨w1.heap.size, 2, none⟩) (by dsimp only; omega) x2).setCell (p := ⟨w1.heap.size, 3, none⟩) (by dsimp only; omega) x3
  exact h4.trans (Below.mono g3 (by simp; omega))
theorem new_num {W w' : World} (hg : Grow (W.alloc (.cells #[.int .u64 0, .int .u64 0, .int .u64 0, .int .u64 0] 24)) w') : Blk w' W.heap.size 24 #[.int .u64 0, .int .u64 0, .int .u64 0, .int .u64 0] := (Blk.new W _ _).after hg
theorem subN_back (a b : Nat) (ha : a < RR) (hb : b < RR) (w : World) : Calls Try.prog 19 #[num (addN a b), num b] w fun e w' => e = .returned (.tuple #[num a, .int .u64 (bo (addN a b) b 4)]) ∧ Below w.heap.size w w' := by
  have h := sub_any (addN a b) b hb w
  have e1 : subN (addN a b) b = a := by rw [subN_def, addN_def]; unfold RR at *; omega
  rw [e1] at h
  exact h
theorem add_swap (a b : Nat) (w : World) : Calls Try.prog 18 #[num b, num a] w fun e w' => e = .returned (.tuple #[num (addN a b), .int .u64 (ca b a 4)]) ∧ Below w.heap.size w w' := by
  have h := add_any b a w
  have e2 : addN b a = addN a b := by rw [addN_def, addN_def, Nat.add_comm]
  rw [e2] at h
  exact h
theorem mul_swap (a b : Nat) (ha : a < RR) (hb : b < RR) (w : World) : Calls Try.prog 24 #[num b, num a] w fun e w' => e = .returned (wide (mulN a b)) ∧ Below w.heap.size w w' := by
  have h := mul_any b a hb ha w
  have e3 : mulN b a = mulN a b := by rw [mulN_def, mulN_def, Nat.mul_comm]
  rw [e3] at h
  exact h
theorem add_lows (a b c : Nat) (w : World) : Calls Try.prog 18 #[num (lowN (mulN c a)), num (lowN (mulN c b))] w fun e w' => e = .returned (.tuple #[num (lowN (mulN c (addN a b))), .int .u64 (ca (lowN (mulN c a)) (lowN (mulN c b)) 4)]) ∧ Below w.heap.size w w' := by
  have h := add_any (lowN (mulN c a)) (lowN (mulN c b)) w
  have e4 : addN (lowN (mulN c a)) (lowN (mulN c b)) = lowN (mulN c (addN a b)) := by
    rw [addN_def, lowN_def, lowN_def, lowN_def, mulN_def, mulN_def, mulN_def, addN_def, ← Nat.add_mod, ← Nat.mul_add, Nat.mul_mod c ((a + b) % RR), Nat.mod_mod, ← Nat.mul_mod]
  rw [e4] at h
  exact h
set_option maxHeartbeats 2000000 in
theorem rules_walk (a b c : Nat) (ha : a < RR) (hb : b < RR) (hc : c < RR) (w : World) : Calls Try.prog 9 #[num a, num b, num c] w fun e w' => e = .returned (.bool true) ∧ Below w.heap.size w w' := by
  have q1 := eqin_same
  have q2 := eqin_wide_same
  go_enter Try.func9, Try.ntmps9
  go_wp2_with fail; (with_reducible refine (add_any a b _).mono ?_); rintro e w1 ⟨rfl, h1⟩; have ka := (((Blk.newAt (n := w.heap.size) _ _ _ (by first | rfl | simp)).alloc _).alloc _).after h1; have kb := ((Blk.newAt (n := w.heap.size + 1) _ _ _ (by first | rfl | simp)).alloc _).after h1; have kc := (Blk.newAt (n := w.heap.size + 1 + 1) _ _ _ (by first | rfl | simp)).after h1; have bw := below_call h1 (w := w) (by go_grown); obtain ⟨ka_c, ka_f, ka_l, ka_m, _⟩ := ka.knows; obtain ⟨kb_c, kb_f, kb_l, kb_m, _⟩ := kb.knows; obtain ⟨kc_c, kc_f, kc_l, kc_m, _⟩ := kc.knows
  go_wp2_with fail; (with_reducible refine (subN_back a b ha hb _).mono ?_); rintro e w2 ⟨rfl, h2⟩; clear ka_c ka_f ka_l ka_m kb_c kb_f kb_l kb_m kc_c kc_f kc_l kc_m; (first | replace ka := ka.after h2 | replace ka := (ka.alloc _).after h2 | replace ka := ((ka.alloc _).alloc _).after h2 | replace ka := ka.drew.after h2 | replace ka := (ka.alloc _).drew.after h2 | replace ka := (ka.drew.alloc _).after h2); (first | replace kb := kb.after h2 | replace kb := (kb.alloc _).after h2 | replace kb := ((kb.alloc _).alloc _).after h2 | replace kb := kb.drew.after h2 | replace kb := (kb.alloc _).drew.after h2 | replace kb := (kb.drew.alloc _).after h2); (first | replace kc := kc.after h2 | replace kc := (kc.alloc _).after h2 | replace kc := ((kc.alloc _).alloc _).after h2 | replace kc := kc.drew.after h2 | replace kc := (kc.alloc _).drew.after h2 | replace kc := (kc.drew.alloc _).after h2); (first | have ks := (Blk.new _ _ _).after h2 | have ks := (Blk.new _ _ _).drew.after h2); replace bw := below_call h2 (w := w) (by go_grown); clear h2; obtain ⟨ka_c, ka_f, ka_l, ka_m, _⟩ := ka.knows; obtain ⟨kb_c, kb_f, kb_l, kb_m, _⟩ := kb.knows; obtain ⟨kc_c, kc_f, kc_l, kc_m, _⟩ := kc.knows; obtain ⟨ks_c, ks_f, ks_l, ks_m, _⟩ := ks.knows
  go_wp2_with fail; (with_reducible refine (add_swap a b _).mono ?_); rintro e w3 ⟨rfl, h3⟩; clear ka_c ka_f ka_l ka_m kb_c kb_f kb_l kb_m kc_c kc_f kc_l kc_m ks_c ks_f ks_l ks_m; (first | replace ka := ka.after h3 | replace ka := (ka.alloc _).after h3 | replace ka := ((ka.alloc _).alloc _).after h3 | replace ka := ka.drew.after h3 | replace ka := (ka.alloc _).drew.after h3 | replace ka := (ka.drew.alloc _).after h3); (first | replace kb := kb.after h3 | replace kb := (kb.alloc _).after h3 | replace kb := ((kb.alloc _).alloc _).after h3 | replace kb := kb.drew.after h3 | replace kb := (kb.alloc _).drew.after h3 | replace kb := (kb.drew.alloc _).after h3); (first | replace kc := kc.after h3 | replace kc := (kc.alloc _).after h3 | replace kc := ((kc.alloc _).alloc _).after h3 | replace kc := kc.drew.after h3 | replace kc := (kc.alloc _).drew.after h3 | replace kc := (kc.drew.alloc _).after h3); (first | replace ks := ks.after h3 | replace ks := (ks.alloc _).after h3 | replace ks := ((ks.alloc _).alloc _).after h3 | replace ks := ks.drew.after h3 | replace ks := (ks.alloc _).drew.after h3 | replace ks := (ks.drew.alloc _).after h3); (first | have kd := (Blk.new _ _ _).after h3 | have kd := (Blk.new _ _ _).drew.after h3); replace bw := below_call h3 (w := w) (by go_grown); clear h3; obtain ⟨ka_c, ka_f, ka_l, ka_m, _⟩ := ka.knows; obtain ⟨kb_c, kb_f, kb_l, kb_m, _⟩ := kb.knows; obtain ⟨kc_c, kc_f, kc_l, kc_m, _⟩ := kc.knows; obtain ⟨ks_c, ks_f, ks_l, ks_m, _⟩ := ks.knows; obtain ⟨kd_c, kd_f, kd_l, kd_m, _⟩ := kd.knows
  go_wp2_with fail; (with_reducible refine (mul_any c (addN a b) hc (addN_lt _ _) _).mono ?_); rintro e w4 ⟨rfl, h4⟩; clear ka_c ka_f ka_l ka_m kb_c kb_f kb_l kb_m kc_c kc_f kc_l kc_m ks_c ks_f ks_l ks_m kd_c kd_f kd_l kd_m; (first | replace ka := ka.after h4 | replace ka := (ka.alloc _).after h4 | replace ka := ((ka.alloc _).alloc _).after h4 | replace ka := ka.drew.after h4 | replace ka := (ka.alloc _).drew.after h4 | replace ka := (ka.drew.alloc _).after h4); (first | replace kb := kb.after h4 | replace kb := (kb.alloc _).after h4 | replace kb := ((kb.alloc _).alloc _).after h4 | replace kb := kb.drew.after h4 | replace kb := (kb.alloc _).drew.after h4 | replace kb := (kb.drew.alloc _).after h4); (first | replace kc := kc.after h4 | replace kc := (kc.alloc _).after h4 | replace kc := ((kc.alloc _).alloc _).after h4 | replace kc := kc.drew.after h4 | replace kc := (kc.alloc _).drew.after h4 | replace kc := (kc.drew.alloc _).after h4); (first | replace ks := ks.after h4 | replace ks := (ks.alloc _).after h4 | replace ks := ((ks.alloc _).alloc _).after h4 | replace ks := ks.drew.after h4 | replace ks := (ks.alloc _).drew.after h4 | replace ks := (ks.drew.alloc _).after h4); (first | replace kd := kd.after h4 | replace kd := (kd.alloc _).after h4 | replace kd := ((kd.alloc _).alloc _).after h4 | replace kd := kd.drew.after h4 | replace kd := (kd.alloc _).drew.after h4 | replace kd := (kd.drew.alloc _).after h4); (first | have kt := (Blk.new _ _ _).after h4 | have kt := (Blk.new _ _ _).drew.after h4); replace bw := below_call h4 (w := w) (by go_grown); clear h4; obtain ⟨ka_c, ka_f, ka_l, ka_m, _⟩ := ka.knows; obtain ⟨kb_c, kb_f, kb_l, kb_m, _⟩ := kb.knows; obtain ⟨kc_c, kc_f, kc_l, kc_m, _⟩ := kc.knows; obtain ⟨ks_c, ks_f, ks_l, ks_m, _⟩ := ks.knows; obtain ⟨kd_c, kd_f, kd_l, kd_m, _⟩ := kd.knows; obtain ⟨kt_c, kt_f, kt_l, kt_m, _⟩ := kt.knows
  go_wp2_with fail; (with_reducible refine (lower_any (mulN c (addN a b)) _).mono ?_); rintro e w5 ⟨rfl, h5⟩; clear ka_c ka_f ka_l ka_m kb_c kb_f kb_l kb_m kc_c kc_f kc_l kc_m ks_c ks_f ks_l ks_m kd_c kd_f kd_l kd_m kt_c kt_f kt_l kt_m; (first | replace ka := ka.after h5 | replace ka := (ka.alloc _).after h5 | replace ka := ((ka.alloc _).alloc _).after h5 | replace ka := ka.drew.after h5 | replace ka := (ka.alloc _).drew.after h5 | replace ka := (ka.drew.alloc _).after h5); (first | replace kb := kb.after h5 | replace kb := (kb.alloc _).after h5 | replace kb := ((kb.alloc _).alloc _).after h5 | replace kb := kb.drew.after h5 | replace kb := (kb.alloc _).drew.after h5 | replace kb := (kb.drew.alloc _).after h5); (first | replace kc := kc.after h5 | replace kc := (kc.alloc _).after h5 | replace kc := ((kc.alloc _).alloc _).after h5 | replace kc := kc.drew.after h5 | replace kc := (kc.alloc _).drew.after h5 | replace kc := (kc.drew.alloc _).after h5); (first | replace ks := ks.after h5 | replace ks := (ks.alloc _).after h5 | replace ks := ((ks.alloc _).alloc _).after h5 | replace ks := ks.drew.after h5 | replace ks := (ks.alloc _).drew.after h5 | replace ks := (ks.drew.alloc _).after h5); (first | replace kd := kd.after h5 | replace kd := (kd.alloc _).after h5 | replace kd := ((kd.alloc _).alloc _).after h5 | replace kd := kd.drew.after h5 | replace kd := (kd.alloc _).drew.after h5 | replace kd := (kd.drew.alloc _).after h5); (first | replace kt := kt.after h5 | replace kt := (kt.alloc _).after h5 | replace kt := ((kt.alloc _).alloc _).after h5 | replace kt := kt.drew.after h5 | replace kt := (kt.alloc _).drew.after h5 | replace kt := (kt.drew.alloc _).after h5); replace bw := below_call h5 (w := w) (by go_grown); clear h5; obtain ⟨ka_c, ka_f, ka_l, ka_m, _⟩ := ka.knows; obtain ⟨kb_c, kb_f, kb_l, kb_m, _⟩ := kb.knows; obtain ⟨kc_c, kc_f, kc_l, kc_m, _⟩ := kc.knows; obtain ⟨ks_c, ks_f, ks_l, ks_m, _⟩ := ks.knows; obtain ⟨kd_c, kd_f, kd_l, kd_m, _⟩ := kd.knows; obtain ⟨kt_c, kt_f, kt_l, kt_m, _⟩ := kt.knows
  go_upto_region 5 with (fail)
  have kl := Blk.new w5 24 #[.int .u64 (lb (lowN (mulN c (addN a b))) 0), .int .u64 (lb (lowN (mulN c (addN a b))) 1), .int .u64 (lb (lowN (mulN c (addN a b))) 2), .int .u64 (lb (lowN (mulN c (addN a b))) 3)]
  replace ka := ka.alloc (.cells #[.int .u64 (lb (lowN (mulN c (addN a b))) 0), .int .u64 (lb (lowN (mulN c (addN a b))) 1), .int .u64 (lb (lowN (mulN c (addN a b))) 2), .int .u64 (lb (lowN (mulN c (addN a b))) 3)] 24)
  replace kb := kb.alloc (.cells #[.int .u64 (lb (lowN (mulN c (addN a b))) 0), .int .u64 (lb (lowN (mulN c (addN a b))) 1), .int .u64 (lb (lowN (mulN c (addN a b))) 2), .int .u64 (lb (lowN (mulN c (addN a b))) 3)] 24)
  replace kc := kc.alloc (.cells #[.int .u64 (lb (lowN (mulN c (addN a b))) 0), .int .u64 (lb (lowN (mulN c (addN a b))) 1), .int .u64 (lb (lowN (mulN c (addN a b))) 2), .int .u64 (lb (lowN (mulN c (addN a b))) 3)] 24)
  replace ks := ks.alloc (.cells #[.int .u64 (lb (lowN (mulN c (addN a b))) 0), .int .u64 (lb (lowN (mulN c (addN a b))) 1), .int .u64 (lb (lowN (mulN c (addN a b))) 2), .int .u64 (lb (lowN (mulN c (addN a b))) 3)] 24)
  replace kd := kd.alloc (.cells #[.int .u64 (lb (lowN (mulN c (addN a b))) 0), .int .u64 (lb (lowN (mulN c (addN a b))) 1), .int .u64 (lb (lowN (mulN c (addN a b))) 2), .int .u64 (lb (lowN (mulN c (addN a b))) 3)] 24)
  replace kt := kt.alloc (.cells #[.int .u64 (lb (lowN (mulN c (addN a b))) 0), .int .u64 (lb (lowN (mulN c (addN a b))) 1), .int .u64 (lb (lowN (mulN c (addN a b))) 2), .int .u64 (lb (lowN (mulN c (addN a b))) 3)] 24)
  have b5 : Below w.heap.size w (w5.alloc (.cells #[.int .u64 (lb (lowN (mulN c (addN a b))) 0), .int .u64 (lb (lowN (mulN c (addN a b))) 1), .int .u64 (lb (lowN (mulN c (addN a b))) 2), .int .u64 (lb (lowN (mulN c (addN a b))) 3)] 24)) := bw.alloc bw.size _
  generalize w5.heap.size = g5 at *
  generalize w5.alloc _ = W5 at *
  clear bw
  refine wp_region_kinds [13] 14 [(0, 0), (1, 0), (4, 0), (5, 0), (2, 0), (3, 0), (6, 0), (7, 0), (8, 0), (9, 1), (10, 1), (11, 1), (12, 2), (13, 2)] (by kernel_rfl) (by kernel_rfl) ?_
  (refine kind_firm (v := ?_) rfl ?_ ?_; rotate_left; focus (intro K w' hg hK; have hc1 := (kc.drew.after hg).cell; go_simp; exact hK _ (Grow.refl _)))
  (refine kind_firm (v := ?_) rfl ?_ ?_; rotate_left; focus (intro K w' hg hK; have hc1 := (ka.drew.after hg).cell; go_simp; exact hK _ (Grow.refl _)))
  (refine kind_firm (v := ?_) rfl ?_ ?_; rotate_left; focus (intro K w' hg hK; have hc1 := (kc.drew.after hg).cell; go_simp; exact hK _ (Grow.refl _)))
  (refine kind_firm (v := ?_) rfl ?_ ?_; rotate_left; focus (intro K w' hg hK; have hc1 := (kb.drew.after hg).cell; go_simp; exact hK _ (Grow.refl _)))
  (refine kind_firm (v := ?_) rfl ?_ ?_; rotate_left; focus (intro K w' hg hK; go_simp; refine Calls.mono (mul_any c a hc ha _) ?_; rintro e w'' ⟨rfl, hb⟩; refine ⟨_, rfl, ?_⟩; exact hK _ hb))
  (refine kind_firm (v := ?_) rfl ?_ ?_; rotate_left; focus (intro K w' hg hK; go_simp; refine Calls.mono (lower_any (mulN c a) _) ?_; rintro e w'' ⟨rfl, hb⟩; refine ⟨_, rfl, ?_⟩; exact hK _ hb))
  (refine kind_firm (v := ?_) rfl ?_ ?_; rotate_left; focus (intro K w' hg hK; go_simp; refine Calls.mono (mul_any c b hc hb _) ?_; rintro e w'' ⟨rfl, hb⟩; refine ⟨_, rfl, ?_⟩; exact hK _ hb))
  (refine kind_firm (v := ?_) rfl ?_ ?_; rotate_left; focus (intro K w' hg hK; go_simp; refine Calls.mono (lower_any (mulN c b) _) ?_; rintro e w'' ⟨rfl, hb⟩; refine ⟨_, rfl, ?_⟩; exact hK _ hb))
  (refine kind_firm (v := ?_) rfl ?_ ?_; rotate_left; focus (intro K w' hg hK; go_simp; refine Calls.mono (add_lows a b c _) ?_; rintro e w'' ⟨rfl, hb⟩; refine ⟨_, rfl, ?_⟩; exact hK _ hb))
  (refine kind_pure (v := ?_) rfl ?_ ?_; rotate_left; focus (intro K w' hK; go_simp; exact hK))
  (refine kind_pure (v := ?_) rfl ?_ ?_; rotate_left; focus (intro K w' hK; go_simp; exact hK))
  (refine kind_pure (v := ?_) rfl ?_ ?_; rotate_left; focus (intro K w' hK; go_simp; exact hK))
  (refine kind_loose rfl ?_; intro K wa1 ga1 hK; go_simp; refine hK _ _ (grow_alloc _ _) ?_; clear hK K)
  (refine kind_store rfl rfl ?_; intro K wb1 gb1 hK; have hs := new_num gb1; have sc := hs.cell; have sf := hs.frozen; go_simp; refine hK _ _ ?_; clear hK K)
  refine kind_end ?_
  intro w6 h6
  replace ka := put_num _ _ _ _ ka.drew ga1 gb1 h6
  replace kb := put_num _ _ _ _ kb.drew ga1 gb1 h6
  replace ks := put_num _ _ _ _ ks.drew ga1 gb1 h6
  replace kd := put_num _ _ _ _ kd.drew ga1 gb1 h6
  replace kt := put_num _ _ _ _ kt.drew ga1 gb1 h6
  replace kl := put_num _ _ _ _ kl.drew ga1 gb1 h6
  have kp := put_new _ _ _ _ gb1 h6
  replace b5 := put_below _ _ _ _ b5.drew b5.size ga1 gb1 h6
  clear kc h6 sc sf hs gb1 ga1
  go_wp2
  refine wp_region_kinds [] 25 [(0, 0), (1, 0), (2, 0), (3, 0), (4, 0), (5, 0), (6, 0), (7, 0), (8, 0), (9, 0), (10, 0), (11, 0), (12, 0), (13, 0), (14, 0), (15, 0), (16, 0), (17, 0), (18, 0), (19, 0), (20, 0), (21, 0), (22, 0), (23, 0), (24, 0)] (by kernel_rfl) (by kernel_rfl) ?_
  (refine kind_firm (v := ?_) rfl ?_ ?_; rotate_left; focus (intro K w' hg hK; have hc1 := (kd.drew.after hg).cell; go_simp; exact hK _ (Grow.refl _)))
  (refine kind_firm (v := ?_) rfl ?_ ?_; rotate_left; focus (intro K w' hg hK; have hc1 := (ka.drew.after hg).cell; go_simp; exact hK _ (Grow.refl _)))
  (refine kind_firm (v := ?_) rfl ?_ ?_; rotate_left; focus (intro K w' hg hK; go_simp; exact hK _ (Grow.refl _)))
  (refine kind_firm (v := ?_) rfl ?_ ?_; rotate_left; focus (intro K w' hg hK; go_simp; exact hK _ (Grow.refl _)))
  (refine kind_firm (v := ?_) rfl ?_ ?_; rotate_left; focus (intro K w' hg hK; have hc1 := (ks.drew.after hg).cell; go_simp; exact hK _ (Grow.refl _)))
  (refine kind_firm (v := ?_) rfl ?_ ?_; rotate_left; focus (intro K w' hg hK; have hc1 := (kt.drew.after hg).cell; go_simp; exact hK _ (Grow.refl _)))
  (refine kind_firm (v := ?_) rfl ?_ ?_; rotate_left; focus (intro K w' hg hK; go_simp; exact hK _ (Grow.refl _)))
  (refine kind_firm (v := ?_) rfl ?_ ?_; rotate_left; focus (intro K w' hg hK; go_simp; exact hK _ (Grow.refl _)))
  (refine kind_firm (v := ?_) rfl ?_ ?_; rotate_left; focus (intro K w' hg hK; go_simp; exact hK _ (Grow.refl _)))
  (refine kind_firm (v := ?_) rfl ?_ ?_; rotate_left; focus (intro K w' hg hK; have hc1 := (ka.drew.after hg).cell; go_simp; exact hK _ (Grow.refl _)))
  (refine kind_firm (v := ?_) rfl ?_ ?_; rotate_left; focus (intro K w' hg hK; have hc1 := (kb.drew.after hg).cell; go_simp; exact hK _ (Grow.refl _)))
  (refine kind_firm (v := ?_) rfl ?_ ?_; rotate_left; focus (intro K w' hg hK; go_simp; refine Calls.mono (mul_any a b ha hb _) ?_; rintro e w'' ⟨rfl, hb⟩; refine ⟨_, rfl, ?_⟩; exact hK _ hb))
  (refine kind_firm (v := ?_) rfl ?_ ?_; rotate_left; focus (intro K w' hg hK; have hc1 := (kb.drew.after hg).cell; go_simp; exact hK _ (Grow.refl _)))
  (refine kind_firm (v := ?_) rfl ?_ ?_; rotate_left; focus (intro K w' hg hK; have hc1 := (ka.drew.after hg).cell; go_simp; exact hK _ (Grow.refl _)))
  (refine kind_firm (v := ?_) rfl ?_ ?_; rotate_left; focus (intro K w' hg hK; go_simp; refine Calls.mono (mul_swap a b ha hb _) ?_; rintro e w'' ⟨rfl, hb⟩; refine ⟨_, rfl, ?_⟩; exact hK _ hb))
  (refine kind_firm (v := ?_) rfl ?_ ?_; rotate_left; focus (intro K w' hg hK; go_simp; exact hK _ (Grow.refl _)))
  (refine kind_firm (v := ?_) rfl ?_ ?_; rotate_left; focus (intro K w' hg hK; go_simp; exact hK _ (Grow.refl _)))
  (refine kind_firm (v := ?_) rfl ?_ ?_; rotate_left; focus (intro K w' hg hK; go_simp; exact hK _ (Grow.refl _)))
  (refine kind_firm (v := ?_) rfl ?_ ?_; rotate_left; focus (intro K w' hg hK; have hc1 := (kl.drew.after hg).cell; go_simp; exact hK _ (Grow.refl _)))
  (refine kind_firm (v := ?_) rfl ?_ ?_; rotate_left; focus (intro K w' hg hK; have hc1 := (kp.drew.after hg).cell; go_simp; exact hK _ (Grow.refl _)))
  (refine kind_firm (v := ?_) rfl ?_ ?_; rotate_left; focus (intro K w' hg hK; go_simp; exact hK _ (Grow.refl _)))
  (refine kind_firm (v := ?_) rfl ?_ ?_; rotate_left; focus (intro K w' hg hK; go_simp; exact hK _ (Grow.refl _)))
  (refine kind_firm (v := ?_) rfl ?_ ?_; rotate_left; focus (intro K w' hg hK; go_simp; exact hK _ (Grow.refl _)))
  (refine kind_firm (v := ?_) rfl ?_ ?_; rotate_left; focus (intro K w' hg hK; go_simp; refine Calls.mono (turns_any _) ?_; rintro e w'' ⟨rfl, hb⟩; refine ⟨_, rfl, ?_⟩; exact hK _ hb))
  (refine kind_firm (v := ?_) rfl ?_ ?_; rotate_left; focus (intro K w' hg hK; go_simp; exact hK _ (Grow.refl _)))
  refine kind_end ?_
  intro w7 h7
  go_wp2
  go_ret
  exact ⟨rfl, below_call h7 (by exact b5.drew)⟩
end Go.Proofs.Ytcoljlanblngiaa
