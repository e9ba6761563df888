/- LimbSums, the walk. -/
import Derived.Test.YtcoljlanblngiaaF
import Derived.Test.YtcoljlanblngiaaO3
import Derived.Test.YtcoljlanblngiaaP8
namespace Go.Proofs.Ytcoljlanblngiaa
set_option linter.unusedVariables false
set_option linter.unusedSimpArgs false
open Go.RowKit Go.Proofs.YtcoljlanblngiaaW.PrintWords

theorem Digs.drew {w : World} {A : Option Addr} {n k : Nat} (h : Digs w A n k) : Digs w.drew A n k := h
theorem num_sum (a b : Nat) : num (a + b) = num (addN a b) := by
  unfold num; rw [lb_addN a b (i := 0) (by omega), lb_addN a b (i := 1) (by omega), lb_addN a b (i := 2) (by omega), lb_addN a b (i := 3) (by omega)]
theorem rnum_sum (a b p : Nat) (hp : a + b < 65536 ^ p) (w : World) (A : Option Addr) (c : Nat) (hc : p ≤ c) (D : Digs w A (a + b) p) :
    Calls Try.prog 23 #[.slice A p c] w fun e w' => e = .returned (num (addN a b)) ∧ Below w.heap.size w w' := by
  rw [← num_sum]; exact num_any (a + b) p hp A c hc w D
set_option maxHeartbeats 2000000 in
theorem sums_walk (a b : Nat) (ha : a < RR) (hb : b < RR) (w : World) : Calls Try.prog 4 #[num a, num b] w fun e w' => e = .returned (.bool true) ∧ Below w.heap.size w w' := by
  have q1 := eqin_same
  have a16 : a < 65536 ^ 16 := by unfold RR at ha; omega
  have b16 : b < 65536 ^ 16 := by unfold RR at hb; omega
  have a17 : a + b < 65536 ^ 17 := by omega
  have cf := ca_four a b ha hb
  obtain ⟨p, hp, hp2, hpc⟩ : ∃ p : Nat, plen a b (max 16 16) = p ∧ a + b < 65536 ^ p ∧ ((ca a b 4 = 1 ∧ p = 17) ∨ (ca a b 4 = 0 ∧ p = 16)) := by
    rw [show max 16 16 = 16 from rfl]
    by_cases h : a + b < RR
    · refine ⟨16, ?_, ?_, .inr ⟨?_, rfl⟩⟩
      · unfold plen; rw [if_pos (by unfold RR at h; omega)]
      · unfold RR at h; omega
      · rw [cf, Nat.div_eq_of_lt h]; rfl
    · refine ⟨17, ?_, a17, .inl ⟨?_, rfl⟩⟩
      · unfold plen; rw [if_neg (by unfold RR at h; omega)]
      · have : (a + b) / RR = 1 := by unfold RR at *; omega
        rw [cf, this]; rfl
  have hp3 : p ≤ 17 := by omega
  clear cf hp3 a17
  go_enter Try.func4, Try.ntmps4
  go_wp2_with fail; (with_reducible refine (add_any a b _).mono ?_); rintro e w1 ⟨rfl, h1⟩; have ka := ((Blk.newAt (n := w.heap.size) _ _ _ (by first | rfl | simp)).alloc _).after h1; have kb := (Blk.newAt (n := w.heap.size + 1) _ _ _ (by first | rfl | simp)).after h1; have bw := below_call h1 (w := w) (by go_grown); obtain ⟨ka_c, ka_f, ka_l, ka_m, _⟩ := ka.knows; obtain ⟨kb_c, kb_f, kb_l, kb_m, _⟩ := kb.knows
  go_wp2_with fail; (with_reducible refine (sub_any a b hb _).mono ?_); rintro e w2 ⟨rfl, h2⟩; clear ka_c ka_f ka_l ka_m kb_c kb_f kb_l kb_m; (first | replace ka := ka.after h2 | replace ka := (ka.alloc _).after h2 | replace ka := ((ka.alloc _).alloc _).after h2 | replace ka := ka.drew.after h2 | replace ka := (ka.alloc _).drew.after h2 | replace ka := (ka.drew.alloc _).after h2); (first | replace kb := kb.after h2 | replace kb := (kb.alloc _).after h2 | replace kb := ((kb.alloc _).alloc _).after h2 | replace kb := kb.drew.after h2 | replace kb := (kb.alloc _).drew.after h2 | replace kb := (kb.drew.alloc _).after h2); (first | have ks := (Blk.new _ _ _).after h2 | have ks := (Blk.new _ _ _).drew.after h2); have bwsz := Below.size bw; replace bw := below_call h2 (w := w) (by go_grown); clear h2 bwsz; obtain ⟨ka_c, ka_f, ka_l, ka_m, _⟩ := ka.knows; obtain ⟨kb_c, kb_f, kb_l, kb_m, _⟩ := kb.knows; obtain ⟨ks_c, ks_f, ks_l, ks_m, _⟩ := ks.knows
  clear ka_c ka_f ka_l ka_m kb_c kb_f kb_l kb_m ks_c ks_f ks_l ks_m
  go_upto_region 3 with (fail)
  have kd := Blk.new w2 24 #[.int .u64 (lb (subN a b) 0), .int .u64 (lb (subN a b) 1), .int .u64 (lb (subN a b) 2), .int .u64 (lb (subN a b) 3)]; replace ka := ka.alloc (.cells #[.int .u64 (lb (subN a b) 0), .int .u64 (lb (subN a b) 1), .int .u64 (lb (subN a b) 2), .int .u64 (lb (subN a b) 3)] 24); replace kb := kb.alloc (.cells #[.int .u64 (lb (subN a b) 0), .int .u64 (lb (subN a b) 1), .int .u64 (lb (subN a b) 2), .int .u64 (lb (subN a b) 3)] 24); replace ks := ks.alloc (.cells #[.int .u64 (lb (subN a b) 0), .int .u64 (lb (subN a b) 1), .int .u64 (lb (subN a b) 2), .int .u64 (lb (subN a b) 3)] 24); replace bw := bw.alloc bw.size (.cells #[.int .u64 (lb (subN a b) 0), .int .u64 (lb (subN a b) 1), .int .u64 (lb (subN a b) 2), .int .u64 (lb (subN a b) 3)] 24); generalize w2.heap.size = g_kd at *; generalize w2.alloc _ = W3 at *
  refine wp_region_kinds [] 5 [(0, 0), (2, 0), (1, 2), (3, 2), (4, 2)] (by kernel_rfl) (by kernel_rfl) ?_
  (refine kind_firm (v := ?_) rfl ?_ ?_; rotate_left; focus (intro K w' hg hK; have hc1 := (ka.drew.after hg).cell; go_simp; exact hK _ (Grow.refl _)))
  (refine kind_firm (v := ?_) rfl ?_ ?_; rotate_left; focus (intro K w' hg hK; have hc1 := (kb.drew.after hg).cell; go_simp; exact hK _ (Grow.refl _)))
  (refine kind_loose rfl ?_; intro K w' hg hK; go_simp; refine Calls.mono (digits_any a _) ?_)
  rintro e w1 ⟨v1, rfl, o1, h1⟩
  obtain ⟨A1, c1, rfl, hc1, D1⟩ := digs_of o1
  refine ⟨_, rfl, hK _ _ h1 ?_⟩
  have g1 := Grow.trans hg h1
  clear hK hg h1 o1 K
  (refine kind_loose rfl ?_; intro K w' hg hK; go_simp; refine Calls.mono (digits_any b _) ?_)
  rintro e w4 ⟨v2, rfl, o2, h4⟩
  obtain ⟨A2, c2, rfl, hc2, D2⟩ := digs_of o2
  refine ⟨_, rfl, hK _ _ h4 ?_⟩
  replace D1 := (D1.after hg).after h4
  replace g1 := Grow.trans (Grow.trans g1 hg) h4
  clear hK hg h4 o2 K
  (refine kind_loose rfl ?_; intro K w' hg hK; go_simp; refine Calls.mono (dplus_any a b 16 16 a16 b16 (by omega) (by omega) A1 A2 c1 c2 hc1 hc2 _ (D1.after hg) (D2.after hg)) ?_)
  rintro e w5 ⟨v5, rfl, o5, h5⟩
  rw [hp] at o5
  obtain ⟨A5, c5, rfl, hc5, D5⟩ := digs_of o5
  refine ⟨_, rfl, hK _ _ h5 ?_⟩
  replace g1 := Grow.trans (Grow.trans g1 hg) h5
  clear hK hg h5 o5 K D1 D2
  refine kind_end ?_
  intro w6 h6
  replace D5 := D5.after h6
  replace g1 := Grow.trans g1 h6
  clear h6
  replace ka := ka.drew.after g1
  replace kb := kb.drew.after g1
  replace ks := ks.drew.after g1
  replace kd := kd.drew.after g1
  replace bw := below_call g1 bw.drew
  clear g1
  obtain ⟨ka_c, ka_f, ka_l, ka_m, _⟩ := ka.knows
  obtain ⟨kb_c, kb_f, kb_l, kb_m, _⟩ := kb.knows
  go_wp2_with fail
  (with_reducible refine (rsub_any a b ha hb _).mono ?_)
  rintro e w7 ⟨rfl, h7⟩
  clear ka_c ka_f ka_l ka_m kb_c kb_f kb_l kb_m
  replace D5 := D5.after h7
  replace ks := ks.after h7
  replace kd := kd.after h7
  replace bw := below_call h7 bw
  clear h7 ka kb
  go_upto_region 5 with (fail)
  replace D5 : Digs (w7.alloc (.cells #[.int .u64 (lb (subN a b) 0), .int .u64 (lb (subN a b) 1), .int .u64 (lb (subN a b) 2), .int .u64 (lb (subN a b) 3)] 24)) A5 (a + b) p := Kd.C_alloc D5 _
  have ky := Blk.new w7 24 #[.int .u64 (lb (subN a b) 0), .int .u64 (lb (subN a b) 1), .int .u64 (lb (subN a b) 2), .int .u64 (lb (subN a b) 3)]; replace ks := ks.alloc (.cells #[.int .u64 (lb (subN a b) 0), .int .u64 (lb (subN a b) 1), .int .u64 (lb (subN a b) 2), .int .u64 (lb (subN a b) 3)] 24); replace kd := kd.alloc (.cells #[.int .u64 (lb (subN a b) 0), .int .u64 (lb (subN a b) 1), .int .u64 (lb (subN a b) 2), .int .u64 (lb (subN a b) 3)] 24); replace bw := bw.alloc bw.size (.cells #[.int .u64 (lb (subN a b) 0), .int .u64 (lb (subN a b) 1), .int .u64 (lb (subN a b) 2), .int .u64 (lb (subN a b) 3)] 24); generalize w7.heap.size = g_ky at *; generalize w7.alloc _ = W8 at *
  rcases hpc with ⟨e1, rfl⟩ | ⟨e1, rfl⟩
  all_goals
    rw [e1]
    refine wp_region_kinds [] 29 [(0, 0), (1, 0), (2, 0), (3, 0), (4, 0), (5, 0), (6, 0), (7, 0), (8, 0), (9, 0), (10, 0), (11, 0), (12, 0), (13, 0), (14, 0), (15, 0), (16, 0), (17, 0), (18, 0), (19, 0), (20, 0), (21, 0), (22, 0), (23, 0), (24, 0), (25, 0), (26, 0), (27, 0), (28, 0)] (by kernel_rfl) (by kernel_rfl) ?_
    (refine kind_firm (v := ?_) rfl ?_ ?_; rotate_left; focus (intro K w' hg hK; have hc1 := (ks.drew.after hg).cell; go_simp; exact hK _ (Grow.refl _)))
    (refine kind_firm (v := ?_) rfl ?_ ?_; rotate_left; focus (intro K w' hg hK; go_simp; exact hK _ (Grow.refl _)))
    (refine kind_firm (v := ?_) rfl ?_ ?_; rotate_left; focus (intro K w' hg hK; go_simp; refine Calls.mono (rnum_sum a b _ hp2 _ A5 c5 hc5 (Digs.after (Digs.drew D5) hg)) ?_; rintro e w'' ⟨rfl, hb⟩; refine ⟨_, rfl, ?_⟩; exact hK _ hb))
    (refine kind_firm (v := ?_) rfl ?_ ?_; rotate_left; focus (intro K w' hg hK; go_simp; exact hK _ (Grow.refl _)))
    (refine kind_firm (v := ?_) rfl ?_ ?_; rotate_left; focus (intro K w' hg hK; go_simp; exact hK _ (Grow.refl _)))
    (refine kind_firm (v := ?_) rfl ?_ ?_; rotate_left; focus (intro K w' hg hK; go_simp; exact hK _ (Grow.refl _)))
    (refine kind_firm (v := ?_) rfl ?_ ?_; rotate_left; focus (intro K w' hg hK; go_simp; exact hK _ (Grow.refl _)))
    (refine kind_firm (v := ?_) rfl ?_ ?_; rotate_left; focus (intro K w' hg hK; go_simp; exact hK _ (Grow.refl _)))
    (refine kind_firm (v := ?_) rfl ?_ ?_; rotate_left; focus (intro K w' hg hK; go_simp; exact hK _ (Grow.refl _)))
    (refine kind_firm (v := ?_) rfl ?_ ?_; rotate_left; focus (intro K w' hg hK; go_simp; exact hK _ (Grow.refl _)))
    (refine kind_firm (v := ?_) rfl ?_ ?_; rotate_left; focus (intro K w' hg hK; go_simp; exact hK _ (Grow.refl _)))
    (refine kind_firm (v := ?_) rfl ?_ ?_; rotate_left; focus (intro K w' hg hK; go_simp; exact hK _ (Grow.refl _)))
    (refine kind_firm (v := ?_) rfl ?_ ?_; rotate_left; focus (intro K w' hg hK; go_simp; exact hK _ (Grow.refl _)))
    (refine kind_firm (v := ?_) rfl ?_ ?_; rotate_left; focus (intro K w' hg hK; go_simp; exact hK _ (Grow.refl _)))
    (refine kind_firm (v := ?_) rfl ?_ ?_; rotate_left; focus (intro K w' hg hK; go_simp; exact hK _ (Grow.refl _)))
    (refine kind_firm (v := ?_) rfl ?_ ?_; rotate_left; focus (intro K w' hg hK; go_simp; exact hK _ (Grow.refl _)))
    (refine kind_firm (v := ?_) rfl ?_ ?_; rotate_left; focus (intro K w' hg hK; go_simp; exact hK _ (Grow.refl _)))
    (refine kind_firm (v := ?_) rfl ?_ ?_; rotate_left; focus (intro K w' hg hK; have hc1 := (kd.drew.after hg).cell; go_simp; exact hK _ (Grow.refl _)))
    (refine kind_firm (v := ?_) rfl ?_ ?_; rotate_left; focus (intro K w' hg hK; have hc1 := (ky.drew.after hg).cell; go_simp; exact hK _ (Grow.refl _)))
    (refine kind_firm (v := ?_) rfl ?_ ?_; rotate_left; focus (intro K w' hg hK; go_simp; exact hK _ (Grow.refl _)))
    (refine kind_firm (v := ?_) rfl ?_ ?_; rotate_left; focus (intro K w' hg hK; go_simp; exact hK _ (Grow.refl _)))
    (refine kind_firm (v := ?_) rfl ?_ ?_; rotate_left; focus (intro K w' hg hK; go_simp; exact hK _ (Grow.refl _)))
    (refine kind_firm (v := ?_) rfl ?_ ?_; rotate_left; focus (intro K w' hg hK; go_simp; exact hK _ (Grow.refl _)))
    (refine kind_firm (v := ?_) rfl ?_ ?_; rotate_left; focus (intro K w' hg hK; go_simp; exact hK _ (Grow.refl _)))
    (refine kind_firm (v := ?_) rfl ?_ ?_; rotate_left; focus (intro K w' hg hK; go_simp; exact hK _ (Grow.refl _)))
    (refine kind_firm (v := ?_) rfl ?_ ?_; rotate_left; focus (intro K w' hg hK; go_simp; exact hK _ (Grow.refl _)))
    (refine kind_firm (v := ?_) rfl ?_ ?_; rotate_left; focus (intro K w' hg hK; go_simp; exact hK _ (Grow.refl _)))
    (refine kind_firm (v := ?_) rfl ?_ ?_; rotate_left; focus (intro K w' hg hK; go_simp; refine Calls.mono (turns_any _) ?_; rintro e w'' ⟨rfl, hb⟩; refine ⟨_, rfl, ?_⟩; exact hK _ hb))
    (refine kind_firm (v := ?_) rfl ?_ ?_; rotate_left; focus (intro K w' hg hK; go_simp; exact hK _ (Grow.refl _)))
    refine kind_end ?_
    intro w9 h9
    go_wp2
    go_ret
    exact ⟨rfl, below_call h9 (by exact bw.drew)⟩
end Go.Proofs.Ytcoljlanblngiaa
