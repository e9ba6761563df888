/- LimbProducts, the walk. -/
import Derived.Test.YtcoljlanblngiaaC
import Derived.Test.YtcoljlanblngiaaF
import Derived.Test.YtcoljlanblngiaaO2
import Derived.Test.YtcoljlanblngiaaP3
import Derived.Test.YtcoljlanblngiaaP5
import Derived.Test.YtcoljlanblngiaaQ2
namespace Go.Proofs.Ytcoljlanblngiaa
set_option linter.unusedVariables false
set_option linter.unusedSimpArgs false
open Go.RowKit Go.Proofs.YtcoljlanblngiaaW.PrintWords

abbrev twoV : Value := .agg #[.int .u64 2, .int .u64 0, .int .u64 0, .int .u64 0]
abbrev most2V : Value := .agg #[.int .u64 18446744073709551614, .int .u64 18446744073709551615, .int .u64 18446744073709551615, .int .u64 18446744073709551615, .int .u64 1, .int .u64 0, .int .u64 0, .int .u64 0]
theorem num_two : num 2 = twoV := by
  have h : lb 2 0 = 2 ∧ lb 2 1 = 0 ∧ lb 2 2 = 0 ∧ lb 2 3 = 0 := by simp only [lb_def, lbN]; decide
  unfold num twoV; rw [h.1, h.2.1, h.2.2.1, h.2.2.2]
theorem wide_most2 : wide (mulN mostN 2) = most2V := by
  rw [mulN_def, mostN_def]
  have h : lb ((RR - 1) * 2) 0 = 18446744073709551614 ∧ lb ((RR - 1) * 2) 1 = 18446744073709551615 ∧ lb ((RR - 1) * 2) 2 = 18446744073709551615 ∧ lb ((RR - 1) * 2) 3 = 18446744073709551615 ∧ lb ((RR - 1) * 2) 4 = 1 ∧ lb ((RR - 1) * 2) 5 = 0 ∧ lb ((RR - 1) * 2) 6 = 0 ∧ lb ((RR - 1) * 2) 7 = 0 := by
    unfold RR; simp only [lb_def, lbN]; decide
  unfold wide most2V; rw [h.1, h.2.1, h.2.2.1, h.2.2.2.1, h.2.2.2.2.1, h.2.2.2.2.2.1, h.2.2.2.2.2.2.1, h.2.2.2.2.2.2.2]
theorem mul_most_two (w : World) : Calls Try.prog 24 #[num mostN, twoV] w fun e w' => e = .returned most2V ∧ Below w.heap.size w w' := by
  have h := mul_any mostN 2 mostN_lt (by unfold RR; omega) w
  rw [num_two, wide_most2] at h
  exact h
theorem eqin_most2 (w : World) : (Op.equalIn 10000 41 most2V most2V).run Try.prog w = .ok true w := by
  rw [← wide_most2]; exact eqin_wide_same _ w
set_option maxHeartbeats 2000000 in
theorem products_walk (a b : Nat) (ha : a < RR) (hb : b < RR) (w : World) : Calls Try.prog 5 #[num a, num b] w fun e w' => e = .returned (.bool true) ∧ Below w.heap.size w w' := by
  have q2 := eqin_wide_same
  have q3 := eqin_most2
  have lt16 : a < 65536 ^ 16 := by unfold RR at ha; omega
  have lt16b : b < 65536 ^ 16 := by unfold RR at hb; omega
  have lt32 : mulN a b < 65536 ^ 32 := by
    rw [mulN_def, show 65536 ^ 32 = 65536 ^ 16 * 65536 ^ 16 from by decide]
    exact Nat.mul_lt_mul_of_lt_of_le lt16 (Nat.le_of_lt lt16b) (by decide)
  go_enter Try.func5, Try.ntmps5
  go_wp2
  have cA : ∀ w', Grow ((w.alloc (.cells #[.int .u64 (lb a 0), .int .u64 (lb a 1), .int .u64 (lb a 2), .int .u64 (lb a 3)] 24)).alloc (.cells #[.int .u64 (lb b 0), .int .u64 (lb b 1), .int .u64 (lb b 2), .int .u64 (lb b 3)] 24)).drew w' → Blk w' w.heap.size 24 #[.int .u64 (lb a 0), .int .u64 (lb a 1), .int .u64 (lb a 2), .int .u64 (lb a 3)] :=
    fun w' hg => ((Blk.newAt (n := w.heap.size) _ _ _ rfl).alloc _).drew.after hg
  have cB : ∀ w', Grow ((w.alloc (.cells #[.int .u64 (lb a 0), .int .u64 (lb a 1), .int .u64 (lb a 2), .int .u64 (lb a 3)] 24)).alloc (.cells #[.int .u64 (lb b 0), .int .u64 (lb b 1), .int .u64 (lb b 2), .int .u64 (lb b 3)] 24)).drew w' → Blk w' (w.heap.size + 1) 24 #[.int .u64 (lb b 0), .int .u64 (lb b 1), .int .u64 (lb b 2), .int .u64 (lb b 3)] :=
    fun w' hg => (Blk.newAt (n := w.heap.size + 1) _ _ _ (by simp)).drew.after hg
  refine wp_region_grow 17 [(0, true), (1, true), (3, true), (5, true), (2, true), (4, false), (6, false), (7, false), (8, true), (9, true), (10, true), (11, true), (12, true), (13, true), (14, true), (15, true), (16, true)] (by kernel_rfl) (by kernel_rfl) ?_
  (refine grow_k (v := ?_) rfl (fun K w' hg hK => ?_) ?_; rotate_left; focus (obtain ⟨c1, _⟩ := (cA w' hg).knows; go_simp; exact hK _ (Grow.refl _)))
  (refine grow_k (v := ?_) rfl (fun K w' hg hK => ?_) ?_; rotate_left; focus (obtain ⟨c1, _⟩ := (cB w' hg).knows; go_simp; exact hK _ (Grow.refl _)))
  (refine grow_k (v := ?_) rfl (fun K w' hg hK => ?_) ?_; rotate_left; focus (obtain ⟨c1, _⟩ := (cA w' hg).knows; go_simp; exact hK _ (Grow.refl _)))
  (refine grow_k (v := ?_) rfl (fun K w' hg hK => ?_) ?_; rotate_left; focus (obtain ⟨c1, _⟩ := (cB w' hg).knows; go_simp; exact hK _ (Grow.refl _)))
  clear cA cB
  (refine grow_k (v := ?_) rfl (fun K w' hg hK => ?_) ?_; rotate_left; focus (go_simp; refine Calls.mono (mul_any a b ha hb _) ?_; rintro e w'' ⟨rfl, hb⟩; refine ⟨_, rfl, ?_⟩; exact hK _ hb))
  (refine grow_l rfl (fun K w' hg hK => ?_); go_simp; refine Calls.mono (digits_any a _) ?_)
  rintro e w1 ⟨v1, rfl, o1, h1⟩
  obtain ⟨A1, c1, rfl, hc1, D1⟩ := digs_of o1
  refine ⟨_, rfl, hK _ _ h1 ?_⟩
  have g1 := Grow.trans hg h1
  clear hK hg h1 o1 K
  (refine grow_l rfl (fun K w' hg hK => ?_); go_simp; refine Calls.mono (digits_any b _) ?_)
  rintro e w2 ⟨v2, rfl, o2, h2⟩
  obtain ⟨A2, c2, rfl, hc2, D2⟩ := digs_of o2
  refine ⟨_, rfl, hK _ _ h2 ?_⟩
  replace D1 := (D1.after hg).after h2
  have g2 := Grow.trans (Grow.trans g1 hg) h2
  clear hK hg h2 o2 K g1
  (refine grow_l rfl (fun K w' hg hK => ?_); go_simp; refine Calls.mono (times_any a b 16 16 lt16 lt16b (by omega) (by omega) A1 A2 c1 c2 hc1 hc2 _ (D1.after hg) (D2.after hg)) ?_)
  rintro e w3 ⟨v3, rfl, o3, h3⟩
  obtain ⟨A3, c3, rfl, hc3, D3⟩ := digs_of o3
  rw [← mulN_def] at D3
  refine ⟨_, rfl, hK _ _ h3 ?_⟩
  have g3 := Grow.trans (Grow.trans g2 hg) h3
  clear hK hg h3 o3 K g2 D1 D2
  (refine grow_k (v := ?_) rfl (fun K w' hg hK => ?_) ?_; rotate_left; focus (go_simp; refine Calls.mono (wide_any (mulN a b) 32 lt32 A3 c3 hc3 _ (D3.after hg)) ?_; rintro e w'' ⟨rfl, hb⟩; refine ⟨_, rfl, ?_⟩; exact hK _ hb))
  (refine grow_k (v := ?_) rfl (fun K w' hg hK => ?_) ?_; rotate_left; focus (go_simp; exact hK _ (Grow.refl _)))
  (refine grow_k (v := ?_) rfl (fun K w' hg hK => ?_) ?_; rotate_left; focus (go_simp; exact hK _ (Grow.refl _)))
  (refine grow_k (v := ?_) rfl (fun K w' hg hK => ?_) ?_; rotate_left; focus (go_simp; refine Calls.mono (most_any _) ?_; rintro e w'' ⟨rfl, hb⟩; refine ⟨_, rfl, ?_⟩; exact hK _ hb))
  (refine grow_k (v := ?_) rfl (fun K w' hg hK => ?_) ?_; rotate_left; focus (go_simp; exact hK _ (Grow.refl _)))
  (refine grow_k (v := ?_) rfl (fun K w' hg hK => ?_) ?_; rotate_left; focus (go_simp; refine Calls.mono (mul_most_two _) ?_; rintro e w'' ⟨rfl, hb⟩; refine ⟨_, rfl, ?_⟩; exact hK _ hb))
  (refine grow_k (v := ?_) rfl (fun K w' hg hK => ?_) ?_; rotate_left; focus (go_simp; exact hK _ (Grow.refl _)))
  (refine grow_k (v := ?_) rfl (fun K w' hg hK => ?_) ?_; rotate_left; focus (go_simp; exact hK _ (Grow.refl _)))
  (refine grow_k (v := ?_) rfl (fun K w' hg hK => ?_) ?_; rotate_left; focus (go_simp; exact hK _ (Grow.refl _)))
  refine grow_end fun w4 h4 => ?_
  go_wp2
  go_ret
  exact ⟨rfl, below_call (Grow.trans g3 h4) (by go_grown)⟩
end Go.Proofs.Ytcoljlanblngiaa
