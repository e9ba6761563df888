/- The document's answer for layer 1: a number with R, a product's remainder, which moduli are right. The document's answer for layer 1: a number with R; which moduli are right. -/
import Derived.Test.YtcoljlanblngiaaM3
import Derived.Test.YtcoljlanblngiaaP5
import Derived.Test.YtcoljlanblngiaaP10
import Derived.Test.YtcoljlanblngiaaF
namespace Go.Proofs.Ytcoljlanblngiaa
set_option linter.unusedVariables false
set_option linter.unusedSimpArgs false
open Go.RowKit Go.Proofs.YtcoljlanblngiaaW.PrintWords

set_option maxHeartbeats 4000000 in
theorem rprod_any (a b m : Nat) (ha : a < RR) (hb : b < RR) (hm : m < RR) (h0 : 0 < m) (w : World) : Calls Try.prog 41 #[num a, num b, num m] w fun e w' => e = .returned (num (a * b % m)) ∧ Below w.heap.size w w' := by
  have a16 : a < 65536 ^ 16 := by unfold RR at ha; omega
  have b16 : b < 65536 ^ 16 := by unfold RR at hb; omega
  have m16 : m < 65536 ^ 16 := by unfold RR at hm; omega
  have lt32 : a * b < 65536 ^ (16 + 16) := by
    rw [Nat.pow_add]
    exact Nat.mul_lt_mul_of_lt_of_le a16 (Nat.le_of_lt b16) (by decide)
  obtain ⟨p, hp⟩ : ∃ p, p = a * b := ⟨_, rfl⟩
  rw [← hp] at lt32 ⊢
  have tm := fun A B ca cb hca hcb w hA hB => times_any a b 16 16 a16 b16 (by omega) (by omega) A B ca cb hca hcb w hA hB
  rw [← hp] at tm
  clear hp
  go_enter Try.func41, Try.ntmps41
  go_wp2
  have kx := ((Blk.newAt (n := w.heap.size) w 24 #[.int .u64 (lb (a) 0), .int .u64 (lb (a) 1), .int .u64 (lb (a) 2), .int .u64 (lb (a) 3)] rfl).alloc (.cells #[.int .u64 (lb (b) 0), .int .u64 (lb (b) 1), .int .u64 (lb (b) 2), .int .u64 (lb (b) 3)] 24)).alloc (.cells #[.int .u64 (lb (m) 0), .int .u64 (lb (m) 1), .int .u64 (lb (m) 2), .int .u64 (lb (m) 3)] 24) |>.alloc (.cells #[.int .u64 0, .int .u64 0, .int .u64 0, .int .u64 0] 24)
  have ky := ((Blk.newAt (n := w.heap.size + 1) (w.alloc (.cells #[.int .u64 (lb (a) 0), .int .u64 (lb (a) 1), .int .u64 (lb (a) 2), .int .u64 (lb (a) 3)] 24)) 24 #[.int .u64 (lb (b) 0), .int .u64 (lb (b) 1), .int .u64 (lb (b) 2), .int .u64 (lb (b) 3)] (by simp)).alloc (.cells #[.int .u64 (lb (m) 0), .int .u64 (lb (m) 1), .int .u64 (lb (m) 2), .int .u64 (lb (m) 3)] 24)).alloc (.cells #[.int .u64 0, .int .u64 0, .int .u64 0, .int .u64 0] 24)
  have km := (Blk.newAt (n := w.heap.size + 1 + 1) ((w.alloc (.cells #[.int .u64 (lb (a) 0), .int .u64 (lb (a) 1), .int .u64 (lb (a) 2), .int .u64 (lb (a) 3)] 24)).alloc (.cells #[.int .u64 (lb (b) 0), .int .u64 (lb (b) 1), .int .u64 (lb (b) 2), .int .u64 (lb (b) 3)] 24)) 24 #[.int .u64 (lb (m) 0), .int .u64 (lb (m) 1), .int .u64 (lb (m) 2), .int .u64 (lb (m) 3)] (by simp)).alloc (.cells #[.int .u64 0, .int .u64 0, .int .u64 0, .int .u64 0] 24)
  have kq := Blk.newAt (n := w.heap.size + 1 + 1 + 1) (((w.alloc (.cells #[.int .u64 (lb (a) 0), .int .u64 (lb (a) 1), .int .u64 (lb (a) 2), .int .u64 (lb (a) 3)] 24)).alloc (.cells #[.int .u64 (lb (b) 0), .int .u64 (lb (b) 1), .int .u64 (lb (b) 2), .int .u64 (lb (b) 3)] 24)).alloc (.cells #[.int .u64 (lb (m) 0), .int .u64 (lb (m) 1), .int .u64 (lb (m) 2), .int .u64 (lb (m) 3)] 24)) 24 #[.int .u64 0, .int .u64 0, .int .u64 0, .int .u64 0] (by simp)
  have bw : Below w.heap.size w ((((w.alloc (.cells #[.int .u64 (lb (a) 0), .int .u64 (lb (a) 1), .int .u64 (lb (a) 2), .int .u64 (lb (a) 3)] 24)).alloc (.cells #[.int .u64 (lb (b) 0), .int .u64 (lb (b) 1), .int .u64 (lb (b) 2), .int .u64 (lb (b) 3)] 24)).alloc (.cells #[.int .u64 (lb (m) 0), .int .u64 (lb (m) 1), .int .u64 (lb (m) 2), .int .u64 (lb (m) 3)] 24)).alloc (.cells #[.int .u64 0, .int .u64 0, .int .u64 0, .int .u64 0] 24)) := by go_grown
  generalize (((w.alloc (.cells #[.int .u64 (lb (a) 0), .int .u64 (lb (a) 1), .int .u64 (lb (a) 2), .int .u64 (lb (a) 3)] 24)).alloc (.cells #[.int .u64 (lb (b) 0), .int .u64 (lb (b) 1), .int .u64 (lb (b) 2), .int .u64 (lb (b) 3)] 24)).alloc (.cells #[.int .u64 (lb (m) 0), .int .u64 (lb (m) 1), .int .u64 (lb (m) 2), .int .u64 (lb (m) 3)] 24)).alloc (.cells #[.int .u64 0, .int .u64 0, .int .u64 0, .int .u64 0] 24) = W3 at *
  refine wp_region_kinds [] 9 [(0, 0), (2, 0), (5, 0), (1, 2), (3, 2), (4, 2), (6, 2), (7, 2), (8, 0)] (by kernel_rfl) (by kernel_rfl) ?_
  (refine kind_firm (v := ?_) rfl ?_ ?_; rotate_left; focus (intro K w' hg hK; have hc1 := (kx.drew.after hg).cell; go_simp; exact hK _ (Grow.refl _)))
  (refine kind_firm (v := ?_) rfl ?_ ?_; rotate_left; focus (intro K w' hg hK; have hc1 := (ky.drew.after hg).cell; go_simp; exact hK _ (Grow.refl _)))
  (refine kind_firm (v := ?_) rfl ?_ ?_; rotate_left; focus (intro K w' hg hK; have hc1 := (km.drew.after hg).cell; go_simp; exact hK _ (Grow.refl _)))
  (refine kind_loose rfl ?_; intro K w' hg hK; go_simp; refine Calls.mono (digits_any a _) ?_)
  rintro e w1 ⟨v1, rfl, o1, h1⟩
  obtain ⟨A1, c1, rfl, hc1, D1⟩ := digs_of o1
  refine ⟨_, rfl, hK _ _ h1 ?_⟩
  have g1 := Grow.trans hg h1
  clear hK hg h1 o1 K
  (refine kind_loose rfl ?_; intro K w' hg hK; go_simp; refine Calls.mono (digits_any b _) ?_)
  rintro e w4 ⟨v2, rfl, o2, h4⟩
  obtain ⟨A2, c2, rfl, hc2, D2⟩ := digs_of o2
  refine ⟨_, rfl, hK _ _ h4 ?_⟩
  replace D1 := (D1.after hg).after h4
  replace g1 := Grow.trans (Grow.trans g1 hg) h4
  clear hK hg h4 o2 K
  (refine kind_loose rfl ?_; intro K w' hg hK; go_simp; refine Calls.mono (tm A1 A2 c1 c2 hc1 hc2 _ (D1.after hg) (D2.after hg)) ?_)
  rintro e w5 ⟨v5, rfl, o5, h5⟩
  obtain ⟨A5, c5, rfl, hc5, D5⟩ := digs_of o5
  refine ⟨_, rfl, hK _ _ h5 ?_⟩
  replace g1 := Grow.trans (Grow.trans g1 hg) h5
  clear hK hg h5 o5 K D1 D2
  (refine kind_loose rfl ?_; intro K w' hg hK; go_simp; refine Calls.mono (digits_any m _) ?_)
  rintro e w6 ⟨v6, rfl, o6, h6⟩
  obtain ⟨A6, c6, rfl, hc6, D6⟩ := digs_of o6
  refine ⟨_, rfl, hK _ _ h6 ?_⟩
  replace D5 := (D5.after hg).after h6
  replace g1 := Grow.trans (Grow.trans g1 hg) h6
  clear hK hg h6 o6 K
  (refine kind_loose rfl ?_; intro K w' hg hK; go_simp; refine Calls.mono (rest_any p m (16 + 16) 16 lt32 h0 m16 (by omega) (by omega) (by omega) A5 A6 c5 c6 hc5 hc6 _ (D5.after hg) (D6.after hg)) ?_)
  rintro e w7 ⟨v7, rfl, A7, l7, c7, rfl, hc7, _, _, hlt, D7, h7⟩
  refine ⟨_, rfl, hK _ _ h7 ?_⟩
  replace g1 := Grow.trans (Grow.trans g1 hg) h7
  clear hK hg h7 K D5 D6
  (refine kind_firm (v := ?_) rfl ?_ ?_; rotate_left; focus (intro K w' hg hK; go_simp; refine Calls.mono (num_any (p % m) l7 hlt A7 c7 hc7 _ (D7.after hg)) ?_; rintro e w'' ⟨rfl, hb⟩; refine ⟨_, rfl, ?_⟩; exact hK _ hb))
  refine kind_end ?_
  intro w8 h8
  replace g1 := Grow.trans g1 h8
  replace kq := kq.drew.after g1
  replace bw := below_call g1 bw.drew
  clear g1 kx km ky h8
  have hc1 := kq.cell
  have hf1 := kq.frozen
  have kf := kq.put4 (.int .u64 (lb (p % m) 0)) (.int .u64 (lb (p % m) 1)) (.int .u64 (lb (p % m) 2)) (.int .u64 (lb (p % m) 3))
  replace bw := put_after (g := w.heap.size + 1 + 1 + 1) (by omega) (.int .u64 (lb (p % m) 0)) (.int .u64 (lb (p % m) 1)) (.int .u64 (lb (p % m) 2)) (.int .u64 (lb (p % m) 3)) bw (Below.refl _ _)
  obtain ⟨kf_c, kf_f, kf_l, _⟩ := kf.knows
  go_wp2
  refine bodyPost_ret (v := num (p % m)) (by simp [results, Try.results41, go_sem, kf_c, kf_l]) rfl ?_
  exact ⟨rfl, bw⟩
end Go.Proofs.Ytcoljlanblngiaa
namespace Go.Proofs.Ytcoljlanblngiaa
set_option linter.unusedVariables false
set_option linter.unusedSimpArgs false
open Go.RowKit Go.Proofs.YtcoljlanblngiaaW.PrintWords

theorem toN_def2 (m a p : Nat) (hp : p = a * RR) : p % m = toN m a := by rw [toN_def, hp]
set_option maxHeartbeats 4000000 in
theorem rto_any (a m : Nat) (ha : a < RR) (hm : m < RR) (h0 : 0 < m) (w : World) : Calls Try.prog 40 #[num a, num m] w fun e w' => e = .returned (num (toN m a)) ∧ Below w.heap.size w w' := by
  have a16 : a < 65536 ^ 16 := by unfold RR at ha; omega
  have m16 : m < 65536 ^ 16 := by unfold RR at hm; omega
  have r17 : RR < 65536 ^ 17 := by unfold RR; decide
  have lt33 : a * RR < 65536 ^ (16 + 17) := by
    rw [Nat.pow_add]
    exact Nat.mul_lt_mul_of_lt_of_le a16 (Nat.le_of_lt r17) (by decide)
  obtain ⟨p, hp⟩ : ∃ p, p = a * RR := ⟨_, rfl⟩
  rw [← hp] at lt33
  have tm := fun A B ca cb hca hcb w hA hB => times_any a RR 16 17 a16 r17 (by omega) (by omega) A B ca cb hca hcb w hA hB
  rw [← hp] at tm
  rw [← toN_def2 m a p hp]
  clear hp r17
  go_enter Try.func40, Try.ntmps40
  go_upto_region 1 with (fail)
  have kx := ((Blk.newAt (n := w.heap.size) w 24 #[.int .u64 (lb (a) 0), .int .u64 (lb (a) 1), .int .u64 (lb (a) 2), .int .u64 (lb (a) 3)] rfl).alloc (.cells #[.int .u64 (lb (m) 0), .int .u64 (lb (m) 1), .int .u64 (lb (m) 2), .int .u64 (lb (m) 3)] 24)).alloc (.cells #[.int .u64 0, .int .u64 0, .int .u64 0, .int .u64 0] 24)
  have km := (Blk.newAt (n := w.heap.size + 1) (w.alloc (.cells #[.int .u64 (lb (a) 0), .int .u64 (lb (a) 1), .int .u64 (lb (a) 2), .int .u64 (lb (a) 3)] 24)) 24 #[.int .u64 (lb (m) 0), .int .u64 (lb (m) 1), .int .u64 (lb (m) 2), .int .u64 (lb (m) 3)] (by simp)).alloc (.cells #[.int .u64 0, .int .u64 0, .int .u64 0, .int .u64 0] 24)
  have kq := Blk.newAt (n := w.heap.size + 1 + 1) ((w.alloc (.cells #[.int .u64 (lb (a) 0), .int .u64 (lb (a) 1), .int .u64 (lb (a) 2), .int .u64 (lb (a) 3)] 24)).alloc (.cells #[.int .u64 (lb (m) 0), .int .u64 (lb (m) 1), .int .u64 (lb (m) 2), .int .u64 (lb (m) 3)] 24)) 24 #[.int .u64 0, .int .u64 0, .int .u64 0, .int .u64 0] (by simp)
  have bw : Below w.heap.size w (((w.alloc (.cells #[.int .u64 (lb (a) 0), .int .u64 (lb (a) 1), .int .u64 (lb (a) 2), .int .u64 (lb (a) 3)] 24)).alloc (.cells #[.int .u64 (lb (m) 0), .int .u64 (lb (m) 1), .int .u64 (lb (m) 2), .int .u64 (lb (m) 3)] 24)).alloc (.cells #[.int .u64 0, .int .u64 0, .int .u64 0, .int .u64 0] 24)) := by go_grown
  generalize ((w.alloc (.cells #[.int .u64 (lb (a) 0), .int .u64 (lb (a) 1), .int .u64 (lb (a) 2), .int .u64 (lb (a) 3)] 24)).alloc (.cells #[.int .u64 (lb (m) 0), .int .u64 (lb (m) 1), .int .u64 (lb (m) 2), .int .u64 (lb (m) 3)] 24)).alloc (.cells #[.int .u64 0, .int .u64 0, .int .u64 0, .int .u64 0] 24) = w3 at *
  have kn : Blk (w3.alloc (.cells (madeCells #[.int .i64 0] 17) 3)) w3.heap.size 3 (madeCells #[.int .i64 0] 17) := Blk.new _ _ _
  have kn1 := kn.cell 16
  rw [over_zero] at kn1
  have kn2 := kn.frozen 16
  go_wp2_with (at_make; refine wpList_make_blk _ rfl _ _ 35 rfl 3 (.int .i64 0) 8 Try.underlying35 info_int 17 17 rfl rfl (by omega) (by omega) (by unfold maxLen; omega) ?_)
  clear kn1 kn2
  have e3 : Below w3.heap.size w3 (w3.alloc (.cells ((madeCells #[.int .i64 0] 17).setIfInBounds 16 (.int .i64 1)) 3)) := by go_grown
  replace kn : Blk (w3.alloc (.cells ((madeCells #[.int .i64 0] 17).setIfInBounds 16 (.int .i64 1)) 3)) w3.heap.size 3 (intsA (dgs RR 17)) := by rw [← over_set 1 rfl]; exact Blk.new _ _ _
  replace kx := kx.after e3
  replace km := km.after e3
  replace kq := kq.after e3
  replace bw := below_call e3 bw
  generalize w3.alloc (.cells ((madeCells #[.int .i64 0] 17).setIfInBounds 16 (.int .i64 1)) 3) = W3 at *
  generalize w3.heap.size = g3 at *
  clear e3
  obtain ⟨A3, c3, e4, hc3, D3⟩ := digs_of (ints_of_blk (base := 0) kn (by omega) (by rw [dgs_length]; unfold maxLen; omega))
  rw [dgs_length] at e4
  cases e4
  replace D3 : Digs W3.drew (some ⟨g3, 0, none⟩) RR 17 := D3
  refine wp_region_kinds [] 8 [(0, 0), (4, 0), (2, 0), (1, 2), (3, 2), (5, 2), (6, 2), (7, 0)] (by kernel_rfl) (by kernel_rfl) ?_
  (refine kind_firm (v := ?_) rfl ?_ ?_; rotate_left; focus (intro K w' hg hK; have hc1 := (kx.drew.after hg).cell; go_simp; exact hK _ (Grow.refl _)))
  (refine kind_firm (v := ?_) rfl ?_ ?_; rotate_left; focus (intro K w' hg hK; have hc1 := (km.drew.after hg).cell; go_simp; exact hK _ (Grow.refl _)))
  (refine kind_firm (v := ?_) rfl ?_ ?_; rotate_left; focus (intro K w' hg hK; go_simp; exact hK _ (Grow.refl _)))
  (refine kind_loose rfl ?_; intro K w' hg hK; go_simp; refine Calls.mono (digits_any a _) ?_)
  rintro e w1 ⟨v1, rfl, o1, h1⟩
  obtain ⟨A1, c1, rfl, hc1, D1⟩ := digs_of o1
  refine ⟨_, rfl, hK _ _ h1 ?_⟩
  have g1 := Grow.trans hg h1
  clear hK hg h1 o1 K
  replace D3 := D3.after g1
  (refine kind_loose rfl ?_; intro K w' hg hK; go_simp; refine Calls.mono (tm A1 _ c1 17 hc1 hc3 _ (D1.after hg) (D3.after hg)) ?_)
  rintro e w5 ⟨v5, rfl, o5, h5⟩
  obtain ⟨A5, c5, rfl, hc5, D5⟩ := digs_of o5
  refine ⟨_, rfl, hK _ _ h5 ?_⟩
  replace g1 := Grow.trans (Grow.trans g1 hg) h5
  clear hK hg h5 o5 K D1 D3
  (refine kind_loose rfl ?_; intro K w' hg hK; go_simp; refine Calls.mono (digits_any m _) ?_)
  rintro e w6 ⟨v6, rfl, o6, h6⟩
  obtain ⟨A6, c6, rfl, hc6, D6⟩ := digs_of o6
  refine ⟨_, rfl, hK _ _ h6 ?_⟩
  replace D5 := (D5.after hg).after h6
  replace g1 := Grow.trans (Grow.trans g1 hg) h6
  clear hK hg h6 o6 K
  (refine kind_loose rfl ?_; intro K w' hg hK; go_simp; refine Calls.mono (rest_any p m (16 + 17) 16 lt33 h0 m16 (by omega) (by omega) (by omega) A5 A6 c5 c6 hc5 hc6 _ (D5.after hg) (D6.after hg)) ?_)
  rintro e w7 ⟨v7, rfl, A7, l7, c7, rfl, hc7, _, _, hlt, D7, h7⟩
  refine ⟨_, rfl, hK _ _ h7 ?_⟩
  replace g1 := Grow.trans (Grow.trans g1 hg) h7
  clear hK hg h7 K D5 D6
  (refine kind_firm (v := ?_) rfl ?_ ?_; rotate_left; focus (intro K w' hg hK; go_simp; refine Calls.mono (num_any (p % m) l7 hlt A7 c7 hc7 _ (D7.after hg)) ?_; rintro e w'' ⟨rfl, hb⟩; refine ⟨_, rfl, ?_⟩; exact hK _ hb))
  refine kind_end ?_
  intro w8 h8
  replace g1 := Grow.trans g1 h8
  replace kq := kq.drew.after g1
  replace bw := below_call g1 bw.drew
  clear g1 kx km h8
  have hc1 := kq.cell
  have hf1 := kq.frozen
  have kf := kq.put4 (.int .u64 (lb (p % m) 0)) (.int .u64 (lb (p % m) 1)) (.int .u64 (lb (p % m) 2)) (.int .u64 (lb (p % m) 3))
  replace bw := put_after (g := w.heap.size + 1 + 1) (by omega) (.int .u64 (lb (p % m) 0)) (.int .u64 (lb (p % m) 1)) (.int .u64 (lb (p % m) 2)) (.int .u64 (lb (p % m) 3)) bw (Below.refl _ _)
  obtain ⟨kf_c, kf_f, kf_l, _⟩ := kf.knows
  go_wp2
  refine bodyPost_ret (v := num (p % m)) (by simp [results, Try.results40, go_sem, kf_c, kf_l]) rfl ?_
  exact ⟨rfl, bw⟩
/-! ### Which moduli are right -/
theorem rok_even (m : Nat) (h : m % 2 = 0) (w : World) : Calls Try.prog 39 #[num m] w fun e w' => e = .returned (.bool false) ∧ Below w.heap.size w w' := by
  have h0 : lb m 0 % 2 = 0 := by rw [lb_def, lb0]; omega
  have l0 := lb_lo m 0
  go_enter Try.func39, Try.ntmps39
  go_wp2
  go_ret
  exact ⟨rfl, by go_grown⟩
theorem rok_one (w : World) : Calls Try.prog 39 #[num 1] w fun e w' => e = .returned (.bool false) ∧ Below w.heap.size w w' := by
  rw [num_one]
  go_enter Try.func39, Try.ntmps39
  go_wp2
  go_ret
  exact ⟨rfl, by go_grown⟩
theorem word_more (m : Nat) (hm : m < RR) (ho : m % 2 = 1) (h1 : m ≠ 1) : 1 < lb m 0 ∨ (¬ 1 < lb m 0 ∧ 0 < lb m 1) ∨ (¬ 1 < lb m 0 ∧ ¬ 0 < lb m 1 ∧ 0 < lb m 2) ∨ (¬ 1 < lb m 0 ∧ ¬ 0 < lb m 1 ∧ ¬ 0 < lb m 2 ∧ 0 < lb m 3) := by
  have e0 := lb_lo m 1
  have e1 := lb_lo m 2
  have e2 := lb_lo m 3
  have h0 : lb m 0 % 2 = 1 := by rw [lb_def, lb0]; omega
  have hl := lb_lo m 0
  have hx : ¬ (lb m 0 = 1 ∧ lb m 1 = 0 ∧ lb m 2 = 0 ∧ lb m 3 = 0) := by
    rintro ⟨a, b, c, d⟩
    have h : lb 1 0 = 1 ∧ lb 1 1 = 0 ∧ lb 1 2 = 0 ∧ lb 1 3 = 0 := by simp only [lb_def, lbN]; decide
    exact h1 (words_ext hm (by unfold RR; decide) (a.trans h.1.symm) (b.trans h.2.1.symm) (c.trans h.2.2.1.symm) (d.trans h.2.2.2.symm))
  omega
theorem rok_true (m : Nat) (hm : m < RR) (ho : m % 2 = 1) (h1 : m ≠ 1) (w : World) : Calls Try.prog 39 #[num m] w fun e w' => e = .returned (.bool true) ∧ Below w.heap.size w w' := by
  have h0 : lb m 0 % 2 = 1 := by rw [lb_def, lb0]; omega
  have l0 := lb_lo m 0
  rcases word_more m hm ho h1 with h | ⟨h, h2⟩ | ⟨h, h2, h3⟩ | ⟨h, h2, h3, h4⟩
  · have d1 : decide (1 < lb m 0) = true := decide_eq_true h
    go_enter Try.func39, Try.ntmps39
    go_wp2
    go_ret
    exact ⟨rfl, by go_grown⟩
  · have d1 : decide (1 < lb m 0) = false := decide_eq_false h
    have d2 : decide (0 < lb m 1) = true := decide_eq_true h2
    go_enter Try.func39, Try.ntmps39
    go_wp2
    go_ret
    exact ⟨rfl, by go_grown⟩
  · have d1 : decide (1 < lb m 0) = false := decide_eq_false h
    have d2 : decide (0 < lb m 1) = false := decide_eq_false h2
    have d3 : decide (0 < lb m 2) = true := decide_eq_true h3
    go_enter Try.func39, Try.ntmps39
    go_wp2
    go_ret
    exact ⟨rfl, by go_grown⟩
  · have d1 : decide (1 < lb m 0) = false := decide_eq_false h
    have d2 : decide (0 < lb m 1) = false := decide_eq_false h2
    have d3 : decide (0 < lb m 2) = false := decide_eq_false h3
    have d4 : decide (0 < lb m 3) = true := decide_eq_true h4
    go_enter Try.func39, Try.ntmps39
    go_wp2
    go_ret
    exact ⟨rfl, by go_grown⟩
end Go.Proofs.Ytcoljlanblngiaa
