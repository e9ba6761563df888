/- LimbPicks, the walk. -/
import Derived.Test.YtcoljlanblngiaaB
import Derived.Test.YtcoljlanblngiaaF
import Derived.Test.YtcoljlanblngiaaO3
import Derived.Test.YtcoljlanblngiaaP7
import Derived.Test.YtcoljlanblngiaaU
namespace Go.Proofs.Ytcoljlanblngiaa
set_option linter.unusedVariables false
set_option linter.unusedSimpArgs false
open Go.RowKit Go.Proofs.YtcoljlanblngiaaW.PrintWords

theorem dig_cell {w : World} {A : Option Addr} {n k : Nat} (h : Digs w A n k) (i : Nat) (hi : i < k) : ∃ ad, A = some ad ∧ w.cell? (ad.add i) = some (.int .i64 (dg n i)) := digs_at n k i A w h hi
theorem compare_k (a b ka kb : Nat) (ha : a < 65536 ^ ka) (hb : b < 65536 ^ kb) (hka : ka ≤ 100) (hkb : kb ≤ 100) (A B : Option Addr) (ca cb : Nat) (hca : ka ≤ ca) (hcb : kb ≤ cb) (w : World) (hA : Digs w A a ka) (hB : Digs w B b kb) :
    Calls Try.prog 29 #[.slice A ka ca, .slice B kb cb] w fun e w' => e = .returned (.int .i64 (cmpN a b)) ∧ Below w.heap.size w w' := by
  refine (compare_any a b ka kb ha hb hka hkb A B ca cb hca hcb w hA hB).mono ?_
  rintro e w' ⟨h1, h2⟩
  rw [h2]
  exact ⟨h1, Below.refl _ _⟩
theorem sel_odd (x : Int) (a b : Nat) (h0 : 0 ≤ x) (h1 : x < 18446744073709551616) (hx : x % 2 = 1) (w : World) : Calls Try.prog 30 #[.int .u64 x, num a, num b] w fun e w' => e = .returned (num a) ∧ Below w.heap.size w w' := select_odd x a b ((and_one_u64 x h0 (by omega)).trans hx) w
theorem sel_even (x : Int) (a b : Nat) (h0 : 0 ≤ x) (h1 : x < 18446744073709551616) (hx : x % 2 = 0) (w : World) : Calls Try.prog 30 #[.int .u64 x, num a, num b] w fun e w' => e = .returned (num b) ∧ Below w.heap.size w w' := select_even x a b ((and_one_u64 x h0 (by omega)).trans hx) w
set_option maxRecDepth 20000 in
set_option maxHeartbeats 4000000 in
theorem picks_in_odd (a b i : Nat) (ha : a < RR) (hb : b < RR) (h0 : i < 256) (hp : (i : Int) % 2 = 1) (w : World) : Calls Try.prog 7 #[num a, num b, .int .i64 (i : Int)] w fun e w' => e = .returned (.bool true) ∧ Below w.heap.size w w' := by
  have q1 := eqin_same
  have a16 : a < 65536 ^ 16 := by unfold RR at ha; omega
  have b16 : b < 65536 ^ 16 := by unfold RR at hb; omega
  have cS := sel_odd (IntKind.u64.wrap (i : Int)) a b (by rw [IntKind.wrap_u64]; omega) (by rw [IntKind.wrap_u64]; omega) (by rw [IntKind.wrap_u64]; omega)
  have hd1 : decide (0 ≤ (i : Int)) = true := decide_eq_true (by omega)
  have hi16 : i / 16 < 16 := by omega
  have hd2 : decide ((i : Int) < 256) = true := decide_eq_true (by omega)
  obtain ⟨hb1, hb2, hb3⟩ := bit_digit a i h0
  have w1 : IntKind.i64.wrap ((i : Int) / 16) = (i : Int) / 16 := IntWalk.i64_in _ (by omega)
  have w2 : 0 ≤ (i : Int) / 16 := by omega
  have w3 : (i : Int) / 16 < 16 := by omega
  have w4 : ((i : Int) / 16).toNat = i / 16 := by omega
  have w5 : IntKind.u64.wrap (dg a (i / 16) / 2 ^ (i % 16)) = dg a (i / 16) / 2 ^ (i % 16) := IntWalk.u64_in _ (by omega)
  go_enter Try.func7, Try.ntmps7
  go_wp2_with fail; (with_reducible refine (digits_any a _).mono ?_); rintro e w1 ⟨v1, rfl, o1, h1⟩; obtain ⟨A1, c1, rfl, hc1, D1⟩ := digs_of o1; clear o1; have ka := ((Blk.newAt (n := w.heap.size) _ _ _ (by first | rfl | simp)).alloc _).after h1; have kb := (Blk.newAt (n := w.heap.size + 1) _ _ _ (by first | rfl | simp)).after h1; have bw := below_call h1 (w := w) (by go_grown); obtain ⟨ka_c, ka_f, ka_l, ka_m, _⟩ := ka.knows; obtain ⟨kb_c, kb_f, kb_l, kb_m, _⟩ := kb.knows
  have hx := dig_cell D1 (i / 16) hi16
  obtain ⟨ad, rfl, hx⟩ := hx
  clear D1
  go_wp2
  rw [hb1]; clear hb1 hb2 hb3 hx ka_c ka_f ka_l ka_m kb_c kb_f kb_l kb_m
  skip
  have kp := Blk.new w1 24 #[.int .u64 (lb (a) 0), .int .u64 (lb (a) 1), .int .u64 (lb (a) 2), .int .u64 (lb (a) 3)]; replace ka := ka.alloc (.cells #[.int .u64 (lb (a) 0), .int .u64 (lb (a) 1), .int .u64 (lb (a) 2), .int .u64 (lb (a) 3)] 24); replace kb := kb.alloc (.cells #[.int .u64 (lb (a) 0), .int .u64 (lb (a) 1), .int .u64 (lb (a) 2), .int .u64 (lb (a) 3)] 24); replace bw := bw.alloc bw.size (.cells #[.int .u64 (lb (a) 0), .int .u64 (lb (a) 1), .int .u64 (lb (a) 2), .int .u64 (lb (a) 3)] 24); generalize w1.heap.size = g_kp at *; generalize w1.alloc _ = W3 at *
  refine wp_region_kinds [] 28 [(0, 0), (1, 0), (2, 0), (3, 0), (5, 0), (4, 2), (6, 2), (7, 0), (8, 0), (9, 0), (10, 0), (11, 0), (12, 0), (13, 0), (14, 0), (15, 0), (16, 0), (17, 0), (18, 0), (19, 0), (20, 0), (21, 0), (22, 0), (23, 0), (24, 0), (25, 0), (26, 0), (27, 0)] (by kernel_rfl) (by kernel_rfl) ?_
  (refine kind_firm (v := ?_) rfl ?_ ?_; rotate_left; focus (intro K w' hg hK; have hc1 := (ka.drew.after hg).cell; go_simp; exact hK _ (Grow.refl _)))
  (refine kind_firm (v := ?_) rfl ?_ ?_; rotate_left; focus (intro K w' hg hK; have hc1 := (kb.drew.after hg).cell; go_simp; exact hK _ (Grow.refl _)))
  (refine kind_firm (v := ?_) rfl ?_ ?_; rotate_left; focus (intro K w' hg hK; go_simp; refine Calls.mono (cmp_any a b ha hb _) ?_; rintro e w'' ⟨rfl, hb⟩; refine ⟨_, rfl, ?_⟩; exact hK _ hb))
  (refine kind_firm (v := ?_) rfl ?_ ?_; rotate_left; focus (intro K w' hg hK; have hc1 := (ka.drew.after hg).cell; go_simp; exact hK _ (Grow.refl _)))
  (refine kind_firm (v := ?_) rfl ?_ ?_; rotate_left; focus (intro K w' hg hK; have hc1 := (kb.drew.after hg).cell; go_simp; exact hK _ (Grow.refl _)))
  (refine kind_loose rfl ?_; intro K w' hg hK; go_simp; refine Calls.mono (digits_any a _) ?_)
  rintro e w4 ⟨v4, rfl, o4, h4⟩
  obtain ⟨A4, c4, rfl, hc4, D4⟩ := digs_of o4
  refine ⟨_, rfl, hK _ _ h4 ?_⟩
  have g1 := Grow.trans hg h4
  clear hK hg h4 o4 K
  (refine kind_loose rfl ?_; intro K w' hg hK; go_simp; refine Calls.mono (digits_any b _) ?_)
  rintro e w5 ⟨v5, rfl, o5, h5⟩
  obtain ⟨A5, c5, rfl, hc5, D5⟩ := digs_of o5
  refine ⟨_, rfl, hK _ _ h5 ?_⟩
  replace D4 := (D4.after hg).after h5
  replace g1 := Grow.trans (Grow.trans g1 hg) h5
  clear hK hg h5 o5 K
  replace ka := ka.drew.after g1
  replace kb := kb.drew.after g1
  replace kp := kp.drew.after g1
  replace bw := below_call g1 bw.drew
  clear g1
  (refine kind_firm (v := ?_) rfl ?_ ?_; rotate_left; focus (intro K w' hg hK; go_simp; refine Calls.mono (compare_k a b 16 16 a16 b16 (by omega) (by omega) A4 A5 c4 c5 hc4 hc5 _ (D4.after hg) (D5.after hg)) ?_; rintro e w'' ⟨rfl, hb⟩; refine ⟨_, rfl, ?_⟩; exact hK _ hb))
  (refine kind_firm (v := ?_) rfl ?_ ?_; rotate_left; focus (intro K w' hg hK; go_simp; exact hK _ (Grow.refl _)))
  (refine kind_firm (v := ?_) rfl ?_ ?_; rotate_left; focus (intro K w' hg hK; go_simp; exact hK _ (Grow.refl _)))
  (refine kind_firm (v := ?_) rfl ?_ ?_; rotate_left; focus (intro K w' hg hK; go_simp; exact hK _ (Grow.refl _)))
  (refine kind_firm (v := ?_) rfl ?_ ?_; rotate_left; focus (intro K w' hg hK; go_simp; exact hK _ (Grow.refl _)))
  (refine kind_firm (v := ?_) rfl ?_ ?_; rotate_left; focus (intro K w' hg hK; have hc1 := (ka.after hg).cell; go_simp; exact hK _ (Grow.refl _)))
  (refine kind_firm (v := ?_) rfl ?_ ?_; rotate_left; focus (intro K w' hg hK; have hc1 := (kb.after hg).cell; go_simp; exact hK _ (Grow.refl _)))
  (refine kind_firm (v := ?_) rfl ?_ ?_; rotate_left; focus (intro K w' hg hK; go_simp; refine Calls.mono (cS _) ?_; rintro e w'' ⟨rfl, hb⟩; refine ⟨_, rfl, ?_⟩; exact hK _ hb))
  (refine kind_firm (v := ?_) rfl ?_ ?_; rotate_left; focus (intro K w' hg hK; have hc1 := (kp.after hg).cell; go_simp; exact hK _ (Grow.refl _)))
  (refine kind_firm (v := ?_) rfl ?_ ?_; rotate_left; focus (intro K w' hg hK; go_simp; exact hK _ (Grow.refl _)))
  (refine kind_firm (v := ?_) rfl ?_ ?_; rotate_left; focus (intro K w' hg hK; go_simp; exact hK _ (Grow.refl _)))
  (refine kind_firm (v := ?_) rfl ?_ ?_; rotate_left; focus (intro K w' hg hK; go_simp; exact hK _ (Grow.refl _)))
  (refine kind_firm (v := ?_) rfl ?_ ?_; rotate_left; focus (intro K w' hg hK; have hc1 := (ka.after hg).cell; go_simp; exact hK _ (Grow.refl _)))
  (refine kind_firm (v := ?_) rfl ?_ ?_; rotate_left; focus (intro K w' hg hK; go_simp; exact hK _ (Grow.refl _)))
  (refine kind_firm (v := ?_) rfl ?_ ?_; rotate_left; focus (intro K w' hg hK; go_simp; refine Calls.mono (bit_any a (i : Int) _) ?_; rintro e w'' ⟨rfl, hb⟩; refine ⟨_, rfl, ?_⟩; exact hK _ hb))
  (refine kind_firm (v := ?_) rfl ?_ ?_; rotate_left; focus (intro K w' hg hK; go_simp; exact hK _ (Grow.refl _)))
  (refine kind_firm (v := ?_) rfl ?_ ?_; rotate_left; focus (intro K w' hg hK; go_simp; exact hK _ (Grow.refl _)))
  (refine kind_firm (v := ?_) rfl ?_ ?_; rotate_left; focus (intro K w' hg hK; go_simp; exact hK _ (Grow.refl _)))
  (refine kind_firm (v := ?_) rfl ?_ ?_; rotate_left; focus (intro K w' hg hK; go_simp; exact hK _ (Grow.refl _)))
  (refine kind_firm (v := ?_) rfl ?_ ?_; rotate_left; focus (intro K w' hg hK; go_simp; refine Calls.mono (turns_any _) ?_; rintro e w'' ⟨rfl, hb⟩; refine ⟨_, rfl, ?_⟩; exact hK _ hb))
  (refine kind_firm (v := ?_) rfl ?_ ?_; rotate_left; focus (intro K w' hg hK; go_simp; exact hK _ (Grow.refl _)))
  refine kind_end ?_
  intro w9 h9
  go_wp2
  go_ret
  exact ⟨rfl, below_call h9 bw⟩
set_option maxRecDepth 20000 in
set_option maxHeartbeats 4000000 in
theorem picks_far_odd (a b i : Nat) (ha : a < RR) (hb : b < RR) (h0 : 256 ≤ i) (hn : (i : Int) < 9223372036854775808) (hp : (i : Int) % 2 = 1) (w : World) : Calls Try.prog 7 #[num a, num b, .int .i64 (i : Int)] w fun e w' => e = .returned (.bool true) ∧ Below w.heap.size w w' := by
  have q1 := eqin_same
  have a16 : a < 65536 ^ 16 := by unfold RR at ha; omega
  have b16 : b < 65536 ^ 16 := by unfold RR at hb; omega
  have cS := sel_odd (IntKind.u64.wrap (i : Int)) a b (by rw [IntKind.wrap_u64]; omega) (by rw [IntKind.wrap_u64]; omega) (by rw [IntKind.wrap_u64]; omega)
  have hd1 : decide (0 ≤ (i : Int)) = true := decide_eq_true (by omega)
  have hd2 : decide ((i : Int) < 256) = false := decide_eq_false (by omega)
  have hbo := bitN_out a (i : Int) (.inr (by omega))
  go_enter Try.func7, Try.ntmps7
  go_wp2
  skip
  have ka := (Blk.newAt (n := w.heap.size) w 24 #[.int .u64 (lb (a) 0), .int .u64 (lb (a) 1), .int .u64 (lb (a) 2), .int .u64 (lb (a) 3)] rfl).alloc (.cells #[.int .u64 (lb (b) 0), .int .u64 (lb (b) 1), .int .u64 (lb (b) 2), .int .u64 (lb (b) 3)] 24)
  have kb := Blk.newAt (n := w.heap.size + 1) (w.alloc (.cells #[.int .u64 (lb (a) 0), .int .u64 (lb (a) 1), .int .u64 (lb (a) 2), .int .u64 (lb (a) 3)] 24)) 24 #[.int .u64 (lb (b) 0), .int .u64 (lb (b) 1), .int .u64 (lb (b) 2), .int .u64 (lb (b) 3)] (by simp)
  have kp := Blk.newAt (n := w.heap.size + 1 + 1) ((w.alloc (.cells #[.int .u64 (lb (a) 0), .int .u64 (lb (a) 1), .int .u64 (lb (a) 2), .int .u64 (lb (a) 3)] 24)).alloc (.cells #[.int .u64 (lb (b) 0), .int .u64 (lb (b) 1), .int .u64 (lb (b) 2), .int .u64 (lb (b) 3)] 24)) 24 #[.int .u64 (lb (a) 0), .int .u64 (lb (a) 1), .int .u64 (lb (a) 2), .int .u64 (lb (a) 3)] (by simp)
  replace ka := ka.alloc (.cells #[.int .u64 (lb (a) 0), .int .u64 (lb (a) 1), .int .u64 (lb (a) 2), .int .u64 (lb (a) 3)] 24)
  replace kb := kb.alloc (.cells #[.int .u64 (lb (a) 0), .int .u64 (lb (a) 1), .int .u64 (lb (a) 2), .int .u64 (lb (a) 3)] 24)
  have bw : Below w.heap.size w (((w.alloc (.cells #[.int .u64 (lb (a) 0), .int .u64 (lb (a) 1), .int .u64 (lb (a) 2), .int .u64 (lb (a) 3)] 24)).alloc (.cells #[.int .u64 (lb (b) 0), .int .u64 (lb (b) 1), .int .u64 (lb (b) 2), .int .u64 (lb (b) 3)] 24)).alloc (.cells #[.int .u64 (lb (a) 0), .int .u64 (lb (a) 1), .int .u64 (lb (a) 2), .int .u64 (lb (a) 3)] 24)) := by go_grown
  generalize ((w.alloc (.cells #[.int .u64 (lb (a) 0), .int .u64 (lb (a) 1), .int .u64 (lb (a) 2), .int .u64 (lb (a) 3)] 24)).alloc (.cells #[.int .u64 (lb (b) 0), .int .u64 (lb (b) 1), .int .u64 (lb (b) 2), .int .u64 (lb (b) 3)] 24)).alloc (.cells #[.int .u64 (lb (a) 0), .int .u64 (lb (a) 1), .int .u64 (lb (a) 2), .int .u64 (lb (a) 3)] 24) = W3 at *
  refine wp_region_kinds [] 28 [(0, 0), (1, 0), (2, 0), (3, 0), (5, 0), (4, 2), (6, 2), (7, 0), (8, 0), (9, 0), (10, 0), (11, 0), (12, 0), (13, 0), (14, 0), (15, 0), (16, 0), (17, 0), (18, 0), (19, 0), (20, 0), (21, 0), (22, 0), (23, 0), (24, 0), (25, 0), (26, 0), (27, 0)] (by kernel_rfl) (by kernel_rfl) ?_
  (refine kind_firm (v := ?_) rfl ?_ ?_; rotate_left; focus (intro K w' hg hK; have hc1 := (ka.drew.after hg).cell; go_simp; exact hK _ (Grow.refl _)))
  (refine kind_firm (v := ?_) rfl ?_ ?_; rotate_left; focus (intro K w' hg hK; have hc1 := (kb.drew.after hg).cell; go_simp; exact hK _ (Grow.refl _)))
  (refine kind_firm (v := ?_) rfl ?_ ?_; rotate_left; focus (intro K w' hg hK; go_simp; refine Calls.mono (cmp_any a b ha hb _) ?_; rintro e w'' ⟨rfl, hb⟩; refine ⟨_, rfl, ?_⟩; exact hK _ hb))
  (refine kind_firm (v := ?_) rfl ?_ ?_; rotate_left; focus (intro K w' hg hK; have hc1 := (ka.drew.after hg).cell; go_simp; exact hK _ (Grow.refl _)))
  (refine kind_firm (v := ?_) rfl ?_ ?_; rotate_left; focus (intro K w' hg hK; have hc1 := (kb.drew.after hg).cell; go_simp; exact hK _ (Grow.refl _)))
  (refine kind_loose rfl ?_; intro K w' hg hK; go_simp; refine Calls.mono (digits_any a _) ?_)
  rintro e w4 ⟨v4, rfl, o4, h4⟩
  obtain ⟨A4, c4, rfl, hc4, D4⟩ := digs_of o4
  refine ⟨_, rfl, hK _ _ h4 ?_⟩
  have g1 := Grow.trans hg h4
  clear hK hg h4 o4 K
  (refine kind_loose rfl ?_; intro K w' hg hK; go_simp; refine Calls.mono (digits_any b _) ?_)
  rintro e w5 ⟨v5, rfl, o5, h5⟩
  obtain ⟨A5, c5, rfl, hc5, D5⟩ := digs_of o5
  refine ⟨_, rfl, hK _ _ h5 ?_⟩
  replace D4 := (D4.after hg).after h5
  replace g1 := Grow.trans (Grow.trans g1 hg) h5
  clear hK hg h5 o5 K
  replace ka := ka.drew.after g1
  replace kb := kb.drew.after g1
  replace kp := kp.drew.after g1
  replace bw := below_call g1 bw.drew
  clear g1
  (refine kind_firm (v := ?_) rfl ?_ ?_; rotate_left; focus (intro K w' hg hK; go_simp; refine Calls.mono (compare_k a b 16 16 a16 b16 (by omega) (by omega) A4 A5 c4 c5 hc4 hc5 _ (D4.after hg) (D5.after hg)) ?_; rintro e w'' ⟨rfl, hb⟩; refine ⟨_, rfl, ?_⟩; exact hK _ hb))
  (refine kind_firm (v := ?_) rfl ?_ ?_; rotate_left; focus (intro K w' hg hK; go_simp; exact hK _ (Grow.refl _)))
  (refine kind_firm (v := ?_) rfl ?_ ?_; rotate_left; focus (intro K w' hg hK; go_simp; exact hK _ (Grow.refl _)))
  (refine kind_firm (v := ?_) rfl ?_ ?_; rotate_left; focus (intro K w' hg hK; go_simp; exact hK _ (Grow.refl _)))
  (refine kind_firm (v := ?_) rfl ?_ ?_; rotate_left; focus (intro K w' hg hK; go_simp; exact hK _ (Grow.refl _)))
  (refine kind_firm (v := ?_) rfl ?_ ?_; rotate_left; focus (intro K w' hg hK; have hc1 := (ka.after hg).cell; go_simp; exact hK _ (Grow.refl _)))
  (refine kind_firm (v := ?_) rfl ?_ ?_; rotate_left; focus (intro K w' hg hK; have hc1 := (kb.after hg).cell; go_simp; exact hK _ (Grow.refl _)))
  (refine kind_firm (v := ?_) rfl ?_ ?_; rotate_left; focus (intro K w' hg hK; go_simp; refine Calls.mono (cS _) ?_; rintro e w'' ⟨rfl, hb⟩; refine ⟨_, rfl, ?_⟩; exact hK _ hb))
  (refine kind_firm (v := ?_) rfl ?_ ?_; rotate_left; focus (intro K w' hg hK; have hc1 := (kp.after hg).cell; go_simp; exact hK _ (Grow.refl _)))
  (refine kind_firm (v := ?_) rfl ?_ ?_; rotate_left; focus (intro K w' hg hK; go_simp; exact hK _ (Grow.refl _)))
  (refine kind_firm (v := ?_) rfl ?_ ?_; rotate_left; focus (intro K w' hg hK; go_simp; exact hK _ (Grow.refl _)))
  (refine kind_firm (v := ?_) rfl ?_ ?_; rotate_left; focus (intro K w' hg hK; go_simp; exact hK _ (Grow.refl _)))
  (refine kind_firm (v := ?_) rfl ?_ ?_; rotate_left; focus (intro K w' hg hK; have hc1 := (ka.after hg).cell; go_simp; exact hK _ (Grow.refl _)))
  (refine kind_firm (v := ?_) rfl ?_ ?_; rotate_left; focus (intro K w' hg hK; go_simp; exact hK _ (Grow.refl _)))
  (refine kind_firm (v := ?_) rfl ?_ ?_; rotate_left; focus (intro K w' hg hK; go_simp; refine Calls.mono (bit_any a (i : Int) _) ?_; rintro e w'' ⟨rfl, hb⟩; refine ⟨_, rfl, ?_⟩; exact hK _ hb))
  (refine kind_firm (v := ?_) rfl ?_ ?_; rotate_left; focus (intro K w' hg hK; go_simp; exact hK _ (Grow.refl _)))
  (refine kind_firm (v := ?_) rfl ?_ ?_; rotate_left; focus (intro K w' hg hK; go_simp; exact hK _ (Grow.refl _)))
  (refine kind_firm (v := ?_) rfl ?_ ?_; rotate_left; focus (intro K w' hg hK; go_simp; exact hK _ (Grow.refl _)))
  (refine kind_firm (v := ?_) rfl ?_ ?_; rotate_left; focus (intro K w' hg hK; go_simp; exact hK _ (Grow.refl _)))
  (refine kind_firm (v := ?_) rfl ?_ ?_; rotate_left; focus (intro K w' hg hK; go_simp; refine Calls.mono (turns_any _) ?_; rintro e w'' ⟨rfl, hb⟩; refine ⟨_, rfl, ?_⟩; exact hK _ hb))
  (refine kind_firm (v := ?_) rfl ?_ ?_; rotate_left; focus (intro K w' hg hK; go_simp; exact hK _ (Grow.refl _)))
  refine kind_end ?_
  intro w9 h9
  go_wp2
  go_ret
  exact ⟨rfl, below_call h9 bw⟩
set_option maxRecDepth 20000 in
set_option maxHeartbeats 4000000 in
theorem picks_neg_odd (a b : Nat) (n : Int) (ha : a < RR) (hb : b < RR) (h0 : n < 0) (hn : -9223372036854775808 ≤ n) (hp : n.tmod 2 = -1) (w : World) : Calls Try.prog 7 #[num a, num b, .int .i64 n] w fun e w' => e = .returned (.bool true) ∧ Below w.heap.size w w' := by
  have q1 := eqin_same
  have a16 : a < 65536 ^ 16 := by unfold RR at ha; omega
  have b16 : b < 65536 ^ 16 := by unfold RR at hb; omega
  have hm : IntKind.u64.wrap n % 2 = 1 := by have := Int.mul_tdiv_add_tmod n 2; rw [IntKind.wrap_u64]; omega
  have cS := sel_odd (IntKind.u64.wrap n) a b (by rw [IntKind.wrap_u64]; omega) (by rw [IntKind.wrap_u64]; omega) hm
  have hd1 : decide (0 ≤ n) = false := decide_eq_false (by omega)
  have hbo := bitN_out a n (.inl h0)
  clear hn hm
  go_enter Try.func7, Try.ntmps7
  go_wp2
  skip
  have ka := (Blk.newAt (n := w.heap.size) w 24 #[.int .u64 (lb (a) 0), .int .u64 (lb (a) 1), .int .u64 (lb (a) 2), .int .u64 (lb (a) 3)] rfl).alloc (.cells #[.int .u64 (lb (b) 0), .int .u64 (lb (b) 1), .int .u64 (lb (b) 2), .int .u64 (lb (b) 3)] 24)
  have kb := Blk.newAt (n := w.heap.size + 1) (w.alloc (.cells #[.int .u64 (lb (a) 0), .int .u64 (lb (a) 1), .int .u64 (lb (a) 2), .int .u64 (lb (a) 3)] 24)) 24 #[.int .u64 (lb (b) 0), .int .u64 (lb (b) 1), .int .u64 (lb (b) 2), .int .u64 (lb (b) 3)] (by simp)
  have kp := Blk.newAt (n := w.heap.size + 1 + 1) ((w.alloc (.cells #[.int .u64 (lb (a) 0), .int .u64 (lb (a) 1), .int .u64 (lb (a) 2), .int .u64 (lb (a) 3)] 24)).alloc (.cells #[.int .u64 (lb (b) 0), .int .u64 (lb (b) 1), .int .u64 (lb (b) 2), .int .u64 (lb (b) 3)] 24)) 24 #[.int .u64 (lb (a) 0), .int .u64 (lb (a) 1), .int .u64 (lb (a) 2), .int .u64 (lb (a) 3)] (by simp)
  replace ka := ka.alloc (.cells #[.int .u64 (lb (a) 0), .int .u64 (lb (a) 1), .int .u64 (lb (a) 2), .int .u64 (lb (a) 3)] 24)
  replace kb := kb.alloc (.cells #[.int .u64 (lb (a) 0), .int .u64 (lb (a) 1), .int .u64 (lb (a) 2), .int .u64 (lb (a) 3)] 24)
  have bw : Below w.heap.size w (((w.alloc (.cells #[.int .u64 (lb (a) 0), .int .u64 (lb (a) 1), .int .u64 (lb (a) 2), .int .u64 (lb (a) 3)] 24)).alloc (.cells #[.int .u64 (lb (b) 0), .int .u64 (lb (b) 1), .int .u64 (lb (b) 2), .int .u64 (lb (b) 3)] 24)).alloc (.cells #[.int .u64 (lb (a) 0), .int .u64 (lb (a) 1), .int .u64 (lb (a) 2), .int .u64 (lb (a) 3)] 24)) := by go_grown
  generalize ((w.alloc (.cells #[.int .u64 (lb (a) 0), .int .u64 (lb (a) 1), .int .u64 (lb (a) 2), .int .u64 (lb (a) 3)] 24)).alloc (.cells #[.int .u64 (lb (b) 0), .int .u64 (lb (b) 1), .int .u64 (lb (b) 2), .int .u64 (lb (b) 3)] 24)).alloc (.cells #[.int .u64 (lb (a) 0), .int .u64 (lb (a) 1), .int .u64 (lb (a) 2), .int .u64 (lb (a) 3)] 24) = W3 at *
  refine wp_region_kinds [] 28 [(0, 0), (1, 0), (2, 0), (3, 0), (5, 0), (4, 2), (6, 2), (7, 0), (8, 0), (9, 0), (10, 0), (11, 0), (12, 0), (13, 0), (14, 0), (15, 0), (16, 0), (17, 0), (18, 0), (19, 0), (20, 0), (21, 0), (22, 0), (23, 0), (24, 0), (25, 0), (26, 0), (27, 0)] (by kernel_rfl) (by kernel_rfl) ?_
  (refine kind_firm (v := ?_) rfl ?_ ?_; rotate_left; focus (intro K w' hg hK; have hc1 := (ka.drew.after hg).cell; go_simp; exact hK _ (Grow.refl _)))
  (refine kind_firm (v := ?_) rfl ?_ ?_; rotate_left; focus (intro K w' hg hK; have hc1 := (kb.drew.after hg).cell; go_simp; exact hK _ (Grow.refl _)))
  (refine kind_firm (v := ?_) rfl ?_ ?_; rotate_left; focus (intro K w' hg hK; go_simp; refine Calls.mono (cmp_any a b ha hb _) ?_; rintro e w'' ⟨rfl, hb⟩; refine ⟨_, rfl, ?_⟩; exact hK _ hb))
  (refine kind_firm (v := ?_) rfl ?_ ?_; rotate_left; focus (intro K w' hg hK; have hc1 := (ka.drew.after hg).cell; go_simp; exact hK _ (Grow.refl _)))
  (refine kind_firm (v := ?_) rfl ?_ ?_; rotate_left; focus (intro K w' hg hK; have hc1 := (kb.drew.after hg).cell; go_simp; exact hK _ (Grow.refl _)))
  (refine kind_loose rfl ?_; intro K w' hg hK; go_simp; refine Calls.mono (digits_any a _) ?_)
  rintro e w4 ⟨v4, rfl, o4, h4⟩
  obtain ⟨A4, c4, rfl, hc4, D4⟩ := digs_of o4
  refine ⟨_, rfl, hK _ _ h4 ?_⟩
  have g1 := Grow.trans hg h4
  clear hK hg h4 o4 K
  (refine kind_loose rfl ?_; intro K w' hg hK; go_simp; refine Calls.mono (digits_any b _) ?_)
  rintro e w5 ⟨v5, rfl, o5, h5⟩
  obtain ⟨A5, c5, rfl, hc5, D5⟩ := digs_of o5
  refine ⟨_, rfl, hK _ _ h5 ?_⟩
  replace D4 := (D4.after hg).after h5
  replace g1 := Grow.trans (Grow.trans g1 hg) h5
  clear hK hg h5 o5 K
  replace ka := ka.drew.after g1
  replace kb := kb.drew.after g1
  replace kp := kp.drew.after g1
  replace bw := below_call g1 bw.drew
  clear g1
  (refine kind_firm (v := ?_) rfl ?_ ?_; rotate_left; focus (intro K w' hg hK; go_simp; refine Calls.mono (compare_k a b 16 16 a16 b16 (by omega) (by omega) A4 A5 c4 c5 hc4 hc5 _ (D4.after hg) (D5.after hg)) ?_; rintro e w'' ⟨rfl, hb⟩; refine ⟨_, rfl, ?_⟩; exact hK _ hb))
  (refine kind_firm (v := ?_) rfl ?_ ?_; rotate_left; focus (intro K w' hg hK; go_simp; exact hK _ (Grow.refl _)))
  (refine kind_firm (v := ?_) rfl ?_ ?_; rotate_left; focus (intro K w' hg hK; go_simp; exact hK _ (Grow.refl _)))
  (refine kind_firm (v := ?_) rfl ?_ ?_; rotate_left; focus (intro K w' hg hK; go_simp; exact hK _ (Grow.refl _)))
  (refine kind_firm (v := ?_) rfl ?_ ?_; rotate_left; focus (intro K w' hg hK; go_simp; exact hK _ (Grow.refl _)))
  (refine kind_firm (v := ?_) rfl ?_ ?_; rotate_left; focus (intro K w' hg hK; have hc1 := (ka.after hg).cell; go_simp; exact hK _ (Grow.refl _)))
  (refine kind_firm (v := ?_) rfl ?_ ?_; rotate_left; focus (intro K w' hg hK; have hc1 := (kb.after hg).cell; go_simp; exact hK _ (Grow.refl _)))
  (refine kind_firm (v := ?_) rfl ?_ ?_; rotate_left; focus (intro K w' hg hK; go_simp; refine Calls.mono (cS _) ?_; rintro e w'' ⟨rfl, hb⟩; refine ⟨_, rfl, ?_⟩; exact hK _ hb))
  (refine kind_firm (v := ?_) rfl ?_ ?_; rotate_left; focus (intro K w' hg hK; have hc1 := (kp.after hg).cell; go_simp; exact hK _ (Grow.refl _)))
  (refine kind_firm (v := ?_) rfl ?_ ?_; rotate_left; focus (intro K w' hg hK; go_simp; exact hK _ (Grow.refl _)))
  (refine kind_firm (v := ?_) rfl ?_ ?_; rotate_left; focus (intro K w' hg hK; go_simp; exact hK _ (Grow.refl _)))
  (refine kind_firm (v := ?_) rfl ?_ ?_; rotate_left; focus (intro K w' hg hK; go_simp; exact hK _ (Grow.refl _)))
  (refine kind_firm (v := ?_) rfl ?_ ?_; rotate_left; focus (intro K w' hg hK; have hc1 := (ka.after hg).cell; go_simp; exact hK _ (Grow.refl _)))
  (refine kind_firm (v := ?_) rfl ?_ ?_; rotate_left; focus (intro K w' hg hK; go_simp; exact hK _ (Grow.refl _)))
  (refine kind_firm (v := ?_) rfl ?_ ?_; rotate_left; focus (intro K w' hg hK; go_simp; refine Calls.mono (bit_any a n _) ?_; rintro e w'' ⟨rfl, hb⟩; refine ⟨_, rfl, ?_⟩; exact hK _ hb))
  (refine kind_firm (v := ?_) rfl ?_ ?_; rotate_left; focus (intro K w' hg hK; go_simp; exact hK _ (Grow.refl _)))
  (refine kind_firm (v := ?_) rfl ?_ ?_; rotate_left; focus (intro K w' hg hK; go_simp; exact hK _ (Grow.refl _)))
  (refine kind_firm (v := ?_) rfl ?_ ?_; rotate_left; focus (intro K w' hg hK; go_simp; exact hK _ (Grow.refl _)))
  (refine kind_firm (v := ?_) rfl ?_ ?_; rotate_left; focus (intro K w' hg hK; go_simp; exact hK _ (Grow.refl _)))
  (refine kind_firm (v := ?_) rfl ?_ ?_; rotate_left; focus (intro K w' hg hK; go_simp; refine Calls.mono (turns_any _) ?_; rintro e w'' ⟨rfl, hb⟩; refine ⟨_, rfl, ?_⟩; exact hK _ hb))
  (refine kind_firm (v := ?_) rfl ?_ ?_; rotate_left; focus (intro K w' hg hK; go_simp; exact hK _ (Grow.refl _)))
  refine kind_end ?_
  intro w9 h9
  go_wp2
  go_ret
  exact ⟨rfl, below_call h9 bw⟩
set_option maxRecDepth 20000 in
set_option maxHeartbeats 4000000 in
theorem picks_in_even (a b i : Nat) (ha : a < RR) (hb : b < RR) (h0 : i < 256) (hp : (i : Int) % 2 = 0) (w : World) : Calls Try.prog 7 #[num a, num b, .int .i64 (i : Int)] w fun e w' => e = .returned (.bool true) ∧ Below w.heap.size w w' := by
  have q1 := eqin_same
  have a16 : a < 65536 ^ 16 := by unfold RR at ha; omega
  have b16 : b < 65536 ^ 16 := by unfold RR at hb; omega
  have cS := sel_even (IntKind.u64.wrap (i : Int)) a b (by rw [IntKind.wrap_u64]; omega) (by rw [IntKind.wrap_u64]; omega) (by rw [IntKind.wrap_u64]; omega)
  have hd1 : decide (0 ≤ (i : Int)) = true := decide_eq_true (by omega)
  have hi16 : i / 16 < 16 := by omega
  have hd2 : decide ((i : Int) < 256) = true := decide_eq_true (by omega)
  obtain ⟨hb1, hb2, hb3⟩ := bit_digit a i h0
  have w1 : IntKind.i64.wrap ((i : Int) / 16) = (i : Int) / 16 := IntWalk.i64_in _ (by omega)
  have w2 : 0 ≤ (i : Int) / 16 := by omega
  have w3 : (i : Int) / 16 < 16 := by omega
  have w4 : ((i : Int) / 16).toNat = i / 16 := by omega
  have w5 : IntKind.u64.wrap (dg a (i / 16) / 2 ^ (i % 16)) = dg a (i / 16) / 2 ^ (i % 16) := IntWalk.u64_in _ (by omega)
  go_enter Try.func7, Try.ntmps7
  go_wp2_with fail; (with_reducible refine (digits_any a _).mono ?_); rintro e w1 ⟨v1, rfl, o1, h1⟩; obtain ⟨A1, c1, rfl, hc1, D1⟩ := digs_of o1; clear o1; have ka := ((Blk.newAt (n := w.heap.size) _ _ _ (by first | rfl | simp)).alloc _).after h1; have kb := (Blk.newAt (n := w.heap.size + 1) _ _ _ (by first | rfl | simp)).after h1; have bw := below_call h1 (w := w) (by go_grown); obtain ⟨ka_c, ka_f, ka_l, ka_m, _⟩ := ka.knows; obtain ⟨kb_c, kb_f, kb_l, kb_m, _⟩ := kb.knows
  have hx := dig_cell D1 (i / 16) hi16
  obtain ⟨ad, rfl, hx⟩ := hx
  clear D1
  go_wp2
  rw [hb1]; clear hb1 hb2 hb3 hx ka_c ka_f ka_l ka_m kb_c kb_f kb_l kb_m
  skip
  have kp := Blk.new w1 24 #[.int .u64 (lb (b) 0), .int .u64 (lb (b) 1), .int .u64 (lb (b) 2), .int .u64 (lb (b) 3)]; replace ka := ka.alloc (.cells #[.int .u64 (lb (b) 0), .int .u64 (lb (b) 1), .int .u64 (lb (b) 2), .int .u64 (lb (b) 3)] 24); replace kb := kb.alloc (.cells #[.int .u64 (lb (b) 0), .int .u64 (lb (b) 1), .int .u64 (lb (b) 2), .int .u64 (lb (b) 3)] 24); replace bw := bw.alloc bw.size (.cells #[.int .u64 (lb (b) 0), .int .u64 (lb (b) 1), .int .u64 (lb (b) 2), .int .u64 (lb (b) 3)] 24); generalize w1.heap.size = g_kp at *; generalize w1.alloc _ = W3 at *
  refine wp_region_kinds [] 28 [(0, 0), (1, 0), (2, 0), (3, 0), (5, 0), (4, 2), (6, 2), (7, 0), (8, 0), (9, 0), (10, 0), (11, 0), (12, 0), (13, 0), (14, 0), (15, 0), (16, 0), (17, 0), (18, 0), (19, 0), (20, 0), (21, 0), (22, 0), (23, 0), (24, 0), (25, 0), (26, 0), (27, 0)] (by kernel_rfl) (by kernel_rfl) ?_
  (refine kind_firm (v := ?_) rfl ?_ ?_; rotate_left; focus (intro K w' hg hK; have hc1 := (ka.drew.after hg).cell; go_simp; exact hK _ (Grow.refl _)))
  (refine kind_firm (v := ?_) rfl ?_ ?_; rotate_left; focus (intro K w' hg hK; have hc1 := (kb.drew.after hg).cell; go_simp; exact hK _ (Grow.refl _)))
  (refine kind_firm (v := ?_) rfl ?_ ?_; rotate_left; focus (intro K w' hg hK; go_simp; refine Calls.mono (cmp_any a b ha hb _) ?_; rintro e w'' ⟨rfl, hb⟩; refine ⟨_, rfl, ?_⟩; exact hK _ hb))
  (refine kind_firm (v := ?_) rfl ?_ ?_; rotate_left; focus (intro K w' hg hK; have hc1 := (ka.drew.after hg).cell; go_simp; exact hK _ (Grow.refl _)))
  (refine kind_firm (v := ?_) rfl ?_ ?_; rotate_left; focus (intro K w' hg hK; have hc1 := (kb.drew.after hg).cell; go_simp; exact hK _ (Grow.refl _)))
  (refine kind_loose rfl ?_; intro K w' hg hK; go_simp; refine Calls.mono (digits_any a _) ?_)
  rintro e w4 ⟨v4, rfl, o4, h4⟩
  obtain ⟨A4, c4, rfl, hc4, D4⟩ := digs_of o4
  refine ⟨_, rfl, hK _ _ h4 ?_⟩
  have g1 := Grow.trans hg h4
  clear hK hg h4 o4 K
  (refine kind_loose rfl ?_; intro K w' hg hK; go_simp; refine Calls.mono (digits_any b _) ?_)
  rintro e w5 ⟨v5, rfl, o5, h5⟩
  obtain ⟨A5, c5, rfl, hc5, D5⟩ := digs_of o5
  refine ⟨_, rfl, hK _ _ h5 ?_⟩
  replace D4 := (D4.after hg).after h5
  replace g1 := Grow.trans (Grow.trans g1 hg) h5
  clear hK hg h5 o5 K
  replace ka := ka.drew.after g1
  replace kb := kb.drew.after g1
  replace kp := kp.drew.after g1
  replace bw := below_call g1 bw.drew
  clear g1
  (refine kind_firm (v := ?_) rfl ?_ ?_; rotate_left; focus (intro K w' hg hK; go_simp; refine Calls.mono (compare_k a b 16 16 a16 b16 (by omega) (by omega) A4 A5 c4 c5 hc4 hc5 _ (D4.after hg) (D5.after hg)) ?_; rintro e w'' ⟨rfl, hb⟩; refine ⟨_, rfl, ?_⟩; exact hK _ hb))
  (refine kind_firm (v := ?_) rfl ?_ ?_; rotate_left; focus (intro K w' hg hK; go_simp; exact hK _ (Grow.refl _)))
  (refine kind_firm (v := ?_) rfl ?_ ?_; rotate_left; focus (intro K w' hg hK; go_simp; exact hK _ (Grow.refl _)))
  (refine kind_firm (v := ?_) rfl ?_ ?_; rotate_left; focus (intro K w' hg hK; go_simp; exact hK _ (Grow.refl _)))
  (refine kind_firm (v := ?_) rfl ?_ ?_; rotate_left; focus (intro K w' hg hK; go_simp; exact hK _ (Grow.refl _)))
  (refine kind_firm (v := ?_) rfl ?_ ?_; rotate_left; focus (intro K w' hg hK; have hc1 := (ka.after hg).cell; go_simp; exact hK _ (Grow.refl _)))
  (refine kind_firm (v := ?_) rfl ?_ ?_; rotate_left; focus (intro K w' hg hK; have hc1 := (kb.after hg).cell; go_simp; exact hK _ (Grow.refl _)))
  (refine kind_firm (v := ?_) rfl ?_ ?_; rotate_left; focus (intro K w' hg hK; go_simp; refine Calls.mono (cS _) ?_; rintro e w'' ⟨rfl, hb⟩; refine ⟨_, rfl, ?_⟩; exact hK _ hb))
  (refine kind_firm (v := ?_) rfl ?_ ?_; rotate_left; focus (intro K w' hg hK; have hc1 := (kp.after hg).cell; go_simp; exact hK _ (Grow.refl _)))
  (refine kind_firm (v := ?_) rfl ?_ ?_; rotate_left; focus (intro K w' hg hK; go_simp; exact hK _ (Grow.refl _)))
  (refine kind_firm (v := ?_) rfl ?_ ?_; rotate_left; focus (intro K w' hg hK; go_simp; exact hK _ (Grow.refl _)))
  (refine kind_firm (v := ?_) rfl ?_ ?_; rotate_left; focus (intro K w' hg hK; go_simp; exact hK _ (Grow.refl _)))
  (refine kind_firm (v := ?_) rfl ?_ ?_; rotate_left; focus (intro K w' hg hK; have hc1 := (ka.after hg).cell; go_simp; exact hK _ (Grow.refl _)))
  (refine kind_firm (v := ?_) rfl ?_ ?_; rotate_left; focus (intro K w' hg hK; go_simp; exact hK _ (Grow.refl _)))
  (refine kind_firm (v := ?_) rfl ?_ ?_; rotate_left; focus (intro K w' hg hK; go_simp; refine Calls.mono (bit_any a (i : Int) _) ?_; rintro e w'' ⟨rfl, hb⟩; refine ⟨_, rfl, ?_⟩; exact hK _ hb))
  (refine kind_firm (v := ?_) rfl ?_ ?_; rotate_left; focus (intro K w' hg hK; go_simp; exact hK _ (Grow.refl _)))
  (refine kind_firm (v := ?_) rfl ?_ ?_; rotate_left; focus (intro K w' hg hK; go_simp; exact hK _ (Grow.refl _)))
  (refine kind_firm (v := ?_) rfl ?_ ?_; rotate_left; focus (intro K w' hg hK; go_simp; exact hK _ (Grow.refl _)))
  (refine kind_firm (v := ?_) rfl ?_ ?_; rotate_left; focus (intro K w' hg hK; go_simp; exact hK _ (Grow.refl _)))
  (refine kind_firm (v := ?_) rfl ?_ ?_; rotate_left; focus (intro K w' hg hK; go_simp; refine Calls.mono (turns_any _) ?_; rintro e w'' ⟨rfl, hb⟩; refine ⟨_, rfl, ?_⟩; exact hK _ hb))
  (refine kind_firm (v := ?_) rfl ?_ ?_; rotate_left; focus (intro K w' hg hK; go_simp; exact hK _ (Grow.refl _)))
  refine kind_end ?_
  intro w9 h9
  go_wp2
  go_ret
  exact ⟨rfl, below_call h9 bw⟩
set_option maxRecDepth 20000 in
set_option maxHeartbeats 4000000 in
theorem picks_far_even (a b i : Nat) (ha : a < RR) (hb : b < RR) (h0 : 256 ≤ i) (hn : (i : Int) < 9223372036854775808) (hp : (i : Int) % 2 = 0) (w : World) : Calls Try.prog 7 #[num a, num b, .int .i64 (i : Int)] w fun e w' => e = .returned (.bool true) ∧ Below w.heap.size w w' := by
  have q1 := eqin_same
  have a16 : a < 65536 ^ 16 := by unfold RR at ha; omega
  have b16 : b < 65536 ^ 16 := by unfold RR at hb; omega
  have cS := sel_even (IntKind.u64.wrap (i : Int)) a b (by rw [IntKind.wrap_u64]; omega) (by rw [IntKind.wrap_u64]; omega) (by rw [IntKind.wrap_u64]; omega)
  have hd1 : decide (0 ≤ (i : Int)) = true := decide_eq_true (by omega)
  have hd2 : decide ((i : Int) < 256) = false := decide_eq_false (by omega)
  have hbo := bitN_out a (i : Int) (.inr (by omega))
  go_enter Try.func7, Try.ntmps7
  go_wp2
  skip
  have ka := (Blk.newAt (n := w.heap.size) w 24 #[.int .u64 (lb (a) 0), .int .u64 (lb (a) 1), .int .u64 (lb (a) 2), .int .u64 (lb (a) 3)] rfl).alloc (.cells #[.int .u64 (lb (b) 0), .int .u64 (lb (b) 1), .int .u64 (lb (b) 2), .int .u64 (lb (b) 3)] 24)
  have kb := Blk.newAt (n := w.heap.size + 1) (w.alloc (.cells #[.int .u64 (lb (a) 0), .int .u64 (lb (a) 1), .int .u64 (lb (a) 2), .int .u64 (lb (a) 3)] 24)) 24 #[.int .u64 (lb (b) 0), .int .u64 (lb (b) 1), .int .u64 (lb (b) 2), .int .u64 (lb (b) 3)] (by simp)
  have kp := Blk.newAt (n := w.heap.size + 1 + 1) ((w.alloc (.cells #[.int .u64 (lb (a) 0), .int .u64 (lb (a) 1), .int .u64 (lb (a) 2), .int .u64 (lb (a) 3)] 24)).alloc (.cells #[.int .u64 (lb (b) 0), .int .u64 (lb (b) 1), .int .u64 (lb (b) 2), .int .u64 (lb (b) 3)] 24)) 24 #[.int .u64 (lb (b) 0), .int .u64 (lb (b) 1), .int .u64 (lb (b) 2), .int .u64 (lb (b) 3)] (by simp)
  replace ka := ka.alloc (.cells #[.int .u64 (lb (b) 0), .int .u64 (lb (b) 1), .int .u64 (lb (b) 2), .int .u64 (lb (b) 3)] 24)
  replace kb := kb.alloc (.cells #[.int .u64 (lb (b) 0), .int .u64 (lb (b) 1), .int .u64 (lb (b) 2), .int .u64 (lb (b) 3)] 24)
  have bw : Below w.heap.size w (((w.alloc (.cells #[.int .u64 (lb (a) 0), .int .u64 (lb (a) 1), .int .u64 (lb (a) 2), .int .u64 (lb (a) 3)] 24)).alloc (.cells #[.int .u64 (lb (b) 0), .int .u64 (lb (b) 1), .int .u64 (lb (b) 2), .int .u64 (lb (b) 3)] 24)).alloc (.cells #[.int .u64 (lb (b) 0), .int .u64 (lb (b) 1), .int .u64 (lb (b) 2), .int .u64 (lb (b) 3)] 24)) := by go_grown
  generalize ((w.alloc (.cells #[.int .u64 (lb (a) 0), .int .u64 (lb (a) 1), .int .u64 (lb (a) 2), .int .u64 (lb (a) 3)] 24)).alloc (.cells #[.int .u64 (lb (b) 0), .int .u64 (lb (b) 1), .int .u64 (lb (b) 2), .int .u64 (lb (b) 3)] 24)).alloc (.cells #[.int .u64 (lb (b) 0), .int .u64 (lb (b) 1), .int .u64 (lb (b) 2), .int .u64 (lb (b) 3)] 24) = W3 at *
  refine wp_region_kinds [] 28 [(0, 0), (1, 0), (2, 0), (3, 0), (5, 0), (4, 2), (6, 2), (7, 0), (8, 0), (9, 0), (10, 0), (11, 0), (12, 0), (13, 0), (14, 0), (15, 0), (16, 0), (17, 0), (18, 0), (19, 0), (20, 0), (21, 0), (22, 0), (23, 0), (24, 0), (25, 0), (26, 0), (27, 0)] (by kernel_rfl) (by kernel_rfl) ?_
  (refine kind_firm (v := ?_) rfl ?_ ?_; rotate_left; focus (intro K w' hg hK; have hc1 := (ka.drew.after hg).cell; go_simp; exact hK _ (Grow.refl _)))
  (refine kind_firm (v := ?_) rfl ?_ ?_; rotate_left; focus (intro K w' hg hK; have hc1 := (kb.drew.after hg).cell; go_simp; exact hK _ (Grow.refl _)))
  (refine kind_firm (v := ?_) rfl ?_ ?_; rotate_left; focus (intro K w' hg hK; go_simp; refine Calls.mono (cmp_any a b ha hb _) ?_; rintro e w'' ⟨rfl, hb⟩; refine ⟨_, rfl, ?_⟩; exact hK _ hb))
  (refine kind_firm (v := ?_) rfl ?_ ?_; rotate_left; focus (intro K w' hg hK; have hc1 := (ka.drew.after hg).cell; go_simp; exact hK _ (Grow.refl _)))
  (refine kind_firm (v := ?_) rfl ?_ ?_; rotate_left; focus (intro K w' hg hK; have hc1 := (kb.drew.after hg).cell; go_simp; exact hK _ (Grow.refl _)))
  (refine kind_loose rfl ?_; intro K w' hg hK; go_simp; refine Calls.mono (digits_any a _) ?_)
  rintro e w4 ⟨v4, rfl, o4, h4⟩
  obtain ⟨A4, c4, rfl, hc4, D4⟩ := digs_of o4
  refine ⟨_, rfl, hK _ _ h4 ?_⟩
  have g1 := Grow.trans hg h4
  clear hK hg h4 o4 K
  (refine kind_loose rfl ?_; intro K w' hg hK; go_simp; refine Calls.mono (digits_any b _) ?_)
  rintro e w5 ⟨v5, rfl, o5, h5⟩
  obtain ⟨A5, c5, rfl, hc5, D5⟩ := digs_of o5
  refine ⟨_, rfl, hK _ _ h5 ?_⟩
  replace D4 := (D4.after hg).after h5
  replace g1 := Grow.trans (Grow.trans g1 hg) h5
  clear hK hg h5 o5 K
  replace ka := ka.drew.after g1
  replace kb := kb.drew.after g1
  replace kp := kp.drew.after g1
  replace bw := below_call g1 bw.drew
  clear g1
  (refine kind_firm (v := ?_) rfl ?_ ?_; rotate_left; focus (intro K w' hg hK; go_simp; refine Calls.mono (compare_k a b 16 16 a16 b16 (by omega) (by omega) A4 A5 c4 c5 hc4 hc5 _ (D4.after hg) (D5.after hg)) ?_; rintro e w'' ⟨rfl, hb⟩; refine ⟨_, rfl, ?_⟩; exact hK _ hb))
  (refine kind_firm (v := ?_) rfl ?_ ?_; rotate_left; focus (intro K w' hg hK; go_simp; exact hK _ (Grow.refl _)))
  (refine kind_firm (v := ?_) rfl ?_ ?_; rotate_left; focus (intro K w' hg hK; go_simp; exact hK _ (Grow.refl _)))
  (refine kind_firm (v := ?_) rfl ?_ ?_; rotate_left; focus (intro K w' hg hK; go_simp; exact hK _ (Grow.refl _)))
  (refine kind_firm (v := ?_) rfl ?_ ?_; rotate_left; focus (intro K w' hg hK; go_simp; exact hK _ (Grow.refl _)))
  (refine kind_firm (v := ?_) rfl ?_ ?_; rotate_left; focus (intro K w' hg hK; have hc1 := (ka.after hg).cell; go_simp; exact hK _ (Grow.refl _)))
  (refine kind_firm (v := ?_) rfl ?_ ?_; rotate_left; focus (intro K w' hg hK; have hc1 := (kb.after hg).cell; go_simp; exact hK _ (Grow.refl _)))
  (refine kind_firm (v := ?_) rfl ?_ ?_; rotate_left; focus (intro K w' hg hK; go_simp; refine Calls.mono (cS _) ?_; rintro e w'' ⟨rfl, hb⟩; refine ⟨_, rfl, ?_⟩; exact hK _ hb))
  (refine kind_firm (v := ?_) rfl ?_ ?_; rotate_left; focus (intro K w' hg hK; have hc1 := (kp.after hg).cell; go_simp; exact hK _ (Grow.refl _)))
  (refine kind_firm (v := ?_) rfl ?_ ?_; rotate_left; focus (intro K w' hg hK; go_simp; exact hK _ (Grow.refl _)))
  (refine kind_firm (v := ?_) rfl ?_ ?_; rotate_left; focus (intro K w' hg hK; go_simp; exact hK _ (Grow.refl _)))
  (refine kind_firm (v := ?_) rfl ?_ ?_; rotate_left; focus (intro K w' hg hK; go_simp; exact hK _ (Grow.refl _)))
  (refine kind_firm (v := ?_) rfl ?_ ?_; rotate_left; focus (intro K w' hg hK; have hc1 := (ka.after hg).cell; go_simp; exact hK _ (Grow.refl _)))
  (refine kind_firm (v := ?_) rfl ?_ ?_; rotate_left; focus (intro K w' hg hK; go_simp; exact hK _ (Grow.refl _)))
  (refine kind_firm (v := ?_) rfl ?_ ?_; rotate_left; focus (intro K w' hg hK; go_simp; refine Calls.mono (bit_any a (i : Int) _) ?_; rintro e w'' ⟨rfl, hb⟩; refine ⟨_, rfl, ?_⟩; exact hK _ hb))
  (refine kind_firm (v := ?_) rfl ?_ ?_; rotate_left; focus (intro K w' hg hK; go_simp; exact hK _ (Grow.refl _)))
  (refine kind_firm (v := ?_) rfl ?_ ?_; rotate_left; focus (intro K w' hg hK; go_simp; exact hK _ (Grow.refl _)))
  (refine kind_firm (v := ?_) rfl ?_ ?_; rotate_left; focus (intro K w' hg hK; go_simp; exact hK _ (Grow.refl _)))
  (refine kind_firm (v := ?_) rfl ?_ ?_; rotate_left; focus (intro K w' hg hK; go_simp; exact hK _ (Grow.refl _)))
  (refine kind_firm (v := ?_) rfl ?_ ?_; rotate_left; focus (intro K w' hg hK; go_simp; refine Calls.mono (turns_any _) ?_; rintro e w'' ⟨rfl, hb⟩; refine ⟨_, rfl, ?_⟩; exact hK _ hb))
  (refine kind_firm (v := ?_) rfl ?_ ?_; rotate_left; focus (intro K w' hg hK; go_simp; exact hK _ (Grow.refl _)))
  refine kind_end ?_
  intro w9 h9
  go_wp2
  go_ret
  exact ⟨rfl, below_call h9 bw⟩
set_option maxRecDepth 20000 in
set_option maxHeartbeats 4000000 in
theorem picks_neg_even (a b : Nat) (n : Int) (ha : a < RR) (hb : b < RR) (h0 : n < 0) (hn : -9223372036854775808 ≤ n) (hp : n.tmod 2 = 0) (w : World) : Calls Try.prog 7 #[num a, num b, .int .i64 n] w fun e w' => e = .returned (.bool true) ∧ Below w.heap.size w w' := by
  have q1 := eqin_same
  have a16 : a < 65536 ^ 16 := by unfold RR at ha; omega
  have b16 : b < 65536 ^ 16 := by unfold RR at hb; omega
  have hm : IntKind.u64.wrap n % 2 = 0 := by have := Int.mul_tdiv_add_tmod n 2; rw [IntKind.wrap_u64]; omega
  have cS := sel_even (IntKind.u64.wrap n) a b (by rw [IntKind.wrap_u64]; omega) (by rw [IntKind.wrap_u64]; omega) hm
  have hd1 : decide (0 ≤ n) = false := decide_eq_false (by omega)
  have hbo := bitN_out a n (.inl h0)
  clear hn hm
  go_enter Try.func7, Try.ntmps7
  go_wp2
  skip
  have ka := (Blk.newAt (n := w.heap.size) w 24 #[.int .u64 (lb (a) 0), .int .u64 (lb (a) 1), .int .u64 (lb (a) 2), .int .u64 (lb (a) 3)] rfl).alloc (.cells #[.int .u64 (lb (b) 0), .int .u64 (lb (b) 1), .int .u64 (lb (b) 2), .int .u64 (lb (b) 3)] 24)
  have kb := Blk.newAt (n := w.heap.size + 1) (w.alloc (.cells #[.int .u64 (lb (a) 0), .int .u64 (lb (a) 1), .int .u64 (lb (a) 2), .int .u64 (lb (a) 3)] 24)) 24 #[.int .u64 (lb (b) 0), .int .u64 (lb (b) 1), .int .u64 (lb (b) 2), .int .u64 (lb (b) 3)] (by simp)
  have kp := Blk.newAt (n := w.heap.size + 1 + 1) ((w.alloc (.cells #[.int .u64 (lb (a) 0), .int .u64 (lb (a) 1), .int .u64 (lb (a) 2), .int .u64 (lb (a) 3)] 24)).alloc (.cells #[.int .u64 (lb (b) 0), .int .u64 (lb (b) 1), .int .u64 (lb (b) 2), .int .u64 (lb (b) 3)] 24)) 24 #[.int .u64 (lb (b) 0), .int .u64 (lb (b) 1), .int .u64 (lb (b) 2), .int .u64 (lb (b) 3)] (by simp)
  replace ka := ka.alloc (.cells #[.int .u64 (lb (b) 0), .int .u64 (lb (b) 1), .int .u64 (lb (b) 2), .int .u64 (lb (b) 3)] 24)
  replace kb := kb.alloc (.cells #[.int .u64 (lb (b) 0), .int .u64 (lb (b) 1), .int .u64 (lb (b) 2), .int .u64 (lb (b) 3)] 24)
  have bw : Below w.heap.size w (((w.alloc (.cells #[.int .u64 (lb (a) 0), .int .u64 (lb (a) 1), .int .u64 (lb (a) 2), .int .u64 (lb (a) 3)] 24)).alloc (.cells #[.int .u64 (lb (b) 0), .int .u64 (lb (b) 1), .int .u64 (lb (b) 2), .int .u64 (lb (b) 3)] 24)).alloc (.cells #[.int .u64 (lb (b) 0), .int .u64 (lb (b) 1), .int .u64 (lb (b) 2), .int .u64 (lb (b) 3)] 24)) := by go_grown
  generalize ((w.alloc (.cells #[.int .u64 (lb (a) 0), .int .u64 (lb (a) 1), .int .u64 (lb (a) 2), .int .u64 (lb (a) 3)] 24)).alloc (.cells #[.int .u64 (lb (b) 0), .int .u64 (lb (b) 1), .int .u64 (lb (b) 2), .int .u64 (lb (b) 3)] 24)).alloc (.cells #[.int .u64 (lb (b) 0), .int .u64 (lb (b) 1), .int .u64 (lb (b) 2), .int .u64 (lb (b) 3)] 24) = W3 at *
  refine wp_region_kinds [] 28 [(0, 0), (1, 0), (2, 0), (3, 0), (5, 0), (4, 2), (6, 2), (7, 0), (8, 0), (9, 0), (10, 0), (11, 0), (12, 0), (13, 0), (14, 0), (15, 0), (16, 0), (17, 0), (18, 0), (19, 0), (20, 0), (21, 0), (22, 0), (23, 0), (24, 0), (25, 0), (26, 0), (27, 0)] (by kernel_rfl) (by kernel_rfl) ?_
  (refine kind_firm (v := ?_) rfl ?_ ?_; rotate_left; focus (intro K w' hg hK; have hc1 := (ka.drew.after hg).cell; go_simp; exact hK _ (Grow.refl _)))
  (refine kind_firm (v := ?_) rfl ?_ ?_; rotate_left; focus (intro K w' hg hK; have hc1 := (kb.drew.after hg).cell; go_simp; exact hK _ (Grow.refl _)))
  (refine kind_firm (v := ?_) rfl ?_ ?_; rotate_left; focus (intro K w' hg hK; go_simp; refine Calls.mono (cmp_any a b ha hb _) ?_; rintro e w'' ⟨rfl, hb⟩; refine ⟨_, rfl, ?_⟩; exact hK _ hb))
  (refine kind_firm (v := ?_) rfl ?_ ?_; rotate_left; focus (intro K w' hg hK; have hc1 := (ka.drew.after hg).cell; go_simp; exact hK _ (Grow.refl _)))
  (refine kind_firm (v := ?_) rfl ?_ ?_; rotate_left; focus (intro K w' hg hK; have hc1 := (kb.drew.after hg).cell; go_simp; exact hK _ (Grow.refl _)))
  (refine kind_loose rfl ?_; intro K w' hg hK; go_simp; refine Calls.mono (digits_any a _) ?_)
  rintro e w4 ⟨v4, rfl, o4, h4⟩
  obtain ⟨A4, c4, rfl, hc4, D4⟩ := digs_of o4
  refine ⟨_, rfl, hK _ _ h4 ?_⟩
  have g1 := Grow.trans hg h4
  clear hK hg h4 o4 K
  (refine kind_loose rfl ?_; intro K w' hg hK; go_simp; refine Calls.mono (digits_any b _) ?_)
  rintro e w5 ⟨v5, rfl, o5, h5⟩
  obtain ⟨A5, c5, rfl, hc5, D5⟩ := digs_of o5
  refine ⟨_, rfl, hK _ _ h5 ?_⟩
  replace D4 := (D4.after hg).after h5
  replace g1 := Grow.trans (Grow.trans g1 hg) h5
  clear hK hg h5 o5 K
  replace ka := ka.drew.after g1
  replace kb := kb.drew.after g1
  replace kp := kp.drew.after g1
  replace bw := below_call g1 bw.drew
  clear g1
  (refine kind_firm (v := ?_) rfl ?_ ?_; rotate_left; focus (intro K w' hg hK; go_simp; refine Calls.mono (compare_k a b 16 16 a16 b16 (by omega) (by omega) A4 A5 c4 c5 hc4 hc5 _ (D4.after hg) (D5.after hg)) ?_; rintro e w'' ⟨rfl, hb⟩; refine ⟨_, rfl, ?_⟩; exact hK _ hb))
  (refine kind_firm (v := ?_) rfl ?_ ?_; rotate_left; focus (intro K w' hg hK; go_simp; exact hK _ (Grow.refl _)))
  (refine kind_firm (v := ?_) rfl ?_ ?_; rotate_left; focus (intro K w' hg hK; go_simp; exact hK _ (Grow.refl _)))
  (refine kind_firm (v := ?_) rfl ?_ ?_; rotate_left; focus (intro K w' hg hK; go_simp; exact hK _ (Grow.refl _)))
  (refine kind_firm (v := ?_) rfl ?_ ?_; rotate_left; focus (intro K w' hg hK; go_simp; exact hK _ (Grow.refl _)))
  (refine kind_firm (v := ?_) rfl ?_ ?_; rotate_left; focus (intro K w' hg hK; have hc1 := (ka.after hg).cell; go_simp; exact hK _ (Grow.refl _)))
  (refine kind_firm (v := ?_) rfl ?_ ?_; rotate_left; focus (intro K w' hg hK; have hc1 := (kb.after hg).cell; go_simp; exact hK _ (Grow.refl _)))
  (refine kind_firm (v := ?_) rfl ?_ ?_; rotate_left; focus (intro K w' hg hK; go_simp; refine Calls.mono (cS _) ?_; rintro e w'' ⟨rfl, hb⟩; refine ⟨_, rfl, ?_⟩; exact hK _ hb))
  (refine kind_firm (v := ?_) rfl ?_ ?_; rotate_left; focus (intro K w' hg hK; have hc1 := (kp.after hg).cell; go_simp; exact hK _ (Grow.refl _)))
  (refine kind_firm (v := ?_) rfl ?_ ?_; rotate_left; focus (intro K w' hg hK; go_simp; exact hK _ (Grow.refl _)))
  (refine kind_firm (v := ?_) rfl ?_ ?_; rotate_left; focus (intro K w' hg hK; go_simp; exact hK _ (Grow.refl _)))
  (refine kind_firm (v := ?_) rfl ?_ ?_; rotate_left; focus (intro K w' hg hK; go_simp; exact hK _ (Grow.refl _)))
  (refine kind_firm (v := ?_) rfl ?_ ?_; rotate_left; focus (intro K w' hg hK; have hc1 := (ka.after hg).cell; go_simp; exact hK _ (Grow.refl _)))
  (refine kind_firm (v := ?_) rfl ?_ ?_; rotate_left; focus (intro K w' hg hK; go_simp; exact hK _ (Grow.refl _)))
  (refine kind_firm (v := ?_) rfl ?_ ?_; rotate_left; focus (intro K w' hg hK; go_simp; refine Calls.mono (bit_any a n _) ?_; rintro e w'' ⟨rfl, hb⟩; refine ⟨_, rfl, ?_⟩; exact hK _ hb))
  (refine kind_firm (v := ?_) rfl ?_ ?_; rotate_left; focus (intro K w' hg hK; go_simp; exact hK _ (Grow.refl _)))
  (refine kind_firm (v := ?_) rfl ?_ ?_; rotate_left; focus (intro K w' hg hK; go_simp; exact hK _ (Grow.refl _)))
  (refine kind_firm (v := ?_) rfl ?_ ?_; rotate_left; focus (intro K w' hg hK; go_simp; exact hK _ (Grow.refl _)))
  (refine kind_firm (v := ?_) rfl ?_ ?_; rotate_left; focus (intro K w' hg hK; go_simp; exact hK _ (Grow.refl _)))
  (refine kind_firm (v := ?_) rfl ?_ ?_; rotate_left; focus (intro K w' hg hK; go_simp; refine Calls.mono (turns_any _) ?_; rintro e w'' ⟨rfl, hb⟩; refine ⟨_, rfl, ?_⟩; exact hK _ hb))
  (refine kind_firm (v := ?_) rfl ?_ ?_; rotate_left; focus (intro K w' hg hK; go_simp; exact hK _ (Grow.refl _)))
  refine kind_end ?_
  intro w9 h9
  go_wp2
  go_ret
  exact ⟨rfl, below_call h9 bw⟩
theorem picks_walk (a b : Nat) (n : Int) (ha : a < RR) (hb : b < RR) (hw : (Lit.int .i64 n).wf = true) (w : World) : Calls Try.prog 7 #[num a, num b, .int .i64 n] w fun e w' => e = .returned (.bool true) ∧ Below w.heap.size w w' := by
  simp [Lit.wf, IntKind.min, IntKind.max, IntKind.signed, IntKind.bits] at hw
  obtain ⟨h1, h2⟩ := hw
  by_cases hn : n < 0
  · have e := Int.mul_tdiv_add_tmod n 2
    have hlt := Int.tmod_lt_of_pos n (b := 2) (by omega)
    have hgt : -2 < n.tmod 2 := by
      have := Int.tmod_lt_of_pos (-n) (b := 2) (by omega)
      rw [Int.neg_tmod] at this; omega
    have hnp : n.tmod 2 ≤ 0 := by
      have := Int.tmod_nonneg (a := -n) 2 (by omega)
      rw [Int.neg_tmod] at this; omega
    obtain h | h : n.tmod 2 = 0 ∨ n.tmod 2 = -1 := by omega
    · exact picks_neg_even a b n ha hb hn (by omega) (by simpa using h) w
    · exact picks_neg_odd a b n ha hb hn (by omega) h w
  · obtain ⟨i, rfl⟩ := Int.eq_ofNat_of_zero_le (show 0 ≤ n by omega)
    have hi : (i : Int) < 9223372036854775808 := by omega
    obtain h | h : (i : Int) % 2 = 0 ∨ (i : Int) % 2 = 1 := by omega
    · by_cases h0 : i < 256
      · exact picks_in_even a b i ha hb h0 h w
      · exact picks_far_even a b i ha hb (by omega) hi h w
    · by_cases h0 : i < 256
      · exact picks_in_odd a b i ha hb h0 h w
      · exact picks_far_odd a b i ha hb (by omega) hi h w
end Go.Proofs.Ytcoljlanblngiaa
