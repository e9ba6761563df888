/- The document's answer for layer 1: a remainder of a wide number. -/
import Derived.Test.YtcoljlanblngiaaO2
import Derived.Test.YtcoljlanblngiaaP
import Derived.Test.YtcoljlanblngiaaP8
import Derived.Test.YtcoljlanblngiaaP9
import Derived.Test.YtcoljlanblngiaaQ
namespace Go.Proofs.Ytcoljlanblngiaa
set_option linter.unusedVariables false
set_option linter.unusedSimpArgs false
open Go.RowKit Go.Proofs.YtcoljlanblngiaaW.PrintWords

set_option maxHeartbeats 2000000 in
theorem rmod_zero (x : Nat) (w : World) : Calls Try.prog 33 #[wide x, num 0] w fun e w' => e = .returned (.tuple #[num 0, .int .i64 1]) ∧ Below w.heap.size w w' := by
  rw [num_zero]
  go_enter Try.func33, Try.ntmps33
  go_wp2
  have kf : Blk (((w.alloc (.cells #[.int .u64 (lb (x) 0), .int .u64 (lb (x) 1), .int .u64 (lb (x) 2), .int .u64 (lb (x) 3), .int .u64 (lb (x) 4), .int .u64 (lb (x) 5), .int .u64 (lb (x) 6), .int .u64 (lb (x) 7)] 41)).alloc (.cells #[.int .u64 0, .int .u64 0, .int .u64 0, .int .u64 0] 24)).alloc (.cells #[.int .u64 0, .int .u64 0, .int .u64 0, .int .u64 0] 24)) (w.heap.size + 1 + 1) 24 #[.int .u64 0, .int .u64 0, .int .u64 0, .int .u64 0] := Blk.newAt _ _ _ (by simp)
  obtain ⟨kf_c, kf_f, kf_l, _⟩ := kf.knows
  refine bodyPost_ret (v := .tuple #[zeroV, .int .i64 1]) (by simp [results, Try.results33, go_sem, kf_c, kf_l]) rfl ?_
  exact ⟨rfl, by go_grown⟩
theorem word_of (m : Nat) (hm : m < RR) (h0 : m ≠ 0) : (lb m 0 == 0) = false ∨ ((lb m 0 == 0) = true ∧ (lb m 1 == 0) = false) ∨ ((lb m 0 == 0) = true ∧ (lb m 1 == 0) = true ∧ (lb m 2 == 0) = false) ∨ ((lb m 0 == 0) = true ∧ (lb m 1 == 0) = true ∧ (lb m 2 == 0) = true ∧ (lb m 3 == 0) = false) := by
  simp only [beq_iff_eq, beq_eq_false_iff_ne, ne_eq]
  by_cases e0 : lb m 0 = 0
  · by_cases e1 : lb m 1 = 0
    · by_cases e2 : lb m 2 = 0
      · refine .inr (.inr (.inr ⟨e0, e1, e2, fun e3 => h0 (words_ext hm (by unfold RR; omega) ?_ ?_ ?_ ?_)⟩))
        · rw [e0, lb_zero]
        · rw [e1, lb_zero]
        · rw [e2, lb_zero]
        · rw [e3, lb_zero]
      · exact .inr (.inr (.inl ⟨e0, e1, e2⟩))
    · exact .inr (.inl ⟨e0, e1⟩)
  · exact .inl e0
theorem put_after {w w1 w2 : World} {g : Nat} (hg : w.heap.size ≤ g) (x0 x1 x2 x3 : Value) (hb : Below w.heap.size w w1) (h : Grow ((((w1.setCell ⟨g, 0, none⟩ x0).setCell ⟨g, 1, none⟩ x1).setCell ⟨g, 2, none⟩ x2).setCell ⟨g, 3, none⟩ x3) w2) : Below w.heap.size w w2 := by
  have h4 := (((hb.setCell (p := ⟨g, 0, none⟩) (by dsimp only; omega) x0).setCell (p := ⟨g, 1, none⟩) (by dsimp only; omega) x1).setCell (p := ⟨g, 2, none⟩) (by dsimp only; omega) x2).setCell (p := ⟨g, 3, none⟩) (by dsimp only; omega) x3
  exact below_call h h4
set_option maxHeartbeats 4000000 in
theorem rmod_any (x m : Nat) (hx : x < 65536 ^ 32) (hm : m < RR) (h0 : m ≠ 0) (w : World) : Calls Try.prog 33 #[wide x, num m] w fun e w' => e = .returned (.tuple #[num (x % m), .int .i64 0]) ∧ Below w.heap.size w w' := by
  have m16 : m < 65536 ^ 16 := by unfold RR at hm; omega
  have hm0 : 0 < m := by omega
  have hw := word_of m hm h0
  go_enter Try.func33, Try.ntmps33
  rcases hw with h | ⟨h, h2⟩ | ⟨h, h2, h3⟩ | ⟨h, h2, h3, h4⟩
  all_goals
    go_wp2
    have kx := ((Blk.newAt (n := w.heap.size) w 41 #[.int .u64 (lb (x) 0), .int .u64 (lb (x) 1), .int .u64 (lb (x) 2), .int .u64 (lb (x) 3), .int .u64 (lb (x) 4), .int .u64 (lb (x) 5), .int .u64 (lb (x) 6), .int .u64 (lb (x) 7)] rfl).alloc (.cells #[.int .u64 (lb (m) 0), .int .u64 (lb (m) 1), .int .u64 (lb (m) 2), .int .u64 (lb (m) 3)] 24)).alloc (.cells #[.int .u64 0, .int .u64 0, .int .u64 0, .int .u64 0] 24)
    have km := (Blk.newAt (n := w.heap.size + 1) (w.alloc (.cells #[.int .u64 (lb (x) 0), .int .u64 (lb (x) 1), .int .u64 (lb (x) 2), .int .u64 (lb (x) 3), .int .u64 (lb (x) 4), .int .u64 (lb (x) 5), .int .u64 (lb (x) 6), .int .u64 (lb (x) 7)] 41)) 24 #[.int .u64 (lb (m) 0), .int .u64 (lb (m) 1), .int .u64 (lb (m) 2), .int .u64 (lb (m) 3)] (by simp)).alloc (.cells #[.int .u64 0, .int .u64 0, .int .u64 0, .int .u64 0] 24)
    have kq := Blk.newAt (n := w.heap.size + 1 + 1) ((w.alloc (.cells #[.int .u64 (lb (x) 0), .int .u64 (lb (x) 1), .int .u64 (lb (x) 2), .int .u64 (lb (x) 3), .int .u64 (lb (x) 4), .int .u64 (lb (x) 5), .int .u64 (lb (x) 6), .int .u64 (lb (x) 7)] 41)).alloc (.cells #[.int .u64 (lb (m) 0), .int .u64 (lb (m) 1), .int .u64 (lb (m) 2), .int .u64 (lb (m) 3)] 24)) 24 #[.int .u64 0, .int .u64 0, .int .u64 0, .int .u64 0] (by simp)
    have bw : Below w.heap.size w (((w.alloc (.cells #[.int .u64 (lb (x) 0), .int .u64 (lb (x) 1), .int .u64 (lb (x) 2), .int .u64 (lb (x) 3), .int .u64 (lb (x) 4), .int .u64 (lb (x) 5), .int .u64 (lb (x) 6), .int .u64 (lb (x) 7)] 41)).alloc (.cells #[.int .u64 (lb (m) 0), .int .u64 (lb (m) 1), .int .u64 (lb (m) 2), .int .u64 (lb (m) 3)] 24)).alloc (.cells #[.int .u64 0, .int .u64 0, .int .u64 0, .int .u64 0] 24)) := by go_grown
    generalize ((w.alloc (.cells #[.int .u64 (lb (x) 0), .int .u64 (lb (x) 1), .int .u64 (lb (x) 2), .int .u64 (lb (x) 3), .int .u64 (lb (x) 4), .int .u64 (lb (x) 5), .int .u64 (lb (x) 6), .int .u64 (lb (x) 7)] 41)).alloc (.cells #[.int .u64 (lb (m) 0), .int .u64 (lb (m) 1), .int .u64 (lb (m) 2), .int .u64 (lb (m) 3)] 24)).alloc (.cells #[.int .u64 0, .int .u64 0, .int .u64 0, .int .u64 0] 24) = W3 at *
    refine wp_region_kinds [6] 7 [(0, 0), (2, 0), (1, 2), (3, 2), (4, 2), (5, 0), (6, 2)] (by kernel_rfl) (by kernel_rfl) ?_
    (refine kind_firm (v := ?_) rfl ?_ ?_; rotate_left; focus (intro K w' hg hK; have hc1 := (kx.drew.after hg).cell; go_simp; exact hK _ (Grow.refl _)))
    (refine kind_firm (v := ?_) rfl ?_ ?_; rotate_left; focus (intro K w' hg hK; have hc1 := (km.drew.after hg).cell; go_simp; exact hK _ (Grow.refl _)))
    (refine kind_loose rfl ?_; intro K w' hg hK; go_simp; refine Calls.mono (wdigits_any x _) ?_)
    rintro e w1 ⟨v1, rfl, o1, h1⟩
    obtain ⟨A1, c1, rfl, hc1, D1⟩ := digs_of o1
    refine ⟨_, rfl, hK _ _ h1 ?_⟩
    have g1 := Grow.trans hg h1
    clear hK hg h1 o1 K
    (refine kind_loose rfl ?_; intro K w' hg hK; go_simp; refine Calls.mono (digits_any m _) ?_)
    rintro e w4 ⟨v2, rfl, o2, h4⟩
    obtain ⟨A2, c2, rfl, hc2, D2⟩ := digs_of o2
    refine ⟨_, rfl, hK _ _ h4 ?_⟩
    replace D1 := (D1.after hg).after h4
    replace g1 := Grow.trans (Grow.trans g1 hg) h4
    clear hK hg h4 o2 K
    (refine kind_loose rfl ?_; intro K w' hg hK; go_simp; refine Calls.mono (rest_any x m 32 16 hx hm0 m16 (by omega) (by omega) (by omega) A1 A2 c1 c2 hc1 hc2 _ (D1.after hg) (D2.after hg)) ?_)
    rintro e w5 ⟨v5, rfl, A5, l5, c5, rfl, hc5, _, _, hlt, D5, h5⟩
    refine ⟨_, rfl, hK _ _ h5 ?_⟩
    replace g1 := Grow.trans (Grow.trans g1 hg) h5
    clear hK hg h5 K D1 D2
    (refine kind_firm (v := ?_) rfl ?_ ?_; rotate_left; focus (intro K w' hg hK; go_simp; refine Calls.mono (num_any (x % m) l5 hlt A5 c5 hc5 _ (D5.after hg)) ?_; rintro e w'' ⟨rfl, hb⟩; refine ⟨_, rfl, ?_⟩; exact hK _ hb))
    replace kq := kq.drew.after g1
    replace bw := below_call g1 bw.drew
    clear g1 kx km
    (refine kind_store rfl rfl ?_; intro K wb1 gb1 hK; have hs := kq.after gb1; have sc := hs.cell; have sf := hs.frozen; go_simp; refine hK _ _ ?_; clear hK K)
    refine kind_end ?_
    intro w6 h6
    have kf := (hs.put4 (.int .u64 (lb (x % m) 0)) (.int .u64 (lb (x % m) 1)) (.int .u64 (lb (x % m) 2)) (.int .u64 (lb (x % m) 3))).after h6
    replace bw := put_after (by omega) _ _ _ _ (below_call gb1 bw) h6
    clear sc sf hs h6 gb1 kq
    obtain ⟨kf_c, kf_f, kf_l, _⟩ := kf.knows
    go_wp2
    refine bodyPost_ret (v := .tuple #[num (x % m), .int .i64 0]) (by simp [results, Try.results33, go_sem, kf_c, kf_l]) rfl ?_
    exact ⟨rfl, bw⟩
end Go.Proofs.Ytcoljlanblngiaa
