/- The document's answer for layer 2: which is less, sums and differences. -/
import Derived.Test.YtbmokmkaebfneaaA
namespace Go.Proofs.Ytbmokmkaebfneaa
set_option linter.unusedVariables false
set_option linter.unusedSimpArgs false
open Go.RowKit

/-- Words tell which number is less: the uppermost unlike ones. -/
theorem less_words (a b : Nat) (ha : a < RR) (hb : b < RR) :
    ((lb a 3 == lb b 3) = false ∧ decide (lb a 3 < lb b 3) = decide (a < b)) ∨ ((lb a 3 == lb b 3) = true ∧ (lb a 2 == lb b 2) = false ∧ decide (lb a 2 < lb b 2) = decide (a < b)) ∨
    ((lb a 3 == lb b 3) = true ∧ (lb a 2 == lb b 2) = true ∧ (lb a 1 == lb b 1) = false ∧ decide (lb a 1 < lb b 1) = decide (a < b)) ∨
    ((lb a 3 == lb b 3) = true ∧ (lb a 2 == lb b 2) = true ∧ (lb a 1 == lb b 1) = true ∧ (lb a 0 == lb b 0) = false ∧ decide (lb a 0 < lb b 0) = decide (a < b)) ∨
    ((lb a 3 == lb b 3) = true ∧ (lb a 2 == lb b 2) = true ∧ (lb a 1 == lb b 1) = true ∧ (lb a 0 == lb b 0) = true ∧ decide (a < b) = false) := by
  have ea : a = lbN a 0 + 18446744073709551616 * (lbN a 1 + 18446744073709551616 * (lbN a 2 + 18446744073709551616 * lbN a 3)) := by unfold RR at ha; rw [lb0, lb1, lb2, lb3]; omega
  have eb : b = lbN b 0 + 18446744073709551616 * (lbN b 1 + 18446744073709551616 * (lbN b 2 + 18446744073709551616 * lbN b 3)) := by unfold RR at hb; rw [lb0, lb1, lb2, lb3]; omega
  have a0 := lbN_lt a 0
  have a1 := lbN_lt a 1
  have a2 := lbN_lt a 2
  have b0 := lbN_lt b 0
  have b1 := lbN_lt b 1
  have b2 := lbN_lt b 2
  simp only [beq_iff_eq, beq_eq_false_iff_ne, ne_eq, decide_eq_decide, decide_eq_false_iff_not, lb_def, Int.ofNat_inj, Int.ofNat_lt]
  clear ha hb
  generalize lbN a 0 = x0 at *
  generalize lbN a 1 = x1 at *
  generalize lbN a 2 = x2 at *
  generalize lbN a 3 = x3 at *
  generalize lbN b 0 = y0 at *
  generalize lbN b 1 = y1 at *
  generalize lbN b 2 = y2 at *
  generalize lbN b 3 = y3 at *
  by_cases h3 : x3 = y3
  · refine .inr ?_
    by_cases h2 : x2 = y2
    · refine .inr ?_
      by_cases h1 : x1 = y1
      · refine .inr ?_
        by_cases h0 : x0 = y0
        · exact .inr ⟨h3, h2, h1, h0, by omega⟩
        · exact .inl ⟨h3, h2, h1, h0, by omega⟩
      · exact .inl ⟨h3, h2, h1, by omega⟩
    · exact .inl ⟨h3, h2, by omega⟩
  · exact .inl ⟨h3, by omega⟩
set_option maxHeartbeats 1000000 in
theorem less_any (a b : Nat) (ha : a < RR) (hb : b < RR) (t : Bool) (ht : decide (a < b) = t) (w : World) : Calls Try.prog 56 #[num a, num b] w fun e w' => e = .returned (.bool t) ∧ Below w.heap.size w w' := by
  have hw := less_words a b ha hb
  rw [ht] at hw
  clear ht
  go_enter Try.func56, Try.ntmps56
  rcases hw with ⟨h3, hx⟩ | ⟨h3, h2, hx⟩ | ⟨h3, h2, h1, hx⟩ | ⟨h3, h2, h1, h0, hx⟩ | ⟨h3, h2, h1, h0, rfl⟩
  all_goals
    go_wp2
    refine wp_loop_rounds 5 ?_
  · rw [rounds_succ]; go_wp2; go_region; go_wp2; go_region; go_wp2; go_ret; exact ⟨rfl, by go_grown⟩
  · rw [rounds_succ]; go_wp2; go_region; go_wp2
    rw [rounds_succ]; go_wp2; go_region; go_wp2; go_region; go_wp2; go_ret; exact ⟨rfl, by go_grown⟩
  · rw [rounds_succ]; go_wp2; go_region; go_wp2
    rw [rounds_succ]; go_wp2; go_region; go_wp2
    rw [rounds_succ]; go_wp2; go_region; go_wp2; go_region; go_wp2; go_ret; exact ⟨rfl, by go_grown⟩
  · rw [rounds_succ]; go_wp2; go_region; go_wp2
    rw [rounds_succ]; go_wp2; go_region; go_wp2
    rw [rounds_succ]; go_wp2; go_region; go_wp2
    rw [rounds_succ]; go_wp2; go_region; go_wp2; go_region; go_wp2; go_ret; exact ⟨rfl, by go_grown⟩
  · rw [rounds_succ]; go_wp2; go_region; go_wp2
    rw [rounds_succ]; go_wp2; go_region; go_wp2
    rw [rounds_succ]; go_wp2; go_region; go_wp2
    rw [rounds_succ]; go_wp2; go_region; go_wp2
    rw [rounds_succ]; go_wp2; go_ret; exact ⟨rfl, by go_grown⟩
set_option maxHeartbeats 1000000 in
theorem rplus_any (a b : Nat) (w : World) : Calls Try.prog 55 #[num a, num b] w fun e w' => e = .returned (.tuple #[num (addN a b), .bool (ca a b 4 == 1)]) ∧ Below w.heap.size w w' := by
  have k0 := add_step0 a b
  have k1 := add_step a b 1 (by omega)
  have k2 := add_step a b 2 (by omega)
  have k3 := add_step a b 3 (by omega)
  go_enter Try.func55, Try.ntmps55
  go_wp2
  refine wp_loop_rounds 5 ?_
  rw [rounds_succ]; go_wp2; go_quiet (fail); go_wp2
  rw [rounds_succ]; go_wp2; go_quiet (fail); go_wp2
  rw [rounds_succ]; go_wp2; go_quiet (fail); go_wp2
  rw [rounds_succ]; go_wp2; go_quiet (fail); go_wp2
  rw [rounds_succ]; go_wp2
  go_returns
  refine ⟨rfl, ?_⟩
  repeat' (first | (with_reducible exact Below.refl _ _) | (with_reducible assumption) | (with_reducible refine below_drewN ?_ _) | (with_reducible refine Below.drew ?_) | (with_reducible refine Below.alloc ?_ ?_ _) | (with_reducible refine Below.setCell ?_ ?_ _) | go_size)
set_option maxHeartbeats 1000000 in
theorem rminus_any (a b : Nat) (hb : b < RR) (w : World) : Calls Try.prog 57 #[num a, num b] w fun e w' => e = .returned (num (subN a b)) ∧ Below w.heap.size w w' := by
  have k0 := sub_step0 a b hb
  have k1 := sub_step a b 1 (by omega) hb
  have k2 := sub_step a b 2 (by omega) hb
  have k3 := sub_step a b 3 (by omega) hb
  go_enter Try.func57, Try.ntmps57
  go_wp2
  refine wp_loop_rounds 5 ?_
  rw [rounds_succ]; go_wp2; go_quiet (fail); go_wp2
  rw [rounds_succ]; go_wp2; go_quiet (fail); go_wp2
  rw [rounds_succ]; go_wp2; go_quiet (fail); go_wp2
  rw [rounds_succ]; go_wp2; go_quiet (fail); go_wp2
  rw [rounds_succ]; go_wp2
  go_returns
  refine ⟨rfl, ?_⟩
  repeat' (first | (with_reducible exact Below.refl _ _) | (with_reducible assumption) | (with_reducible refine below_drewN ?_ _) | (with_reducible refine Below.drew ?_) | (with_reducible refine Below.alloc ?_ ?_ _) | (with_reducible refine Below.setCell ?_ ?_ _) | go_size)
theorem zero_words (a : Nat) (ha : a < RR) : (a ≠ 0 → (lb a 0 == 0 && lb a 1 == 0 && lb a 2 == 0 && lb a 3 == 0) = false) ∧ (a = 0 → (lb a 0 == 0 && lb a 1 == 0 && lb a 2 == 0 && lb a 3 == 0) = true) := by
  constructor
  · intro h
    rw [Bool.eq_false_iff]
    intro e
    simp only [Bool.and_eq_true, beq_iff_eq] at e
    exact h (words_ext ha (by unfold RR; omega) (by rw [e.1.1.1, lb_zero]) (by rw [e.1.1.2, lb_zero]) (by rw [e.1.2, lb_zero]) (by rw [e.2, lb_zero]))
  · rintro rfl
    rw [lb_zero, lb_zero, lb_zero, lb_zero]; rfl
set_option maxHeartbeats 1000000 in
theorem zero_any (a : Nat) (ha : a < RR) (t : Bool) (ht : decide (a = 0) = t) (w : World) : Calls Try.prog 54 #[num a] w fun e w' => e = .returned (.bool t) ∧ Below w.heap.size w w' := by
  have hz := zero_words a ha
  go_enter Try.func54, Try.ntmps54
  by_cases h0 : (lb a 0 == 0) = true
  · by_cases h1 : (lb a 1 == 0) = true
    · by_cases h2 : (lb a 2 == 0) = true
      · by_cases h3 : (lb a 3 == 0) = true
        · have hx : t = true := by rw [← ht]; simp only [decide_eq_true_eq]; refine Classical.byContradiction fun h => ?_; have := hz.1 h; simp [h0, h1, h2, h3] at this
          clear hz ht
          subst hx
          go_wp2
          go_ret
          exact ⟨rfl, by go_grown⟩
        · have hx : t = false := by rw [← ht]; simp only [decide_eq_false_iff_not]; intro h; have := hz.2 h; simp [h0, h1, h2, h3] at this
          clear hz ht
          subst hx
          go_wp2
          go_ret
          exact ⟨rfl, by go_grown⟩
      · have hx : t = false := by rw [← ht]; simp only [decide_eq_false_iff_not]; intro h; have := hz.2 h; simp [h0, h1, h2] at this
        clear hz ht
        subst hx
        go_wp2
        go_ret
        exact ⟨rfl, by go_grown⟩
    · have hx : t = false := by rw [← ht]; simp only [decide_eq_false_iff_not]; intro h; have := hz.2 h; simp [h0, h1] at this
      clear hz ht
      subst hx
      go_wp2
      go_ret
      exact ⟨rfl, by go_grown⟩
  · have hx : t = false := by rw [← ht]; simp only [decide_eq_false_iff_not]; intro h; have := hz.2 h; simp [h0] at this
    clear hz ht
    subst hx
    go_wp2
    go_ret
    exact ⟨rfl, by go_grown⟩
end Go.Proofs.Ytbmokmkaebfneaa
