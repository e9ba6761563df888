/- The document's answer for layer 2: the smaller functions. -/
import Derived.Test.YtbmokmkaebfneaaK2
import Derived.Test.YtbmokmkaebfneaaRB
import Derived.Test.YtbmokmkaebfneaaFD
namespace Go.Proofs.Ytbmokmkaebfneaa
set_option linter.unusedVariables false
set_option linter.unusedSimpArgs false
open Go.RowKit

abbrev cC : Bool → Nat
  | true => 4294968273
  | false => 432420386565659656852420866394968145599
/-- What 2^256 is by the primes. -/
theorem cN_is : ∃ f : Bool → Nat, ∀ b, f b = cC b := ⟨cC, fun _ => rfl⟩
noncomputable def cN : Bool → Nat := Classical.choose cN_is
theorem cN_def (b : Bool) : cN b = cC b := Classical.choose_spec cN_is b
theorem cN_lt (b : Bool) : cN b < RR := by rw [cN_def]; unfold RR; cases b <;> decide
theorem cN_small (b : Bool) : cN b < 680564733841876926926749214863536422912 := by rw [cN_def]; cases b <;> decide
theorem cN_pN (b : Bool) : cN b + pN b = RR := by rw [cN_def, pN_def]; unfold RR; cases b <;> decide
theorem lb_c (b : Bool) : lb (cN b) 0 = (if b then 4294968273 else 4624529908474429119) ∧ lb (cN b) 1 = (if b then 0 else 4994812053365940164) ∧ lb (cN b) 2 = (if b then 0 else 1) ∧ lb (cN b) 3 = 0 := by
  rw [cN_def]; cases b <;> (simp only [lb_def, lbN]; decide)
theorem RR_zero : 0 < RR := by unfold RR; omega
theorem RR_one : 1 < RR := by unfold RR; omega
theorem RR_two : 2 < RR := by unfold RR; omega
theorem pN_big (b : Bool) {n : Nat} (h : n < 1000) : n < pN b := by have : 1000 < pN b := by { rw [pN_def]; cases b <;> decide }; omega
/-- The document's field, as a value. -/
noncomputable abbrev rfV (b : Bool) : Value := .agg #[.int .u64 (lb (pN b) 0), .int .u64 (lb (pN b) 1), .int .u64 (lb (pN b) 2), .int .u64 (lb (pN b) 3), .int .u64 (lb (cN b) 0), .int .u64 (lb (cN b) 1), .int .u64 (lb (cN b) 2), .int .u64 (lb (cN b) 3)]
set_option maxHeartbeats 2000000 in
theorem rscalars_any (w : World) : Calls Try.prog 18 #[] w fun e w' => e = .returned (rfV false) ∧ Below w.heap.size w w' := by
  unfold rfV
  rw [(lb_p false).1, (lb_p false).2.1, (lb_p false).2.2.1, (lb_p false).2.2.2, (lb_c false).1, (lb_c false).2.1, (lb_c false).2.2.1, (lb_c false).2.2.2]
  go_enter Try.func18, Try.ntmps18
  go_wp2
  refine bodyPost_ret (v := .agg #[.int .u64 13822214165235122497, .int .u64 13451932020343611451, .int .u64 18446744073709551614, .int .u64 18446744073709551615, .int .u64 4624529908474429119, .int .u64 4994812053365940164, .int .u64 1, .int .u64 0]) (by simp [results, Try.results18, go_sem]) rfl ?_
  exact ⟨rfl, by go_grown⟩
set_option maxRecDepth 20000 in
set_option maxHeartbeats 2000000 in
theorem rhas_yes {base : Bool} (a : Nat) (h : a < pN base) (w : World) : Calls Try.prog 63 #[rfV base, num a] w fun e w' => e = .returned (.bool true) ∧ Below w.heap.size w w' := by
  go_enter Try.func63, Try.ntmps63
  go_wp2_with fail
  (with_reducible refine (less_any a (pN base) (lt_RR h) (pN_lt base) true (decide_eq_true h) _).mono ?_)
  rintro e w1 ⟨rfl, h1⟩
  have bw := below_call h1 (w := w) (by first | exact (below_alloc (Below.alloc (Below.refl _ _) (Below.size (Below.refl _ _)) _) _) | go_grown)
  clear h1
  go_wp2
  go_ret
  exact ⟨rfl, (by first | exact bw | go_grown)⟩
set_option maxRecDepth 20000 in
set_option maxHeartbeats 2000000 in
theorem rhas_no {base : Bool} (a : Nat) (ha : a < RR) (h : ¬ a < pN base) (w : World) : Calls Try.prog 63 #[rfV base, num a] w fun e w' => e = .returned (.bool false) ∧ Below w.heap.size w w' := by
  go_enter Try.func63, Try.ntmps63
  go_wp2_with fail
  (with_reducible refine (less_any a (pN base) ha (pN_lt base) false (decide_eq_false h) _).mono ?_)
  rintro e w1 ⟨rfl, h1⟩
  have bw := below_call h1 (w := w) (by first | exact (below_alloc (Below.alloc (Below.refl _ _) (Below.size (Below.refl _ _)) _) _) | go_grown)
  clear h1
  go_wp2
  go_ret
  exact ⟨rfl, (by first | exact bw | go_grown)⟩
theorem ra_over (b : Bool) (x y : Nat) (hx : x < pN b) (hy : y < pN b) (ho : RR ≤ x + y) : subN (addN x y) (pN b) = fadN b x y := by
  have hm := pN_lt b
  have := pN_high b
  rw [subN_def, addN_def, fadN_def, show (x + y) % RR = x + y - RR by (rw [Nat.mod_eq_sub_mod ho, Nat.mod_eq_of_lt (by omega)]), show x + y - RR + RR - pN b = x + y - pN b by omega, Nat.mod_eq_of_lt (by omega), Nat.mod_eq_sub_mod (by omega), Nat.mod_eq_of_lt (by omega)]
theorem ra_above (b : Bool) (x y : Nat) (hx : x < pN b) (hy : y < pN b) (ho : x + y < RR) (h : ¬ addN x y < pN b) : subN (addN x y) (pN b) = fadN b x y := by
  have hm := pN_lt b
  have e : addN x y = x + y := by rw [addN_def, Nat.mod_eq_of_lt ho]
  rw [e] at h ⊢
  rw [subN_def, fadN_def, show x + y + RR - pN b = x + y - pN b + RR by omega, Nat.add_mod_right, Nat.mod_eq_of_lt (by omega), Nat.mod_eq_sub_mod (by omega), Nat.mod_eq_of_lt (by omega)]
theorem ra_in (b : Bool) (x y : Nat) (ho : x + y < RR) (h : addN x y < pN b) : addN x y = fadN b x y := by
  have e : addN x y = x + y := by rw [addN_def, Nat.mod_eq_of_lt ho]
  rw [e] at h ⊢
  rw [fadN_def, Nat.mod_eq_of_lt h]
theorem rplus_over (x y : Nat) (hx : x < RR) (hy : y < RR) (ho : RR ≤ x + y) (w : World) : Calls Try.prog 55 #[num x, num y] w fun e w' => e = .returned (.tuple #[num (addN x y), .bool true]) ∧ Below w.heap.size w w' := by
  have h := rplus_any x y w
  have e : (ca x y 4 == 1) = true := by rw [ca_four x y hx hy, show (x + y) / RR = 1 by (rw [Nat.div_eq_of_lt_le] <;> omega)]; rfl
  rw [e] at h; exact h
theorem rplus_in (x y : Nat) (hx : x < RR) (hy : y < RR) (ho : x + y < RR) (w : World) : Calls Try.prog 55 #[num x, num y] w fun e w' => e = .returned (.tuple #[num (addN x y), .bool false]) ∧ Below w.heap.size w w' := by
  have h := rplus_any x y w
  have e : (ca x y 4 == 1) = false := by rw [ca_four x y hx hy, Nat.div_eq_of_lt ho]; rfl
  rw [e] at h; exact h
set_option maxRecDepth 20000 in
set_option maxHeartbeats 2000000 in
theorem rfadd_over {base : Bool} (a b : Nat) (h : a < pN base) (k : b < pN base) (ho : RR ≤ a + b) (w : World) : Calls Try.prog 19 #[rfV base, num a, num b] w fun e w' => e = .returned (num (subN (addN a b) (pN base))) ∧ Below w.heap.size w w' := by
  go_enter Try.func19, Try.ntmps19
  go_wp2_with fail
  (with_reducible refine (rplus_over a b (lt_RR h) (lt_RR k) ho _).mono ?_)
  rintro e w1 ⟨rfl, h1⟩
  have k1 := (((((Blk.newAt (n := w.heap.size) _ _ _ (by first | rfl | simp)).alloc _).alloc _).alloc _).after h1)
  have k4 := ((Blk.newAt (n := w.heap.size + 1 + 1 + 1) _ _ _ (by first | rfl | simp)).after h1)
  have bw := below_call h1 (w := w) (by first | exact (below_alloc (below_alloc (below_alloc (Below.alloc (Below.refl _ _) (Below.size (Below.refl _ _)) _) _) _) _) | go_grown)
  clear h1
  obtain ⟨k1_c, k1_f, k1_l, k1_m, k1_n⟩ := k1.knows
  obtain ⟨k4_c, k4_f, k4_l, k4_m, k4_n⟩ := k4.knows
  go_wp2_with fail
  (with_reducible refine (rminus_any (addN a b) (pN base) (pN_lt base) _).mono ?_)
  rintro e w2 ⟨rfl, h2⟩
  clear k1_c k1_f k1_m k1_n k4_c k4_f k4_m k4_n
  have o5 : w.heap.size + 1 + 1 + 1 < w1.heap.size := by first | exact k4_l | omega
  replace k4 := ((k4.alloc _).after h2)
  have bwsz := Below.size bw
  replace bw := below_call h2 (w := w) (by first | exact (Below.alloc bw (Below.size bw) _) | go_grown)
  clear h2 bwsz k1_l k4_l
  clear k1
  obtain ⟨k4_c, k4_f, k4_l, k4_m, k4_n⟩ := k4.knows
  go_wp2
  obtain ⟨rk4_c, rk4_f, rk4_l, -⟩ := ((((((k4.set_ 0 (.int .u64 (lb (subN (addN a b) (pN base)) 0))).set_ 1 (.int .u64 (lb (subN (addN a b) (pN base)) 1))).set_ 2 (.int .u64 (lb (subN (addN a b) (pN base)) 2))).set_ 3 (.int .u64 (lb (subN (addN a b) (pN base)) 3)))).re (cs' := #[.int .u64 (lb (subN (addN a b) (pN base)) 0), .int .u64 (lb (subN (addN a b) (pN base)) 1), .int .u64 (lb (subN (addN a b) (pN base)) 2), .int .u64 (lb (subN (addN a b) (pN base)) 3)]) rfl).knows
  refine bodyPost_ret (v := num (subN (addN a b) (pN base))) (by simp [results, Try.results19, go_sem, rk4_c, rk4_l]) rfl ?_
  exact ⟨rfl, (by first | exact (Below.setCell (p := ⟨w.heap.size + 1 + 1 + 1, 3, none⟩) (Below.setCell (p := ⟨w.heap.size + 1 + 1 + 1, 2, none⟩) (Below.setCell (p := ⟨w.heap.size + 1 + 1 + 1, 1, none⟩) (Below.setCell (p := ⟨w.heap.size + 1 + 1 + 1, 0, none⟩) bw (by dsimp only; omega) _) (by dsimp only; omega) _) (by dsimp only; omega) _) (by dsimp only; omega) _) | go_grown)⟩
set_option maxRecDepth 20000 in
set_option maxHeartbeats 2000000 in
theorem rfadd_above {base : Bool} (a b : Nat) (h : a < pN base) (k : b < pN base) (ho : a + b < RR) (hn : ¬ addN a b < pN base) (w : World) : Calls Try.prog 19 #[rfV base, num a, num b] w fun e w' => e = .returned (num (subN (addN a b) (pN base))) ∧ Below w.heap.size w w' := by
  go_enter Try.func19, Try.ntmps19
  go_wp2_with fail
  (with_reducible refine (rplus_in a b (lt_RR h) (lt_RR k) ho _).mono ?_)
  rintro e w1 ⟨rfl, h1⟩
  have k1 := (((((Blk.newAt (n := w.heap.size) _ _ _ (by first | rfl | simp)).alloc _).alloc _).alloc _).after h1)
  have k4 := ((Blk.newAt (n := w.heap.size + 1 + 1 + 1) _ _ _ (by first | rfl | simp)).after h1)
  have bw := below_call h1 (w := w) (by first | exact (below_alloc (below_alloc (below_alloc (Below.alloc (Below.refl _ _) (Below.size (Below.refl _ _)) _) _) _) _) | go_grown)
  clear h1
  obtain ⟨k1_c, k1_f, k1_l, k1_m, k1_n⟩ := k1.knows
  obtain ⟨k4_c, k4_f, k4_l, k4_m, k4_n⟩ := k4.knows
  go_wp2_with fail
  (with_reducible refine (less_any (addN a b) (pN base) (addN_lt a b) (pN_lt base) false (decide_eq_false hn) _).mono ?_)
  rintro e w2 ⟨rfl, h2⟩
  clear k1_c k1_f k1_m k1_n k4_c k4_f k4_m k4_n
  have o5 : w.heap.size + 1 + 1 + 1 < w1.heap.size := by first | exact k4_l | omega
  replace k1 := ((k1.alloc _).after h2)
  replace k4 := ((k4.alloc _).after h2)
  have k5 := ((Blk.newAt (n := w1.heap.size) _ _ _ (by first | rfl | simp)).after h2)
  have bwsz := Below.size bw
  replace bw := below_call h2 (w := w) (by first | exact (Below.alloc bw (Below.size bw) _) | go_grown)
  clear h2 bwsz k1_l k4_l
  obtain ⟨k1_c, k1_f, k1_l, k1_m, k1_n⟩ := k1.knows
  obtain ⟨k4_c, k4_f, k4_l, k4_m, k4_n⟩ := k4.knows
  obtain ⟨k5_c, k5_f, k5_l, k5_m, k5_n⟩ := k5.knows
  go_wp2_with fail
  (with_reducible refine (rminus_any (addN a b) (pN base) (pN_lt base) _).mono ?_)
  rintro e w3 ⟨rfl, h3⟩
  clear k1_c k1_f k1_m k1_n k4_c k4_f k4_m k4_n k5_c k5_f k5_m k5_n
  replace k4 := (k4.after h3)
  have bwsz := Below.size bw
  replace bw := below_call h3 (w := w) (by first | exact bw | go_grown)
  clear h3 bwsz k1_l k4_l k5_l
  clear k1 k5
  obtain ⟨k4_c, k4_f, k4_l, k4_m, k4_n⟩ := k4.knows
  go_wp2
  obtain ⟨rk4_c, rk4_f, rk4_l, -⟩ := ((((((k4.set_ 0 (.int .u64 (lb (subN (addN a b) (pN base)) 0))).set_ 1 (.int .u64 (lb (subN (addN a b) (pN base)) 1))).set_ 2 (.int .u64 (lb (subN (addN a b) (pN base)) 2))).set_ 3 (.int .u64 (lb (subN (addN a b) (pN base)) 3)))).re (cs' := #[.int .u64 (lb (subN (addN a b) (pN base)) 0), .int .u64 (lb (subN (addN a b) (pN base)) 1), .int .u64 (lb (subN (addN a b) (pN base)) 2), .int .u64 (lb (subN (addN a b) (pN base)) 3)]) rfl).knows
  refine bodyPost_ret (v := num (subN (addN a b) (pN base))) (by simp [results, Try.results19, go_sem, rk4_c, rk4_l]) rfl ?_
  exact ⟨rfl, (by first | exact (Below.setCell (p := ⟨w.heap.size + 1 + 1 + 1, 3, none⟩) (Below.setCell (p := ⟨w.heap.size + 1 + 1 + 1, 2, none⟩) (Below.setCell (p := ⟨w.heap.size + 1 + 1 + 1, 1, none⟩) (Below.setCell (p := ⟨w.heap.size + 1 + 1 + 1, 0, none⟩) bw (by dsimp only; omega) _) (by dsimp only; omega) _) (by dsimp only; omega) _) (by dsimp only; omega) _) | go_grown)⟩
set_option maxRecDepth 20000 in
set_option maxHeartbeats 2000000 in
theorem rfadd_in {base : Bool} (a b : Nat) (h : a < pN base) (k : b < pN base) (ho : a + b < RR) (hn : addN a b < pN base) (w : World) : Calls Try.prog 19 #[rfV base, num a, num b] w fun e w' => e = .returned (num (addN a b)) ∧ Below w.heap.size w w' := by
  go_enter Try.func19, Try.ntmps19
  go_wp2_with fail
  (with_reducible refine (rplus_in a b (lt_RR h) (lt_RR k) ho _).mono ?_)
  rintro e w1 ⟨rfl, h1⟩
  have k1 := (((((Blk.newAt (n := w.heap.size) _ _ _ (by first | rfl | simp)).alloc _).alloc _).alloc _).after h1)
  have k4 := ((Blk.newAt (n := w.heap.size + 1 + 1 + 1) _ _ _ (by first | rfl | simp)).after h1)
  have bw := below_call h1 (w := w) (by first | exact (below_alloc (below_alloc (below_alloc (Below.alloc (Below.refl _ _) (Below.size (Below.refl _ _)) _) _) _) _) | go_grown)
  clear h1
  obtain ⟨k1_c, k1_f, k1_l, k1_m, k1_n⟩ := k1.knows
  obtain ⟨k4_c, k4_f, k4_l, k4_m, k4_n⟩ := k4.knows
  go_wp2_with fail
  (with_reducible refine (less_any (addN a b) (pN base) (lt_RR hn) (pN_lt base) true (decide_eq_true hn) _).mono ?_)
  rintro e w2 ⟨rfl, h2⟩
  clear k1_c k1_f k1_m k1_n k4_c k4_f k4_m k4_n
  have o5 : w.heap.size + 1 + 1 + 1 < w1.heap.size := by first | exact k4_l | omega
  replace k4 := ((k4.alloc _).after h2)
  have k5 := ((Blk.newAt (n := w1.heap.size) _ _ _ (by first | rfl | simp)).after h2)
  have bwsz := Below.size bw
  replace bw := below_call h2 (w := w) (by first | exact (Below.alloc bw (Below.size bw) _) | go_grown)
  clear h2 bwsz k1_l k4_l
  clear k1
  obtain ⟨k4_c, k4_f, k4_l, k4_m, k4_n⟩ := k4.knows
  obtain ⟨k5_c, k5_f, k5_l, k5_m, k5_n⟩ := k5.knows
  go_wp2
  obtain ⟨rk4_c, rk4_f, rk4_l, -⟩ := ((((((k4.set_ 0 (.int .u64 (lb (addN a b) 0))).set_ 1 (.int .u64 (lb (addN a b) 1))).set_ 2 (.int .u64 (lb (addN a b) 2))).set_ 3 (.int .u64 (lb (addN a b) 3)))).re (cs' := #[.int .u64 (lb (addN a b) 0), .int .u64 (lb (addN a b) 1), .int .u64 (lb (addN a b) 2), .int .u64 (lb (addN a b) 3)]) rfl).knows
  refine bodyPost_ret (v := num (addN a b)) (by simp [results, Try.results19, go_sem, rk4_c, rk4_l]) rfl ?_
  exact ⟨rfl, (by first | exact (Below.setCell (p := ⟨w.heap.size + 1 + 1 + 1, 3, none⟩) (Below.setCell (p := ⟨w.heap.size + 1 + 1 + 1, 2, none⟩) (Below.setCell (p := ⟨w.heap.size + 1 + 1 + 1, 1, none⟩) (Below.setCell (p := ⟨w.heap.size + 1 + 1 + 1, 0, none⟩) bw (by dsimp only; omega) _) (by dsimp only; omega) _) (by dsimp only; omega) _) (by dsimp only; omega) _) | go_grown)⟩
theorem rfadd {base : Bool} (a b : Nat) (h : a < pN base) (k : b < pN base) (w : World) : Calls Try.prog 19 #[rfV base, num a, num b] w fun e w' => e = .returned (num (fadN base a b)) ∧ Below w.heap.size w w' := by
  by_cases ho : a + b < RR
  · by_cases hn : addN a b < pN base
    · rw [← ra_in base a b ho hn]; exact rfadd_in a b h k ho hn w
    · rw [← ra_above base a b h k ho hn]; exact rfadd_above a b h k ho hn w
  · rw [← ra_over base a b h k (by omega)]; exact rfadd_over a b h k (by omega) w
theorem rs_less (b : Bool) (x y : Nat) (hx : x < pN b) (hy : y < pN b) (hl : x < y) : subN (addN x (pN b)) y = fsbN b x y := by
  have hm := pN_lt b
  have := pN_high b
  rw [subN_def, addN_def, fsbN_def, Nat.mod_eq_of_lt (show x + pN b - y < pN b by omega)]
  by_cases ho : x + pN b < RR
  · rw [Nat.mod_eq_of_lt ho, show x + pN b + RR - y = x + pN b - y + RR by omega, Nat.add_mod_right, Nat.mod_eq_of_lt (by omega)]
  · rw [show (x + pN b) % RR = x + pN b - RR by (rw [Nat.mod_eq_sub_mod (by omega), Nat.mod_eq_of_lt (by omega)]), show x + pN b - RR + RR - y = x + pN b - y by omega, Nat.mod_eq_of_lt (by omega)]
theorem rs_not (b : Bool) (x y : Nat) (hx : x < pN b) (hl : ¬ x < y) : subN x y = fsbN b x y := by
  have hm := pN_lt b
  rw [subN_def, fsbN_def, show x + RR - y = x - y + RR by omega, show x + pN b - y = x - y + pN b by omega, Nat.add_mod_right, Nat.add_mod_right, Nat.mod_eq_of_lt (by omega), Nat.mod_eq_of_lt (by omega)]
theorem rplus_p (x : Nat) (b : Bool) (w : World) : Calls Try.prog 55 #[num x, num (pN b)] w fun e w' => e = .returned (.tuple #[num (addN x (pN b)), .bool (ca x (pN b) 4 == 1)]) ∧ Below w.heap.size w w' := rplus_any x (pN b) w
set_option maxRecDepth 20000 in
set_option maxHeartbeats 2000000 in
theorem rfsub_less {base : Bool} (a b : Nat) (h : a < pN base) (k : b < pN base) (hl : a < b) (w : World) : Calls Try.prog 39 #[rfV base, num a, num b] w fun e w' => e = .returned (num (subN (addN a (pN base)) b)) ∧ Below w.heap.size w w' := by
  go_enter Try.func39, Try.ntmps39
  go_wp2_with fail
  (with_reducible refine (less_any a b (lt_RR h) (lt_RR k) true (decide_eq_true hl) _).mono ?_)
  rintro e w1 ⟨rfl, h1⟩
  have k1 := (((((Blk.newAt (n := w.heap.size) _ _ _ (by first | rfl | simp)).alloc _).alloc _).alloc _).after h1)
  have k2 := ((((Blk.newAt (n := w.heap.size + 1) _ _ _ (by first | rfl | simp)).alloc _).alloc _).after h1)
  have k3 := (((Blk.newAt (n := w.heap.size + 1 + 1) _ _ _ (by first | rfl | simp)).alloc _).after h1)
  have k4 := ((Blk.newAt (n := w.heap.size + 1 + 1 + 1) _ _ _ (by first | rfl | simp)).after h1)
  have bw := below_call h1 (w := w) (by first | exact (below_alloc (below_alloc (below_alloc (Below.alloc (Below.refl _ _) (Below.size (Below.refl _ _)) _) _) _) _) | go_grown)
  clear h1
  obtain ⟨k1_c, k1_f, k1_l, k1_m, k1_n⟩ := k1.knows
  obtain ⟨k2_c, k2_f, k2_l, k2_m, k2_n⟩ := k2.knows
  obtain ⟨k3_c, k3_f, k3_l, k3_m, k3_n⟩ := k3.knows
  obtain ⟨k4_c, k4_f, k4_l, k4_m, k4_n⟩ := k4.knows
  go_wp2_with fail
  (with_reducible refine (rplus_p a base _).mono ?_)
  rintro e w2 ⟨rfl, h2⟩
  clear k1_c k1_f k1_m k1_n k2_c k2_f k2_m k2_n k3_c k3_f k3_m k3_n k4_c k4_f k4_m k4_n
  replace k3 := (k3.after h2)
  replace k4 := (k4.after h2)
  have bwsz := Below.size bw
  replace bw := below_call h2 (w := w) (by first | exact bw | go_grown)
  clear h2 bwsz k1_l k2_l k3_l k4_l
  clear k1 k2
  obtain ⟨k3_c, k3_f, k3_l, k3_m, k3_n⟩ := k3.knows
  obtain ⟨k4_c, k4_f, k4_l, k4_m, k4_n⟩ := k4.knows
  go_wp2_with fail
  (with_reducible refine (rminus_any (addN a (pN base)) b (lt_RR k) _).mono ?_)
  rintro e w3 ⟨rfl, h3⟩
  clear k3_c k3_f k3_m k3_n k4_c k4_f k4_m k4_n
  have o5 : w.heap.size + 1 + 1 + 1 < w2.heap.size := by first | exact k4_l | omega
  replace k4 := ((k4.alloc _).after h3)
  have bwsz := Below.size bw
  replace bw := below_call h3 (w := w) (by first | exact (Below.alloc bw (Below.size bw) _) | go_grown)
  clear h3 bwsz k3_l k4_l
  clear k3
  obtain ⟨k4_c, k4_f, k4_l, k4_m, k4_n⟩ := k4.knows
  go_wp2
  obtain ⟨rk4_c, rk4_f, rk4_l, -⟩ := ((((((k4.set_ 0 (.int .u64 (lb (subN (addN a (pN base)) b) 0))).set_ 1 (.int .u64 (lb (subN (addN a (pN base)) b) 1))).set_ 2 (.int .u64 (lb (subN (addN a (pN base)) b) 2))).set_ 3 (.int .u64 (lb (subN (addN a (pN base)) b) 3)))).re (cs' := #[.int .u64 (lb (subN (addN a (pN base)) b) 0), .int .u64 (lb (subN (addN a (pN base)) b) 1), .int .u64 (lb (subN (addN a (pN base)) b) 2), .int .u64 (lb (subN (addN a (pN base)) b) 3)]) rfl).knows
  refine bodyPost_ret (v := num (subN (addN a (pN base)) b)) (by simp [results, Try.results39, go_sem, rk4_c, rk4_l]) rfl ?_
  exact ⟨rfl, (by first | exact (Below.setCell (p := ⟨w.heap.size + 1 + 1 + 1, 3, none⟩) (Below.setCell (p := ⟨w.heap.size + 1 + 1 + 1, 2, none⟩) (Below.setCell (p := ⟨w.heap.size + 1 + 1 + 1, 1, none⟩) (Below.setCell (p := ⟨w.heap.size + 1 + 1 + 1, 0, none⟩) bw (by dsimp only; omega) _) (by dsimp only; omega) _) (by dsimp only; omega) _) (by dsimp only; omega) _) | go_grown)⟩
set_option maxRecDepth 20000 in
set_option maxHeartbeats 2000000 in
theorem rfsub_not {base : Bool} (a b : Nat) (h : a < pN base) (k : b < pN base) (hl : ¬ a < b) (w : World) : Calls Try.prog 39 #[rfV base, num a, num b] w fun e w' => e = .returned (num (subN a b)) ∧ Below w.heap.size w w' := by
  go_enter Try.func39, Try.ntmps39
  go_wp2_with fail
  (with_reducible refine (less_any a b (lt_RR h) (lt_RR k) false (decide_eq_false hl) _).mono ?_)
  rintro e w1 ⟨rfl, h1⟩
  have k2 := ((((Blk.newAt (n := w.heap.size + 1) _ _ _ (by first | rfl | simp)).alloc _).alloc _).after h1)
  have k3 := (((Blk.newAt (n := w.heap.size + 1 + 1) _ _ _ (by first | rfl | simp)).alloc _).after h1)
  have k4 := ((Blk.newAt (n := w.heap.size + 1 + 1 + 1) _ _ _ (by first | rfl | simp)).after h1)
  have bw := below_call h1 (w := w) (by first | exact (below_alloc (below_alloc (below_alloc (Below.alloc (Below.refl _ _) (Below.size (Below.refl _ _)) _) _) _) _) | go_grown)
  clear h1
  obtain ⟨k2_c, k2_f, k2_l, k2_m, k2_n⟩ := k2.knows
  obtain ⟨k3_c, k3_f, k3_l, k3_m, k3_n⟩ := k3.knows
  obtain ⟨k4_c, k4_f, k4_l, k4_m, k4_n⟩ := k4.knows
  go_wp2_with fail
  (with_reducible refine (rminus_any a b (lt_RR k) _).mono ?_)
  rintro e w2 ⟨rfl, h2⟩
  clear k2_c k2_f k2_m k2_n k3_c k3_f k3_m k3_n k4_c k4_f k4_m k4_n
  replace k4 := (k4.after h2)
  have bwsz := Below.size bw
  replace bw := below_call h2 (w := w) (by first | exact bw | go_grown)
  clear h2 bwsz k2_l k3_l k4_l
  clear k2 k3
  obtain ⟨k4_c, k4_f, k4_l, k4_m, k4_n⟩ := k4.knows
  go_wp2
  obtain ⟨rk4_c, rk4_f, rk4_l, -⟩ := ((((((k4.set_ 0 (.int .u64 (lb (subN a b) 0))).set_ 1 (.int .u64 (lb (subN a b) 1))).set_ 2 (.int .u64 (lb (subN a b) 2))).set_ 3 (.int .u64 (lb (subN a b) 3)))).re (cs' := #[.int .u64 (lb (subN a b) 0), .int .u64 (lb (subN a b) 1), .int .u64 (lb (subN a b) 2), .int .u64 (lb (subN a b) 3)]) rfl).knows
  refine bodyPost_ret (v := num (subN a b)) (by simp [results, Try.results39, go_sem, rk4_c, rk4_l]) rfl ?_
  exact ⟨rfl, (by first | exact (Below.setCell (p := ⟨w.heap.size + 1 + 1 + 1, 3, none⟩) (Below.setCell (p := ⟨w.heap.size + 1 + 1 + 1, 2, none⟩) (Below.setCell (p := ⟨w.heap.size + 1 + 1 + 1, 1, none⟩) (Below.setCell (p := ⟨w.heap.size + 1 + 1 + 1, 0, none⟩) bw (by dsimp only; omega) _) (by dsimp only; omega) _) (by dsimp only; omega) _) (by dsimp only; omega) _) | go_grown)⟩
theorem rfsub {base : Bool} (a b : Nat) (h : a < pN base) (k : b < pN base) (w : World) : Calls Try.prog 39 #[rfV base, num a, num b] w fun e w' => e = .returned (num (fsbN base a b)) ∧ Below w.heap.size w w' := by
  by_cases hl : a < b
  · rw [← rs_less base a b h k hl]; exact rfsub_less a b h k hl w
  · rw [← rs_not base a b h hl]; exact rfsub_not a b h k hl w
end Go.Proofs.Ytbmokmkaebfneaa
