/- The document's answer for layer 2: a wide number's remainder. -/
import Derived.Test.YtbmokmkaebfneaaRD0
namespace Go.Proofs.Ytbmokmkaebfneaa
set_option linter.unusedVariables false
set_option linter.unusedSimpArgs false
open Go.RowKit

def RedRel (base : Bool) (x : Nat) (w : World) (A Q L H : Nat) (s : Value) (wr : World) : Prop :=
  ∃ i T : Nat, i ≤ 4 ∧ s = .int .i64 (i : Int) ∧ T < tB i ∧ T % pN base = x % pN base ∧ Blk wr A 45 #[.int .u64 (lb (pN base) 0), .int .u64 (lb (pN base) 1), .int .u64 (lb (pN base) 2), .int .u64 (lb (pN base) 3), .int .u64 (lb (cN base) 0), .int .u64 (lb (cN base) 1), .int .u64 (lb (cN base) 2), .int .u64 (lb (cN base) 3)] ∧ Blk wr Q 24 #[.int .u64 0, .int .u64 0, .int .u64 0, .int .u64 0] ∧ Blk wr L 24 #[.int .u64 (lb (T % RR) 0), .int .u64 (lb (T % RR) 1), .int .u64 (lb (T % RR) 2), .int .u64 (lb (T % RR) 3)] ∧ Blk wr H 24 #[.int .u64 (lb (T / RR) 0), .int .u64 (lb (T / RR) 1), .int .u64 (lb (T / RR) 2), .int .u64 (lb (T / RR) 3)] ∧ Below w.heap.size w wr
theorem low_cells (x : Nat) : (#[.int .u64 (lb (x) 0), .int .u64 (lb (x) 1), .int .u64 (lb (x) 2), .int .u64 (lb (x) 3)] : Array Value) = #[.int .u64 (lb (x % RR) 0), .int .u64 (lb (x % RR) 1), .int .u64 (lb (x % RR) 2), .int .u64 (lb (x % RR) 3)] := by rw [lb_mod_RR x (by omega), lb_mod_RR x (by omega), lb_mod_RR x (by omega), lb_mod_RR x (by omega)]
theorem high_cells (x : Nat) : (#[.int .u64 (lb x 4), .int .u64 (lb x 5), .int .u64 (lb x 6), .int .u64 (lb x 7)] : Array Value) = #[.int .u64 (lb (x / RR) 0), .int .u64 (lb (x / RR) 1), .int .u64 (lb (x / RR) 2), .int .u64 (lb (x / RR) 3)] := by rw [lb_high, lb_high, lb_high, lb_high]
theorem red_start (x : Nat) (hx : x < 18446744073709551616 ^ 8) : x < tB 0 := by rw [show 18446744073709551616 ^ 8 = tB 0 from by unfold tB RR; rfl] at hx; exact hx
set_option maxRecDepth 20000 in
set_option maxHeartbeats 16000000 in
theorem rreduce {base : Bool} (x : Nat) (hx : x < 18446744073709551616 ^ 8) (w : World) : Calls Try.prog 36 #[rfV base, wide x] w fun e w' => e = .returned (num (frdN base x)) ∧ Below w.heap.size w w' := by
  go_enter Try.func36, Try.ntmps36
  go_wp2
  go_loopw [7] (fun s wr => RedRel base x w w.heap.size (w.heap.size + 1 + 1) (w.heap.size + 1 + 1 + 1) (w.heap.size + 1 + 1 + 1 + 1) s wr) (fun s _ => 4 - (intOf s).toNat)
  case atStart => exact ⟨0, x, by omega, rfl, red_start x hx, rfl, (((((Blk.newAt (n := w.heap.size) _ _ _ (by first | rfl | simp)).alloc _).alloc _).alloc _).alloc _), (((Blk.newAt (n := w.heap.size + 1 + 1) _ _ _ (by first | rfl | simp)).alloc _).alloc _), Blk.re (((Blk.newAt (n := w.heap.size + 1 + 1 + 1) _ _ _ (by first | rfl | simp)).alloc _)) (low_cells x), Blk.re ((Blk.newAt (n := w.heap.size + 1 + 1 + 1 + 1) _ _ _ (by first | rfl | simp))) (high_cells x), by go_grown⟩
  case round =>
    unfold RedRel at hrel
    obtain ⟨i, T, hi, rfl, hT, hm, k1, k3, k4, k5, bw⟩ := hrel
    have hT2 := Nat.lt_of_lt_of_le hT (tB_le i)
    have hh := high_lt T hT2
    have hl := low_lt T
    have hd8 : decide ((i : Int) < 8) = true := decide_eq_true (by omega)
    have hp8 : (i : Int) < 8 := by omega
    by_cases h0 : T / RR = 0
    · have e5 := k5; rw [h0] at e5; simp only [lb_zero] at e5; clear k5; have k5 := e5; clear e5
      by_cases hin : T % RR < pN base
      · have hres := Lib.hid (rd_in base T x hm h0 hin)
        clear hT hT2 hh hi hm h0
        obtain ⟨k1_c, k1_f, k1_l, k1_m, k1_n⟩ := k1.knows
        obtain ⟨k3_c, k3_f, k3_l, k3_m, k3_n⟩ := k3.knows
        obtain ⟨k4_c, k4_f, k4_l, k4_m, k4_n⟩ := k4.knows
        obtain ⟨k5_c, k5_f, k5_l, k5_m, k5_n⟩ := k5.knows
        go_wp2
        refine wp_loop_rounds 4 ?_
        rw [rounds_succ]
        go_wp2_with fail
        (with_reducible refine (less_any (T % RR) (pN base) hl (pN_lt base) true (decide_eq_true hin) _).mono ?_)
        rintro e w1 ⟨rfl, h1⟩
        clear k1_c k1_f k1_m k1_n k3_c k3_f k3_m k3_n k4_c k4_f k4_m k4_n k5_c k5_f k5_m k5_n
        replace k1 := (k1.after h1)
        replace k3 := (k3.after h1)
        replace k4 := (k4.after h1)
        replace k5 := (k5.after h1)
        have bwsz := Below.size bw
        replace bw := below_call h1 (w := w) (by first | exact bw | go_grown)
        clear h1 bwsz k1_l k3_l k4_l k5_l
        obtain ⟨k1_c, k1_f, k1_l, k1_m, k1_n⟩ := k1.knows
        obtain ⟨k3_c, k3_f, k3_l, k3_m, k3_n⟩ := k3.knows
        obtain ⟨k4_c, k4_f, k4_l, k4_m, k4_n⟩ := k4.knows
        obtain ⟨k5_c, k5_f, k5_l, k5_m, k5_n⟩ := k5.knows
        go_wp2
        obtain ⟨rk3_c, rk3_f, rk3_l, -⟩ := ((((((k3.set_ 0 (.int .u64 (lb (T % RR) 0))).set_ 1 (.int .u64 (lb (T % RR) 1))).set_ 2 (.int .u64 (lb (T % RR) 2))).set_ 3 (.int .u64 (lb (T % RR) 3)))).re (cs' := #[.int .u64 (lb (T % RR) 0), .int .u64 (lb (T % RR) 1), .int .u64 (lb (T % RR) 2), .int .u64 (lb (T % RR) 3)]) rfl).knows
        refine bodyPost_ret (v := num (T % RR)) (by simp [results, Try.results36, go_sem, rk3_c, rk3_l]) rfl ?_
        rw [hres.out]
        exact ⟨rfl, (by first | exact (Below.setCell (p := ⟨w.heap.size + 1 + 1, 3, none⟩) (Below.setCell (p := ⟨w.heap.size + 1 + 1, 2, none⟩) (Below.setCell (p := ⟨w.heap.size + 1 + 1, 1, none⟩) (Below.setCell (p := ⟨w.heap.size + 1 + 1, 0, none⟩) bw (by dsimp only; omega) _) (by dsimp only; omega) _) (by dsimp only; omega) _) (by dsimp only; omega) _) | go_grown)⟩
      · have hlt := (rd_out base T x hm h0 hin).2; have hres := Lib.hid (rd_out base T x hm h0 hin).1
        clear hT hT2 hh hi hm h0
        obtain ⟨k1_c, k1_f, k1_l, k1_m, k1_n⟩ := k1.knows
        obtain ⟨k3_c, k3_f, k3_l, k3_m, k3_n⟩ := k3.knows
        obtain ⟨k4_c, k4_f, k4_l, k4_m, k4_n⟩ := k4.knows
        obtain ⟨k5_c, k5_f, k5_l, k5_m, k5_n⟩ := k5.knows
        go_wp2
        refine wp_loop_rounds 4 ?_
        rw [rounds_succ]
        go_wp2_with fail
        (with_reducible refine (less_any (T % RR) (pN base) hl (pN_lt base) false (decide_eq_false hin) _).mono ?_)
        rintro e w2 ⟨rfl, h2⟩
        clear k1_c k1_f k1_m k1_n k3_c k3_f k3_m k3_n k4_c k4_f k4_m k4_n k5_c k5_f k5_m k5_n
        replace k1 := (k1.after h2)
        replace k3 := (k3.after h2)
        replace k4 := (k4.after h2)
        replace k5 := (k5.after h2)
        have bwsz := Below.size bw
        replace bw := below_call h2 (w := w) (by first | exact bw | go_grown)
        clear h2 bwsz k1_l k3_l k4_l k5_l
        obtain ⟨k1_c, k1_f, k1_l, k1_m, k1_n⟩ := k1.knows
        obtain ⟨k3_c, k3_f, k3_l, k3_m, k3_n⟩ := k3.knows
        obtain ⟨k4_c, k4_f, k4_l, k4_m, k4_n⟩ := k4.knows
        obtain ⟨k5_c, k5_f, k5_l, k5_m, k5_n⟩ := k5.knows
        go_wp2_with fail
        (with_reducible refine (rminus_any (T % RR) (pN base) (pN_lt base) _).mono ?_)
        rintro e w3 ⟨rfl, h3⟩
        clear k1_c k1_f k1_m k1_n k3_c k3_f k3_m k3_n k4_c k4_f k4_m k4_n k5_c k5_f k5_m k5_n
        replace k1 := (k1.after h3)
        replace k3 := (k3.after h3)
        replace k4 := (k4.after h3)
        replace k5 := (k5.after h3)
        have bwsz := Below.size bw
        replace bw := below_call h3 (w := w) (by first | exact bw | go_grown)
        clear h3 bwsz k1_l k3_l k4_l k5_l
        obtain ⟨k1_c, k1_f, k1_l, k1_m, k1_n⟩ := k1.knows
        obtain ⟨k3_c, k3_f, k3_l, k3_m, k3_n⟩ := k3.knows
        obtain ⟨k4_c, k4_f, k4_l, k4_m, k4_n⟩ := k4.knows
        obtain ⟨k5_c, k5_f, k5_l, k5_m, k5_n⟩ := k5.knows
        go_wp2
        rw [rounds_succ]
        go_wp2_with fail
        (with_reducible refine (less_any (subN (T % RR) (pN base)) (pN base) (subN_lt _ _) (pN_lt base) true (decide_eq_true hlt) _).mono ?_)
        rintro e w4 ⟨rfl, h4⟩
        clear k1_c k1_f k1_m k1_n k3_c k3_f k3_m k3_n k4_c k4_f k4_m k4_n k5_c k5_f k5_m k5_n
        replace k1 := (((((k1.far (by dsimp only; omega) _).far (by dsimp only; omega) _).far (by dsimp only; omega) _).far (by dsimp only; omega) _).after h4)
        replace k3 := (((((k3.far (by dsimp only; omega) _).far (by dsimp only; omega) _).far (by dsimp only; omega) _).far (by dsimp only; omega) _).after h4)
        replace k4 : Blk w4 (w.heap.size + 1 + 1 + 1) 24 #[.int .u64 (lb (subN (T % RR) (pN base)) 0), .int .u64 (lb (subN (T % RR) (pN base)) 1), .int .u64 (lb (subN (T % RR) (pN base)) 2), .int .u64 (lb (subN (T % RR) (pN base)) 3)] := (((((k4.set_ 0 (.int .u64 (lb (subN (T % RR) (pN base)) 0))).set_ 1 (.int .u64 (lb (subN (T % RR) (pN base)) 1))).set_ 2 (.int .u64 (lb (subN (T % RR) (pN base)) 2))).set_ 3 (.int .u64 (lb (subN (T % RR) (pN base)) 3))).after h4)
        replace k5 := (((((k5.far (by dsimp only; omega) _).far (by dsimp only; omega) _).far (by dsimp only; omega) _).far (by dsimp only; omega) _).after h4)
        have bwsz := Below.size bw
        replace bw := below_call h4 (w := w) (by first | exact (Below.setCell (p := ⟨w.heap.size + 1 + 1 + 1, 3, none⟩) (Below.setCell (p := ⟨w.heap.size + 1 + 1 + 1, 2, none⟩) (Below.setCell (p := ⟨w.heap.size + 1 + 1 + 1, 1, none⟩) (Below.setCell (p := ⟨w.heap.size + 1 + 1 + 1, 0, none⟩) bw (by dsimp only; omega) _) (by dsimp only; omega) _) (by dsimp only; omega) _) (by dsimp only; omega) _) | go_grown)
        clear h4 bwsz k1_l k3_l k4_l k5_l
        obtain ⟨k1_c, k1_f, k1_l, k1_m, k1_n⟩ := k1.knows
        obtain ⟨k3_c, k3_f, k3_l, k3_m, k3_n⟩ := k3.knows
        obtain ⟨k4_c, k4_f, k4_l, k4_m, k4_n⟩ := k4.knows
        obtain ⟨k5_c, k5_f, k5_l, k5_m, k5_n⟩ := k5.knows
        go_wp2
        obtain ⟨rk3_c, rk3_f, rk3_l, -⟩ := ((((((k3.set_ 0 (.int .u64 (lb (subN (T % RR) (pN base)) 0))).set_ 1 (.int .u64 (lb (subN (T % RR) (pN base)) 1))).set_ 2 (.int .u64 (lb (subN (T % RR) (pN base)) 2))).set_ 3 (.int .u64 (lb (subN (T % RR) (pN base)) 3)))).re (cs' := #[.int .u64 (lb (subN (T % RR) (pN base)) 0), .int .u64 (lb (subN (T % RR) (pN base)) 1), .int .u64 (lb (subN (T % RR) (pN base)) 2), .int .u64 (lb (subN (T % RR) (pN base)) 3)]) rfl).knows
        refine bodyPost_ret (v := num (subN (T % RR) (pN base))) (by simp [results, Try.results36, go_sem, rk3_c, rk3_l]) rfl ?_
        rw [hres.out]
        exact ⟨rfl, (by first | exact (Below.setCell (p := ⟨w.heap.size + 1 + 1, 3, none⟩) (Below.setCell (p := ⟨w.heap.size + 1 + 1, 2, none⟩) (Below.setCell (p := ⟨w.heap.size + 1 + 1, 1, none⟩) (Below.setCell (p := ⟨w.heap.size + 1 + 1, 0, none⟩) bw (by dsimp only; omega) _) (by dsimp only; omega) _) (by dsimp only; omega) _) (by dsimp only; omega) _) | go_grown)⟩
    · have hb := rd_bound base T i (by (rcases Nat.lt_or_ge i 4 with h | h; exact h; exact absurd (rd_end T (by rwa [show i = 4 by omega] at hT)) h0)) hT h0
      have hb2 := high_lt _ (Nat.lt_of_lt_of_le hb (tB_le (i + 1)))
      have hm2 := Lib.hid ((rd_mod base T).trans hm)
      have hi4 : i < 4 := by (rcases Nat.lt_or_ge i 4 with h | h; exact h; exact absurd (rd_end T (by rwa [show i = 4 by omega] at hT)) h0)
      rcases first_word _ hh h0 with q0 | ⟨q0, q1⟩ | ⟨q0, q1, q2⟩ | ⟨q0, q1, q2, q3⟩
      · by_cases ho : RR ≤ T % RR + mulN (cN base) (T / RR) % RR
        · clear hT hT2 hm hi
          obtain ⟨k1_c, k1_f, k1_l, k1_m, k1_n⟩ := k1.knows
          obtain ⟨k3_c, k3_f, k3_l, k3_m, k3_n⟩ := k3.knows
          obtain ⟨k4_c, k4_f, k4_l, k4_m, k4_n⟩ := k4.knows
          obtain ⟨k5_c, k5_f, k5_l, k5_m, k5_n⟩ := k5.knows
          go_wp2_with fail
          (with_reducible refine (times_c base T hh _).mono ?_)
          rintro e w5 ⟨rfl, h5⟩
          clear k1_c k1_f k1_m k1_n k3_c k3_f k3_m k3_n k4_c k4_f k4_m k4_n k5_c k5_f k5_m k5_n
          replace k1 := (k1.after h5)
          replace k3 := (k3.after h5)
          replace k4 := (k4.after h5)
          replace k5 := (k5.after h5)
          have bwsz := Below.size bw
          replace bw := below_call h5 (w := w) (by first | exact bw | go_grown)
          clear h5 bwsz k1_l k3_l k4_l k5_l
          obtain ⟨k1_c, k1_f, k1_l, k1_m, k1_n⟩ := k1.knows
          obtain ⟨k3_c, k3_f, k3_l, k3_m, k3_n⟩ := k3.knows
          obtain ⟨k4_c, k4_f, k4_l, k4_m, k4_n⟩ := k4.knows
          obtain ⟨k5_c, k5_f, k5_l, k5_m, k5_n⟩ := k5.knows
          go_wp2_with fail
          (with_reducible refine (rplus_rd base T true (decide_eq_true ho) _).mono ?_)
          rintro e w6 ⟨rfl, h6⟩
          clear k1_c k1_f k1_m k1_n k3_c k3_f k3_m k3_n k4_c k4_f k4_m k4_n k5_c k5_f k5_m k5_n
          have o6 : w.heap.size + 1 + 1 + 1 + 1 < w5.heap.size := by first | exact k5_l | omega
          replace k1 := ((k1.alloc _).after h6)
          replace k3 := ((k3.alloc _).after h6)
          replace k4 := ((k4.alloc _).after h6)
          replace k5 := ((k5.alloc _).after h6)
          have k6 := ((Blk.newAt (n := w5.heap.size) _ _ _ (by first | rfl | simp)).after h6)
          have bwsz := Below.size bw
          replace bw := below_call h6 (w := w) (by first | exact (Below.alloc bw (Below.size bw) _) | go_grown)
          clear h6 bwsz k1_l k3_l k4_l k5_l
          obtain ⟨k1_c, k1_f, k1_l, k1_m, k1_n⟩ := k1.knows
          obtain ⟨k3_c, k3_f, k3_l, k3_m, k3_n⟩ := k3.knows
          obtain ⟨k4_c, k4_f, k4_l, k4_m, k4_n⟩ := k4.knows
          obtain ⟨k5_c, k5_f, k5_l, k5_m, k5_n⟩ := k5.knows
          obtain ⟨k6_c, k6_f, k6_l, k6_m, k6_n⟩ := k6.knows
          go_wp2_with fail
          (with_reducible refine (rplus_hi base T ho hb2 _).mono ?_)
          rintro e w7 ⟨rfl, h7⟩
          clear k1_c k1_f k1_m k1_n k3_c k3_f k3_m k3_n k4_c k4_f k4_m k4_n k5_c k5_f k5_m k5_n k6_c k6_f k6_m k6_n
          have o7 : w5.heap.size < w6.heap.size := by first | exact k6_l | omega
          replace k1 := ((((((((((k1.far (by dsimp only; omega) _).far (by dsimp only; omega) _).far (by dsimp only; omega) _).far (by dsimp only; omega) _).far (by dsimp only; omega) _).far (by dsimp only; omega) _).far (by dsimp only; omega) _).far (by dsimp only; omega) _).alloc _).after h7)
          replace k3 := ((((((((((k3.far (by dsimp only; omega) _).far (by dsimp only; omega) _).far (by dsimp only; omega) _).far (by dsimp only; omega) _).far (by dsimp only; omega) _).far (by dsimp only; omega) _).far (by dsimp only; omega) _).far (by dsimp only; omega) _).alloc _).after h7)
          replace k4 : Blk w7 (w.heap.size + 1 + 1 + 1) 24 #[.int .u64 (lb (rdN base T % RR) 0), .int .u64 (lb (rdN base T % RR) 1), .int .u64 (lb (rdN base T % RR) 2), .int .u64 (lb (rdN base T % RR) 3)] := ((((((((((k4.set_ 0 (.int .u64 (lb (rdN base T % RR) 0))).set_ 1 (.int .u64 (lb (rdN base T % RR) 1))).set_ 2 (.int .u64 (lb (rdN base T % RR) 2))).set_ 3 (.int .u64 (lb (rdN base T % RR) 3))).far (by dsimp only; omega) _).far (by dsimp only; omega) _).far (by dsimp only; omega) _).far (by dsimp only; omega) _).alloc _).after h7)
          replace k5 : Blk w7 (w.heap.size + 1 + 1 + 1 + 1) 24 #[.int .u64 (lb (mulN (cN base) (T / RR) / RR) 0), .int .u64 (lb (mulN (cN base) (T / RR) / RR) 1), .int .u64 (lb (mulN (cN base) (T / RR) / RR) 2), .int .u64 (lb (mulN (cN base) (T / RR) / RR) 3)] := ((((((((((k5.far (by dsimp only; omega) _).far (by dsimp only; omega) _).far (by dsimp only; omega) _).far (by dsimp only; omega) _).set_ 0 (.int .u64 (lb (mulN (cN base) (T / RR) / RR) 0))).set_ 1 (.int .u64 (lb (mulN (cN base) (T / RR) / RR) 1))).set_ 2 (.int .u64 (lb (mulN (cN base) (T / RR) / RR) 2))).set_ 3 (.int .u64 (lb (mulN (cN base) (T / RR) / RR) 3))).alloc _).after h7)
          have bwsz := Below.size bw
          replace bw := below_call h7 (w := w) (by first | exact (below_alloc (Below.setCell (p := ⟨w.heap.size + 1 + 1 + 1 + 1, 3, none⟩) (Below.setCell (p := ⟨w.heap.size + 1 + 1 + 1 + 1, 2, none⟩) (Below.setCell (p := ⟨w.heap.size + 1 + 1 + 1 + 1, 1, none⟩) (Below.setCell (p := ⟨w.heap.size + 1 + 1 + 1 + 1, 0, none⟩) (Below.setCell (p := ⟨w.heap.size + 1 + 1 + 1, 3, none⟩) (Below.setCell (p := ⟨w.heap.size + 1 + 1 + 1, 2, none⟩) (Below.setCell (p := ⟨w.heap.size + 1 + 1 + 1, 1, none⟩) (Below.setCell (p := ⟨w.heap.size + 1 + 1 + 1, 0, none⟩) bw (by dsimp only; omega) _) (by dsimp only; omega) _) (by dsimp only; omega) _) (by dsimp only; omega) _) (by dsimp only; omega) _) (by dsimp only; omega) _) (by dsimp only; omega) _) (by dsimp only; omega) _) _) | go_grown)
          clear h7 bwsz k1_l k3_l k4_l k5_l k6_l
          clear k6
          obtain ⟨k1_c, k1_f, k1_l, k1_m, k1_n⟩ := k1.knows
          obtain ⟨k3_c, k3_f, k3_l, k3_m, k3_n⟩ := k3.knows
          obtain ⟨k4_c, k4_f, k4_l, k4_m, k4_n⟩ := k4.knows
          obtain ⟨k5_c, k5_f, k5_l, k5_m, k5_n⟩ := k5.knows
          go_wp2
          exact ⟨⟨i + 1, rdN base T, by omega, by go_num, hb, hm2.out, (((((k1.far (by dsimp only; omega) _).far (by dsimp only; omega) _).far (by dsimp only; omega) _).far (by dsimp only; omega) _).alloc _), (((((k3.far (by dsimp only; omega) _).far (by dsimp only; omega) _).far (by dsimp only; omega) _).far (by dsimp only; omega) _).alloc _), (((((k4.far (by dsimp only; omega) _).far (by dsimp only; omega) _).far (by dsimp only; omega) _).far (by dsimp only; omega) _).alloc _), (((((k5.set_ 0 (.int .u64 (lb (rdN base T / RR) 0))).set_ 1 (.int .u64 (lb (rdN base T / RR) 1))).set_ 2 (.int .u64 (lb (rdN base T / RR) 2))).set_ 3 (.int .u64 (lb (rdN base T / RR) 3))).alloc _), by first | exact (below_alloc (Below.setCell (p := ⟨w.heap.size + 1 + 1 + 1 + 1, 3, none⟩) (Below.setCell (p := ⟨w.heap.size + 1 + 1 + 1 + 1, 2, none⟩) (Below.setCell (p := ⟨w.heap.size + 1 + 1 + 1 + 1, 1, none⟩) (Below.setCell (p := ⟨w.heap.size + 1 + 1 + 1 + 1, 0, none⟩) bw (by dsimp only; omega) _) (by dsimp only; omega) _) (by dsimp only; omega) _) (by dsimp only; omega) _) _) | go_grown⟩, by simp [intOf]; omega⟩
        · clear hT hT2 hm hi
          obtain ⟨k1_c, k1_f, k1_l, k1_m, k1_n⟩ := k1.knows
          obtain ⟨k3_c, k3_f, k3_l, k3_m, k3_n⟩ := k3.knows
          obtain ⟨k4_c, k4_f, k4_l, k4_m, k4_n⟩ := k4.knows
          obtain ⟨k5_c, k5_f, k5_l, k5_m, k5_n⟩ := k5.knows
          go_wp2_with fail
          (with_reducible refine (times_c base T hh _).mono ?_)
          rintro e w8 ⟨rfl, h8⟩
          clear k1_c k1_f k1_m k1_n k3_c k3_f k3_m k3_n k4_c k4_f k4_m k4_n k5_c k5_f k5_m k5_n
          replace k1 := (k1.after h8)
          replace k3 := (k3.after h8)
          replace k4 := (k4.after h8)
          replace k5 := (k5.after h8)
          have bwsz := Below.size bw
          replace bw := below_call h8 (w := w) (by first | exact bw | go_grown)
          clear h8 bwsz k1_l k3_l k4_l k5_l
          obtain ⟨k1_c, k1_f, k1_l, k1_m, k1_n⟩ := k1.knows
          obtain ⟨k3_c, k3_f, k3_l, k3_m, k3_n⟩ := k3.knows
          obtain ⟨k4_c, k4_f, k4_l, k4_m, k4_n⟩ := k4.knows
          obtain ⟨k5_c, k5_f, k5_l, k5_m, k5_n⟩ := k5.knows
          go_wp2_with fail
          (with_reducible refine (rplus_rd base T false (decide_eq_false ho) _).mono ?_)
          rintro e w9 ⟨rfl, h9⟩
          clear k1_c k1_f k1_m k1_n k3_c k3_f k3_m k3_n k4_c k4_f k4_m k4_n k5_c k5_f k5_m k5_n
          have o9 : w.heap.size + 1 + 1 + 1 + 1 < w8.heap.size := by first | exact k5_l | omega
          replace k1 := ((k1.alloc _).after h9)
          replace k3 := ((k3.alloc _).after h9)
          replace k4 := ((k4.alloc _).after h9)
          replace k5 := ((k5.alloc _).after h9)
          have k9 := ((Blk.newAt (n := w8.heap.size) _ _ _ (by first | rfl | simp)).after h9)
          have bwsz := Below.size bw
          replace bw := below_call h9 (w := w) (by first | exact (Below.alloc bw (Below.size bw) _) | go_grown)
          clear h9 bwsz k1_l k3_l k4_l k5_l
          obtain ⟨k1_c, k1_f, k1_l, k1_m, k1_n⟩ := k1.knows
          obtain ⟨k3_c, k3_f, k3_l, k3_m, k3_n⟩ := k3.knows
          obtain ⟨k4_c, k4_f, k4_l, k4_m, k4_n⟩ := k4.knows
          obtain ⟨k5_c, k5_f, k5_l, k5_m, k5_n⟩ := k5.knows
          obtain ⟨k9_c, k9_f, k9_l, k9_m, k9_n⟩ := k9.knows
          go_wp2
          exact ⟨⟨i + 1, rdN base T, by omega, by go_num, hb, hm2.out, (((((((((k1.far (by dsimp only; omega) _).far (by dsimp only; omega) _).far (by dsimp only; omega) _).far (by dsimp only; omega) _).far (by dsimp only; omega) _).far (by dsimp only; omega) _).far (by dsimp only; omega) _).far (by dsimp only; omega) _).alloc _), (((((((((k3.far (by dsimp only; omega) _).far (by dsimp only; omega) _).far (by dsimp only; omega) _).far (by dsimp only; omega) _).far (by dsimp only; omega) _).far (by dsimp only; omega) _).far (by dsimp only; omega) _).far (by dsimp only; omega) _).alloc _), (((((((((k4.set_ 0 (.int .u64 (lb (rdN base T % RR) 0))).set_ 1 (.int .u64 (lb (rdN base T % RR) 1))).set_ 2 (.int .u64 (lb (rdN base T % RR) 2))).set_ 3 (.int .u64 (lb (rdN base T % RR) 3))).far (by dsimp only; omega) _).far (by dsimp only; omega) _).far (by dsimp only; omega) _).far (by dsimp only; omega) _).alloc _), Blk.re (cs := #[.int .u64 (lb (mulN (cN base) (T / RR) / RR) 0), .int .u64 (lb (mulN (cN base) (T / RR) / RR) 1), .int .u64 (lb (mulN (cN base) (T / RR) / RR) 2), .int .u64 (lb (mulN (cN base) (T / RR) / RR) 3)]) ((((((((((k5.far (by dsimp only; omega) _).far (by dsimp only; omega) _).far (by dsimp only; omega) _).far (by dsimp only; omega) _).set_ 0 (.int .u64 (lb (mulN (cN base) (T / RR) / RR) 0))).set_ 1 (.int .u64 (lb (mulN (cN base) (T / RR) / RR) 1))).set_ 2 (.int .u64 (lb (mulN (cN base) (T / RR) / RR) 2))).set_ 3 (.int .u64 (lb (mulN (cN base) (T / RR) / RR) 3))).alloc _)) (by rw [hi_in base T ho]), by first | exact (below_alloc (Below.setCell (p := ⟨w.heap.size + 1 + 1 + 1 + 1, 3, none⟩) (Below.setCell (p := ⟨w.heap.size + 1 + 1 + 1 + 1, 2, none⟩) (Below.setCell (p := ⟨w.heap.size + 1 + 1 + 1 + 1, 1, none⟩) (Below.setCell (p := ⟨w.heap.size + 1 + 1 + 1 + 1, 0, none⟩) (Below.setCell (p := ⟨w.heap.size + 1 + 1 + 1, 3, none⟩) (Below.setCell (p := ⟨w.heap.size + 1 + 1 + 1, 2, none⟩) (Below.setCell (p := ⟨w.heap.size + 1 + 1 + 1, 1, none⟩) (Below.setCell (p := ⟨w.heap.size + 1 + 1 + 1, 0, none⟩) bw (by dsimp only; omega) _) (by dsimp only; omega) _) (by dsimp only; omega) _) (by dsimp only; omega) _) (by dsimp only; omega) _) (by dsimp only; omega) _) (by dsimp only; omega) _) (by dsimp only; omega) _) _) | go_grown⟩, by simp [intOf]; omega⟩
      · by_cases ho : RR ≤ T % RR + mulN (cN base) (T / RR) % RR
        · clear hT hT2 hm hi
          obtain ⟨k1_c, k1_f, k1_l, k1_m, k1_n⟩ := k1.knows
          obtain ⟨k3_c, k3_f, k3_l, k3_m, k3_n⟩ := k3.knows
          obtain ⟨k4_c, k4_f, k4_l, k4_m, k4_n⟩ := k4.knows
          obtain ⟨k5_c, k5_f, k5_l, k5_m, k5_n⟩ := k5.knows
          go_wp2_with fail
          (with_reducible refine (times_c base T hh _).mono ?_)
          rintro e w10 ⟨rfl, h10⟩
          clear k1_c k1_f k1_m k1_n k3_c k3_f k3_m k3_n k4_c k4_f k4_m k4_n k5_c k5_f k5_m k5_n
          replace k1 := (k1.after h10)
          replace k3 := (k3.after h10)
          replace k4 := (k4.after h10)
          replace k5 := (k5.after h10)
          have bwsz := Below.size bw
          replace bw := below_call h10 (w := w) (by first | exact bw | go_grown)
          clear h10 bwsz k1_l k3_l k4_l k5_l
          obtain ⟨k1_c, k1_f, k1_l, k1_m, k1_n⟩ := k1.knows
          obtain ⟨k3_c, k3_f, k3_l, k3_m, k3_n⟩ := k3.knows
          obtain ⟨k4_c, k4_f, k4_l, k4_m, k4_n⟩ := k4.knows
          obtain ⟨k5_c, k5_f, k5_l, k5_m, k5_n⟩ := k5.knows
          go_wp2_with fail
          (with_reducible refine (rplus_rd base T true (decide_eq_true ho) _).mono ?_)
          rintro e w11 ⟨rfl, h11⟩
          clear k1_c k1_f k1_m k1_n k3_c k3_f k3_m k3_n k4_c k4_f k4_m k4_n k5_c k5_f k5_m k5_n
          have o11 : w.heap.size + 1 + 1 + 1 + 1 < w10.heap.size := by first | exact k5_l | omega
          replace k1 := ((k1.alloc _).after h11)
          replace k3 := ((k3.alloc _).after h11)
          replace k4 := ((k4.alloc _).after h11)
          replace k5 := ((k5.alloc _).after h11)
          have k11 := ((Blk.newAt (n := w10.heap.size) _ _ _ (by first | rfl | simp)).after h11)
          have bwsz := Below.size bw
          replace bw := below_call h11 (w := w) (by first | exact (Below.alloc bw (Below.size bw) _) | go_grown)
          clear h11 bwsz k1_l k3_l k4_l k5_l
          obtain ⟨k1_c, k1_f, k1_l, k1_m, k1_n⟩ := k1.knows
          obtain ⟨k3_c, k3_f, k3_l, k3_m, k3_n⟩ := k3.knows
          obtain ⟨k4_c, k4_f, k4_l, k4_m, k4_n⟩ := k4.knows
          obtain ⟨k5_c, k5_f, k5_l, k5_m, k5_n⟩ := k5.knows
          obtain ⟨k11_c, k11_f, k11_l, k11_m, k11_n⟩ := k11.knows
          go_wp2_with fail
          (with_reducible refine (rplus_hi base T ho hb2 _).mono ?_)
          rintro e w12 ⟨rfl, h12⟩
          clear k1_c k1_f k1_m k1_n k3_c k3_f k3_m k3_n k4_c k4_f k4_m k4_n k5_c k5_f k5_m k5_n k11_c k11_f k11_m k11_n
          have o12 : w10.heap.size < w11.heap.size := by first | exact k11_l | omega
          replace k1 := ((((((((((k1.far (by dsimp only; omega) _).far (by dsimp only; omega) _).far (by dsimp only; omega) _).far (by dsimp only; omega) _).far (by dsimp only; omega) _).far (by dsimp only; omega) _).far (by dsimp only; omega) _).far (by dsimp only; omega) _).alloc _).after h12)
          replace k3 := ((((((((((k3.far (by dsimp only; omega) _).far (by dsimp only; omega) _).far (by dsimp only; omega) _).far (by dsimp only; omega) _).far (by dsimp only; omega) _).far (by dsimp only; omega) _).far (by dsimp only; omega) _).far (by dsimp only; omega) _).alloc _).after h12)
          replace k4 : Blk w12 (w.heap.size + 1 + 1 + 1) 24 #[.int .u64 (lb (rdN base T % RR) 0), .int .u64 (lb (rdN base T % RR) 1), .int .u64 (lb (rdN base T % RR) 2), .int .u64 (lb (rdN base T % RR) 3)] := ((((((((((k4.set_ 0 (.int .u64 (lb (rdN base T % RR) 0))).set_ 1 (.int .u64 (lb (rdN base T % RR) 1))).set_ 2 (.int .u64 (lb (rdN base T % RR) 2))).set_ 3 (.int .u64 (lb (rdN base T % RR) 3))).far (by dsimp only; omega) _).far (by dsimp only; omega) _).far (by dsimp only; omega) _).far (by dsimp only; omega) _).alloc _).after h12)
          replace k5 : Blk w12 (w.heap.size + 1 + 1 + 1 + 1) 24 #[.int .u64 (lb (mulN (cN base) (T / RR) / RR) 0), .int .u64 (lb (mulN (cN base) (T / RR) / RR) 1), .int .u64 (lb (mulN (cN base) (T / RR) / RR) 2), .int .u64 (lb (mulN (cN base) (T / RR) / RR) 3)] := ((((((((((k5.far (by dsimp only; omega) _).far (by dsimp only; omega) _).far (by dsimp only; omega) _).far (by dsimp only; omega) _).set_ 0 (.int .u64 (lb (mulN (cN base) (T / RR) / RR) 0))).set_ 1 (.int .u64 (lb (mulN (cN base) (T / RR) / RR) 1))).set_ 2 (.int .u64 (lb (mulN (cN base) (T / RR) / RR) 2))).set_ 3 (.int .u64 (lb (mulN (cN base) (T / RR) / RR) 3))).alloc _).after h12)
          have bwsz := Below.size bw
          replace bw := below_call h12 (w := w) (by first | exact (below_alloc (Below.setCell (p := ⟨w.heap.size + 1 + 1 + 1 + 1, 3, none⟩) (Below.setCell (p := ⟨w.heap.size + 1 + 1 + 1 + 1, 2, none⟩) (Below.setCell (p := ⟨w.heap.size + 1 + 1 + 1 + 1, 1, none⟩) (Below.setCell (p := ⟨w.heap.size + 1 + 1 + 1 + 1, 0, none⟩) (Below.setCell (p := ⟨w.heap.size + 1 + 1 + 1, 3, none⟩) (Below.setCell (p := ⟨w.heap.size + 1 + 1 + 1, 2, none⟩) (Below.setCell (p := ⟨w.heap.size + 1 + 1 + 1, 1, none⟩) (Below.setCell (p := ⟨w.heap.size + 1 + 1 + 1, 0, none⟩) bw (by dsimp only; omega) _) (by dsimp only; omega) _) (by dsimp only; omega) _) (by dsimp only; omega) _) (by dsimp only; omega) _) (by dsimp only; omega) _) (by dsimp only; omega) _) (by dsimp only; omega) _) _) | go_grown)
          clear h12 bwsz k1_l k3_l k4_l k5_l k11_l
          clear k11
          obtain ⟨k1_c, k1_f, k1_l, k1_m, k1_n⟩ := k1.knows
          obtain ⟨k3_c, k3_f, k3_l, k3_m, k3_n⟩ := k3.knows
          obtain ⟨k4_c, k4_f, k4_l, k4_m, k4_n⟩ := k4.knows
          obtain ⟨k5_c, k5_f, k5_l, k5_m, k5_n⟩ := k5.knows
          go_wp2
          exact ⟨⟨i + 1, rdN base T, by omega, by go_num, hb, hm2.out, (((((k1.far (by dsimp only; omega) _).far (by dsimp only; omega) _).far (by dsimp only; omega) _).far (by dsimp only; omega) _).alloc _), (((((k3.far (by dsimp only; omega) _).far (by dsimp only; omega) _).far (by dsimp only; omega) _).far (by dsimp only; omega) _).alloc _), (((((k4.far (by dsimp only; omega) _).far (by dsimp only; omega) _).far (by dsimp only; omega) _).far (by dsimp only; omega) _).alloc _), (((((k5.set_ 0 (.int .u64 (lb (rdN base T / RR) 0))).set_ 1 (.int .u64 (lb (rdN base T / RR) 1))).set_ 2 (.int .u64 (lb (rdN base T / RR) 2))).set_ 3 (.int .u64 (lb (rdN base T / RR) 3))).alloc _), by first | exact (below_alloc (Below.setCell (p := ⟨w.heap.size + 1 + 1 + 1 + 1, 3, none⟩) (Below.setCell (p := ⟨w.heap.size + 1 + 1 + 1 + 1, 2, none⟩) (Below.setCell (p := ⟨w.heap.size + 1 + 1 + 1 + 1, 1, none⟩) (Below.setCell (p := ⟨w.heap.size + 1 + 1 + 1 + 1, 0, none⟩) bw (by dsimp only; omega) _) (by dsimp only; omega) _) (by dsimp only; omega) _) (by dsimp only; omega) _) _) | go_grown⟩, by simp [intOf]; omega⟩
        · clear hT hT2 hm hi
          obtain ⟨k1_c, k1_f, k1_l, k1_m, k1_n⟩ := k1.knows
          obtain ⟨k3_c, k3_f, k3_l, k3_m, k3_n⟩ := k3.knows
          obtain ⟨k4_c, k4_f, k4_l, k4_m, k4_n⟩ := k4.knows
          obtain ⟨k5_c, k5_f, k5_l, k5_m, k5_n⟩ := k5.knows
          go_wp2_with fail
          (with_reducible refine (times_c base T hh _).mono ?_)
          rintro e w13 ⟨rfl, h13⟩
          clear k1_c k1_f k1_m k1_n k3_c k3_f k3_m k3_n k4_c k4_f k4_m k4_n k5_c k5_f k5_m k5_n
          replace k1 := (k1.after h13)
          replace k3 := (k3.after h13)
          replace k4 := (k4.after h13)
          replace k5 := (k5.after h13)
          have bwsz := Below.size bw
          replace bw := below_call h13 (w := w) (by first | exact bw | go_grown)
          clear h13 bwsz k1_l k3_l k4_l k5_l
          obtain ⟨k1_c, k1_f, k1_l, k1_m, k1_n⟩ := k1.knows
          obtain ⟨k3_c, k3_f, k3_l, k3_m, k3_n⟩ := k3.knows
          obtain ⟨k4_c, k4_f, k4_l, k4_m, k4_n⟩ := k4.knows
          obtain ⟨k5_c, k5_f, k5_l, k5_m, k5_n⟩ := k5.knows
          go_wp2_with fail
          (with_reducible refine (rplus_rd base T false (decide_eq_false ho) _).mono ?_)
          rintro e w14 ⟨rfl, h14⟩
          clear k1_c k1_f k1_m k1_n k3_c k3_f k3_m k3_n k4_c k4_f k4_m k4_n k5_c k5_f k5_m k5_n
          have o14 : w.heap.size + 1 + 1 + 1 + 1 < w13.heap.size := by first | exact k5_l | omega
          replace k1 := ((k1.alloc _).after h14)
          replace k3 := ((k3.alloc _).after h14)
          replace k4 := ((k4.alloc _).after h14)
          replace k5 := ((k5.alloc _).after h14)
          have k14 := ((Blk.newAt (n := w13.heap.size) _ _ _ (by first | rfl | simp)).after h14)
          have bwsz := Below.size bw
          replace bw := below_call h14 (w := w) (by first | exact (Below.alloc bw (Below.size bw) _) | go_grown)
          clear h14 bwsz k1_l k3_l k4_l k5_l
          obtain ⟨k1_c, k1_f, k1_l, k1_m, k1_n⟩ := k1.knows
          obtain ⟨k3_c, k3_f, k3_l, k3_m, k3_n⟩ := k3.knows
          obtain ⟨k4_c, k4_f, k4_l, k4_m, k4_n⟩ := k4.knows
          obtain ⟨k5_c, k5_f, k5_l, k5_m, k5_n⟩ := k5.knows
          obtain ⟨k14_c, k14_f, k14_l, k14_m, k14_n⟩ := k14.knows
          go_wp2
          exact ⟨⟨i + 1, rdN base T, by omega, by go_num, hb, hm2.out, (((((((((k1.far (by dsimp only; omega) _).far (by dsimp only; omega) _).far (by dsimp only; omega) _).far (by dsimp only; omega) _).far (by dsimp only; omega) _).far (by dsimp only; omega) _).far (by dsimp only; omega) _).far (by dsimp only; omega) _).alloc _), (((((((((k3.far (by dsimp only; omega) _).far (by dsimp only; omega) _).far (by dsimp only; omega) _).far (by dsimp only; omega) _).far (by dsimp only; omega) _).far (by dsimp only; omega) _).far (by dsimp only; omega) _).far (by dsimp only; omega) _).alloc _), (((((((((k4.set_ 0 (.int .u64 (lb (rdN base T % RR) 0))).set_ 1 (.int .u64 (lb (rdN base T % RR) 1))).set_ 2 (.int .u64 (lb (rdN base T % RR) 2))).set_ 3 (.int .u64 (lb (rdN base T % RR) 3))).far (by dsimp only; omega) _).far (by dsimp only; omega) _).far (by dsimp only; omega) _).far (by dsimp only; omega) _).alloc _), Blk.re (cs := #[.int .u64 (lb (mulN (cN base) (T / RR) / RR) 0), .int .u64 (lb (mulN (cN base) (T / RR) / RR) 1), .int .u64 (lb (mulN (cN base) (T / RR) / RR) 2), .int .u64 (lb (mulN (cN base) (T / RR) / RR) 3)]) ((((((((((k5.far (by dsimp only; omega) _).far (by dsimp only; omega) _).far (by dsimp only; omega) _).far (by dsimp only; omega) _).set_ 0 (.int .u64 (lb (mulN (cN base) (T / RR) / RR) 0))).set_ 1 (.int .u64 (lb (mulN (cN base) (T / RR) / RR) 1))).set_ 2 (.int .u64 (lb (mulN (cN base) (T / RR) / RR) 2))).set_ 3 (.int .u64 (lb (mulN (cN base) (T / RR) / RR) 3))).alloc _)) (by rw [hi_in base T ho]), by first | exact (below_alloc (Below.setCell (p := ⟨w.heap.size + 1 + 1 + 1 + 1, 3, none⟩) (Below.setCell (p := ⟨w.heap.size + 1 + 1 + 1 + 1, 2, none⟩) (Below.setCell (p := ⟨w.heap.size + 1 + 1 + 1 + 1, 1, none⟩) (Below.setCell (p := ⟨w.heap.size + 1 + 1 + 1 + 1, 0, none⟩) (Below.setCell (p := ⟨w.heap.size + 1 + 1 + 1, 3, none⟩) (Below.setCell (p := ⟨w.heap.size + 1 + 1 + 1, 2, none⟩) (Below.setCell (p := ⟨w.heap.size + 1 + 1 + 1, 1, none⟩) (Below.setCell (p := ⟨w.heap.size + 1 + 1 + 1, 0, none⟩) bw (by dsimp only; omega) _) (by dsimp only; omega) _) (by dsimp only; omega) _) (by dsimp only; omega) _) (by dsimp only; omega) _) (by dsimp only; omega) _) (by dsimp only; omega) _) (by dsimp only; omega) _) _) | go_grown⟩, by simp [intOf]; omega⟩
      · by_cases ho : RR ≤ T % RR + mulN (cN base) (T / RR) % RR
        · clear hT hT2 hm hi
          obtain ⟨k1_c, k1_f, k1_l, k1_m, k1_n⟩ := k1.knows
          obtain ⟨k3_c, k3_f, k3_l, k3_m, k3_n⟩ := k3.knows
          obtain ⟨k4_c, k4_f, k4_l, k4_m, k4_n⟩ := k4.knows
          obtain ⟨k5_c, k5_f, k5_l, k5_m, k5_n⟩ := k5.knows
          go_wp2_with fail
          (with_reducible refine (times_c base T hh _).mono ?_)
          rintro e w15 ⟨rfl, h15⟩
          clear k1_c k1_f k1_m k1_n k3_c k3_f k3_m k3_n k4_c k4_f k4_m k4_n k5_c k5_f k5_m k5_n
          replace k1 := (k1.after h15)
          replace k3 := (k3.after h15)
          replace k4 := (k4.after h15)
          replace k5 := (k5.after h15)
          have bwsz := Below.size bw
          replace bw := below_call h15 (w := w) (by first | exact bw | go_grown)
          clear h15 bwsz k1_l k3_l k4_l k5_l
          obtain ⟨k1_c, k1_f, k1_l, k1_m, k1_n⟩ := k1.knows
          obtain ⟨k3_c, k3_f, k3_l, k3_m, k3_n⟩ := k3.knows
          obtain ⟨k4_c, k4_f, k4_l, k4_m, k4_n⟩ := k4.knows
          obtain ⟨k5_c, k5_f, k5_l, k5_m, k5_n⟩ := k5.knows
          go_wp2_with fail
          (with_reducible refine (rplus_rd base T true (decide_eq_true ho) _).mono ?_)
          rintro e w16 ⟨rfl, h16⟩
          clear k1_c k1_f k1_m k1_n k3_c k3_f k3_m k3_n k4_c k4_f k4_m k4_n k5_c k5_f k5_m k5_n
          have o16 : w.heap.size + 1 + 1 + 1 + 1 < w15.heap.size := by first | exact k5_l | omega
          replace k1 := ((k1.alloc _).after h16)
          replace k3 := ((k3.alloc _).after h16)
          replace k4 := ((k4.alloc _).after h16)
          replace k5 := ((k5.alloc _).after h16)
          have k16 := ((Blk.newAt (n := w15.heap.size) _ _ _ (by first | rfl | simp)).after h16)
          have bwsz := Below.size bw
          replace bw := below_call h16 (w := w) (by first | exact (Below.alloc bw (Below.size bw) _) | go_grown)
          clear h16 bwsz k1_l k3_l k4_l k5_l
          obtain ⟨k1_c, k1_f, k1_l, k1_m, k1_n⟩ := k1.knows
          obtain ⟨k3_c, k3_f, k3_l, k3_m, k3_n⟩ := k3.knows
          obtain ⟨k4_c, k4_f, k4_l, k4_m, k4_n⟩ := k4.knows
          obtain ⟨k5_c, k5_f, k5_l, k5_m, k5_n⟩ := k5.knows
          obtain ⟨k16_c, k16_f, k16_l, k16_m, k16_n⟩ := k16.knows
          go_wp2_with fail
          (with_reducible refine (rplus_hi base T ho hb2 _).mono ?_)
          rintro e w17 ⟨rfl, h17⟩
          clear k1_c k1_f k1_m k1_n k3_c k3_f k3_m k3_n k4_c k4_f k4_m k4_n k5_c k5_f k5_m k5_n k16_c k16_f k16_m k16_n
          have o17 : w15.heap.size < w16.heap.size := by first | exact k16_l | omega
          replace k1 := ((((((((((k1.far (by dsimp only; omega) _).far (by dsimp only; omega) _).far (by dsimp only; omega) _).far (by dsimp only; omega) _).far (by dsimp only; omega) _).far (by dsimp only; omega) _).far (by dsimp only; omega) _).far (by dsimp only; omega) _).alloc _).after h17)
          replace k3 := ((((((((((k3.far (by dsimp only; omega) _).far (by dsimp only; omega) _).far (by dsimp only; omega) _).far (by dsimp only; omega) _).far (by dsimp only; omega) _).far (by dsimp only; omega) _).far (by dsimp only; omega) _).far (by dsimp only; omega) _).alloc _).after h17)
          replace k4 : Blk w17 (w.heap.size + 1 + 1 + 1) 24 #[.int .u64 (lb (rdN base T % RR) 0), .int .u64 (lb (rdN base T % RR) 1), .int .u64 (lb (rdN base T % RR) 2), .int .u64 (lb (rdN base T % RR) 3)] := ((((((((((k4.set_ 0 (.int .u64 (lb (rdN base T % RR) 0))).set_ 1 (.int .u64 (lb (rdN base T % RR) 1))).set_ 2 (.int .u64 (lb (rdN base T % RR) 2))).set_ 3 (.int .u64 (lb (rdN base T % RR) 3))).far (by dsimp only; omega) _).far (by dsimp only; omega) _).far (by dsimp only; omega) _).far (by dsimp only; omega) _).alloc _).after h17)
          replace k5 : Blk w17 (w.heap.size + 1 + 1 + 1 + 1) 24 #[.int .u64 (lb (mulN (cN base) (T / RR) / RR) 0), .int .u64 (lb (mulN (cN base) (T / RR) / RR) 1), .int .u64 (lb (mulN (cN base) (T / RR) / RR) 2), .int .u64 (lb (mulN (cN base) (T / RR) / RR) 3)] := ((((((((((k5.far (by dsimp only; omega) _).far (by dsimp only; omega) _).far (by dsimp only; omega) _).far (by dsimp only; omega) _).set_ 0 (.int .u64 (lb (mulN (cN base) (T / RR) / RR) 0))).set_ 1 (.int .u64 (lb (mulN (cN base) (T / RR) / RR) 1))).set_ 2 (.int .u64 (lb (mulN (cN base) (T / RR) / RR) 2))).set_ 3 (.int .u64 (lb (mulN (cN base) (T / RR) / RR) 3))).alloc _).after h17)
          have bwsz := Below.size bw
          replace bw := below_call h17 (w := w) (by first | exact (below_alloc (Below.setCell (p := ⟨w.heap.size + 1 + 1 + 1 + 1, 3, none⟩) (Below.setCell (p := ⟨w.heap.size + 1 + 1 + 1 + 1, 2, none⟩) (Below.setCell (p := ⟨w.heap.size + 1 + 1 + 1 + 1, 1, none⟩) (Below.setCell (p := ⟨w.heap.size + 1 + 1 + 1 + 1, 0, none⟩) (Below.setCell (p := ⟨w.heap.size + 1 + 1 + 1, 3, none⟩) (Below.setCell (p := ⟨w.heap.size + 1 + 1 + 1, 2, none⟩) (Below.setCell (p := ⟨w.heap.size + 1 + 1 + 1, 1, none⟩) (Below.setCell (p := ⟨w.heap.size + 1 + 1 + 1, 0, none⟩) bw (by dsimp only; omega) _) (by dsimp only; omega) _) (by dsimp only; omega) _) (by dsimp only; omega) _) (by dsimp only; omega) _) (by dsimp only; omega) _) (by dsimp only; omega) _) (by dsimp only; omega) _) _) | go_grown)
          clear h17 bwsz k1_l k3_l k4_l k5_l k16_l
          clear k16
          obtain ⟨k1_c, k1_f, k1_l, k1_m, k1_n⟩ := k1.knows
          obtain ⟨k3_c, k3_f, k3_l, k3_m, k3_n⟩ := k3.knows
          obtain ⟨k4_c, k4_f, k4_l, k4_m, k4_n⟩ := k4.knows
          obtain ⟨k5_c, k5_f, k5_l, k5_m, k5_n⟩ := k5.knows
          go_wp2
          exact ⟨⟨i + 1, rdN base T, by omega, by go_num, hb, hm2.out, (((((k1.far (by dsimp only; omega) _).far (by dsimp only; omega) _).far (by dsimp only; omega) _).far (by dsimp only; omega) _).alloc _), (((((k3.far (by dsimp only; omega) _).far (by dsimp only; omega) _).far (by dsimp only; omega) _).far (by dsimp only; omega) _).alloc _), (((((k4.far (by dsimp only; omega) _).far (by dsimp only; omega) _).far (by dsimp only; omega) _).far (by dsimp only; omega) _).alloc _), (((((k5.set_ 0 (.int .u64 (lb (rdN base T / RR) 0))).set_ 1 (.int .u64 (lb (rdN base T / RR) 1))).set_ 2 (.int .u64 (lb (rdN base T / RR) 2))).set_ 3 (.int .u64 (lb (rdN base T / RR) 3))).alloc _), by first | exact (below_alloc (Below.setCell (p := ⟨w.heap.size + 1 + 1 + 1 + 1, 3, none⟩) (Below.setCell (p := ⟨w.heap.size + 1 + 1 + 1 + 1, 2, none⟩) (Below.setCell (p := ⟨w.heap.size + 1 + 1 + 1 + 1, 1, none⟩) (Below.setCell (p := ⟨w.heap.size + 1 + 1 + 1 + 1, 0, none⟩) bw (by dsimp only; omega) _) (by dsimp only; omega) _) (by dsimp only; omega) _) (by dsimp only; omega) _) _) | go_grown⟩, by simp [intOf]; omega⟩
        · clear hT hT2 hm hi
          obtain ⟨k1_c, k1_f, k1_l, k1_m, k1_n⟩ := k1.knows
          obtain ⟨k3_c, k3_f, k3_l, k3_m, k3_n⟩ := k3.knows
          obtain ⟨k4_c, k4_f, k4_l, k4_m, k4_n⟩ := k4.knows
          obtain ⟨k5_c, k5_f, k5_l, k5_m, k5_n⟩ := k5.knows
          go_wp2_with fail
          (with_reducible refine (times_c base T hh _).mono ?_)
          rintro e w18 ⟨rfl, h18⟩
          clear k1_c k1_f k1_m k1_n k3_c k3_f k3_m k3_n k4_c k4_f k4_m k4_n k5_c k5_f k5_m k5_n
          replace k1 := (k1.after h18)
          replace k3 := (k3.after h18)
          replace k4 := (k4.after h18)
          replace k5 := (k5.after h18)
          have bwsz := Below.size bw
          replace bw := below_call h18 (w := w) (by first | exact bw | go_grown)
          clear h18 bwsz k1_l k3_l k4_l k5_l
          obtain ⟨k1_c, k1_f, k1_l, k1_m, k1_n⟩ := k1.knows
          obtain ⟨k3_c, k3_f, k3_l, k3_m, k3_n⟩ := k3.knows
          obtain ⟨k4_c, k4_f, k4_l, k4_m, k4_n⟩ := k4.knows
          obtain ⟨k5_c, k5_f, k5_l, k5_m, k5_n⟩ := k5.knows
          go_wp2_with fail
          (with_reducible refine (rplus_rd base T false (decide_eq_false ho) _).mono ?_)
          rintro e w19 ⟨rfl, h19⟩
          clear k1_c k1_f k1_m k1_n k3_c k3_f k3_m k3_n k4_c k4_f k4_m k4_n k5_c k5_f k5_m k5_n
          have o19 : w.heap.size + 1 + 1 + 1 + 1 < w18.heap.size := by first | exact k5_l | omega
          replace k1 := ((k1.alloc _).after h19)
          replace k3 := ((k3.alloc _).after h19)
          replace k4 := ((k4.alloc _).after h19)
          replace k5 := ((k5.alloc _).after h19)
          have k19 := ((Blk.newAt (n := w18.heap.size) _ _ _ (by first | rfl | simp)).after h19)
          have bwsz := Below.size bw
          replace bw := below_call h19 (w := w) (by first | exact (Below.alloc bw (Below.size bw) _) | go_grown)
          clear h19 bwsz k1_l k3_l k4_l k5_l
          obtain ⟨k1_c, k1_f, k1_l, k1_m, k1_n⟩ := k1.knows
          obtain ⟨k3_c, k3_f, k3_l, k3_m, k3_n⟩ := k3.knows
          obtain ⟨k4_c, k4_f, k4_l, k4_m, k4_n⟩ := k4.knows
          obtain ⟨k5_c, k5_f, k5_l, k5_m, k5_n⟩ := k5.knows
          obtain ⟨k19_c, k19_f, k19_l, k19_m, k19_n⟩ := k19.knows
          go_wp2
          exact ⟨⟨i + 1, rdN base T, by omega, by go_num, hb, hm2.out, (((((((((k1.far (by dsimp only; omega) _).far (by dsimp only; omega) _).far (by dsimp only; omega) _).far (by dsimp only; omega) _).far (by dsimp only; omega) _).far (by dsimp only; omega) _).far (by dsimp only; omega) _).far (by dsimp only; omega) _).alloc _), (((((((((k3.far (by dsimp only; omega) _).far (by dsimp only; omega) _).far (by dsimp only; omega) _).far (by dsimp only; omega) _).far (by dsimp only; omega) _).far (by dsimp only; omega) _).far (by dsimp only; omega) _).far (by dsimp only; omega) _).alloc _), (((((((((k4.set_ 0 (.int .u64 (lb (rdN base T % RR) 0))).set_ 1 (.int .u64 (lb (rdN base T % RR) 1))).set_ 2 (.int .u64 (lb (rdN base T % RR) 2))).set_ 3 (.int .u64 (lb (rdN base T % RR) 3))).far (by dsimp only; omega) _).far (by dsimp only; omega) _).far (by dsimp only; omega) _).far (by dsimp only; omega) _).alloc _), Blk.re (cs := #[.int .u64 (lb (mulN (cN base) (T / RR) / RR) 0), .int .u64 (lb (mulN (cN base) (T / RR) / RR) 1), .int .u64 (lb (mulN (cN base) (T / RR) / RR) 2), .int .u64 (lb (mulN (cN base) (T / RR) / RR) 3)]) ((((((((((k5.far (by dsimp only; omega) _).far (by dsimp only; omega) _).far (by dsimp only; omega) _).far (by dsimp only; omega) _).set_ 0 (.int .u64 (lb (mulN (cN base) (T / RR) / RR) 0))).set_ 1 (.int .u64 (lb (mulN (cN base) (T / RR) / RR) 1))).set_ 2 (.int .u64 (lb (mulN (cN base) (T / RR) / RR) 2))).set_ 3 (.int .u64 (lb (mulN (cN base) (T / RR) / RR) 3))).alloc _)) (by rw [hi_in base T ho]), by first | exact (below_alloc (Below.setCell (p := ⟨w.heap.size + 1 + 1 + 1 + 1, 3, none⟩) (Below.setCell (p := ⟨w.heap.size + 1 + 1 + 1 + 1, 2, none⟩) (Below.setCell (p := ⟨w.heap.size + 1 + 1 + 1 + 1, 1, none⟩) (Below.setCell (p := ⟨w.heap.size + 1 + 1 + 1 + 1, 0, none⟩) (Below.setCell (p := ⟨w.heap.size + 1 + 1 + 1, 3, none⟩) (Below.setCell (p := ⟨w.heap.size + 1 + 1 + 1, 2, none⟩) (Below.setCell (p := ⟨w.heap.size + 1 + 1 + 1, 1, none⟩) (Below.setCell (p := ⟨w.heap.size + 1 + 1 + 1, 0, none⟩) bw (by dsimp only; omega) _) (by dsimp only; omega) _) (by dsimp only; omega) _) (by dsimp only; omega) _) (by dsimp only; omega) _) (by dsimp only; omega) _) (by dsimp only; omega) _) (by dsimp only; omega) _) _) | go_grown⟩, by simp [intOf]; omega⟩
      · by_cases ho : RR ≤ T % RR + mulN (cN base) (T / RR) % RR
        · clear hT hT2 hm hi
          obtain ⟨k1_c, k1_f, k1_l, k1_m, k1_n⟩ := k1.knows
          obtain ⟨k3_c, k3_f, k3_l, k3_m, k3_n⟩ := k3.knows
          obtain ⟨k4_c, k4_f, k4_l, k4_m, k4_n⟩ := k4.knows
          obtain ⟨k5_c, k5_f, k5_l, k5_m, k5_n⟩ := k5.knows
          go_wp2_with fail
          (with_reducible refine (times_c base T hh _).mono ?_)
          rintro e w20 ⟨rfl, h20⟩
          clear k1_c k1_f k1_m k1_n k3_c k3_f k3_m k3_n k4_c k4_f k4_m k4_n k5_c k5_f k5_m k5_n
          replace k1 := (k1.after h20)
          replace k3 := (k3.after h20)
          replace k4 := (k4.after h20)
          replace k5 := (k5.after h20)
          have bwsz := Below.size bw
          replace bw := below_call h20 (w := w) (by first | exact bw | go_grown)
          clear h20 bwsz k1_l k3_l k4_l k5_l
          obtain ⟨k1_c, k1_f, k1_l, k1_m, k1_n⟩ := k1.knows
          obtain ⟨k3_c, k3_f, k3_l, k3_m, k3_n⟩ := k3.knows
          obtain ⟨k4_c, k4_f, k4_l, k4_m, k4_n⟩ := k4.knows
          obtain ⟨k5_c, k5_f, k5_l, k5_m, k5_n⟩ := k5.knows
          go_wp2_with fail
          (with_reducible refine (rplus_rd base T true (decide_eq_true ho) _).mono ?_)
          rintro e w21 ⟨rfl, h21⟩
          clear k1_c k1_f k1_m k1_n k3_c k3_f k3_m k3_n k4_c k4_f k4_m k4_n k5_c k5_f k5_m k5_n
          have o21 : w.heap.size + 1 + 1 + 1 + 1 < w20.heap.size := by first | exact k5_l | omega
          replace k1 := ((k1.alloc _).after h21)
          replace k3 := ((k3.alloc _).after h21)
          replace k4 := ((k4.alloc _).after h21)
          replace k5 := ((k5.alloc _).after h21)
          have k21 := ((Blk.newAt (n := w20.heap.size) _ _ _ (by first | rfl | simp)).after h21)
          have bwsz := Below.size bw
          replace bw := below_call h21 (w := w) (by first | exact (Below.alloc bw (Below.size bw) _) | go_grown)
          clear h21 bwsz k1_l k3_l k4_l k5_l
          obtain ⟨k1_c, k1_f, k1_l, k1_m, k1_n⟩ := k1.knows
          obtain ⟨k3_c, k3_f, k3_l, k3_m, k3_n⟩ := k3.knows
          obtain ⟨k4_c, k4_f, k4_l, k4_m, k4_n⟩ := k4.knows
          obtain ⟨k5_c, k5_f, k5_l, k5_m, k5_n⟩ := k5.knows
          obtain ⟨k21_c, k21_f, k21_l, k21_m, k21_n⟩ := k21.knows
          go_wp2_with fail
          (with_reducible refine (rplus_hi base T ho hb2 _).mono ?_)
          rintro e w22 ⟨rfl, h22⟩
          clear k1_c k1_f k1_m k1_n k3_c k3_f k3_m k3_n k4_c k4_f k4_m k4_n k5_c k5_f k5_m k5_n k21_c k21_f k21_m k21_n
          have o22 : w20.heap.size < w21.heap.size := by first | exact k21_l | omega
          replace k1 := ((((((((((k1.far (by dsimp only; omega) _).far (by dsimp only; omega) _).far (by dsimp only; omega) _).far (by dsimp only; omega) _).far (by dsimp only; omega) _).far (by dsimp only; omega) _).far (by dsimp only; omega) _).far (by dsimp only; omega) _).alloc _).after h22)
          replace k3 := ((((((((((k3.far (by dsimp only; omega) _).far (by dsimp only; omega) _).far (by dsimp only; omega) _).far (by dsimp only; omega) _).far (by dsimp only; omega) _).far (by dsimp only; omega) _).far (by dsimp only; omega) _).far (by dsimp only; omega) _).alloc _).after h22)
          replace k4 : Blk w22 (w.heap.size + 1 + 1 + 1) 24 #[.int .u64 (lb (rdN base T % RR) 0), .int .u64 (lb (rdN base T % RR) 1), .int .u64 (lb (rdN base T % RR) 2), .int .u64 (lb (rdN base T % RR) 3)] := ((((((((((k4.set_ 0 (.int .u64 (lb (rdN base T % RR) 0))).set_ 1 (.int .u64 (lb (rdN base T % RR) 1))).set_ 2 (.int .u64 (lb (rdN base T % RR) 2))).set_ 3 (.int .u64 (lb (rdN base T % RR) 3))).far (by dsimp only; omega) _).far (by dsimp only; omega) _).far (by dsimp only; omega) _).far (by dsimp only; omega) _).alloc _).after h22)
          replace k5 : Blk w22 (w.heap.size + 1 + 1 + 1 + 1) 24 #[.int .u64 (lb (mulN (cN base) (T / RR) / RR) 0), .int .u64 (lb (mulN (cN base) (T / RR) / RR) 1), .int .u64 (lb (mulN (cN base) (T / RR) / RR) 2), .int .u64 (lb (mulN (cN base) (T / RR) / RR) 3)] := ((((((((((k5.far (by dsimp only; omega) _).far (by dsimp only; omega) _).far (by dsimp only; omega) _).far (by dsimp only; omega) _).set_ 0 (.int .u64 (lb (mulN (cN base) (T / RR) / RR) 0))).set_ 1 (.int .u64 (lb (mulN (cN base) (T / RR) / RR) 1))).set_ 2 (.int .u64 (lb (mulN (cN base) (T / RR) / RR) 2))).set_ 3 (.int .u64 (lb (mulN (cN base) (T / RR) / RR) 3))).alloc _).after h22)
          have bwsz := Below.size bw
          replace bw := below_call h22 (w := w) (by first | exact (below_alloc (Below.setCell (p := ⟨w.heap.size + 1 + 1 + 1 + 1, 3, none⟩) (Below.setCell (p := ⟨w.heap.size + 1 + 1 + 1 + 1, 2, none⟩) (Below.setCell (p := ⟨w.heap.size + 1 + 1 + 1 + 1, 1, none⟩) (Below.setCell (p := ⟨w.heap.size + 1 + 1 + 1 + 1, 0, none⟩) (Below.setCell (p := ⟨w.heap.size + 1 + 1 + 1, 3, none⟩) (Below.setCell (p := ⟨w.heap.size + 1 + 1 + 1, 2, none⟩) (Below.setCell (p := ⟨w.heap.size + 1 + 1 + 1, 1, none⟩) (Below.setCell (p := ⟨w.heap.size + 1 + 1 + 1, 0, none⟩) bw (by dsimp only; omega) _) (by dsimp only; omega) _) (by dsimp only; omega) _) (by dsimp only; omega) _) (by dsimp only; omega) _) (by dsimp only; omega) _) (by dsimp only; omega) _) (by dsimp only; omega) _) _) | go_grown)
          clear h22 bwsz k1_l k3_l k4_l k5_l k21_l
          clear k21
          obtain ⟨k1_c, k1_f, k1_l, k1_m, k1_n⟩ := k1.knows
          obtain ⟨k3_c, k3_f, k3_l, k3_m, k3_n⟩ := k3.knows
          obtain ⟨k4_c, k4_f, k4_l, k4_m, k4_n⟩ := k4.knows
          obtain ⟨k5_c, k5_f, k5_l, k5_m, k5_n⟩ := k5.knows
          go_wp2
          exact ⟨⟨i + 1, rdN base T, by omega, by go_num, hb, hm2.out, (((((k1.far (by dsimp only; omega) _).far (by dsimp only; omega) _).far (by dsimp only; omega) _).far (by dsimp only; omega) _).alloc _), (((((k3.far (by dsimp only; omega) _).far (by dsimp only; omega) _).far (by dsimp only; omega) _).far (by dsimp only; omega) _).alloc _), (((((k4.far (by dsimp only; omega) _).far (by dsimp only; omega) _).far (by dsimp only; omega) _).far (by dsimp only; omega) _).alloc _), (((((k5.set_ 0 (.int .u64 (lb (rdN base T / RR) 0))).set_ 1 (.int .u64 (lb (rdN base T / RR) 1))).set_ 2 (.int .u64 (lb (rdN base T / RR) 2))).set_ 3 (.int .u64 (lb (rdN base T / RR) 3))).alloc _), by first | exact (below_alloc (Below.setCell (p := ⟨w.heap.size + 1 + 1 + 1 + 1, 3, none⟩) (Below.setCell (p := ⟨w.heap.size + 1 + 1 + 1 + 1, 2, none⟩) (Below.setCell (p := ⟨w.heap.size + 1 + 1 + 1 + 1, 1, none⟩) (Below.setCell (p := ⟨w.heap.size + 1 + 1 + 1 + 1, 0, none⟩) bw (by dsimp only; omega) _) (by dsimp only; omega) _) (by dsimp only; omega) _) (by dsimp only; omega) _) _) | go_grown⟩, by simp [intOf]; omega⟩
        · clear hT hT2 hm hi
          obtain ⟨k1_c, k1_f, k1_l, k1_m, k1_n⟩ := k1.knows
          obtain ⟨k3_c, k3_f, k3_l, k3_m, k3_n⟩ := k3.knows
          obtain ⟨k4_c, k4_f, k4_l, k4_m, k4_n⟩ := k4.knows
          obtain ⟨k5_c, k5_f, k5_l, k5_m, k5_n⟩ := k5.knows
          go_wp2_with fail
          (with_reducible refine (times_c base T hh _).mono ?_)
          rintro e w23 ⟨rfl, h23⟩
          clear k1_c k1_f k1_m k1_n k3_c k3_f k3_m k3_n k4_c k4_f k4_m k4_n k5_c k5_f k5_m k5_n
          replace k1 := (k1.after h23)
          replace k3 := (k3.after h23)
          replace k4 := (k4.after h23)
          replace k5 := (k5.after h23)
          have bwsz := Below.size bw
          replace bw := below_call h23 (w := w) (by first | exact bw | go_grown)
          clear h23 bwsz k1_l k3_l k4_l k5_l
          obtain ⟨k1_c, k1_f, k1_l, k1_m, k1_n⟩ := k1.knows
          obtain ⟨k3_c, k3_f, k3_l, k3_m, k3_n⟩ := k3.knows
          obtain ⟨k4_c, k4_f, k4_l, k4_m, k4_n⟩ := k4.knows
          obtain ⟨k5_c, k5_f, k5_l, k5_m, k5_n⟩ := k5.knows
          go_wp2_with fail
          (with_reducible refine (rplus_rd base T false (decide_eq_false ho) _).mono ?_)
          rintro e w24 ⟨rfl, h24⟩
          clear k1_c k1_f k1_m k1_n k3_c k3_f k3_m k3_n k4_c k4_f k4_m k4_n k5_c k5_f k5_m k5_n
          have o24 : w.heap.size + 1 + 1 + 1 + 1 < w23.heap.size := by first | exact k5_l | omega
          replace k1 := ((k1.alloc _).after h24)
          replace k3 := ((k3.alloc _).after h24)
          replace k4 := ((k4.alloc _).after h24)
          replace k5 := ((k5.alloc _).after h24)
          have k24 := ((Blk.newAt (n := w23.heap.size) _ _ _ (by first | rfl | simp)).after h24)
          have bwsz := Below.size bw
          replace bw := below_call h24 (w := w) (by first | exact (Below.alloc bw (Below.size bw) _) | go_grown)
          clear h24 bwsz k1_l k3_l k4_l k5_l
          obtain ⟨k1_c, k1_f, k1_l, k1_m, k1_n⟩ := k1.knows
          obtain ⟨k3_c, k3_f, k3_l, k3_m, k3_n⟩ := k3.knows
          obtain ⟨k4_c, k4_f, k4_l, k4_m, k4_n⟩ := k4.knows
          obtain ⟨k5_c, k5_f, k5_l, k5_m, k5_n⟩ := k5.knows
          obtain ⟨k24_c, k24_f, k24_l, k24_m, k24_n⟩ := k24.knows
          go_wp2
          exact ⟨⟨i + 1, rdN base T, by omega, by go_num, hb, hm2.out, (((((((((k1.far (by dsimp only; omega) _).far (by dsimp only; omega) _).far (by dsimp only; omega) _).far (by dsimp only; omega) _).far (by dsimp only; omega) _).far (by dsimp only; omega) _).far (by dsimp only; omega) _).far (by dsimp only; omega) _).alloc _), (((((((((k3.far (by dsimp only; omega) _).far (by dsimp only; omega) _).far (by dsimp only; omega) _).far (by dsimp only; omega) _).far (by dsimp only; omega) _).far (by dsimp only; omega) _).far (by dsimp only; omega) _).far (by dsimp only; omega) _).alloc _), (((((((((k4.set_ 0 (.int .u64 (lb (rdN base T % RR) 0))).set_ 1 (.int .u64 (lb (rdN base T % RR) 1))).set_ 2 (.int .u64 (lb (rdN base T % RR) 2))).set_ 3 (.int .u64 (lb (rdN base T % RR) 3))).far (by dsimp only; omega) _).far (by dsimp only; omega) _).far (by dsimp only; omega) _).far (by dsimp only; omega) _).alloc _), Blk.re (cs := #[.int .u64 (lb (mulN (cN base) (T / RR) / RR) 0), .int .u64 (lb (mulN (cN base) (T / RR) / RR) 1), .int .u64 (lb (mulN (cN base) (T / RR) / RR) 2), .int .u64 (lb (mulN (cN base) (T / RR) / RR) 3)]) ((((((((((k5.far (by dsimp only; omega) _).far (by dsimp only; omega) _).far (by dsimp only; omega) _).far (by dsimp only; omega) _).set_ 0 (.int .u64 (lb (mulN (cN base) (T / RR) / RR) 0))).set_ 1 (.int .u64 (lb (mulN (cN base) (T / RR) / RR) 1))).set_ 2 (.int .u64 (lb (mulN (cN base) (T / RR) / RR) 2))).set_ 3 (.int .u64 (lb (mulN (cN base) (T / RR) / RR) 3))).alloc _)) (by rw [hi_in base T ho]), by first | exact (below_alloc (Below.setCell (p := ⟨w.heap.size + 1 + 1 + 1 + 1, 3, none⟩) (Below.setCell (p := ⟨w.heap.size + 1 + 1 + 1 + 1, 2, none⟩) (Below.setCell (p := ⟨w.heap.size + 1 + 1 + 1 + 1, 1, none⟩) (Below.setCell (p := ⟨w.heap.size + 1 + 1 + 1 + 1, 0, none⟩) (Below.setCell (p := ⟨w.heap.size + 1 + 1 + 1, 3, none⟩) (Below.setCell (p := ⟨w.heap.size + 1 + 1 + 1, 2, none⟩) (Below.setCell (p := ⟨w.heap.size + 1 + 1 + 1, 1, none⟩) (Below.setCell (p := ⟨w.heap.size + 1 + 1 + 1, 0, none⟩) bw (by dsimp only; omega) _) (by dsimp only; omega) _) (by dsimp only; omega) _) (by dsimp only; omega) _) (by dsimp only; omega) _) (by dsimp only; omega) _) (by dsimp only; omega) _) (by dsimp only; omega) _) _) | go_grown⟩, by simp [intOf]; omega⟩
end Go.Proofs.Ytbmokmkaebfneaa
