/- limb's product of two numbers. -/
import Derived.Test.YtbmokmkaebfneaaA
import Derived.Test.YtbmokmkaebfneaaN
import Derived.Lib.Mul64
import Derived.Laws.Bits64b
namespace Go.Proofs.Ytbmokmkaebfneaa
set_option linter.unusedVariables false
set_option linter.unusedSimpArgs false
open Go.RowKit

namespace Halves
theorem maskN (a : Nat) (ha : a < 18446744073709551616) : bits .and .u64 (a : Int) 4294967295 = ((a % 4294967296 : Nat) : Int) := by
  have h := bits_and_u64_nat a 4294967295 ha (by omega)
  have e : a &&& 4294967295 = a % 4294967296 := Nat.and_two_pow_sub_one_eq_mod a 32
  rw [e] at h
  exact h
theorem divN (a : Nat) : (a : Int) / 4294967296 = ((a / 4294967296 : Nat) : Int) := by omega
theorem mulN (a b : Nat) : (a : Int) * (b : Int) = ((a * b : Nat) : Int) := (Int.natCast_mul a b).symm
theorem addN (a b : Nat) : (a : Int) + (b : Int) = ((a + b : Nat) : Int) := (Int.natCast_add a b).symm
theorem wrapN (a : Nat) (ha : a < 18446744073709551616) : IntKind.u64.wrap (a : Int) = (a : Int) := by rw [IntKind.wrap_u64]; omega
theorem wrapM (a : Nat) : IntKind.u64.wrap (a : Int) = ((a % 18446744073709551616 : Nat) : Int) := by rw [IntKind.wrap_u64]; omega
end Halves
set_option maxHeartbeats 1000000 in
theorem mul64_nat (x y : Nat) (hx : x < 18446744073709551616) (hy : y < 18446744073709551616) (w : World) :
    Calls Try.prog 78 #[.int .u64 x, .int .u64 y] w fun e w' => e = .returned (.tuple #[.int .u64 ((x * y / 18446744073709551616 : Nat) : Int), .int .u64 ((x * y % 18446744073709551616 : Nat) : Int)]) ∧ w = w' := by
  obtain ⟨bd, bt, bw, hhi⟩ := Lib.mul64_hi x y hx hy
  have ba := Lib.half_mul_le (a := x / 4294967296) (b := y / 4294967296) (by omega) (by omega)
  have bb := Lib.half_mul_le (a := x / 4294967296) (b := y % 4294967296) (by omega) (by omega)
  have bc := Lib.half_mul_le (a := x % 4294967296) (b := y / 4294967296) (by omega) (by omega)
  have ba' : x / 4294967296 * (y / 4294967296) < 18446744073709551616 := by omega
  have bb' : x / 4294967296 * (y % 4294967296) < 18446744073709551616 := by omega
  have bc' : x % 4294967296 * (y / 4294967296) < 18446744073709551616 := by omega
  have bh1 : x / 4294967296 * (y / 4294967296) + (x / 4294967296 * (y % 4294967296) + x % 4294967296 * (y % 4294967296) / 4294967296) / 4294967296 < 18446744073709551616 := by omega
  have bh : x / 4294967296 * (y / 4294967296) + (x / 4294967296 * (y % 4294967296) + x % 4294967296 * (y % 4294967296) / 4294967296) / 4294967296 + ((x / 4294967296 * (y % 4294967296) + x % 4294967296 * (y % 4294967296) / 4294967296) % 4294967296 + x % 4294967296 * (y / 4294967296)) / 4294967296 < 18446744073709551616 := by omega
  go_enter Try.func78, Try.ntmps78
  go_wp2
  simp only [Halves.maskN x hx, Halves.maskN y hy, Halves.divN, Halves.mulN, Halves.addN, Halves.wrapN _ bd, Halves.wrapN _ bb', Halves.wrapN _ bt, Halves.maskN _ bt, Halves.wrapN _ bc', Halves.wrapN _ bw, Halves.wrapN _ ba', Halves.wrapN _ bh1, Halves.wrapN _ bh, Halves.wrapM (x * y)]
  rw [hhi]
  go_ret2
  exact ⟨rfl, rfl⟩
theorem mul64 (x y : Int) (x0 : 0 ≤ x) (x1 : x < 18446744073709551616) (y0 : 0 ≤ y) (y1 : y < 18446744073709551616) (w : World) :
    Calls Try.prog 78 #[.int .u64 x, .int .u64 y] w fun e w' => e = .returned (.tuple #[.int .u64 (mh x y), .int .u64 (ml x y)]) ∧ w = w' := by
  obtain ⟨n, rfl⟩ := Int.eq_ofNat_of_zero_le x0
  obtain ⟨m, rfl⟩ := Int.eq_ofNat_of_zero_le y0
  have h := mul64_nat n m (by omega) (by omega) w
  rw [mh_def, ml_def]
  exact h
theorem add64s (x y : Int) (hx : 0 ≤ x) (hy : 0 ≤ y) (w : World) : (callFunc 76 #[.int .u64 x, .int .u64 y, .int .u64 0]).run Try.prog w = .ok (.value (.tuple #[.int .u64 (sl x y), .int .u64 (sh x y)])) w := by
  have h := add64 x y 0 hx hy (by omega) (by omega) w
  rw [Int.add_zero] at h
  rw [sl_def, sh_def]
  exact h
/-- The facts of one inner step. -/
theorem mul_step (a b i j : Nat) (hb : b < RR) (hj : j < 4) :
    (∀ w, Calls Try.prog 78 #[.int .u64 (lb a i), .int .u64 (lb b j)] w fun e w' => e = .returned (.tuple #[.int .u64 (mh (lb a i) (lb b j)), .int .u64 (ml (lb a i) (lb b j))]) ∧ w = w') ∧
    (∀ w, (callFunc 76 #[.int .u64 (ml (lb a i) (lb b j)), .int .u64 (lb (pp a b i) (i + j)), .int .u64 0]).run Try.prog w = .ok (.value (.tuple #[.int .u64 (sl (ml (lb a i) (lb b j)) (lb (pp a b i) (i + j))), .int .u64 (sh (ml (lb a i) (lb b j)) (lb (pp a b i) (i + j)))])) w) ∧
    (∀ w, (callFunc 76 #[.int .u64 (sl (ml (lb a i) (lb b j)) (lb (pp a b i) (i + j))), .int .u64 (cy a b i j), .int .u64 0]).run Try.prog w = .ok (.value (.tuple #[.int .u64 (lb (pp a b (i + 1)) (i + j)), .int .u64 (sh (sl (ml (lb a i) (lb b j)) (lb (pp a b i) (i + j))) (cy a b i j))])) w) ∧
    0 ≤ mh (lb a i) (lb b j) ∧ 0 ≤ sh (ml (lb a i) (lb b j)) (lb (pp a b i) (i + j)) ∧ 0 ≤ sh (sl (ml (lb a i) (lb b j)) (lb (pp a b i) (i + j))) (cy a b i j) ∧
    mh (lb a i) (lb b j) + sh (ml (lb a i) (lb b j)) (lb (pp a b i) (i + j)) + sh (sl (ml (lb a i) (lb b j)) (lb (pp a b i) (i + j))) (cy a b i j) = cy a b i (j + 1) ∧ cy a b i (j + 1) ≤ 18446744073709551615 := by
  have hR : RR = 18446744073709551616 ^ 4 := by unfold RR; rfl
  rw [hR] at hb
  have c0 : 0 ≤ cy a b i j := by rw [cy_def]; omega
  have c1 : cy a b i j < 18446744073709551616 := by rw [cy_def]; have := cyD_lt a b i j; omega
  obtain ⟨r1, r2, r3, r4, r5, r6, r7, r8, r9, r10⟩ := inner_step (lb a i) (lb b j) (lb (pp a b i) (i + j)) (cy a b i j) (lb_lo _ _) (lb_hi _ _) (lb_lo _ _) (lb_hi _ _) (lb_lo _ _) (lb_hi _ _) c0 c1
  have e1 : (lb a i * lb b j + lb (pp a b i) (i + j) + cy a b i j) % 18446744073709551616 = lb (pp a b (i + 1)) (i + j) := by
    rw [lb_def, lb_def, lb_def, lb_def, cy_def, pp_def, pp_def, word_step a b i j hb hj]
    omega
  have e2 : (lb a i * lb b j + lb (pp a b i) (i + j) + cy a b i j) / 18446744073709551616 = cy a b i (j + 1) := by
    rw [lb_def, lb_def, lb_def, cy_def, cy_def, pp_def, cyD_succ]
    omega
  refine ⟨fun w => mul64 _ _ (lb_lo _ _) (lb_hi _ _) (lb_lo _ _) (lb_hi _ _) w, fun w => add64s _ _ r2 (lb_lo _ _) w, fun w => ?_, r1, r3, r6, r9.trans e2, by rw [← e2, ← r9]; omega⟩
  rw [add64s _ _ r5 c0 w, r10, e1]
theorem cy_zero (a b i : Nat) : cy a b i 0 = 0 := by rw [cy_def, cyD_zero]; rfl
theorem cy_four (a b i : Nat) (hb : b < RR) : cy a b i 4 = lb (pp a b (i + 1)) (i + 4) := by
  have hR : RR = 18446744073709551616 ^ 4 := by unfold RR; rfl
  rw [hR] at hb
  rw [cy_def, lb_def, pp_def, word_top a b i hb]
theorem pp_zero (a b i : Nat) : lb (pp a b 0) i = 0 := by rw [pp_def, ppD_zero, lb_zero]
theorem pp_four (a b : Nat) (ha : a < RR) : pp a b 4 = a * b := by
  have hR : RR = 18446744073709551616 ^ 4 := by unfold RR; rfl
  rw [hR] at ha
  rw [pp_def, ppD_four a b ha]
theorem lb_pp_keep (a b i k : Nat) (hk : k < i) : lb (pp a b (i + 1)) k = lb (pp a b i) k := by
  rw [lb_def, lb_def, pp_def, pp_def, ppD_succ, Nat.mul_comm (lbN a i), Nat.mul_assoc, lbN_add_mul _ _ _ _ hk]
theorem mulN_is : ∃ f : Nat → Nat → Nat, ∀ a b, f a b = a * b := ⟨fun a b => a * b, fun _ _ => rfl⟩
noncomputable def mulN : Nat → Nat → Nat := Classical.choose mulN_is
theorem mulN_def (a b : Nat) : mulN a b = a * b := Classical.choose_spec mulN_is a b
set_option maxHeartbeats 8000000 in
set_option maxRecDepth 100000 in
theorem mul_walk (a b : Nat) (hb : b < RR) (w : World) : Calls Try.prog 83 #[num a, num b] w fun e w' => e = .returned (.agg #[.int .u64 (lb (pp a b 1) 0), .int .u64 (lb (pp a b 2) 1), .int .u64 (lb (pp a b 3) 2), .int .u64 (lb (pp a b 4) 3), .int .u64 (lb (pp a b 4) 4), .int .u64 (lb (pp a b 4) 5), .int .u64 (lb (pp a b 4) 6), .int .u64 (lb (pp a b 4) 7)]) ∧ Below w.heap.size w w' := by
  go_enter Try.func83, Try.ntmps83
  go_wp2
  refine wp_loop_rounds 5 ?_
  have i0 : ∀ n w, (Instr.index 24 (num n) (.int .i64 0)).run Try.prog w = .ok (.int .u64 (lb n 0)) w := fun _ _ => by kernel_rfl
  have i1 : ∀ n w, (Instr.index 24 (num n) (.int .i64 1)).run Try.prog w = .ok (.int .u64 (lb n 1)) w := fun _ _ => by kernel_rfl
  have i2 : ∀ n w, (Instr.index 24 (num n) (.int .i64 2)).run Try.prog w = .ok (.int .u64 (lb n 2)) w := fun _ _ => by kernel_rfl
  have i3 : ∀ n w, (Instr.index 24 (num n) (.int .i64 3)).run Try.prog w = .ok (.int .u64 (lb n 3)) w := fun _ _ => by kernel_rfl
  rw [rounds_succ]
  obtain ⟨m0, p0, q0, g0, h0, f0, s0, u0⟩ := mul_step a b 0 0 hb (by omega)
  simp only [Nat.reduceAdd, pp_zero, cy_zero] at p0 q0 h0 f0 s0 u0
  obtain ⟨m1, p1, q1, g1, h1, f1, s1, u1⟩ := mul_step a b 0 1 hb (by omega)
  simp only [Nat.reduceAdd, pp_zero] at p1 q1 h1 f1 s1 u1
  obtain ⟨m2, p2, q2, g2, h2, f2, s2, u2⟩ := mul_step a b 0 2 hb (by omega)
  simp only [Nat.reduceAdd, pp_zero] at p2 q2 h2 f2 s2 u2
  obtain ⟨m3, p3, q3, g3, h3, f3, s3, u3⟩ := mul_step a b 0 3 hb (by omega)
  simp only [Nat.reduceAdd, pp_zero] at p3 q3 h3 f3 s3 u3
  have sf := cy_four a b 0 hb; simp only [Nat.reduceAdd] at sf
  go_wp2
  refine wp_loop_rounds 5 ?_
  rw [rounds_succ]; go_wp2_with (go_at_call 78; refine (m0 _).mono ?_; rintro e w1 ⟨rfl, rfl⟩)
  rw [rounds_succ]; go_wp2_with (go_at_call 78; refine (m1 _).mono ?_; rintro e w1 ⟨rfl, rfl⟩)
  rw [rounds_succ]; go_wp2_with (go_at_call 78; refine (m2 _).mono ?_; rintro e w1 ⟨rfl, rfl⟩)
  rw [rounds_succ]; go_wp2_with (go_at_call 78; refine (m3 _).mono ?_; rintro e w1 ⟨rfl, rfl⟩)
  rw [rounds_succ]; go_wp2
  clear m0 p0 q0 g0 h0 f0 s0 u0 m1 p1 q1 g1 h1 f1 s1 u1 m2 p2 q2 g2 h2 f2 s2 u2 m3 p3 q3 g3 h3 f3 s3 u3 sf
  rw [rounds_succ]
  obtain ⟨m0, p0, q0, g0, h0, f0, s0, u0⟩ := mul_step a b 1 0 hb (by omega)
  simp only [Nat.reduceAdd, cy_zero] at p0 q0 h0 f0 s0 u0
  obtain ⟨m1, p1, q1, g1, h1, f1, s1, u1⟩ := mul_step a b 1 1 hb (by omega)
  simp only [Nat.reduceAdd] at p1 q1 h1 f1 s1 u1
  obtain ⟨m2, p2, q2, g2, h2, f2, s2, u2⟩ := mul_step a b 1 2 hb (by omega)
  simp only [Nat.reduceAdd] at p2 q2 h2 f2 s2 u2
  obtain ⟨m3, p3, q3, g3, h3, f3, s3, u3⟩ := mul_step a b 1 3 hb (by omega)
  simp only [Nat.reduceAdd] at p3 q3 h3 f3 s3 u3
  have sf := cy_four a b 1 hb; simp only [Nat.reduceAdd] at sf
  go_wp2
  refine wp_loop_rounds 5 ?_
  rw [rounds_succ]; go_wp2_with (go_at_call 78; refine (m0 _).mono ?_; rintro e w1 ⟨rfl, rfl⟩)
  rw [rounds_succ]; go_wp2_with (go_at_call 78; refine (m1 _).mono ?_; rintro e w1 ⟨rfl, rfl⟩)
  rw [rounds_succ]; go_wp2_with (go_at_call 78; refine (m2 _).mono ?_; rintro e w1 ⟨rfl, rfl⟩)
  rw [rounds_succ]; go_wp2_with (go_at_call 78; refine (m3 _).mono ?_; rintro e w1 ⟨rfl, rfl⟩)
  rw [rounds_succ]; go_wp2
  clear m0 p0 q0 g0 h0 f0 s0 u0 m1 p1 q1 g1 h1 f1 s1 u1 m2 p2 q2 g2 h2 f2 s2 u2 m3 p3 q3 g3 h3 f3 s3 u3 sf
  rw [rounds_succ]
  obtain ⟨m0, p0, q0, g0, h0, f0, s0, u0⟩ := mul_step a b 2 0 hb (by omega)
  simp only [Nat.reduceAdd, cy_zero] at p0 q0 h0 f0 s0 u0
  obtain ⟨m1, p1, q1, g1, h1, f1, s1, u1⟩ := mul_step a b 2 1 hb (by omega)
  simp only [Nat.reduceAdd] at p1 q1 h1 f1 s1 u1
  obtain ⟨m2, p2, q2, g2, h2, f2, s2, u2⟩ := mul_step a b 2 2 hb (by omega)
  simp only [Nat.reduceAdd] at p2 q2 h2 f2 s2 u2
  obtain ⟨m3, p3, q3, g3, h3, f3, s3, u3⟩ := mul_step a b 2 3 hb (by omega)
  simp only [Nat.reduceAdd] at p3 q3 h3 f3 s3 u3
  have sf := cy_four a b 2 hb; simp only [Nat.reduceAdd] at sf
  go_wp2
  refine wp_loop_rounds 5 ?_
  rw [rounds_succ]; go_wp2_with (go_at_call 78; refine (m0 _).mono ?_; rintro e w1 ⟨rfl, rfl⟩)
  rw [rounds_succ]; go_wp2_with (go_at_call 78; refine (m1 _).mono ?_; rintro e w1 ⟨rfl, rfl⟩)
  rw [rounds_succ]; go_wp2_with (go_at_call 78; refine (m2 _).mono ?_; rintro e w1 ⟨rfl, rfl⟩)
  rw [rounds_succ]; go_wp2_with (go_at_call 78; refine (m3 _).mono ?_; rintro e w1 ⟨rfl, rfl⟩)
  rw [rounds_succ]; go_wp2
  clear m0 p0 q0 g0 h0 f0 s0 u0 m1 p1 q1 g1 h1 f1 s1 u1 m2 p2 q2 g2 h2 f2 s2 u2 m3 p3 q3 g3 h3 f3 s3 u3 sf
  rw [rounds_succ]
  obtain ⟨m0, p0, q0, g0, h0, f0, s0, u0⟩ := mul_step a b 3 0 hb (by omega)
  simp only [Nat.reduceAdd, cy_zero] at p0 q0 h0 f0 s0 u0
  obtain ⟨m1, p1, q1, g1, h1, f1, s1, u1⟩ := mul_step a b 3 1 hb (by omega)
  simp only [Nat.reduceAdd] at p1 q1 h1 f1 s1 u1
  obtain ⟨m2, p2, q2, g2, h2, f2, s2, u2⟩ := mul_step a b 3 2 hb (by omega)
  simp only [Nat.reduceAdd] at p2 q2 h2 f2 s2 u2
  obtain ⟨m3, p3, q3, g3, h3, f3, s3, u3⟩ := mul_step a b 3 3 hb (by omega)
  simp only [Nat.reduceAdd] at p3 q3 h3 f3 s3 u3
  have sf := cy_four a b 3 hb; simp only [Nat.reduceAdd] at sf
  go_wp2
  refine wp_loop_rounds 5 ?_
  rw [rounds_succ]; go_wp2_with (go_at_call 78; refine (m0 _).mono ?_; rintro e w1 ⟨rfl, rfl⟩)
  rw [rounds_succ]; go_wp2_with (go_at_call 78; refine (m1 _).mono ?_; rintro e w1 ⟨rfl, rfl⟩)
  rw [rounds_succ]; go_wp2_with (go_at_call 78; refine (m2 _).mono ?_; rintro e w1 ⟨rfl, rfl⟩)
  rw [rounds_succ]; go_wp2_with (go_at_call 78; refine (m3 _).mono ?_; rintro e w1 ⟨rfl, rfl⟩)
  rw [rounds_succ]; go_wp2
  clear m0 p0 q0 g0 h0 f0 s0 u0 m1 p1 q1 g1 h1 f1 s1 u1 m2 p2 q2 g2 h2 f2 s2 u2 m3 p3 q3 g3 h3 f3 s3 u3 sf
  rw [rounds_succ]; go_wp2
  go_returns
  refine ⟨rfl, ?_⟩
  go_grown
theorem mul_any (a b : Nat) (ha : a < RR) (hb : b < RR) (w : World) : Calls Try.prog 83 #[num a, num b] w fun e w' => e = .returned (wide (mulN a b)) ∧ Below w.heap.size w w' := by
  have e0 : lb (mulN a b) 0 = lb (pp a b 1) 0 := by rw [mulN_def, ← pp_four a b ha, lb_pp_keep a b 3 0 (by omega), lb_pp_keep a b 2 0 (by omega), lb_pp_keep a b 1 0 (by omega)]
  have e1 : lb (mulN a b) 1 = lb (pp a b 2) 1 := by rw [mulN_def, ← pp_four a b ha, lb_pp_keep a b 3 1 (by omega), lb_pp_keep a b 2 1 (by omega)]
  have e2 : lb (mulN a b) 2 = lb (pp a b 3) 2 := by rw [mulN_def, ← pp_four a b ha, lb_pp_keep a b 3 2 (by omega)]
  have e3 : pp a b 4 = mulN a b := by rw [mulN_def, pp_four a b ha]
  unfold wide
  rw [e0, e1, e2, ← e3]
  exact mul_walk a b hb w
end Go.Proofs.Ytbmokmkaebfneaa
