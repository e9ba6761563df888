/- The document's answer for layer 2: products. -/
import Derived.Test.YtbmokmkaebfneaaRD
namespace Go.Proofs.Ytbmokmkaebfneaa
set_option linter.unusedVariables false
set_option linter.unusedSimpArgs false
open Go.RowKit

theorem mulN_wide {x y : Nat} (hx : x < RR) (hy : y < RR) : mulN x y < 18446744073709551616 ^ 8 := by
  rw [mulN_def]
  have h := Nat.mul_lt_mul'' hx hy
  rw [show (18446744073709551616 : Nat) ^ 8 = RR * RR from by unfold RR; rfl]
  exact h
theorem rreduce_mul {base : Bool} (x y : Nat) (hx : x < RR) (hy : y < RR) (w : World) : Calls Try.prog 36 #[rfV base, wide (mulN x y)] w fun e w' => e = .returned (num (fmlN base x y)) ∧ Below w.heap.size w w' := by
  have h := rreduce (base := base) (mulN x y) (mulN_wide hx hy) w
  have e : frdN base (mulN x y) = fmlN base x y := by rw [frdN_def, mulN_def, fmlN_def]
  rw [e] at h
  exact h
set_option maxRecDepth 20000 in
set_option maxHeartbeats 2000000 in
theorem rfmul {base : Bool} (a b : Nat) (ha : a < RR) (hb : b < RR) (w : World) : Calls Try.prog 21 #[rfV base, num a, num b] w fun e w' => e = .returned (num (fmlN base a b)) ∧ Below w.heap.size w w' := by
  go_enter Try.func21, Try.ntmps21
  go_upto_region 1 with (fail)
  refine wp_world (fun W => Blk W w.heap.size 45 #[.int .u64 (lb (pN base) 0), .int .u64 (lb (pN base) 1), .int .u64 (lb (pN base) 2), .int .u64 (lb (pN base) 3), .int .u64 (lb (cN base) 0), .int .u64 (lb (cN base) 1), .int .u64 (lb (cN base) 2), .int .u64 (lb (cN base) 3)] ∧ Blk W (w.heap.size + 1) 24 #[.int .u64 (lb a 0), .int .u64 (lb a 1), .int .u64 (lb a 2), .int .u64 (lb a 3)] ∧ Blk W (w.heap.size + 1 + 1) 24 #[.int .u64 (lb b 0), .int .u64 (lb b 1), .int .u64 (lb b 2), .int .u64 (lb b 3)] ∧ Blk W (w.heap.size + 1 + 1 + 1) 24 #[.int .u64 0, .int .u64 0, .int .u64 0, .int .u64 0] ∧ Below w.heap.size w W) ?_ ⟨((((Blk.newAt (n := w.heap.size) _ _ _ (by first | rfl | simp)).alloc _).alloc _).alloc _), (((Blk.newAt (n := w.heap.size + 1) _ _ _ (by first | rfl | simp)).alloc _).alloc _), ((Blk.newAt (n := w.heap.size + 1 + 1) _ _ _ (by first | rfl | simp)).alloc _), (Blk.newAt (n := w.heap.size + 1 + 1 + 1) _ _ _ (by first | rfl | simp)), (by first | exact (below_alloc (below_alloc (below_alloc (Below.alloc (Below.refl _ _) (Below.size (Below.refl _ _)) _) _) _) _) | go_grown)⟩
  rintro W1 ⟨k1, k2, k3, k4, bw⟩
  refine wp_region_all [5] 6 [(0, 0), (1, 0), (2, 0), (3, 0), (4, 0), (5, 2)] (by kernel_rfl) (by kernel_rfl) ?_
  (refine kind_firm (v := ?_) rfl ?_ ?_; rotate_left; (focus (intro K w' hg hK; have hc1 := (k1.drew.after hg).cell; go_simp; exact hK _ (Grow.refl _))); refine kinds_put (by (simp only [Act.put, List.setIfInBounds_toArray, List.set_cons_succ, List.set_cons_zero]; try rfl)) ?_)
  (refine kind_firm (v := ?_) rfl ?_ ?_; rotate_left; (focus (intro K w' hg hK; have hc1 := (k2.drew.after hg).cell; go_simp; exact hK _ (Grow.refl _))); refine kinds_put (by (simp only [Act.put, List.setIfInBounds_toArray, List.set_cons_succ, List.set_cons_zero]; try rfl)) ?_)
  (refine kind_firm (v := ?_) rfl ?_ ?_; rotate_left; (focus (intro K w' hg hK; have hc1 := (k3.drew.after hg).cell; go_simp; exact hK _ (Grow.refl _))); refine kinds_put (by (simp only [Act.put, List.setIfInBounds_toArray, List.set_cons_succ, List.set_cons_zero]; try rfl)) ?_)
  (refine kind_firm (v := ?_) rfl ?_ ?_; rotate_left; (focus (intro K w' hg hK; go_simp; refine Calls.mono (r2times_any a b ha hb _) ?_; rintro e w'' ⟨rfl, hb⟩; refine ⟨_, rfl, ?_⟩; exact hK _ hb)); refine kinds_put (by (simp only [Act.put, List.setIfInBounds_toArray, List.set_cons_succ, List.set_cons_zero]; try rfl)) ?_)
  (refine kind_firm (v := ?_) rfl ?_ ?_; rotate_left; (focus (intro K w' hg hK; go_simp; refine Calls.mono (rreduce_mul a b ha hb _) ?_; rintro e w'' ⟨rfl, hb⟩; refine ⟨_, rfl, ?_⟩; exact hK _ hb)); refine kinds_put (by (simp only [Act.put, List.setIfInBounds_toArray, List.set_cons_succ, List.set_cons_zero]; try rfl)) ?_)
  (refine kind_store rfl rfl ?_; intro K wb2 gb2 hK; have hs : Blk wb2 (w.heap.size + 1 + 1 + 1) 24 #[.int .u64 0, .int .u64 0, .int .u64 0, .int .u64 0] := (k4.drew.after gb2); have sc := hs.cell; have sf := hs.frozen; go_simp; refine hK _ _ ?_; clear hK K)
  clear sc sf hs
  refine kind_end ?_
  intro w3 h3
  replace k4 : Blk w3 (w.heap.size + 1 + 1 + 1) 24 #[.int .u64 (lb (fmlN base a b) 0), .int .u64 (lb (fmlN base a b) 1), .int .u64 (lb (fmlN base a b) 2), .int .u64 (lb (fmlN base a b) 3)] := ((((((k4.drew.after gb2).set_ 0 (.int .u64 (lb (fmlN base a b) 0))).set_ 1 (.int .u64 (lb (fmlN base a b) 1))).set_ 2 (.int .u64 (lb (fmlN base a b) 2))).set_ 3 (.int .u64 (lb (fmlN base a b) 3))).after h3)
  have bwsz := Below.size bw
  replace bw := below_call h3 (w := w) (by first | exact (Below.setCell (p := ⟨w.heap.size + 1 + 1 + 1, 3, none⟩) (Below.setCell (p := ⟨w.heap.size + 1 + 1 + 1, 2, none⟩) (Below.setCell (p := ⟨w.heap.size + 1 + 1 + 1, 1, none⟩) (Below.setCell (p := ⟨w.heap.size + 1 + 1 + 1, 0, none⟩) (below_call gb2 (Below.drew bw)) (by dsimp only; omega) _) (by dsimp only; omega) _) (by dsimp only; omega) _) (by dsimp only; omega) _) | go_grown)
  clear h3 bwsz
  clear k1 k2 k3
  obtain ⟨k4_c, k4_f, k4_l, k4_m, k4_n⟩ := k4.knows
  clear gb2
  go_wp2
  have rk4_c := k4_c; have rk4_l := k4_l
  refine bodyPost_ret (v := num (fmlN base a b)) (by simp [results, Try.results21, go_sem, rk4_c, rk4_l]) rfl ?_
  exact ⟨rfl, (by first | exact bw | go_grown)⟩
theorem pwM_is : ∃ f : Bool → Nat → Nat → Nat → Nat → Nat, ∀ b x e n m, f b x e n m = pwN b x e (64 * n + m) := ⟨fun b x e n m => pwN b x e (64 * n + m), fun _ _ _ _ _ => rfl⟩
/-- A power by the exponent's upper bits: m of word n, and the words above. -/
noncomputable def pwM : Bool → Nat → Nat → Nat → Nat → Nat := Classical.choose pwM_is
theorem pwM_def (b : Bool) (x e n m : Nat) : pwM b x e n m = pwN b x e (64 * n + m) := Classical.choose_spec pwM_is b x e n m
theorem pwM_lt (b : Bool) (x e n m : Nat) : pwM b x e n m < RR := by rw [pwM_def]; exact lt_RR (pw_lt b x e _)
theorem pwM_even (b : Bool) (x e n k : Nat) (h : e / 2 ^ (64 * n + k) % 2 = 0) : fmlN b (pwM b x e n (k + 1)) (pwM b x e n (k + 1)) = pwM b x e n k := by rw [pwM_def, pwM_def]; exact pw_even b x e _ h
theorem pwM_odd (b : Bool) (x e n k : Nat) (h : e / 2 ^ (64 * n + k) % 2 = 1) : fmlN b (fmlN b (pwM b x e n (k + 1)) (pwM b x e n (k + 1))) x = pwM b x e n k := by rw [pwM_def, pwM_def]; exact pw_odd b x e _ h
theorem pwM_next (b : Bool) (x e n : Nat) : pwM b x e (n + 1) 0 = pwM b x e n 64 := by rw [pwM_def, pwM_def]; rfl
theorem pwM_end (b : Bool) (x e : Nat) : pwM b x e 0 0 = fpwN b x e := by rw [pwM_def]; exact pw_end b x e
theorem pwM_start (b : Bool) (x e : Nat) (he : e < RR) : pwM b x e 3 64 = 1 := by rw [pwM_def]; exact pw_start b x e he
def RPowRel (base : Bool) (a e n : Nat) (w : World) (F A E Q R : Nat) (s : Value) (wr : World) : Prop :=
  ∃ m : Nat, m ≤ 64 ∧ s = .int .i64 ((m : Int) - 1) ∧ Blk wr F 45 #[.int .u64 (lb (pN base) 0), .int .u64 (lb (pN base) 1), .int .u64 (lb (pN base) 2), .int .u64 (lb (pN base) 3), .int .u64 (lb (cN base) 0), .int .u64 (lb (cN base) 1), .int .u64 (lb (cN base) 2), .int .u64 (lb (cN base) 3)] ∧ Blk wr A 24 #[.int .u64 (lb (a) 0), .int .u64 (lb (a) 1), .int .u64 (lb (a) 2), .int .u64 (lb (a) 3)] ∧ Blk wr E 24 #[.int .u64 (lb (e) 0), .int .u64 (lb (e) 1), .int .u64 (lb (e) 2), .int .u64 (lb (e) 3)] ∧ Blk wr Q 24 #[.int .u64 0, .int .u64 0, .int .u64 0, .int .u64 0] ∧ Blk wr R 24 #[.int .u64 (lb (pwM base a e n m) 0), .int .u64 (lb (pwM base a e n m) 1), .int .u64 (lb (pwM base a e n m) 2), .int .u64 (lb (pwM base a e n m) 3)] ∧ Below w.heap.size w wr
theorem bit_of (e n k : Nat) (hn : n < 4) (hk : k < 64) : lb e n / 2 ^ k % 2 = ((e / 2 ^ (64 * n + k) % 2 : Nat) : Int) := by
  have h1 : lb e n / 2 ^ k = ((lbN e n / 2 ^ k : Nat) : Int) := by rw [lb_def, Int.natCast_ediv, Int.natCast_pow]; rfl
  rw [h1]
  have e2 := bit_part e (64 * n + k) 64 18446744073709551616 rfl (by omega)
  rw [show (64 * n + k) / 64 = n by omega, show (64 * n + k) % 64 = k by omega] at e2
  rw [lbN_eq, ← e2]
  omega
theorem pw_lt2 (b : Bool) (x e k : Nat) : pwN b x e k < RR := lt_RR (pw_lt b x e k)
theorem pow_one_cells : (#[.int .u64 1, .int .u64 0, .int .u64 0, .int .u64 0] : Array Value) = #[.int .u64 (lb (1) 0), .int .u64 (lb (1) 1), .int .u64 (lb (1) 2), .int .u64 (lb (1) 3)] := by have h := num_one; unfold num oneV at h; exact (Value.agg.inj h).symm
set_option maxRecDepth 20000 in
set_option maxHeartbeats 16000000 in
theorem rpow {base : Bool} (a ex : Nat) (ha : a < RR) (he : ex < RR) (w : World) : Calls Try.prog 66 #[rfV base, num a, num ex] w fun e w' => e = .returned (num (fpwN base a ex)) ∧ Below w.heap.size w w' := by
  go_enter Try.func66, Try.ntmps66
  go_wp2
  refine wp_loop_rounds 5 ?_
  rw [rounds_succ]
  go_wp2
  go_loopw [9] (fun s wr => RPowRel base a ex 3 w w.heap.size (w.heap.size + 1) (w.heap.size + 1 + 1) (w.heap.size + 1 + 1 + 1) (w.heap.size + 1 + 1 + 1 + 1) s wr) (fun s _ => (intOf s + 1).toNat)
  case atStart => exact ⟨64, by omega, rfl, (((((Blk.newAt (n := w.heap.size) _ _ _ (by first | rfl | simp)).alloc _).alloc _).alloc _).alloc _), ((((Blk.newAt (n := w.heap.size + 1) _ _ _ (by first | rfl | simp)).alloc _).alloc _).alloc _), (((Blk.newAt (n := w.heap.size + 1 + 1) _ _ _ (by first | rfl | simp)).alloc _).alloc _), ((Blk.newAt (n := w.heap.size + 1 + 1 + 1) _ _ _ (by first | rfl | simp)).alloc _), Blk.re ((Blk.newAt (n := w.heap.size + 1 + 1 + 1 + 1) _ _ _ (by first | rfl | simp))) (by rw [pwM_start base a ex he]; exact pow_one_cells), (by first | exact (below_alloc (below_alloc (below_alloc (below_alloc (Below.alloc (Below.refl _ _) (Below.size (Below.refl _ _)) _) _) _) _) _) | go_grown)⟩
  case round =>
    unfold RPowRel at hrel
    obtain ⟨m, hm, rfl, k1, k2, k3, k4, k5, bw⟩ := hrel
    by_cases hz : 0 < m
    · obtain ⟨k, rfl⟩ : ∃ k, m = k + 1 := ⟨m - 1, by omega⟩
      have e1 : ((k + 1 : Nat) : Int) - 1 = (k : Int) := by omega
      rw [e1]
      clear e1
      have hdt : decide (0 ≤ (k : Int)) = true := decide_eq_true (by omega)
      have hdp : 0 ≤ (k : Int) := by omega
      have hk6 : (k : Int) < 64 := by omega
      have hbit := bit_of ex 3 k (by omega) (by omega)
      have hb0 : 0 ≤ lb ex 3 / 2 ^ k := Int.ediv_nonneg (lb_lo ex 3) (by exact Int.le_of_lt (Int.pow_pos (by decide)))
      rcases Nat.mod_two_eq_zero_or_one (ex / 2 ^ (64 * 3 + k)) with hb | hb
      · rw [hb] at hbit
        have hq : (lb ex 3 / 2 ^ k % 2 == 1) = false := by rw [hbit]; rfl
        have hstep := Lib.hid (pwM_even base a ex 3 k hb)
        clear hbit hb
        obtain ⟨k1_c, k1_f, k1_l, k1_m, k1_n⟩ := k1.knows
        obtain ⟨k2_c, k2_f, k2_l, k2_m, k2_n⟩ := k2.knows
        obtain ⟨k3_c, k3_f, k3_l, k3_m, k3_n⟩ := k3.knows
        obtain ⟨k4_c, k4_f, k4_l, k4_m, k4_n⟩ := k4.knows
        obtain ⟨k5_c, k5_f, k5_l, k5_m, k5_n⟩ := k5.knows
        go_wp2_with fail
        (with_reducible refine (rfmul (pwM base a ex 3 (k + 1)) (pwM base a ex 3 (k + 1)) (pwM_lt base a ex 3 (k + 1)) (pwM_lt base a ex 3 (k + 1)) _).mono ?_)
        rintro e w1 ⟨rfl, h1⟩
        clear k1_c k1_f k1_m k1_n k2_c k2_f k2_m k2_n k3_c k3_f k3_m k3_n k4_c k4_f k4_m k4_n k5_c k5_f k5_m k5_n
        replace k1 := (k1.after h1)
        replace k2 := (k2.after h1)
        replace k3 := (k3.after h1)
        replace k4 := (k4.after h1)
        replace k5 := (k5.after h1)
        have bwsz := Below.size bw
        replace bw := below_call h1 (w := w) (by first | exact bw | go_grown)
        clear h1 bwsz k1_l k2_l k3_l k4_l k5_l
        obtain ⟨k1_c, k1_f, k1_l, k1_m, k1_n⟩ := k1.knows
        obtain ⟨k2_c, k2_f, k2_l, k2_m, k2_n⟩ := k2.knows
        obtain ⟨k3_c, k3_f, k3_l, k3_m, k3_n⟩ := k3.knows
        obtain ⟨k4_c, k4_f, k4_l, k4_m, k4_n⟩ := k4.knows
        obtain ⟨k5_c, k5_f, k5_l, k5_m, k5_n⟩ := k5.knows
        go_wp2
        exact ⟨⟨k, by omega, rfl, ((((k1.far (by dsimp only; omega) _).far (by dsimp only; omega) _).far (by dsimp only; omega) _).far (by dsimp only; omega) _), ((((k2.far (by dsimp only; omega) _).far (by dsimp only; omega) _).far (by dsimp only; omega) _).far (by dsimp only; omega) _), ((((k3.far (by dsimp only; omega) _).far (by dsimp only; omega) _).far (by dsimp only; omega) _).far (by dsimp only; omega) _), ((((k4.far (by dsimp only; omega) _).far (by dsimp only; omega) _).far (by dsimp only; omega) _).far (by dsimp only; omega) _), Blk.re (cs := #[.int .u64 (lb (fmlN base (pwM base a ex 3 (k + 1)) (pwM base a ex 3 (k + 1))) 0), .int .u64 (lb (fmlN base (pwM base a ex 3 (k + 1)) (pwM base a ex 3 (k + 1))) 1), .int .u64 (lb (fmlN base (pwM base a ex 3 (k + 1)) (pwM base a ex 3 (k + 1))) 2), .int .u64 (lb (fmlN base (pwM base a ex 3 (k + 1)) (pwM base a ex 3 (k + 1))) 3)]) (((((k5.set_ 0 (.int .u64 (lb (fmlN base (pwM base a ex 3 (k + 1)) (pwM base a ex 3 (k + 1))) 0))).set_ 1 (.int .u64 (lb (fmlN base (pwM base a ex 3 (k + 1)) (pwM base a ex 3 (k + 1))) 1))).set_ 2 (.int .u64 (lb (fmlN base (pwM base a ex 3 (k + 1)) (pwM base a ex 3 (k + 1))) 2))).set_ 3 (.int .u64 (lb (fmlN base (pwM base a ex 3 (k + 1)) (pwM base a ex 3 (k + 1))) 3)))) (by rw [hstep.out]), (by first | exact (Below.setCell (p := ⟨w.heap.size + 1 + 1 + 1 + 1, 3, none⟩) (Below.setCell (p := ⟨w.heap.size + 1 + 1 + 1 + 1, 2, none⟩) (Below.setCell (p := ⟨w.heap.size + 1 + 1 + 1 + 1, 1, none⟩) (Below.setCell (p := ⟨w.heap.size + 1 + 1 + 1 + 1, 0, none⟩) bw (by dsimp only; omega) _) (by dsimp only; omega) _) (by dsimp only; omega) _) (by dsimp only; omega) _) | go_grown)⟩, by simp [intOf]⟩
      · rw [hb] at hbit
        have hq : (lb ex 3 / 2 ^ k % 2 == 1) = true := by rw [hbit]; rfl
        have hstep := Lib.hid (pwM_odd base a ex 3 k hb)
        clear hbit hb
        obtain ⟨k1_c, k1_f, k1_l, k1_m, k1_n⟩ := k1.knows
        obtain ⟨k2_c, k2_f, k2_l, k2_m, k2_n⟩ := k2.knows
        obtain ⟨k3_c, k3_f, k3_l, k3_m, k3_n⟩ := k3.knows
        obtain ⟨k4_c, k4_f, k4_l, k4_m, k4_n⟩ := k4.knows
        obtain ⟨k5_c, k5_f, k5_l, k5_m, k5_n⟩ := k5.knows
        go_wp2_with fail
        (with_reducible refine (rfmul (pwM base a ex 3 (k + 1)) (pwM base a ex 3 (k + 1)) (pwM_lt base a ex 3 (k + 1)) (pwM_lt base a ex 3 (k + 1)) _).mono ?_)
        rintro e w2 ⟨rfl, h2⟩
        clear k1_c k1_f k1_m k1_n k2_c k2_f k2_m k2_n k3_c k3_f k3_m k3_n k4_c k4_f k4_m k4_n k5_c k5_f k5_m k5_n
        replace k1 := (k1.after h2)
        replace k2 := (k2.after h2)
        replace k3 := (k3.after h2)
        replace k4 := (k4.after h2)
        replace k5 := (k5.after h2)
        have bwsz := Below.size bw
        replace bw := below_call h2 (w := w) (by first | exact bw | go_grown)
        clear h2 bwsz k1_l k2_l k3_l k4_l k5_l
        obtain ⟨k1_c, k1_f, k1_l, k1_m, k1_n⟩ := k1.knows
        obtain ⟨k2_c, k2_f, k2_l, k2_m, k2_n⟩ := k2.knows
        obtain ⟨k3_c, k3_f, k3_l, k3_m, k3_n⟩ := k3.knows
        obtain ⟨k4_c, k4_f, k4_l, k4_m, k4_n⟩ := k4.knows
        obtain ⟨k5_c, k5_f, k5_l, k5_m, k5_n⟩ := k5.knows
        go_wp2_with fail
        (with_reducible refine (rfmul (fmlN base (pwM base a ex 3 (k + 1)) (pwM base a ex 3 (k + 1))) a (lt_RR (fmlN_lt base (pwM base a ex 3 (k + 1)) (pwM base a ex 3 (k + 1)))) ha _).mono ?_)
        rintro e w3 ⟨rfl, h3⟩
        clear k1_c k1_f k1_m k1_n k2_c k2_f k2_m k2_n k3_c k3_f k3_m k3_n k4_c k4_f k4_m k4_n k5_c k5_f k5_m k5_n
        replace k1 := (((((k1.far (by dsimp only; omega) _).far (by dsimp only; omega) _).far (by dsimp only; omega) _).far (by dsimp only; omega) _).after h3)
        replace k2 := (((((k2.far (by dsimp only; omega) _).far (by dsimp only; omega) _).far (by dsimp only; omega) _).far (by dsimp only; omega) _).after h3)
        replace k3 := (((((k3.far (by dsimp only; omega) _).far (by dsimp only; omega) _).far (by dsimp only; omega) _).far (by dsimp only; omega) _).after h3)
        replace k4 := (((((k4.far (by dsimp only; omega) _).far (by dsimp only; omega) _).far (by dsimp only; omega) _).far (by dsimp only; omega) _).after h3)
        replace k5 : Blk w3 (w.heap.size + 1 + 1 + 1 + 1) 24 #[.int .u64 (lb (fmlN base (pwM base a ex 3 (k + 1)) (pwM base a ex 3 (k + 1))) 0), .int .u64 (lb (fmlN base (pwM base a ex 3 (k + 1)) (pwM base a ex 3 (k + 1))) 1), .int .u64 (lb (fmlN base (pwM base a ex 3 (k + 1)) (pwM base a ex 3 (k + 1))) 2), .int .u64 (lb (fmlN base (pwM base a ex 3 (k + 1)) (pwM base a ex 3 (k + 1))) 3)] := (((((k5.set_ 0 (.int .u64 (lb (fmlN base (pwM base a ex 3 (k + 1)) (pwM base a ex 3 (k + 1))) 0))).set_ 1 (.int .u64 (lb (fmlN base (pwM base a ex 3 (k + 1)) (pwM base a ex 3 (k + 1))) 1))).set_ 2 (.int .u64 (lb (fmlN base (pwM base a ex 3 (k + 1)) (pwM base a ex 3 (k + 1))) 2))).set_ 3 (.int .u64 (lb (fmlN base (pwM base a ex 3 (k + 1)) (pwM base a ex 3 (k + 1))) 3))).after h3)
        have bwsz := Below.size bw
        replace bw := below_call h3 (w := w) (by first | exact (Below.setCell (p := ⟨w.heap.size + 1 + 1 + 1 + 1, 3, none⟩) (Below.setCell (p := ⟨w.heap.size + 1 + 1 + 1 + 1, 2, none⟩) (Below.setCell (p := ⟨w.heap.size + 1 + 1 + 1 + 1, 1, none⟩) (Below.setCell (p := ⟨w.heap.size + 1 + 1 + 1 + 1, 0, none⟩) bw (by dsimp only; omega) _) (by dsimp only; omega) _) (by dsimp only; omega) _) (by dsimp only; omega) _) | go_grown)
        clear h3 bwsz k1_l k2_l k3_l k4_l k5_l
        obtain ⟨k1_c, k1_f, k1_l, k1_m, k1_n⟩ := k1.knows
        obtain ⟨k2_c, k2_f, k2_l, k2_m, k2_n⟩ := k2.knows
        obtain ⟨k3_c, k3_f, k3_l, k3_m, k3_n⟩ := k3.knows
        obtain ⟨k4_c, k4_f, k4_l, k4_m, k4_n⟩ := k4.knows
        obtain ⟨k5_c, k5_f, k5_l, k5_m, k5_n⟩ := k5.knows
        go_wp2
        exact ⟨⟨k, by omega, rfl, ((((k1.far (by dsimp only; omega) _).far (by dsimp only; omega) _).far (by dsimp only; omega) _).far (by dsimp only; omega) _), ((((k2.far (by dsimp only; omega) _).far (by dsimp only; omega) _).far (by dsimp only; omega) _).far (by dsimp only; omega) _), ((((k3.far (by dsimp only; omega) _).far (by dsimp only; omega) _).far (by dsimp only; omega) _).far (by dsimp only; omega) _), ((((k4.far (by dsimp only; omega) _).far (by dsimp only; omega) _).far (by dsimp only; omega) _).far (by dsimp only; omega) _), Blk.re (cs := #[.int .u64 (lb (fmlN base (fmlN base (pwM base a ex 3 (k + 1)) (pwM base a ex 3 (k + 1))) a) 0), .int .u64 (lb (fmlN base (fmlN base (pwM base a ex 3 (k + 1)) (pwM base a ex 3 (k + 1))) a) 1), .int .u64 (lb (fmlN base (fmlN base (pwM base a ex 3 (k + 1)) (pwM base a ex 3 (k + 1))) a) 2), .int .u64 (lb (fmlN base (fmlN base (pwM base a ex 3 (k + 1)) (pwM base a ex 3 (k + 1))) a) 3)]) (((((k5.set_ 0 (.int .u64 (lb (fmlN base (fmlN base (pwM base a ex 3 (k + 1)) (pwM base a ex 3 (k + 1))) a) 0))).set_ 1 (.int .u64 (lb (fmlN base (fmlN base (pwM base a ex 3 (k + 1)) (pwM base a ex 3 (k + 1))) a) 1))).set_ 2 (.int .u64 (lb (fmlN base (fmlN base (pwM base a ex 3 (k + 1)) (pwM base a ex 3 (k + 1))) a) 2))).set_ 3 (.int .u64 (lb (fmlN base (fmlN base (pwM base a ex 3 (k + 1)) (pwM base a ex 3 (k + 1))) a) 3)))) (by rw [hstep.out]), (by first | exact (Below.setCell (p := ⟨w.heap.size + 1 + 1 + 1 + 1, 3, none⟩) (Below.setCell (p := ⟨w.heap.size + 1 + 1 + 1 + 1, 2, none⟩) (Below.setCell (p := ⟨w.heap.size + 1 + 1 + 1 + 1, 1, none⟩) (Below.setCell (p := ⟨w.heap.size + 1 + 1 + 1 + 1, 0, none⟩) bw (by dsimp only; omega) _) (by dsimp only; omega) _) (by dsimp only; omega) _) (by dsimp only; omega) _) | go_grown)⟩, by simp [intOf]⟩
    · obtain rfl : m = 0 := by omega
      have hdt : decide (0 ≤ ((0 : Nat) : Int) - 1) = false := rfl
      have hdp : ¬ 0 ≤ ((0 : Nat) : Int) - 1 := of_decide_eq_false hdt
      have k6 := k5; rw [pwM_next] at k6; clear k5; have k5 := k6; clear k6
      obtain ⟨k1_c, k1_f, k1_l, k1_m, k1_n⟩ := k1.knows
      obtain ⟨k2_c, k2_f, k2_l, k2_m, k2_n⟩ := k2.knows
      obtain ⟨k3_c, k3_f, k3_l, k3_m, k3_n⟩ := k3.knows
      obtain ⟨k4_c, k4_f, k4_l, k4_m, k4_n⟩ := k4.knows
      obtain ⟨k5_c, k5_f, k5_l, k5_m, k5_n⟩ := k5.knows
      go_wp2
      rw [rounds_succ]
      go_wp2
      go_loopw [9] (fun s wr => RPowRel base a ex 2 w w.heap.size (w.heap.size + 1) (w.heap.size + 1 + 1) (w.heap.size + 1 + 1 + 1) (w.heap.size + 1 + 1 + 1 + 1) s wr) (fun s _ => (intOf s + 1).toNat)
      case atStart => exact ⟨64, by omega, rfl, k1, k2, k3, k4, k5, (by first | exact bw | go_grown)⟩
      case round =>
        clear k1_c k1_f k1_l k1_m k1_n k2_c k2_f k2_l k2_m k2_n k3_c k3_f k3_l k3_m k3_n k4_c k4_f k4_l k4_m k4_n k5_c k5_f k5_l k5_m k5_n
        clear k1 k2 k3 k4 k5 bw
        unfold RPowRel at hrel
        obtain ⟨m, hm, rfl, k1, k2, k3, k4, k5, bw⟩ := hrel
        by_cases hz : 0 < m
        · obtain ⟨k, rfl⟩ : ∃ k, m = k + 1 := ⟨m - 1, by omega⟩
          have e1 : ((k + 1 : Nat) : Int) - 1 = (k : Int) := by omega
          rw [e1]
          clear e1
          have hdt : decide (0 ≤ (k : Int)) = true := decide_eq_true (by omega)
          have hdp : 0 ≤ (k : Int) := by omega
          have hk6 : (k : Int) < 64 := by omega
          have hbit := bit_of ex 2 k (by omega) (by omega)
          have hb0 : 0 ≤ lb ex 2 / 2 ^ k := Int.ediv_nonneg (lb_lo ex 2) (by exact Int.le_of_lt (Int.pow_pos (by decide)))
          rcases Nat.mod_two_eq_zero_or_one (ex / 2 ^ (64 * 2 + k)) with hb | hb
          · rw [hb] at hbit
            have hq : (lb ex 2 / 2 ^ k % 2 == 1) = false := by rw [hbit]; rfl
            have hstep := Lib.hid (pwM_even base a ex 2 k hb)
            clear hbit hb
            obtain ⟨k1_c, k1_f, k1_l, k1_m, k1_n⟩ := k1.knows
            obtain ⟨k2_c, k2_f, k2_l, k2_m, k2_n⟩ := k2.knows
            obtain ⟨k3_c, k3_f, k3_l, k3_m, k3_n⟩ := k3.knows
            obtain ⟨k4_c, k4_f, k4_l, k4_m, k4_n⟩ := k4.knows
            obtain ⟨k5_c, k5_f, k5_l, k5_m, k5_n⟩ := k5.knows
            go_wp2_with fail
            (with_reducible refine (rfmul (pwM base a ex 2 (k + 1)) (pwM base a ex 2 (k + 1)) (pwM_lt base a ex 2 (k + 1)) (pwM_lt base a ex 2 (k + 1)) _).mono ?_)
            rintro e w4 ⟨rfl, h4⟩
            clear k1_c k1_f k1_m k1_n k2_c k2_f k2_m k2_n k3_c k3_f k3_m k3_n k4_c k4_f k4_m k4_n k5_c k5_f k5_m k5_n
            replace k1 := (k1.after h4)
            replace k2 := (k2.after h4)
            replace k3 := (k3.after h4)
            replace k4 := (k4.after h4)
            replace k5 := (k5.after h4)
            have bwsz := Below.size bw
            replace bw := below_call h4 (w := w) (by first | exact bw | go_grown)
            clear h4 bwsz k1_l k2_l k3_l k4_l k5_l
            obtain ⟨k1_c, k1_f, k1_l, k1_m, k1_n⟩ := k1.knows
            obtain ⟨k2_c, k2_f, k2_l, k2_m, k2_n⟩ := k2.knows
            obtain ⟨k3_c, k3_f, k3_l, k3_m, k3_n⟩ := k3.knows
            obtain ⟨k4_c, k4_f, k4_l, k4_m, k4_n⟩ := k4.knows
            obtain ⟨k5_c, k5_f, k5_l, k5_m, k5_n⟩ := k5.knows
            go_wp2
            exact ⟨⟨k, by omega, rfl, ((((k1.far (by dsimp only; omega) _).far (by dsimp only; omega) _).far (by dsimp only; omega) _).far (by dsimp only; omega) _), ((((k2.far (by dsimp only; omega) _).far (by dsimp only; omega) _).far (by dsimp only; omega) _).far (by dsimp only; omega) _), ((((k3.far (by dsimp only; omega) _).far (by dsimp only; omega) _).far (by dsimp only; omega) _).far (by dsimp only; omega) _), ((((k4.far (by dsimp only; omega) _).far (by dsimp only; omega) _).far (by dsimp only; omega) _).far (by dsimp only; omega) _), Blk.re (cs := #[.int .u64 (lb (fmlN base (pwM base a ex 2 (k + 1)) (pwM base a ex 2 (k + 1))) 0), .int .u64 (lb (fmlN base (pwM base a ex 2 (k + 1)) (pwM base a ex 2 (k + 1))) 1), .int .u64 (lb (fmlN base (pwM base a ex 2 (k + 1)) (pwM base a ex 2 (k + 1))) 2), .int .u64 (lb (fmlN base (pwM base a ex 2 (k + 1)) (pwM base a ex 2 (k + 1))) 3)]) (((((k5.set_ 0 (.int .u64 (lb (fmlN base (pwM base a ex 2 (k + 1)) (pwM base a ex 2 (k + 1))) 0))).set_ 1 (.int .u64 (lb (fmlN base (pwM base a ex 2 (k + 1)) (pwM base a ex 2 (k + 1))) 1))).set_ 2 (.int .u64 (lb (fmlN base (pwM base a ex 2 (k + 1)) (pwM base a ex 2 (k + 1))) 2))).set_ 3 (.int .u64 (lb (fmlN base (pwM base a ex 2 (k + 1)) (pwM base a ex 2 (k + 1))) 3)))) (by rw [hstep.out]), (by first | exact (Below.setCell (p := ⟨w.heap.size + 1 + 1 + 1 + 1, 3, none⟩) (Below.setCell (p := ⟨w.heap.size + 1 + 1 + 1 + 1, 2, none⟩) (Below.setCell (p := ⟨w.heap.size + 1 + 1 + 1 + 1, 1, none⟩) (Below.setCell (p := ⟨w.heap.size + 1 + 1 + 1 + 1, 0, none⟩) bw (by dsimp only; omega) _) (by dsimp only; omega) _) (by dsimp only; omega) _) (by dsimp only; omega) _) | go_grown)⟩, by simp [intOf]⟩
          · rw [hb] at hbit
            have hq : (lb ex 2 / 2 ^ k % 2 == 1) = true := by rw [hbit]; rfl
            have hstep := Lib.hid (pwM_odd base a ex 2 k hb)
            clear hbit hb
            obtain ⟨k1_c, k1_f, k1_l, k1_m, k1_n⟩ := k1.knows
            obtain ⟨k2_c, k2_f, k2_l, k2_m, k2_n⟩ := k2.knows
            obtain ⟨k3_c, k3_f, k3_l, k3_m, k3_n⟩ := k3.knows
            obtain ⟨k4_c, k4_f, k4_l, k4_m, k4_n⟩ := k4.knows
            obtain ⟨k5_c, k5_f, k5_l, k5_m, k5_n⟩ := k5.knows
            go_wp2_with fail
            (with_reducible refine (rfmul (pwM base a ex 2 (k + 1)) (pwM base a ex 2 (k + 1)) (pwM_lt base a ex 2 (k + 1)) (pwM_lt base a ex 2 (k + 1)) _).mono ?_)
            rintro e w5 ⟨rfl, h5⟩
            clear k1_c k1_f k1_m k1_n k2_c k2_f k2_m k2_n k3_c k3_f k3_m k3_n k4_c k4_f k4_m k4_n k5_c k5_f k5_m k5_n
            replace k1 := (k1.after h5)
            replace k2 := (k2.after h5)
            replace k3 := (k3.after h5)
            replace k4 := (k4.after h5)
            replace k5 := (k5.after h5)
            have bwsz := Below.size bw
            replace bw := below_call h5 (w := w) (by first | exact bw | go_grown)
            clear h5 bwsz k1_l k2_l k3_l k4_l k5_l
            obtain ⟨k1_c, k1_f, k1_l, k1_m, k1_n⟩ := k1.knows
            obtain ⟨k2_c, k2_f, k2_l, k2_m, k2_n⟩ := k2.knows
            obtain ⟨k3_c, k3_f, k3_l, k3_m, k3_n⟩ := k3.knows
            obtain ⟨k4_c, k4_f, k4_l, k4_m, k4_n⟩ := k4.knows
            obtain ⟨k5_c, k5_f, k5_l, k5_m, k5_n⟩ := k5.knows
            go_wp2_with fail
            (with_reducible refine (rfmul (fmlN base (pwM base a ex 2 (k + 1)) (pwM base a ex 2 (k + 1))) a (lt_RR (fmlN_lt base (pwM base a ex 2 (k + 1)) (pwM base a ex 2 (k + 1)))) ha _).mono ?_)
            rintro e w6 ⟨rfl, h6⟩
            clear k1_c k1_f k1_m k1_n k2_c k2_f k2_m k2_n k3_c k3_f k3_m k3_n k4_c k4_f k4_m k4_n k5_c k5_f k5_m k5_n
            replace k1 := (((((k1.far (by dsimp only; omega) _).far (by dsimp only; omega) _).far (by dsimp only; omega) _).far (by dsimp only; omega) _).after h6)
            replace k2 := (((((k2.far (by dsimp only; omega) _).far (by dsimp only; omega) _).far (by dsimp only; omega) _).far (by dsimp only; omega) _).after h6)
            replace k3 := (((((k3.far (by dsimp only; omega) _).far (by dsimp only; omega) _).far (by dsimp only; omega) _).far (by dsimp only; omega) _).after h6)
            replace k4 := (((((k4.far (by dsimp only; omega) _).far (by dsimp only; omega) _).far (by dsimp only; omega) _).far (by dsimp only; omega) _).after h6)
            replace k5 : Blk w6 (w.heap.size + 1 + 1 + 1 + 1) 24 #[.int .u64 (lb (fmlN base (pwM base a ex 2 (k + 1)) (pwM base a ex 2 (k + 1))) 0), .int .u64 (lb (fmlN base (pwM base a ex 2 (k + 1)) (pwM base a ex 2 (k + 1))) 1), .int .u64 (lb (fmlN base (pwM base a ex 2 (k + 1)) (pwM base a ex 2 (k + 1))) 2), .int .u64 (lb (fmlN base (pwM base a ex 2 (k + 1)) (pwM base a ex 2 (k + 1))) 3)] := (((((k5.set_ 0 (.int .u64 (lb (fmlN base (pwM base a ex 2 (k + 1)) (pwM base a ex 2 (k + 1))) 0))).set_ 1 (.int .u64 (lb (fmlN base (pwM base a ex 2 (k + 1)) (pwM base a ex 2 (k + 1))) 1))).set_ 2 (.int .u64 (lb (fmlN base (pwM base a ex 2 (k + 1)) (pwM base a ex 2 (k + 1))) 2))).set_ 3 (.int .u64 (lb (fmlN base (pwM base a ex 2 (k + 1)) (pwM base a ex 2 (k + 1))) 3))).after h6)
            have bwsz := Below.size bw
            replace bw := below_call h6 (w := w) (by first | exact (Below.setCell (p := ⟨w.heap.size + 1 + 1 + 1 + 1, 3, none⟩) (Below.setCell (p := ⟨w.heap.size + 1 + 1 + 1 + 1, 2, none⟩) (Below.setCell (p := ⟨w.heap.size + 1 + 1 + 1 + 1, 1, none⟩) (Below.setCell (p := ⟨w.heap.size + 1 + 1 + 1 + 1, 0, none⟩) bw (by dsimp only; omega) _) (by dsimp only; omega) _) (by dsimp only; omega) _) (by dsimp only; omega) _) | go_grown)
            clear h6 bwsz k1_l k2_l k3_l k4_l k5_l
            obtain ⟨k1_c, k1_f, k1_l, k1_m, k1_n⟩ := k1.knows
            obtain ⟨k2_c, k2_f, k2_l, k2_m, k2_n⟩ := k2.knows
            obtain ⟨k3_c, k3_f, k3_l, k3_m, k3_n⟩ := k3.knows
            obtain ⟨k4_c, k4_f, k4_l, k4_m, k4_n⟩ := k4.knows
            obtain ⟨k5_c, k5_f, k5_l, k5_m, k5_n⟩ := k5.knows
            go_wp2
            exact ⟨⟨k, by omega, rfl, ((((k1.far (by dsimp only; omega) _).far (by dsimp only; omega) _).far (by dsimp only; omega) _).far (by dsimp only; omega) _), ((((k2.far (by dsimp only; omega) _).far (by dsimp only; omega) _).far (by dsimp only; omega) _).far (by dsimp only; omega) _), ((((k3.far (by dsimp only; omega) _).far (by dsimp only; omega) _).far (by dsimp only; omega) _).far (by dsimp only; omega) _), ((((k4.far (by dsimp only; omega) _).far (by dsimp only; omega) _).far (by dsimp only; omega) _).far (by dsimp only; omega) _), Blk.re (cs := #[.int .u64 (lb (fmlN base (fmlN base (pwM base a ex 2 (k + 1)) (pwM base a ex 2 (k + 1))) a) 0), .int .u64 (lb (fmlN base (fmlN base (pwM base a ex 2 (k + 1)) (pwM base a ex 2 (k + 1))) a) 1), .int .u64 (lb (fmlN base (fmlN base (pwM base a ex 2 (k + 1)) (pwM base a ex 2 (k + 1))) a) 2), .int .u64 (lb (fmlN base (fmlN base (pwM base a ex 2 (k + 1)) (pwM base a ex 2 (k + 1))) a) 3)]) (((((k5.set_ 0 (.int .u64 (lb (fmlN base (fmlN base (pwM base a ex 2 (k + 1)) (pwM base a ex 2 (k + 1))) a) 0))).set_ 1 (.int .u64 (lb (fmlN base (fmlN base (pwM base a ex 2 (k + 1)) (pwM base a ex 2 (k + 1))) a) 1))).set_ 2 (.int .u64 (lb (fmlN base (fmlN base (pwM base a ex 2 (k + 1)) (pwM base a ex 2 (k + 1))) a) 2))).set_ 3 (.int .u64 (lb (fmlN base (fmlN base (pwM base a ex 2 (k + 1)) (pwM base a ex 2 (k + 1))) a) 3)))) (by rw [hstep.out]), (by first | exact (Below.setCell (p := ⟨w.heap.size + 1 + 1 + 1 + 1, 3, none⟩) (Below.setCell (p := ⟨w.heap.size + 1 + 1 + 1 + 1, 2, none⟩) (Below.setCell (p := ⟨w.heap.size + 1 + 1 + 1 + 1, 1, none⟩) (Below.setCell (p := ⟨w.heap.size + 1 + 1 + 1 + 1, 0, none⟩) bw (by dsimp only; omega) _) (by dsimp only; omega) _) (by dsimp only; omega) _) (by dsimp only; omega) _) | go_grown)⟩, by simp [intOf]⟩
        · obtain rfl : m = 0 := by omega
          have hdt : decide (0 ≤ ((0 : Nat) : Int) - 1) = false := rfl
          have hdp : ¬ 0 ≤ ((0 : Nat) : Int) - 1 := of_decide_eq_false hdt
          have k6 := k5; rw [pwM_next] at k6; clear k5; have k5 := k6; clear k6
          obtain ⟨k1_c, k1_f, k1_l, k1_m, k1_n⟩ := k1.knows
          obtain ⟨k2_c, k2_f, k2_l, k2_m, k2_n⟩ := k2.knows
          obtain ⟨k3_c, k3_f, k3_l, k3_m, k3_n⟩ := k3.knows
          obtain ⟨k4_c, k4_f, k4_l, k4_m, k4_n⟩ := k4.knows
          obtain ⟨k5_c, k5_f, k5_l, k5_m, k5_n⟩ := k5.knows
          go_wp2
          rw [rounds_succ]
          go_wp2
          go_loopw [9] (fun s wr => RPowRel base a ex 1 w w.heap.size (w.heap.size + 1) (w.heap.size + 1 + 1) (w.heap.size + 1 + 1 + 1) (w.heap.size + 1 + 1 + 1 + 1) s wr) (fun s _ => (intOf s + 1).toNat)
          case atStart => exact ⟨64, by omega, rfl, k1, k2, k3, k4, k5, (by first | exact bw | go_grown)⟩
          case round =>
            clear k1_c k1_f k1_l k1_m k1_n k2_c k2_f k2_l k2_m k2_n k3_c k3_f k3_l k3_m k3_n k4_c k4_f k4_l k4_m k4_n k5_c k5_f k5_l k5_m k5_n
            clear k1 k2 k3 k4 k5 bw
            unfold RPowRel at hrel
            obtain ⟨m, hm, rfl, k1, k2, k3, k4, k5, bw⟩ := hrel
            by_cases hz : 0 < m
            · obtain ⟨k, rfl⟩ : ∃ k, m = k + 1 := ⟨m - 1, by omega⟩
              have e1 : ((k + 1 : Nat) : Int) - 1 = (k : Int) := by omega
              rw [e1]
              clear e1
              have hdt : decide (0 ≤ (k : Int)) = true := decide_eq_true (by omega)
              have hdp : 0 ≤ (k : Int) := by omega
              have hk6 : (k : Int) < 64 := by omega
              have hbit := bit_of ex 1 k (by omega) (by omega)
              have hb0 : 0 ≤ lb ex 1 / 2 ^ k := Int.ediv_nonneg (lb_lo ex 1) (by exact Int.le_of_lt (Int.pow_pos (by decide)))
              rcases Nat.mod_two_eq_zero_or_one (ex / 2 ^ (64 * 1 + k)) with hb | hb
              · rw [hb] at hbit
                have hq : (lb ex 1 / 2 ^ k % 2 == 1) = false := by rw [hbit]; rfl
                have hstep := Lib.hid (pwM_even base a ex 1 k hb)
                clear hbit hb
                obtain ⟨k1_c, k1_f, k1_l, k1_m, k1_n⟩ := k1.knows
                obtain ⟨k2_c, k2_f, k2_l, k2_m, k2_n⟩ := k2.knows
                obtain ⟨k3_c, k3_f, k3_l, k3_m, k3_n⟩ := k3.knows
                obtain ⟨k4_c, k4_f, k4_l, k4_m, k4_n⟩ := k4.knows
                obtain ⟨k5_c, k5_f, k5_l, k5_m, k5_n⟩ := k5.knows
                go_wp2_with fail
                (with_reducible refine (rfmul (pwM base a ex 1 (k + 1)) (pwM base a ex 1 (k + 1)) (pwM_lt base a ex 1 (k + 1)) (pwM_lt base a ex 1 (k + 1)) _).mono ?_)
                rintro e w7 ⟨rfl, h7⟩
                clear k1_c k1_f k1_m k1_n k2_c k2_f k2_m k2_n k3_c k3_f k3_m k3_n k4_c k4_f k4_m k4_n k5_c k5_f k5_m k5_n
                replace k1 := (k1.after h7)
                replace k2 := (k2.after h7)
                replace k3 := (k3.after h7)
                replace k4 := (k4.after h7)
                replace k5 := (k5.after h7)
                have bwsz := Below.size bw
                replace bw := below_call h7 (w := w) (by first | exact bw | go_grown)
                clear h7 bwsz k1_l k2_l k3_l k4_l k5_l
                obtain ⟨k1_c, k1_f, k1_l, k1_m, k1_n⟩ := k1.knows
                obtain ⟨k2_c, k2_f, k2_l, k2_m, k2_n⟩ := k2.knows
                obtain ⟨k3_c, k3_f, k3_l, k3_m, k3_n⟩ := k3.knows
                obtain ⟨k4_c, k4_f, k4_l, k4_m, k4_n⟩ := k4.knows
                obtain ⟨k5_c, k5_f, k5_l, k5_m, k5_n⟩ := k5.knows
                go_wp2
                exact ⟨⟨k, by omega, rfl, ((((k1.far (by dsimp only; omega) _).far (by dsimp only; omega) _).far (by dsimp only; omega) _).far (by dsimp only; omega) _), ((((k2.far (by dsimp only; omega) _).far (by dsimp only; omega) _).far (by dsimp only; omega) _).far (by dsimp only; omega) _), ((((k3.far (by dsimp only; omega) _).far (by dsimp only; omega) _).far (by dsimp only; omega) _).far (by dsimp only; omega) _), ((((k4.far (by dsimp only; omega) _).far (by dsimp only; omega) _).far (by dsimp only; omega) _).far (by dsimp only; omega) _), Blk.re (cs := #[.int .u64 (lb (fmlN base (pwM base a ex 1 (k + 1)) (pwM base a ex 1 (k + 1))) 0), .int .u64 (lb (fmlN base (pwM base a ex 1 (k + 1)) (pwM base a ex 1 (k + 1))) 1), .int .u64 (lb (fmlN base (pwM base a ex 1 (k + 1)) (pwM base a ex 1 (k + 1))) 2), .int .u64 (lb (fmlN base (pwM base a ex 1 (k + 1)) (pwM base a ex 1 (k + 1))) 3)]) (((((k5.set_ 0 (.int .u64 (lb (fmlN base (pwM base a ex 1 (k + 1)) (pwM base a ex 1 (k + 1))) 0))).set_ 1 (.int .u64 (lb (fmlN base (pwM base a ex 1 (k + 1)) (pwM base a ex 1 (k + 1))) 1))).set_ 2 (.int .u64 (lb (fmlN base (pwM base a ex 1 (k + 1)) (pwM base a ex 1 (k + 1))) 2))).set_ 3 (.int .u64 (lb (fmlN base (pwM base a ex 1 (k + 1)) (pwM base a ex 1 (k + 1))) 3)))) (by rw [hstep.out]), (by first | exact (Below.setCell (p := ⟨w.heap.size + 1 + 1 + 1 + 1, 3, none⟩) (Below.setCell (p := ⟨w.heap.size + 1 + 1 + 1 + 1, 2, none⟩) (Below.setCell (p := ⟨w.heap.size + 1 + 1 + 1 + 1, 1, none⟩) (Below.setCell (p := ⟨w.heap.size + 1 + 1 + 1 + 1, 0, none⟩) bw (by dsimp only; omega) _) (by dsimp only; omega) _) (by dsimp only; omega) _) (by dsimp only; omega) _) | go_grown)⟩, by simp [intOf]⟩
              · rw [hb] at hbit
                have hq : (lb ex 1 / 2 ^ k % 2 == 1) = true := by rw [hbit]; rfl
                have hstep := Lib.hid (pwM_odd base a ex 1 k hb)
                clear hbit hb
                obtain ⟨k1_c, k1_f, k1_l, k1_m, k1_n⟩ := k1.knows
                obtain ⟨k2_c, k2_f, k2_l, k2_m, k2_n⟩ := k2.knows
                obtain ⟨k3_c, k3_f, k3_l, k3_m, k3_n⟩ := k3.knows
                obtain ⟨k4_c, k4_f, k4_l, k4_m, k4_n⟩ := k4.knows
                obtain ⟨k5_c, k5_f, k5_l, k5_m, k5_n⟩ := k5.knows
                go_wp2_with fail
                (with_reducible refine (rfmul (pwM base a ex 1 (k + 1)) (pwM base a ex 1 (k + 1)) (pwM_lt base a ex 1 (k + 1)) (pwM_lt base a ex 1 (k + 1)) _).mono ?_)
                rintro e w8 ⟨rfl, h8⟩
                clear k1_c k1_f k1_m k1_n k2_c k2_f k2_m k2_n k3_c k3_f k3_m k3_n k4_c k4_f k4_m k4_n k5_c k5_f k5_m k5_n
                replace k1 := (k1.after h8)
                replace k2 := (k2.after h8)
                replace k3 := (k3.after h8)
                replace k4 := (k4.after h8)
                replace k5 := (k5.after h8)
                have bwsz := Below.size bw
                replace bw := below_call h8 (w := w) (by first | exact bw | go_grown)
                clear h8 bwsz k1_l k2_l k3_l k4_l k5_l
                obtain ⟨k1_c, k1_f, k1_l, k1_m, k1_n⟩ := k1.knows
                obtain ⟨k2_c, k2_f, k2_l, k2_m, k2_n⟩ := k2.knows
                obtain ⟨k3_c, k3_f, k3_l, k3_m, k3_n⟩ := k3.knows
                obtain ⟨k4_c, k4_f, k4_l, k4_m, k4_n⟩ := k4.knows
                obtain ⟨k5_c, k5_f, k5_l, k5_m, k5_n⟩ := k5.knows
                go_wp2_with fail
                (with_reducible refine (rfmul (fmlN base (pwM base a ex 1 (k + 1)) (pwM base a ex 1 (k + 1))) a (lt_RR (fmlN_lt base (pwM base a ex 1 (k + 1)) (pwM base a ex 1 (k + 1)))) ha _).mono ?_)
                rintro e w9 ⟨rfl, h9⟩
                clear k1_c k1_f k1_m k1_n k2_c k2_f k2_m k2_n k3_c k3_f k3_m k3_n k4_c k4_f k4_m k4_n k5_c k5_f k5_m k5_n
                replace k1 := (((((k1.far (by dsimp only; omega) _).far (by dsimp only; omega) _).far (by dsimp only; omega) _).far (by dsimp only; omega) _).after h9)
                replace k2 := (((((k2.far (by dsimp only; omega) _).far (by dsimp only; omega) _).far (by dsimp only; omega) _).far (by dsimp only; omega) _).after h9)
                replace k3 := (((((k3.far (by dsimp only; omega) _).far (by dsimp only; omega) _).far (by dsimp only; omega) _).far (by dsimp only; omega) _).after h9)
                replace k4 := (((((k4.far (by dsimp only; omega) _).far (by dsimp only; omega) _).far (by dsimp only; omega) _).far (by dsimp only; omega) _).after h9)
                replace k5 : Blk w9 (w.heap.size + 1 + 1 + 1 + 1) 24 #[.int .u64 (lb (fmlN base (pwM base a ex 1 (k + 1)) (pwM base a ex 1 (k + 1))) 0), .int .u64 (lb (fmlN base (pwM base a ex 1 (k + 1)) (pwM base a ex 1 (k + 1))) 1), .int .u64 (lb (fmlN base (pwM base a ex 1 (k + 1)) (pwM base a ex 1 (k + 1))) 2), .int .u64 (lb (fmlN base (pwM base a ex 1 (k + 1)) (pwM base a ex 1 (k + 1))) 3)] := (((((k5.set_ 0 (.int .u64 (lb (fmlN base (pwM base a ex 1 (k + 1)) (pwM base a ex 1 (k + 1))) 0))).set_ 1 (.int .u64 (lb (fmlN base (pwM base a ex 1 (k + 1)) (pwM base a ex 1 (k + 1))) 1))).set_ 2 (.int .u64 (lb (fmlN base (pwM base a ex 1 (k + 1)) (pwM base a ex 1 (k + 1))) 2))).set_ 3 (.int .u64 (lb (fmlN base (pwM base a ex 1 (k + 1)) (pwM base a ex 1 (k + 1))) 3))).after h9)
                have bwsz := Below.size bw
                replace bw := below_call h9 (w := w) (by first | exact (Below.setCell (p := ⟨w.heap.size + 1 + 1 + 1 + 1, 3, none⟩) (Below.setCell (p := ⟨w.heap.size + 1 + 1 + 1 + 1, 2, none⟩) (Below.setCell (p := ⟨w.heap.size + 1 + 1 + 1 + 1, 1, none⟩) (Below.setCell (p := ⟨w.heap.size + 1 + 1 + 1 + 1, 0, none⟩) bw (by dsimp only; omega) _) (by dsimp only; omega) _) (by dsimp only; omega) _) (by dsimp only; omega) _) | go_grown)
                clear h9 bwsz k1_l k2_l k3_l k4_l k5_l
                obtain ⟨k1_c, k1_f, k1_l, k1_m, k1_n⟩ := k1.knows
                obtain ⟨k2_c, k2_f, k2_l, k2_m, k2_n⟩ := k2.knows
                obtain ⟨k3_c, k3_f, k3_l, k3_m, k3_n⟩ := k3.knows
                obtain ⟨k4_c, k4_f, k4_l, k4_m, k4_n⟩ := k4.knows
                obtain ⟨k5_c, k5_f, k5_l, k5_m, k5_n⟩ := k5.knows
                go_wp2
                exact ⟨⟨k, by omega, rfl, ((((k1.far (by dsimp only; omega) _).far (by dsimp only; omega) _).far (by dsimp only; omega) _).far (by dsimp only; omega) _), ((((k2.far (by dsimp only; omega) _).far (by dsimp only; omega) _).far (by dsimp only; omega) _).far (by dsimp only; omega) _), ((((k3.far (by dsimp only; omega) _).far (by dsimp only; omega) _).far (by dsimp only; omega) _).far (by dsimp only; omega) _), ((((k4.far (by dsimp only; omega) _).far (by dsimp only; omega) _).far (by dsimp only; omega) _).far (by dsimp only; omega) _), Blk.re (cs := #[.int .u64 (lb (fmlN base (fmlN base (pwM base a ex 1 (k + 1)) (pwM base a ex 1 (k + 1))) a) 0), .int .u64 (lb (fmlN base (fmlN base (pwM base a ex 1 (k + 1)) (pwM base a ex 1 (k + 1))) a) 1), .int .u64 (lb (fmlN base (fmlN base (pwM base a ex 1 (k + 1)) (pwM base a ex 1 (k + 1))) a) 2), .int .u64 (lb (fmlN base (fmlN base (pwM base a ex 1 (k + 1)) (pwM base a ex 1 (k + 1))) a) 3)]) (((((k5.set_ 0 (.int .u64 (lb (fmlN base (fmlN base (pwM base a ex 1 (k + 1)) (pwM base a ex 1 (k + 1))) a) 0))).set_ 1 (.int .u64 (lb (fmlN base (fmlN base (pwM base a ex 1 (k + 1)) (pwM base a ex 1 (k + 1))) a) 1))).set_ 2 (.int .u64 (lb (fmlN base (fmlN base (pwM base a ex 1 (k + 1)) (pwM base a ex 1 (k + 1))) a) 2))).set_ 3 (.int .u64 (lb (fmlN base (fmlN base (pwM base a ex 1 (k + 1)) (pwM base a ex 1 (k + 1))) a) 3)))) (by rw [hstep.out]), (by first | exact (Below.setCell (p := ⟨w.heap.size + 1 + 1 + 1 + 1, 3, none⟩) (Below.setCell (p := ⟨w.heap.size + 1 + 1 + 1 + 1, 2, none⟩) (Below.setCell (p := ⟨w.heap.size + 1 + 1 + 1 + 1, 1, none⟩) (Below.setCell (p := ⟨w.heap.size + 1 + 1 + 1 + 1, 0, none⟩) bw (by dsimp only; omega) _) (by dsimp only; omega) _) (by dsimp only; omega) _) (by dsimp only; omega) _) | go_grown)⟩, by simp [intOf]⟩
            · obtain rfl : m = 0 := by omega
              have hdt : decide (0 ≤ ((0 : Nat) : Int) - 1) = false := rfl
              have hdp : ¬ 0 ≤ ((0 : Nat) : Int) - 1 := of_decide_eq_false hdt
              have k6 := k5; rw [pwM_next] at k6; clear k5; have k5 := k6; clear k6
              obtain ⟨k1_c, k1_f, k1_l, k1_m, k1_n⟩ := k1.knows
              obtain ⟨k2_c, k2_f, k2_l, k2_m, k2_n⟩ := k2.knows
              obtain ⟨k3_c, k3_f, k3_l, k3_m, k3_n⟩ := k3.knows
              obtain ⟨k4_c, k4_f, k4_l, k4_m, k4_n⟩ := k4.knows
              obtain ⟨k5_c, k5_f, k5_l, k5_m, k5_n⟩ := k5.knows
              go_wp2
              rw [rounds_succ]
              go_wp2
              go_loopw [9] (fun s wr => RPowRel base a ex 0 w w.heap.size (w.heap.size + 1) (w.heap.size + 1 + 1) (w.heap.size + 1 + 1 + 1) (w.heap.size + 1 + 1 + 1 + 1) s wr) (fun s _ => (intOf s + 1).toNat)
              case atStart => exact ⟨64, by omega, rfl, k1, k2, k3, k4, k5, (by first | exact bw | go_grown)⟩
              case round =>
                clear k1_c k1_f k1_l k1_m k1_n k2_c k2_f k2_l k2_m k2_n k3_c k3_f k3_l k3_m k3_n k4_c k4_f k4_l k4_m k4_n k5_c k5_f k5_l k5_m k5_n
                clear k1 k2 k3 k4 k5 bw
                unfold RPowRel at hrel
                obtain ⟨m, hm, rfl, k1, k2, k3, k4, k5, bw⟩ := hrel
                by_cases hz : 0 < m
                · obtain ⟨k, rfl⟩ : ∃ k, m = k + 1 := ⟨m - 1, by omega⟩
                  have e1 : ((k + 1 : Nat) : Int) - 1 = (k : Int) := by omega
                  rw [e1]
                  clear e1
                  have hdt : decide (0 ≤ (k : Int)) = true := decide_eq_true (by omega)
                  have hdp : 0 ≤ (k : Int) := by omega
                  have hk6 : (k : Int) < 64 := by omega
                  have hbit := bit_of ex 0 k (by omega) (by omega)
                  have hb0 : 0 ≤ lb ex 0 / 2 ^ k := Int.ediv_nonneg (lb_lo ex 0) (by exact Int.le_of_lt (Int.pow_pos (by decide)))
                  rcases Nat.mod_two_eq_zero_or_one (ex / 2 ^ (64 * 0 + k)) with hb | hb
                  · rw [hb] at hbit
                    have hq : (lb ex 0 / 2 ^ k % 2 == 1) = false := by rw [hbit]; rfl
                    have hstep := Lib.hid (pwM_even base a ex 0 k hb)
                    clear hbit hb
                    obtain ⟨k1_c, k1_f, k1_l, k1_m, k1_n⟩ := k1.knows
                    obtain ⟨k2_c, k2_f, k2_l, k2_m, k2_n⟩ := k2.knows
                    obtain ⟨k3_c, k3_f, k3_l, k3_m, k3_n⟩ := k3.knows
                    obtain ⟨k4_c, k4_f, k4_l, k4_m, k4_n⟩ := k4.knows
                    obtain ⟨k5_c, k5_f, k5_l, k5_m, k5_n⟩ := k5.knows
                    go_wp2_with fail
                    (with_reducible refine (rfmul (pwM base a ex 0 (k + 1)) (pwM base a ex 0 (k + 1)) (pwM_lt base a ex 0 (k + 1)) (pwM_lt base a ex 0 (k + 1)) _).mono ?_)
                    rintro e w10 ⟨rfl, h10⟩
                    clear k1_c k1_f k1_m k1_n k2_c k2_f k2_m k2_n k3_c k3_f k3_m k3_n k4_c k4_f k4_m k4_n k5_c k5_f k5_m k5_n
                    replace k1 := (k1.after h10)
                    replace k2 := (k2.after h10)
                    replace k3 := (k3.after h10)
                    replace k4 := (k4.after h10)
                    replace k5 := (k5.after h10)
                    have bwsz := Below.size bw
                    replace bw := below_call h10 (w := w) (by first | exact bw | go_grown)
                    clear h10 bwsz k1_l k2_l k3_l k4_l k5_l
                    obtain ⟨k1_c, k1_f, k1_l, k1_m, k1_n⟩ := k1.knows
                    obtain ⟨k2_c, k2_f, k2_l, k2_m, k2_n⟩ := k2.knows
                    obtain ⟨k3_c, k3_f, k3_l, k3_m, k3_n⟩ := k3.knows
                    obtain ⟨k4_c, k4_f, k4_l, k4_m, k4_n⟩ := k4.knows
                    obtain ⟨k5_c, k5_f, k5_l, k5_m, k5_n⟩ := k5.knows
                    go_wp2
                    exact ⟨⟨k, by omega, rfl, ((((k1.far (by dsimp only; omega) _).far (by dsimp only; omega) _).far (by dsimp only; omega) _).far (by dsimp only; omega) _), ((((k2.far (by dsimp only; omega) _).far (by dsimp only; omega) _).far (by dsimp only; omega) _).far (by dsimp only; omega) _), ((((k3.far (by dsimp only; omega) _).far (by dsimp only; omega) _).far (by dsimp only; omega) _).far (by dsimp only; omega) _), ((((k4.far (by dsimp only; omega) _).far (by dsimp only; omega) _).far (by dsimp only; omega) _).far (by dsimp only; omega) _), Blk.re (cs := #[.int .u64 (lb (fmlN base (pwM base a ex 0 (k + 1)) (pwM base a ex 0 (k + 1))) 0), .int .u64 (lb (fmlN base (pwM base a ex 0 (k + 1)) (pwM base a ex 0 (k + 1))) 1), .int .u64 (lb (fmlN base (pwM base a ex 0 (k + 1)) (pwM base a ex 0 (k + 1))) 2), .int .u64 (lb (fmlN base (pwM base a ex 0 (k + 1)) (pwM base a ex 0 (k + 1))) 3)]) (((((k5.set_ 0 (.int .u64 (lb (fmlN base (pwM base a ex 0 (k + 1)) (pwM base a ex 0 (k + 1))) 0))).set_ 1 (.int .u64 (lb (fmlN base (pwM base a ex 0 (k + 1)) (pwM base a ex 0 (k + 1))) 1))).set_ 2 (.int .u64 (lb (fmlN base (pwM base a ex 0 (k + 1)) (pwM base a ex 0 (k + 1))) 2))).set_ 3 (.int .u64 (lb (fmlN base (pwM base a ex 0 (k + 1)) (pwM base a ex 0 (k + 1))) 3)))) (by rw [hstep.out]), (by first | exact (Below.setCell (p := ⟨w.heap.size + 1 + 1 + 1 + 1, 3, none⟩) (Below.setCell (p := ⟨w.heap.size + 1 + 1 + 1 + 1, 2, none⟩) (Below.setCell (p := ⟨w.heap.size + 1 + 1 + 1 + 1, 1, none⟩) (Below.setCell (p := ⟨w.heap.size + 1 + 1 + 1 + 1, 0, none⟩) bw (by dsimp only; omega) _) (by dsimp only; omega) _) (by dsimp only; omega) _) (by dsimp only; omega) _) | go_grown)⟩, by simp [intOf]⟩
                  · rw [hb] at hbit
                    have hq : (lb ex 0 / 2 ^ k % 2 == 1) = true := by rw [hbit]; rfl
                    have hstep := Lib.hid (pwM_odd base a ex 0 k hb)
                    clear hbit hb
                    obtain ⟨k1_c, k1_f, k1_l, k1_m, k1_n⟩ := k1.knows
                    obtain ⟨k2_c, k2_f, k2_l, k2_m, k2_n⟩ := k2.knows
                    obtain ⟨k3_c, k3_f, k3_l, k3_m, k3_n⟩ := k3.knows
                    obtain ⟨k4_c, k4_f, k4_l, k4_m, k4_n⟩ := k4.knows
                    obtain ⟨k5_c, k5_f, k5_l, k5_m, k5_n⟩ := k5.knows
                    go_wp2_with fail
                    (with_reducible refine (rfmul (pwM base a ex 0 (k + 1)) (pwM base a ex 0 (k + 1)) (pwM_lt base a ex 0 (k + 1)) (pwM_lt base a ex 0 (k + 1)) _).mono ?_)
                    rintro e w11 ⟨rfl, h11⟩
                    clear k1_c k1_f k1_m k1_n k2_c k2_f k2_m k2_n k3_c k3_f k3_m k3_n k4_c k4_f k4_m k4_n k5_c k5_f k5_m k5_n
                    replace k1 := (k1.after h11)
                    replace k2 := (k2.after h11)
                    replace k3 := (k3.after h11)
                    replace k4 := (k4.after h11)
                    replace k5 := (k5.after h11)
                    have bwsz := Below.size bw
                    replace bw := below_call h11 (w := w) (by first | exact bw | go_grown)
                    clear h11 bwsz k1_l k2_l k3_l k4_l k5_l
                    obtain ⟨k1_c, k1_f, k1_l, k1_m, k1_n⟩ := k1.knows
                    obtain ⟨k2_c, k2_f, k2_l, k2_m, k2_n⟩ := k2.knows
                    obtain ⟨k3_c, k3_f, k3_l, k3_m, k3_n⟩ := k3.knows
                    obtain ⟨k4_c, k4_f, k4_l, k4_m, k4_n⟩ := k4.knows
                    obtain ⟨k5_c, k5_f, k5_l, k5_m, k5_n⟩ := k5.knows
                    go_wp2_with fail
                    (with_reducible refine (rfmul (fmlN base (pwM base a ex 0 (k + 1)) (pwM base a ex 0 (k + 1))) a (lt_RR (fmlN_lt base (pwM base a ex 0 (k + 1)) (pwM base a ex 0 (k + 1)))) ha _).mono ?_)
                    rintro e w12 ⟨rfl, h12⟩
                    clear k1_c k1_f k1_m k1_n k2_c k2_f k2_m k2_n k3_c k3_f k3_m k3_n k4_c k4_f k4_m k4_n k5_c k5_f k5_m k5_n
                    replace k1 := (((((k1.far (by dsimp only; omega) _).far (by dsimp only; omega) _).far (by dsimp only; omega) _).far (by dsimp only; omega) _).after h12)
                    replace k2 := (((((k2.far (by dsimp only; omega) _).far (by dsimp only; omega) _).far (by dsimp only; omega) _).far (by dsimp only; omega) _).after h12)
                    replace k3 := (((((k3.far (by dsimp only; omega) _).far (by dsimp only; omega) _).far (by dsimp only; omega) _).far (by dsimp only; omega) _).after h12)
                    replace k4 := (((((k4.far (by dsimp only; omega) _).far (by dsimp only; omega) _).far (by dsimp only; omega) _).far (by dsimp only; omega) _).after h12)
                    replace k5 : Blk w12 (w.heap.size + 1 + 1 + 1 + 1) 24 #[.int .u64 (lb (fmlN base (pwM base a ex 0 (k + 1)) (pwM base a ex 0 (k + 1))) 0), .int .u64 (lb (fmlN base (pwM base a ex 0 (k + 1)) (pwM base a ex 0 (k + 1))) 1), .int .u64 (lb (fmlN base (pwM base a ex 0 (k + 1)) (pwM base a ex 0 (k + 1))) 2), .int .u64 (lb (fmlN base (pwM base a ex 0 (k + 1)) (pwM base a ex 0 (k + 1))) 3)] := (((((k5.set_ 0 (.int .u64 (lb (fmlN base (pwM base a ex 0 (k + 1)) (pwM base a ex 0 (k + 1))) 0))).set_ 1 (.int .u64 (lb (fmlN base (pwM base a ex 0 (k + 1)) (pwM base a ex 0 (k + 1))) 1))).set_ 2 (.int .u64 (lb (fmlN base (pwM base a ex 0 (k + 1)) (pwM base a ex 0 (k + 1))) 2))).set_ 3 (.int .u64 (lb (fmlN base (pwM base a ex 0 (k + 1)) (pwM base a ex 0 (k + 1))) 3))).after h12)
                    have bwsz := Below.size bw
                    replace bw := below_call h12 (w := w) (by first | exact (Below.setCell (p := ⟨w.heap.size + 1 + 1 + 1 + 1, 3, none⟩) (Below.setCell (p := ⟨w.heap.size + 1 + 1 + 1 + 1, 2, none⟩) (Below.setCell (p := ⟨w.heap.size + 1 + 1 + 1 + 1, 1, none⟩) (Below.setCell (p := ⟨w.heap.size + 1 + 1 + 1 + 1, 0, none⟩) bw (by dsimp only; omega) _) (by dsimp only; omega) _) (by dsimp only; omega) _) (by dsimp only; omega) _) | go_grown)
                    clear h12 bwsz k1_l k2_l k3_l k4_l k5_l
                    obtain ⟨k1_c, k1_f, k1_l, k1_m, k1_n⟩ := k1.knows
                    obtain ⟨k2_c, k2_f, k2_l, k2_m, k2_n⟩ := k2.knows
                    obtain ⟨k3_c, k3_f, k3_l, k3_m, k3_n⟩ := k3.knows
                    obtain ⟨k4_c, k4_f, k4_l, k4_m, k4_n⟩ := k4.knows
                    obtain ⟨k5_c, k5_f, k5_l, k5_m, k5_n⟩ := k5.knows
                    go_wp2
                    exact ⟨⟨k, by omega, rfl, ((((k1.far (by dsimp only; omega) _).far (by dsimp only; omega) _).far (by dsimp only; omega) _).far (by dsimp only; omega) _), ((((k2.far (by dsimp only; omega) _).far (by dsimp only; omega) _).far (by dsimp only; omega) _).far (by dsimp only; omega) _), ((((k3.far (by dsimp only; omega) _).far (by dsimp only; omega) _).far (by dsimp only; omega) _).far (by dsimp only; omega) _), ((((k4.far (by dsimp only; omega) _).far (by dsimp only; omega) _).far (by dsimp only; omega) _).far (by dsimp only; omega) _), Blk.re (cs := #[.int .u64 (lb (fmlN base (fmlN base (pwM base a ex 0 (k + 1)) (pwM base a ex 0 (k + 1))) a) 0), .int .u64 (lb (fmlN base (fmlN base (pwM base a ex 0 (k + 1)) (pwM base a ex 0 (k + 1))) a) 1), .int .u64 (lb (fmlN base (fmlN base (pwM base a ex 0 (k + 1)) (pwM base a ex 0 (k + 1))) a) 2), .int .u64 (lb (fmlN base (fmlN base (pwM base a ex 0 (k + 1)) (pwM base a ex 0 (k + 1))) a) 3)]) (((((k5.set_ 0 (.int .u64 (lb (fmlN base (fmlN base (pwM base a ex 0 (k + 1)) (pwM base a ex 0 (k + 1))) a) 0))).set_ 1 (.int .u64 (lb (fmlN base (fmlN base (pwM base a ex 0 (k + 1)) (pwM base a ex 0 (k + 1))) a) 1))).set_ 2 (.int .u64 (lb (fmlN base (fmlN base (pwM base a ex 0 (k + 1)) (pwM base a ex 0 (k + 1))) a) 2))).set_ 3 (.int .u64 (lb (fmlN base (fmlN base (pwM base a ex 0 (k + 1)) (pwM base a ex 0 (k + 1))) a) 3)))) (by rw [hstep.out]), (by first | exact (Below.setCell (p := ⟨w.heap.size + 1 + 1 + 1 + 1, 3, none⟩) (Below.setCell (p := ⟨w.heap.size + 1 + 1 + 1 + 1, 2, none⟩) (Below.setCell (p := ⟨w.heap.size + 1 + 1 + 1 + 1, 1, none⟩) (Below.setCell (p := ⟨w.heap.size + 1 + 1 + 1 + 1, 0, none⟩) bw (by dsimp only; omega) _) (by dsimp only; omega) _) (by dsimp only; omega) _) (by dsimp only; omega) _) | go_grown)⟩, by simp [intOf]⟩
                · obtain rfl : m = 0 := by omega
                  have hdt : decide (0 ≤ ((0 : Nat) : Int) - 1) = false := rfl
                  have hdp : ¬ 0 ≤ ((0 : Nat) : Int) - 1 := of_decide_eq_false hdt
                  have k6 := k5; rw [pwM_end] at k6; clear k5; have k5 := k6; clear k6
                  obtain ⟨k1_c, k1_f, k1_l, k1_m, k1_n⟩ := k1.knows
                  obtain ⟨k2_c, k2_f, k2_l, k2_m, k2_n⟩ := k2.knows
                  obtain ⟨k3_c, k3_f, k3_l, k3_m, k3_n⟩ := k3.knows
                  obtain ⟨k4_c, k4_f, k4_l, k4_m, k4_n⟩ := k4.knows
                  obtain ⟨k5_c, k5_f, k5_l, k5_m, k5_n⟩ := k5.knows
                  go_wp2
                  rw [rounds_succ]
                  go_wp2
                  obtain ⟨rk4_c, rk4_f, rk4_l, -⟩ := ((((((k4.set_ 0 (.int .u64 (lb (fpwN base a ex) 0))).set_ 1 (.int .u64 (lb (fpwN base a ex) 1))).set_ 2 (.int .u64 (lb (fpwN base a ex) 2))).set_ 3 (.int .u64 (lb (fpwN base a ex) 3)))).re (cs' := #[.int .u64 (lb (fpwN base a ex) 0), .int .u64 (lb (fpwN base a ex) 1), .int .u64 (lb (fpwN base a ex) 2), .int .u64 (lb (fpwN base a ex) 3)]) rfl).knows
                  refine bodyPost_ret (v := num (fpwN base a ex)) (by simp [results, Try.results66, go_sem, rk4_c, rk4_l]) rfl ?_
                  exact ⟨rfl, (by first | exact (Below.setCell (p := ⟨w.heap.size + 1 + 1 + 1, 3, none⟩) (Below.setCell (p := ⟨w.heap.size + 1 + 1 + 1, 2, none⟩) (Below.setCell (p := ⟨w.heap.size + 1 + 1 + 1, 1, none⟩) (Below.setCell (p := ⟨w.heap.size + 1 + 1 + 1, 0, none⟩) bw (by dsimp only; omega) _) (by dsimp only; omega) _) (by dsimp only; omega) _) (by dsimp only; omega) _) | go_grown)⟩
end Go.Proofs.Ytbmokmkaebfneaa
