/- Of the fields' laws: the fields, a small case, a number of a field. -/
import Derived.Test.YtlibfjemdiochaaLF0
namespace Go.Proofs.Ytlibfjemdiochaa
set_option linter.unusedVariables false
set_option linter.unusedSimpArgs false
open Go.RowKit

set_option maxRecDepth 20000 in
set_option maxHeartbeats 2000000 in
theorem of_true (w : World) : Calls Try.prog 12 #[.bool true] w fun e w' => ∃ f g, e = .returned (.tuple #[.pointer (some ⟨f, 0, none⟩), rfV true]) ∧ FieldB w' f g true ∧ Below w.heap.size w w' := by
  go_enter Try.func12, Try.ntmps12
  go_wp2_with fail
  (with_reducible refine (base_any _).mono ?_)
  rintro e w1 ⟨f0, g0, rfl, hF0, h1⟩
  have k1 := ((Blk.newAt (n := w.heap.size) _ _ _ (by first | rfl | simp)).after h1)
  have bw := below_call h1 (w := w) (by first | exact (Below.alloc (Below.refl _ _) (Below.size (Below.refl _ _)) _) | go_grown)
  clear h1
  obtain ⟨k1_c, k1_f, k1_l, k1_m, k1_n⟩ := k1.knows
  have nhF0_k1 := hF0.ne k1 (by decide)
  go_wp2_with fail
  (with_reducible refine (rbase_any _).mono ?_)
  rintro e w2 ⟨rfl, h2⟩
  clear k1_c k1_f k1_m k1_n
  replace k1 := (k1.after h2)
  replace hF0 := (hF0.after h2)
  have bwsz := Below.size bw
  replace bw := below_call h2 (w := w) (by first | exact bw | go_grown)
  clear h2 bwsz k1_l
  obtain ⟨k1_c, k1_f, k1_l, k1_m, k1_n⟩ := k1.knows
  go_wp2
  obtain ⟨rk1_c, rk1_f, rk1_l, -⟩ := ((((((((((k1.set_ 0 (.int .u64 (lb (pN true) 0))).set_ 1 (.int .u64 (lb (pN true) 1))).set_ 2 (.int .u64 (lb (pN true) 2))).set_ 3 (.int .u64 (lb (pN true) 3))).set_ 4 (.int .u64 (lb (cN true) 0))).set_ 5 (.int .u64 (lb (cN true) 1))).set_ 6 (.int .u64 (lb (cN true) 2))).set_ 7 (.int .u64 (lb (cN true) 3)))).re (cs' := #[.int .u64 (lb (pN true) 0), .int .u64 (lb (pN true) 1), .int .u64 (lb (pN true) 2), .int .u64 (lb (pN true) 3), .int .u64 (lb (cN true) 0), .int .u64 (lb (cN true) 1), .int .u64 (lb (cN true) 2), .int .u64 (lb (cN true) 3)]) rfl).knows
  refine bodyPost_ret (v := .tuple #[.pointer (some ⟨f0, 0, none⟩), rfV true]) (by simp [results, Try.results12, go_sem, rk1_c, rk1_l]) rfl ?_
  exact ⟨_, _, rfl, ((((((((hF0.far nhF0_k1 _).far nhF0_k1 _).far nhF0_k1 _).far nhF0_k1 _).far nhF0_k1 _).far nhF0_k1 _).far nhF0_k1 _).far nhF0_k1 _), (by first | exact (Below.setCell (p := ⟨w.heap.size, 7, none⟩) (Below.setCell (p := ⟨w.heap.size, 6, none⟩) (Below.setCell (p := ⟨w.heap.size, 5, none⟩) (Below.setCell (p := ⟨w.heap.size, 4, none⟩) (Below.setCell (p := ⟨w.heap.size, 3, none⟩) (Below.setCell (p := ⟨w.heap.size, 2, none⟩) (Below.setCell (p := ⟨w.heap.size, 1, none⟩) (Below.setCell (p := ⟨w.heap.size, 0, none⟩) bw (by dsimp only; omega) _) (by dsimp only; omega) _) (by dsimp only; omega) _) (by dsimp only; omega) _) (by dsimp only; omega) _) (by dsimp only; omega) _) (by dsimp only; omega) _) (by dsimp only; omega) _) | go_grown)⟩
set_option maxRecDepth 20000 in
set_option maxHeartbeats 2000000 in
theorem of_false (w : World) : Calls Try.prog 12 #[.bool false] w fun e w' => ∃ f g, e = .returned (.tuple #[.pointer (some ⟨f, 0, none⟩), rfV false]) ∧ FieldB w' f g false ∧ Below w.heap.size w w' := by
  go_enter Try.func12, Try.ntmps12
  go_wp2_with fail
  (with_reducible refine (scalars_any _).mono ?_)
  rintro e w1 ⟨f0, g0, rfl, hF0, h1⟩
  have k1 := ((Blk.newAt (n := w.heap.size) _ _ _ (by first | rfl | simp)).after h1)
  have bw := below_call h1 (w := w) (by first | exact (Below.alloc (Below.refl _ _) (Below.size (Below.refl _ _)) _) | go_grown)
  clear h1
  obtain ⟨k1_c, k1_f, k1_l, k1_m, k1_n⟩ := k1.knows
  have nhF0_k1 := hF0.ne k1 (by decide)
  go_wp2_with fail
  (with_reducible refine (rscalars_any _).mono ?_)
  rintro e w2 ⟨rfl, h2⟩
  clear k1_c k1_f k1_m k1_n
  replace k1 := (k1.after h2)
  replace hF0 := (hF0.after h2)
  have bwsz := Below.size bw
  replace bw := below_call h2 (w := w) (by first | exact bw | go_grown)
  clear h2 bwsz k1_l
  obtain ⟨k1_c, k1_f, k1_l, k1_m, k1_n⟩ := k1.knows
  go_wp2
  obtain ⟨rk1_c, rk1_f, rk1_l, -⟩ := ((((((((((k1.set_ 0 (.int .u64 (lb (pN false) 0))).set_ 1 (.int .u64 (lb (pN false) 1))).set_ 2 (.int .u64 (lb (pN false) 2))).set_ 3 (.int .u64 (lb (pN false) 3))).set_ 4 (.int .u64 (lb (cN false) 0))).set_ 5 (.int .u64 (lb (cN false) 1))).set_ 6 (.int .u64 (lb (cN false) 2))).set_ 7 (.int .u64 (lb (cN false) 3)))).re (cs' := #[.int .u64 (lb (pN false) 0), .int .u64 (lb (pN false) 1), .int .u64 (lb (pN false) 2), .int .u64 (lb (pN false) 3), .int .u64 (lb (cN false) 0), .int .u64 (lb (cN false) 1), .int .u64 (lb (cN false) 2), .int .u64 (lb (cN false) 3)]) rfl).knows
  refine bodyPost_ret (v := .tuple #[.pointer (some ⟨f0, 0, none⟩), rfV false]) (by simp [results, Try.results12, go_sem, rk1_c, rk1_l]) rfl ?_
  exact ⟨_, _, rfl, ((((((((hF0.far nhF0_k1 _).far nhF0_k1 _).far nhF0_k1 _).far nhF0_k1 _).far nhF0_k1 _).far nhF0_k1 _).far nhF0_k1 _).far nhF0_k1 _), (by first | exact (Below.setCell (p := ⟨w.heap.size, 7, none⟩) (Below.setCell (p := ⟨w.heap.size, 6, none⟩) (Below.setCell (p := ⟨w.heap.size, 5, none⟩) (Below.setCell (p := ⟨w.heap.size, 4, none⟩) (Below.setCell (p := ⟨w.heap.size, 3, none⟩) (Below.setCell (p := ⟨w.heap.size, 2, none⟩) (Below.setCell (p := ⟨w.heap.size, 1, none⟩) (Below.setCell (p := ⟨w.heap.size, 0, none⟩) bw (by dsimp only; omega) _) (by dsimp only; omega) _) (by dsimp only; omega) _) (by dsimp only; omega) _) (by dsimp only; omega) _) (by dsimp only; omega) _) (by dsimp only; omega) _) (by dsimp only; omega) _) | go_grown)⟩
theorem of_any (base : Bool) (w : World) : Calls Try.prog 12 #[.bool base] w fun e w' => ∃ f g, e = .returned (.tuple #[.pointer (some ⟨f, 0, none⟩), rfV base]) ∧ FieldB w' f g base ∧ Below w.heap.size w w' := by
  cases base
  · exact of_false w
  · exact of_true w
set_option maxRecDepth 20000 in
set_option maxHeartbeats 2000000 in
theorem half_any (w : World) : Calls Try.prog 20 #[] w fun e w' => e = .returned (.bool true) ∧ Below w.heap.size w w' := by
  have cl0 : ∀ (W : World) (f g : Nat), FieldB W f g true → Calls Try.prog 14 #[.pointer (some ⟨f, 0, none⟩), twoNV] W fun e w' => e = .returned (.tuple #[num (fpwN true 2 (ieN true)), .int .i64 0]) ∧ Below W.heap.size W w' := by intro W f g hF; rw [← num_two]; exact finv_yes hF 2 (pN_big true (by decide)) (by decide)
  have cl1 : ∀ (W : World) (f g : Nat), FieldB W f g true → Calls Try.prog 22 #[.pointer (some ⟨f, 0, none⟩), num (fpwN true 2 (ieN true)), twoNV] W fun e w' => e = .returned (.tuple #[num (fmlN true (fpwN true 2 (ieN true)) 2), .int .i64 0]) ∧ Below W.heap.size W w' := by intro W f g hF; rw [← num_two]; exact fmul_yes hF (fpwN true 2 (ieN true)) 2 (fpwN_lt true 2 (ieN true)) (pN_big true (by decide))
  have cl2 : ∀ (W : World) (f g : Nat), FieldB W f g true → Calls Try.prog 16 #[.pointer (some ⟨f, 0, none⟩), fourNV] W fun e w' => e = .returned (.tuple #[num (evN true (fpwN true 4 (rtN true))), .int .i64 0]) ∧ Below W.heap.size W w' := by intro W f g hF; rw [← num_four]; exact fsqrt_yes hF 4 (pN_big true (by decide)) (four_square)
  have q1 : ∀ w, (Op.equalIn 10000 24 (num (fmlN true (fpwN true 2 (ieN true)) 2)) (oneV)).run Try.prog w = .ok true w := by intro w; rw [← num_one]; exact eqin_eq (half_mul) _
  have q2 : ∀ w, (Op.equalIn 10000 24 (num (evN true (fpwN true 4 (rtN true)))) (twoNV)).run Try.prog w = .ok true w := by intro w; rw [← num_two]; exact eqin_eq (four_even) _
  go_enter Try.func20, Try.ntmps20
  go_wp2_with fail
  (with_reducible refine (base_any _).mono ?_)
  rintro e w1 ⟨f0, g0, rfl, hF0, h1⟩
  have bw := below_call h1 (w := w) (by first | exact (Below.refl _ _) | go_grown)
  clear h1
  go_wp2_with fail
  (with_reducible refine (cl0 _ _ _ hF0).mono ?_)
  rintro e w2 ⟨rfl, h2⟩
  replace hF0 := (hF0.after h2)
  have bwsz := Below.size bw
  replace bw := below_call h2 (w := w) (by first | exact bw | go_grown)
  clear h2 bwsz
  go_wp2_with fail
  (with_reducible refine (cl1 _ _ _ (hF0.alloc _)).mono ?_)
  rintro e w3 ⟨rfl, h3⟩
  replace hF0 := ((hF0.alloc _).after h3)
  have bwsz := Below.size bw
  replace bw := below_call h3 (w := w) (by first | exact (Below.alloc bw (Below.size bw) _) | go_grown)
  clear h3 bwsz
  go_wp2_with fail
  (with_reducible refine (cl2 _ _ _ (hF0.alloc _)).mono ?_)
  rintro e w4 ⟨rfl, h4⟩
  replace hF0 := ((hF0.alloc _).after h4)
  have k2 := ((Blk.newAt (n := w3.heap.size) _ _ _ (by first | rfl | simp)).after h4)
  have bwsz := Below.size bw
  replace bw := below_call h4 (w := w) (by first | exact (Below.alloc bw (Below.size bw) _) | go_grown)
  clear h4 bwsz
  obtain ⟨k2_c, k2_f, k2_l, k2_m, k2_n⟩ := k2.knows
  go_wp2
  go_ret
  exact ⟨rfl, (by first | exact (Below.alloc bw (Below.size bw) _) | go_grown)⟩
theorem rreduce_in {base : Bool} (a : Nat) (ha : a < RR) (w : World) : Calls Try.prog 28 #[rfV base, .agg #[.int .u64 (lb a 0), .int .u64 (lb a 1), .int .u64 (lb a 2), .int .u64 (lb a 3), .int .u64 0, .int .u64 0, .int .u64 0, .int .u64 0]] w fun e w' => e = .returned (num (frdN base a)) ∧ Below w.heap.size w w' := by
  have h := rreduce (base := base) a (Nat.lt_trans ha (by unfold RR; decide)) w
  have hz : ∀ i, lb a (4 + i) = 0 := fun i => by rw [← lb_high, Nat.div_eq_of_lt ha, lb_zero]
  have z0 := hz 0
  have z1 := hz 1
  have z2 := hz 2
  have z3 := hz 3
  simp only [Nat.reduceAdd] at z0 z1 z2 z3
  unfold wide at h
  rw [z0, z1, z2, z3] at h
  exact h
set_option maxRecDepth 20000 in
set_option maxHeartbeats 2000000 in
theorem in_any {base : Bool} (a : Nat) (ha : a < RR) (w : World) : Calls Try.prog 21 #[rfV base, num a] w fun e w' => e = .returned (num (frdN base a)) ∧ Below w.heap.size w w' := by
  go_enter Try.func21, Try.ntmps21
  go_wp2_with fail
  (with_reducible refine (rreduce_in a ha _).mono ?_)
  rintro e w1 ⟨rfl, h1⟩
  have k3 := ((Blk.newAt (n := w.heap.size + 1 + 1) _ _ _ (by first | rfl | simp)).after h1)
  have bw := below_call h1 (w := w) (by first | exact (below_alloc (below_alloc (Below.alloc (Below.refl _ _) (Below.size (Below.refl _ _)) _) _) _) | go_grown)
  clear h1
  obtain ⟨k3_c, k3_f, k3_l, k3_m, k3_n⟩ := k3.knows
  go_wp2
  obtain ⟨rk3_c, rk3_f, rk3_l, -⟩ := ((((((k3.set_ 0 (.int .u64 (lb (frdN base a) 0))).set_ 1 (.int .u64 (lb (frdN base a) 1))).set_ 2 (.int .u64 (lb (frdN base a) 2))).set_ 3 (.int .u64 (lb (frdN base a) 3)))).re (cs' := #[.int .u64 (lb (frdN base a) 0), .int .u64 (lb (frdN base a) 1), .int .u64 (lb (frdN base a) 2), .int .u64 (lb (frdN base a) 3)]) rfl).knows
  refine bodyPost_ret (v := num (frdN base a)) (by simp [results, Try.results21, go_sem, rk3_c, rk3_l]) rfl ?_
  exact ⟨rfl, (by first | exact (Below.setCell (p := ⟨w.heap.size + 1 + 1, 3, none⟩) (Below.setCell (p := ⟨w.heap.size + 1 + 1, 2, none⟩) (Below.setCell (p := ⟨w.heap.size + 1 + 1, 1, none⟩) (Below.setCell (p := ⟨w.heap.size + 1 + 1, 0, none⟩) bw (by dsimp only; omega) _) (by dsimp only; omega) _) (by dsimp only; omega) _) (by dsimp only; omega) _) | go_grown)⟩
end Go.Proofs.Ytlibfjemdiochaa
