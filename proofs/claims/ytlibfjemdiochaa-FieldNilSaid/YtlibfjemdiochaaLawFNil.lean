/- FieldNil, the walk. -/
import Derived.Test.YtlibfjemdiochaaLF1
import Derived.Test.YtlibfjemdiochaaFG
namespace Go.Proofs.Ytlibfjemdiochaa
set_option linter.unusedVariables false
set_option linter.unusedSimpArgs false
open Go.RowKit

set_option maxRecDepth 20000 in
set_option maxHeartbeats 2000000 in
theorem nil_Check {x0 x1 x2 x3 : Int} (w : World) : Calls Try.prog 33 #[.pointer none, .agg #[.int .u64 x0, .int .u64 x1, .int .u64 x2, .int .u64 x3]] w fun e w' => e = .returned (.int .i64 7) ∧ Below w.heap.size w w' := by
  go_enter Try.func33, Try.ntmps33
  go_wp2
  go_ret
  exact ⟨rfl, (by first | exact (Below.alloc (Below.refl _ _) (Below.size (Below.refl _ _)) _) | go_grown)⟩
set_option maxRecDepth 20000 in
set_option maxHeartbeats 2000000 in
theorem nil_Modulus (w : World) : Calls Try.prog 32 #[.pointer none] w fun e w' => e = .returned (zeroV) ∧ Below w.heap.size w w' := by
  go_enter Try.func32, Try.ntmps32
  go_wp2
  obtain ⟨rk1_c, rk1_f, rk1_l, -⟩ := (((Blk.newAt (n := w.heap.size) (w) 24 #[.int .u64 0, .int .u64 0, .int .u64 0, .int .u64 0] (by first | rfl | simp))).re (cs' := #[.int .u64 0, .int .u64 0, .int .u64 0, .int .u64 0]) rfl).knows
  refine bodyPost_ret (v := zeroV) (by simp [results, Try.results32, go_sem, rk1_c, rk1_l]) rfl ?_
  exact ⟨rfl, (by first | exact (Below.alloc (Below.refl _ _) (Below.size (Below.refl _ _)) _) | go_grown)⟩
set_option maxRecDepth 20000 in
set_option maxHeartbeats 2000000 in
theorem nil_two_plus {x0 x1 x2 x3 y0 y1 y2 y3 : Int} (w : World) : Calls Try.prog 56 #[.pointer none, .func (.func 65) #[.pointer none] #[], .agg #[.int .u64 x0, .int .u64 x1, .int .u64 x2, .int .u64 x3], .agg #[.int .u64 y0, .int .u64 y1, .int .u64 y2, .int .u64 y3]] w fun e w' => e = .returned (.tuple #[zeroV, .int .i64 7]) ∧ Below w.heap.size w w' := by
  go_enter Try.func56, Try.ntmps56
  go_wp2_with fail
  (with_reducible refine (nil_Check _).mono ?_)
  rintro e w1 ⟨rfl, h1⟩
  have k3 := ((Blk.newAt (n := w.heap.size + 1 + 1) _ _ _ (by first | rfl | simp)).after h1)
  have bw := below_call h1 (w := w) (by first | exact (below_alloc (below_alloc (Below.alloc (Below.refl _ _) (Below.size (Below.refl _ _)) _) _) _) | go_grown)
  clear h1
  obtain ⟨k3_c, k3_f, k3_l, k3_m, k3_n⟩ := k3.knows
  go_wp2
  obtain ⟨rk3_c, rk3_f, rk3_l, -⟩ := ((((((k3.set_ 0 (.int .u64 0)).set_ 1 (.int .u64 0)).set_ 2 (.int .u64 0)).set_ 3 (.int .u64 0))).re (cs' := #[.int .u64 0, .int .u64 0, .int .u64 0, .int .u64 0]) rfl).knows
  refine bodyPost_ret (v := .tuple #[zeroV, .int .i64 7]) (by simp [results, Try.results56, go_sem, rk3_c, rk3_l]) rfl ?_
  exact ⟨rfl, (by first | exact (Below.setCell (p := ⟨w.heap.size + 1 + 1, 3, none⟩) (Below.setCell (p := ⟨w.heap.size + 1 + 1, 2, none⟩) (Below.setCell (p := ⟨w.heap.size + 1 + 1, 1, none⟩) (Below.setCell (p := ⟨w.heap.size + 1 + 1, 0, none⟩) bw (by dsimp only; omega) _) (by dsimp only; omega) _) (by dsimp only; omega) _) (by dsimp only; omega) _) | go_grown)⟩
set_option maxRecDepth 20000 in
set_option maxHeartbeats 2000000 in
theorem nil_Add {x0 x1 x2 x3 y0 y1 y2 y3 : Int} (w : World) : Calls Try.prog 30 #[.pointer none, .agg #[.int .u64 x0, .int .u64 x1, .int .u64 x2, .int .u64 x3], .agg #[.int .u64 y0, .int .u64 y1, .int .u64 y2, .int .u64 y3]] w fun e w' => e = .returned (.tuple #[zeroV, .int .i64 7]) ∧ Below w.heap.size w w' := by
  go_enter Try.func30, Try.ntmps30
  go_wp2_with fail
  (with_reducible refine (nil_two_plus _).mono ?_)
  rintro e w1 ⟨rfl, h1⟩
  have k3 := ((Blk.newAt (n := w.heap.size + 1 + 1) _ _ _ (by first | rfl | simp)).after h1)
  have bw := below_call h1 (w := w) (by first | exact (below_alloc (below_alloc (Below.alloc (Below.refl _ _) (Below.size (Below.refl _ _)) _) _) _) | go_grown)
  clear h1
  obtain ⟨k3_c, k3_f, k3_l, k3_m, k3_n⟩ := k3.knows
  go_wp2
  obtain ⟨rk3_c, rk3_f, rk3_l, -⟩ := ((((((k3.set_ 0 (.int .u64 0)).set_ 1 (.int .u64 0)).set_ 2 (.int .u64 0)).set_ 3 (.int .u64 0))).re (cs' := #[.int .u64 0, .int .u64 0, .int .u64 0, .int .u64 0]) rfl).knows
  refine bodyPost_ret (v := .tuple #[zeroV, .int .i64 7]) (by simp [results, Try.results30, go_sem, rk3_c, rk3_l]) rfl ?_
  exact ⟨rfl, (by first | exact (Below.setCell (p := ⟨w.heap.size + 1 + 1, 3, none⟩) (Below.setCell (p := ⟨w.heap.size + 1 + 1, 2, none⟩) (Below.setCell (p := ⟨w.heap.size + 1 + 1, 1, none⟩) (Below.setCell (p := ⟨w.heap.size + 1 + 1, 0, none⟩) bw (by dsimp only; omega) _) (by dsimp only; omega) _) (by dsimp only; omega) _) (by dsimp only; omega) _) | go_grown)⟩
set_option maxRecDepth 20000 in
set_option maxHeartbeats 2000000 in
theorem nil_two_minus {x0 x1 x2 x3 y0 y1 y2 y3 : Int} (w : World) : Calls Try.prog 56 #[.pointer none, .func (.func 53) #[.pointer none] #[], .agg #[.int .u64 x0, .int .u64 x1, .int .u64 x2, .int .u64 x3], .agg #[.int .u64 y0, .int .u64 y1, .int .u64 y2, .int .u64 y3]] w fun e w' => e = .returned (.tuple #[zeroV, .int .i64 7]) ∧ Below w.heap.size w w' := by
  go_enter Try.func56, Try.ntmps56
  go_wp2_with fail
  (with_reducible refine (nil_Check _).mono ?_)
  rintro e w1 ⟨rfl, h1⟩
  have k3 := ((Blk.newAt (n := w.heap.size + 1 + 1) _ _ _ (by first | rfl | simp)).after h1)
  have bw := below_call h1 (w := w) (by first | exact (below_alloc (below_alloc (Below.alloc (Below.refl _ _) (Below.size (Below.refl _ _)) _) _) _) | go_grown)
  clear h1
  obtain ⟨k3_c, k3_f, k3_l, k3_m, k3_n⟩ := k3.knows
  go_wp2
  obtain ⟨rk3_c, rk3_f, rk3_l, -⟩ := ((((((k3.set_ 0 (.int .u64 0)).set_ 1 (.int .u64 0)).set_ 2 (.int .u64 0)).set_ 3 (.int .u64 0))).re (cs' := #[.int .u64 0, .int .u64 0, .int .u64 0, .int .u64 0]) rfl).knows
  refine bodyPost_ret (v := .tuple #[zeroV, .int .i64 7]) (by simp [results, Try.results56, go_sem, rk3_c, rk3_l]) rfl ?_
  exact ⟨rfl, (by first | exact (Below.setCell (p := ⟨w.heap.size + 1 + 1, 3, none⟩) (Below.setCell (p := ⟨w.heap.size + 1 + 1, 2, none⟩) (Below.setCell (p := ⟨w.heap.size + 1 + 1, 1, none⟩) (Below.setCell (p := ⟨w.heap.size + 1 + 1, 0, none⟩) bw (by dsimp only; omega) _) (by dsimp only; omega) _) (by dsimp only; omega) _) (by dsimp only; omega) _) | go_grown)⟩
set_option maxRecDepth 20000 in
set_option maxHeartbeats 2000000 in
theorem nil_Sub {x0 x1 x2 x3 y0 y1 y2 y3 : Int} (w : World) : Calls Try.prog 31 #[.pointer none, .agg #[.int .u64 x0, .int .u64 x1, .int .u64 x2, .int .u64 x3], .agg #[.int .u64 y0, .int .u64 y1, .int .u64 y2, .int .u64 y3]] w fun e w' => e = .returned (.tuple #[zeroV, .int .i64 7]) ∧ Below w.heap.size w w' := by
  go_enter Try.func31, Try.ntmps31
  go_wp2_with fail
  (with_reducible refine (nil_two_minus _).mono ?_)
  rintro e w1 ⟨rfl, h1⟩
  have k3 := ((Blk.newAt (n := w.heap.size + 1 + 1) _ _ _ (by first | rfl | simp)).after h1)
  have bw := below_call h1 (w := w) (by first | exact (below_alloc (below_alloc (Below.alloc (Below.refl _ _) (Below.size (Below.refl _ _)) _) _) _) | go_grown)
  clear h1
  obtain ⟨k3_c, k3_f, k3_l, k3_m, k3_n⟩ := k3.knows
  go_wp2
  obtain ⟨rk3_c, rk3_f, rk3_l, -⟩ := ((((((k3.set_ 0 (.int .u64 0)).set_ 1 (.int .u64 0)).set_ 2 (.int .u64 0)).set_ 3 (.int .u64 0))).re (cs' := #[.int .u64 0, .int .u64 0, .int .u64 0, .int .u64 0]) rfl).knows
  refine bodyPost_ret (v := .tuple #[zeroV, .int .i64 7]) (by simp [results, Try.results31, go_sem, rk3_c, rk3_l]) rfl ?_
  exact ⟨rfl, (by first | exact (Below.setCell (p := ⟨w.heap.size + 1 + 1, 3, none⟩) (Below.setCell (p := ⟨w.heap.size + 1 + 1, 2, none⟩) (Below.setCell (p := ⟨w.heap.size + 1 + 1, 1, none⟩) (Below.setCell (p := ⟨w.heap.size + 1 + 1, 0, none⟩) bw (by dsimp only; omega) _) (by dsimp only; omega) _) (by dsimp only; omega) _) (by dsimp only; omega) _) | go_grown)⟩
set_option maxRecDepth 20000 in
set_option maxHeartbeats 2000000 in
theorem nil_two_times {x0 x1 x2 x3 y0 y1 y2 y3 : Int} (w : World) : Calls Try.prog 56 #[.pointer none, .func (.func 51) #[.pointer none] #[], .agg #[.int .u64 x0, .int .u64 x1, .int .u64 x2, .int .u64 x3], .agg #[.int .u64 y0, .int .u64 y1, .int .u64 y2, .int .u64 y3]] w fun e w' => e = .returned (.tuple #[zeroV, .int .i64 7]) ∧ Below w.heap.size w w' := by
  go_enter Try.func56, Try.ntmps56
  go_wp2_with fail
  (with_reducible refine (nil_Check _).mono ?_)
  rintro e w1 ⟨rfl, h1⟩
  have k3 := ((Blk.newAt (n := w.heap.size + 1 + 1) _ _ _ (by first | rfl | simp)).after h1)
  have bw := below_call h1 (w := w) (by first | exact (below_alloc (below_alloc (Below.alloc (Below.refl _ _) (Below.size (Below.refl _ _)) _) _) _) | go_grown)
  clear h1
  obtain ⟨k3_c, k3_f, k3_l, k3_m, k3_n⟩ := k3.knows
  go_wp2
  obtain ⟨rk3_c, rk3_f, rk3_l, -⟩ := ((((((k3.set_ 0 (.int .u64 0)).set_ 1 (.int .u64 0)).set_ 2 (.int .u64 0)).set_ 3 (.int .u64 0))).re (cs' := #[.int .u64 0, .int .u64 0, .int .u64 0, .int .u64 0]) rfl).knows
  refine bodyPost_ret (v := .tuple #[zeroV, .int .i64 7]) (by simp [results, Try.results56, go_sem, rk3_c, rk3_l]) rfl ?_
  exact ⟨rfl, (by first | exact (Below.setCell (p := ⟨w.heap.size + 1 + 1, 3, none⟩) (Below.setCell (p := ⟨w.heap.size + 1 + 1, 2, none⟩) (Below.setCell (p := ⟨w.heap.size + 1 + 1, 1, none⟩) (Below.setCell (p := ⟨w.heap.size + 1 + 1, 0, none⟩) bw (by dsimp only; omega) _) (by dsimp only; omega) _) (by dsimp only; omega) _) (by dsimp only; omega) _) | go_grown)⟩
set_option maxRecDepth 20000 in
set_option maxHeartbeats 2000000 in
theorem nil_Mul {x0 x1 x2 x3 y0 y1 y2 y3 : Int} (w : World) : Calls Try.prog 22 #[.pointer none, .agg #[.int .u64 x0, .int .u64 x1, .int .u64 x2, .int .u64 x3], .agg #[.int .u64 y0, .int .u64 y1, .int .u64 y2, .int .u64 y3]] w fun e w' => e = .returned (.tuple #[zeroV, .int .i64 7]) ∧ Below w.heap.size w w' := by
  go_enter Try.func22, Try.ntmps22
  go_wp2_with fail
  (with_reducible refine (nil_two_times _).mono ?_)
  rintro e w1 ⟨rfl, h1⟩
  have k3 := ((Blk.newAt (n := w.heap.size + 1 + 1) _ _ _ (by first | rfl | simp)).after h1)
  have bw := below_call h1 (w := w) (by first | exact (below_alloc (below_alloc (Below.alloc (Below.refl _ _) (Below.size (Below.refl _ _)) _) _) _) | go_grown)
  clear h1
  obtain ⟨k3_c, k3_f, k3_l, k3_m, k3_n⟩ := k3.knows
  go_wp2
  obtain ⟨rk3_c, rk3_f, rk3_l, -⟩ := ((((((k3.set_ 0 (.int .u64 0)).set_ 1 (.int .u64 0)).set_ 2 (.int .u64 0)).set_ 3 (.int .u64 0))).re (cs' := #[.int .u64 0, .int .u64 0, .int .u64 0, .int .u64 0]) rfl).knows
  refine bodyPost_ret (v := .tuple #[zeroV, .int .i64 7]) (by simp [results, Try.results22, go_sem, rk3_c, rk3_l]) rfl ?_
  exact ⟨rfl, (by first | exact (Below.setCell (p := ⟨w.heap.size + 1 + 1, 3, none⟩) (Below.setCell (p := ⟨w.heap.size + 1 + 1, 2, none⟩) (Below.setCell (p := ⟨w.heap.size + 1 + 1, 1, none⟩) (Below.setCell (p := ⟨w.heap.size + 1 + 1, 0, none⟩) bw (by dsimp only; omega) _) (by dsimp only; omega) _) (by dsimp only; omega) _) (by dsimp only; omega) _) | go_grown)⟩
set_option maxRecDepth 20000 in
set_option maxHeartbeats 2000000 in
theorem nil_Neg {x0 x1 x2 x3 : Int} (w : World) : Calls Try.prog 23 #[.pointer none, .agg #[.int .u64 x0, .int .u64 x1, .int .u64 x2, .int .u64 x3]] w fun e w' => e = .returned (.tuple #[zeroV, .int .i64 7]) ∧ Below w.heap.size w w' := by
  go_enter Try.func23, Try.ntmps23
  go_wp2_with fail
  (with_reducible refine (nil_Sub _).mono ?_)
  rintro e w1 ⟨rfl, h1⟩
  have k2 := ((Blk.newAt (n := w.heap.size + 1) _ _ _ (by first | rfl | simp)).after h1)
  have bw := below_call h1 (w := w) (by first | exact (below_alloc (Below.alloc (Below.refl _ _) (Below.size (Below.refl _ _)) _) _) | go_grown)
  clear h1
  obtain ⟨k2_c, k2_f, k2_l, k2_m, k2_n⟩ := k2.knows
  go_wp2
  obtain ⟨rk2_c, rk2_f, rk2_l, -⟩ := ((((((k2.set_ 0 (.int .u64 0)).set_ 1 (.int .u64 0)).set_ 2 (.int .u64 0)).set_ 3 (.int .u64 0))).re (cs' := #[.int .u64 0, .int .u64 0, .int .u64 0, .int .u64 0]) rfl).knows
  refine bodyPost_ret (v := .tuple #[zeroV, .int .i64 7]) (by simp [results, Try.results23, go_sem, rk2_c, rk2_l]) rfl ?_
  exact ⟨rfl, (by first | exact (Below.setCell (p := ⟨w.heap.size + 1, 3, none⟩) (Below.setCell (p := ⟨w.heap.size + 1, 2, none⟩) (Below.setCell (p := ⟨w.heap.size + 1, 1, none⟩) (Below.setCell (p := ⟨w.heap.size + 1, 0, none⟩) bw (by dsimp only; omega) _) (by dsimp only; omega) _) (by dsimp only; omega) _) (by dsimp only; omega) _) | go_grown)⟩
set_option maxRecDepth 20000 in
set_option maxHeartbeats 2000000 in
theorem nil_Inv {x0 x1 x2 x3 : Int} (w : World) : Calls Try.prog 14 #[.pointer none, .agg #[.int .u64 x0, .int .u64 x1, .int .u64 x2, .int .u64 x3]] w fun e w' => e = .returned (.tuple #[zeroV, .int .i64 7]) ∧ Below w.heap.size w w' := by
  go_enter Try.func14, Try.ntmps14
  go_wp2_with fail
  (with_reducible refine (nil_Check _).mono ?_)
  rintro e w1 ⟨rfl, h1⟩
  have k2 := ((Blk.newAt (n := w.heap.size + 1) _ _ _ (by first | rfl | simp)).after h1)
  have bw := below_call h1 (w := w) (by first | exact (below_alloc (Below.alloc (Below.refl _ _) (Below.size (Below.refl _ _)) _) _) | go_grown)
  clear h1
  obtain ⟨k2_c, k2_f, k2_l, k2_m, k2_n⟩ := k2.knows
  go_wp2
  obtain ⟨rk2_c, rk2_f, rk2_l, -⟩ := ((((((k2.set_ 0 (.int .u64 0)).set_ 1 (.int .u64 0)).set_ 2 (.int .u64 0)).set_ 3 (.int .u64 0))).re (cs' := #[.int .u64 0, .int .u64 0, .int .u64 0, .int .u64 0]) rfl).knows
  refine bodyPost_ret (v := .tuple #[zeroV, .int .i64 7]) (by simp [results, Try.results14, go_sem, rk2_c, rk2_l]) rfl ?_
  exact ⟨rfl, (by first | exact (Below.setCell (p := ⟨w.heap.size + 1, 3, none⟩) (Below.setCell (p := ⟨w.heap.size + 1, 2, none⟩) (Below.setCell (p := ⟨w.heap.size + 1, 1, none⟩) (Below.setCell (p := ⟨w.heap.size + 1, 0, none⟩) bw (by dsimp only; omega) _) (by dsimp only; omega) _) (by dsimp only; omega) _) (by dsimp only; omega) _) | go_grown)⟩
set_option maxRecDepth 20000 in
set_option maxHeartbeats 2000000 in
theorem nil_Sqrt {x0 x1 x2 x3 : Int} (w : World) : Calls Try.prog 16 #[.pointer none, .agg #[.int .u64 x0, .int .u64 x1, .int .u64 x2, .int .u64 x3]] w fun e w' => e = .returned (.tuple #[zeroV, .int .i64 7]) ∧ Below w.heap.size w w' := by
  go_enter Try.func16, Try.ntmps16
  go_wp2_with fail
  (with_reducible refine (nil_Check _).mono ?_)
  rintro e w1 ⟨rfl, h1⟩
  have k2 := ((Blk.newAt (n := w.heap.size + 1) _ _ _ (by first | rfl | simp)).after h1)
  have bw := below_call h1 (w := w) (by first | exact (below_alloc (Below.alloc (Below.refl _ _) (Below.size (Below.refl _ _)) _) _) | go_grown)
  clear h1
  obtain ⟨k2_c, k2_f, k2_l, k2_m, k2_n⟩ := k2.knows
  go_wp2
  obtain ⟨rk2_c, rk2_f, rk2_l, -⟩ := ((((((k2.set_ 0 (.int .u64 0)).set_ 1 (.int .u64 0)).set_ 2 (.int .u64 0)).set_ 3 (.int .u64 0))).re (cs' := #[.int .u64 0, .int .u64 0, .int .u64 0, .int .u64 0]) rfl).knows
  refine bodyPost_ret (v := .tuple #[zeroV, .int .i64 7]) (by simp [results, Try.results16, go_sem, rk2_c, rk2_l]) rfl ?_
  exact ⟨rfl, (by first | exact (Below.setCell (p := ⟨w.heap.size + 1, 3, none⟩) (Below.setCell (p := ⟨w.heap.size + 1, 2, none⟩) (Below.setCell (p := ⟨w.heap.size + 1, 1, none⟩) (Below.setCell (p := ⟨w.heap.size + 1, 0, none⟩) bw (by dsimp only; omega) _) (by dsimp only; omega) _) (by dsimp only; omega) _) (by dsimp only; omega) _) | go_grown)⟩
set_option maxRecDepth 20000 in
set_option maxHeartbeats 2000000 in
theorem nil_Pow {x0 x1 x2 x3 y0 y1 y2 y3 : Int} (w : World) : Calls Try.prog 13 #[.pointer none, .agg #[.int .u64 x0, .int .u64 x1, .int .u64 x2, .int .u64 x3], .agg #[.int .u64 y0, .int .u64 y1, .int .u64 y2, .int .u64 y3]] w fun e w' => e = .returned (.tuple #[zeroV, .int .i64 7]) ∧ Below w.heap.size w w' := by
  go_enter Try.func13, Try.ntmps13
  go_wp2_with fail
  (with_reducible refine (nil_Check _).mono ?_)
  rintro e w1 ⟨rfl, h1⟩
  have k3 := ((Blk.newAt (n := w.heap.size + 1 + 1) _ _ _ (by first | rfl | simp)).after h1)
  have bw := below_call h1 (w := w) (by first | exact (below_alloc (below_alloc (Below.alloc (Below.refl _ _) (Below.size (Below.refl _ _)) _) _) _) | go_grown)
  clear h1
  obtain ⟨k3_c, k3_f, k3_l, k3_m, k3_n⟩ := k3.knows
  go_wp2
  obtain ⟨rk3_c, rk3_f, rk3_l, -⟩ := ((((((k3.set_ 0 (.int .u64 0)).set_ 1 (.int .u64 0)).set_ 2 (.int .u64 0)).set_ 3 (.int .u64 0))).re (cs' := #[.int .u64 0, .int .u64 0, .int .u64 0, .int .u64 0]) rfl).knows
  refine bodyPost_ret (v := .tuple #[zeroV, .int .i64 7]) (by simp [results, Try.results13, go_sem, rk3_c, rk3_l]) rfl ?_
  exact ⟨rfl, (by first | exact (Below.setCell (p := ⟨w.heap.size + 1 + 1, 3, none⟩) (Below.setCell (p := ⟨w.heap.size + 1 + 1, 2, none⟩) (Below.setCell (p := ⟨w.heap.size + 1 + 1, 1, none⟩) (Below.setCell (p := ⟨w.heap.size + 1 + 1, 0, none⟩) bw (by dsimp only; omega) _) (by dsimp only; omega) _) (by dsimp only; omega) _) (by dsimp only; omega) _) | go_grown)⟩
set_option maxRecDepth 20000 in
set_option maxHeartbeats 2000000 in
theorem nil_Reduce (w : World) : Calls Try.prog 27 #[.pointer none, .agg #[.int .u64 1, .int .u64 0, .int .u64 0, .int .u64 0, .int .u64 0, .int .u64 0, .int .u64 0, .int .u64 0]] w fun e w' => e = .returned (zeroV) ∧ Below w.heap.size w w' := by
  go_enter Try.func27, Try.ntmps27
  go_wp2
  obtain ⟨rk2_c, rk2_f, rk2_l, -⟩ := (((Blk.newAt (n := w.heap.size + 1) (w.alloc (.cells #[.int .u64 1, .int .u64 0, .int .u64 0, .int .u64 0, .int .u64 0, .int .u64 0, .int .u64 0, .int .u64 0] 43)) 24 #[.int .u64 0, .int .u64 0, .int .u64 0, .int .u64 0] (by first | rfl | simp))).re (cs' := #[.int .u64 0, .int .u64 0, .int .u64 0, .int .u64 0]) rfl).knows
  refine bodyPost_ret (v := zeroV) (by simp [results, Try.results27, go_sem, rk2_c, rk2_l]) rfl ?_
  exact ⟨rfl, (by first | exact (below_alloc (Below.alloc (Below.refl _ _) (Below.size (Below.refl _ _)) _) _) | go_grown)⟩
set_option maxRecDepth 20000 in
set_option maxHeartbeats 2000000 in
theorem nil_Encode {x0 x1 x2 x3 : Int} (w : World) : Calls Try.prog 36 #[.pointer none, .agg #[.int .u64 x0, .int .u64 x1, .int .u64 x2, .int .u64 x3]] w fun e w' => e = .returned (.tuple #[.string ⟨#[]⟩, .int .i64 7]) ∧ Below w.heap.size w w' := by
  go_enter Try.func36, Try.ntmps36
  go_wp2_with fail
  (with_reducible refine (nil_Check _).mono ?_)
  rintro e w1 ⟨rfl, h1⟩
  have bw := below_call h1 (w := w) (by first | exact (Below.alloc (Below.refl _ _) (Below.size (Below.refl _ _)) _) | go_grown)
  clear h1
  go_wp2
  refine bodyPost_ret (v := .tuple #[.string ⟨#[]⟩, .int .i64 7]) (by simp [results, Try.results36, go_sem]) rfl ?_
  exact ⟨rfl, (by first | exact bw | go_grown)⟩
set_option maxRecDepth 20000 in
set_option maxHeartbeats 2000000 in
theorem nil_Decode {s : ByteArray} (w : World) : Calls Try.prog 37 #[.pointer none, .string s] w fun e w' => e = .returned (.tuple #[zeroV, .int .i64 7]) ∧ Below w.heap.size w w' := by
  go_enter Try.func37, Try.ntmps37
  go_wp2
  obtain ⟨rk1_c, rk1_f, rk1_l, -⟩ := (((Blk.newAt (n := w.heap.size) (w) 24 #[.int .u64 0, .int .u64 0, .int .u64 0, .int .u64 0] (by first | rfl | simp))).re (cs' := #[.int .u64 0, .int .u64 0, .int .u64 0, .int .u64 0]) rfl).knows
  refine bodyPost_ret (v := .tuple #[zeroV, .int .i64 7]) (by simp [results, Try.results37, go_sem, rk1_c, rk1_l]) rfl ?_
  exact ⟨rfl, (by first | exact (Below.alloc (Below.refl _ _) (Below.size (Below.refl _ _)) _) | go_grown)⟩
set_option maxRecDepth 20000 in
set_option maxHeartbeats 2000000 in
theorem fnil_walk (a : Nat) (s : ByteArray) (ha : a < RR) (hm : s.size ≤ maxLen) (w : World) : Calls Try.prog 11 #[num a, .string s] w fun e w' => e = .returned (.bool true) ∧ Below w.heap.size w w' := by
  have q1 : ∀ w, (Op.equalIn 10000 24 (zeroV) (zeroV)).run Try.prog w = .ok true w := by intro w; rw [← num_zero]; exact eqin_same 0 _
  go_enter Try.func11, Try.ntmps11
  go_wp2_with fail
  (with_reducible refine (nil_Add _).mono ?_)
  rintro e w1 ⟨rfl, h1⟩
  have k1 := ((Blk.newAt (n := w.heap.size) _ _ _ (by first | rfl | simp)).after h1)
  have bw := below_call h1 (w := w) (by first | exact (Below.alloc (Below.refl _ _) (Below.size (Below.refl _ _)) _) | go_grown)
  clear h1
  obtain ⟨k1_c, k1_f, k1_l, k1_m, k1_n⟩ := k1.knows
  go_wp2_with fail
  (with_reducible refine (nil_Mul _).mono ?_)
  rintro e w2 ⟨rfl, h2⟩
  clear k1_c k1_f k1_m k1_n
  have o2 : w.heap.size < w1.heap.size := by first | exact k1_l | omega
  replace k1 := ((k1.alloc _).after h2)
  have bwsz := Below.size bw
  replace bw := below_call h2 (w := w) (by first | exact (Below.alloc bw (Below.size bw) _) | go_grown)
  clear h2 bwsz k1_l
  obtain ⟨k1_c, k1_f, k1_l, k1_m, k1_n⟩ := k1.knows
  go_wp2_with fail
  (with_reducible refine (nil_Inv _).mono ?_)
  rintro e w3 ⟨rfl, h3⟩
  clear k1_c k1_f k1_m k1_n
  have o3 : w.heap.size < w2.heap.size := by first | exact k1_l | omega
  replace k1 := ((k1.alloc _).after h3)
  have bwsz := Below.size bw
  replace bw := below_call h3 (w := w) (by first | exact (Below.alloc bw (Below.size bw) _) | go_grown)
  clear h3 bwsz k1_l
  obtain ⟨k1_c, k1_f, k1_l, k1_m, k1_n⟩ := k1.knows
  go_wp2_with fail
  (with_reducible refine (nil_Sqrt _).mono ?_)
  rintro e w4 ⟨rfl, h4⟩
  clear k1_c k1_f k1_m k1_n
  have o4 : w.heap.size < w3.heap.size := by first | exact k1_l | omega
  replace k1 := ((k1.alloc _).after h4)
  have bwsz := Below.size bw
  replace bw := below_call h4 (w := w) (by first | exact (Below.alloc bw (Below.size bw) _) | go_grown)
  clear h4 bwsz k1_l
  obtain ⟨k1_c, k1_f, k1_l, k1_m, k1_n⟩ := k1.knows
  go_wp2_with fail
  (with_reducible refine (nil_Encode _).mono ?_)
  rintro e w5 ⟨rfl, h5⟩
  clear k1_c k1_f k1_m k1_n
  have o5 : w.heap.size < w4.heap.size := by first | exact k1_l | omega
  replace k1 := ((k1.alloc _).after h5)
  have bwsz := Below.size bw
  replace bw := below_call h5 (w := w) (by first | exact (Below.alloc bw (Below.size bw) _) | go_grown)
  clear h5 bwsz k1_l
  obtain ⟨k1_c, k1_f, k1_l, k1_m, k1_n⟩ := k1.knows
  go_wp2_with fail
  (with_reducible refine (nil_Decode _).mono ?_)
  rintro e w6 ⟨rfl, h6⟩
  clear k1_c k1_f k1_m k1_n
  replace k1 := (k1.after h6)
  have bwsz := Below.size bw
  replace bw := below_call h6 (w := w) (by first | exact bw | go_grown)
  clear h6 bwsz k1_l
  obtain ⟨k1_c, k1_f, k1_l, k1_m, k1_n⟩ := k1.knows
  go_wp2_with fail
  (with_reducible refine (nil_Pow _).mono ?_)
  rintro e w7 ⟨rfl, h7⟩
  clear k1_c k1_f k1_m k1_n
  have o6 : w.heap.size < w6.heap.size := by first | exact k1_l | omega
  replace k1 := ((k1.alloc _).after h7)
  have bwsz := Below.size bw
  replace bw := below_call h7 (w := w) (by first | exact (Below.alloc bw (Below.size bw) _) | go_grown)
  clear h7 bwsz k1_l
  obtain ⟨k1_c, k1_f, k1_l, k1_m, k1_n⟩ := k1.knows
  go_wp2_with fail
  (with_reducible refine (nil_Neg _).mono ?_)
  rintro e w8 ⟨rfl, h8⟩
  clear k1_c k1_f k1_m k1_n
  have o7 : w.heap.size < w7.heap.size := by first | exact k1_l | omega
  replace k1 := ((k1.alloc _).after h8)
  have bwsz := Below.size bw
  replace bw := below_call h8 (w := w) (by first | exact (Below.alloc bw (Below.size bw) _) | go_grown)
  clear h8 bwsz k1_l
  obtain ⟨k1_c, k1_f, k1_l, k1_m, k1_n⟩ := k1.knows
  go_wp2_with fail
  (with_reducible refine (nil_Check _).mono ?_)
  rintro e w9 ⟨rfl, h9⟩
  clear k1_c k1_f k1_m k1_n
  have o8 : w.heap.size < w8.heap.size := by first | exact k1_l | omega
  have bwsz := Below.size bw
  replace bw := below_call h9 (w := w) (by first | exact (Below.alloc bw (Below.size bw) _) | go_grown)
  clear h9 bwsz k1_l
  clear k1
  go_wp2_with fail
  (with_reducible refine (nil_Modulus _).mono ?_)
  rintro e w10 ⟨rfl, h10⟩
  have bwsz := Below.size bw
  replace bw := below_call h10 (w := w) (by first | exact bw | go_grown)
  clear h10 bwsz
  go_wp2_with fail
  (with_reducible refine (nil_Reduce _).mono ?_)
  rintro e w11 ⟨rfl, h11⟩
  have bwsz := Below.size bw
  replace bw := below_call h11 (w := w) (by first | exact bw | go_grown)
  clear h11 bwsz
  go_wp2_with fail
  (with_reducible refine (half_any _).mono ?_)
  rintro e w12 ⟨rfl, h12⟩
  have bwsz := Below.size bw
  replace bw := below_call h12 (w := w) (by first | exact bw | go_grown)
  clear h12 bwsz
  go_wp2
  go_ret
  exact ⟨rfl, (by first | exact bw | go_grown)⟩
end Go.Proofs.Ytlibfjemdiochaa
