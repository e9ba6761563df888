/- The two fields' numbers as bytes. -/
import Derived.Test.YtlibfjemdiochaaLF0
import Derived.Test.YtlibfjemdiochaaY1
import Derived.Test.YtlibfjemdiochaaY1
namespace Go.Proofs.Ytlibfjemdiochaa
set_option linter.unusedVariables false
set_option linter.unusedSimpArgs false
open Go.RowKit

set_option maxRecDepth 20000 in
set_option maxHeartbeats 2000000 in
theorem fencode_yes {base : Bool} {f g : Nat} {w : World} (hF : FieldB w f g base) (a : Nat) (h : a < pN base) : Calls Try.prog 36 #[.pointer (some ⟨f, 0, none⟩), num a] w fun e w' => e = .returned (.tuple #[.string (bst a), .int .i64 0]) ∧ Below w.heap.size w w' := by
  go_enter Try.func36, Try.ntmps36
  go_wp2_with fail
  (with_reducible refine (check_in (hF.alloc _) a h).mono ?_)
  rintro e w1 ⟨rfl, h1⟩
  replace hF := ((hF.alloc _).after h1)
  have k1 := ((Blk.newAt (n := w.heap.size) _ _ _ (by first | rfl | simp)).after h1)
  have bw := below_call h1 (w := w) (by first | exact (Below.alloc (Below.refl _ _) (Below.size (Below.refl _ _)) _) | go_grown)
  clear h1
  obtain ⟨k1_c, k1_f, k1_l, k1_m, k1_n⟩ := k1.knows
  go_wp2_with fail
  (with_reducible refine (bytes_any a _).mono ?_)
  rintro e w2 ⟨rfl, h2⟩
  clear k1_c k1_f k1_m k1_n
  replace hF := (hF.after h2)
  have bwsz := Below.size bw
  replace bw := below_call h2 (w := w) (by first | exact bw | go_grown)
  clear h2 bwsz k1_l
  clear k1
  go_wp2
  refine bodyPost_ret (v := .tuple #[.string (bst a), .int .i64 0]) (by simp [results, Try.results36, go_sem]) rfl ?_
  exact ⟨rfl, (by first | exact bw | go_grown)⟩
set_option maxRecDepth 20000 in
set_option maxHeartbeats 2000000 in
theorem fencode_no {base : Bool} {f g : Nat} {w : World} (hF : FieldB w f g base) (a : Nat) (ha : a < RR) (h : ¬ a < pN base) : Calls Try.prog 36 #[.pointer (some ⟨f, 0, none⟩), num a] w fun e w' => e = .returned (.tuple #[.string ⟨#[]⟩, .int .i64 20]) ∧ Below w.heap.size w w' := by
  go_enter Try.func36, Try.ntmps36
  go_wp2_with fail
  (with_reducible refine (check_out (hF.alloc _) a ha h).mono ?_)
  rintro e w1 ⟨rfl, h1⟩
  replace hF := ((hF.alloc _).after h1)
  have bw := below_call h1 (w := w) (by first | exact (Below.alloc (Below.refl _ _) (Below.size (Below.refl _ _)) _) | go_grown)
  clear h1
  go_wp2
  refine bodyPost_ret (v := .tuple #[.string ⟨#[]⟩, .int .i64 20]) (by simp [results, Try.results36, go_sem]) rfl ?_
  exact ⟨rfl, (by first | exact bw | go_grown)⟩
set_option maxRecDepth 20000 in
set_option maxHeartbeats 2000000 in
theorem fdecode_bad {base : Bool} {f g : Nat} {w : World} (hF : FieldB w f g base) (s : ByteArray) (hs : s.size ≠ 32) (hm : s.size ≤ maxLen) : Calls Try.prog 37 #[.pointer (some ⟨f, 0, none⟩), .string s] w fun e w' => e = .returned (.tuple #[zeroV, .int .i64 4]) ∧ Below w.heap.size w w' := by
  go_enter Try.func37, Try.ntmps37
  go_wp2_with fail
  (with_reducible refine (from_bad s hs hm _).mono ?_)
  rintro e w1 ⟨rfl, h1⟩
  replace hF := ((hF.alloc _).after h1)
  have k1 := ((Blk.newAt (n := w.heap.size) _ _ _ (by first | rfl | simp)).after h1)
  have bw := below_call h1 (w := w) (by first | exact (Below.alloc (Below.refl _ _) (Below.size (Below.refl _ _)) _) | go_grown)
  clear h1
  obtain ⟨k1_c, k1_f, k1_l, k1_m, k1_n⟩ := k1.knows
  go_wp2
  obtain ⟨rk1_c, rk1_f, rk1_l, -⟩ := (((((((k1.set_ 0 (.int .u64 0)).set_ 1 (.int .u64 0)).set_ 2 (.int .u64 0)).set_ 3 (.int .u64 0)).alloc (.cells #[.int .u64 (lb 0 0), .int .u64 (lb 0 1), .int .u64 (lb 0 2), .int .u64 (lb 0 3)] 24))).re (cs' := #[.int .u64 0, .int .u64 0, .int .u64 0, .int .u64 0]) rfl).knows
  refine bodyPost_ret (v := .tuple #[zeroV, .int .i64 4]) (by simp [results, Try.results37, go_sem, rk1_c, rk1_l]) rfl ?_
  exact ⟨rfl, (by first | exact (below_alloc (Below.setCell (p := ⟨w.heap.size, 3, none⟩) (Below.setCell (p := ⟨w.heap.size, 2, none⟩) (Below.setCell (p := ⟨w.heap.size, 1, none⟩) (Below.setCell (p := ⟨w.heap.size, 0, none⟩) bw (by dsimp only; omega) _) (by dsimp only; omega) _) (by dsimp only; omega) _) (by dsimp only; omega) _) _) | go_grown)⟩
set_option maxRecDepth 20000 in
set_option maxHeartbeats 2000000 in
theorem fdecode_yes {base : Bool} {f g : Nat} {w : World} (hF : FieldB w f g base) (n : Nat) (s : ByteArray) (hs : IsBytes s n) (h : n < pN base) : Calls Try.prog 37 #[.pointer (some ⟨f, 0, none⟩), .string s] w fun e w' => e = .returned (.tuple #[num n, .int .i64 0]) ∧ Below w.heap.size w w' := by
  go_enter Try.func37, Try.ntmps37
  go_wp2_with fail
  (with_reducible refine (from_any n s hs _).mono ?_)
  rintro e w1 ⟨rfl, h1⟩
  replace hF := ((hF.alloc _).after h1)
  have k1 := ((Blk.newAt (n := w.heap.size) _ _ _ (by first | rfl | simp)).after h1)
  have bw := below_call h1 (w := w) (by first | exact (Below.alloc (Below.refl _ _) (Below.size (Below.refl _ _)) _) | go_grown)
  clear h1
  obtain ⟨k1_c, k1_f, k1_l, k1_m, k1_n⟩ := k1.knows
  go_wp2_with fail
  (with_reducible refine (check_in (hF.alloc _) n h).mono ?_)
  rintro e w2 ⟨rfl, h2⟩
  clear k1_c k1_f k1_m k1_n
  have o2 : w.heap.size < w1.heap.size := by first | exact k1_l | omega
  replace hF := ((hF.alloc _).after h2)
  replace k1 := ((k1.alloc _).after h2)
  have k2 := ((Blk.newAt (n := w1.heap.size) _ _ _ (by first | rfl | simp)).after h2)
  have bwsz := Below.size bw
  replace bw := below_call h2 (w := w) (by first | exact (Below.alloc bw (Below.size bw) _) | go_grown)
  clear h2 bwsz k1_l
  obtain ⟨k1_c, k1_f, k1_l, k1_m, k1_n⟩ := k1.knows
  obtain ⟨k2_c, k2_f, k2_l, k2_m, k2_n⟩ := k2.knows
  go_wp2
  obtain ⟨rk1_c, rk1_f, rk1_l, -⟩ := ((((((k1.set_ 0 (.int .u64 (lb n 0))).set_ 1 (.int .u64 (lb n 1))).set_ 2 (.int .u64 (lb n 2))).set_ 3 (.int .u64 (lb n 3)))).re (cs' := #[.int .u64 (lb n 0), .int .u64 (lb n 1), .int .u64 (lb n 2), .int .u64 (lb n 3)]) rfl).knows
  refine bodyPost_ret (v := .tuple #[num n, .int .i64 0]) (by simp [results, Try.results37, go_sem, rk1_c, rk1_l]) rfl ?_
  exact ⟨rfl, (by first | exact (Below.setCell (p := ⟨w.heap.size, 3, none⟩) (Below.setCell (p := ⟨w.heap.size, 2, none⟩) (Below.setCell (p := ⟨w.heap.size, 1, none⟩) (Below.setCell (p := ⟨w.heap.size, 0, none⟩) bw (by dsimp only; omega) _) (by dsimp only; omega) _) (by dsimp only; omega) _) (by dsimp only; omega) _) | go_grown)⟩
set_option maxRecDepth 20000 in
set_option maxHeartbeats 2000000 in
theorem fdecode_out {base : Bool} {f g : Nat} {w : World} (hF : FieldB w f g base) (n : Nat) (s : ByteArray) (hs : IsBytes s n) (hn : n < RR) (h : ¬ n < pN base) : Calls Try.prog 37 #[.pointer (some ⟨f, 0, none⟩), .string s] w fun e w' => e = .returned (.tuple #[zeroV, .int .i64 20]) ∧ Below w.heap.size w w' := by
  go_enter Try.func37, Try.ntmps37
  go_wp2_with fail
  (with_reducible refine (from_any n s hs _).mono ?_)
  rintro e w1 ⟨rfl, h1⟩
  replace hF := ((hF.alloc _).after h1)
  have k1 := ((Blk.newAt (n := w.heap.size) _ _ _ (by first | rfl | simp)).after h1)
  have bw := below_call h1 (w := w) (by first | exact (Below.alloc (Below.refl _ _) (Below.size (Below.refl _ _)) _) | go_grown)
  clear h1
  obtain ⟨k1_c, k1_f, k1_l, k1_m, k1_n⟩ := k1.knows
  go_wp2_with fail
  (with_reducible refine (check_out (hF.alloc _) n hn h).mono ?_)
  rintro e w2 ⟨rfl, h2⟩
  clear k1_c k1_f k1_m k1_n
  have o2 : w.heap.size < w1.heap.size := by first | exact k1_l | omega
  replace hF := ((hF.alloc _).after h2)
  replace k1 := ((k1.alloc _).after h2)
  have bwsz := Below.size bw
  replace bw := below_call h2 (w := w) (by first | exact (Below.alloc bw (Below.size bw) _) | go_grown)
  clear h2 bwsz k1_l
  obtain ⟨k1_c, k1_f, k1_l, k1_m, k1_n⟩ := k1.knows
  go_wp2
  obtain ⟨rk1_c, rk1_f, rk1_l, -⟩ := ((((((k1.set_ 0 (.int .u64 0)).set_ 1 (.int .u64 0)).set_ 2 (.int .u64 0)).set_ 3 (.int .u64 0))).re (cs' := #[.int .u64 0, .int .u64 0, .int .u64 0, .int .u64 0]) rfl).knows
  refine bodyPost_ret (v := .tuple #[zeroV, .int .i64 20]) (by simp [results, Try.results37, go_sem, rk1_c, rk1_l]) rfl ?_
  exact ⟨rfl, (by first | exact (Below.setCell (p := ⟨w.heap.size, 3, none⟩) (Below.setCell (p := ⟨w.heap.size, 2, none⟩) (Below.setCell (p := ⟨w.heap.size, 1, none⟩) (Below.setCell (p := ⟨w.heap.size, 0, none⟩) bw (by dsimp only; omega) _) (by dsimp only; omega) _) (by dsimp only; omega) _) (by dsimp only; omega) _) | go_grown)⟩
end Go.Proofs.Ytlibfjemdiochaa
