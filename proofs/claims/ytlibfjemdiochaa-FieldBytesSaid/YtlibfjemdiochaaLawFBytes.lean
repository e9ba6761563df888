/- FieldBytes, the walk. -/
import Derived.Test.YtlibfjemdiochaaLF1
import Derived.Test.YtlibfjemdiochaaFG
import Derived.Test.YtlibfjemdiochaaLB
namespace Go.Proofs.Ytlibfjemdiochaa
set_option linter.unusedVariables false
set_option linter.unusedSimpArgs false
open Go.RowKit

set_option maxRecDepth 20000 in
set_option maxHeartbeats 2000000 in
theorem rdecode_bad {base : Bool} (s : ByteArray) (hs : s.size ≠ 32) (hm : s.size ≤ maxLen) (w : World) : Calls Try.prog 38 #[rfV base, .string s] w fun e w' => e = .returned (.tuple #[zeroV, .int .i64 4]) ∧ Below w.heap.size w w' := by
  go_enter Try.func38, Try.ntmps38
  go_wp2_with fail
  (with_reducible refine (rfrom_bad s hs hm _).mono ?_)
  rintro e w1 ⟨rfl, h1⟩
  have k2 := ((Blk.newAt (n := w.heap.size + 1) _ _ _ (by first | rfl | simp)).after h1)
  have bw := below_call h1 (w := w) (by first | exact (below_alloc (Below.alloc (Below.refl _ _) (Below.size (Below.refl _ _)) _) _) | go_grown)
  clear h1
  obtain ⟨k2_c, k2_f, k2_l, k2_m, k2_n⟩ := k2.knows
  go_wp2
  obtain ⟨rk2_c, rk2_f, rk2_l, -⟩ := (((((((k2.set_ 0 (.int .u64 0)).set_ 1 (.int .u64 0)).set_ 2 (.int .u64 0)).set_ 3 (.int .u64 0)).alloc (.cells #[.int .u64 (lb 0 0), .int .u64 (lb 0 1), .int .u64 (lb 0 2), .int .u64 (lb 0 3)] 24))).re (cs' := #[.int .u64 0, .int .u64 0, .int .u64 0, .int .u64 0]) rfl).knows
  refine bodyPost_ret (v := .tuple #[zeroV, .int .i64 4]) (by simp [results, Try.results38, go_sem, rk2_c, rk2_l]) rfl ?_
  exact ⟨rfl, (by first | exact (below_alloc (Below.setCell (p := ⟨w.heap.size + 1, 3, none⟩) (Below.setCell (p := ⟨w.heap.size + 1, 2, none⟩) (Below.setCell (p := ⟨w.heap.size + 1, 1, none⟩) (Below.setCell (p := ⟨w.heap.size + 1, 0, none⟩) bw (by dsimp only; omega) _) (by dsimp only; omega) _) (by dsimp only; omega) _) (by dsimp only; omega) _) _) | go_grown)⟩
set_option maxRecDepth 20000 in
set_option maxHeartbeats 2000000 in
theorem rdecode_yes {base : Bool} (n : Nat) (s : ByteArray) (hs : IsBytes s n) (hn : n < pN base) (w : World) : Calls Try.prog 38 #[rfV base, .string s] w fun e w' => e = .returned (.tuple #[num n, .int .i64 0]) ∧ Below w.heap.size w w' := by
  go_enter Try.func38, Try.ntmps38
  go_wp2_with fail
  (with_reducible refine (rfrom_any n s hs _).mono ?_)
  rintro e w1 ⟨rfl, h1⟩
  have k1 := (((Blk.newAt (n := w.heap.size) _ _ _ (by first | rfl | simp)).alloc _).after h1)
  have k2 := ((Blk.newAt (n := w.heap.size + 1) _ _ _ (by first | rfl | simp)).after h1)
  have bw := below_call h1 (w := w) (by first | exact (below_alloc (Below.alloc (Below.refl _ _) (Below.size (Below.refl _ _)) _) _) | go_grown)
  clear h1
  obtain ⟨k1_c, k1_f, k1_l, k1_m, k1_n⟩ := k1.knows
  obtain ⟨k2_c, k2_f, k2_l, k2_m, k2_n⟩ := k2.knows
  go_wp2_with fail
  (with_reducible refine (rhas_yes n hn _).mono ?_)
  rintro e w2 ⟨rfl, h2⟩
  clear k1_c k1_f k1_m k1_n k2_c k2_f k2_m k2_n
  have o3 : w.heap.size + 1 < w1.heap.size := by first | exact k2_l | omega
  replace k2 := ((k2.alloc _).after h2)
  have k3 := ((Blk.newAt (n := w1.heap.size) _ _ _ (by first | rfl | simp)).after h2)
  have bwsz := Below.size bw
  replace bw := below_call h2 (w := w) (by first | exact (Below.alloc bw (Below.size bw) _) | go_grown)
  clear h2 bwsz k1_l k2_l
  clear k1
  obtain ⟨k2_c, k2_f, k2_l, k2_m, k2_n⟩ := k2.knows
  obtain ⟨k3_c, k3_f, k3_l, k3_m, k3_n⟩ := k3.knows
  go_wp2
  obtain ⟨rk2_c, rk2_f, rk2_l, -⟩ := ((((((k2.set_ 0 (.int .u64 (lb n 0))).set_ 1 (.int .u64 (lb n 1))).set_ 2 (.int .u64 (lb n 2))).set_ 3 (.int .u64 (lb n 3)))).re (cs' := #[.int .u64 (lb n 0), .int .u64 (lb n 1), .int .u64 (lb n 2), .int .u64 (lb n 3)]) rfl).knows
  refine bodyPost_ret (v := .tuple #[num n, .int .i64 0]) (by simp [results, Try.results38, go_sem, rk2_c, rk2_l]) rfl ?_
  exact ⟨rfl, (by first | exact (Below.setCell (p := ⟨w.heap.size + 1, 3, none⟩) (Below.setCell (p := ⟨w.heap.size + 1, 2, none⟩) (Below.setCell (p := ⟨w.heap.size + 1, 1, none⟩) (Below.setCell (p := ⟨w.heap.size + 1, 0, none⟩) bw (by dsimp only; omega) _) (by dsimp only; omega) _) (by dsimp only; omega) _) (by dsimp only; omega) _) | go_grown)⟩
set_option maxRecDepth 20000 in
set_option maxHeartbeats 2000000 in
theorem rdecode_out {base : Bool} (n : Nat) (s : ByteArray) (hs : IsBytes s n) (hn : n < RR) (hx : ¬ n < pN base) (w : World) : Calls Try.prog 38 #[rfV base, .string s] w fun e w' => e = .returned (.tuple #[zeroV, .int .i64 20]) ∧ Below w.heap.size w w' := by
  go_enter Try.func38, Try.ntmps38
  go_wp2_with fail
  (with_reducible refine (rfrom_any n s hs _).mono ?_)
  rintro e w1 ⟨rfl, h1⟩
  have k1 := (((Blk.newAt (n := w.heap.size) _ _ _ (by first | rfl | simp)).alloc _).after h1)
  have k2 := ((Blk.newAt (n := w.heap.size + 1) _ _ _ (by first | rfl | simp)).after h1)
  have bw := below_call h1 (w := w) (by first | exact (below_alloc (Below.alloc (Below.refl _ _) (Below.size (Below.refl _ _)) _) _) | go_grown)
  clear h1
  obtain ⟨k1_c, k1_f, k1_l, k1_m, k1_n⟩ := k1.knows
  obtain ⟨k2_c, k2_f, k2_l, k2_m, k2_n⟩ := k2.knows
  go_wp2_with fail
  (with_reducible refine (rhas_no n hn hx _).mono ?_)
  rintro e w2 ⟨rfl, h2⟩
  clear k1_c k1_f k1_m k1_n k2_c k2_f k2_m k2_n
  have o3 : w.heap.size + 1 < w1.heap.size := by first | exact k2_l | omega
  replace k2 := ((k2.alloc _).after h2)
  have bwsz := Below.size bw
  replace bw := below_call h2 (w := w) (by first | exact (Below.alloc bw (Below.size bw) _) | go_grown)
  clear h2 bwsz k1_l k2_l
  clear k1
  obtain ⟨k2_c, k2_f, k2_l, k2_m, k2_n⟩ := k2.knows
  go_wp2
  obtain ⟨rk2_c, rk2_f, rk2_l, -⟩ := ((((((k2.set_ 0 (.int .u64 0)).set_ 1 (.int .u64 0)).set_ 2 (.int .u64 0)).set_ 3 (.int .u64 0))).re (cs' := #[.int .u64 0, .int .u64 0, .int .u64 0, .int .u64 0]) rfl).knows
  refine bodyPost_ret (v := .tuple #[zeroV, .int .i64 20]) (by simp [results, Try.results38, go_sem, rk2_c, rk2_l]) rfl ?_
  exact ⟨rfl, (by first | exact (Below.setCell (p := ⟨w.heap.size + 1, 3, none⟩) (Below.setCell (p := ⟨w.heap.size + 1, 2, none⟩) (Below.setCell (p := ⟨w.heap.size + 1, 1, none⟩) (Below.setCell (p := ⟨w.heap.size + 1, 0, none⟩) bw (by dsimp only; omega) _) (by dsimp only; omega) _) (by dsimp only; omega) _) (by dsimp only; omega) _) | go_grown)⟩
set_option maxRecDepth 20000 in
set_option maxHeartbeats 2000000 in
theorem fbytes_in_bad (base : Bool) (a : Nat) (ha : a < RR) (s : ByteArray) (h : a < pN base) (hs : s.size ≠ 32) (hm : s.size ≤ maxLen) (w : World) : Calls Try.prog 10 #[.bool base, num a, .string s] w fun e w' => e = .returned (.bool true) ∧ Below w.heap.size w w' := by
  have q1 : ∀ w, (Op.equalIn 10000 24 (zeroV) (zeroV)).run Try.prog w = .ok true w := by intro w; rw [← num_zero]; exact eqin_same 0 _
  have q2 : ∀ w, (Op.equalIn 10000 24 (num a) (num a)).run Try.prog w = .ok true w := by intro w; exact eqin_same a _
  go_enter Try.func10, Try.ntmps10
  go_wp2_with fail
  (with_reducible refine (of_any base _).mono ?_)
  rintro e w1 ⟨f0, g0, rfl, hF0, h1⟩
  have k1 := ((Blk.newAt (n := w.heap.size) _ _ _ (by first | rfl | simp)).after h1)
  have bw := below_call h1 (w := w) (by first | exact (Below.alloc (Below.refl _ _) (Below.size (Below.refl _ _)) _) | go_grown)
  clear h1
  obtain ⟨k1_c, k1_f, k1_l, k1_m, k1_n⟩ := k1.knows
  go_wp2_with fail
  (with_reducible refine (fencode_yes (hF0.alloc _) a h).mono ?_)
  rintro e w2 ⟨rfl, h2⟩
  clear k1_c k1_f k1_m k1_n
  have o2 : w.heap.size < w1.heap.size := by first | exact k1_l | omega
  replace k1 := ((k1.alloc _).after h2)
  replace hF0 := ((hF0.alloc _).after h2)
  have k2 := ((Blk.newAt (n := w1.heap.size) _ _ _ (by first | rfl | simp)).after h2)
  have bwsz := Below.size bw
  replace bw := below_call h2 (w := w) (by first | exact (Below.alloc bw (Below.size bw) _) | go_grown)
  clear h2 bwsz k1_l
  obtain ⟨k1_c, k1_f, k1_l, k1_m, k1_n⟩ := k1.knows
  obtain ⟨k2_c, k2_f, k2_l, k2_m, k2_n⟩ := k2.knows
  go_wp2_with fail
  (with_reducible refine (fdecode_bad hF0 s hs hm).mono ?_)
  rintro e w3 ⟨rfl, h3⟩
  clear k1_c k1_f k1_m k1_n k2_c k2_f k2_m k2_n
  replace k1 := (k1.after h3)
  replace hF0 := (hF0.after h3)
  replace k2 := (k2.after h3)
  have bwsz := Below.size bw
  replace bw := below_call h3 (w := w) (by first | exact bw | go_grown)
  clear h3 bwsz k1_l k2_l
  obtain ⟨k1_c, k1_f, k1_l, k1_m, k1_n⟩ := k1.knows
  obtain ⟨k2_c, k2_f, k2_l, k2_m, k2_n⟩ := k2.knows
  go_wp2_with fail
  (with_reducible refine (rdecode_bad s hs hm _).mono ?_)
  rintro e w4 ⟨rfl, h4⟩
  clear k1_c k1_f k1_m k1_n k2_c k2_f k2_m k2_n
  have o3 : w1.heap.size < w3.heap.size := by first | exact k2_l | omega
  replace k1 := ((k1.alloc _).after h4)
  replace hF0 := ((hF0.alloc _).after h4)
  replace k2 := ((k2.alloc _).after h4)
  have k3 := ((Blk.newAt (n := w3.heap.size) _ _ _ (by first | rfl | simp)).after h4)
  have bwsz := Below.size bw
  replace bw := below_call h4 (w := w) (by first | exact (Below.alloc bw (Below.size bw) _) | go_grown)
  clear h4 bwsz k1_l k2_l
  obtain ⟨k1_c, k1_f, k1_l, k1_m, k1_n⟩ := k1.knows
  obtain ⟨k2_c, k2_f, k2_l, k2_m, k2_n⟩ := k2.knows
  obtain ⟨k3_c, k3_f, k3_l, k3_m, k3_n⟩ := k3.knows
  go_wp2_with fail
  (with_reducible refine (rhas_yes a h _).mono ?_)
  rintro e w5 ⟨rfl, h5⟩
  clear k1_c k1_f k1_m k1_n k2_c k2_f k2_m k2_n k3_c k3_f k3_m k3_n
  have o4 : w3.heap.size < w4.heap.size := by first | exact k3_l | omega
  replace k1 := ((k1.alloc _).after h5)
  replace hF0 := ((hF0.alloc _).after h5)
  have bwsz := Below.size bw
  replace bw := below_call h5 (w := w) (by first | exact (Below.alloc bw (Below.size bw) _) | go_grown)
  clear h5 bwsz k1_l k2_l k3_l
  clear k2 k3
  obtain ⟨k1_c, k1_f, k1_l, k1_m, k1_n⟩ := k1.knows
  go_wp2_with fail
  (with_reducible refine (fdecode_yes hF0 a (bst a) (isBytes_bst a) h).mono ?_)
  rintro e w6 ⟨rfl, h6⟩
  clear k1_c k1_f k1_m k1_n
  replace k1 := (k1.after h6)
  replace hF0 := (hF0.after h6)
  have bwsz := Below.size bw
  replace bw := below_call h6 (w := w) (by first | exact bw | go_grown)
  clear h6 bwsz k1_l
  obtain ⟨k1_c, k1_f, k1_l, k1_m, k1_n⟩ := k1.knows
  go_wp2_with fail
  (with_reducible refine (rbytes_any a _).mono ?_)
  rintro e w7 ⟨rfl, h7⟩
  clear k1_c k1_f k1_m k1_n
  have o5 : w.heap.size < w6.heap.size := by first | exact k1_l | omega
  replace k1 := ((k1.alloc _).after h7)
  replace hF0 := ((hF0.alloc _).after h7)
  have k5 := ((Blk.newAt (n := w6.heap.size) _ _ _ (by first | rfl | simp)).after h7)
  have bwsz := Below.size bw
  replace bw := below_call h7 (w := w) (by first | exact (Below.alloc bw (Below.size bw) _) | go_grown)
  clear h7 bwsz k1_l
  obtain ⟨k1_c, k1_f, k1_l, k1_m, k1_n⟩ := k1.knows
  obtain ⟨k5_c, k5_f, k5_l, k5_m, k5_n⟩ := k5.knows
  go_wp2_with fail
  (with_reducible refine (half_any _).mono ?_)
  rintro e w8 ⟨rfl, h8⟩
  clear k1_c k1_f k1_m k1_n k5_c k5_f k5_m k5_n
  replace hF0 := (hF0.after h8)
  have bwsz := Below.size bw
  replace bw := below_call h8 (w := w) (by first | exact bw | go_grown)
  clear h8 bwsz k1_l k5_l
  clear k1 k5
  go_wp2
  go_ret
  exact ⟨rfl, (by first | exact bw | go_grown)⟩
set_option maxRecDepth 20000 in
set_option maxHeartbeats 2000000 in
theorem fbytes_in_yes (base : Bool) (a : Nat) (ha : a < RR) (s : ByteArray) (h : a < pN base) (n : Nat) (hs : IsBytes s n) (hn : n < pN base) (w : World) : Calls Try.prog 10 #[.bool base, num a, .string s] w fun e w' => e = .returned (.bool true) ∧ Below w.heap.size w w' := by
  have q1 : ∀ w, (Op.equalIn 10000 24 (num n) (num n)).run Try.prog w = .ok true w := by intro w; exact eqin_same n _
  have q2 : ∀ w, (Op.equalIn 10000 24 (num a) (num a)).run Try.prog w = .ok true w := by intro w; exact eqin_same a _
  go_enter Try.func10, Try.ntmps10
  go_wp2_with fail
  (with_reducible refine (of_any base _).mono ?_)
  rintro e w1 ⟨f0, g0, rfl, hF0, h1⟩
  have k1 := ((Blk.newAt (n := w.heap.size) _ _ _ (by first | rfl | simp)).after h1)
  have bw := below_call h1 (w := w) (by first | exact (Below.alloc (Below.refl _ _) (Below.size (Below.refl _ _)) _) | go_grown)
  clear h1
  obtain ⟨k1_c, k1_f, k1_l, k1_m, k1_n⟩ := k1.knows
  go_wp2_with fail
  (with_reducible refine (fencode_yes (hF0.alloc _) a h).mono ?_)
  rintro e w2 ⟨rfl, h2⟩
  clear k1_c k1_f k1_m k1_n
  have o2 : w.heap.size < w1.heap.size := by first | exact k1_l | omega
  replace k1 := ((k1.alloc _).after h2)
  replace hF0 := ((hF0.alloc _).after h2)
  have k2 := ((Blk.newAt (n := w1.heap.size) _ _ _ (by first | rfl | simp)).after h2)
  have bwsz := Below.size bw
  replace bw := below_call h2 (w := w) (by first | exact (Below.alloc bw (Below.size bw) _) | go_grown)
  clear h2 bwsz k1_l
  obtain ⟨k1_c, k1_f, k1_l, k1_m, k1_n⟩ := k1.knows
  obtain ⟨k2_c, k2_f, k2_l, k2_m, k2_n⟩ := k2.knows
  go_wp2_with fail
  (with_reducible refine (fdecode_yes hF0 n s hs hn).mono ?_)
  rintro e w3 ⟨rfl, h3⟩
  clear k1_c k1_f k1_m k1_n k2_c k2_f k2_m k2_n
  replace k1 := (k1.after h3)
  replace hF0 := (hF0.after h3)
  replace k2 := (k2.after h3)
  have bwsz := Below.size bw
  replace bw := below_call h3 (w := w) (by first | exact bw | go_grown)
  clear h3 bwsz k1_l k2_l
  obtain ⟨k1_c, k1_f, k1_l, k1_m, k1_n⟩ := k1.knows
  obtain ⟨k2_c, k2_f, k2_l, k2_m, k2_n⟩ := k2.knows
  go_wp2_with fail
  (with_reducible refine (rdecode_yes n s hs hn _).mono ?_)
  rintro e w4 ⟨rfl, h4⟩
  clear k1_c k1_f k1_m k1_n k2_c k2_f k2_m k2_n
  have o3 : w1.heap.size < w3.heap.size := by first | exact k2_l | omega
  replace k1 := ((k1.alloc _).after h4)
  replace hF0 := ((hF0.alloc _).after h4)
  replace k2 := ((k2.alloc _).after h4)
  have k3 := ((Blk.newAt (n := w3.heap.size) _ _ _ (by first | rfl | simp)).after h4)
  have bwsz := Below.size bw
  replace bw := below_call h4 (w := w) (by first | exact (Below.alloc bw (Below.size bw) _) | go_grown)
  clear h4 bwsz k1_l k2_l
  obtain ⟨k1_c, k1_f, k1_l, k1_m, k1_n⟩ := k1.knows
  obtain ⟨k2_c, k2_f, k2_l, k2_m, k2_n⟩ := k2.knows
  obtain ⟨k3_c, k3_f, k3_l, k3_m, k3_n⟩ := k3.knows
  go_wp2_with fail
  (with_reducible refine (rhas_yes a h _).mono ?_)
  rintro e w5 ⟨rfl, h5⟩
  clear k1_c k1_f k1_m k1_n k2_c k2_f k2_m k2_n k3_c k3_f k3_m k3_n
  have o4 : w3.heap.size < w4.heap.size := by first | exact k3_l | omega
  replace k1 := ((k1.alloc _).after h5)
  replace hF0 := ((hF0.alloc _).after h5)
  have bwsz := Below.size bw
  replace bw := below_call h5 (w := w) (by first | exact (Below.alloc bw (Below.size bw) _) | go_grown)
  clear h5 bwsz k1_l k2_l k3_l
  clear k2 k3
  obtain ⟨k1_c, k1_f, k1_l, k1_m, k1_n⟩ := k1.knows
  go_wp2_with fail
  (with_reducible refine (fdecode_yes hF0 a (bst a) (isBytes_bst a) h).mono ?_)
  rintro e w6 ⟨rfl, h6⟩
  clear k1_c k1_f k1_m k1_n
  replace k1 := (k1.after h6)
  replace hF0 := (hF0.after h6)
  have bwsz := Below.size bw
  replace bw := below_call h6 (w := w) (by first | exact bw | go_grown)
  clear h6 bwsz k1_l
  obtain ⟨k1_c, k1_f, k1_l, k1_m, k1_n⟩ := k1.knows
  go_wp2_with fail
  (with_reducible refine (rbytes_any a _).mono ?_)
  rintro e w7 ⟨rfl, h7⟩
  clear k1_c k1_f k1_m k1_n
  have o5 : w.heap.size < w6.heap.size := by first | exact k1_l | omega
  replace k1 := ((k1.alloc _).after h7)
  replace hF0 := ((hF0.alloc _).after h7)
  have k5 := ((Blk.newAt (n := w6.heap.size) _ _ _ (by first | rfl | simp)).after h7)
  have bwsz := Below.size bw
  replace bw := below_call h7 (w := w) (by first | exact (Below.alloc bw (Below.size bw) _) | go_grown)
  clear h7 bwsz k1_l
  obtain ⟨k1_c, k1_f, k1_l, k1_m, k1_n⟩ := k1.knows
  obtain ⟨k5_c, k5_f, k5_l, k5_m, k5_n⟩ := k5.knows
  go_wp2_with fail
  (with_reducible refine (half_any _).mono ?_)
  rintro e w8 ⟨rfl, h8⟩
  clear k1_c k1_f k1_m k1_n k5_c k5_f k5_m k5_n
  replace hF0 := (hF0.after h8)
  have bwsz := Below.size bw
  replace bw := below_call h8 (w := w) (by first | exact bw | go_grown)
  clear h8 bwsz k1_l k5_l
  clear k1 k5
  go_wp2
  go_ret
  exact ⟨rfl, (by first | exact bw | go_grown)⟩
set_option maxRecDepth 20000 in
set_option maxHeartbeats 2000000 in
theorem fbytes_in_out (base : Bool) (a : Nat) (ha : a < RR) (s : ByteArray) (h : a < pN base) (n : Nat) (hs : IsBytes s n) (hn : n < RR) (hx : ¬ n < pN base) (w : World) : Calls Try.prog 10 #[.bool base, num a, .string s] w fun e w' => e = .returned (.bool true) ∧ Below w.heap.size w w' := by
  have q1 : ∀ w, (Op.equalIn 10000 24 (zeroV) (zeroV)).run Try.prog w = .ok true w := by intro w; rw [← num_zero]; exact eqin_same 0 _
  have q2 : ∀ w, (Op.equalIn 10000 24 (num a) (num a)).run Try.prog w = .ok true w := by intro w; exact eqin_same a _
  go_enter Try.func10, Try.ntmps10
  go_wp2_with fail
  (with_reducible refine (of_any base _).mono ?_)
  rintro e w1 ⟨f0, g0, rfl, hF0, h1⟩
  have k1 := ((Blk.newAt (n := w.heap.size) _ _ _ (by first | rfl | simp)).after h1)
  have bw := below_call h1 (w := w) (by first | exact (Below.alloc (Below.refl _ _) (Below.size (Below.refl _ _)) _) | go_grown)
  clear h1
  obtain ⟨k1_c, k1_f, k1_l, k1_m, k1_n⟩ := k1.knows
  go_wp2_with fail
  (with_reducible refine (fencode_yes (hF0.alloc _) a h).mono ?_)
  rintro e w2 ⟨rfl, h2⟩
  clear k1_c k1_f k1_m k1_n
  have o2 : w.heap.size < w1.heap.size := by first | exact k1_l | omega
  replace k1 := ((k1.alloc _).after h2)
  replace hF0 := ((hF0.alloc _).after h2)
  have k2 := ((Blk.newAt (n := w1.heap.size) _ _ _ (by first | rfl | simp)).after h2)
  have bwsz := Below.size bw
  replace bw := below_call h2 (w := w) (by first | exact (Below.alloc bw (Below.size bw) _) | go_grown)
  clear h2 bwsz k1_l
  obtain ⟨k1_c, k1_f, k1_l, k1_m, k1_n⟩ := k1.knows
  obtain ⟨k2_c, k2_f, k2_l, k2_m, k2_n⟩ := k2.knows
  go_wp2_with fail
  (with_reducible refine (fdecode_out hF0 n s hs hn hx).mono ?_)
  rintro e w3 ⟨rfl, h3⟩
  clear k1_c k1_f k1_m k1_n k2_c k2_f k2_m k2_n
  replace k1 := (k1.after h3)
  replace hF0 := (hF0.after h3)
  replace k2 := (k2.after h3)
  have bwsz := Below.size bw
  replace bw := below_call h3 (w := w) (by first | exact bw | go_grown)
  clear h3 bwsz k1_l k2_l
  obtain ⟨k1_c, k1_f, k1_l, k1_m, k1_n⟩ := k1.knows
  obtain ⟨k2_c, k2_f, k2_l, k2_m, k2_n⟩ := k2.knows
  go_wp2_with fail
  (with_reducible refine (rdecode_out n s hs hn hx _).mono ?_)
  rintro e w4 ⟨rfl, h4⟩
  clear k1_c k1_f k1_m k1_n k2_c k2_f k2_m k2_n
  have o3 : w1.heap.size < w3.heap.size := by first | exact k2_l | omega
  replace k1 := ((k1.alloc _).after h4)
  replace hF0 := ((hF0.alloc _).after h4)
  replace k2 := ((k2.alloc _).after h4)
  have k3 := ((Blk.newAt (n := w3.heap.size) _ _ _ (by first | rfl | simp)).after h4)
  have bwsz := Below.size bw
  replace bw := below_call h4 (w := w) (by first | exact (Below.alloc bw (Below.size bw) _) | go_grown)
  clear h4 bwsz k1_l k2_l
  obtain ⟨k1_c, k1_f, k1_l, k1_m, k1_n⟩ := k1.knows
  obtain ⟨k2_c, k2_f, k2_l, k2_m, k2_n⟩ := k2.knows
  obtain ⟨k3_c, k3_f, k3_l, k3_m, k3_n⟩ := k3.knows
  go_wp2_with fail
  (with_reducible refine (rhas_yes a h _).mono ?_)
  rintro e w5 ⟨rfl, h5⟩
  clear k1_c k1_f k1_m k1_n k2_c k2_f k2_m k2_n k3_c k3_f k3_m k3_n
  have o4 : w3.heap.size < w4.heap.size := by first | exact k3_l | omega
  replace k1 := ((k1.alloc _).after h5)
  replace hF0 := ((hF0.alloc _).after h5)
  have bwsz := Below.size bw
  replace bw := below_call h5 (w := w) (by first | exact (Below.alloc bw (Below.size bw) _) | go_grown)
  clear h5 bwsz k1_l k2_l k3_l
  clear k2 k3
  obtain ⟨k1_c, k1_f, k1_l, k1_m, k1_n⟩ := k1.knows
  go_wp2_with fail
  (with_reducible refine (fdecode_yes hF0 a (bst a) (isBytes_bst a) h).mono ?_)
  rintro e w6 ⟨rfl, h6⟩
  clear k1_c k1_f k1_m k1_n
  replace k1 := (k1.after h6)
  replace hF0 := (hF0.after h6)
  have bwsz := Below.size bw
  replace bw := below_call h6 (w := w) (by first | exact bw | go_grown)
  clear h6 bwsz k1_l
  obtain ⟨k1_c, k1_f, k1_l, k1_m, k1_n⟩ := k1.knows
  go_wp2_with fail
  (with_reducible refine (rbytes_any a _).mono ?_)
  rintro e w7 ⟨rfl, h7⟩
  clear k1_c k1_f k1_m k1_n
  have o5 : w.heap.size < w6.heap.size := by first | exact k1_l | omega
  replace k1 := ((k1.alloc _).after h7)
  replace hF0 := ((hF0.alloc _).after h7)
  have k5 := ((Blk.newAt (n := w6.heap.size) _ _ _ (by first | rfl | simp)).after h7)
  have bwsz := Below.size bw
  replace bw := below_call h7 (w := w) (by first | exact (Below.alloc bw (Below.size bw) _) | go_grown)
  clear h7 bwsz k1_l
  obtain ⟨k1_c, k1_f, k1_l, k1_m, k1_n⟩ := k1.knows
  obtain ⟨k5_c, k5_f, k5_l, k5_m, k5_n⟩ := k5.knows
  go_wp2_with fail
  (with_reducible refine (half_any _).mono ?_)
  rintro e w8 ⟨rfl, h8⟩
  clear k1_c k1_f k1_m k1_n k5_c k5_f k5_m k5_n
  replace hF0 := (hF0.after h8)
  have bwsz := Below.size bw
  replace bw := below_call h8 (w := w) (by first | exact bw | go_grown)
  clear h8 bwsz k1_l k5_l
  clear k1 k5
  go_wp2
  go_ret
  exact ⟨rfl, (by first | exact bw | go_grown)⟩
set_option maxRecDepth 20000 in
set_option maxHeartbeats 2000000 in
theorem fbytes_out_bad (base : Bool) (a : Nat) (ha : a < RR) (s : ByteArray) (h : ¬ a < pN base) (hs : s.size ≠ 32) (hm : s.size ≤ maxLen) (w : World) : Calls Try.prog 10 #[.bool base, num a, .string s] w fun e w' => e = .returned (.bool true) ∧ Below w.heap.size w w' := by
  have q1 : ∀ w, (Op.equalIn 10000 24 (zeroV) (zeroV)).run Try.prog w = .ok true w := by intro w; rw [← num_zero]; exact eqin_same 0 _
  go_enter Try.func10, Try.ntmps10
  go_wp2_with fail
  (with_reducible refine (of_any base _).mono ?_)
  rintro e w1 ⟨f0, g0, rfl, hF0, h1⟩
  have k1 := ((Blk.newAt (n := w.heap.size) _ _ _ (by first | rfl | simp)).after h1)
  have bw := below_call h1 (w := w) (by first | exact (Below.alloc (Below.refl _ _) (Below.size (Below.refl _ _)) _) | go_grown)
  clear h1
  obtain ⟨k1_c, k1_f, k1_l, k1_m, k1_n⟩ := k1.knows
  go_wp2_with fail
  (with_reducible refine (fencode_no (hF0.alloc _) a ha h).mono ?_)
  rintro e w2 ⟨rfl, h2⟩
  clear k1_c k1_f k1_m k1_n
  have o2 : w.heap.size < w1.heap.size := by first | exact k1_l | omega
  replace k1 := ((k1.alloc _).after h2)
  replace hF0 := ((hF0.alloc _).after h2)
  have k2 := ((Blk.newAt (n := w1.heap.size) _ _ _ (by first | rfl | simp)).after h2)
  have bwsz := Below.size bw
  replace bw := below_call h2 (w := w) (by first | exact (Below.alloc bw (Below.size bw) _) | go_grown)
  clear h2 bwsz k1_l
  obtain ⟨k1_c, k1_f, k1_l, k1_m, k1_n⟩ := k1.knows
  obtain ⟨k2_c, k2_f, k2_l, k2_m, k2_n⟩ := k2.knows
  go_wp2_with fail
  (with_reducible refine (fdecode_bad hF0 s hs hm).mono ?_)
  rintro e w3 ⟨rfl, h3⟩
  clear k1_c k1_f k1_m k1_n k2_c k2_f k2_m k2_n
  replace k1 := (k1.after h3)
  replace hF0 := (hF0.after h3)
  replace k2 := (k2.after h3)
  have bwsz := Below.size bw
  replace bw := below_call h3 (w := w) (by first | exact bw | go_grown)
  clear h3 bwsz k1_l k2_l
  obtain ⟨k1_c, k1_f, k1_l, k1_m, k1_n⟩ := k1.knows
  obtain ⟨k2_c, k2_f, k2_l, k2_m, k2_n⟩ := k2.knows
  go_wp2_with fail
  (with_reducible refine (rdecode_bad s hs hm _).mono ?_)
  rintro e w4 ⟨rfl, h4⟩
  clear k1_c k1_f k1_m k1_n k2_c k2_f k2_m k2_n
  have o3 : w1.heap.size < w3.heap.size := by first | exact k2_l | omega
  replace k1 := ((k1.alloc _).after h4)
  replace hF0 := ((hF0.alloc _).after h4)
  replace k2 := ((k2.alloc _).after h4)
  have k3 := ((Blk.newAt (n := w3.heap.size) _ _ _ (by first | rfl | simp)).after h4)
  have bwsz := Below.size bw
  replace bw := below_call h4 (w := w) (by first | exact (Below.alloc bw (Below.size bw) _) | go_grown)
  clear h4 bwsz k1_l k2_l
  obtain ⟨k1_c, k1_f, k1_l, k1_m, k1_n⟩ := k1.knows
  obtain ⟨k2_c, k2_f, k2_l, k2_m, k2_n⟩ := k2.knows
  obtain ⟨k3_c, k3_f, k3_l, k3_m, k3_n⟩ := k3.knows
  go_wp2_with fail
  (with_reducible refine (rhas_no a ha h _).mono ?_)
  rintro e w5 ⟨rfl, h5⟩
  clear k1_c k1_f k1_m k1_n k2_c k2_f k2_m k2_n k3_c k3_f k3_m k3_n
  have o4 : w3.heap.size < w4.heap.size := by first | exact k3_l | omega
  replace hF0 := ((hF0.alloc _).after h5)
  have bwsz := Below.size bw
  replace bw := below_call h5 (w := w) (by first | exact (Below.alloc bw (Below.size bw) _) | go_grown)
  clear h5 bwsz k1_l k2_l k3_l
  clear k1 k2 k3
  go_wp2_with fail
  (with_reducible refine (half_any _).mono ?_)
  rintro e w6 ⟨rfl, h6⟩
  replace hF0 := (hF0.after h6)
  have bwsz := Below.size bw
  replace bw := below_call h6 (w := w) (by first | exact bw | go_grown)
  clear h6 bwsz
  go_wp2
  go_ret
  exact ⟨rfl, (by first | exact bw | go_grown)⟩
set_option maxRecDepth 20000 in
set_option maxHeartbeats 2000000 in
theorem fbytes_out_yes (base : Bool) (a : Nat) (ha : a < RR) (s : ByteArray) (h : ¬ a < pN base) (n : Nat) (hs : IsBytes s n) (hn : n < pN base) (w : World) : Calls Try.prog 10 #[.bool base, num a, .string s] w fun e w' => e = .returned (.bool true) ∧ Below w.heap.size w w' := by
  have q1 : ∀ w, (Op.equalIn 10000 24 (num n) (num n)).run Try.prog w = .ok true w := by intro w; exact eqin_same n _
  go_enter Try.func10, Try.ntmps10
  go_wp2_with fail
  (with_reducible refine (of_any base _).mono ?_)
  rintro e w1 ⟨f0, g0, rfl, hF0, h1⟩
  have k1 := ((Blk.newAt (n := w.heap.size) _ _ _ (by first | rfl | simp)).after h1)
  have bw := below_call h1 (w := w) (by first | exact (Below.alloc (Below.refl _ _) (Below.size (Below.refl _ _)) _) | go_grown)
  clear h1
  obtain ⟨k1_c, k1_f, k1_l, k1_m, k1_n⟩ := k1.knows
  go_wp2_with fail
  (with_reducible refine (fencode_no (hF0.alloc _) a ha h).mono ?_)
  rintro e w2 ⟨rfl, h2⟩
  clear k1_c k1_f k1_m k1_n
  have o2 : w.heap.size < w1.heap.size := by first | exact k1_l | omega
  replace k1 := ((k1.alloc _).after h2)
  replace hF0 := ((hF0.alloc _).after h2)
  have k2 := ((Blk.newAt (n := w1.heap.size) _ _ _ (by first | rfl | simp)).after h2)
  have bwsz := Below.size bw
  replace bw := below_call h2 (w := w) (by first | exact (Below.alloc bw (Below.size bw) _) | go_grown)
  clear h2 bwsz k1_l
  obtain ⟨k1_c, k1_f, k1_l, k1_m, k1_n⟩ := k1.knows
  obtain ⟨k2_c, k2_f, k2_l, k2_m, k2_n⟩ := k2.knows
  go_wp2_with fail
  (with_reducible refine (fdecode_yes hF0 n s hs hn).mono ?_)
  rintro e w3 ⟨rfl, h3⟩
  clear k1_c k1_f k1_m k1_n k2_c k2_f k2_m k2_n
  replace k1 := (k1.after h3)
  replace hF0 := (hF0.after h3)
  replace k2 := (k2.after h3)
  have bwsz := Below.size bw
  replace bw := below_call h3 (w := w) (by first | exact bw | go_grown)
  clear h3 bwsz k1_l k2_l
  obtain ⟨k1_c, k1_f, k1_l, k1_m, k1_n⟩ := k1.knows
  obtain ⟨k2_c, k2_f, k2_l, k2_m, k2_n⟩ := k2.knows
  go_wp2_with fail
  (with_reducible refine (rdecode_yes n s hs hn _).mono ?_)
  rintro e w4 ⟨rfl, h4⟩
  clear k1_c k1_f k1_m k1_n k2_c k2_f k2_m k2_n
  have o3 : w1.heap.size < w3.heap.size := by first | exact k2_l | omega
  replace k1 := ((k1.alloc _).after h4)
  replace hF0 := ((hF0.alloc _).after h4)
  replace k2 := ((k2.alloc _).after h4)
  have k3 := ((Blk.newAt (n := w3.heap.size) _ _ _ (by first | rfl | simp)).after h4)
  have bwsz := Below.size bw
  replace bw := below_call h4 (w := w) (by first | exact (Below.alloc bw (Below.size bw) _) | go_grown)
  clear h4 bwsz k1_l k2_l
  obtain ⟨k1_c, k1_f, k1_l, k1_m, k1_n⟩ := k1.knows
  obtain ⟨k2_c, k2_f, k2_l, k2_m, k2_n⟩ := k2.knows
  obtain ⟨k3_c, k3_f, k3_l, k3_m, k3_n⟩ := k3.knows
  go_wp2_with fail
  (with_reducible refine (rhas_no a ha h _).mono ?_)
  rintro e w5 ⟨rfl, h5⟩
  clear k1_c k1_f k1_m k1_n k2_c k2_f k2_m k2_n k3_c k3_f k3_m k3_n
  have o4 : w3.heap.size < w4.heap.size := by first | exact k3_l | omega
  replace hF0 := ((hF0.alloc _).after h5)
  have bwsz := Below.size bw
  replace bw := below_call h5 (w := w) (by first | exact (Below.alloc bw (Below.size bw) _) | go_grown)
  clear h5 bwsz k1_l k2_l k3_l
  clear k1 k2 k3
  go_wp2_with fail
  (with_reducible refine (half_any _).mono ?_)
  rintro e w6 ⟨rfl, h6⟩
  replace hF0 := (hF0.after h6)
  have bwsz := Below.size bw
  replace bw := below_call h6 (w := w) (by first | exact bw | go_grown)
  clear h6 bwsz
  go_wp2
  go_ret
  exact ⟨rfl, (by first | exact bw | go_grown)⟩
set_option maxRecDepth 20000 in
set_option maxHeartbeats 2000000 in
theorem fbytes_out_out (base : Bool) (a : Nat) (ha : a < RR) (s : ByteArray) (h : ¬ a < pN base) (n : Nat) (hs : IsBytes s n) (hn : n < RR) (hx : ¬ n < pN base) (w : World) : Calls Try.prog 10 #[.bool base, num a, .string s] w fun e w' => e = .returned (.bool true) ∧ Below w.heap.size w w' := by
  have q1 : ∀ w, (Op.equalIn 10000 24 (zeroV) (zeroV)).run Try.prog w = .ok true w := by intro w; rw [← num_zero]; exact eqin_same 0 _
  go_enter Try.func10, Try.ntmps10
  go_wp2_with fail
  (with_reducible refine (of_any base _).mono ?_)
  rintro e w1 ⟨f0, g0, rfl, hF0, h1⟩
  have k1 := ((Blk.newAt (n := w.heap.size) _ _ _ (by first | rfl | simp)).after h1)
  have bw := below_call h1 (w := w) (by first | exact (Below.alloc (Below.refl _ _) (Below.size (Below.refl _ _)) _) | go_grown)
  clear h1
  obtain ⟨k1_c, k1_f, k1_l, k1_m, k1_n⟩ := k1.knows
  go_wp2_with fail
  (with_reducible refine (fencode_no (hF0.alloc _) a ha h).mono ?_)
  rintro e w2 ⟨rfl, h2⟩
  clear k1_c k1_f k1_m k1_n
  have o2 : w.heap.size < w1.heap.size := by first | exact k1_l | omega
  replace k1 := ((k1.alloc _).after h2)
  replace hF0 := ((hF0.alloc _).after h2)
  have k2 := ((Blk.newAt (n := w1.heap.size) _ _ _ (by first | rfl | simp)).after h2)
  have bwsz := Below.size bw
  replace bw := below_call h2 (w := w) (by first | exact (Below.alloc bw (Below.size bw) _) | go_grown)
  clear h2 bwsz k1_l
  obtain ⟨k1_c, k1_f, k1_l, k1_m, k1_n⟩ := k1.knows
  obtain ⟨k2_c, k2_f, k2_l, k2_m, k2_n⟩ := k2.knows
  go_wp2_with fail
  (with_reducible refine (fdecode_out hF0 n s hs hn hx).mono ?_)
  rintro e w3 ⟨rfl, h3⟩
  clear k1_c k1_f k1_m k1_n k2_c k2_f k2_m k2_n
  replace k1 := (k1.after h3)
  replace hF0 := (hF0.after h3)
  replace k2 := (k2.after h3)
  have bwsz := Below.size bw
  replace bw := below_call h3 (w := w) (by first | exact bw | go_grown)
  clear h3 bwsz k1_l k2_l
  obtain ⟨k1_c, k1_f, k1_l, k1_m, k1_n⟩ := k1.knows
  obtain ⟨k2_c, k2_f, k2_l, k2_m, k2_n⟩ := k2.knows
  go_wp2_with fail
  (with_reducible refine (rdecode_out n s hs hn hx _).mono ?_)
  rintro e w4 ⟨rfl, h4⟩
  clear k1_c k1_f k1_m k1_n k2_c k2_f k2_m k2_n
  have o3 : w1.heap.size < w3.heap.size := by first | exact k2_l | omega
  replace k1 := ((k1.alloc _).after h4)
  replace hF0 := ((hF0.alloc _).after h4)
  replace k2 := ((k2.alloc _).after h4)
  have k3 := ((Blk.newAt (n := w3.heap.size) _ _ _ (by first | rfl | simp)).after h4)
  have bwsz := Below.size bw
  replace bw := below_call h4 (w := w) (by first | exact (Below.alloc bw (Below.size bw) _) | go_grown)
  clear h4 bwsz k1_l k2_l
  obtain ⟨k1_c, k1_f, k1_l, k1_m, k1_n⟩ := k1.knows
  obtain ⟨k2_c, k2_f, k2_l, k2_m, k2_n⟩ := k2.knows
  obtain ⟨k3_c, k3_f, k3_l, k3_m, k3_n⟩ := k3.knows
  go_wp2_with fail
  (with_reducible refine (rhas_no a ha h _).mono ?_)
  rintro e w5 ⟨rfl, h5⟩
  clear k1_c k1_f k1_m k1_n k2_c k2_f k2_m k2_n k3_c k3_f k3_m k3_n
  have o4 : w3.heap.size < w4.heap.size := by first | exact k3_l | omega
  replace hF0 := ((hF0.alloc _).after h5)
  have bwsz := Below.size bw
  replace bw := below_call h5 (w := w) (by first | exact (Below.alloc bw (Below.size bw) _) | go_grown)
  clear h5 bwsz k1_l k2_l k3_l
  clear k1 k2 k3
  go_wp2_with fail
  (with_reducible refine (half_any _).mono ?_)
  rintro e w6 ⟨rfl, h6⟩
  replace hF0 := (hF0.after h6)
  have bwsz := Below.size bw
  replace bw := below_call h6 (w := w) (by first | exact bw | go_grown)
  clear h6 bwsz
  go_wp2
  go_ret
  exact ⟨rfl, (by first | exact bw | go_grown)⟩
theorem fbytes_walk (base : Bool) (a : Nat) (s : ByteArray) (ha : a < RR) (hm : s.size ≤ maxLen) (w : World) : Calls Try.prog 10 #[.bool base, num a, .string s] w fun e w' => e = .returned (.bool true) ∧ Below w.heap.size w w' := by
  by_cases h : a < pN base
  · by_cases hs : s.size = 32
    · obtain ⟨n, hn, hb⟩ := bytes_of s hs
      by_cases hx : n < pN base
      · exact fbytes_in_yes base a ha s h n hb hx w
      · exact fbytes_in_out base a ha s h n hb hn hx w
    · exact fbytes_in_bad base a ha s h hs hm w
  · by_cases hs : s.size = 32
    · obtain ⟨n, hn, hb⟩ := bytes_of s hs
      by_cases hx : n < pN base
      · exact fbytes_out_yes base a ha s h n hb hx w
      · exact fbytes_out_out base a ha s h n hb hn hx w
    · exact fbytes_out_bad base a ha s h hs hm w
end Go.Proofs.Ytlibfjemdiochaa
