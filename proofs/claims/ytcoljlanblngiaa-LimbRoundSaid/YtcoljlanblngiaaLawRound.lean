/- LimbRound, the walk. -/
import Derived.Test.YtcoljlanblngiaaLawMonts
import Derived.Test.YtcoljlanblngiaaK2
namespace Go.Proofs.Ytcoljlanblngiaa
set_option linter.unusedVariables false
set_option linter.unusedSimpArgs false
open Go.RowKit Go.Proofs.YtcoljlanblngiaaW.PrintWords

/-- A number's remainder. -/
theorem rmN_is : ∃ f : Nat → Nat → Nat, ∀ m a, f m a = a % m := ⟨fun m a => a % m, fun _ _ => rfl⟩
noncomputable def rmN : Nat → Nat → Nat := Classical.choose rmN_is
theorem rmN_def (m a : Nat) : rmN m a = a % m := Classical.choose_spec rmN_is m a
theorem rm_lt (m a : Nat) (h : 0 < m) : rmN m a < m := by rw [rmN_def]; exact Nat.mod_lt _ h
theorem redN_toN (m x : Nat) (ho : m % 2 = 1) : redN m (toN m x) = x % m := by
  symm
  refine redN_unique m _ _ ho (Nat.mod_lt _ (by omega)) ?_
  rw [toN_def, Nat.mod_mul_mod, Nat.mod_mod]
section
variable (m : Nat) (hm : m < RR) (ho : m % 2 = 1)
include hm ho
theorem mod_num (a : Nat) (ha : a < RR) (w : World) : Calls Try.prog 32 #[wide a, num m] w fun e w' => e = .returned (.tuple #[num (rmN m a), .int .i64 0]) ∧ Below w.heap.size w w' := by
  rw [rmN_def]
  refine mod_rest a m ?_ hm (by omega) w
  rw [RR_pow] at ha
  exact Nat.lt_of_lt_of_le ha (Nat.pow_le_pow_right (by omega) (by omega))
theorem mod_prod (p q : Nat) (hp : p < m) (hq : q < m) (w : World) : Calls Try.prog 32 #[wide (mulN p q), num m] w fun e w' => e = .returned (.tuple #[num (pmN m p q), .int .i64 0]) ∧ Below w.heap.size w w' := by
  have h8 : mulN p q < 18446744073709551616 ^ 8 := by
    rw [mulN_def, show 18446744073709551616 ^ 8 = RR * RR from by unfold RR; decide]
    exact Nat.mul_lt_mul_of_lt_of_le (by omega) (by omega) (by unfold RR; decide)
  have h := mod_rest (mulN p q) m h8 hm (by omega) w
  have e : mulN p q % m = pmN m p q := by rw [mulN_def, pmN_def]
  rw [e] at h
  exact h
section
variable (b : Nat) (w : World) (hM : MontB w b m (r2N m) (ivN m))
include hM
theorem mmul_tos (p q : Nat) : Calls Try.prog 35 #[.pointer (some ⟨b, 0, none⟩), num (toN m p), num (toN m q)] w fun e w' => e = .returned (.tuple #[num (toN m (mulN p q)), .int .i64 0]) ∧ Below w.heap.size w w' := by
  have hp := toN_lt m p (by omega)
  have hq := toN_lt m q (by omega)
  have h := mmul_yes b m (r2N m) w hM hm (toN m p) (toN m q) (by omega) (by omega) ho hp hq
  have e : redN m (mulN (toN m p) (toN m q)) = toN m (mulN p q) := by rw [mulN_def, mulN_def]; exact redN_tos m p q ho
  rw [e] at h
  exact h
theorem mfrom_back (p : Nat) (hp : p < m) : Calls Try.prog 37 #[.pointer (some ⟨b, 0, none⟩), num (toN m p)] w fun e w' => e = .returned (.tuple #[num p, .int .i64 0]) ∧ Below w.heap.size w w' := by
  have hl := toN_lt m p (by omega)
  have h := mfrom_yes b m (r2N m) w hM hm (toN m p) (by omega) ho hl
  rw [redN_back m p ho hp] at h
  exact h
theorem mfrom_prod (p q : Nat) : Calls Try.prog 37 #[.pointer (some ⟨b, 0, none⟩), num (toN m (mulN p q))] w fun e w' => e = .returned (.tuple #[num (pmN m p q), .int .i64 0]) ∧ Below w.heap.size w w' := by
  have hl := toN_lt m (mulN p q) (by omega)
  have h := mfrom_yes b m (r2N m) w hM hm (toN m (mulN p q)) (by omega) ho hl
  rw [redN_toN m _ ho, mulN_def, ← pmN_def] at h
  rw [mulN_def]
  exact h
end
end
set_option maxRecDepth 20000 in
set_option maxHeartbeats 4000000 in
theorem round_even (m a b : Nat) (he : m % 2 = 0) (w : World) : Calls Try.prog 12 #[num m, num a, num b] w fun e w' => e = .returned (.bool true) ∧ Below w.heap.size w w' := by
  go_enter Try.func12, Try.ntmps12
  go_wp2_with fail; (with_reducible refine (newmont_even m he _).mono ?_); rintro e w1 ⟨rfl, h1⟩; have km := (((Blk.newAt (n := w.heap.size) _ _ _ (by first | rfl | simp)).alloc _).alloc _).after h1; have kx := ((Blk.newAt (n := w.heap.size + 1) _ _ _ (by first | rfl | simp)).alloc _).after h1; have ky := (Blk.newAt (n := w.heap.size + 1 + 1) _ _ _ (by first | rfl | simp)).after h1; have bw := below_call h1 (w := w) (by go_grown); obtain ⟨km_c, km_f, km_l, km_m, _⟩ := km.knows; obtain ⟨kx_c, kx_f, kx_l, kx_m, _⟩ := kx.knows; obtain ⟨ky_c, ky_f, ky_l, ky_m, _⟩ := ky.knows
  go_wp2_with fail; (with_reducible refine (turns_any _).mono ?_); rintro e w3 ⟨rfl, h3⟩; clear km_c km_f km_l km_m kx_c kx_f kx_l kx_m ky_c ky_f ky_l ky_m; (first | replace km := km.after h3 | replace km := (km.alloc _).after h3 | replace km := ((km.alloc _).alloc _).after h3 | replace km := km.drew.after h3 | replace km := (km.alloc _).drew.after h3 | replace km := (km.drew.alloc _).after h3); (first | replace kx := kx.after h3 | replace kx := (kx.alloc _).after h3 | replace kx := ((kx.alloc _).alloc _).after h3 | replace kx := kx.drew.after h3 | replace kx := (kx.alloc _).drew.after h3 | replace kx := (kx.drew.alloc _).after h3); (first | replace ky := ky.after h3 | replace ky := (ky.alloc _).after h3 | replace ky := ((ky.alloc _).alloc _).after h3 | replace ky := ky.drew.after h3 | replace ky := (ky.alloc _).drew.after h3 | replace ky := (ky.drew.alloc _).after h3); have bwsz := Below.size bw; replace bw := below_call h3 (w := w) (by go_grown); clear h3 bwsz; obtain ⟨km_c, km_f, km_l, km_m, _⟩ := km.knows; obtain ⟨kx_c, kx_f, kx_l, kx_m, _⟩ := kx.knows; obtain ⟨ky_c, ky_f, ky_l, ky_m, _⟩ := ky.knows
  go_wp2
  go_ret
  exact ⟨rfl, bw⟩
set_option maxRecDepth 20000 in
set_option maxHeartbeats 4000000 in
theorem round_one (a b : Nat) (w : World) : Calls Try.prog 12 #[num 1, num a, num b] w fun e w' => e = .returned (.bool true) ∧ Below w.heap.size w w' := by
  go_enter Try.func12, Try.ntmps12
  go_wp2_with fail; (with_reducible refine (newmont_one _).mono ?_); rintro e w1 ⟨rfl, h1⟩; have km := (((Blk.newAt (n := w.heap.size) _ _ _ (by first | rfl | simp)).alloc _).alloc _).after h1; have kx := ((Blk.newAt (n := w.heap.size + 1) _ _ _ (by first | rfl | simp)).alloc _).after h1; have ky := (Blk.newAt (n := w.heap.size + 1 + 1) _ _ _ (by first | rfl | simp)).after h1; have bw := below_call h1 (w := w) (by go_grown); obtain ⟨km_c, km_f, km_l, km_m, _⟩ := km.knows; obtain ⟨kx_c, kx_f, kx_l, kx_m, _⟩ := kx.knows; obtain ⟨ky_c, ky_f, ky_l, ky_m, _⟩ := ky.knows
  go_wp2_with fail; (with_reducible refine (turns_any _).mono ?_); rintro e w3 ⟨rfl, h3⟩; clear km_c km_f km_l km_m kx_c kx_f kx_l kx_m ky_c ky_f ky_l ky_m; (first | replace km := km.after h3 | replace km := (km.alloc _).after h3 | replace km := ((km.alloc _).alloc _).after h3 | replace km := km.drew.after h3 | replace km := (km.alloc _).drew.after h3 | replace km := (km.drew.alloc _).after h3); (first | replace kx := kx.after h3 | replace kx := (kx.alloc _).after h3 | replace kx := ((kx.alloc _).alloc _).after h3 | replace kx := kx.drew.after h3 | replace kx := (kx.alloc _).drew.after h3 | replace kx := (kx.drew.alloc _).after h3); (first | replace ky := ky.after h3 | replace ky := (ky.alloc _).after h3 | replace ky := ((ky.alloc _).alloc _).after h3 | replace ky := ky.drew.after h3 | replace ky := (ky.alloc _).drew.after h3 | replace ky := (ky.drew.alloc _).after h3); have bwsz := Below.size bw; replace bw := below_call h3 (w := w) (by go_grown); clear h3 bwsz; obtain ⟨km_c, km_f, km_l, km_m, _⟩ := km.knows; obtain ⟨kx_c, kx_f, kx_l, kx_m, _⟩ := kx.knows; obtain ⟨ky_c, ky_f, ky_l, ky_m, _⟩ := ky.knows
  go_wp2
  go_ret
  exact ⟨rfl, bw⟩
set_option maxRecDepth 20000 in
set_option maxHeartbeats 4000000 in
theorem round_odd (m a b : Nat) (hm : m < RR) (ha : a < RR) (hb : b < RR) (ho : m % 2 = 1) (h1 : m ≠ 1) (w : World) : Calls Try.prog 12 #[num m, num a, num b] w fun e w' => e = .returned (.bool true) ∧ Below w.heap.size w w' := by
  have q1 := eqin_same
  have wa := wide_num a ha
  have wb := wide_num b hb
  have hp := rm_lt m a (by omega)
  have hq := rm_lt m b (by omega)
  have hpR : rmN m a < RR := by omega
  have hqR : rmN m b < RR := by omega
  go_enter Try.func12, Try.ntmps12
  go_wp2_with fail; (with_reducible refine (newmont_any m hm ho h1 _).mono ?_); rintro e w1 ⟨g, rfl, hM0, hb1⟩; have km := (((Blk.newAt (n := w.heap.size) _ _ _ (by first | rfl | simp)).alloc _).alloc _).after hb1; have kx := ((Blk.newAt (n := w.heap.size + 1) _ _ _ (by first | rfl | simp)).alloc _).after hb1; have ky := (Blk.newAt (n := w.heap.size + 1 + 1) _ _ _ (by first | rfl | simp)).after hb1; have bw := below_call hb1 (w := w) (by go_grown); obtain ⟨km_c, km_f, km_l, km_m, _⟩ := km.knows; obtain ⟨kx_c, kx_f, kx_l, kx_m, _⟩ := kx.knows; obtain ⟨ky_c, ky_f, ky_l, ky_m, _⟩ := ky.knows
  have kM : Blk w1 g 79 #[.int .u64 (lb (m) 0), .int .u64 (lb (m) 1), .int .u64 (lb (m) 2), .int .u64 (lb (m) 3), .int .u64 (lb (r2N m) 0), .int .u64 (lb (r2N m) 1), .int .u64 (lb (r2N m) 2), .int .u64 (lb (r2N m) 3), .int .u64 (lb (ivN m) 0)] := hM0
  clear hM0
  obtain ⟨kM_c, kM_f, kM_l, kM_m, _⟩ := kM.knows
  go_wp2_with fail; (with_reducible refine (mod_num m hm ho a ha _).mono ?_); rintro e w2 ⟨rfl, hb2⟩; clear km_c km_f km_l km_m kx_c kx_f kx_l kx_m ky_c ky_f ky_l ky_m kM_c kM_f kM_l kM_m; (first | replace km := km.after hb2 | replace km := (km.alloc _).after hb2 | replace km := ((km.alloc _).alloc _).after hb2 | replace km := km.drew.after hb2 | replace km := (km.alloc _).drew.after hb2 | replace km := (km.drew.alloc _).after hb2); (first | replace kx := kx.after hb2 | replace kx := (kx.alloc _).after hb2 | replace kx := ((kx.alloc _).alloc _).after hb2 | replace kx := kx.drew.after hb2 | replace kx := (kx.alloc _).drew.after hb2 | replace kx := (kx.drew.alloc _).after hb2); (first | replace ky := ky.after hb2 | replace ky := (ky.alloc _).after hb2 | replace ky := ((ky.alloc _).alloc _).after hb2 | replace ky := ky.drew.after hb2 | replace ky := (ky.alloc _).drew.after hb2 | replace ky := (ky.drew.alloc _).after hb2); (first | replace kM := kM.after hb2 | replace kM := (kM.alloc _).after hb2 | replace kM := ((kM.alloc _).alloc _).after hb2 | replace kM := kM.drew.after hb2 | replace kM := (kM.alloc _).drew.after hb2 | replace kM := (kM.drew.alloc _).after hb2); have bwsz := Below.size bw; replace bw := below_call hb2 (w := w) (by go_grown); clear hb2 bwsz; obtain ⟨km_c, km_f, km_l, km_m, _⟩ := km.knows; obtain ⟨kx_c, kx_f, kx_l, kx_m, _⟩ := kx.knows; obtain ⟨ky_c, ky_f, ky_l, ky_m, _⟩ := ky.knows; obtain ⟨kM_c, kM_f, kM_l, kM_m, _⟩ := kM.knows
  go_wp2_with fail; (with_reducible refine (mod_num m hm ho b hb _).mono ?_); rintro e w3 ⟨rfl, hb3⟩; clear km_c km_f km_l km_m kx_c kx_f kx_l kx_m ky_c ky_f ky_l ky_m kM_c kM_f kM_l kM_m; (first | replace km := km.after hb3 | replace km := (km.alloc _).after hb3 | replace km := ((km.alloc _).alloc _).after hb3 | replace km := km.drew.after hb3 | replace km := (km.alloc _).drew.after hb3 | replace km := (km.drew.alloc _).after hb3); (first | replace kx := kx.after hb3 | replace kx := (kx.alloc _).after hb3 | replace kx := ((kx.alloc _).alloc _).after hb3 | replace kx := kx.drew.after hb3 | replace kx := (kx.alloc _).drew.after hb3 | replace kx := (kx.drew.alloc _).after hb3); (first | replace ky := ky.after hb3 | replace ky := (ky.alloc _).after hb3 | replace ky := ((ky.alloc _).alloc _).after hb3 | replace ky := ky.drew.after hb3 | replace ky := (ky.alloc _).drew.after hb3 | replace ky := (ky.drew.alloc _).after hb3); (first | replace kM := kM.after hb3 | replace kM := (kM.alloc _).after hb3 | replace kM := ((kM.alloc _).alloc _).after hb3 | replace kM := kM.drew.after hb3 | replace kM := (kM.alloc _).drew.after hb3 | replace kM := (kM.drew.alloc _).after hb3); (first | have kp := (Blk.new _ _ _).after hb3 | have kp := (Blk.new _ _ _).drew.after hb3); have bwsz := Below.size bw; replace bw := below_call hb3 (w := w) (by go_grown); clear hb3 bwsz; obtain ⟨km_c, km_f, km_l, km_m, _⟩ := km.knows; obtain ⟨kx_c, kx_f, kx_l, kx_m, _⟩ := kx.knows; obtain ⟨ky_c, ky_f, ky_l, ky_m, _⟩ := ky.knows; obtain ⟨kM_c, kM_f, kM_l, kM_m, _⟩ := kM.knows; obtain ⟨kp_c, kp_f, kp_l, kp_m, _⟩ := kp.knows
  clear wa wb
  go_wp2_with fail; (with_reducible refine (mto_is g m _ (kM.alloc _).mont hm ho (rmN m a) hpR hp).mono ?_); rintro e w4 ⟨rfl, hb4⟩; clear km_c km_f km_l km_m kp_c kp_f kp_l kp_m kM_c kM_f kM_l kM_m; (first | replace km := km.after hb4 | replace km := (km.alloc _).after hb4 | replace km := ((km.alloc _).alloc _).after hb4 | replace km := km.drew.after hb4 | replace km := (km.alloc _).drew.after hb4 | replace km := (km.drew.alloc _).after hb4); (first | replace kp := kp.after hb4 | replace kp := (kp.alloc _).after hb4 | replace kp := ((kp.alloc _).alloc _).after hb4 | replace kp := kp.drew.after hb4 | replace kp := (kp.alloc _).drew.after hb4 | replace kp := (kp.drew.alloc _).after hb4); (first | replace kM := kM.after hb4 | replace kM := (kM.alloc _).after hb4 | replace kM := ((kM.alloc _).alloc _).after hb4 | replace kM := kM.drew.after hb4 | replace kM := (kM.alloc _).drew.after hb4 | replace kM := (kM.drew.alloc _).after hb4); (first | have kq := (Blk.new _ _ _).after hb4 | have kq := (Blk.new _ _ _).drew.after hb4); have bwsz := Below.size bw; replace bw := below_call hb4 (w := w) (by go_grown); clear hb4 bwsz; obtain ⟨km_c, km_f, km_l, km_m, _⟩ := km.knows; obtain ⟨kp_c, kp_f, kp_l, kp_m, _⟩ := kp.knows; obtain ⟨kM_c, kM_f, kM_l, kM_m, _⟩ := kM.knows; obtain ⟨kq_c, kq_f, kq_l, kq_m, _⟩ := kq.knows
  go_wp2_with fail; (with_reducible refine (mto_is g m _ (kM.alloc _).mont hm ho (rmN m b) hqR hq).mono ?_); rintro e w5 ⟨rfl, hb5⟩; clear km_c km_f km_l km_m kp_c kp_f kp_l kp_m kq_c kq_f kq_l kq_m kM_c kM_f kM_l kM_m; (first | replace km := km.after hb5 | replace km := (km.alloc _).after hb5 | replace km := ((km.alloc _).alloc _).after hb5 | replace km := km.drew.after hb5 | replace km := (km.alloc _).drew.after hb5 | replace km := (km.drew.alloc _).after hb5); (first | replace kp := kp.after hb5 | replace kp := (kp.alloc _).after hb5 | replace kp := ((kp.alloc _).alloc _).after hb5 | replace kp := kp.drew.after hb5 | replace kp := (kp.alloc _).drew.after hb5 | replace kp := (kp.drew.alloc _).after hb5); (first | replace kq := kq.after hb5 | replace kq := (kq.alloc _).after hb5 | replace kq := ((kq.alloc _).alloc _).after hb5 | replace kq := kq.drew.after hb5 | replace kq := (kq.alloc _).drew.after hb5 | replace kq := (kq.drew.alloc _).after hb5); (first | replace kM := kM.after hb5 | replace kM := (kM.alloc _).after hb5 | replace kM := ((kM.alloc _).alloc _).after hb5 | replace kM := kM.drew.after hb5 | replace kM := (kM.alloc _).drew.after hb5 | replace kM := (kM.drew.alloc _).after hb5); (first | have ks := (Blk.new _ _ _).after hb5 | have ks := (Blk.new _ _ _).drew.after hb5); have bwsz := Below.size bw; replace bw := below_call hb5 (w := w) (by go_grown); clear hb5 bwsz; obtain ⟨km_c, km_f, km_l, km_m, _⟩ := km.knows; obtain ⟨kp_c, kp_f, kp_l, kp_m, _⟩ := kp.knows; obtain ⟨kq_c, kq_f, kq_l, kq_m, _⟩ := kq.knows; obtain ⟨kM_c, kM_f, kM_l, kM_m, _⟩ := kM.knows; obtain ⟨ks_c, ks_f, ks_l, ks_m, _⟩ := ks.knows
  go_wp2_with fail; (with_reducible refine (mmul_tos m hm ho g _ (kM.alloc _).mont (rmN m a) (rmN m b)).mono ?_); rintro e w6 ⟨rfl, hb6⟩; clear km_c km_f km_l km_m kp_c kp_f kp_l kp_m kq_c kq_f kq_l kq_m ks_c ks_f ks_l ks_m kM_c kM_f kM_l kM_m; (first | replace km := km.after hb6 | replace km := (km.alloc _).after hb6 | replace km := ((km.alloc _).alloc _).after hb6 | replace km := km.drew.after hb6 | replace km := (km.alloc _).drew.after hb6 | replace km := (km.drew.alloc _).after hb6); (first | replace kp := kp.after hb6 | replace kp := (kp.alloc _).after hb6 | replace kp := ((kp.alloc _).alloc _).after hb6 | replace kp := kp.drew.after hb6 | replace kp := (kp.alloc _).drew.after hb6 | replace kp := (kp.drew.alloc _).after hb6); (first | replace kq := kq.after hb6 | replace kq := (kq.alloc _).after hb6 | replace kq := ((kq.alloc _).alloc _).after hb6 | replace kq := kq.drew.after hb6 | replace kq := (kq.alloc _).drew.after hb6 | replace kq := (kq.drew.alloc _).after hb6); (first | replace ks := ks.after hb6 | replace ks := (ks.alloc _).after hb6 | replace ks := ((ks.alloc _).alloc _).after hb6 | replace ks := ks.drew.after hb6 | replace ks := (ks.alloc _).drew.after hb6 | replace ks := (ks.drew.alloc _).after hb6); (first | replace kM := kM.after hb6 | replace kM := (kM.alloc _).after hb6 | replace kM := ((kM.alloc _).alloc _).after hb6 | replace kM := kM.drew.after hb6 | replace kM := (kM.alloc _).drew.after hb6 | replace kM := (kM.drew.alloc _).after hb6); (first | have kt := (Blk.new _ _ _).after hb6 | have kt := (Blk.new _ _ _).drew.after hb6); have bwsz := Below.size bw; replace bw := below_call hb6 (w := w) (by go_grown); clear hb6 bwsz; obtain ⟨km_c, km_f, km_l, km_m, _⟩ := km.knows; obtain ⟨kp_c, kp_f, kp_l, kp_m, _⟩ := kp.knows; obtain ⟨kq_c, kq_f, kq_l, kq_m, _⟩ := kq.knows; obtain ⟨ks_c, ks_f, ks_l, ks_m, _⟩ := ks.knows; obtain ⟨kM_c, kM_f, kM_l, kM_m, _⟩ := kM.knows; obtain ⟨kt_c, kt_f, kt_l, kt_m, _⟩ := kt.knows
  go_wp2_with fail; (with_reducible refine (mfrom_prod m hm ho g _ (kM.alloc _).mont (rmN m a) (rmN m b)).mono ?_); rintro e w7 ⟨rfl, hb7⟩; clear km_c km_f km_l km_m kp_c kp_f kp_l kp_m kq_c kq_f kq_l kq_m ks_c ks_f ks_l ks_m kM_c kM_f kM_l kM_m; (first | replace km := km.after hb7 | replace km := (km.alloc _).after hb7 | replace km := ((km.alloc _).alloc _).after hb7 | replace km := km.drew.after hb7 | replace km := (km.alloc _).drew.after hb7 | replace km := (km.drew.alloc _).after hb7); (first | replace kp := kp.after hb7 | replace kp := (kp.alloc _).after hb7 | replace kp := ((kp.alloc _).alloc _).after hb7 | replace kp := kp.drew.after hb7 | replace kp := (kp.alloc _).drew.after hb7 | replace kp := (kp.drew.alloc _).after hb7); (first | replace kq := kq.after hb7 | replace kq := (kq.alloc _).after hb7 | replace kq := ((kq.alloc _).alloc _).after hb7 | replace kq := kq.drew.after hb7 | replace kq := (kq.alloc _).drew.after hb7 | replace kq := (kq.drew.alloc _).after hb7); (first | replace ks := ks.after hb7 | replace ks := (ks.alloc _).after hb7 | replace ks := ((ks.alloc _).alloc _).after hb7 | replace ks := ks.drew.after hb7 | replace ks := (ks.alloc _).drew.after hb7 | replace ks := (ks.drew.alloc _).after hb7); (first | replace kM := kM.after hb7 | replace kM := (kM.alloc _).after hb7 | replace kM := ((kM.alloc _).alloc _).after hb7 | replace kM := kM.drew.after hb7 | replace kM := (kM.alloc _).drew.after hb7 | replace kM := (kM.drew.alloc _).after hb7); (first | have ku := (Blk.new _ _ _).after hb7 | have ku := (Blk.new _ _ _).drew.after hb7); have bwsz := Below.size bw; replace bw := below_call hb7 (w := w) (by go_grown); clear hb7 bwsz; obtain ⟨km_c, km_f, km_l, km_m, _⟩ := km.knows; obtain ⟨kp_c, kp_f, kp_l, kp_m, _⟩ := kp.knows; obtain ⟨kq_c, kq_f, kq_l, kq_m, _⟩ := kq.knows; obtain ⟨ks_c, ks_f, ks_l, ks_m, _⟩ := ks.knows; obtain ⟨kM_c, kM_f, kM_l, kM_m, _⟩ := kM.knows; obtain ⟨ku_c, ku_f, ku_l, ku_m, _⟩ := ku.knows
  go_wp2_with fail; (with_reducible refine (mfrom_back m hm ho g _ (kM.alloc _).mont (rmN m a) hp).mono ?_); rintro e w8 ⟨rfl, hb8⟩; clear km_c km_f km_l km_m kp_c kp_f kp_l kp_m kq_c kq_f kq_l kq_m ks_c ks_f ks_l ks_m kM_c kM_f kM_l kM_m; (first | replace km := km.after hb8 | replace km := (km.alloc _).after hb8 | replace km := ((km.alloc _).alloc _).after hb8 | replace km := km.drew.after hb8 | replace km := (km.alloc _).drew.after hb8 | replace km := (km.drew.alloc _).after hb8); (first | replace kp := kp.after hb8 | replace kp := (kp.alloc _).after hb8 | replace kp := ((kp.alloc _).alloc _).after hb8 | replace kp := kp.drew.after hb8 | replace kp := (kp.alloc _).drew.after hb8 | replace kp := (kp.drew.alloc _).after hb8); (first | replace kq := kq.after hb8 | replace kq := (kq.alloc _).after hb8 | replace kq := ((kq.alloc _).alloc _).after hb8 | replace kq := kq.drew.after hb8 | replace kq := (kq.alloc _).drew.after hb8 | replace kq := (kq.drew.alloc _).after hb8); (first | replace ks := ks.after hb8 | replace ks := (ks.alloc _).after hb8 | replace ks := ((ks.alloc _).alloc _).after hb8 | replace ks := ks.drew.after hb8 | replace ks := (ks.alloc _).drew.after hb8 | replace ks := (ks.drew.alloc _).after hb8); (first | replace kM := kM.after hb8 | replace kM := (kM.alloc _).after hb8 | replace kM := ((kM.alloc _).alloc _).after hb8 | replace kM := kM.drew.after hb8 | replace kM := (kM.alloc _).drew.after hb8 | replace kM := (kM.drew.alloc _).after hb8); (first | have kv := (Blk.new _ _ _).after hb8 | have kv := (Blk.new _ _ _).drew.after hb8); have bwsz := Below.size bw; replace bw := below_call hb8 (w := w) (by go_grown); clear hb8 bwsz; obtain ⟨km_c, km_f, km_l, km_m, _⟩ := km.knows; obtain ⟨kp_c, kp_f, kp_l, kp_m, _⟩ := kp.knows; obtain ⟨kq_c, kq_f, kq_l, kq_m, _⟩ := kq.knows; obtain ⟨ks_c, ks_f, ks_l, ks_m, _⟩ := ks.knows; obtain ⟨kM_c, kM_f, kM_l, kM_m, _⟩ := kM.knows; obtain ⟨kv_c, kv_f, kv_l, kv_m, _⟩ := kv.knows
  clear km_c km_f km_l km_m kp_c kp_f kp_l kp_m kq_c kq_f kq_l kq_m ks ks_c ks_f ks_l ks_m kM kM_c kM_f kM_l kM_m kv_c kv_f kv_l kv_m ku kt
  go_upto_region 11 with (fail)
  have kr := Blk.new w8 24 #[.int .u64 (lb (rmN m a) 0), .int .u64 (lb (rmN m a) 1), .int .u64 (lb (rmN m a) 2), .int .u64 (lb (rmN m a) 3)]; replace km := km.alloc (.cells #[.int .u64 (lb (rmN m a) 0), .int .u64 (lb (rmN m a) 1), .int .u64 (lb (rmN m a) 2), .int .u64 (lb (rmN m a) 3)] 24); replace kp := kp.alloc (.cells #[.int .u64 (lb (rmN m a) 0), .int .u64 (lb (rmN m a) 1), .int .u64 (lb (rmN m a) 2), .int .u64 (lb (rmN m a) 3)] 24); replace kq := kq.alloc (.cells #[.int .u64 (lb (rmN m a) 0), .int .u64 (lb (rmN m a) 1), .int .u64 (lb (rmN m a) 2), .int .u64 (lb (rmN m a) 3)] 24); replace kv := kv.alloc (.cells #[.int .u64 (lb (rmN m a) 0), .int .u64 (lb (rmN m a) 1), .int .u64 (lb (rmN m a) 2), .int .u64 (lb (rmN m a) 3)] 24); replace bw := bw.alloc bw.size (.cells #[.int .u64 (lb (rmN m a) 0), .int .u64 (lb (rmN m a) 1), .int .u64 (lb (rmN m a) 2), .int .u64 (lb (rmN m a) 3)] 24); generalize w8.heap.size = g_kr at *; generalize w8.alloc _ = W9 at *
  refine wp_region_kinds [9] 10 [(0, 0), (1, 0), (3, 0), (2, 0), (4, 0), (5, 1), (6, 1), (7, 1), (8, 2), (9, 2)] (by kernel_rfl) (by kernel_rfl) ?_
  (refine kind_firm (v := ?_) rfl ?_ ?_; rotate_left; focus (intro K w' hg hK; have hc1 := (kp.drew.after hg).cell; go_simp; exact hK _ (Grow.refl _)))
  (refine kind_firm (v := ?_) rfl ?_ ?_; rotate_left; focus (intro K w' hg hK; have hc1 := (kq.drew.after hg).cell; go_simp; exact hK _ (Grow.refl _)))
  (refine kind_firm (v := ?_) rfl ?_ ?_; rotate_left; focus (intro K w' hg hK; have hc1 := (km.drew.after hg).cell; go_simp; exact hK _ (Grow.refl _)))
  (refine kind_firm (v := ?_) rfl ?_ ?_; rotate_left; focus (intro K w' hg hK; go_simp; refine Calls.mono (mul_any (rmN m a) (rmN m b) hpR hqR _) ?_; rintro e w'' ⟨rfl, hb⟩; refine ⟨_, rfl, ?_⟩; exact hK _ hb))
  (refine kind_firm (v := ?_) rfl ?_ ?_; rotate_left; focus (intro K w' hg hK; go_simp; refine Calls.mono (mod_prod m hm ho (rmN m a) (rmN m b) hp hq _) ?_; rintro e w'' ⟨rfl, hb⟩; refine ⟨_, rfl, ?_⟩; exact hK _ hb))
  (refine kind_pure (v := ?_) rfl ?_ ?_; rotate_left; focus (intro K w' hK; go_simp; exact hK))
  (refine kind_pure (v := ?_) rfl ?_ ?_; rotate_left; focus (intro K w' hK; go_simp; exact hK))
  (refine kind_pure (v := ?_) rfl ?_ ?_; rotate_left; focus (intro K w' hK; go_simp; exact hK))
  (refine kind_loose rfl ?_; intro K wa1 ga1 hK; go_simp; refine hK _ _ (grow_alloc _ _) ?_; clear hK K)
  (refine kind_store rfl rfl ?_; intro K wb1 gb1 hK; have hs := new_num gb1; have sc := hs.cell; have sf := hs.frozen; go_simp; refine hK _ _ ?_; clear hK K)
  refine kind_end ?_
  intro w10 h10
  replace kp := put_num _ _ _ _ kp.drew ga1 gb1 h10
  replace kv := put_num _ _ _ _ kv.drew ga1 gb1 h10
  replace kr := put_num _ _ _ _ kr.drew ga1 gb1 h10
  have kz := put_new _ _ _ _ gb1 h10
  replace bw := put_below _ _ _ _ bw.drew bw.size ga1 gb1 h10
  clear sc sf hs h10 gb1 ga1 km kq
  obtain ⟨kp_c, kp_f, kp_l, kp_m, _⟩ := kp.knows
  obtain ⟨kv_c, kv_f, kv_l, kv_m, _⟩ := kv.knows
  obtain ⟨kr_c, kr_f, kr_l, kr_m, _⟩ := kr.knows
  obtain ⟨kz_c, kz_f, kz_l, kz_m, _⟩ := kz.knows
  go_wp2_with fail; (with_reducible refine (turns_any _).mono ?_); rintro e w11 ⟨rfl, hb11⟩; clear kp_c kp_f kp_l kp_m kv_c kv_f kv_l kv_m kr_c kr_f kr_l kr_m kz_c kz_f kz_l kz_m; (first | replace kp := kp.after hb11 | replace kp := (kp.alloc _).after hb11 | replace kp := ((kp.alloc _).alloc _).after hb11 | replace kp := kp.drew.after hb11 | replace kp := (kp.alloc _).drew.after hb11 | replace kp := (kp.drew.alloc _).after hb11); (first | replace kv := kv.after hb11 | replace kv := (kv.alloc _).after hb11 | replace kv := ((kv.alloc _).alloc _).after hb11 | replace kv := kv.drew.after hb11 | replace kv := (kv.alloc _).drew.after hb11 | replace kv := (kv.drew.alloc _).after hb11); (first | replace kr := kr.after hb11 | replace kr := (kr.alloc _).after hb11 | replace kr := ((kr.alloc _).alloc _).after hb11 | replace kr := kr.drew.after hb11 | replace kr := (kr.alloc _).drew.after hb11 | replace kr := (kr.drew.alloc _).after hb11); (first | replace kz := kz.after hb11 | replace kz := (kz.alloc _).after hb11 | replace kz := ((kz.alloc _).alloc _).after hb11 | replace kz := kz.drew.after hb11 | replace kz := (kz.alloc _).drew.after hb11 | replace kz := (kz.drew.alloc _).after hb11); have bwsz := Below.size bw; replace bw := below_call hb11 (w := w) (by go_grown); clear hb11 bwsz; obtain ⟨kp_c, kp_f, kp_l, kp_m, _⟩ := kp.knows; obtain ⟨kv_c, kv_f, kv_l, kv_m, _⟩ := kv.knows; obtain ⟨kr_c, kr_f, kr_l, kr_m, _⟩ := kr.knows; obtain ⟨kz_c, kz_f, kz_l, kz_m, _⟩ := kz.knows
  go_wp2
  go_ret
  exact ⟨rfl, bw⟩
theorem round_walk (m a b : Nat) (hm : m < RR) (ha : a < RR) (hb : b < RR) (w : World) : Calls Try.prog 12 #[num m, num a, num b] w fun e w' => e = .returned (.bool true) ∧ Below w.heap.size w w' := by
  obtain he | ho : m % 2 = 0 ∨ m % 2 = 1 := by omega
  · exact round_even m a b he w
  · by_cases h1 : m = 1
    · subst h1; exact round_one a b w
    · exact round_odd m a b hm ha hb ho h1 w
end Go.Proofs.Ytcoljlanblngiaa
