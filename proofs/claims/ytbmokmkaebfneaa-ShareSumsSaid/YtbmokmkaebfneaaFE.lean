/- The two fields' inverses, roots, remainders and bytes. -/
import Derived.Test.YtbmokmkaebfneaaFD
namespace Go.Proofs.Ytbmokmkaebfneaa
set_option linter.unusedVariables false
set_option linter.unusedSimpArgs false
open Go.RowKit

abbrev twoNV : Value := .agg #[.int .u64 2, .int .u64 0, .int .u64 0, .int .u64 0]
theorem num_two : num 2 = twoNV := by
  have h : lb 2 0 = 2 ∧ lb 2 1 = 0 ∧ lb 2 2 = 0 ∧ lb 2 3 = 0 := by simp only [lb_def, lbN]; decide
  unfold num twoNV; rw [h.1, h.2.1, h.2.2.1, h.2.2.2]
theorem ieN_is : ∃ f : Bool → Nat, ∀ b, f b = pN b - 2 := ⟨fun b => pN b - 2, fun _ => rfl⟩
/-- An inverse's exponent. -/
noncomputable def ieN : Bool → Nat := Classical.choose ieN_is
theorem ieN_def (b : Bool) : ieN b = pN b - 2 := Classical.choose_spec ieN_is b
theorem ieN_lt (b : Bool) : ieN b < RR := by have := pN_lt b; rw [ieN_def]; omega
theorem sub_two (b : Bool) (w : World) : Calls Try.prog 73 #[num (pN b), twoNV] w fun e w' => e = .returned (.tuple #[num (ieN b), .int .u64 (bo (pN b) 2 4)]) ∧ Below w.heap.size w w' := by
  have h := sub_any (pN b) 2 (by unfold RR; omega) w
  have h1 := pN_lt b
  have h2 := pN_one b
  have e : subN (pN b) 2 = ieN b := by
    rw [subN_def, ieN_def, show pN b + RR - 2 = pN b - 2 + RR by omega, Nat.add_mod_right, Nat.mod_eq_of_lt (by omega)]
  rw [e, num_two] at h
  exact h
theorem frdN_is : ∃ f : Bool → Nat → Nat, ∀ b x, f b x = x % pN b := ⟨fun b x => x % pN b, fun _ _ => rfl⟩
/-- A remainder. -/
noncomputable def frdN : Bool → Nat → Nat := Classical.choose frdN_is
theorem frdN_def (b : Bool) (x : Nat) : frdN b x = x % pN b := Classical.choose_spec frdN_is b x
theorem frdN_lt (b : Bool) (x : Nat) : frdN b x < pN b := by rw [frdN_def]; exact Nat.mod_lt _ (pN_pos b)
theorem evN_is : ∃ f : Bool → Nat → Nat, ∀ b x, f b x = if x % 2 = 1 then fsbN b 0 x else x := ⟨fun b x => if x % 2 = 1 then fsbN b 0 x else x, fun _ _ => rfl⟩
/-- Of a number and its negative the even one. -/
noncomputable def evN : Bool → Nat → Nat := Classical.choose evN_is
theorem evN_def (b : Bool) (x : Nat) : evN b x = if x % 2 = 1 then fsbN b 0 x else x := Classical.choose_spec evN_is b x
theorem ev_pick (b : Bool) (x : Nat) : selN (lb x 0) (fsbN b 0 x) x = evN b x := by
  rw [selN_def, evN_def, lb_def, lb0]
  by_cases h : x % 2 = 1
  · rw [if_pos h, if_pos (by omega)]
  · rw [if_neg h, if_neg (by omega)]
theorem rt_nz : rtN true ≠ 0 := by rw [rtN_def]; decide
section
variable {base : Bool} {f g : Nat} {w : World} (hF : FieldB w f g base)
include hF
set_option maxHeartbeats 2000000 in
theorem finv_no (a : Nat) (ha : a < RR) (h : ¬ a < pN base) : Calls Try.prog 51 #[.pointer (some ⟨f, 0, none⟩), num a] w fun e w' => e = .returned (.tuple #[num 0, .int .i64 20]) ∧ Below w.heap.size w w' := by
  rw [num_zero]
  go_enter Try.func51, Try.ntmps51
  go_wp2_with fail; (with_reducible refine (check_out ((hF.alloc _).alloc _) a ha h).mono ?_); rintro e w1 ⟨rfl, h1⟩; have ka := ((Blk.newAt (n := w.heap.size) _ _ _ (by first | rfl | simp)).alloc _).after h1; have kq := (Blk.newAt (n := w.heap.size + 1) _ _ _ (by first | rfl | simp)).after h1; have bw := below_call h1 (w := w) (by go_grown); obtain ⟨ka_c, ka_f, ka_l, ka_m, _⟩ := ka.knows; obtain ⟨kq_c, kq_f, kq_l, kq_m, _⟩ := kq.knows
  go_wp2
  have kf := (kq.put4 (.int .u64 0) (.int .u64 0) (.int .u64 0) (.int .u64 0)).knows
  obtain ⟨kf_c, kf_f, kf_l, _⟩ := kf
  refine bodyPost_ret (v := .tuple #[zeroV, .int .i64 20]) (by simp [results, Try.results51, go_sem, kf_c, kf_l]) rfl ?_
  exact ⟨rfl, by go_grown⟩
set_option maxHeartbeats 2000000 in
theorem finv_zero : Calls Try.prog 51 #[.pointer (some ⟨f, 0, none⟩), num 0] w fun e w' => e = .returned (.tuple #[num 0, .int .i64 21]) ∧ Below w.heap.size w w' := by
  have he := eqin_zero_same
  have ci : ∀ w1, FieldB w1 f g base → Calls Try.prog 71 #[.pointer (some ⟨f, 0, none⟩), zeroV] w1 fun e w' => e = .returned (.int .i64 0) ∧ Below w1.heap.size w1 w' := by
    intro w1 h1; rw [← num_zero]; exact check_in h1 0 (pN_pos base)
  rw [num_zero] at he ⊢
  go_enter Try.func51, Try.ntmps51
  go_wp2_with fail; (with_reducible refine (ci _ ((hF.alloc _).alloc _)).mono ?_); rintro e w1 ⟨rfl, h1⟩; have ka := ((Blk.newAt (n := w.heap.size) _ _ _ (by first | rfl | simp)).alloc _).after h1; have kq := (Blk.newAt (n := w.heap.size + 1) _ _ _ (by first | rfl | simp)).after h1; have bw := below_call h1 (w := w) (by go_grown); obtain ⟨ka_c, ka_f, ka_l, ka_m, _⟩ := ka.knows; obtain ⟨kq_c, kq_f, kq_l, kq_m, _⟩ := kq.knows
  go_wp2
  have kf := (kq.put4 (.int .u64 0) (.int .u64 0) (.int .u64 0) (.int .u64 0)).knows
  obtain ⟨kf_c, kf_f, kf_l, _⟩ := kf
  refine bodyPost_ret (v := .tuple #[zeroV, .int .i64 21]) (by simp [results, Try.results51, go_sem, kf_c, kf_l]) rfl ?_
  exact ⟨rfl, by go_grown⟩
set_option maxHeartbeats 2000000 in
theorem finv_yes (a : Nat) (h : a < pN base) (h0 : a ≠ 0) : Calls Try.prog 51 #[.pointer (some ⟨f, 0, none⟩), num a] w fun e w' => e = .returned (.tuple #[num (fpwN base a (ieN base)), .int .i64 0]) ∧ Below w.heap.size w w' := by
  have he := eqin_zero_other (lt_RR h) h0
  go_enter Try.func51, Try.ntmps51
  go_wp2_with fail; (with_reducible refine (check_in ((hF.alloc _).alloc _) a h).mono ?_); rintro e w1 ⟨rfl, h1⟩; have ka := ((Blk.newAt (n := w.heap.size) _ _ _ (by first | rfl | simp)).alloc _).after h1; have kq := (Blk.newAt (n := w.heap.size + 1) _ _ _ (by first | rfl | simp)).after h1; have bw := below_call h1 (w := w) (by go_grown); obtain ⟨ka_c, ka_f, ka_l, ka_m, _⟩ := ka.knows; obtain ⟨kq_c, kq_f, kq_l, kq_m, _⟩ := kq.knows
  have kF := (hF.after bw).1
  obtain ⟨kF_c, kF_f, kF_l, _⟩ := kF.knows
  go_wp2_with fail; (with_reducible refine (sub_two base _).mono ?_); rintro e w2 ⟨rfl, h2⟩; clear ka_c ka_f ka_l ka_m kq_c kq_f kq_l kq_m; (first | replace ka := ka.after h2 | replace ka := (ka.alloc _).after h2 | replace ka := ((ka.alloc _).alloc _).after h2 | replace ka := ka.drew.after h2 | replace ka := (ka.alloc _).drew.after h2 | replace ka := (ka.drew.alloc _).after h2); (first | replace kq := kq.after h2 | replace kq := (kq.alloc _).after h2 | replace kq := ((kq.alloc _).alloc _).after h2 | replace kq := kq.drew.after h2 | replace kq := (kq.alloc _).drew.after h2 | replace kq := (kq.drew.alloc _).after h2); have bwsz := Below.size bw; replace bw := below_call h2 (w := w) (by go_grown); clear h2 bwsz; obtain ⟨ka_c, ka_f, ka_l, ka_m, _⟩ := ka.knows; obtain ⟨kq_c, kq_f, kq_l, kq_m, _⟩ := kq.knows
  clear kF_c kF_f kF_l kF
  go_upto_region 7 with (fail)
  clear ka_c ka_f ka_l ka_m kq_c kq_f kq_l kq_m
  have ks := Blk.new w2 24 #[.int .u64 (lb (ieN base) 0), .int .u64 (lb (ieN base) 1), .int .u64 (lb (ieN base) 2), .int .u64 (lb (ieN base) 3)]; replace ka := ka.alloc (.cells #[.int .u64 (lb (ieN base) 0), .int .u64 (lb (ieN base) 1), .int .u64 (lb (ieN base) 2), .int .u64 (lb (ieN base) 3)] 24); replace kq := kq.alloc (.cells #[.int .u64 (lb (ieN base) 0), .int .u64 (lb (ieN base) 1), .int .u64 (lb (ieN base) 2), .int .u64 (lb (ieN base) 3)] 24); replace bw := bw.alloc bw.size (.cells #[.int .u64 (lb (ieN base) 0), .int .u64 (lb (ieN base) 1), .int .u64 (lb (ieN base) 2), .int .u64 (lb (ieN base) 3)] 24); generalize w2.heap.size = g_ks at *; generalize w2.alloc _ = W3 at *
  obtain ⟨ka_c, ka_f, ka_l, _⟩ := ka.knows
  obtain ⟨ks_c, ks_f, ks_l, _⟩ := ks.knows
  go_wp2_with fail
  (with_reducible refine (fpow_yes (hF.after bw) a (ieN base) (ieN_lt base) h).mono ?_)
  rintro e w4 ⟨rfl, h4⟩
  clear ka_c ka_f ka_l ks_c ks_f ks_l
  replace kq := kq.after h4
  replace bw := below_call h4 bw
  clear h4 ka ks
  obtain ⟨kq_c, kq_f, kq_l, kq_m, _⟩ := kq.knows
  go_wp2
  have kf := (kq.put4 (.int .u64 (lb (fpwN base a (ieN base)) 0)) (.int .u64 (lb (fpwN base a (ieN base)) 1)) (.int .u64 (lb (fpwN base a (ieN base)) 2)) (.int .u64 (lb (fpwN base a (ieN base)) 3))).knows
  obtain ⟨kf_c, kf_f, kf_l, _⟩ := kf
  refine bodyPost_ret (v := .tuple #[num (fpwN base a (ieN base)), .int .i64 0]) (by simp [results, Try.results51, go_sem, kf_c, kf_l]) rfl ?_
  exact ⟨rfl, by go_grown⟩
end
section
variable {f g : Nat} {w : World}
end
end Go.Proofs.Ytbmokmkaebfneaa
