/- limb's Montgomery way: it is made. -/
import Derived.Test.YtlibfjemdiochaaV
import Derived.Test.YtlibfjemdiochaaE2
import Derived.Test.YtlibfjemdiochaaQ
import Derived.Test.YtlibfjemdiochaaC
namespace Go.Proofs.Ytlibfjemdiochaa
set_option linter.unusedVariables false
set_option linter.unusedSimpArgs false
open Go.RowKit

/-- R's square mod m. -/
theorem r2N_is : ∃ f : Nat → Nat, ∀ m, f m = RR * RR % m := ⟨fun m => RR * RR % m, fun _ => rfl⟩
noncomputable def r2N : Nat → Nat := Classical.choose r2N_is
theorem r2N_def (m : Nat) : r2N m = RR * RR % m := Classical.choose_spec r2N_is m
theorem r1N_is : ∃ f : Nat → Nat, ∀ m, f m = RR % m := ⟨fun m => RR % m, fun _ => rfl⟩
noncomputable def r1N : Nat → Nat := Classical.choose r1N_is
theorem r1N_def (m : Nat) : r1N m = RR % m := Classical.choose_spec r1N_is m
abbrev bigV : Value := .agg #[.int .u64 0, .int .u64 0, .int .u64 0, .int .u64 0, .int .u64 1, .int .u64 0, .int .u64 0, .int .u64 0]
theorem wide_R : wide RR = bigV := by
  have h : lb RR 0 = 0 ∧ lb RR 1 = 0 ∧ lb RR 2 = 0 ∧ lb RR 3 = 0 ∧ lb RR 4 = 1 ∧ lb RR 5 = 0 ∧ lb RR 6 = 0 ∧ lb RR 7 = 0 := by
    unfold RR; simp only [lb_def, lbN]; decide
  unfold wide bigV
  rw [h.1, h.2.1, h.2.2.1, h.2.2.2.1, h.2.2.2.2.1, h.2.2.2.2.2.1, h.2.2.2.2.2.2.1, h.2.2.2.2.2.2.2]
theorem mod_R (m : Nat) (hm : m < RR) (h0 : m ≠ 0) (w : World) : Calls Try.prog 59 #[bigV, num m] w fun e w' => e = .returned (.tuple #[num (r1N m), .int .i64 0]) ∧ Below w.heap.size w w' := by
  rw [← wide_R, r1N_def]
  exact mod_rest RR m (by unfold RR; decide) hm h0 w
theorem mod_R2 (m : Nat) (hm : m < RR) (h0 : m ≠ 0) (w : World) : Calls Try.prog 59 #[wide (mulN (r1N m) (r1N m)), num m] w fun e w' => e = .returned (.tuple #[num (r2N m), .int .i64 0]) ∧ Below w.heap.size w w' := by
  have hl : r1N m < RR := by rw [r1N_def]; exact Nat.lt_trans (Nat.mod_lt _ (by omega)) hm
  have h8 : mulN (r1N m) (r1N m) < 18446744073709551616 ^ 8 := by
    rw [mulN_def, show 18446744073709551616 ^ 8 = RR * RR from by unfold RR; decide]
    exact Nat.mul_lt_mul_of_lt_of_le hl (Nat.le_of_lt hl) (by unfold RR; decide)
  have h := mod_rest (mulN (r1N m) (r1N m)) m h8 hm h0 w
  have e : mulN (r1N m) (r1N m) % m = r2N m := by rw [mulN_def, r1N_def, r2N_def, ← Nat.mul_mod]
  rw [e] at h
  exact h
theorem newmont_even (m : Nat) (he : m % 2 = 0) (w : World) : Calls Try.prog 70 #[num m] w fun e w' => e = .returned (.tuple #[.pointer none, .int .i64 1]) ∧ Below w.heap.size w w' := by
  have h0 : bits .and .u64 (lb m 0) 1 = 0 := by
    rw [and_one_u64 _ (lb_lo _ _) (by have := lb_hi m 0; omega), lb_def, lb0]; omega
  go_enter Try.func70, Try.ntmps70
  go_wp2
  refine bodyPost_ret (v := .tuple #[.pointer none, .int .i64 1]) (by simp [results, Try.results70, go_sem]) rfl ?_
  exact ⟨rfl, by go_grown⟩
theorem newmont_one (w : World) : Calls Try.prog 70 #[num 1] w fun e w' => e = .returned (.tuple #[.pointer none, .int .i64 1]) ∧ Below w.heap.size w w' := by
  have he := eqin_same 1
  rw [num_one] at he ⊢
  have h0 : bits .and .u64 1 1 = 1 := rfl
  go_enter Try.func70, Try.ntmps70
  go_wp2
  refine bodyPost_ret (v := .tuple #[.pointer none, .int .i64 1]) (by simp [results, Try.results70, go_sem]) rfl ?_
  exact ⟨rfl, by go_grown⟩
theorem eqin_one_other {m : Nat} (hm : m < RR) (h : m ≠ 1) (w : World) : (Op.equalIn 10000 24 (num m) oneV).run Try.prog w = .ok false w := by
  rw [← num_one]; exact eqin_other hm (by unfold RR; omega) h w
def NewRel (m : Nat) (w : World) (s4 s20 : Value) (wr : World) : Prop := ∃ k : Nat, k ≤ 6 ∧ s20 = .int .i64 (k : Int) ∧ s4 = .int .u64 (nw m k) ∧ wr = w
set_option maxHeartbeats 2000000 in
theorem newmont_any (m : Nat) (hm : m < RR) (ho : m % 2 = 1) (h1 : m ≠ 1) (w : World) : Calls Try.prog 70 #[num m] w fun e w' => ∃ g, e = .returned (.tuple #[.pointer (some ⟨g, 0, none⟩), .int .i64 0]) ∧ MontB w' g m (r2N m) (ivN m) ∧ Below w.heap.size w w' := by
  have h0 : bits .and .u64 (lb m 0) 1 = 1 := by
    rw [and_one_u64 _ (lb_lo _ _) (by have := lb_hi m 0; omega), lb_def, lb0]; omega
  have he := eqin_one_other hm h1
  have nz := nw_zero m
  go_enter Try.func70, Try.ntmps70
  go_wp2
  have ka := Blk.new w 24 #[.int .u64 (lb (m) 0), .int .u64 (lb (m) 1), .int .u64 (lb (m) 2), .int .u64 (lb (m) 3)]
  have bw : Below w.heap.size w (w.alloc (.cells #[.int .u64 (lb (m) 0), .int .u64 (lb (m) 1), .int .u64 (lb (m) 2), .int .u64 (lb (m) 3)] 24)) := by go_grown
  generalize w.alloc (.cells #[.int .u64 (lb (m) 0), .int .u64 (lb (m) 1), .int .u64 (lb (m) 2), .int .u64 (lb (m) 3)] 24) = W1 at *
  go_loopw [4, 20] (fun s4 s20 wr => NewRel m W1 s4 s20 wr) (fun _ s20 _ => 6 - (intOf s20).toNat)
  case atStart => exact ⟨0, by omega, rfl, by rw [nw_zero], rfl⟩
  case round =>
    unfold NewRel at hrel
    obtain ⟨k, hk, rfl, rfl, rfl⟩ := hrel
    obtain ⟨ka_c, ka_f, ka_l, ka_m, _⟩ := ka.knows
    by_cases hlt : k < 6
    · have hdt : decide ((k : Int) < 6) = true := by simp; omega
      have ns := nw_succ m k
      go_wp2
      exact ⟨⟨k + 1, by omega, by go_num, rfl, rfl⟩, by simp [intOf]; omega⟩
    · have h6 : k = 6 := by omega
      subst h6
      have hiv := ivN_lb m
      clear ka_c ka_f ka_l ka_m
      have ka0 := ka.knows
      obtain ⟨ka_c, ka_f, ka_l, ka_m, _⟩ := ka0
      go_wp2_with fail
      (with_reducible refine (mod_R m hm (by omega) _).mono ?_)
      rintro e w1 ⟨rfl, b1⟩
      clear ka_c ka_f ka_l ka_m
      replace ka := ka.after b1
      replace bw := below_call b1 bw
      go_upto_region 9 with (fail)
      have hl : r1N m < RR := by rw [r1N_def]; exact Nat.lt_trans (Nat.mod_lt _ (by omega)) hm
      have kr := Blk.new w1 24 #[.int .u64 (lb (r1N m) 0), .int .u64 (lb (r1N m) 1), .int .u64 (lb (r1N m) 2), .int .u64 (lb (r1N m) 3)]; replace ka := ka.alloc (.cells #[.int .u64 (lb (r1N m) 0), .int .u64 (lb (r1N m) 1), .int .u64 (lb (r1N m) 2), .int .u64 (lb (r1N m) 3)] 24); replace bw := bw.alloc bw.size (.cells #[.int .u64 (lb (r1N m) 0), .int .u64 (lb (r1N m) 1), .int .u64 (lb (r1N m) 2), .int .u64 (lb (r1N m) 3)] 24); generalize w1.heap.size = g_kr at *; generalize w1.alloc _ = W3 at *
      refine wp_region_kinds [9] 10 [(0, 0), (1, 0), (3, 0), (2, 0), (4, 0), (5, 1), (6, 1), (7, 1), (8, 2), (9, 2)] (by kernel_rfl) (by kernel_rfl) ?_
      (refine kind_firm (v := ?_) rfl ?_ ?_; rotate_left; (focus (intro K w' hg hK; have hc1 := (kr.drew.after hg).cell; go_simp; exact hK _ (Grow.refl _))); refine kinds_put (by (simp only [Act.put, List.setIfInBounds_toArray, List.set_cons_succ, List.set_cons_zero]; try rfl)) ?_)
      (refine kind_firm (v := ?_) rfl ?_ ?_; rotate_left; (focus (intro K w' hg hK; have hc1 := (kr.drew.after hg).cell; go_simp; exact hK _ (Grow.refl _))); refine kinds_put (by (simp only [Act.put, List.setIfInBounds_toArray, List.set_cons_succ, List.set_cons_zero]; try rfl)) ?_)
      (refine kind_firm (v := ?_) rfl ?_ ?_; rotate_left; (focus (intro K w' hg hK; have hc1 := (ka.drew.after hg).cell; go_simp; exact hK _ (Grow.refl _))); refine kinds_put (by (simp only [Act.put, List.setIfInBounds_toArray, List.set_cons_succ, List.set_cons_zero]; try rfl)) ?_)
      (refine kind_firm (v := ?_) rfl ?_ ?_; rotate_left; (focus (intro K w' hg hK; go_simp; refine Calls.mono (mul_any (r1N m) (r1N m) hl hl _) ?_; rintro e w'' ⟨rfl, hb⟩; refine ⟨_, rfl, ?_⟩; exact hK _ hb)); refine kinds_put (by (simp only [Act.put, List.setIfInBounds_toArray, List.set_cons_succ, List.set_cons_zero]; try rfl)) ?_)
      (refine kind_firm (v := ?_) rfl ?_ ?_; rotate_left; (focus (intro K w' hg hK; go_simp; refine Calls.mono (mod_R2 m hm (by omega) _) ?_; rintro e w'' ⟨rfl, hb⟩; refine ⟨_, rfl, ?_⟩; exact hK _ hb)); refine kinds_put (by (simp only [Act.put, List.setIfInBounds_toArray, List.set_cons_succ, List.set_cons_zero]; try rfl)) ?_)
      (refine kind_pure (v := ?_) rfl ?_ ?_; rotate_left; (focus (intro K w' hK; go_simp; exact hK)); refine kinds_put (by (simp only [Act.put, List.setIfInBounds_toArray, List.set_cons_succ, List.set_cons_zero]; try rfl)) ?_)
      (refine kind_pure (v := ?_) rfl ?_ ?_; rotate_left; (focus (intro K w' hK; go_simp; exact hK)); refine kinds_put (by (simp only [Act.put, List.setIfInBounds_toArray, List.set_cons_succ, List.set_cons_zero]; try rfl)) ?_)
      (refine kind_pure (v := ?_) rfl ?_ ?_; rotate_left; (focus (intro K w' hK; go_simp; exact hK)); refine kinds_put (by (simp only [Act.put, List.setIfInBounds_toArray, List.set_cons_succ, List.set_cons_zero]; try rfl)) ?_)
      (refine kind_loose rfl ?_; intro K wa1 ga1 hK; go_simp; refine hK _ _ (grow_alloc _ _) ?_; clear hK K)
      (refine kind_store rfl rfl ?_; intro K wb1 gb1 hK; have hs := new_num gb1; have sc := hs.cell; have sf := hs.frozen; go_simp; refine hK _ _ ?_; clear hK K)
      refine kind_end ?_
      intro w6 h6
      replace ka := put_num _ _ _ _ ka.drew ga1 gb1 h6
      have kp := put_new _ _ _ _ gb1 h6
      replace bw := put_below _ _ _ _ bw.drew bw.size ga1 gb1 h6
      obtain ⟨ka_c, ka_f, ka_l, ka_m, _⟩ := ka.knows
      obtain ⟨kp_c, kp_f, kp_l, kp_m, _⟩ := kp.knows
      clear sc sf hs h6 gb1 ga1
      go_wp2
      refine bodyPost_ret (v := .tuple #[.pointer (some ⟨w6.heap.size, 0, none⟩), .int .i64 0]) (by simp [results, Try.results70, go_sem]) rfl ?_
      exact ⟨_, rfl, Blk.new _ _ _, by go_grown⟩
end Go.Proofs.Ytlibfjemdiochaa
