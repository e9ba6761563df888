/- The two fields: their primes, how they lie in memory, and how they are made. Sums and differences of the two fields; which numbers are theirs. Products of the two fields; sums, differences, products and negatives as they are exported. -/
import Derived.Test.YtbmokmkaebfneaaV
import Derived.Test.YtbmokmkaebfneaaB
namespace Go.Proofs.Ytbmokmkaebfneaa
set_option linter.unusedVariables false
set_option linter.unusedSimpArgs false
open Go.RowKit

abbrev pC : Bool → Nat
  | true => 115792089237316195423570985008687907853269984665640564039457584007908834671663
  | false => 115792089237316195423570985008687907852837564279074904382605163141518161494337
abbrev rtC : Bool → Nat
  | true => 28948022309329048855892746252171976963317496166410141009864396001977208667916
  | false => 0
/-- The primes, and the exponents of roots. -/
theorem pN_is : ∃ f : Bool → Nat, ∀ b, f b = pC b := ⟨pC, fun _ => rfl⟩
noncomputable def pN : Bool → Nat := Classical.choose pN_is
theorem pN_def (b : Bool) : pN b = pC b := Classical.choose_spec pN_is b
theorem rtN_is : ∃ f : Bool → Nat, ∀ b, f b = rtC b := ⟨rtC, fun _ => rfl⟩
noncomputable def rtN : Bool → Nat := Classical.choose rtN_is
theorem rtN_def (b : Bool) : rtN b = rtC b := Classical.choose_spec rtN_is b
theorem pN_lt (b : Bool) : pN b < RR := by rw [pN_def]; unfold RR; cases b <;> decide
theorem pN_odd (b : Bool) : pN b % 2 = 1 := by rw [pN_def]; cases b <;> decide
theorem pN_one (b : Bool) : 1 < pN b := by rw [pN_def]; cases b <;> decide
theorem pN_high (b : Bool) : RR < 2 * pN b := by rw [pN_def]; unfold RR; cases b <;> decide
theorem rtN_lt (b : Bool) : rtN b < RR := by rw [rtN_def]; unfold RR; cases b <;> decide
theorem rt_base : rtN true = (pN true + 1) / 4 := by rw [rtN_def, pN_def]; decide
theorem rt_none : rtN false = 0 := by rw [rtN_def]
theorem lb_p (b : Bool) : lb (pN b) 0 = (if b then 18446744069414583343 else 13822214165235122497) ∧ lb (pN b) 1 = (if b then 18446744073709551615 else 13451932020343611451) ∧ lb (pN b) 2 = (if b then 18446744073709551615 else 18446744073709551614) ∧ lb (pN b) 3 = 18446744073709551615 := by
  rw [pN_def]; cases b <;> (simp only [lb_def, lbN]; decide)
theorem lb_rt (b : Bool) : lb (rtN b) 0 = (if b then 18446744072635809548 else 0) ∧ lb (rtN b) 1 = (if b then 18446744073709551615 else 0) ∧ lb (rtN b) 2 = (if b then 18446744073709551615 else 0) ∧ lb (rtN b) 3 = (if b then 4611686018427387903 else 0) := by
  rw [rtN_def]; cases b <;> (simp only [lb_def, lbN]; decide)
/-- A field in memory: its block, and its Montgomery way's. -/
def FieldB (w : World) (f b : Nat) (base : Bool) : Prop :=
  Blk w f 121 #[.int .u64 (lb (pN base) 0), .int .u64 (lb (pN base) 1), .int .u64 (lb (pN base) 2), .int .u64 (lb (pN base) 3), .pointer (some ⟨b, 0, none⟩), .int .u64 (lb (rtN base) 0), .int .u64 (lb (rtN base) 1), .int .u64 (lb (rtN base) 2), .int .u64 (lb (rtN base) 3)] ∧ MontB w b (pN base) (r2N (pN base)) (ivN (pN base))
theorem FieldB.lt {w : World} {f b : Nat} {base : Bool} (h : FieldB w f b base) : f < w.heap.size ∧ b < w.heap.size := ⟨h.1.lt, Blk.lt h.2⟩
theorem FieldB.after {w w1 : World} {f b : Nat} {base : Bool} (h : FieldB w f b base) (hb : Below w.heap.size w w1) : FieldB w1 f b base := ⟨h.1.after hb, h.2.below hb⟩
theorem FieldB.drew {w : World} {f b : Nat} {base : Bool} (h : FieldB w f b base) : FieldB w.drew f b base := ⟨h.1.drew, h.2⟩
theorem FieldB.alloc {w : World} {f b : Nat} {base : Bool} (h : FieldB w f b base) (o : Obj) : FieldB (w.alloc o) f b base := ⟨h.1.alloc o, Blk.alloc h.2 o⟩
theorem new_base (w : World) : Calls Try.prog 68 #[.agg #[.int .u64 18446744069414583343, .int .u64 18446744073709551615, .int .u64 18446744073709551615, .int .u64 18446744073709551615]] w fun e w' => ∃ g, e = .returned (.tuple #[.pointer (some ⟨g, 0, none⟩), .int .i64 0]) ∧ MontB w' g (pN true) (r2N (pN true)) (ivN (pN true)) ∧ Below w.heap.size w w' := by
  have h := newmont_any (pN true) (pN_lt _) (pN_odd _) (by have := pN_one true; omega) w
  unfold num at h
  rw [(lb_p true).1, (lb_p true).2.1, (lb_p true).2.2.1, (lb_p true).2.2.2] at h
  exact h
theorem new_scalars (w : World) : Calls Try.prog 68 #[.agg #[.int .u64 13822214165235122497, .int .u64 13451932020343611451, .int .u64 18446744073709551614, .int .u64 18446744073709551615]] w fun e w' => ∃ g, e = .returned (.tuple #[.pointer (some ⟨g, 0, none⟩), .int .i64 0]) ∧ MontB w' g (pN false) (r2N (pN false)) (ivN (pN false)) ∧ Below w.heap.size w w' := by
  have h := newmont_any (pN false) (pN_lt _) (pN_odd _) (by have := pN_one false; omega) w
  unfold num at h
  rw [(lb_p false).1, (lb_p false).2.1, (lb_p false).2.2.1, (lb_p false).2.2.2] at h
  exact h
set_option maxHeartbeats 2000000 in
theorem scalars_any (w : World) : Calls Try.prog 46 #[] w fun e w' => ∃ f b, e = .returned (.pointer (some ⟨f, 0, none⟩)) ∧ FieldB w' f b false ∧ Below w.heap.size w w' := by
  go_enter Try.func46, Try.ntmps46
  go_wp2_with fail; (with_reducible refine (new_scalars _).mono ?_); rintro e w1 ⟨g, rfl, hM, h1⟩; have km := (Blk.newAt (n := w.heap.size) _ _ _ (by first | rfl | simp)).after h1; have bw := below_call h1 (w := w) (by go_grown); obtain ⟨km_c, km_f, km_l, km_m, _⟩ := km.knows
  go_wp2
  go_ret
  refine ⟨_, g, rfl, ⟨?_, Blk.alloc hM _⟩, by go_grown⟩
  rw [(lb_p false).1, (lb_p false).2.1, (lb_p false).2.2.1, (lb_p false).2.2.2, (lb_rt false).1, (lb_rt false).2.1, (lb_rt false).2.2.1, (lb_rt false).2.2.2]
  exact Blk.new _ _ _
end Go.Proofs.Ytbmokmkaebfneaa
namespace Go.Proofs.Ytbmokmkaebfneaa
set_option linter.unusedVariables false
set_option linter.unusedSimpArgs false
open Go.RowKit

theorem chkN_is : ∃ f : Bool → Nat → Int, ∀ b a, f b a = if a < pN b then 0 else 20 := ⟨fun b a => if a < pN b then 0 else 20, fun _ _ => rfl⟩
noncomputable def chkN : Bool → Nat → Int := Classical.choose chkN_is
theorem chkN_def (b : Bool) (a : Nat) : chkN b a = if a < pN b then 0 else 20 := Classical.choose_spec chkN_is b a
theorem fadN_is : ∃ f : Bool → Nat → Nat → Nat, ∀ b x y, f b x y = (x + y) % pN b := ⟨fun b x y => (x + y) % pN b, fun _ _ _ => rfl⟩
/-- A sum of the field. -/
noncomputable def fadN : Bool → Nat → Nat → Nat := Classical.choose fadN_is
theorem fadN_def (b : Bool) (x y : Nat) : fadN b x y = (x + y) % pN b := Classical.choose_spec fadN_is b x y
theorem fsbN_is : ∃ f : Bool → Nat → Nat → Nat, ∀ b x y, f b x y = (x + pN b - y) % pN b := ⟨fun b x y => (x + pN b - y) % pN b, fun _ _ _ => rfl⟩
/-- A difference of the field. -/
noncomputable def fsbN : Bool → Nat → Nat → Nat := Classical.choose fsbN_is
theorem fsbN_def (b : Bool) (x y : Nat) : fsbN b x y = (x + pN b - y) % pN b := Classical.choose_spec fsbN_is b x y
theorem pN_pos (b : Bool) : 0 < pN b := by have := pN_one b; omega
theorem fadN_lt (b : Bool) (x y : Nat) : fadN b x y < pN b := by rw [fadN_def]; exact Nat.mod_lt _ (pN_pos b)
theorem fsbN_lt (b : Bool) (x y : Nat) : fsbN b x y < pN b := by rw [fsbN_def]; exact Nat.mod_lt _ (pN_pos b)
theorem lt_RR {b : Bool} {x : Nat} (h : x < pN b) : x < RR := Nat.lt_trans h (pN_lt b)
theorem plus_pick (b : Bool) (x y : Nat) (hx : x < pN b) (hy : y < pN b) :
    selN (bits .or .u64 (ca x y 4) (1 - bo (addN x y) (pN b) 4)) (subN (addN x y) (pN b)) (addN x y) = fadN b x y := by
  have hm := pN_lt b
  have c := ca_four x y (lt_RR hx) (lt_RR hy)
  have c0 := ca_lo x y 4
  have c1 := ca_hi x y 4
  have b0 := bo_lo (addN x y) (pN b) 4
  have b1 := bo_hi (addN x y) (pN b) 4
  rw [fadN_def]
  refine final_sub (x + y) ((x + y) / RR) _ _ hm (by omega) (addN_lt _ _) ?_ _ rfl _ ?_
  · rw [addN_def, Nat.mul_comm]; exact (Nat.div_add_mod _ _).symm
  · rw [or_parity _ _ (by omega) (by omega), c]
    by_cases h : (x + y) / RR = 1
    · rw [if_pos (by omega), if_pos h]
    · rw [if_neg (by omega), if_neg h]
theorem minus_pick (b : Bool) (x y : Nat) (hx : x < pN b) (hy : y < pN b) : selN (bo x y 4) (addN (subN x y) (pN b)) (subN x y) = fsbN b x y := by
  have hm := pN_lt b
  have c := bo_four x y (lt_RR hx) (lt_RR hy)
  rw [selN_def, fsbN_def, addN_def, subN_def, c]
  generalize pN b = p at *
  by_cases h : x < y
  · rw [if_pos h, if_pos (by decide), Nat.mod_eq_of_lt (show x + RR - y < RR by omega), show x + RR - y + p = x + p - y + RR by omega, Nat.add_mod_right, Nat.mod_eq_of_lt (show x + p - y < RR by omega), Nat.mod_eq_of_lt (by omega)]
  · rw [if_neg h, if_neg (by decide), show x + RR - y = x - y + RR by omega, Nat.add_mod_right, Nat.mod_eq_of_lt (show x - y < RR by omega), show x + p - y = x - y + p by omega, Nat.add_mod_right, Nat.mod_eq_of_lt (by omega)]
set_option maxHeartbeats 2000000 in
theorem check_any {base : Bool} {f g : Nat} (a : Nat) {w : World} (hF : FieldB w f g base) (ha : a < RR) : Calls Try.prog 71 #[.pointer (some ⟨f, 0, none⟩), num a] w fun e w' => e = .returned (.int .i64 (chkN base a)) ∧ Below w.heap.size w w' := by
  have hm := pN_lt base
  by_cases h : a < pN base
  · have cN : decide (0 ≤ cmpN a (pN base)) = false := by rw [cmpN_def, if_pos h]; rfl
    have cP : ¬ 0 ≤ cmpN a (pN base) := of_decide_eq_false cN
    rw [chkN_def, if_pos h]
    go_enter Try.func71, Try.ntmps71
    go_upto_region 3 with (fail)
    have ka := Blk.new w 24 #[.int .u64 (lb (a) 0), .int .u64 (lb (a) 1), .int .u64 (lb (a) 2), .int .u64 (lb (a) 3)]
    have kF := hF.1.alloc (.cells #[.int .u64 (lb (a) 0), .int .u64 (lb (a) 1), .int .u64 (lb (a) 2), .int .u64 (lb (a) 3)] 24)
    have bw : Below w.heap.size w (w.alloc (.cells #[.int .u64 (lb (a) 0), .int .u64 (lb (a) 1), .int .u64 (lb (a) 2), .int .u64 (lb (a) 3)] 24)) := by go_grown
    generalize w.alloc (.cells #[.int .u64 (lb (a) 0), .int .u64 (lb (a) 1), .int .u64 (lb (a) 2), .int .u64 (lb (a) 3)] 24) = W1 at *
    refine wp_region_kinds [] 7 [(0, 0), (1, 0), (2, 0), (3, 0), (4, 0), (5, 0), (6, 1)] (by kernel_rfl) (by kernel_rfl) ?_
    (refine kind_firm (v := ?_) rfl ?_ ?_; rotate_left; (focus (intro K w' hg hK; have hc1 := (ka.drew.after hg).cell; go_simp; exact hK _ (Grow.refl _))); refine kinds_put (by (simp only [Act.put, List.setIfInBounds_toArray, List.set_cons_succ, List.set_cons_zero]; try rfl)) ?_)
    (refine kind_firm (v := ?_) rfl ?_ ?_; rotate_left; (focus (intro K w' hg hK; go_simp; exact hK _ (Grow.refl _))); refine kinds_put (by (simp only [Act.put, List.setIfInBounds_toArray, List.set_cons_succ, List.set_cons_zero]; try rfl)) ?_)
    (refine kind_firm (v := ?_) rfl ?_ ?_; rotate_left; (focus (intro K w' hg hK; go_simp; exact hK _ (Grow.refl _))); refine kinds_put (by (simp only [Act.put, List.setIfInBounds_toArray, List.set_cons_succ, List.set_cons_zero]; try rfl)) ?_)
    (refine kind_firm (v := ?_) rfl ?_ ?_; rotate_left; (focus (intro K w' hg hK; go_simp; exact hK _ (Grow.refl _))); refine kinds_put (by (simp only [Act.put, List.setIfInBounds_toArray, List.set_cons_succ, List.set_cons_zero]; try rfl)) ?_)
    (refine kind_firm (v := ?_) rfl ?_ ?_; rotate_left; (focus (intro K w' hg hK; have hc1 := (kF.drew.after hg).cell; go_simp; exact hK _ (Grow.refl _))); refine kinds_put (by (simp only [Act.put, List.setIfInBounds_toArray, List.set_cons_succ, List.set_cons_zero]; try rfl)) ?_)
    (refine kind_firm (v := ?_) rfl ?_ ?_; rotate_left; (focus (intro K w' hg hK; go_simp; refine Calls.mono (cmp_any a (pN base) ha hm _) ?_; rintro e w'' ⟨rfl, hb⟩; refine ⟨_, rfl, ?_⟩; exact hK _ hb)); refine kinds_put (by (simp only [Act.put, List.setIfInBounds_toArray, List.set_cons_succ, List.set_cons_zero]; try rfl)) ?_)
    (refine kind_pure (v := ?_) rfl ?_ ?_; rotate_left; (focus (intro K w' hK; go_simp; exact hK)); refine kinds_put (by (simp only [Act.put, List.setIfInBounds_toArray, List.set_cons_succ, List.set_cons_zero]; try rfl)) ?_)
    refine kind_end ?_
    intro w6 h6
    replace bw := below_call h6 bw.drew
    go_wp2
    go_ret
    exact ⟨rfl, by go_grown⟩
  · have cN : decide (0 ≤ cmpN a (pN base)) = true := by rw [cmpN_def, if_neg h]; split <;> rfl
    have cP : 0 ≤ cmpN a (pN base) := of_decide_eq_true cN
    rw [chkN_def, if_neg h]
    go_enter Try.func71, Try.ntmps71
    go_upto_region 3 with (fail)
    have ka := Blk.new w 24 #[.int .u64 (lb (a) 0), .int .u64 (lb (a) 1), .int .u64 (lb (a) 2), .int .u64 (lb (a) 3)]
    have kF := hF.1.alloc (.cells #[.int .u64 (lb (a) 0), .int .u64 (lb (a) 1), .int .u64 (lb (a) 2), .int .u64 (lb (a) 3)] 24)
    have bw : Below w.heap.size w (w.alloc (.cells #[.int .u64 (lb (a) 0), .int .u64 (lb (a) 1), .int .u64 (lb (a) 2), .int .u64 (lb (a) 3)] 24)) := by go_grown
    generalize w.alloc (.cells #[.int .u64 (lb (a) 0), .int .u64 (lb (a) 1), .int .u64 (lb (a) 2), .int .u64 (lb (a) 3)] 24) = W1 at *
    refine wp_region_kinds [] 7 [(0, 0), (1, 0), (2, 0), (3, 0), (4, 0), (5, 0), (6, 1)] (by kernel_rfl) (by kernel_rfl) ?_
    (refine kind_firm (v := ?_) rfl ?_ ?_; rotate_left; (focus (intro K w' hg hK; have hc1 := (ka.drew.after hg).cell; go_simp; exact hK _ (Grow.refl _))); refine kinds_put (by (simp only [Act.put, List.setIfInBounds_toArray, List.set_cons_succ, List.set_cons_zero]; try rfl)) ?_)
    (refine kind_firm (v := ?_) rfl ?_ ?_; rotate_left; (focus (intro K w' hg hK; go_simp; exact hK _ (Grow.refl _))); refine kinds_put (by (simp only [Act.put, List.setIfInBounds_toArray, List.set_cons_succ, List.set_cons_zero]; try rfl)) ?_)
    (refine kind_firm (v := ?_) rfl ?_ ?_; rotate_left; (focus (intro K w' hg hK; go_simp; exact hK _ (Grow.refl _))); refine kinds_put (by (simp only [Act.put, List.setIfInBounds_toArray, List.set_cons_succ, List.set_cons_zero]; try rfl)) ?_)
    (refine kind_firm (v := ?_) rfl ?_ ?_; rotate_left; (focus (intro K w' hg hK; go_simp; exact hK _ (Grow.refl _))); refine kinds_put (by (simp only [Act.put, List.setIfInBounds_toArray, List.set_cons_succ, List.set_cons_zero]; try rfl)) ?_)
    (refine kind_firm (v := ?_) rfl ?_ ?_; rotate_left; (focus (intro K w' hg hK; have hc1 := (kF.drew.after hg).cell; go_simp; exact hK _ (Grow.refl _))); refine kinds_put (by (simp only [Act.put, List.setIfInBounds_toArray, List.set_cons_succ, List.set_cons_zero]; try rfl)) ?_)
    (refine kind_firm (v := ?_) rfl ?_ ?_; rotate_left; (focus (intro K w' hg hK; go_simp; refine Calls.mono (cmp_any a (pN base) ha hm _) ?_; rintro e w'' ⟨rfl, hb⟩; refine ⟨_, rfl, ?_⟩; exact hK _ hb)); refine kinds_put (by (simp only [Act.put, List.setIfInBounds_toArray, List.set_cons_succ, List.set_cons_zero]; try rfl)) ?_)
    (refine kind_pure (v := ?_) rfl ?_ ?_; rotate_left; (focus (intro K w' hK; go_simp; exact hK)); refine kinds_put (by (simp only [Act.put, List.setIfInBounds_toArray, List.set_cons_succ, List.set_cons_zero]; try rfl)) ?_)
    refine kind_end ?_
    intro w6 h6
    replace bw := below_call h6 bw.drew
    go_wp2
    go_ret
    exact ⟨rfl, by go_grown⟩
set_option maxHeartbeats 2000000 in
theorem fplus_any {base : Bool} {f g : Nat} (a b : Nat) {w : World} (hF : FieldB w f g base) (ha : a < pN base) (hb : b < pN base) : Calls Try.prog 70 #[.pointer (some ⟨f, 0, none⟩), num a, num b] w fun e w' => e = .returned (num (fadN base a b)) ∧ Below w.heap.size w w' := by
  have hm := pN_lt base
  have pk := plus_pick base a b ha hb
  have c0 := ca_lo a b 4
  have c1 := ca_hi a b 4
  have b0 := bo_lo (addN a b) (pN base) 4
  have b1 := bo_hi (addN a b) (pN base) 4
  have ob := or_bounds (ca a b 4) (bo (addN a b) (pN base) 4) (by omega) (by omega)
  have hwr : IntKind.u64.wrap (1 - bo (addN a b) (pN base) 4) = 1 - bo (addN a b) (pN base) 4 := IntWalk.u64_in _ (by omega)
  go_enter Try.func70, Try.ntmps70
  go_wp2_with fail; (with_reducible refine (add_any a b _).mono ?_); rintro e w1 ⟨rfl, h1⟩; have ka := (((Blk.newAt (n := w.heap.size) _ _ _ (by first | rfl | simp)).alloc _).alloc _).after h1; have kb := ((Blk.newAt (n := w.heap.size + 1) _ _ _ (by first | rfl | simp)).alloc _).after h1; have kq := (Blk.newAt (n := w.heap.size + 1 + 1) _ _ _ (by first | rfl | simp)).after h1; have bw := below_call h1 (w := w) (by go_grown); obtain ⟨ka_c, ka_f, ka_l, ka_m, _⟩ := ka.knows; obtain ⟨kb_c, kb_f, kb_l, kb_m, _⟩ := kb.knows; obtain ⟨kq_c, kq_f, kq_l, kq_m, _⟩ := kq.knows
  go_upto_region 2 with (fail)
  clear ka_c ka_f ka_l ka_m kb_c kb_f kb_l kb_m kq_c kq_f kq_l kq_m
  have ks := Blk.new w1 24 #[.int .u64 (lb (addN a b) 0), .int .u64 (lb (addN a b) 1), .int .u64 (lb (addN a b) 2), .int .u64 (lb (addN a b) 3)]; replace ka := ka.alloc (.cells #[.int .u64 (lb (addN a b) 0), .int .u64 (lb (addN a b) 1), .int .u64 (lb (addN a b) 2), .int .u64 (lb (addN a b) 3)] 24); replace kb := kb.alloc (.cells #[.int .u64 (lb (addN a b) 0), .int .u64 (lb (addN a b) 1), .int .u64 (lb (addN a b) 2), .int .u64 (lb (addN a b) 3)] 24); replace kq := kq.alloc (.cells #[.int .u64 (lb (addN a b) 0), .int .u64 (lb (addN a b) 1), .int .u64 (lb (addN a b) 2), .int .u64 (lb (addN a b) 3)] 24); replace bw := bw.alloc bw.size (.cells #[.int .u64 (lb (addN a b) 0), .int .u64 (lb (addN a b) 1), .int .u64 (lb (addN a b) 2), .int .u64 (lb (addN a b) 3)] 24); generalize w1.heap.size = g_ks at *; generalize w1.alloc _ = W3 at *
  have kF := (hF.after bw).1
  refine wp_region_kinds [10] 11 [(0, 0), (1, 0), (2, 0), (3, 0), (4, 0), (5, 0), (6, 1), (7, 1), (8, 1), (9, 2), (10, 2)] (by kernel_rfl) (by kernel_rfl) ?_
  (refine kind_firm (v := ?_) rfl ?_ ?_; rotate_left; (focus (intro K w' hg hK; have hc1 := (ks.drew.after hg).cell; go_simp; exact hK _ (Grow.refl _))); refine kinds_put (by (simp only [Act.put, List.setIfInBounds_toArray, List.set_cons_succ, List.set_cons_zero]; try rfl)) ?_)
  (refine kind_firm (v := ?_) rfl ?_ ?_; rotate_left; (focus (intro K w' hg hK; go_simp; exact hK _ (Grow.refl _))); refine kinds_put (by (simp only [Act.put, List.setIfInBounds_toArray, List.set_cons_succ, List.set_cons_zero]; try rfl)) ?_)
  (refine kind_firm (v := ?_) rfl ?_ ?_; rotate_left; (focus (intro K w' hg hK; go_simp; exact hK _ (Grow.refl _))); refine kinds_put (by (simp only [Act.put, List.setIfInBounds_toArray, List.set_cons_succ, List.set_cons_zero]; try rfl)) ?_)
  (refine kind_firm (v := ?_) rfl ?_ ?_; rotate_left; (focus (intro K w' hg hK; go_simp; exact hK _ (Grow.refl _))); refine kinds_put (by (simp only [Act.put, List.setIfInBounds_toArray, List.set_cons_succ, List.set_cons_zero]; try rfl)) ?_)
  (refine kind_firm (v := ?_) rfl ?_ ?_; rotate_left; (focus (intro K w' hg hK; have hc1 := (kF.drew.after hg).cell; go_simp; exact hK _ (Grow.refl _))); refine kinds_put (by (simp only [Act.put, List.setIfInBounds_toArray, List.set_cons_succ, List.set_cons_zero]; try rfl)) ?_)
  (refine kind_firm (v := ?_) rfl ?_ ?_; rotate_left; (focus (intro K w' hg hK; go_simp; refine Calls.mono (sub_any (addN a b) (pN base) hm _) ?_; rintro e w'' ⟨rfl, hb⟩; refine ⟨_, rfl, ?_⟩; exact hK _ hb)); refine kinds_put (by (simp only [Act.put, List.setIfInBounds_toArray, List.set_cons_succ, List.set_cons_zero]; try rfl)) ?_)
  (refine kind_pure (v := ?_) rfl ?_ ?_; rotate_left; (focus (intro K w' hK; go_simp; exact hK)); refine kinds_put (by (simp only [Act.put, List.setIfInBounds_toArray, List.set_cons_succ, List.set_cons_zero]; try rfl)) ?_)
  (refine kind_pure (v := ?_) rfl ?_ ?_; rotate_left; (focus (intro K w' hK; go_simp; exact hK)); refine kinds_put (by (simp only [Act.put, List.setIfInBounds_toArray, List.set_cons_succ, List.set_cons_zero]; try rfl)) ?_)
  (refine kind_pure (v := ?_) rfl ?_ ?_; rotate_left; (focus (intro K w' hK; go_simp; exact hK)); refine kinds_put (by (simp only [Act.put, List.setIfInBounds_toArray, List.set_cons_succ, List.set_cons_zero]; try rfl)) ?_)
  (refine kind_loose rfl ?_; intro K wa1 ga1 hK; go_simp; refine hK _ _ (grow_alloc _ _) ?_; clear hK K)
  (refine kind_store rfl rfl ?_; intro K wb1 gb1 hK; have hs := new_num gb1; have sc := hs.cell; have sf := hs.frozen; go_simp; refine hK _ _ ?_; clear hK K)
  refine kind_end ?_
  intro w6 h6
  replace kq := put_num _ _ _ _ kq.drew ga1 gb1 h6
  replace ks := put_num _ _ _ _ ks.drew ga1 gb1 h6
  have kd := put_new _ _ _ _ gb1 h6
  replace bw := put_below _ _ _ _ bw.drew bw.size ga1 gb1 h6
  clear sc sf hs h6 gb1 ga1 ka kb kF
  obtain ⟨kq_c, kq_f, kq_l, kq_m, _⟩ := kq.knows
  obtain ⟨ks_c, ks_f, ks_l, ks_m, _⟩ := ks.knows
  obtain ⟨kd_c, kd_f, kd_l, kd_m, _⟩ := kd.knows
  go_wp2_with fail
  (with_reducible refine (select_any (bits .or .u64 (ca a b 4) (1 - bo (addN a b) (pN base) 4)) (subN (addN a b) (pN base)) (addN a b) ob.1 ob.2 _).mono ?_)
  rintro e w7 ⟨rfl, h7⟩
  rw [pk]
  clear kq_c kq_f kq_l kq_m ks_c ks_f ks_l ks_m kd_c kd_f kd_l kd_m
  replace kq := kq.after h7
  replace bw := below_call h7 bw
  clear h7 ks kd
  obtain ⟨kq_c, kq_f, kq_l, kq_m, _⟩ := kq.knows
  go_wp2
  have kf := (kq.put4 (.int .u64 (lb (fadN base a b) 0)) (.int .u64 (lb (fadN base a b) 1)) (.int .u64 (lb (fadN base a b) 2)) (.int .u64 (lb (fadN base a b) 3))).knows
  obtain ⟨kf_c, kf_f, kf_l, _⟩ := kf
  refine bodyPost_ret (v := num (fadN base a b)) (by simp [results, Try.results70, go_sem, kf_c, kf_l]) rfl ?_
  exact ⟨rfl, by go_grown⟩
set_option maxHeartbeats 2000000 in
theorem fminus_any {base : Bool} {f g : Nat} (a b : Nat) {w : World} (hF : FieldB w f g base) (ha : a < pN base) (hb : b < pN base) : Calls Try.prog 72 #[.pointer (some ⟨f, 0, none⟩), num a, num b] w fun e w' => e = .returned (num (fsbN base a b)) ∧ Below w.heap.size w w' := by
  have hm := pN_lt base
  have pk := minus_pick base a b ha hb
  have b0 := bo_lo a b 4
  have b1 := bo_hi a b 4
  go_enter Try.func72, Try.ntmps72
  go_wp2_with fail; (with_reducible refine (sub_any a b (lt_RR hb) _).mono ?_); rintro e w1 ⟨rfl, h1⟩; have ka := (((Blk.newAt (n := w.heap.size) _ _ _ (by first | rfl | simp)).alloc _).alloc _).after h1; have kb := ((Blk.newAt (n := w.heap.size + 1) _ _ _ (by first | rfl | simp)).alloc _).after h1; have kq := (Blk.newAt (n := w.heap.size + 1 + 1) _ _ _ (by first | rfl | simp)).after h1; have bw := below_call h1 (w := w) (by go_grown); obtain ⟨ka_c, ka_f, ka_l, ka_m, _⟩ := ka.knows; obtain ⟨kb_c, kb_f, kb_l, kb_m, _⟩ := kb.knows; obtain ⟨kq_c, kq_f, kq_l, kq_m, _⟩ := kq.knows
  go_upto_region 2 with (fail)
  clear ka_c ka_f ka_l ka_m kb_c kb_f kb_l kb_m kq_c kq_f kq_l kq_m
  have ks := Blk.new w1 24 #[.int .u64 (lb (subN a b) 0), .int .u64 (lb (subN a b) 1), .int .u64 (lb (subN a b) 2), .int .u64 (lb (subN a b) 3)]; replace ka := ka.alloc (.cells #[.int .u64 (lb (subN a b) 0), .int .u64 (lb (subN a b) 1), .int .u64 (lb (subN a b) 2), .int .u64 (lb (subN a b) 3)] 24); replace kb := kb.alloc (.cells #[.int .u64 (lb (subN a b) 0), .int .u64 (lb (subN a b) 1), .int .u64 (lb (subN a b) 2), .int .u64 (lb (subN a b) 3)] 24); replace kq := kq.alloc (.cells #[.int .u64 (lb (subN a b) 0), .int .u64 (lb (subN a b) 1), .int .u64 (lb (subN a b) 2), .int .u64 (lb (subN a b) 3)] 24); replace bw := bw.alloc bw.size (.cells #[.int .u64 (lb (subN a b) 0), .int .u64 (lb (subN a b) 1), .int .u64 (lb (subN a b) 2), .int .u64 (lb (subN a b) 3)] 24); generalize w1.heap.size = g_ks at *; generalize w1.alloc _ = W3 at *
  have kF := (hF.after bw).1
  refine wp_region_kinds [10] 11 [(0, 0), (1, 0), (2, 0), (3, 0), (4, 0), (5, 0), (6, 1), (7, 1), (8, 1), (9, 2), (10, 2)] (by kernel_rfl) (by kernel_rfl) ?_
  (refine kind_firm (v := ?_) rfl ?_ ?_; rotate_left; (focus (intro K w' hg hK; have hc1 := (ks.drew.after hg).cell; go_simp; exact hK _ (Grow.refl _))); refine kinds_put (by (simp only [Act.put, List.setIfInBounds_toArray, List.set_cons_succ, List.set_cons_zero]; try rfl)) ?_)
  (refine kind_firm (v := ?_) rfl ?_ ?_; rotate_left; (focus (intro K w' hg hK; go_simp; exact hK _ (Grow.refl _))); refine kinds_put (by (simp only [Act.put, List.setIfInBounds_toArray, List.set_cons_succ, List.set_cons_zero]; try rfl)) ?_)
  (refine kind_firm (v := ?_) rfl ?_ ?_; rotate_left; (focus (intro K w' hg hK; go_simp; exact hK _ (Grow.refl _))); refine kinds_put (by (simp only [Act.put, List.setIfInBounds_toArray, List.set_cons_succ, List.set_cons_zero]; try rfl)) ?_)
  (refine kind_firm (v := ?_) rfl ?_ ?_; rotate_left; (focus (intro K w' hg hK; go_simp; exact hK _ (Grow.refl _))); refine kinds_put (by (simp only [Act.put, List.setIfInBounds_toArray, List.set_cons_succ, List.set_cons_zero]; try rfl)) ?_)
  (refine kind_firm (v := ?_) rfl ?_ ?_; rotate_left; (focus (intro K w' hg hK; have hc1 := (kF.drew.after hg).cell; go_simp; exact hK _ (Grow.refl _))); refine kinds_put (by (simp only [Act.put, List.setIfInBounds_toArray, List.set_cons_succ, List.set_cons_zero]; try rfl)) ?_)
  (refine kind_firm (v := ?_) rfl ?_ ?_; rotate_left; (focus (intro K w' hg hK; go_simp; refine Calls.mono (add_any (subN a b) (pN base) _) ?_; rintro e w'' ⟨rfl, hb⟩; refine ⟨_, rfl, ?_⟩; exact hK _ hb)); refine kinds_put (by (simp only [Act.put, List.setIfInBounds_toArray, List.set_cons_succ, List.set_cons_zero]; try rfl)) ?_)
  (refine kind_pure (v := ?_) rfl ?_ ?_; rotate_left; (focus (intro K w' hK; go_simp; exact hK)); refine kinds_put (by (simp only [Act.put, List.setIfInBounds_toArray, List.set_cons_succ, List.set_cons_zero]; try rfl)) ?_)
  (refine kind_pure (v := ?_) rfl ?_ ?_; rotate_left; (focus (intro K w' hK; go_simp; exact hK)); refine kinds_put (by (simp only [Act.put, List.setIfInBounds_toArray, List.set_cons_succ, List.set_cons_zero]; try rfl)) ?_)
  (refine kind_pure (v := ?_) rfl ?_ ?_; rotate_left; (focus (intro K w' hK; go_simp; exact hK)); refine kinds_put (by (simp only [Act.put, List.setIfInBounds_toArray, List.set_cons_succ, List.set_cons_zero]; try rfl)) ?_)
  (refine kind_loose rfl ?_; intro K wa1 ga1 hK; go_simp; refine hK _ _ (grow_alloc _ _) ?_; clear hK K)
  (refine kind_store rfl rfl ?_; intro K wb1 gb1 hK; have hs := new_num gb1; have sc := hs.cell; have sf := hs.frozen; go_simp; refine hK _ _ ?_; clear hK K)
  refine kind_end ?_
  intro w6 h6
  replace kq := put_num _ _ _ _ kq.drew ga1 gb1 h6
  replace ks := put_num _ _ _ _ ks.drew ga1 gb1 h6
  have kd := put_new _ _ _ _ gb1 h6
  replace bw := put_below _ _ _ _ bw.drew bw.size ga1 gb1 h6
  clear sc sf hs h6 gb1 ga1 ka kb kF
  obtain ⟨kq_c, kq_f, kq_l, kq_m, _⟩ := kq.knows
  obtain ⟨ks_c, ks_f, ks_l, ks_m, _⟩ := ks.knows
  obtain ⟨kd_c, kd_f, kd_l, kd_m, _⟩ := kd.knows
  go_wp2_with fail
  (with_reducible refine (select_any (bo a b 4) (addN (subN a b) (pN base)) (subN a b) b0 (by omega) _).mono ?_)
  rintro e w7 ⟨rfl, h7⟩
  rw [pk]
  clear kq_c kq_f kq_l kq_m ks_c ks_f ks_l ks_m kd_c kd_f kd_l kd_m
  replace kq := kq.after h7
  replace bw := below_call h7 bw
  clear h7 ks kd
  obtain ⟨kq_c, kq_f, kq_l, kq_m, _⟩ := kq.knows
  go_wp2
  have kf := (kq.put4 (.int .u64 (lb (fsbN base a b) 0)) (.int .u64 (lb (fsbN base a b) 1)) (.int .u64 (lb (fsbN base a b) 2)) (.int .u64 (lb (fsbN base a b) 3))).knows
  obtain ⟨kf_c, kf_f, kf_l, _⟩ := kf
  refine bodyPost_ret (v := num (fsbN base a b)) (by simp [results, Try.results72, go_sem, kf_c, kf_l]) rfl ?_
  exact ⟨rfl, by go_grown⟩
end Go.Proofs.Ytbmokmkaebfneaa
namespace Go.Proofs.Ytbmokmkaebfneaa
set_option linter.unusedVariables false
set_option linter.unusedSimpArgs false
open Go.RowKit

theorem fmlN_is : ∃ f : Bool → Nat → Nat → Nat, ∀ b x y, f b x y = x * y % pN b := ⟨fun b x y => x * y % pN b, fun _ _ _ => rfl⟩
/-- A product of the field. -/
noncomputable def fmlN : Bool → Nat → Nat → Nat := Classical.choose fmlN_is
theorem fmlN_def (b : Bool) (x y : Nat) : fmlN b x y = x * y % pN b := Classical.choose_spec fmlN_is b x y
theorem fmlN_lt (b : Bool) (x y : Nat) : fmlN b x y < pN b := by rw [fmlN_def]; exact Nat.mod_lt _ (pN_pos b)
theorem r2p_lt (b : Bool) : r2N (pN b) < RR := by rw [r2N_def]; exact Nat.lt_trans (Nat.mod_lt _ (pN_pos b)) (pN_lt b)
/-- A number in Montgomery's form. -/
theorem tfN_is : ∃ f : Bool → Nat → Nat, ∀ b x, f b x = toN (pN b) x := ⟨fun b x => toN (pN b) x, fun _ _ => rfl⟩
noncomputable def tfN : Bool → Nat → Nat := Classical.choose tfN_is
theorem tfN_def (b : Bool) (x : Nat) : tfN b x = toN (pN b) x := Classical.choose_spec tfN_is b x
theorem tfN_lt (b : Bool) (x : Nat) : tfN b x < pN b := by rw [tfN_def]; exact toN_lt _ _ (pN_pos b)
section
variable {base : Bool} {f g : Nat} {w : World} (hF : FieldB w f g base)
include hF
theorem way_to (x : Nat) (h : x < pN base) : Calls Try.prog 88 #[.pointer (some ⟨g, 0, none⟩), num x] w fun e w' => e = .returned (.tuple #[num (tfN base x), .int .i64 0]) ∧ Below w.heap.size w w' := by
  have h1 := mto_yes g (pN base) (r2N (pN base)) w hF.2 (pN_lt base) x (lt_RR h) (pN_odd base) (r2p_lt base) h
  have e : redN (pN base) (mulN x (r2N (pN base))) = tfN base x := by rw [mulN_def, r2N_def, tfN_def]; exact redN_to _ x (pN_odd base)
  rw [e] at h1
  exact h1
theorem way_times (x y : Nat) (hy : y < pN base) : Calls Try.prog 89 #[.pointer (some ⟨g, 0, none⟩), num (tfN base x), num y] w fun e w' => e = .returned (.tuple #[num (fmlN base x y), .int .i64 0]) ∧ Below w.heap.size w w' := by
  have h1 := mmul_yes g (pN base) (r2N (pN base)) w hF.2 (pN_lt base) (tfN base x) y (lt_RR (tfN_lt base x)) (lt_RR hy) (pN_odd base) (tfN_lt base x) hy
  have e : redN (pN base) (mulN (tfN base x) y) = fmlN base x y := by rw [mulN_def, fmlN_def, tfN_def]; exact redN_times _ x y (pN_odd base)
  rw [e] at h1
  exact h1
theorem way_mul (x y : Nat) : Calls Try.prog 89 #[.pointer (some ⟨g, 0, none⟩), num (tfN base x), num (tfN base y)] w fun e w' => e = .returned (.tuple #[num (tfN base (fmlN base x y)), .int .i64 0]) ∧ Below w.heap.size w w' := by
  have h1 := mmul_yes g (pN base) (r2N (pN base)) w hF.2 (pN_lt base) (tfN base x) (tfN base y) (lt_RR (tfN_lt base x)) (lt_RR (tfN_lt base y)) (pN_odd base) (tfN_lt base x) (tfN_lt base y)
  have e : redN (pN base) (mulN (tfN base x) (tfN base y)) = tfN base (fmlN base x y) := by
    rw [mulN_def, fmlN_def, tfN_def, tfN_def, tfN_def, redN_tos _ x y (pN_odd base), toN_def, toN_def, Nat.mod_mul_mod]
  rw [e] at h1
  exact h1
theorem way_from (x : Nat) (hx : x < pN base) : Calls Try.prog 91 #[.pointer (some ⟨g, 0, none⟩), num (tfN base x)] w fun e w' => e = .returned (.tuple #[num x, .int .i64 0]) ∧ Below w.heap.size w w' := by
  have h1 := mfrom_yes g (pN base) (r2N (pN base)) w hF.2 (pN_lt base) (tfN base x) (lt_RR (tfN_lt base x)) (pN_odd base) (tfN_lt base x)
  have e : redN (pN base) (tfN base x) = x := by rw [tfN_def]; exact redN_back _ x (pN_odd base) hx
  rw [e] at h1
  exact h1
set_option maxHeartbeats 4000000 in
theorem ftimes_any (a b : Nat) (ha : a < pN base) (hb : b < pN base) : Calls Try.prog 75 #[.pointer (some ⟨f, 0, none⟩), num a, num b] w fun e w' => e = .returned (num (fmlN base a b)) ∧ Below w.heap.size w w' := by
  have fl := hF.lt.1
  go_enter Try.func75, Try.ntmps75
  go_upto_region 1 with (fail)
  have ka := ((Blk.newAt (n := w.heap.size) w 24 #[.int .u64 (lb (a) 0), .int .u64 (lb (a) 1), .int .u64 (lb (a) 2), .int .u64 (lb (a) 3)] rfl).alloc (.cells #[.int .u64 (lb (b) 0), .int .u64 (lb (b) 1), .int .u64 (lb (b) 2), .int .u64 (lb (b) 3)] 24)).alloc (.cells #[.int .u64 0, .int .u64 0, .int .u64 0, .int .u64 0] 24)
  have kb := (Blk.newAt (n := w.heap.size + 1) (w.alloc (.cells #[.int .u64 (lb (a) 0), .int .u64 (lb (a) 1), .int .u64 (lb (a) 2), .int .u64 (lb (a) 3)] 24)) 24 #[.int .u64 (lb (b) 0), .int .u64 (lb (b) 1), .int .u64 (lb (b) 2), .int .u64 (lb (b) 3)] (by simp)).alloc (.cells #[.int .u64 0, .int .u64 0, .int .u64 0, .int .u64 0] 24)
  have kq := Blk.newAt (n := w.heap.size + 1 + 1) ((w.alloc (.cells #[.int .u64 (lb (a) 0), .int .u64 (lb (a) 1), .int .u64 (lb (a) 2), .int .u64 (lb (a) 3)] 24)).alloc (.cells #[.int .u64 (lb (b) 0), .int .u64 (lb (b) 1), .int .u64 (lb (b) 2), .int .u64 (lb (b) 3)] 24)) 24 #[.int .u64 0, .int .u64 0, .int .u64 0, .int .u64 0] (by simp)
  have bw : Below w.heap.size w (((w.alloc (.cells #[.int .u64 (lb (a) 0), .int .u64 (lb (a) 1), .int .u64 (lb (a) 2), .int .u64 (lb (a) 3)] 24)).alloc (.cells #[.int .u64 (lb (b) 0), .int .u64 (lb (b) 1), .int .u64 (lb (b) 2), .int .u64 (lb (b) 3)] 24)).alloc (.cells #[.int .u64 0, .int .u64 0, .int .u64 0, .int .u64 0] 24)) := by go_grown
  generalize ((w.alloc (.cells #[.int .u64 (lb (a) 0), .int .u64 (lb (a) 1), .int .u64 (lb (a) 2), .int .u64 (lb (a) 3)] 24)).alloc (.cells #[.int .u64 (lb (b) 0), .int .u64 (lb (b) 1), .int .u64 (lb (b) 2), .int .u64 (lb (b) 3)] 24)).alloc (.cells #[.int .u64 0, .int .u64 0, .int .u64 0, .int .u64 0] 24) = W3 at *
  have kF := hF.after bw
  refine wp_region_kinds [10] 11 [(0, 0), (1, 0), (2, 0), (3, 0), (4, 0), (5, 0), (6, 1), (7, 1), (8, 1), (9, 2), (10, 2)] (by kernel_rfl) (by kernel_rfl) ?_
  (refine kind_firm (v := ?_) rfl ?_ ?_; rotate_left; (focus (intro K w' hg hK; go_simp; exact hK _ (Grow.refl _))); refine kinds_put (by (simp only [Act.put, List.setIfInBounds_toArray, List.set_cons_succ, List.set_cons_zero]; try rfl)) ?_)
  (refine kind_firm (v := ?_) rfl ?_ ?_; rotate_left; (focus (intro K w' hg hK; go_simp; exact hK _ (Grow.refl _))); refine kinds_put (by (simp only [Act.put, List.setIfInBounds_toArray, List.set_cons_succ, List.set_cons_zero]; try rfl)) ?_)
  (refine kind_firm (v := ?_) rfl ?_ ?_; rotate_left; (focus (intro K w' hg hK; go_simp; exact hK _ (Grow.refl _))); refine kinds_put (by (simp only [Act.put, List.setIfInBounds_toArray, List.set_cons_succ, List.set_cons_zero]; try rfl)) ?_)
  (refine kind_firm (v := ?_) rfl ?_ ?_; rotate_left; (focus (intro K w' hg hK; have hc1 := (kF.1.drew.after hg).cell; go_simp; exact hK _ (Grow.refl _))); refine kinds_put (by (simp only [Act.put, List.setIfInBounds_toArray, List.set_cons_succ, List.set_cons_zero]; try rfl)) ?_)
  (refine kind_firm (v := ?_) rfl ?_ ?_; rotate_left; (focus (intro K w' hg hK; have hc1 := (ka.drew.after hg).cell; go_simp; exact hK _ (Grow.refl _))); refine kinds_put (by (simp only [Act.put, List.setIfInBounds_toArray, List.set_cons_succ, List.set_cons_zero]; try rfl)) ?_)
  (refine kind_firm (v := ?_) rfl ?_ ?_; rotate_left; (focus (intro K w' hg hK; go_simp; refine Calls.mono (way_to (kF.drew.after hg) a ha) ?_; rintro e w'' ⟨rfl, hb⟩; refine ⟨_, rfl, ?_⟩; exact hK _ hb)); refine kinds_put (by (simp only [Act.put, List.setIfInBounds_toArray, List.set_cons_succ, List.set_cons_zero]; try rfl)) ?_)
  (refine kind_pure (v := ?_) rfl ?_ ?_; rotate_left; (focus (intro K w' hK; go_simp; exact hK)); refine kinds_put (by (simp only [Act.put, List.setIfInBounds_toArray, List.set_cons_succ, List.set_cons_zero]; try rfl)) ?_)
  (refine kind_pure (v := ?_) rfl ?_ ?_; rotate_left; (focus (intro K w' hK; go_simp; exact hK)); refine kinds_put (by (simp only [Act.put, List.setIfInBounds_toArray, List.set_cons_succ, List.set_cons_zero]; try rfl)) ?_)
  (refine kind_pure (v := ?_) rfl ?_ ?_; rotate_left; (focus (intro K w' hK; go_simp; exact hK)); refine kinds_put (by (simp only [Act.put, List.setIfInBounds_toArray, List.set_cons_succ, List.set_cons_zero]; try rfl)) ?_)
  (refine kind_loose rfl ?_; intro K wa1 ga1 hK; go_simp; refine hK _ _ (grow_alloc _ _) ?_; clear hK K)
  (refine kind_store rfl rfl ?_; intro K wb1 gb1 hK; have hs := new_num gb1; have sc := hs.cell; have sf := hs.frozen; go_simp; refine hK _ _ ?_; clear hK K)
  refine kind_end ?_
  intro w6 h6
  replace kq := put_num _ _ _ _ kq.drew ga1 gb1 h6
  replace kb := put_num _ _ _ _ kb.drew ga1 gb1 h6
  have ks := put_new _ _ _ _ gb1 h6
  replace bw := put_below _ _ _ _ bw.drew bw.size ga1 gb1 h6
  replace kF := hF.after bw
  clear sc sf hs h6 gb1 ga1 ka
  go_upto_region 2 with (fail)
  refine wp_region_kinds [11] 12 [(0, 0), (1, 0), (2, 0), (3, 0), (4, 0), (5, 0), (6, 0), (7, 1), (8, 1), (9, 1), (10, 2), (11, 2)] (by kernel_rfl) (by kernel_rfl) ?_
  (refine kind_firm (v := ?_) rfl ?_ ?_; rotate_left; (focus (intro K w' hg hK; go_simp; exact hK _ (Grow.refl _))); refine kinds_put (by (simp only [Act.put, List.setIfInBounds_toArray, List.set_cons_succ, List.set_cons_zero]; try rfl)) ?_)
  (refine kind_firm (v := ?_) rfl ?_ ?_; rotate_left; (focus (intro K w' hg hK; go_simp; exact hK _ (Grow.refl _))); refine kinds_put (by (simp only [Act.put, List.setIfInBounds_toArray, List.set_cons_succ, List.set_cons_zero]; try rfl)) ?_)
  (refine kind_firm (v := ?_) rfl ?_ ?_; rotate_left; (focus (intro K w' hg hK; go_simp; exact hK _ (Grow.refl _))); refine kinds_put (by (simp only [Act.put, List.setIfInBounds_toArray, List.set_cons_succ, List.set_cons_zero]; try rfl)) ?_)
  (refine kind_firm (v := ?_) rfl ?_ ?_; rotate_left; (focus (intro K w' hg hK; have hc1 := (kF.1.drew.after hg).cell; go_simp; exact hK _ (Grow.refl _))); refine kinds_put (by (simp only [Act.put, List.setIfInBounds_toArray, List.set_cons_succ, List.set_cons_zero]; try rfl)) ?_)
  (refine kind_firm (v := ?_) rfl ?_ ?_; rotate_left; (focus (intro K w' hg hK; have hc1 := (ks.drew.after hg).cell; go_simp; exact hK _ (Grow.refl _))); refine kinds_put (by (simp only [Act.put, List.setIfInBounds_toArray, List.set_cons_succ, List.set_cons_zero]; try rfl)) ?_)
  (refine kind_firm (v := ?_) rfl ?_ ?_; rotate_left; (focus (intro K w' hg hK; have hc1 := (kb.drew.after hg).cell; go_simp; exact hK _ (Grow.refl _))); refine kinds_put (by (simp only [Act.put, List.setIfInBounds_toArray, List.set_cons_succ, List.set_cons_zero]; try rfl)) ?_)
  (refine kind_firm (v := ?_) rfl ?_ ?_; rotate_left; (focus (intro K w' hg hK; go_simp; refine Calls.mono (way_times (kF.drew.after hg) a b hb) ?_; rintro e w'' ⟨rfl, hb⟩; refine ⟨_, rfl, ?_⟩; exact hK _ hb)); refine kinds_put (by (simp only [Act.put, List.setIfInBounds_toArray, List.set_cons_succ, List.set_cons_zero]; try rfl)) ?_)
  (refine kind_pure (v := ?_) rfl ?_ ?_; rotate_left; (focus (intro K w' hK; go_simp; exact hK)); refine kinds_put (by (simp only [Act.put, List.setIfInBounds_toArray, List.set_cons_succ, List.set_cons_zero]; try rfl)) ?_)
  (refine kind_pure (v := ?_) rfl ?_ ?_; rotate_left; (focus (intro K w' hK; go_simp; exact hK)); refine kinds_put (by (simp only [Act.put, List.setIfInBounds_toArray, List.set_cons_succ, List.set_cons_zero]; try rfl)) ?_)
  (refine kind_pure (v := ?_) rfl ?_ ?_; rotate_left; (focus (intro K w' hK; go_simp; exact hK)); refine kinds_put (by (simp only [Act.put, List.setIfInBounds_toArray, List.set_cons_succ, List.set_cons_zero]; try rfl)) ?_)
  (refine kind_loose rfl ?_; intro K wa2 ga2 hK; go_simp; refine hK _ _ (grow_alloc _ _) ?_; clear hK K)
  (refine kind_store rfl rfl ?_; intro K wb2 gb2 hK; have hs := new_num gb2; have sc := hs.cell; have sf := hs.frozen; go_simp; refine hK _ _ ?_; clear hK K)
  refine kind_end ?_
  intro w7 h7
  replace kq := put_num _ _ _ _ kq.drew ga2 gb2 h7
  have kd := put_new _ _ _ _ gb2 h7
  replace bw := put_below _ _ _ _ bw.drew bw.size ga2 gb2 h7
  clear sc sf hs h7 gb2 ga2 ks kb kF
  obtain ⟨kq_c, kq_f, kq_l, kq_m, _⟩ := kq.knows
  obtain ⟨kd_c, kd_f, kd_l, kd_m, _⟩ := kd.knows
  go_wp2
  have kf := (kq.put4 (.int .u64 (lb (fmlN base a b) 0)) (.int .u64 (lb (fmlN base a b) 1)) (.int .u64 (lb (fmlN base a b) 2)) (.int .u64 (lb (fmlN base a b) 3))).knows
  obtain ⟨kf_c, kf_f, kf_l, _⟩ := kf
  refine bodyPost_ret (v := num (fmlN base a b)) (by simp [results, Try.results75, go_sem, kf_c, kf_l]) rfl ?_
  exact ⟨rfl, by go_grown⟩
theorem check_in (a : Nat) (h : a < pN base) : Calls Try.prog 71 #[.pointer (some ⟨f, 0, none⟩), num a] w fun e w' => e = .returned (.int .i64 0) ∧ Below w.heap.size w w' := by
  have h1 := check_any a hF (lt_RR h)
  rw [chkN_def, if_pos h] at h1
  exact h1
theorem check_out (a : Nat) (ha : a < RR) (h : ¬ a < pN base) : Calls Try.prog 71 #[.pointer (some ⟨f, 0, none⟩), num a] w fun e w' => e = .returned (.int .i64 20) ∧ Below w.heap.size w w' := by
  have h1 := check_any a hF ha
  rw [chkN_def, if_neg h] at h1
  exact h1
set_option maxHeartbeats 2000000 in
theorem two_nox (F : Nat) (a b : Nat) (ha : a < RR) (h : ¬ a < pN base) : Calls Try.prog 69 #[.pointer (some ⟨f, 0, none⟩), .func (.func F) #[.pointer (some ⟨f, 0, none⟩)] #[], num a, num b] w fun e w' => e = .returned (.tuple #[num 0, .int .i64 20]) ∧ Below w.heap.size w w' := by
  rw [num_zero]
  go_enter Try.func69, Try.ntmps69
  go_wp2_with fail; (with_reducible refine (check_out ((hF.alloc _).alloc _ |>.alloc _) a ha h).mono ?_); rintro e w1 ⟨rfl, h1⟩; have ka := (((Blk.newAt (n := w.heap.size) _ _ _ (by first | rfl | simp)).alloc _).alloc _).after h1; have kb := ((Blk.newAt (n := w.heap.size + 1) _ _ _ (by first | rfl | simp)).alloc _).after h1; have kq := (Blk.newAt (n := w.heap.size + 1 + 1) _ _ _ (by first | rfl | simp)).after h1; have bw := below_call h1 (w := w) (by go_grown); obtain ⟨ka_c, ka_f, ka_l, ka_m, _⟩ := ka.knows; obtain ⟨kb_c, kb_f, kb_l, kb_m, _⟩ := kb.knows; obtain ⟨kq_c, kq_f, kq_l, kq_m, _⟩ := kq.knows
  go_wp2
  have kf := (kq.put4 (.int .u64 0) (.int .u64 0) (.int .u64 0) (.int .u64 0)).knows
  obtain ⟨kf_c, kf_f, kf_l, _⟩ := kf
  refine bodyPost_ret (v := .tuple #[zeroV, .int .i64 20]) (by simp [results, Try.results69, go_sem, kf_c, kf_l]) rfl ?_
  exact ⟨rfl, by go_grown⟩
set_option maxHeartbeats 2000000 in
theorem two_noy (F : Nat) (a b : Nat) (hb : b < RR) (h : a < pN base) (h' : ¬ b < pN base) : Calls Try.prog 69 #[.pointer (some ⟨f, 0, none⟩), .func (.func F) #[.pointer (some ⟨f, 0, none⟩)] #[], num a, num b] w fun e w' => e = .returned (.tuple #[num 0, .int .i64 20]) ∧ Below w.heap.size w w' := by
  rw [num_zero]
  go_enter Try.func69, Try.ntmps69
  go_wp2_with fail; (with_reducible refine (check_in ((hF.alloc _).alloc _ |>.alloc _) a h).mono ?_); rintro e w1 ⟨rfl, h1⟩; have ka := (((Blk.newAt (n := w.heap.size) _ _ _ (by first | rfl | simp)).alloc _).alloc _).after h1; have kb := ((Blk.newAt (n := w.heap.size + 1) _ _ _ (by first | rfl | simp)).alloc _).after h1; have kq := (Blk.newAt (n := w.heap.size + 1 + 1) _ _ _ (by first | rfl | simp)).after h1; have bw := below_call h1 (w := w) (by go_grown); obtain ⟨ka_c, ka_f, ka_l, ka_m, _⟩ := ka.knows; obtain ⟨kb_c, kb_f, kb_l, kb_m, _⟩ := kb.knows; obtain ⟨kq_c, kq_f, kq_l, kq_m, _⟩ := kq.knows
  go_wp2_with fail; (with_reducible refine (check_out (hF.after bw) b hb h').mono ?_); rintro e w2 ⟨rfl, h2⟩; clear ka_c ka_f ka_l ka_m kb_c kb_f kb_l kb_m kq_c kq_f kq_l kq_m; (first | replace ka := ka.after h2 | replace ka := (ka.alloc _).after h2 | replace ka := ((ka.alloc _).alloc _).after h2 | replace ka := ka.drew.after h2 | replace ka := (ka.alloc _).drew.after h2 | replace ka := (ka.drew.alloc _).after h2); (first | replace kb := kb.after h2 | replace kb := (kb.alloc _).after h2 | replace kb := ((kb.alloc _).alloc _).after h2 | replace kb := kb.drew.after h2 | replace kb := (kb.alloc _).drew.after h2 | replace kb := (kb.drew.alloc _).after h2); (first | replace kq := kq.after h2 | replace kq := (kq.alloc _).after h2 | replace kq := ((kq.alloc _).alloc _).after h2 | replace kq := kq.drew.after h2 | replace kq := (kq.alloc _).drew.after h2 | replace kq := (kq.drew.alloc _).after h2); have bwsz := Below.size bw; replace bw := below_call h2 (w := w) (by go_grown); clear h2 bwsz; obtain ⟨ka_c, ka_f, ka_l, ka_m, _⟩ := ka.knows; obtain ⟨kb_c, kb_f, kb_l, kb_m, _⟩ := kb.knows; obtain ⟨kq_c, kq_f, kq_l, kq_m, _⟩ := kq.knows
  go_wp2
  have kf := (kq.put4 (.int .u64 0) (.int .u64 0) (.int .u64 0) (.int .u64 0)).knows
  obtain ⟨kf_c, kf_f, kf_l, _⟩ := kf
  refine bodyPost_ret (v := .tuple #[zeroV, .int .i64 20]) (by simp [results, Try.results69, go_sem, kf_c, kf_l]) rfl ?_
  exact ⟨rfl, by go_grown⟩
set_option maxHeartbeats 2000000 in
theorem two_plus (a b : Nat) (h : a < pN base) (h' : b < pN base) :
    Calls Try.prog 69 #[.pointer (some ⟨f, 0, none⟩), .func (.func 70) #[.pointer (some ⟨f, 0, none⟩)] #[], num a, num b] w fun e w' => e = .returned (.tuple #[num (fadN base a b), .int .i64 0]) ∧ Below w.heap.size w w' := by
  go_enter Try.func69, Try.ntmps69
  go_wp2_with fail; (with_reducible refine (check_in ((hF.alloc _).alloc _ |>.alloc _) a h).mono ?_); rintro e w1 ⟨rfl, h1⟩; have ka := (((Blk.newAt (n := w.heap.size) _ _ _ (by first | rfl | simp)).alloc _).alloc _).after h1; have kb := ((Blk.newAt (n := w.heap.size + 1) _ _ _ (by first | rfl | simp)).alloc _).after h1; have kq := (Blk.newAt (n := w.heap.size + 1 + 1) _ _ _ (by first | rfl | simp)).after h1; have bw := below_call h1 (w := w) (by go_grown); obtain ⟨ka_c, ka_f, ka_l, ka_m, _⟩ := ka.knows; obtain ⟨kb_c, kb_f, kb_l, kb_m, _⟩ := kb.knows; obtain ⟨kq_c, kq_f, kq_l, kq_m, _⟩ := kq.knows
  go_wp2_with fail; (with_reducible refine (check_in (hF.after bw) b h').mono ?_); rintro e w2 ⟨rfl, h2⟩; clear ka_c ka_f ka_l ka_m kb_c kb_f kb_l kb_m kq_c kq_f kq_l kq_m; (first | replace ka := ka.after h2 | replace ka := (ka.alloc _).after h2 | replace ka := ((ka.alloc _).alloc _).after h2 | replace ka := ka.drew.after h2 | replace ka := (ka.alloc _).drew.after h2 | replace ka := (ka.drew.alloc _).after h2); (first | replace kb := kb.after h2 | replace kb := (kb.alloc _).after h2 | replace kb := ((kb.alloc _).alloc _).after h2 | replace kb := kb.drew.after h2 | replace kb := (kb.alloc _).drew.after h2 | replace kb := (kb.drew.alloc _).after h2); (first | replace kq := kq.after h2 | replace kq := (kq.alloc _).after h2 | replace kq := ((kq.alloc _).alloc _).after h2 | replace kq := kq.drew.after h2 | replace kq := (kq.alloc _).drew.after h2 | replace kq := (kq.drew.alloc _).after h2); have bwsz := Below.size bw; replace bw := below_call h2 (w := w) (by go_grown); clear h2 bwsz; obtain ⟨ka_c, ka_f, ka_l, ka_m, _⟩ := ka.knows; obtain ⟨kb_c, kb_f, kb_l, kb_m, _⟩ := kb.knows; obtain ⟨kq_c, kq_f, kq_l, kq_m, _⟩ := kq.knows
  go_wp2_with fail; (with_reducible refine (fplus_any a b (hF.after bw) h h').mono ?_); rintro e w3 ⟨rfl, h3⟩; clear ka_c ka_f ka_l ka_m kb_c kb_f kb_l kb_m kq_c kq_f kq_l kq_m; (first | replace ka := ka.after h3 | replace ka := (ka.alloc _).after h3 | replace ka := ((ka.alloc _).alloc _).after h3 | replace ka := ka.drew.after h3 | replace ka := (ka.alloc _).drew.after h3 | replace ka := (ka.drew.alloc _).after h3); (first | replace kb := kb.after h3 | replace kb := (kb.alloc _).after h3 | replace kb := ((kb.alloc _).alloc _).after h3 | replace kb := kb.drew.after h3 | replace kb := (kb.alloc _).drew.after h3 | replace kb := (kb.drew.alloc _).after h3); (first | replace kq := kq.after h3 | replace kq := (kq.alloc _).after h3 | replace kq := ((kq.alloc _).alloc _).after h3 | replace kq := kq.drew.after h3 | replace kq := (kq.alloc _).drew.after h3 | replace kq := (kq.drew.alloc _).after h3); have bwsz := Below.size bw; replace bw := below_call h3 (w := w) (by go_grown); clear h3 bwsz; obtain ⟨ka_c, ka_f, ka_l, ka_m, _⟩ := ka.knows; obtain ⟨kb_c, kb_f, kb_l, kb_m, _⟩ := kb.knows; obtain ⟨kq_c, kq_f, kq_l, kq_m, _⟩ := kq.knows
  go_wp2
  have kf := (kq.put4 (.int .u64 (lb (fadN base a b) 0)) (.int .u64 (lb (fadN base a b) 1)) (.int .u64 (lb (fadN base a b) 2)) (.int .u64 (lb (fadN base a b) 3))).knows
  obtain ⟨kf_c, kf_f, kf_l, _⟩ := kf
  refine bodyPost_ret (v := .tuple #[num (fadN base a b), .int .i64 0]) (by simp [results, Try.results69, go_sem, kf_c, kf_l]) rfl ?_
  exact ⟨rfl, by go_grown⟩
set_option maxHeartbeats 2000000 in
theorem two_minus (a b : Nat) (h : a < pN base) (h' : b < pN base) :
    Calls Try.prog 69 #[.pointer (some ⟨f, 0, none⟩), .func (.func 72) #[.pointer (some ⟨f, 0, none⟩)] #[], num a, num b] w fun e w' => e = .returned (.tuple #[num (fsbN base a b), .int .i64 0]) ∧ Below w.heap.size w w' := by
  go_enter Try.func69, Try.ntmps69
  go_wp2_with fail; (with_reducible refine (check_in ((hF.alloc _).alloc _ |>.alloc _) a h).mono ?_); rintro e w1 ⟨rfl, h1⟩; have ka := (((Blk.newAt (n := w.heap.size) _ _ _ (by first | rfl | simp)).alloc _).alloc _).after h1; have kb := ((Blk.newAt (n := w.heap.size + 1) _ _ _ (by first | rfl | simp)).alloc _).after h1; have kq := (Blk.newAt (n := w.heap.size + 1 + 1) _ _ _ (by first | rfl | simp)).after h1; have bw := below_call h1 (w := w) (by go_grown); obtain ⟨ka_c, ka_f, ka_l, ka_m, _⟩ := ka.knows; obtain ⟨kb_c, kb_f, kb_l, kb_m, _⟩ := kb.knows; obtain ⟨kq_c, kq_f, kq_l, kq_m, _⟩ := kq.knows
  go_wp2_with fail; (with_reducible refine (check_in (hF.after bw) b h').mono ?_); rintro e w2 ⟨rfl, h2⟩; clear ka_c ka_f ka_l ka_m kb_c kb_f kb_l kb_m kq_c kq_f kq_l kq_m; (first | replace ka := ka.after h2 | replace ka := (ka.alloc _).after h2 | replace ka := ((ka.alloc _).alloc _).after h2 | replace ka := ka.drew.after h2 | replace ka := (ka.alloc _).drew.after h2 | replace ka := (ka.drew.alloc _).after h2); (first | replace kb := kb.after h2 | replace kb := (kb.alloc _).after h2 | replace kb := ((kb.alloc _).alloc _).after h2 | replace kb := kb.drew.after h2 | replace kb := (kb.alloc _).drew.after h2 | replace kb := (kb.drew.alloc _).after h2); (first | replace kq := kq.after h2 | replace kq := (kq.alloc _).after h2 | replace kq := ((kq.alloc _).alloc _).after h2 | replace kq := kq.drew.after h2 | replace kq := (kq.alloc _).drew.after h2 | replace kq := (kq.drew.alloc _).after h2); have bwsz := Below.size bw; replace bw := below_call h2 (w := w) (by go_grown); clear h2 bwsz; obtain ⟨ka_c, ka_f, ka_l, ka_m, _⟩ := ka.knows; obtain ⟨kb_c, kb_f, kb_l, kb_m, _⟩ := kb.knows; obtain ⟨kq_c, kq_f, kq_l, kq_m, _⟩ := kq.knows
  go_wp2_with fail; (with_reducible refine (fminus_any a b (hF.after bw) h h').mono ?_); rintro e w3 ⟨rfl, h3⟩; clear ka_c ka_f ka_l ka_m kb_c kb_f kb_l kb_m kq_c kq_f kq_l kq_m; (first | replace ka := ka.after h3 | replace ka := (ka.alloc _).after h3 | replace ka := ((ka.alloc _).alloc _).after h3 | replace ka := ka.drew.after h3 | replace ka := (ka.alloc _).drew.after h3 | replace ka := (ka.drew.alloc _).after h3); (first | replace kb := kb.after h3 | replace kb := (kb.alloc _).after h3 | replace kb := ((kb.alloc _).alloc _).after h3 | replace kb := kb.drew.after h3 | replace kb := (kb.alloc _).drew.after h3 | replace kb := (kb.drew.alloc _).after h3); (first | replace kq := kq.after h3 | replace kq := (kq.alloc _).after h3 | replace kq := ((kq.alloc _).alloc _).after h3 | replace kq := kq.drew.after h3 | replace kq := (kq.alloc _).drew.after h3 | replace kq := (kq.drew.alloc _).after h3); have bwsz := Below.size bw; replace bw := below_call h3 (w := w) (by go_grown); clear h3 bwsz; obtain ⟨ka_c, ka_f, ka_l, ka_m, _⟩ := ka.knows; obtain ⟨kb_c, kb_f, kb_l, kb_m, _⟩ := kb.knows; obtain ⟨kq_c, kq_f, kq_l, kq_m, _⟩ := kq.knows
  go_wp2
  have kf := (kq.put4 (.int .u64 (lb (fsbN base a b) 0)) (.int .u64 (lb (fsbN base a b) 1)) (.int .u64 (lb (fsbN base a b) 2)) (.int .u64 (lb (fsbN base a b) 3))).knows
  obtain ⟨kf_c, kf_f, kf_l, _⟩ := kf
  refine bodyPost_ret (v := .tuple #[num (fsbN base a b), .int .i64 0]) (by simp [results, Try.results69, go_sem, kf_c, kf_l]) rfl ?_
  exact ⟨rfl, by go_grown⟩
set_option maxHeartbeats 2000000 in
theorem two_times (a b : Nat) (h : a < pN base) (h' : b < pN base) :
    Calls Try.prog 69 #[.pointer (some ⟨f, 0, none⟩), .func (.func 75) #[.pointer (some ⟨f, 0, none⟩)] #[], num a, num b] w fun e w' => e = .returned (.tuple #[num (fmlN base a b), .int .i64 0]) ∧ Below w.heap.size w w' := by
  go_enter Try.func69, Try.ntmps69
  go_wp2_with fail; (with_reducible refine (check_in ((hF.alloc _).alloc _ |>.alloc _) a h).mono ?_); rintro e w1 ⟨rfl, h1⟩; have ka := (((Blk.newAt (n := w.heap.size) _ _ _ (by first | rfl | simp)).alloc _).alloc _).after h1; have kb := ((Blk.newAt (n := w.heap.size + 1) _ _ _ (by first | rfl | simp)).alloc _).after h1; have kq := (Blk.newAt (n := w.heap.size + 1 + 1) _ _ _ (by first | rfl | simp)).after h1; have bw := below_call h1 (w := w) (by go_grown); obtain ⟨ka_c, ka_f, ka_l, ka_m, _⟩ := ka.knows; obtain ⟨kb_c, kb_f, kb_l, kb_m, _⟩ := kb.knows; obtain ⟨kq_c, kq_f, kq_l, kq_m, _⟩ := kq.knows
  go_wp2_with fail; (with_reducible refine (check_in (hF.after bw) b h').mono ?_); rintro e w2 ⟨rfl, h2⟩; clear ka_c ka_f ka_l ka_m kb_c kb_f kb_l kb_m kq_c kq_f kq_l kq_m; (first | replace ka := ka.after h2 | replace ka := (ka.alloc _).after h2 | replace ka := ((ka.alloc _).alloc _).after h2 | replace ka := ka.drew.after h2 | replace ka := (ka.alloc _).drew.after h2 | replace ka := (ka.drew.alloc _).after h2); (first | replace kb := kb.after h2 | replace kb := (kb.alloc _).after h2 | replace kb := ((kb.alloc _).alloc _).after h2 | replace kb := kb.drew.after h2 | replace kb := (kb.alloc _).drew.after h2 | replace kb := (kb.drew.alloc _).after h2); (first | replace kq := kq.after h2 | replace kq := (kq.alloc _).after h2 | replace kq := ((kq.alloc _).alloc _).after h2 | replace kq := kq.drew.after h2 | replace kq := (kq.alloc _).drew.after h2 | replace kq := (kq.drew.alloc _).after h2); have bwsz := Below.size bw; replace bw := below_call h2 (w := w) (by go_grown); clear h2 bwsz; obtain ⟨ka_c, ka_f, ka_l, ka_m, _⟩ := ka.knows; obtain ⟨kb_c, kb_f, kb_l, kb_m, _⟩ := kb.knows; obtain ⟨kq_c, kq_f, kq_l, kq_m, _⟩ := kq.knows
  go_wp2_with fail; (with_reducible refine (ftimes_any (hF.after bw) a b h h').mono ?_); rintro e w3 ⟨rfl, h3⟩; clear ka_c ka_f ka_l ka_m kb_c kb_f kb_l kb_m kq_c kq_f kq_l kq_m; (first | replace ka := ka.after h3 | replace ka := (ka.alloc _).after h3 | replace ka := ((ka.alloc _).alloc _).after h3 | replace ka := ka.drew.after h3 | replace ka := (ka.alloc _).drew.after h3 | replace ka := (ka.drew.alloc _).after h3); (first | replace kb := kb.after h3 | replace kb := (kb.alloc _).after h3 | replace kb := ((kb.alloc _).alloc _).after h3 | replace kb := kb.drew.after h3 | replace kb := (kb.alloc _).drew.after h3 | replace kb := (kb.drew.alloc _).after h3); (first | replace kq := kq.after h3 | replace kq := (kq.alloc _).after h3 | replace kq := ((kq.alloc _).alloc _).after h3 | replace kq := kq.drew.after h3 | replace kq := (kq.alloc _).drew.after h3 | replace kq := (kq.drew.alloc _).after h3); have bwsz := Below.size bw; replace bw := below_call h3 (w := w) (by go_grown); clear h3 bwsz; obtain ⟨ka_c, ka_f, ka_l, ka_m, _⟩ := ka.knows; obtain ⟨kb_c, kb_f, kb_l, kb_m, _⟩ := kb.knows; obtain ⟨kq_c, kq_f, kq_l, kq_m, _⟩ := kq.knows
  go_wp2
  have kf := (kq.put4 (.int .u64 (lb (fmlN base a b) 0)) (.int .u64 (lb (fmlN base a b) 1)) (.int .u64 (lb (fmlN base a b) 2)) (.int .u64 (lb (fmlN base a b) 3))).knows
  obtain ⟨kf_c, kf_f, kf_l, _⟩ := kf
  refine bodyPost_ret (v := .tuple #[num (fmlN base a b), .int .i64 0]) (by simp [results, Try.results69, go_sem, kf_c, kf_l]) rfl ?_
  exact ⟨rfl, by go_grown⟩
set_option maxHeartbeats 2000000 in
theorem fadd_nox (a b : Nat) (ha : a < RR) (h : ¬ a < pN base) : Calls Try.prog 47 #[.pointer (some ⟨f, 0, none⟩), num a, num b] w fun e w' => e = .returned (.tuple #[num 0, .int .i64 20]) ∧ Below w.heap.size w w' := by
  go_enter Try.func47, Try.ntmps47
  go_wp2_with fail; (with_reducible refine (two_nox ((hF.alloc _).alloc _ |>.alloc _) 70 a b ha h).mono ?_); rintro e w1 ⟨rfl, h1⟩; have ka := (((Blk.newAt (n := w.heap.size) _ _ _ (by first | rfl | simp)).alloc _).alloc _).after h1; have kb := ((Blk.newAt (n := w.heap.size + 1) _ _ _ (by first | rfl | simp)).alloc _).after h1; have kq := (Blk.newAt (n := w.heap.size + 1 + 1) _ _ _ (by first | rfl | simp)).after h1; have bw := below_call h1 (w := w) (by go_grown); obtain ⟨ka_c, ka_f, ka_l, ka_m, _⟩ := ka.knows; obtain ⟨kb_c, kb_f, kb_l, kb_m, _⟩ := kb.knows; obtain ⟨kq_c, kq_f, kq_l, kq_m, _⟩ := kq.knows
  go_wp2
  have kf := (kq.put4 (.int .u64 (lb 0 0)) (.int .u64 (lb 0 1)) (.int .u64 (lb 0 2)) (.int .u64 (lb 0 3))).knows
  obtain ⟨kf_c, kf_f, kf_l, _⟩ := kf
  refine bodyPost_ret (v := .tuple #[num 0, .int .i64 20]) (by simp [results, Try.results47, go_sem, kf_c, kf_l]) rfl ?_
  exact ⟨rfl, by go_grown⟩
set_option maxHeartbeats 2000000 in
theorem fadd_noy (a b : Nat) (hb : b < RR) (h : a < pN base) (h' : ¬ b < pN base) : Calls Try.prog 47 #[.pointer (some ⟨f, 0, none⟩), num a, num b] w fun e w' => e = .returned (.tuple #[num 0, .int .i64 20]) ∧ Below w.heap.size w w' := by
  go_enter Try.func47, Try.ntmps47
  go_wp2_with fail; (with_reducible refine (two_noy ((hF.alloc _).alloc _ |>.alloc _) 70 a b hb h h').mono ?_); rintro e w1 ⟨rfl, h1⟩; have ka := (((Blk.newAt (n := w.heap.size) _ _ _ (by first | rfl | simp)).alloc _).alloc _).after h1; have kb := ((Blk.newAt (n := w.heap.size + 1) _ _ _ (by first | rfl | simp)).alloc _).after h1; have kq := (Blk.newAt (n := w.heap.size + 1 + 1) _ _ _ (by first | rfl | simp)).after h1; have bw := below_call h1 (w := w) (by go_grown); obtain ⟨ka_c, ka_f, ka_l, ka_m, _⟩ := ka.knows; obtain ⟨kb_c, kb_f, kb_l, kb_m, _⟩ := kb.knows; obtain ⟨kq_c, kq_f, kq_l, kq_m, _⟩ := kq.knows
  go_wp2
  have kf := (kq.put4 (.int .u64 (lb 0 0)) (.int .u64 (lb 0 1)) (.int .u64 (lb 0 2)) (.int .u64 (lb 0 3))).knows
  obtain ⟨kf_c, kf_f, kf_l, _⟩ := kf
  refine bodyPost_ret (v := .tuple #[num 0, .int .i64 20]) (by simp [results, Try.results47, go_sem, kf_c, kf_l]) rfl ?_
  exact ⟨rfl, by go_grown⟩
set_option maxHeartbeats 2000000 in
theorem fadd_yes (a b : Nat) (h : a < pN base) (h' : b < pN base) : Calls Try.prog 47 #[.pointer (some ⟨f, 0, none⟩), num a, num b] w fun e w' => e = .returned (.tuple #[num (fadN base a b), .int .i64 0]) ∧ Below w.heap.size w w' := by
  go_enter Try.func47, Try.ntmps47
  go_wp2_with fail; (with_reducible refine (two_plus ((hF.alloc _).alloc _ |>.alloc _) a b h h').mono ?_); rintro e w1 ⟨rfl, h1⟩; have ka := (((Blk.newAt (n := w.heap.size) _ _ _ (by first | rfl | simp)).alloc _).alloc _).after h1; have kb := ((Blk.newAt (n := w.heap.size + 1) _ _ _ (by first | rfl | simp)).alloc _).after h1; have kq := (Blk.newAt (n := w.heap.size + 1 + 1) _ _ _ (by first | rfl | simp)).after h1; have bw := below_call h1 (w := w) (by go_grown); obtain ⟨ka_c, ka_f, ka_l, ka_m, _⟩ := ka.knows; obtain ⟨kb_c, kb_f, kb_l, kb_m, _⟩ := kb.knows; obtain ⟨kq_c, kq_f, kq_l, kq_m, _⟩ := kq.knows
  go_wp2
  have kf := (kq.put4 (.int .u64 (lb (fadN base a b) 0)) (.int .u64 (lb (fadN base a b) 1)) (.int .u64 (lb (fadN base a b) 2)) (.int .u64 (lb (fadN base a b) 3))).knows
  obtain ⟨kf_c, kf_f, kf_l, _⟩ := kf
  refine bodyPost_ret (v := .tuple #[num (fadN base a b), .int .i64 0]) (by simp [results, Try.results47, go_sem, kf_c, kf_l]) rfl ?_
  exact ⟨rfl, by go_grown⟩
set_option maxHeartbeats 2000000 in
theorem fsub_nox (a b : Nat) (ha : a < RR) (h : ¬ a < pN base) : Calls Try.prog 50 #[.pointer (some ⟨f, 0, none⟩), num a, num b] w fun e w' => e = .returned (.tuple #[num 0, .int .i64 20]) ∧ Below w.heap.size w w' := by
  go_enter Try.func50, Try.ntmps50
  go_wp2_with fail; (with_reducible refine (two_nox ((hF.alloc _).alloc _ |>.alloc _) 72 a b ha h).mono ?_); rintro e w1 ⟨rfl, h1⟩; have ka := (((Blk.newAt (n := w.heap.size) _ _ _ (by first | rfl | simp)).alloc _).alloc _).after h1; have kb := ((Blk.newAt (n := w.heap.size + 1) _ _ _ (by first | rfl | simp)).alloc _).after h1; have kq := (Blk.newAt (n := w.heap.size + 1 + 1) _ _ _ (by first | rfl | simp)).after h1; have bw := below_call h1 (w := w) (by go_grown); obtain ⟨ka_c, ka_f, ka_l, ka_m, _⟩ := ka.knows; obtain ⟨kb_c, kb_f, kb_l, kb_m, _⟩ := kb.knows; obtain ⟨kq_c, kq_f, kq_l, kq_m, _⟩ := kq.knows
  go_wp2
  have kf := (kq.put4 (.int .u64 (lb 0 0)) (.int .u64 (lb 0 1)) (.int .u64 (lb 0 2)) (.int .u64 (lb 0 3))).knows
  obtain ⟨kf_c, kf_f, kf_l, _⟩ := kf
  refine bodyPost_ret (v := .tuple #[num 0, .int .i64 20]) (by simp [results, Try.results50, go_sem, kf_c, kf_l]) rfl ?_
  exact ⟨rfl, by go_grown⟩
set_option maxHeartbeats 2000000 in
theorem fsub_noy (a b : Nat) (hb : b < RR) (h : a < pN base) (h' : ¬ b < pN base) : Calls Try.prog 50 #[.pointer (some ⟨f, 0, none⟩), num a, num b] w fun e w' => e = .returned (.tuple #[num 0, .int .i64 20]) ∧ Below w.heap.size w w' := by
  go_enter Try.func50, Try.ntmps50
  go_wp2_with fail; (with_reducible refine (two_noy ((hF.alloc _).alloc _ |>.alloc _) 72 a b hb h h').mono ?_); rintro e w1 ⟨rfl, h1⟩; have ka := (((Blk.newAt (n := w.heap.size) _ _ _ (by first | rfl | simp)).alloc _).alloc _).after h1; have kb := ((Blk.newAt (n := w.heap.size + 1) _ _ _ (by first | rfl | simp)).alloc _).after h1; have kq := (Blk.newAt (n := w.heap.size + 1 + 1) _ _ _ (by first | rfl | simp)).after h1; have bw := below_call h1 (w := w) (by go_grown); obtain ⟨ka_c, ka_f, ka_l, ka_m, _⟩ := ka.knows; obtain ⟨kb_c, kb_f, kb_l, kb_m, _⟩ := kb.knows; obtain ⟨kq_c, kq_f, kq_l, kq_m, _⟩ := kq.knows
  go_wp2
  have kf := (kq.put4 (.int .u64 (lb 0 0)) (.int .u64 (lb 0 1)) (.int .u64 (lb 0 2)) (.int .u64 (lb 0 3))).knows
  obtain ⟨kf_c, kf_f, kf_l, _⟩ := kf
  refine bodyPost_ret (v := .tuple #[num 0, .int .i64 20]) (by simp [results, Try.results50, go_sem, kf_c, kf_l]) rfl ?_
  exact ⟨rfl, by go_grown⟩
set_option maxHeartbeats 2000000 in
theorem fsub_yes (a b : Nat) (h : a < pN base) (h' : b < pN base) : Calls Try.prog 50 #[.pointer (some ⟨f, 0, none⟩), num a, num b] w fun e w' => e = .returned (.tuple #[num (fsbN base a b), .int .i64 0]) ∧ Below w.heap.size w w' := by
  go_enter Try.func50, Try.ntmps50
  go_wp2_with fail; (with_reducible refine (two_minus ((hF.alloc _).alloc _ |>.alloc _) a b h h').mono ?_); rintro e w1 ⟨rfl, h1⟩; have ka := (((Blk.newAt (n := w.heap.size) _ _ _ (by first | rfl | simp)).alloc _).alloc _).after h1; have kb := ((Blk.newAt (n := w.heap.size + 1) _ _ _ (by first | rfl | simp)).alloc _).after h1; have kq := (Blk.newAt (n := w.heap.size + 1 + 1) _ _ _ (by first | rfl | simp)).after h1; have bw := below_call h1 (w := w) (by go_grown); obtain ⟨ka_c, ka_f, ka_l, ka_m, _⟩ := ka.knows; obtain ⟨kb_c, kb_f, kb_l, kb_m, _⟩ := kb.knows; obtain ⟨kq_c, kq_f, kq_l, kq_m, _⟩ := kq.knows
  go_wp2
  have kf := (kq.put4 (.int .u64 (lb (fsbN base a b) 0)) (.int .u64 (lb (fsbN base a b) 1)) (.int .u64 (lb (fsbN base a b) 2)) (.int .u64 (lb (fsbN base a b) 3))).knows
  obtain ⟨kf_c, kf_f, kf_l, _⟩ := kf
  refine bodyPost_ret (v := .tuple #[num (fsbN base a b), .int .i64 0]) (by simp [results, Try.results50, go_sem, kf_c, kf_l]) rfl ?_
  exact ⟨rfl, by go_grown⟩
set_option maxHeartbeats 2000000 in
theorem fmul_nox (a b : Nat) (ha : a < RR) (h : ¬ a < pN base) : Calls Try.prog 52 #[.pointer (some ⟨f, 0, none⟩), num a, num b] w fun e w' => e = .returned (.tuple #[num 0, .int .i64 20]) ∧ Below w.heap.size w w' := by
  go_enter Try.func52, Try.ntmps52
  go_wp2_with fail; (with_reducible refine (two_nox ((hF.alloc _).alloc _ |>.alloc _) 75 a b ha h).mono ?_); rintro e w1 ⟨rfl, h1⟩; have ka := (((Blk.newAt (n := w.heap.size) _ _ _ (by first | rfl | simp)).alloc _).alloc _).after h1; have kb := ((Blk.newAt (n := w.heap.size + 1) _ _ _ (by first | rfl | simp)).alloc _).after h1; have kq := (Blk.newAt (n := w.heap.size + 1 + 1) _ _ _ (by first | rfl | simp)).after h1; have bw := below_call h1 (w := w) (by go_grown); obtain ⟨ka_c, ka_f, ka_l, ka_m, _⟩ := ka.knows; obtain ⟨kb_c, kb_f, kb_l, kb_m, _⟩ := kb.knows; obtain ⟨kq_c, kq_f, kq_l, kq_m, _⟩ := kq.knows
  go_wp2
  have kf := (kq.put4 (.int .u64 (lb 0 0)) (.int .u64 (lb 0 1)) (.int .u64 (lb 0 2)) (.int .u64 (lb 0 3))).knows
  obtain ⟨kf_c, kf_f, kf_l, _⟩ := kf
  refine bodyPost_ret (v := .tuple #[num 0, .int .i64 20]) (by simp [results, Try.results52, go_sem, kf_c, kf_l]) rfl ?_
  exact ⟨rfl, by go_grown⟩
set_option maxHeartbeats 2000000 in
theorem fmul_noy (a b : Nat) (hb : b < RR) (h : a < pN base) (h' : ¬ b < pN base) : Calls Try.prog 52 #[.pointer (some ⟨f, 0, none⟩), num a, num b] w fun e w' => e = .returned (.tuple #[num 0, .int .i64 20]) ∧ Below w.heap.size w w' := by
  go_enter Try.func52, Try.ntmps52
  go_wp2_with fail; (with_reducible refine (two_noy ((hF.alloc _).alloc _ |>.alloc _) 75 a b hb h h').mono ?_); rintro e w1 ⟨rfl, h1⟩; have ka := (((Blk.newAt (n := w.heap.size) _ _ _ (by first | rfl | simp)).alloc _).alloc _).after h1; have kb := ((Blk.newAt (n := w.heap.size + 1) _ _ _ (by first | rfl | simp)).alloc _).after h1; have kq := (Blk.newAt (n := w.heap.size + 1 + 1) _ _ _ (by first | rfl | simp)).after h1; have bw := below_call h1 (w := w) (by go_grown); obtain ⟨ka_c, ka_f, ka_l, ka_m, _⟩ := ka.knows; obtain ⟨kb_c, kb_f, kb_l, kb_m, _⟩ := kb.knows; obtain ⟨kq_c, kq_f, kq_l, kq_m, _⟩ := kq.knows
  go_wp2
  have kf := (kq.put4 (.int .u64 (lb 0 0)) (.int .u64 (lb 0 1)) (.int .u64 (lb 0 2)) (.int .u64 (lb 0 3))).knows
  obtain ⟨kf_c, kf_f, kf_l, _⟩ := kf
  refine bodyPost_ret (v := .tuple #[num 0, .int .i64 20]) (by simp [results, Try.results52, go_sem, kf_c, kf_l]) rfl ?_
  exact ⟨rfl, by go_grown⟩
set_option maxHeartbeats 2000000 in
theorem fmul_yes (a b : Nat) (h : a < pN base) (h' : b < pN base) : Calls Try.prog 52 #[.pointer (some ⟨f, 0, none⟩), num a, num b] w fun e w' => e = .returned (.tuple #[num (fmlN base a b), .int .i64 0]) ∧ Below w.heap.size w w' := by
  go_enter Try.func52, Try.ntmps52
  go_wp2_with fail; (with_reducible refine (two_times ((hF.alloc _).alloc _ |>.alloc _) a b h h').mono ?_); rintro e w1 ⟨rfl, h1⟩; have ka := (((Blk.newAt (n := w.heap.size) _ _ _ (by first | rfl | simp)).alloc _).alloc _).after h1; have kb := ((Blk.newAt (n := w.heap.size + 1) _ _ _ (by first | rfl | simp)).alloc _).after h1; have kq := (Blk.newAt (n := w.heap.size + 1 + 1) _ _ _ (by first | rfl | simp)).after h1; have bw := below_call h1 (w := w) (by go_grown); obtain ⟨ka_c, ka_f, ka_l, ka_m, _⟩ := ka.knows; obtain ⟨kb_c, kb_f, kb_l, kb_m, _⟩ := kb.knows; obtain ⟨kq_c, kq_f, kq_l, kq_m, _⟩ := kq.knows
  go_wp2
  have kf := (kq.put4 (.int .u64 (lb (fmlN base a b) 0)) (.int .u64 (lb (fmlN base a b) 1)) (.int .u64 (lb (fmlN base a b) 2)) (.int .u64 (lb (fmlN base a b) 3))).knows
  obtain ⟨kf_c, kf_f, kf_l, _⟩ := kf
  refine bodyPost_ret (v := .tuple #[num (fmlN base a b), .int .i64 0]) (by simp [results, Try.results52, go_sem, kf_c, kf_l]) rfl ?_
  exact ⟨rfl, by go_grown⟩
end
end Go.Proofs.Ytbmokmkaebfneaa
