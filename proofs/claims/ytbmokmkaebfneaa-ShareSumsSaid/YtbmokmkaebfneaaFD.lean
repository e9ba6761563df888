/- Powers of the two fields. -/
import Derived.Test.YtbmokmkaebfneaaFA
import Derived.Test.YtbmokmkaebfneaaU
namespace Go.Proofs.Ytbmokmkaebfneaa
set_option linter.unusedVariables false
set_option linter.unusedSimpArgs false
open Go.RowKit

theorem pwN_is : ∃ f : Bool → Nat → Nat → Nat → Nat, ∀ b x e k, f b x e k = x ^ (e / 2 ^ k) % pN b := ⟨fun b x e k => x ^ (e / 2 ^ k) % pN b, fun _ _ _ _ => rfl⟩
/-- A power by the exponent's upper bits. -/
noncomputable def pwN : Bool → Nat → Nat → Nat → Nat := Classical.choose pwN_is
theorem pwN_def (b : Bool) (x e k : Nat) : pwN b x e k = x ^ (e / 2 ^ k) % pN b := Classical.choose_spec pwN_is b x e k
theorem fpwN_is : ∃ f : Bool → Nat → Nat → Nat, ∀ b x e, f b x e = x ^ e % pN b := ⟨fun b x e => x ^ e % pN b, fun _ _ _ => rfl⟩
/-- A power of the field. -/
noncomputable def fpwN : Bool → Nat → Nat → Nat := Classical.choose fpwN_is
theorem fpwN_def (b : Bool) (x e : Nat) : fpwN b x e = x ^ e % pN b := Classical.choose_spec fpwN_is b x e
theorem fpwN_lt (b : Bool) (x e : Nat) : fpwN b x e < pN b := by rw [fpwN_def]; exact Nat.mod_lt _ (pN_pos b)
theorem pw_lt (b : Bool) (x e k : Nat) : pwN b x e k < pN b := by rw [pwN_def]; exact Nat.mod_lt _ (pN_pos b)
theorem pw_start (b : Bool) (x e : Nat) (he : e < RR) : pwN b x e 256 = 1 := by
  have h := pN_one b
  rw [pwN_def, Nat.div_eq_of_lt (by rw [show (2 : Nat) ^ 256 = RR from by unfold RR; rfl]; exact he), Nat.pow_zero, Nat.mod_eq_of_lt h]
theorem pw_end (b : Bool) (x e : Nat) : pwN b x e 0 = fpwN b x e := by rw [pwN_def, fpwN_def, Nat.pow_zero, Nat.div_one]
theorem pw_half (e k : Nat) : e / 2 ^ k = 2 * (e / 2 ^ (k + 1)) + e / 2 ^ k % 2 := by
  rw [Nat.pow_succ, ← Nat.div_div_eq_div_mul]; omega
theorem pw_square (b : Bool) (x e k : Nat) : fmlN b (pwN b x e (k + 1)) (pwN b x e (k + 1)) = x ^ (2 * (e / 2 ^ (k + 1))) % pN b := by
  rw [fmlN_def, pwN_def, ← Nat.mul_mod, ← Nat.pow_add, Nat.two_mul]
theorem pw_even (b : Bool) (x e k : Nat) (h : e / 2 ^ k % 2 = 0) : fmlN b (pwN b x e (k + 1)) (pwN b x e (k + 1)) = pwN b x e k := by
  have e1 := pw_half e k
  rw [h, Nat.add_zero] at e1
  rw [pw_square, pwN_def, ← e1]
theorem pw_odd (b : Bool) (x e k : Nat) (h : e / 2 ^ k % 2 = 1) : fmlN b (fmlN b (pwN b x e (k + 1)) (pwN b x e (k + 1))) x = pwN b x e k := by
  have e1 := pw_half e k
  rw [h] at e1
  rw [pw_square, fmlN_def, Nat.mod_mul_mod, ← Nat.pow_succ, pwN_def, e1]
theorem put_far {w : World} {g p : Nat} {t : TypeId} {cs : Array Value} (h : Blk w g t cs) (hn : g < p) (y0 y1 y2 y3 : Value) :
    Blk ((((w.setCell ⟨p, 0, none⟩ y0).setCell ⟨p, 1, none⟩ y1).setCell ⟨p, 2, none⟩ y2).setCell ⟨p, 3, none⟩ y3) g t cs :=
  (((h.far (by dsimp only; omega) y0).far (by dsimp only; omega) y1).far (by dsimp only; omega) y2).far (by dsimp only; omega) y3
theorem set_below {B p : Nat} {w W : World} (hb : Below B w W) (hn : B ≤ p) (y0 y1 y2 y3 : Value) :
    Below B w ((((W.setCell ⟨p, 0, none⟩ y0).setCell ⟨p, 1, none⟩ y1).setCell ⟨p, 2, none⟩ y2).setCell ⟨p, 3, none⟩ y3) :=
  (((hb.setCell (p := ⟨p, 0, none⟩) (by dsimp only; omega) y0).setCell (p := ⟨p, 1, none⟩) (by dsimp only; omega) y1).setCell (p := ⟨p, 2, none⟩) (by dsimp only; omega) y2).setCell (p := ⟨p, 3, none⟩) (by dsimp only; omega) y3
def PowRel (base : Bool) (a e : Nat) (w : World) (E Q X R : Nat) (s : Value) (wr : World) : Prop :=
  ∃ k : Nat, k ≤ 256 ∧ s = .int .i64 ((k : Int) - 1) ∧ Blk wr E 24 #[.int .u64 (lb (e) 0), .int .u64 (lb (e) 1), .int .u64 (lb (e) 2), .int .u64 (lb (e) 3)] ∧ Blk wr Q 24 #[.int .u64 0, .int .u64 0, .int .u64 0, .int .u64 0] ∧ Blk wr X 24 #[.int .u64 (lb (tfN base a) 0), .int .u64 (lb (tfN base a) 1), .int .u64 (lb (tfN base a) 2), .int .u64 (lb (tfN base a) 3)] ∧ Blk wr R 24 #[.int .u64 (lb (tfN base (pwN base a e k)) 0), .int .u64 (lb (tfN base (pwN base a e k)) 1), .int .u64 (lb (tfN base (pwN base a e k)) 2), .int .u64 (lb (tfN base (pwN base a e k)) 3)] ∧ Below w.heap.size w wr
theorem pow_put {w wr : World} {E Q X R : Nat} {ce cq cx : Array Value} {x0 x1 x2 x3 : Value} (ke : Blk wr E 24 ce) (kq : Blk wr Q 24 cq) (kX : Blk wr X 24 cx) (kR : Blk wr R 24 #[x0, x1, x2, x3]) (bw : Below w.heap.size w wr) (hE : E < R) (hQ : Q < R) (hX : X < R) (hR : w.heap.size ≤ R) (t : Nat) :
    ∃ wn, ((((wr.setCell ⟨R, 0, none⟩ (.int .u64 (lb t 0))).setCell ⟨R, 1, none⟩ (.int .u64 (lb t 1))).setCell ⟨R, 2, none⟩ (.int .u64 (lb t 2))).setCell ⟨R, 3, none⟩ (.int .u64 (lb t 3))) = wn ∧ Blk wn E 24 ce ∧ Blk wn Q 24 cq ∧ Blk wn X 24 cx ∧ Blk wn R 24 #[.int .u64 (lb (t) 0), .int .u64 (lb (t) 1), .int .u64 (lb (t) 2), .int .u64 (lb (t) 3)] ∧ Below w.heap.size w wn :=
  ⟨_, rfl, put_far ke hE _ _ _ _, put_far kq hQ _ _ _ _, put_far kX hX _ _ _ _, kR.put4 _ _ _ _, set_below bw hR _ _ _ _⟩
section
variable {base : Bool} {f g : Nat} {w : World} (hF : FieldB w f g base)
include hF
theorem way_one : Calls Try.prog 88 #[.pointer (some ⟨g, 0, none⟩), oneV] w fun e w' => e = .returned (.tuple #[num (tfN base 1), .int .i64 0]) ∧ Below w.heap.size w w' := by
  rw [← num_one]; exact way_to hF 1 (pN_one base)
set_option maxHeartbeats 2000000 in
theorem fpow_no (a e : Nat) (ha : a < RR) (h : ¬ a < pN base) : Calls Try.prog 74 #[.pointer (some ⟨f, 0, none⟩), num a, num e] w fun r w' => r = .returned (.tuple #[num 0, .int .i64 20]) ∧ Below w.heap.size w w' := by
  rw [num_zero]
  go_enter Try.func74, Try.ntmps74
  go_wp2_with fail; (with_reducible refine (check_out ((hF.alloc _).alloc _ |>.alloc _) a ha h).mono ?_); rintro e w1 ⟨rfl, h1⟩; have ka := (((Blk.newAt (n := w.heap.size) _ _ _ (by first | rfl | simp)).alloc _).alloc _).after h1; have kb := ((Blk.newAt (n := w.heap.size + 1) _ _ _ (by first | rfl | simp)).alloc _).after h1; have kq := (Blk.newAt (n := w.heap.size + 1 + 1) _ _ _ (by first | rfl | simp)).after h1; have bw := below_call h1 (w := w) (by go_grown); obtain ⟨ka_c, ka_f, ka_l, ka_m, _⟩ := ka.knows; obtain ⟨kb_c, kb_f, kb_l, kb_m, _⟩ := kb.knows; obtain ⟨kq_c, kq_f, kq_l, kq_m, _⟩ := kq.knows
  go_wp2
  have kf := (kq.put4 (.int .u64 0) (.int .u64 0) (.int .u64 0) (.int .u64 0)).knows
  obtain ⟨kf_c, kf_f, kf_l, _⟩ := kf
  refine bodyPost_ret (v := .tuple #[zeroV, .int .i64 20]) (by simp [results, Try.results74, go_sem, kf_c, kf_l]) rfl ?_
  exact ⟨rfl, by go_grown⟩
set_option maxHeartbeats 8000000 in
theorem fpow_yes (a e : Nat) (he : e < RR) (h : a < pN base) : Calls Try.prog 74 #[.pointer (some ⟨f, 0, none⟩), num a, num e] w fun r w' => r = .returned (.tuple #[num (fpwN base a e), .int .i64 0]) ∧ Below w.heap.size w w' := by
  have fl := hF.lt.1
  go_enter Try.func74, Try.ntmps74
  go_wp2_with fail; (with_reducible refine (check_in ((hF.alloc _).alloc _ |>.alloc _) a h).mono ?_); rintro e1 w1 ⟨rfl, h1⟩; have ka := (((Blk.newAt (n := w.heap.size) _ _ _ (by first | rfl | simp)).alloc _).alloc _).after h1; have ke := ((Blk.newAt (n := w.heap.size + 1) _ _ _ (by first | rfl | simp)).alloc _).after h1; have kq := (Blk.newAt (n := w.heap.size + 1 + 1) _ _ _ (by first | rfl | simp)).after h1; have bw := below_call h1 (w := w) (by go_grown); obtain ⟨ka_c, ka_f, ka_l, ka_m, _⟩ := ka.knows; obtain ⟨ke_c, ke_f, ke_l, ke_m, _⟩ := ke.knows; obtain ⟨kq_c, kq_f, kq_l, kq_m, _⟩ := kq.knows
  clear ka_c ka_f ka_l ka_m ke_c ke_f ke_l ke_m kq_c kq_f kq_l kq_m
  go_upto_region 4 with (fail)
  have kF := hF.after bw
  refine wp_region_kinds [10] 11 [(0, 0), (1, 0), (2, 0), (3, 0), (4, 0), (5, 0), (6, 1), (7, 1), (8, 1), (9, 2), (10, 2)] (by kernel_rfl) (by kernel_rfl) ?_
  (refine kind_firm (v := ?_) rfl ?_ ?_; rotate_left; (focus (intro K w' hg hK; go_simp; exact hK _ (Grow.refl _))); refine kinds_put (by (simp only [Act.put, List.setIfInBounds_toArray, List.set_cons_succ, List.set_cons_zero]; try rfl)) ?_)
  (refine kind_firm (v := ?_) rfl ?_ ?_; rotate_left; (focus (intro K w' hg hK; go_simp; exact hK _ (Grow.refl _))); refine kinds_put (by (simp only [Act.put, List.setIfInBounds_toArray, List.set_cons_succ, List.set_cons_zero]; try rfl)) ?_)
  (refine kind_firm (v := ?_) rfl ?_ ?_; rotate_left; (focus (intro K w' hg hK; go_simp; exact hK _ (Grow.refl _))); refine kinds_put (by (simp only [Act.put, List.setIfInBounds_toArray, List.set_cons_succ, List.set_cons_zero]; try rfl)) ?_)
  (refine kind_firm (v := ?_) rfl ?_ ?_; rotate_left; (focus (intro K w' hg hK; have hc1 := (kF.1.drew.after hg).cell; go_simp; exact hK _ (Grow.refl _))); refine kinds_put (by (simp only [Act.put, List.setIfInBounds_toArray, List.set_cons_succ, List.set_cons_zero]; try rfl)) ?_)
  (refine kind_firm (v := ?_) rfl ?_ ?_; rotate_left; (focus (intro K w' hg hK; have hc1 := (ka.drew.after hg).cell; go_simp; exact hK _ (Grow.refl _))); refine kinds_put (by (simp only [Act.put, List.setIfInBounds_toArray, List.set_cons_succ, List.set_cons_zero]; try rfl)) ?_)
  (refine kind_firm (v := ?_) rfl ?_ ?_; rotate_left; (focus (intro K w' hg hK; go_simp; refine Calls.mono (way_to (kF.drew.after hg) a h) ?_; rintro e w'' ⟨rfl, hb⟩; refine ⟨_, rfl, ?_⟩; exact hK _ hb)); refine kinds_put (by (simp only [Act.put, List.setIfInBounds_toArray, List.set_cons_succ, List.set_cons_zero]; try rfl)) ?_)
  (refine kind_pure (v := ?_) rfl ?_ ?_; rotate_left; (focus (intro K w' hK; go_simp; exact hK)); refine kinds_put (by (simp only [Act.put, List.setIfInBounds_toArray, List.set_cons_succ, List.set_cons_zero]; try rfl)) ?_)
  (refine kind_pure (v := ?_) rfl ?_ ?_; rotate_left; (focus (intro K w' hK; go_simp; exact hK)); refine kinds_put (by (simp only [Act.put, List.setIfInBounds_toArray, List.set_cons_succ, List.set_cons_zero]; try rfl)) ?_)
  (refine kind_pure (v := ?_) rfl ?_ ?_; rotate_left; (focus (intro K w' hK; go_simp; exact hK)); refine kinds_put (by (simp only [Act.put, List.setIfInBounds_toArray, List.set_cons_succ, List.set_cons_zero]; try rfl)) ?_)
  (refine kind_loose rfl ?_; intro K wa1 ga1 hK; go_simp; refine hK _ _ (grow_alloc _ _) ?_; clear hK K)
  (refine kind_store rfl rfl ?_; intro K wb1 gb1 hK; have hs := new_num gb1; have sc := hs.cell; have sf := hs.frozen; go_simp; refine hK _ _ ?_; clear hK K)
  refine kind_end ?_
  intro w6 h6
  replace kq := put_num _ _ _ _ kq.drew ga1 gb1 h6
  replace ke := put_num _ _ _ _ ke.drew ga1 gb1 h6
  have kX := put_new _ _ _ _ gb1 h6
  replace bw := put_below _ _ _ _ bw.drew bw.size ga1 gb1 h6
  replace kF := hF.after bw
  clear sc sf hs h6 gb1 ga1 ka
  obtain ⟨kF_c, kF_f, kF_l, _⟩ := kF.1.knows
  go_wp2_with fail
  (with_reducible refine (way_one (hF.after bw)).mono ?_)
  rintro e1 w7 ⟨rfl, h7⟩
  clear kF_c kF_f kF_l kF
  replace kq := kq.after h7
  replace ke := ke.after h7
  replace kX := kX.after h7
  replace bw := below_call h7 bw
  clear h7
  have lX := kX.lt
  have lE := ke.lt
  have lQ := kq.lt
  have lR := bw.size
  go_upto_region 6 with (fail)
  have kR := Blk.new w7 24 #[.int .u64 (lb (tfN base 1) 0), .int .u64 (lb (tfN base 1) 1), .int .u64 (lb (tfN base 1) 2), .int .u64 (lb (tfN base 1) 3)]; replace ke := ke.alloc (.cells #[.int .u64 (lb (tfN base 1) 0), .int .u64 (lb (tfN base 1) 1), .int .u64 (lb (tfN base 1) 2), .int .u64 (lb (tfN base 1) 3)] 24); replace kq := kq.alloc (.cells #[.int .u64 (lb (tfN base 1) 0), .int .u64 (lb (tfN base 1) 1), .int .u64 (lb (tfN base 1) 2), .int .u64 (lb (tfN base 1) 3)] 24); replace kX := kX.alloc (.cells #[.int .u64 (lb (tfN base 1) 0), .int .u64 (lb (tfN base 1) 1), .int .u64 (lb (tfN base 1) 2), .int .u64 (lb (tfN base 1) 3)] 24); replace bw := bw.alloc bw.size (.cells #[.int .u64 (lb (tfN base 1) 0), .int .u64 (lb (tfN base 1) 1), .int .u64 (lb (tfN base 1) 2), .int .u64 (lb (tfN base 1) 3)] 24); generalize w7.heap.size = g_kR at *; generalize w7.alloc _ = W8 at *
  go_wp2
  have gQ : w.heap.size ≤ w.heap.size + 1 + 1 := by omega
  generalize w.heap.size + 1 + 1 = Q at *
  generalize w.heap.size + 1 = E at *
  generalize wa1.heap.size = X at *
  go_loopw [13] (fun s13 wr => PowRel base a e w E Q X g_kR s13 wr) (fun s13 _ => (intOf s13 + 1).toNat)
  case atStart =>
    refine ⟨256, by omega, rfl, ke, kq, kX, ?_, bw⟩
    rw [pw_start base a e he]
    exact kR
  case round =>
    clear ke kq kX kR bw
    unfold PowRel at hrel
    obtain ⟨k, hk, rfl, ke, kq, kX, kR, bw⟩ := hrel
    have kF := hF.after bw
    by_cases hz : 0 < k
    · obtain ⟨n, rfl⟩ : ∃ n, k = n + 1 := ⟨k - 1, by omega⟩
      have hdt : decide (0 ≤ ((n + 1 : Nat) : Int) - 1) = true := decide_eq_true (by omega)
      have hdp : 0 ≤ ((n + 1 : Nat) : Int) - 1 := by omega
      have e1 : ((n + 1 : Nat) : Int) - 1 = (n : Int) := by omega
      rw [e1] at hdt hdp
      rw [e1]
      go_upto_region 9 with (fail)
      refine wp_region_all [10] 11 [(0, 0), (1, 0), (2, 0), (3, 0), (4, 0), (5, 0), (6, 0), (7, 1), (8, 1), (9, 1), (10, 2)] (by kernel_rfl) (by kernel_rfl) ?_
      (refine kind_firm (v := ?_) rfl ?_ ?_; rotate_left; (focus (intro K w' hg hK; go_simp; exact hK _ (Grow.refl _))); refine kinds_put (by (simp only [Act.put, List.setIfInBounds_toArray, List.set_cons_succ, List.set_cons_zero]; try rfl)) ?_)
      (refine kind_firm (v := ?_) rfl ?_ ?_; rotate_left; (focus (intro K w' hg hK; go_simp; exact hK _ (Grow.refl _))); refine kinds_put (by (simp only [Act.put, List.setIfInBounds_toArray, List.set_cons_succ, List.set_cons_zero]; try rfl)) ?_)
      (refine kind_firm (v := ?_) rfl ?_ ?_; rotate_left; (focus (intro K w' hg hK; go_simp; exact hK _ (Grow.refl _))); refine kinds_put (by (simp only [Act.put, List.setIfInBounds_toArray, List.set_cons_succ, List.set_cons_zero]; try rfl)) ?_)
      (refine kind_firm (v := ?_) rfl ?_ ?_; rotate_left; (focus (intro K w' hg hK; have hc1 := (kF.1.drew.after hg).cell; go_simp; exact hK _ (Grow.refl _))); refine kinds_put (by (simp only [Act.put, List.setIfInBounds_toArray, List.set_cons_succ, List.set_cons_zero]; try rfl)) ?_)
      (refine kind_firm (v := ?_) rfl ?_ ?_; rotate_left; (focus (intro K w' hg hK; have hc1 := (kR.drew.after hg).cell; go_simp; exact hK _ (Grow.refl _))); refine kinds_put (by (simp only [Act.put, List.setIfInBounds_toArray, List.set_cons_succ, List.set_cons_zero]; try rfl)) ?_)
      (refine kind_firm (v := ?_) rfl ?_ ?_; rotate_left; (focus (intro K w' hg hK; have hc1 := (kR.drew.after hg).cell; go_simp; exact hK _ (Grow.refl _))); refine kinds_put (by (simp only [Act.put, List.setIfInBounds_toArray, List.set_cons_succ, List.set_cons_zero]; try rfl)) ?_)
      (refine kind_firm (v := ?_) rfl ?_ ?_; rotate_left; (focus (intro K w' hg hK; go_simp; refine Calls.mono (way_mul (kF.drew.after hg) (pwN base a e (n + 1)) (pwN base a e (n + 1))) ?_; rintro e w'' ⟨rfl, hb⟩; refine ⟨_, rfl, ?_⟩; exact hK _ hb)); refine kinds_put (by (simp only [Act.put, List.setIfInBounds_toArray, List.set_cons_succ, List.set_cons_zero]; try rfl)) ?_)
      (refine kind_pure (v := ?_) rfl ?_ ?_; rotate_left; (focus (intro K w' hK; go_simp; exact hK)); refine kinds_put (by (simp only [Act.put, List.setIfInBounds_toArray, List.set_cons_succ, List.set_cons_zero]; try rfl)) ?_)
      (refine kind_pure (v := ?_) rfl ?_ ?_; rotate_left; (focus (intro K w' hK; go_simp; exact hK)); refine kinds_put (by (simp only [Act.put, List.setIfInBounds_toArray, List.set_cons_succ, List.set_cons_zero]; try rfl)) ?_)
      (refine kind_pure (v := ?_) rfl ?_ ?_; rotate_left; (focus (intro K w' hK; go_simp; exact hK)); refine kinds_put (by (simp only [Act.put, List.setIfInBounds_toArray, List.set_cons_succ, List.set_cons_zero]; try rfl)) ?_)
      (refine kind_store rfl rfl ?_; intro K wb1 gb1 hK; have hs := kR.drew.after gb1; have sc := hs.cell; have sf := hs.frozen; go_simp; refine hK _ _ ?_; clear hK K)
      clear sc sf hs
      obtain ⟨W9, hW9, je, jq, jX, jR, jw⟩ := pow_put (ke.drew.after gb1) (kq.drew.after gb1) (kX.drew.after gb1) (kR.drew.after gb1) (below_call gb1 bw.drew) lE lQ lX lR (tfN base (fmlN base (pwN base a e (n + 1)) (pwN base a e (n + 1))))
      rw [hW9]
      clear hW9 gb1 ke kq kX kR bw
      refine kind_end ?_
      intro w2 h2
      replace je := je.after h2
      replace jq := jq.after h2
      replace jX := jX.after h2
      replace jR := jR.after h2
      replace jw := below_call h2 jw
      clear h2
      have kF := hF.after jw
      have hbit := bit_any e (n : Int)
      rw [bitN_in e n (by omega)] at hbit
      obtain ⟨je_c, je_f, je_l, _⟩ := je.knows
      rcases Nat.mod_two_eq_zero_or_one (e / 2 ^ n) with hb | hb
      · rw [hb] at hbit
        have pe := pw_even base a e n hb
        rw [pe] at jR
        go_wp2_with fail
        (with_reducible refine (hbit _).mono ?_)
        rintro e2 w3 ⟨rfl, h3⟩
        clear je_c je_f je_l
        replace ke := je.after h3
        replace kq := jq.after h3
        replace kX := jX.after h3
        replace kR := jR.after h3
        replace bw := below_call h3 jw
        go_wp2_with fail
        exact ⟨⟨n, by omega, rfl, ke, kq, kX, kR, bw⟩, by simp [intOf]⟩
      · rw [hb] at hbit
        have po := pw_odd base a e n hb
        go_wp2_with fail
        (with_reducible refine (hbit _).mono ?_)
        rintro e2 w3 ⟨rfl, h3⟩
        clear je_c je_f je_l
        replace ke := je.after h3
        replace kq := jq.after h3
        replace kX := jX.after h3
        replace kR := jR.after h3
        replace bw := below_call h3 jw
        clear je jq jX jR jw
        replace kF := hF.after bw
        go_upto_region 11 with (fail)
        refine wp_region_all [10] 11 [(0, 0), (1, 0), (2, 0), (3, 0), (4, 0), (5, 0), (6, 0), (7, 1), (8, 1), (9, 1), (10, 2)] (by kernel_rfl) (by kernel_rfl) ?_
        (refine kind_firm (v := ?_) rfl ?_ ?_; rotate_left; (focus (intro K w' hg hK; go_simp; exact hK _ (Grow.refl _))); refine kinds_put (by (simp only [Act.put, List.setIfInBounds_toArray, List.set_cons_succ, List.set_cons_zero]; try rfl)) ?_)
        (refine kind_firm (v := ?_) rfl ?_ ?_; rotate_left; (focus (intro K w' hg hK; go_simp; exact hK _ (Grow.refl _))); refine kinds_put (by (simp only [Act.put, List.setIfInBounds_toArray, List.set_cons_succ, List.set_cons_zero]; try rfl)) ?_)
        (refine kind_firm (v := ?_) rfl ?_ ?_; rotate_left; (focus (intro K w' hg hK; go_simp; exact hK _ (Grow.refl _))); refine kinds_put (by (simp only [Act.put, List.setIfInBounds_toArray, List.set_cons_succ, List.set_cons_zero]; try rfl)) ?_)
        (refine kind_firm (v := ?_) rfl ?_ ?_; rotate_left; (focus (intro K w' hg hK; have hc1 := (kF.1.drew.after hg).cell; go_simp; exact hK _ (Grow.refl _))); refine kinds_put (by (simp only [Act.put, List.setIfInBounds_toArray, List.set_cons_succ, List.set_cons_zero]; try rfl)) ?_)
        (refine kind_firm (v := ?_) rfl ?_ ?_; rotate_left; (focus (intro K w' hg hK; have hc1 := (kR.drew.after hg).cell; go_simp; exact hK _ (Grow.refl _))); refine kinds_put (by (simp only [Act.put, List.setIfInBounds_toArray, List.set_cons_succ, List.set_cons_zero]; try rfl)) ?_)
        (refine kind_firm (v := ?_) rfl ?_ ?_; rotate_left; (focus (intro K w' hg hK; have hc1 := (kX.drew.after hg).cell; go_simp; exact hK _ (Grow.refl _))); refine kinds_put (by (simp only [Act.put, List.setIfInBounds_toArray, List.set_cons_succ, List.set_cons_zero]; try rfl)) ?_)
        (refine kind_firm (v := ?_) rfl ?_ ?_; rotate_left; (focus (intro K w' hg hK; go_simp; refine Calls.mono (way_mul (kF.drew.after hg) (fmlN base (pwN base a e (n + 1)) (pwN base a e (n + 1))) a) ?_; rintro e w'' ⟨rfl, hb⟩; refine ⟨_, rfl, ?_⟩; exact hK _ hb)); refine kinds_put (by (simp only [Act.put, List.setIfInBounds_toArray, List.set_cons_succ, List.set_cons_zero]; try rfl)) ?_)
        (refine kind_pure (v := ?_) rfl ?_ ?_; rotate_left; (focus (intro K w' hK; go_simp; exact hK)); refine kinds_put (by (simp only [Act.put, List.setIfInBounds_toArray, List.set_cons_succ, List.set_cons_zero]; try rfl)) ?_)
        (refine kind_pure (v := ?_) rfl ?_ ?_; rotate_left; (focus (intro K w' hK; go_simp; exact hK)); refine kinds_put (by (simp only [Act.put, List.setIfInBounds_toArray, List.set_cons_succ, List.set_cons_zero]; try rfl)) ?_)
        (refine kind_pure (v := ?_) rfl ?_ ?_; rotate_left; (focus (intro K w' hK; go_simp; exact hK)); refine kinds_put (by (simp only [Act.put, List.setIfInBounds_toArray, List.set_cons_succ, List.set_cons_zero]; try rfl)) ?_)
        (refine kind_store rfl rfl ?_; intro K wb1 gb1 hK; have hs := kR.drew.after gb1; have sc := hs.cell; have sf := hs.frozen; go_simp; refine hK _ _ ?_; clear hK K)
        clear sc sf hs
        obtain ⟨W10, hW10, je, jq, jX, jR, jw⟩ := pow_put (ke.drew.after gb1) (kq.drew.after gb1) (kX.drew.after gb1) (kR.drew.after gb1) (below_call gb1 bw.drew) lE lQ lX lR (tfN base (pwN base a e n))
        rw [hW10]
        clear hW10 gb1 ke kq kX kR bw
        refine kind_end ?_
        intro w2 h2
        replace je := je.after h2
        replace jq := jq.after h2
        replace jX := jX.after h2
        replace jR := jR.after h2
        replace jw := below_call h2 jw
        clear h2
        go_wp2_with fail
        exact ⟨⟨n, by omega, rfl, je, jq, jX, jR, jw⟩, by simp [intOf]⟩
    · obtain rfl : k = 0 := by omega
      have hdt : decide (0 ≤ ((0 : Nat) : Int) - 1) = false := rfl
      have hdp : ¬ 0 ≤ ((0 : Nat) : Int) - 1 := of_decide_eq_false hdt
      have pe := pw_end base a e
      rw [pe] at kR
      go_upto_region 12 with (fail)
      refine wp_region_kinds [8] 9 [(0, 0), (1, 0), (2, 0), (3, 0), (4, 0), (5, 0), (6, 1), (7, 1), (8, 2)] (by kernel_rfl) (by kernel_rfl) ?_
      (refine kind_firm (v := ?_) rfl ?_ ?_; rotate_left; (focus (intro K w' hg hK; go_simp; exact hK _ (Grow.refl _))); refine kinds_put (by (simp only [Act.put, List.setIfInBounds_toArray, List.set_cons_succ, List.set_cons_zero]; try rfl)) ?_)
      (refine kind_firm (v := ?_) rfl ?_ ?_; rotate_left; (focus (intro K w' hg hK; go_simp; exact hK _ (Grow.refl _))); refine kinds_put (by (simp only [Act.put, List.setIfInBounds_toArray, List.set_cons_succ, List.set_cons_zero]; try rfl)) ?_)
      (refine kind_firm (v := ?_) rfl ?_ ?_; rotate_left; (focus (intro K w' hg hK; go_simp; exact hK _ (Grow.refl _))); refine kinds_put (by (simp only [Act.put, List.setIfInBounds_toArray, List.set_cons_succ, List.set_cons_zero]; try rfl)) ?_)
      (refine kind_firm (v := ?_) rfl ?_ ?_; rotate_left; (focus (intro K w' hg hK; have hc1 := (kF.1.drew.after hg).cell; go_simp; exact hK _ (Grow.refl _))); refine kinds_put (by (simp only [Act.put, List.setIfInBounds_toArray, List.set_cons_succ, List.set_cons_zero]; try rfl)) ?_)
      (refine kind_firm (v := ?_) rfl ?_ ?_; rotate_left; (focus (intro K w' hg hK; have hc1 := (kR.drew.after hg).cell; go_simp; exact hK _ (Grow.refl _))); refine kinds_put (by (simp only [Act.put, List.setIfInBounds_toArray, List.set_cons_succ, List.set_cons_zero]; try rfl)) ?_)
      (refine kind_firm (v := ?_) rfl ?_ ?_; rotate_left; (focus (intro K w' hg hK; go_simp; refine Calls.mono (way_from (kF.drew.after hg) (fpwN base a e) (fpwN_lt base a e)) ?_; rintro e w'' ⟨rfl, hb⟩; refine ⟨_, rfl, ?_⟩; exact hK _ hb)); refine kinds_put (by (simp only [Act.put, List.setIfInBounds_toArray, List.set_cons_succ, List.set_cons_zero]; try rfl)) ?_)
      (refine kind_pure (v := ?_) rfl ?_ ?_; rotate_left; (focus (intro K w' hK; go_simp; exact hK)); refine kinds_put (by (simp only [Act.put, List.setIfInBounds_toArray, List.set_cons_succ, List.set_cons_zero]; try rfl)) ?_)
      (refine kind_pure (v := ?_) rfl ?_ ?_; rotate_left; (focus (intro K w' hK; go_simp; exact hK)); refine kinds_put (by (simp only [Act.put, List.setIfInBounds_toArray, List.set_cons_succ, List.set_cons_zero]; try rfl)) ?_)
      (refine kind_store rfl rfl ?_; intro K wb1 gb1 hK; have hs := kq.drew.after gb1; have sc := hs.cell; have sf := hs.frozen; go_simp; refine hK _ _ ?_; clear hK K)
      refine kind_end ?_
      intro w6 h6
      have kf := (hs.put4 (.int .u64 (lb (fpwN base a e) 0)) (.int .u64 (lb (fpwN base a e) 1)) (.int .u64 (lb (fpwN base a e) 2)) (.int .u64 (lb (fpwN base a e) 3))).after h6
      replace bw := put_after gQ _ _ _ _ (below_call gb1 bw.drew) h6
      clear sc sf hs h6 gb1 kq
      obtain ⟨kf_c, kf_f, kf_l, _⟩ := kf.knows
      go_wp2
      refine bodyPost_ret (v := .tuple #[num (fpwN base a e), .int .i64 0]) (by simp [results, Try.results74, go_sem, kf_c, kf_l]) rfl ?_
      exact ⟨rfl, bw⟩
end
end Go.Proofs.Ytbmokmkaebfneaa
