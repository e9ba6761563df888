/- Montgomery's step: limb's reduce. -/
import Derived.Test.YtbmokmkaebfneaaB
import Derived.Test.YtbmokmkaebfneaaC
import Derived.Test.YtbmokmkaebfneaaN
import Derived.Laws.Rows
import Derived.Deep.DeepCutAuto
import Derived.Deep.CutBlock
namespace Go.Proofs.Ytbmokmkaebfneaa
set_option linter.unusedVariables false
set_option linter.unusedSimpArgs false
open Go.RowKit

/-- A block that is a way: the number, R^2 mod it, less its inverse. -/
def MontB (w : World) (b m r2 iv : Nat) : Prop := w.heap[b]? = some (.cells #[.int .u64 (lb m 0), .int .u64 (lb m 1), .int .u64 (lb m 2), .int .u64 (lb m 3), .int .u64 (lb r2 0), .int .u64 (lb r2 1), .int .u64 (lb r2 2), .int .u64 (lb r2 3), .int .u64 (lb iv 0)] 136 (0, 0))
theorem MontB.lt {w : World} {b m r2 iv : Nat} (h : MontB w b m r2 iv) : b < w.heap.size := by
  rcases Nat.lt_or_ge b w.heap.size with hlt | hge
  · exact hlt
  · unfold MontB at h; rw [Array.getElem?_eq_none hge] at h; cases h
theorem MontB.below {w w1 : World} {b m r2 iv : Nat} (h : MontB w b m r2 iv) (hb : Below w.heap.size w w1) : MontB w1 b m r2 iv := (hb.block b h.lt).trans h
theorem MontB.cells {w : World} {b m r2 iv : Nat} (h : MontB w b m r2 iv) :
    w.cell? ⟨b, 0, none⟩ = some (.int .u64 (lb m 0)) ∧ w.cell? ⟨b, 1, none⟩ = some (.int .u64 (lb m 1)) ∧ w.cell? ⟨b, 2, none⟩ = some (.int .u64 (lb m 2)) ∧ w.cell? ⟨b, 3, none⟩ = some (.int .u64 (lb m 3)) ∧
    w.cell? ⟨b, 4, none⟩ = some (.int .u64 (lb r2 0)) ∧ w.cell? ⟨b, 5, none⟩ = some (.int .u64 (lb r2 1)) ∧ w.cell? ⟨b, 6, none⟩ = some (.int .u64 (lb r2 2)) ∧ w.cell? ⟨b, 7, none⟩ = some (.int .u64 (lb r2 3)) ∧ w.cell? ⟨b, 8, none⟩ = some (.int .u64 (lb iv 0)) := by
  refine ⟨?_, ?_, ?_, ?_, ?_, ?_, ?_, ?_, ?_⟩ <;> exact cell_of_row w b _ _ _ (0, 0) h

theorem vv_is : ∃ f : Nat → Nat → Nat → Nat → Nat, ∀ x m iv i, f x m iv i = vvD x m iv i := ⟨vvD, fun _ _ _ _ => rfl⟩
noncomputable def vv : Nat → Nat → Nat → Nat → Nat := Classical.choose vv_is
theorem vv_def (x m iv i : Nat) : vv x m iv i = vvD x m iv i := Classical.choose_spec vv_is x m iv i
theorem qq_is : ∃ f : Nat → Nat → Nat → Nat → Nat, ∀ x m iv i, f x m iv i = qqD (vvD x m iv i) iv i := ⟨fun x m iv i => qqD (vvD x m iv i) iv i, fun _ _ _ _ => rfl⟩
noncomputable def qq : Nat → Nat → Nat → Nat → Nat := Classical.choose qq_is
theorem qq_def (x m iv i : Nat) : qq x m iv i = qqD (vvD x m iv i) iv i := Classical.choose_spec qq_is x m iv i
theorem cc_is : ∃ f : Nat → Nat → Nat → Nat → Nat → Int, ∀ x m iv i j, f x m iv i j = (ccD (vvD x m iv i) (qqD (vvD x m iv i) iv i) m i j : Nat) := ⟨fun x m iv i j => (ccD (vvD x m iv i) (qqD (vvD x m iv i) iv i) m i j : Nat), fun _ _ _ _ _ => rfl⟩
noncomputable def cc : Nat → Nat → Nat → Nat → Nat → Int := Classical.choose cc_is
theorem cc_def (x m iv i j : Nat) : cc x m iv i j = (ccD (vvD x m iv i) (qqD (vvD x m iv i) iv i) m i j : Nat) := Classical.choose_spec cc_is x m iv i j
theorem tp_is : ∃ f : Nat → Nat → Nat → Nat → Int, ∀ x m iv i, f x m iv i = (vvD x m iv i / 18446744073709551616 ^ 8 : Nat) := ⟨fun x m iv i => (vvD x m iv i / 18446744073709551616 ^ 8 : Nat), fun _ _ _ _ => rfl⟩
noncomputable def tp : Nat → Nat → Nat → Nat → Int := Classical.choose tp_is
theorem tp_def (x m iv i : Nat) : tp x m iv i = (vvD x m iv i / 18446744073709551616 ^ 8 : Nat) := Classical.choose_spec tp_is x m iv i
theorem rr_is : ∃ f : Nat → Nat → Nat → Nat, ∀ x m iv, f x m iv = vvD x m iv 4 / 18446744073709551616 ^ 4 % RR := ⟨fun x m iv => vvD x m iv 4 / 18446744073709551616 ^ 4 % RR, fun _ _ _ => rfl⟩
noncomputable def rr : Nat → Nat → Nat → Nat := Classical.choose rr_is
theorem rr_def (x m iv : Nat) : rr x m iv = vvD x m iv 4 / 18446744073709551616 ^ 4 % RR := Classical.choose_spec rr_is x m iv

theorem RR_pow : RR = 18446744073709551616 ^ 4 := by unfold RR; rfl
theorem qq_lt (x m iv i : Nat) : qq x m iv i < 18446744073709551616 := by rw [qq_def]; exact qqD_lt _ _ _
theorem qq_lb (x m iv i : Nat) : lbN (qq x m iv i) 0 = qqD (vvD x m iv i) iv i := by rw [← qq_def, lb0]; exact Nat.mod_eq_of_lt (qq_lt _ _ _ _)
theorem vv_succ (x m iv i : Nat) : vv x m iv (i + 1) = rowD (vvD x m iv i) (qqD (vvD x m iv i) iv i) m i := by rw [vv_def]; rfl
theorem q_wrap (x m iv i : Nat) (hiv : iv < 18446744073709551616) : IntKind.u64.wrap (lb (vv x m iv i) i * lb iv 0) = lb (qq x m iv i) 0 := by
  rw [lb_def, lb_def, lb_def, qq_lb, vv_def, lb0, Nat.mod_eq_of_lt hiv, IntKind.wrap_u64]
  unfold qqD
  rw [← Int.natCast_mul]
  omega
theorem cc_lo (x m iv i j : Nat) : 0 ≤ cc x m iv i j := by rw [cc_def]; omega
theorem cc_hi (x m iv i j : Nat) : cc x m iv i j < 18446744073709551616 := by rw [cc_def]; have := ccD_lt (vvD x m iv i) (qqD (vvD x m iv i) iv i) m i (qqD_lt _ _ _) j; omega
theorem cc_zero (x m iv i : Nat) : cc x m iv i 0 = 0 := by rw [cc_def, ccD_zero]; rfl
/-- The facts of one inner step. -/
theorem red_step (x m iv i j : Nat) :
    (∀ w, Calls Try.prog 78 #[.int .u64 (lb (qq x m iv i) 0), .int .u64 (lb m j)] w fun e w' => e = .returned (.tuple #[.int .u64 (mh (lb (qq x m iv i) 0) (lb m j)), .int .u64 (ml (lb (qq x m iv i) 0) (lb m j))]) ∧ w = w') ∧
    (∀ w, (callFunc 76 #[.int .u64 (ml (lb (qq x m iv i) 0) (lb m j)), .int .u64 (lb (vv x m iv i) (i + j)), .int .u64 0]).run Try.prog w = .ok (.value (.tuple #[.int .u64 (sl (ml (lb (qq x m iv i) 0) (lb m j)) (lb (vv x m iv i) (i + j))), .int .u64 (sh (ml (lb (qq x m iv i) 0) (lb m j)) (lb (vv x m iv i) (i + j)))])) w) ∧
    (∀ w, (callFunc 76 #[.int .u64 (sl (ml (lb (qq x m iv i) 0) (lb m j)) (lb (vv x m iv i) (i + j))), .int .u64 (cc x m iv i j), .int .u64 0]).run Try.prog w = .ok (.value (.tuple #[.int .u64 (lb (vv x m iv (i + 1)) (i + j)), .int .u64 (sh (sl (ml (lb (qq x m iv i) 0) (lb m j)) (lb (vv x m iv i) (i + j))) (cc x m iv i j))])) w) ∧
    0 ≤ mh (lb (qq x m iv i) 0) (lb m j) ∧ 0 ≤ sh (ml (lb (qq x m iv i) 0) (lb m j)) (lb (vv x m iv i) (i + j)) ∧ 0 ≤ sh (sl (ml (lb (qq x m iv i) 0) (lb m j)) (lb (vv x m iv i) (i + j))) (cc x m iv i j) ∧
    mh (lb (qq x m iv i) 0) (lb m j) + sh (ml (lb (qq x m iv i) 0) (lb m j)) (lb (vv x m iv i) (i + j)) + sh (sl (ml (lb (qq x m iv i) 0) (lb m j)) (lb (vv x m iv i) (i + j))) (cc x m iv i j) = cc x m iv i (j + 1) ∧ cc x m iv i (j + 1) ≤ 18446744073709551615 := by
  obtain ⟨r1, r2, r3, r4, r5, r6, r7, r8, r9, r10⟩ := inner_step (lb (qq x m iv i) 0) (lb m j) (lb (vv x m iv i) (i + j)) (cc x m iv i j) (lb_lo _ _) (lb_hi _ _) (lb_lo _ _) (lb_hi _ _) (lb_lo _ _) (lb_hi _ _) (cc_lo _ _ _ _ _) (cc_hi _ _ _ _ _)
  have e1 : (lb (qq x m iv i) 0 * lb m j + lb (vv x m iv i) (i + j) + cc x m iv i j) % 18446744073709551616 = lb (vv x m iv (i + 1)) (i + j) := by
    rw [vv_succ, lb_def, lb_def, lb_def, lb_def, qq_lb, cc_def, vv_def, row_word]
    omega
  have e2 : (lb (qq x m iv i) 0 * lb m j + lb (vv x m iv i) (i + j) + cc x m iv i j) / 18446744073709551616 = cc x m iv i (j + 1) := by
    rw [lb_def, lb_def, lb_def, qq_lb, cc_def, cc_def, vv_def, ccD_succ]
    omega
  refine ⟨fun w => mul64 _ _ (lb_lo _ _) (lb_hi _ _) (lb_lo _ _) (lb_hi _ _) w, fun w => add64s _ _ r2 (lb_lo _ _) w, fun w => ?_, r1, r3, r6, r9.trans e2, by rw [← e2, ← r9]; omega⟩
  rw [add64s _ _ r5 (cc_lo _ _ _ _ _) w, r10, e1]
theorem lbN_high (m j : Nat) (hm : m < RR) (hj : 4 ≤ j) : lbN m j = 0 := by
  rw [lbN_eq, Nat.div_eq_of_lt, Nat.zero_mod]
  rw [RR_pow] at hm
  exact Nat.lt_of_lt_of_le hm (Nat.pow_le_pow_right (by omega) hj)
/-- The facts of a step that hands the carry on. -/
theorem red_on (x m iv i j : Nat) (hm : m < RR) (hj : 4 ≤ j) :
    (∀ w, (callFunc 76 #[.int .u64 (lb (vv x m iv i) (i + j)), .int .u64 (cc x m iv i j), .int .u64 0]).run Try.prog w = .ok (.value (.tuple #[.int .u64 (lb (vv x m iv (i + 1)) (i + j)), .int .u64 (cc x m iv i (j + 1))])) w) := by
  intro w
  have h0 := lbN_high m j hm hj
  have e1 : (lb (vv x m iv i) (i + j) + cc x m iv i j) % 18446744073709551616 = lb (vv x m iv (i + 1)) (i + j) := by
    rw [vv_succ, lb_def, lb_def, cc_def, vv_def, row_word, h0]
    omega
  have e2 : (lb (vv x m iv i) (i + j) + cc x m iv i j) / 18446744073709551616 = cc x m iv i (j + 1) := by
    rw [lb_def, cc_def, cc_def, vv_def, ccD_succ, h0]
    omega
  rw [add64s _ _ (lb_lo _ _) (cc_lo _ _ _ _ _) w, sl_def, sh_def, e1, e2]
theorem vv_zero (x m iv : Nat) : vv x m iv 0 = x := by rw [vv_def]; rfl
theorem tp_zero (x m iv : Nat) (hx : x < 18446744073709551616 ^ 8) : tp x m iv 0 = 0 := by rw [tp_def]; unfold vvD; rw [Nat.div_eq_of_lt hx]; rfl
theorem tp_succ (x m iv i : Nat) (hi : i < 4) (hm : m < RR) : tp x m iv i + cc x m iv i (8 - i) = tp x m iv (i + 1) := by
  rw [RR_pow] at hm
  have h := row_top (vvD x m iv i) (qqD (vvD x m iv i) iv i) m i (by omega) hm
  rw [tp_def, tp_def, cc_def]
  have e : vvD x m iv (i + 1) = rowD (vvD x m iv i) (qqD (vvD x m iv i) iv i) m i := rfl
  rw [e, h]
  omega
theorem tp_lo (x m iv i : Nat) : 0 ≤ tp x m iv i := by rw [tp_def]; omega
theorem lb_rr (x m iv k : Nat) (hk : k < 4) : lb (vv x m iv 4) (k + 4) = lb (rr x m iv) k := by
  rw [rr_def, lb_mod_RR _ hk, lb_def, lb_def, vv_def, lbN_eq, lbN_eq, Nat.div_div_eq_div_mul, ← Nat.pow_add, Nat.add_comm k 4]
theorem rr_lt (x m iv : Nat) : rr x m iv < RR := by rw [rr_def]; exact Nat.mod_lt _ (by unfold RR; omega)
/-- F = t R + r below 2 m, less m if it is m at least, is F mod m. -/
theorem final_sub (F t r m : Nat) (hm : m < RR) (hF : F < 2 * m) (hr : r < RR) (e : F = t * RR + r) (b : Int) (hb : b = bo r m 4) (x : Int)
    (hx : x % 2 = if t = 1 then 1 else 1 - b) : selN x (subN r m) r = F % m := by
  have hb4 := bo_four r m hr hm
  have ht : t = 0 ∨ t = 1 := by
    rcases Nat.lt_or_ge t 2 with h | h
    · omega
    · have : 2 * RR ≤ t * RR := Nat.mul_le_mul_right _ h
      omega
  rcases ht with rfl | rfl
  · rw [Nat.zero_mul, Nat.zero_add] at e
    subst e
    have hx' : x % 2 = 1 - bo F m 4 := by rw [hx, if_neg (by omega), hb]
    rw [hb4] at hx'
    rw [selN_def]
    by_cases h : F < m
    · rw [if_pos h] at hx'
      rw [if_neg (by omega), Nat.mod_eq_of_lt h]
    · rw [if_neg h] at hx'
      rw [if_pos (by omega), subN_def]
      have e1 : F + RR - m = (F - m) + RR := by omega
      rw [e1, Nat.add_mod_right, Nat.mod_eq_of_lt (by omega), Nat.mod_eq_sub_mod (by omega), Nat.mod_eq_of_lt (by omega)]
  · rw [Nat.one_mul] at e
    rw [if_pos rfl] at hx
    rw [selN_def, if_pos hx, subN_def]
    have e1 : r + RR - m = F - m := by omega
    rw [e1, Nat.mod_eq_of_lt (by omega), Nat.mod_eq_sub_mod (by omega), Nat.mod_eq_of_lt (by omega)]
theorem or_parity (t b : Int) (ht : t = 0 ∨ t = 1) (hb : b = 0 ∨ b = 1) : bits .or .u64 t (1 - b) % 2 = if t = 1 then 1 else 1 - b := by
  rcases ht with rfl | rfl <;> rcases hb with rfl | rfl <;> rfl
theorem or_bounds (t b : Int) (ht : t = 0 ∨ t = 1) (hb : b = 0 ∨ b = 1) : 0 ≤ bits .or .u64 t (1 - b) ∧ bits .or .u64 t (1 - b) < 18446744073709551616 := by
  rcases ht with rfl | rfl <;> rcases hb with rfl | rfl <;> exact ⟨by decide, by decide⟩

def RedCut (x m iv : Nat) (w : World) (s5 : Value) (wx : World) : Prop := s5 = .int .u64 (tp x m iv 4) ∧ Below w.heap.size w wx ∧ w.heap.size + 1 < wx.heap.size ∧ wx.cell? ⟨w.heap.size, 4, none⟩ = some (.int .u64 (lb (rr x m iv) 0)) ∧ wx.cell? ⟨w.heap.size, 5, none⟩ = some (.int .u64 (lb (rr x m iv) 1)) ∧ wx.cell? ⟨w.heap.size, 6, none⟩ = some (.int .u64 (lb (rr x m iv) 2)) ∧ wx.cell? ⟨w.heap.size, 7, none⟩ = some (.int .u64 (lb (rr x m iv) 3)) ∧ wx.cell? ⟨w.heap.size + 1, 0, none⟩ = some (.int .u64 0) ∧ wx.frozen? ⟨w.heap.size + 1, 0, none⟩ = false ∧ wx.cell? ⟨w.heap.size + 1, 1, none⟩ = some (.int .u64 0) ∧ wx.frozen? ⟨w.heap.size + 1, 1, none⟩ = false ∧ wx.cell? ⟨w.heap.size + 1, 2, none⟩ = some (.int .u64 0) ∧ wx.frozen? ⟨w.heap.size + 1, 2, none⟩ = false ∧ wx.cell? ⟨w.heap.size + 1, 3, none⟩ = some (.int .u64 0) ∧ wx.frozen? ⟨w.heap.size + 1, 3, none⟩ = false
theorem red_cut_of (x m iv : Nat) (w : World) (v0 v1 v2 v3 : Value) :
    RedCut x m iv w (.int .u64 (tp x m iv 4)) ((w.alloc (.cells #[v0, v1, v2, v3, .int .u64 (lb (rr x m iv) 0), .int .u64 (lb (rr x m iv) 1), .int .u64 (lb (rr x m iv) 2), .int .u64 (lb (rr x m iv) 3)] 81)).alloc (.cells #[.int .u64 0, .int .u64 0, .int .u64 0, .int .u64 0] 24)).drew.drew.drew.drew := by
  unfold RedCut
  refine ⟨rfl, (by go_grown), (by simp), ?_⟩
  simp
set_option maxHeartbeats 8000000 in
set_option maxRecDepth 100000 in
theorem reduce_walk (b x m r2 iv : Nat) (w : World) (hM : MontB w b m r2 iv) (hm : m < RR) (hiv : iv < 18446744073709551616) (hx : x < 18446744073709551616 ^ 8) (ht : ∀ i, i ≤ 4 → tp x m iv i ≤ 1) :
    Calls Try.prog 96 #[.pointer (some ⟨b, 0, none⟩), wide x] w fun e w' => e = .returned (num (selN (bits .or .u64 (tp x m iv 4) (1 - bo (rr x m iv) m 4)) (subN (rr x m iv) m) (rr x m iv))) ∧ Below w.heap.size w w' := by
  have hbl := hM.lt
  have hbl1 : b < w.heap.size + 1 := by omega
  have hbl2 : b < w.heap.size + 1 + 1 := by omega
  obtain ⟨n0, n1, n2, n3, _, _, _, _, n8⟩ := hM.cells
  have i0 : ∀ n w, (Instr.index 24 (num n) (.int .i64 0)).run Try.prog w = .ok (.int .u64 (lb n 0)) w := fun _ _ => by kernel_rfl
  have i1 : ∀ n w, (Instr.index 24 (num n) (.int .i64 1)).run Try.prog w = .ok (.int .u64 (lb n 1)) w := fun _ _ => by kernel_rfl
  have i2 : ∀ n w, (Instr.index 24 (num n) (.int .i64 2)).run Try.prog w = .ok (.int .u64 (lb n 2)) w := fun _ _ => by kernel_rfl
  have i3 : ∀ n w, (Instr.index 24 (num n) (.int .i64 3)).run Try.prog w = .ok (.int .u64 (lb n 3)) w := fun _ _ => by kernel_rfl
  have v0 := vv_zero x m iv
  have H0 := Lib.hid v0
  have v1 : wide x = wide (vv x m iv 0) := by rw [v0]
  rw [v1]
  clear v0 v1
  go_enter Try.func96, Try.ntmps96
  go_upto_block 0 with (fail)
  go_cut [5] (fun s5 wx => RedCut x m iv w s5 wx)
  case first =>
   as_aux_lemma =>
    go_wp2
    refine wp_loop_rounds 5 ?_
    rw [rounds_succ]
    have qw := q_wrap x m iv 0 hiv
    go_wp2; go_region; go_wp2
    obtain ⟨m0, p0, q0, g0, h0, f0, s0, u0⟩ := red_step x m iv 0 0
    simp only [Nat.reduceAdd, cc_zero] at p0 q0 h0 f0 s0 u0
    obtain ⟨m1, p1, q1, g1, h1, f1, s1, u1⟩ := red_step x m iv 0 1
    simp only [Nat.reduceAdd] at p1 q1 h1 f1 s1 u1
    obtain ⟨m2, p2, q2, g2, h2, f2, s2, u2⟩ := red_step x m iv 0 2
    simp only [Nat.reduceAdd] at p2 q2 h2 f2 s2 u2
    obtain ⟨m3, p3, q3, g3, h3, f3, s3, u3⟩ := red_step x m iv 0 3
    simp only [Nat.reduceAdd] at p3 q3 h3 f3 s3 u3
    have d4 := red_on x m iv 0 4 hm (by omega); simp only [Nat.reduceAdd] at d4
    have d5 := red_on x m iv 0 5 hm (by omega); simp only [Nat.reduceAdd] at d5
    have d6 := red_on x m iv 0 6 hm (by omega); simp only [Nat.reduceAdd] at d6
    have d7 := red_on x m iv 0 7 hm (by omega); simp only [Nat.reduceAdd] at d7
    have ts := tp_succ x m iv 0 (by omega) hm; simp only [Nat.reduceAdd, Nat.reduceSub, tp_zero x m iv hx, Int.zero_add] at ts
    have tu := ht 1 (by omega); have tl := tp_lo x m iv 1
    refine wp_loop_rounds 5 ?_
    rw [rounds_succ]; go_wp2_with (go_at_call 78; refine (m0 _).mono ?_; rintro e w1 ⟨rfl, rfl⟩)
    rw [rounds_succ]; go_wp2_with (go_at_call 78; refine (m1 _).mono ?_; rintro e w1 ⟨rfl, rfl⟩)
    rw [rounds_succ]; go_wp2_with (go_at_call 78; refine (m2 _).mono ?_; rintro e w1 ⟨rfl, rfl⟩)
    rw [rounds_succ]; go_wp2_with (go_at_call 78; refine (m3 _).mono ?_; rintro e w1 ⟨rfl, rfl⟩)
    rw [rounds_succ]; go_wp2
    refine wp_loop_rounds 5 ?_
    rw [rounds_succ]; go_wp2
    rw [rounds_succ]; go_wp2
    rw [rounds_succ]; go_wp2
    rw [rounds_succ]; go_wp2
    rw [rounds_succ]; go_wp2
    clear qw m0 p0 q0 g0 h0 f0 s0 u0 m1 p1 q1 g1 h1 f1 s1 u1 m2 p2 q2 g2 h2 f2 s2 u2 m3 p3 q3 g3 h3 f3 s3 u3 ts tu tl d4 d5 d6 d7
    rw [rounds_succ]
    have qw := q_wrap x m iv 1 hiv
    go_wp2; go_region; go_wp2
    obtain ⟨m0, p0, q0, g0, h0, f0, s0, u0⟩ := red_step x m iv 1 0
    simp only [Nat.reduceAdd, cc_zero] at p0 q0 h0 f0 s0 u0
    obtain ⟨m1, p1, q1, g1, h1, f1, s1, u1⟩ := red_step x m iv 1 1
    simp only [Nat.reduceAdd] at p1 q1 h1 f1 s1 u1
    obtain ⟨m2, p2, q2, g2, h2, f2, s2, u2⟩ := red_step x m iv 1 2
    simp only [Nat.reduceAdd] at p2 q2 h2 f2 s2 u2
    obtain ⟨m3, p3, q3, g3, h3, f3, s3, u3⟩ := red_step x m iv 1 3
    simp only [Nat.reduceAdd] at p3 q3 h3 f3 s3 u3
    have d4 := red_on x m iv 1 4 hm (by omega); simp only [Nat.reduceAdd] at d4
    have d5 := red_on x m iv 1 5 hm (by omega); simp only [Nat.reduceAdd] at d5
    have d6 := red_on x m iv 1 6 hm (by omega); simp only [Nat.reduceAdd] at d6
    have ts := tp_succ x m iv 1 (by omega) hm; simp only [Nat.reduceAdd, Nat.reduceSub] at ts
    have tu := ht 2 (by omega); have tl := tp_lo x m iv 2
    refine wp_loop_rounds 5 ?_
    rw [rounds_succ]; go_wp2_with (go_at_call 78; refine (m0 _).mono ?_; rintro e w1 ⟨rfl, rfl⟩)
    rw [rounds_succ]; go_wp2_with (go_at_call 78; refine (m1 _).mono ?_; rintro e w1 ⟨rfl, rfl⟩)
    rw [rounds_succ]; go_wp2_with (go_at_call 78; refine (m2 _).mono ?_; rintro e w1 ⟨rfl, rfl⟩)
    rw [rounds_succ]; go_wp2_with (go_at_call 78; refine (m3 _).mono ?_; rintro e w1 ⟨rfl, rfl⟩)
    rw [rounds_succ]; go_wp2
    refine wp_loop_rounds 4 ?_
    rw [rounds_succ]; go_wp2
    rw [rounds_succ]; go_wp2
    rw [rounds_succ]; go_wp2
    rw [rounds_succ]; go_wp2
    clear qw m0 p0 q0 g0 h0 f0 s0 u0 m1 p1 q1 g1 h1 f1 s1 u1 m2 p2 q2 g2 h2 f2 s2 u2 m3 p3 q3 g3 h3 f3 s3 u3 ts tu tl d4 d5 d6
    rw [rounds_succ]
    have qw := q_wrap x m iv 2 hiv
    go_wp2; go_region; go_wp2
    obtain ⟨m0, p0, q0, g0, h0, f0, s0, u0⟩ := red_step x m iv 2 0
    simp only [Nat.reduceAdd, cc_zero] at p0 q0 h0 f0 s0 u0
    obtain ⟨m1, p1, q1, g1, h1, f1, s1, u1⟩ := red_step x m iv 2 1
    simp only [Nat.reduceAdd] at p1 q1 h1 f1 s1 u1
    obtain ⟨m2, p2, q2, g2, h2, f2, s2, u2⟩ := red_step x m iv 2 2
    simp only [Nat.reduceAdd] at p2 q2 h2 f2 s2 u2
    obtain ⟨m3, p3, q3, g3, h3, f3, s3, u3⟩ := red_step x m iv 2 3
    simp only [Nat.reduceAdd] at p3 q3 h3 f3 s3 u3
    have d4 := red_on x m iv 2 4 hm (by omega); simp only [Nat.reduceAdd] at d4
    have d5 := red_on x m iv 2 5 hm (by omega); simp only [Nat.reduceAdd] at d5
    have ts := tp_succ x m iv 2 (by omega) hm; simp only [Nat.reduceAdd, Nat.reduceSub] at ts
    have tu := ht 3 (by omega); have tl := tp_lo x m iv 3
    refine wp_loop_rounds 5 ?_
    rw [rounds_succ]; go_wp2_with (go_at_call 78; refine (m0 _).mono ?_; rintro e w1 ⟨rfl, rfl⟩)
    rw [rounds_succ]; go_wp2_with (go_at_call 78; refine (m1 _).mono ?_; rintro e w1 ⟨rfl, rfl⟩)
    rw [rounds_succ]; go_wp2_with (go_at_call 78; refine (m2 _).mono ?_; rintro e w1 ⟨rfl, rfl⟩)
    rw [rounds_succ]; go_wp2_with (go_at_call 78; refine (m3 _).mono ?_; rintro e w1 ⟨rfl, rfl⟩)
    rw [rounds_succ]; go_wp2
    refine wp_loop_rounds 3 ?_
    rw [rounds_succ]; go_wp2
    rw [rounds_succ]; go_wp2
    rw [rounds_succ]; go_wp2
    clear qw m0 p0 q0 g0 h0 f0 s0 u0 m1 p1 q1 g1 h1 f1 s1 u1 m2 p2 q2 g2 h2 f2 s2 u2 m3 p3 q3 g3 h3 f3 s3 u3 ts tu tl d4 d5
    rw [rounds_succ]
    have qw := q_wrap x m iv 3 hiv
    go_wp2; go_region; go_wp2
    obtain ⟨m0, p0, q0, g0, h0, f0, s0, u0⟩ := red_step x m iv 3 0
    simp only [Nat.reduceAdd, cc_zero] at p0 q0 h0 f0 s0 u0
    obtain ⟨m1, p1, q1, g1, h1, f1, s1, u1⟩ := red_step x m iv 3 1
    simp only [Nat.reduceAdd] at p1 q1 h1 f1 s1 u1
    obtain ⟨m2, p2, q2, g2, h2, f2, s2, u2⟩ := red_step x m iv 3 2
    simp only [Nat.reduceAdd] at p2 q2 h2 f2 s2 u2
    obtain ⟨m3, p3, q3, g3, h3, f3, s3, u3⟩ := red_step x m iv 3 3
    simp only [Nat.reduceAdd] at p3 q3 h3 f3 s3 u3
    have d4 := red_on x m iv 3 4 hm (by omega); simp only [Nat.reduceAdd] at d4
    have ts := tp_succ x m iv 3 (by omega) hm; simp only [Nat.reduceAdd, Nat.reduceSub] at ts
    have tu := ht 4 (by omega); have tl := tp_lo x m iv 4
    refine wp_loop_rounds 5 ?_
    rw [rounds_succ]; go_wp2_with (go_at_call 78; refine (m0 _).mono ?_; rintro e w1 ⟨rfl, rfl⟩)
    rw [rounds_succ]; go_wp2_with (go_at_call 78; refine (m1 _).mono ?_; rintro e w1 ⟨rfl, rfl⟩)
    rw [rounds_succ]; go_wp2_with (go_at_call 78; refine (m2 _).mono ?_; rintro e w1 ⟨rfl, rfl⟩)
    rw [rounds_succ]; go_wp2_with (go_at_call 78; refine (m3 _).mono ?_; rintro e w1 ⟨rfl, rfl⟩)
    rw [rounds_succ]; go_wp2
    refine wp_loop_rounds 2 ?_
    rw [rounds_succ]; go_wp2
    rw [rounds_succ]; go_wp2
    clear qw m0 p0 q0 g0 h0 f0 s0 u0 m1 p1 q1 g1 h1 f1 s1 u1 m2 p2 q2 g2 h2 f2 s2 u2 m3 p3 q3 g3 h3 f3 s3 u3 ts tu tl d4
    have z0 := lb_rr x m iv 0 (by omega)
    have z1 := lb_rr x m iv 1 (by omega)
    have z2 := lb_rr x m iv 2 (by omega)
    have z3 := lb_rr x m iv 3 (by omega)
    simp only [Nat.reduceAdd] at z0 z1 z2 z3
    rw [rounds_succ]; go_wp2_with fail
    go_meet
    exact red_cut_of x m iv w _ _ _ _
  case rest =>
   as_aux_lemma =>
    unfold RedCut at hcut
    obtain ⟨rfl, hb0, hs1, r0, r1, r2, r3, a0, b0, a1, b1, a2, b2, a3, b3⟩ := hcut
    have bl := bo_lo (rr x m iv) m 4
    have bh := bo_hi (rr x m iv) m 4
    have tl := tp_lo x m iv 4
    have th := ht 4 (by omega)
    have ob := or_bounds (tp x m iv 4) (bo (rr x m iv) m 4) (by omega) (by omega)
    have hbc : b < wc.heap.size := by omega
    have mc := (hM.below hb0).cells
    obtain ⟨n0, n1, n2, n3, _, _, _, _, n8⟩ := mc
    have hbc1 : b < wc.heap.size + 1 := by omega
    have hs0 : w.heap.size < wc.heap.size := by omega
    have hne1 : ¬ wc.heap.size = w.heap.size := by omega
    have hne2 : ¬ w.heap.size = wc.heap.size := by omega
    go_wp2
    go_region_held3 (fun w' => w'.cell? ⟨wc.heap.size, 0, none⟩ = some (.int .u64 (lb (rr x m iv) 0)) ∧ w'.cell? ⟨wc.heap.size, 1, none⟩ = some (.int .u64 (lb (rr x m iv) 1)) ∧ w'.cell? ⟨wc.heap.size, 2, none⟩ = some (.int .u64 (lb (rr x m iv) 2)) ∧ w'.cell? ⟨wc.heap.size, 3, none⟩ = some (.int .u64 (lb (rr x m iv) 3)) ∧ w'.cell? ⟨b, 0, none⟩ = some (.int .u64 (lb m 0)) ∧ w'.cell? ⟨b, 1, none⟩ = some (.int .u64 (lb m 1)) ∧ w'.cell? ⟨b, 2, none⟩ = some (.int .u64 (lb m 2)) ∧ w'.cell? ⟨b, 3, none⟩ = some (.int .u64 (lb m 3))) (first | (simp only [go_sem, n0, n1, n2, n3, hbc, hbc1]; done) | (simp [go_sem, n0, n1, n2, n3, hbc, hbc1]; done) | (simp [go_sem, *]; done)) (first | (go_at_call 73; refine (sub_any (rr x m iv) m hm _).mono ?_; rintro e w1 ⟨rfl, hbw1⟩; have b_w1 := below_call hbw1 (w := w) (by go_grown); have b_w1_wc := below_call hbw1 (w := wc) (by go_grown); have s_w1 := b_w1.size; have s_w1_wc := b_w1_wc.size; obtain ⟨cw1, fw1, zw1⟩ := bcell hbw1; (try simp only [World.size_alloc, World.size_setCell, World.size_drew] at zw1 cw1 fw1); (try have zw1_wc_0 : wc.heap.size < w1.heap.size := (by omega)); (try have zw1_wc_1 : wc.heap.size + 1 < w1.heap.size := (by omega)); have zw1_w_0 : w.heap.size < w1.heap.size := (by omega); have zw1_w_1 : w.heap.size + 1 < w1.heap.size := (by omega); (try have zw1_b : b < w1.heap.size := (by omega)); clear zw1 hbw1))
    all_goals
      go_wp2_with (go_at_call 85; refine (select_any _ (subN (rr x m iv) m) (rr x m iv) ob.1 ob.2 _).mono ?_; rintro e w2 ⟨rfl, hbw2⟩; have bx := below_call hbw2 (w := wc) (by go_grown); have b_w2 := below_call hbw2 (w := w) (by go_grown); clear hbw2; have a0x := (bx.cell (p := ⟨w.heap.size + 1, 0, none⟩) hs1).trans a0; have b0x := (bx.frozen (p := ⟨w.heap.size + 1, 0, none⟩) hs1).trans b0; have a1x := (bx.cell (p := ⟨w.heap.size + 1, 1, none⟩) hs1).trans a1; have b1x := (bx.frozen (p := ⟨w.heap.size + 1, 1, none⟩) hs1).trans b1; have a2x := (bx.cell (p := ⟨w.heap.size + 1, 2, none⟩) hs1).trans a2; have b2x := (bx.frozen (p := ⟨w.heap.size + 1, 2, none⟩) hs1).trans b2; have a3x := (bx.cell (p := ⟨w.heap.size + 1, 3, none⟩) hs1).trans a3; have b3x := (bx.frozen (p := ⟨w.heap.size + 1, 3, none⟩) hs1).trans b3; have hsx : w.heap.size + 1 < w2.heap.size := Nat.lt_of_lt_of_le hs1 bx.size)
      refine bodyPost_ret (v := num (selN (bits .or .u64 (tp x m iv 4) (1 - bo (rr x m iv) m 4)) (subN (rr x m iv) m) (rr x m iv))) (by simp [results, Try.results96, go_sem, a0x, a1x, a2x, a3x]) rfl ?_
      refine ⟨rfl, ?_⟩
      go_grown
end Go.Proofs.Ytbmokmkaebfneaa

