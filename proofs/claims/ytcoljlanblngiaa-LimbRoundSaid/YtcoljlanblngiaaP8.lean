/- The document's answer for layer 1: a difference and its borrow. -/
import Derived.Test.YtcoljlanblngiaaP6
import Derived.Test.YtcoljlanblngiaaP7
namespace Go.Proofs.Ytcoljlanblngiaa
set_option linter.unusedVariables false
set_option linter.unusedSimpArgs false
open Go.RowKit Go.Proofs.YtcoljlanblngiaaW.PrintWords

theorem over_list : (dgs 0 17).set 16 1 = dgs RR 17 := by unfold RR; decide +kernel
theorem over_set (x : Int) (hx : x = 1) : (madeCells #[.int .i64 0] 17).setIfInBounds 16 (.int .i64 x) = intsA (dgs RR 17) := by
  rw [hx, intsA_zeros, intsA_set, over_list]
theorem plen_over (a : Nat) (ha : a < RR) : plen a RR (max 16 17) = 17 := by
  rw [show max 16 17 = 17 from rfl]
  unfold plen
  rw [if_pos (by unfold RR at *; omega)]
theorem over_zero : (madeCells #[.int .i64 0] 17)[16]? = some (.int .i64 0) := by
  rw [intsA_zeros, intsA_get _ _ 0 (by rw [dgs_get 0 17 16 (by omega)]; rfl)]
theorem Blk.put4 {w : World} {g : Nat} {t : TypeId} {x0 x1 x2 x3 : Value} (h : Blk w g t #[x0, x1, x2, x3]) (y0 y1 y2 y3 : Value) :
    Blk ((((w.setCell ⟨g, 0, none⟩ y0).setCell ⟨g, 1, none⟩ y1).setCell ⟨g, 2, none⟩ y2).setCell ⟨g, 3, none⟩ y3) g t #[y0, y1, y2, y3] := (((h.set_ 0 y0).set_ 1 y1).set_ 2 y2).set_ 3 y3
set_option maxHeartbeats 2000000 in
theorem rsub_any (a b : Nat) (ha : a < RR) (hb : b < RR) (w : World) : Calls Try.prog 22 #[num a, num b] w fun e w' => e = .returned (.tuple #[num (subN a b), .int .u64 (bo a b 4)]) ∧ Below w.heap.size w w' := by
  have a16 : a < 65536 ^ 16 := by unfold RR at ha; omega
  have b16 : b < 65536 ^ 16 := by unfold RR at hb; omega
  have b1 := bo_four a b ha hb
  by_cases h : a < b
  · have cN : cmpN a b = -1 := by rw [cmpN_def, if_pos h]
    rw [if_pos h] at b1
    go_enter Try.func22, Try.ntmps22
    go_wp2_with fail; (with_reducible refine (digits_any a _).mono ?_); rintro e w1 ⟨v1, rfl, o1, h1⟩; obtain ⟨A1, c1, rfl, hc1, D1⟩ := digs_of o1; clear o1; have ka := (((Blk.newAt (n := w.heap.size) _ _ _ (by first | rfl | simp)).alloc _).alloc _).after h1; have kb := ((Blk.newAt (n := w.heap.size + 1) _ _ _ (by first | rfl | simp)).alloc _).after h1; have kq := (Blk.newAt (n := w.heap.size + 1 + 1) _ _ _ (by first | rfl | simp)).after h1; have bw := below_call h1 (w := w) (by go_grown); obtain ⟨ka_c, ka_f, ka_l, ka_m, _⟩ := ka.knows; obtain ⟨kb_c, kb_f, kb_l, kb_m, _⟩ := kb.knows; obtain ⟨kq_c, kq_f, kq_l, kq_m, _⟩ := kq.knows
    go_wp2_with fail; (with_reducible refine (digits_any b _).mono ?_); rintro e w2 ⟨v2, rfl, o2, h2⟩; obtain ⟨A2, c2, rfl, hc2, D2⟩ := digs_of o2; clear o2; replace D1 := D1.after h2; clear ka_c ka_f ka_l ka_m kb_c kb_f kb_l kb_m kq_c kq_f kq_l kq_m; (first | replace ka := ka.after h2 | replace ka := (ka.alloc _).after h2 | replace ka := ((ka.alloc _).alloc _).after h2 | replace ka := ka.drew.after h2 | replace ka := (ka.alloc _).drew.after h2 | replace ka := (ka.drew.alloc _).after h2); (first | replace kb := kb.after h2 | replace kb := (kb.alloc _).after h2 | replace kb := ((kb.alloc _).alloc _).after h2 | replace kb := kb.drew.after h2 | replace kb := (kb.alloc _).drew.after h2 | replace kb := (kb.drew.alloc _).after h2); (first | replace kq := kq.after h2 | replace kq := (kq.alloc _).after h2 | replace kq := ((kq.alloc _).alloc _).after h2 | replace kq := kq.drew.after h2 | replace kq := (kq.alloc _).drew.after h2 | replace kq := (kq.drew.alloc _).after h2); have bwsz := Below.size bw; replace bw := below_call h2 (w := w) (by go_grown); clear h2 bwsz; obtain ⟨ka_c, ka_f, ka_l, ka_m, _⟩ := ka.knows; obtain ⟨kb_c, kb_f, kb_l, kb_m, _⟩ := kb.knows; obtain ⟨kq_c, kq_f, kq_l, kq_m, _⟩ := kq.knows
    go_wp2_with fail
    (with_reducible refine (compare_any a b 16 16 a16 b16 (by omega) (by omega) A1 A2 c1 c2 hc1 hc2 _ D1 D2).mono ?_)
    rintro e w3 ⟨rfl, rfl⟩
    rw [cN]
    have kn : Blk (w3.alloc (.cells (madeCells #[.int .i64 0] 17) 3)) w3.heap.size 3 (madeCells #[.int .i64 0] 17) := Blk.new _ _ _
    have kn1 := kn.cell 16
    rw [over_zero] at kn1
    have kn2 := kn.frozen 16
    go_wp2_with (at_make; refine wpList_make_blk _ rfl _ _ 35 rfl 3 (.int .i64 0) 8 Try.underlying35 info_int 17 17 rfl rfl (by omega) (by omega) (by unfold maxLen; omega) ?_)
    clear kn1 kn2 ka_c ka_f ka_l ka_m kb_c kb_f kb_l kb_m kq_c kq_f kq_l kq_m
    have e3 : Below w3.heap.size w3 (w3.alloc (.cells ((madeCells #[.int .i64 0] 17).setIfInBounds 16 (.int .i64 1)) 3)) := by go_grown
    replace kn : Blk (w3.alloc (.cells ((madeCells #[.int .i64 0] 17).setIfInBounds 16 (.int .i64 1)) 3)) w3.heap.size 3 (intsA (dgs RR 17)) := by rw [← over_set 1 rfl]; exact Blk.new _ _ _
    obtain ⟨A3, c3, e4, hc3, D3⟩ := digs_of (ints_of_blk (base := 0) kn (by omega) (by rw [dgs_length]; unfold maxLen; omega))
    rw [dgs_length] at e4
    cases e4
    (with_reducible refine (dplus_any a RR 16 17 a16 (by unfold RR; omega) (by omega) (by omega) A1 _ c1 17 hc1 hc3 _ (D1.after e3) D3).mono ?_)
    rintro e w4 ⟨v4, rfl, o4, h4⟩
    rw [plen_over a ha] at o4
    obtain ⟨A4, c4, rfl, hc4, D4⟩ := digs_of o4
    replace D2 := (D2.after e3).after h4
    replace bw := below_call h4 (below_call e3 bw)
    replace kq := (kq.after e3).after h4
    clear D3 D1 kn o4 e3 h4
    have ov : a + RR < 65536 ^ 17 := by unfold RR at *; omega
    go_wp2_with fail
    (with_reducible refine (dminus_any (a + RR) b 17 16 b16 (by omega) (by omega) A4 A2 c4 c2 hc4 hc2 _ D4 D2).mono ?_)
    rintro e w5 ⟨v5, rfl, o5, h5⟩
    obtain ⟨A5, c5, rfl, hc5, D5⟩ := digs_of o5
    replace bw := below_call h5 bw
    replace kq := kq.after h5
    clear D2 D4 o5 h5
    go_wp2_with fail
    (with_reducible refine (num_any (a + RR - b) 17 (by omega) A5 c5 hc5 _ D5).mono ?_)
    rintro e w6 ⟨rfl, h6⟩
    replace bw := below_call h6 bw
    replace kq := kq.after h6
    clear D5 h6
    obtain ⟨kq_c, kq_f, kq_l, kq_m, _⟩ := kq.knows
    go_wp2
    have kf := (kq.put4 (.int .u64 (lb (a + RR - b) 0)) (.int .u64 (lb (a + RR - b) 1)) (.int .u64 (lb (a + RR - b) 2)) (.int .u64 (lb (a + RR - b) 3))).knows
    obtain ⟨kf_c, kf_f, kf_l, _⟩ := kf
    refine bodyPost_ret (v := .tuple #[num (a + RR - b), .int .u64 1]) (by simp [results, Try.results22, go_sem, kf_c, kf_l]) rfl ?_
    have e7 : a + RR - b = subN a b := by rw [subN_def, Nat.mod_eq_of_lt (by omega)]
    refine ⟨by rw [b1, e7], ?_⟩
    go_grown
  · have cN : 0 ≤ cmpN a b := by rw [cmpN_def, if_neg h]; split <;> omega
    have cN2 : decide (0 ≤ cmpN a b) = true := decide_eq_true cN
    rw [if_neg h] at b1
    go_enter Try.func22, Try.ntmps22
    go_wp2_with fail; (with_reducible refine (digits_any a _).mono ?_); rintro e w1 ⟨v1, rfl, o1, h1⟩; obtain ⟨A1, c1, rfl, hc1, D1⟩ := digs_of o1; clear o1; have ka := (((Blk.newAt (n := w.heap.size) _ _ _ (by first | rfl | simp)).alloc _).alloc _).after h1; have kb := ((Blk.newAt (n := w.heap.size + 1) _ _ _ (by first | rfl | simp)).alloc _).after h1; have kq := (Blk.newAt (n := w.heap.size + 1 + 1) _ _ _ (by first | rfl | simp)).after h1; have bw := below_call h1 (w := w) (by go_grown); obtain ⟨ka_c, ka_f, ka_l, ka_m, _⟩ := ka.knows; obtain ⟨kb_c, kb_f, kb_l, kb_m, _⟩ := kb.knows; obtain ⟨kq_c, kq_f, kq_l, kq_m, _⟩ := kq.knows
    go_wp2_with fail; (with_reducible refine (digits_any b _).mono ?_); rintro e w2 ⟨v2, rfl, o2, h2⟩; obtain ⟨A2, c2, rfl, hc2, D2⟩ := digs_of o2; clear o2; replace D1 := D1.after h2; clear ka_c ka_f ka_l ka_m kb_c kb_f kb_l kb_m kq_c kq_f kq_l kq_m; (first | replace ka := ka.after h2 | replace ka := (ka.alloc _).after h2 | replace ka := ((ka.alloc _).alloc _).after h2 | replace ka := ka.drew.after h2 | replace ka := (ka.alloc _).drew.after h2 | replace ka := (ka.drew.alloc _).after h2); (first | replace kb := kb.after h2 | replace kb := (kb.alloc _).after h2 | replace kb := ((kb.alloc _).alloc _).after h2 | replace kb := kb.drew.after h2 | replace kb := (kb.alloc _).drew.after h2 | replace kb := (kb.drew.alloc _).after h2); (first | replace kq := kq.after h2 | replace kq := (kq.alloc _).after h2 | replace kq := ((kq.alloc _).alloc _).after h2 | replace kq := kq.drew.after h2 | replace kq := (kq.alloc _).drew.after h2 | replace kq := (kq.drew.alloc _).after h2); have bwsz := Below.size bw; replace bw := below_call h2 (w := w) (by go_grown); clear h2 bwsz; obtain ⟨ka_c, ka_f, ka_l, ka_m, _⟩ := ka.knows; obtain ⟨kb_c, kb_f, kb_l, kb_m, _⟩ := kb.knows; obtain ⟨kq_c, kq_f, kq_l, kq_m, _⟩ := kq.knows
    go_wp2_with fail
    (with_reducible refine (compare_any a b 16 16 a16 b16 (by omega) (by omega) A1 A2 c1 c2 hc1 hc2 _ D1 D2).mono ?_)
    rintro e w3 ⟨rfl, rfl⟩
    clear ka_c ka_f ka_l ka_m kb_c kb_f kb_l kb_m kq_c kq_f kq_l kq_m
    go_wp2_with fail
    (with_reducible refine (dminus_any a b 16 16 b16 (by omega) (by omega) A1 A2 c1 c2 hc1 hc2 _ D1 D2).mono ?_)
    rintro e w5 ⟨v5, rfl, o5, h5⟩
    obtain ⟨A5, c5, rfl, hc5, D5⟩ := digs_of o5
    replace bw := below_call h5 bw
    replace kq := kq.after h5
    clear D2 D1 o5 h5
    go_wp2_with fail
    (with_reducible refine (num_any (a - b) 16 (by omega) A5 c5 hc5 _ D5).mono ?_)
    rintro e w6 ⟨rfl, h6⟩
    replace bw := below_call h6 bw
    replace kq := kq.after h6
    clear D5 h6
    obtain ⟨kq_c, kq_f, kq_l, kq_m, _⟩ := kq.knows
    go_wp2
    have kf := (kq.put4 (.int .u64 (lb (a - b) 0)) (.int .u64 (lb (a - b) 1)) (.int .u64 (lb (a - b) 2)) (.int .u64 (lb (a - b) 3))).knows
    obtain ⟨kf_c, kf_f, kf_l, _⟩ := kf
    refine bodyPost_ret (v := .tuple #[num (a - b), .int .u64 0]) (by simp [results, Try.results22, go_sem, kf_c, kf_l]) rfl ?_
    have e7 : a - b = subN a b := by
      rw [subN_def, show a + RR - b = a - b + RR by omega, Nat.add_mod_right, Nat.mod_eq_of_lt (by omega)]
    refine ⟨by rw [b1, e7], ?_⟩
    go_grown
end Go.Proofs.Ytcoljlanblngiaa
