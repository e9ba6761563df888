/- The document's answer for layer 1: a difference and its borrow. The document's answer for layer 1: a remainder, bit by bit. The document's answer for layer 1: a remainder of a wide number. The document's answer for layer 1: a number with R, a product's remainder, which moduli are right. The document's answer for layer 1: a number with R; which moduli are right. -/
import Derived.Test.YtlibfjemdiochaaP
import Derived.Test.YtlibfjemdiochaaK2
import Derived.Test.YtlibfjemdiochaaN
import Derived.Deep.DeepCutAuto
import Derived.Test.YtlibfjemdiochaaO
import Derived.Test.YtlibfjemdiochaaA
namespace Go.Proofs.Ytlibfjemdiochaa
set_option linter.unusedVariables false
set_option linter.unusedSimpArgs false
open Go.RowKit Go.Proofs.YtlibfjemdiochaaW.PrintWords

theorem over_list : (dgs 0 17).set 16 1 = dgs RR 17 := by unfold RR; decide +kernel
theorem over_set (x : Int) (hx : x = 1) : (madeCells #[.int .i64 0] 17).setIfInBounds 16 (.int .i64 x) = intsA (dgs RR 17) := by
  rw [hx, intsA_zeros, intsA_set, over_list]
theorem plen_over (a : Nat) (ha : a < RR) : plen a RR (max 16 17) = 17 := by
  rw [show max 16 17 = 17 from rfl]
  unfold plen
  rw [if_pos (by unfold RR at *; omega)]
theorem over_zero : (madeCells #[.int .i64 0] 17)[16]? = some (.int .i64 0) := by
  rw [intsA_zeros, intsA_get _ _ 0 (by rw [dgs_get 0 17 16 (by omega)]; rfl)]
end Go.Proofs.Ytlibfjemdiochaa
namespace Go.Proofs.Ytlibfjemdiochaa
set_option linter.unusedVariables false
set_option linter.unusedSimpArgs false
open Go.RowKit Go.Proofs.YtlibfjemdiochaaW.PrintWords

/-- A row of digits of r, of lo to hi digits. -/
def DigRow (r lo hi : Nat) (w wr : World) (o : Value) : Prop := ∃ A l c, o = .slice A l c ∧ l ≤ c ∧ lo ≤ l ∧ l ≤ hi ∧ r < 65536 ^ l ∧ Digs wr A r l ∧ Below w.heap.size w wr
theorem DigRow.mk_ {r lo hi l : Nat} {w w0 wr : World} {v : Value} (h : Ints wr w0.heap.size v (dgs r l)) (h1 : lo ≤ l) (h2 : l ≤ hi) (h3 : r < 65536 ^ l) (hb : Below w.heap.size w wr) : DigRow r lo hi w wr v := by
  obtain ⟨A, c, rfl, hc, D⟩ := digs_of h
  exact ⟨A, l, c, rfl, hc, h1, h2, h3, D, hb⟩
theorem dgs_zero_one : dgs 0 1 = [0] := by decide
theorem dgs_one_one : dgs 1 1 = [1] := by decide
theorem digs_one {w : World} (g : Nat) (n : Nat) (x : Int) (hx : dgs n 1 = [x]) (h : Blk w g 3 #[.int .i64 x]) : Digs w (some ⟨g, 0, none⟩) n 1 := by
  obtain ⟨A, c, e, _, D⟩ := digs_of (n := n) (k := 1) (by rw [hx]; exact ints_of_blk (base := 0) h (by omega) (by unfold maxLen; simp))
  cases e
  exact D
/-- The first digits alone. -/
theorem Digs.take {w : World} {A : Option Addr} {n l k : Nat} (h : Digs w A n l) (hk : k ≤ l) : Digs w A n k := by
  unfold Digs Kd.C at *
  refine ⟨dgs_length n k, by have := h.2.1; omega, fun h0 => ?_⟩
  obtain ⟨ad, e, hx⟩ := h.2.2 (by omega)
  refine ⟨ad, e, fun j p hj => hx j p ?_⟩
  have hjk : j < k := by
    rcases Nat.lt_or_ge j k with h1 | h1
    · exact h1
    · rw [List.getElem?_eq_none (by rw [dgs_length]; exact h1)] at hj; cases hj
  rw [dgs_get n k j hjk] at hj
  rw [dgs_get n l j (by omega)]; exact hj
def RestIn (x m i : Nat) (w wr : World) (o s : Value) : Prop := ∃ y : Int, s = .int .i64 y ∧ -1 ≤ y ∧ y ≤ 15 ∧ DigRow (remN x m (16 * i + (y + 1).toNat)) 1 18 w wr o
def RestOut (x m k : Nat) (w wr : World) (o s : Value) : Prop := ∃ z : Int, s = .int .i64 z ∧ -1 ≤ z ∧ z < k ∧ DigRow (remN x m (16 * (z + 1).toNat)) 1 18 w wr o
set_option maxHeartbeats 4000000 in
theorem rest_any (x m ka kb : Nat) (hx : x < 65536 ^ ka) (hm0 : 0 < m) (hm : m < 65536 ^ kb) (hk0 : 0 < ka) (hka : ka ≤ 40) (hkb : kb ≤ 17) (A B : Option Addr) (ca cb : Nat) (hca : ka ≤ ca) (hcb : kb ≤ cb) (w : World) (hA : Digs w A x ka) (hB : Digs w B m kb) :
    Calls Try.prog 62 #[.slice A ka ca, .slice B kb cb] w fun e w' => ∃ v, e = .returned v ∧ DigRow (x % m) 1 18 w w' v := by
  obtain ⟨aA, hAe, _⟩ := digs_at x ka 0 A w hA hk0
  subst hAe
  go_enter Try.func62, Try.ntmps62
  go_wp2
  go_loopw [5, 6] (fun o s wr => RestOut x m ka w wr o s) (fun _ s _ => (intOf s + 1).toNat)
  case atStart =>
    refine ⟨(ka : Int) - 1, rfl, by omega, by omega, ?_⟩
    rw [show ((ka : Int) - 1 + 1).toNat = ka by omega, rem_start x m ka hx]
    exact ⟨_, 1, 1, rfl, by omega, by omega, by omega, by decide, digs_one _ 0 0 dgs_zero_one (Blk.new _ _ _), by go_grown⟩
  case round =>
    unfold RestOut at hrel
    obtain ⟨z, rfl, hz0, hz1, hrow⟩ := hrel
    by_cases hz : 0 ≤ z
    · obtain ⟨i, rfl⟩ := Int.eq_ofNat_of_zero_le hz
      rw [show ((i : Int) + 1).toNat = i + 1 by omega] at hrow
      have hdt : decide (0 ≤ (i : Int)) = true := by simp
      have hi : i < ka := by omega
      go_wp2
      go_loopw [5, 7] (fun o s wr => RestIn x m i w wr o s) (fun _ s _ => (intOf s + 1).toNat)
      case atStart =>
        refine ⟨15, rfl, by omega, by omega, ?_⟩
        rw [show 16 * i + ((15 : Int) + 1).toNat = 16 * (i + 1) by omega]
        exact hrow
      case round =>
        clear hrow
        unfold RestIn at hrel
        obtain ⟨y, rfl, hy0, hy1, hrow⟩ := hrel
        by_cases hy : 0 ≤ y
        · obtain ⟨k, rfl⟩ := Int.eq_ofNat_of_zero_le hy
          rw [show ((k : Int) + 1).toNat = k + 1 by omega] at hrow
          have hdy : decide (0 ≤ (k : Int)) = true := by simp
          have hk : k < 16 := by omega
          obtain ⟨R, l, c, rfl, hc, hl1, hl2, hr, D, bw⟩ := hrow
          have hst := Lib.hid (rem_step x m i k hm0 hk)
          have hlt := Lib.hid (rem_lt x m (16 * i + (k + 1)) hm0)
          obtain ⟨r, hrr⟩ : ∃ r, r = remN x m (16 * i + (k + 1)) := ⟨_, rfl⟩
          rw [← hrr] at hst hlt hr D
          clear hrr
          go_wp2_with fail
          (with_reducible refine (dplus_any r r l l hr hr (by omega) (by omega) R R c c hc hc _ D D).mono ?_)
          rintro e w1 ⟨v1, rfl, o1, h1⟩
          rw [Nat.max_self] at o1
          have l1 := plen_ge r r l
          have l2 := plen_le r r l
          have l3 := plen_lt r r l hr hr
          obtain ⟨A1, c1, rfl, hc1, D1⟩ := digs_of o1
          generalize plen r r l = p at *
          replace bw := below_call h1 bw
          have hA1 := hA.after bw
          clear D o1 h1 hr
          have hp0 : ((p : Int) == 0) = false := by simp; omega
          obtain ⟨ad, e1, hxc⟩ := digs_at x ka i _ w1 hA1 hi
          cases e1
          obtain ⟨hb1, hb2⟩ := dbit_int x i k
          have hii : (i : Int) < ka := by omega
          go_upto_if 35 with (fail)
          go_cut [5] (fun s5 wx => DigRow (2 * r + dbit x i k) 1 20 w wx s5)
          case first =>
            obtain hbit | hbit := dbit_le x i k
            · rw [hbit] at hb1
              go_wp2_with fail
              go_meet
              case rel =>
                rw [hbit, show 2 * r + 0 = r + r by omega]
                exact ⟨_, p, c1, rfl, hc1, by omega, by omega, l3, D1, bw⟩
            · rw [hbit] at hb1
              have kone : Blk (w1.alloc (.cells #[.int .i64 1] 3)) w1.heap.size 3 #[.int .i64 1] := Blk.new _ _ _
              have e2 : Below w1.heap.size w1 (w1.alloc (.cells #[.int .i64 1] 3)) := by go_grown
              go_wp2_with fail
              (with_reducible refine (dplus_any (r + r) 1 p 1 l3 (by decide) (by omega) (by omega) A1 _ c1 1 hc1 (by omega) _ (D1.after e2) (digs_one _ 1 1 dgs_one_one kone)).mono ?_)
              rintro e w2 ⟨v2, rfl, o2, h2⟩
              rw [Nat.max_eq_left (by omega : 1 ≤ p)] at o2
              have l4 := plen_ge (r + r) 1 p
              have l5 := plen_le (r + r) 1 p
              have l6 := plen_lt (r + r) 1 p l3 (Nat.one_lt_pow (by omega) (by omega))
              go_wp2_with fail
              go_meet
              case rel =>
                rw [hbit, show 2 * r + 1 = r + r + 1 by omega]
                exact DigRow.mk_ o2 (by omega) (by omega) l6 (below_call h2 (below_call e2 bw))
          case rest =>
            clear hb1 hb2 hp0 hxc D1 bw hA1 l1 l2 l3 hc1
            obtain ⟨A2, p2, c2, rfl, hc2, l1, l2, l3, D2, bw⟩ := hcut
            obtain ⟨s, hs⟩ : ∃ s, s = 2 * r + dbit x i k := ⟨_, rfl⟩
            rw [← hs] at hst l3 D2
            have hs2 := dbit_le x i k
            clear hs
            have hB2 := hB.after bw
            go_wp2_with fail
            (with_reducible refine (compare_any s m p2 kb l3 hm (by omega) (by omega) A2 B c2 cb hc2 hcb _ D2 hB2).mono ?_)
            rintro e w3 ⟨rfl, rfl⟩
            go_upto_if 42 with (fail)
            go_cut [5] (fun s5 wx => DigRow (remN x m (16 * i + k)) 1 20 w wx s5)
            case first =>
              by_cases hge : m ≤ s
              · have hcd : decide (0 ≤ cmpN s m) = true := by
                  rw [cmpN_def, if_neg (by omega)]; split <;> rfl
                have hcp : 0 ≤ cmpN s m := of_decide_eq_true hcd
                go_wp2_with fail
                (with_reducible refine (dminus_any s m p2 kb hm hge (by omega) A2 B c2 cb hc2 hcb _ D2 hB2).mono ?_)
                rintro e w4 ⟨v4, rfl, o4, h4⟩
                go_wp2_with fail
                go_meet
                case rel =>
                  rw [hst.out, if_pos hge]
                  exact DigRow.mk_ o4 l1 l2 (Nat.lt_of_le_of_lt (Nat.sub_le _ _) l3) (below_call h4 bw)
              · have hcd : decide (0 ≤ cmpN s m) = false := by
                  rw [cmpN_def, if_pos (by omega)]; rfl
                have hcp : ¬ 0 ≤ cmpN s m := of_decide_eq_false hcd
                go_wp2_with fail
                go_meet
                case rel =>
                  rw [hst.out, if_neg hge]
                  exact ⟨_, p2, c2, rfl, hc2, by omega, by omega, l3, D2, bw⟩
            case rest =>
              clear D2 hB2 bw l1 l2 l3 hst
              obtain ⟨A4, p4, c4, rfl, hc4, l1, l2, l3, D4, bw⟩ := hcut
              have hml : remN x m (16 * i + k) < 65536 ^ 18 := small_pow _ kb 18 (Nat.lt_trans (rem_lt x m _ hm0) hm) (by omega)
              by_cases hlong : 18 < p4
              · have hlo : (18 : Int) < p4 := by omega
                have hld : decide ((18 : Int) < p4) = true := decide_eq_true hlo
                go_wp2_with fail
                refine ⟨⟨(k : Int) - 1, rfl, by omega, by omega, ?_⟩, by simp [intOf]⟩
                rw [show ((k : Int) - 1 + 1).toNat = k by omega]
                exact ⟨_, 18, c4, rfl, by omega, by omega, by omega, hml, Digs.take D4 (by omega), bw⟩
              · have hlo : ¬ (18 : Int) < p4 := by omega
                have hld : decide ((18 : Int) < p4) = false := decide_eq_false hlo
                go_wp2_with fail
                go_roundw
                case rel =>
                  have hr : RestIn x m i w wc (.slice A4 p4 c4) (.int .i64 ((k : Int) - 1)) := ⟨(k : Int) - 1, rfl, by omega, by omega, by rw [show ((k : Int) - 1 + 1).toNat = k by omega]; exact ⟨_, p4, c4, rfl, hc4, by omega, by omega, l3, D4, bw⟩⟩
                  first | exact hr | ((repeat apply Exists.intro); exact ⟨hr, rfl⟩)
                case measure => simp [intOf]
        · have hym : y = -1 := by omega
          subst hym
          rw [show 16 * i + ((-1 : Int) + 1).toNat = 16 * i by omega] at hrow
          go_wp2_with fail
          go_roundw
          case rel =>
            have hr : RestOut x m ka w wr u5 (.int .i64 ((i : Int) - 1)) := ⟨(i : Int) - 1, rfl, by omega, by omega, by rw [show ((i : Int) - 1 + 1).toNat = i by omega]; exact hrow⟩
            first | exact hr | ((repeat apply Exists.intro); exact ⟨hr, rfl⟩)
          case measure => simp [intOf]
    · have hzm : z = -1 := by omega
      subst hzm
      rw [show 16 * ((-1 : Int) + 1).toNat = 0 by omega, rem_end] at hrow
      go_wp2_with fail
      go_ret
      exact ⟨_, rfl, hrow⟩
end Go.Proofs.Ytlibfjemdiochaa
namespace Go.Proofs.Ytlibfjemdiochaa
set_option linter.unusedVariables false
set_option linter.unusedSimpArgs false
open Go.RowKit Go.Proofs.YtlibfjemdiochaaW.PrintWords

theorem word_of (m : Nat) (hm : m < RR) (h0 : m ≠ 0) : (lb m 0 == 0) = false ∨ ((lb m 0 == 0) = true ∧ (lb m 1 == 0) = false) ∨ ((lb m 0 == 0) = true ∧ (lb m 1 == 0) = true ∧ (lb m 2 == 0) = false) ∨ ((lb m 0 == 0) = true ∧ (lb m 1 == 0) = true ∧ (lb m 2 == 0) = true ∧ (lb m 3 == 0) = false) := by
  simp only [beq_iff_eq, beq_eq_false_iff_ne, ne_eq]
  by_cases e0 : lb m 0 = 0
  · by_cases e1 : lb m 1 = 0
    · by_cases e2 : lb m 2 = 0
      · refine .inr (.inr (.inr ⟨e0, e1, e2, fun e3 => h0 (words_ext hm (by unfold RR; omega) ?_ ?_ ?_ ?_)⟩))
        · rw [e0, lb_zero]
        · rw [e1, lb_zero]
        · rw [e2, lb_zero]
        · rw [e3, lb_zero]
      · exact .inr (.inr (.inl ⟨e0, e1, e2⟩))
    · exact .inr (.inl ⟨e0, e1⟩)
  · exact .inl e0
end Go.Proofs.Ytlibfjemdiochaa
namespace Go.Proofs.Ytlibfjemdiochaa
set_option linter.unusedVariables false
set_option linter.unusedSimpArgs false
open Go.RowKit Go.Proofs.YtlibfjemdiochaaW.PrintWords

set_option maxHeartbeats 4000000 in
theorem rprod_any (a b m : Nat) (ha : a < RR) (hb : b < RR) (hm : m < RR) (h0 : 0 < m) (w : World) : Calls Try.prog 29 #[num a, num b, num m] w fun e w' => e = .returned (num (a * b % m)) ∧ Below w.heap.size w w' := by
  have a16 : a < 65536 ^ 16 := by unfold RR at ha; omega
  have b16 : b < 65536 ^ 16 := by unfold RR at hb; omega
  have m16 : m < 65536 ^ 16 := by unfold RR at hm; omega
  have lt32 : a * b < 65536 ^ (16 + 16) := by
    rw [Nat.pow_add]
    exact Nat.mul_lt_mul_of_lt_of_le a16 (Nat.le_of_lt b16) (by decide)
  obtain ⟨p, hp⟩ : ∃ p, p = a * b := ⟨_, rfl⟩
  rw [← hp] at lt32 ⊢
  have tm := fun A B ca cb hca hcb w hA hB => times_any a b 16 16 a16 b16 (by omega) (by omega) A B ca cb hca hcb w hA hB
  rw [← hp] at tm
  clear hp
  go_enter Try.func29, Try.ntmps29
  go_wp2
  have kx := ((Blk.newAt (n := w.heap.size) w 24 #[.int .u64 (lb (a) 0), .int .u64 (lb (a) 1), .int .u64 (lb (a) 2), .int .u64 (lb (a) 3)] rfl).alloc (.cells #[.int .u64 (lb (b) 0), .int .u64 (lb (b) 1), .int .u64 (lb (b) 2), .int .u64 (lb (b) 3)] 24)).alloc (.cells #[.int .u64 (lb (m) 0), .int .u64 (lb (m) 1), .int .u64 (lb (m) 2), .int .u64 (lb (m) 3)] 24) |>.alloc (.cells #[.int .u64 0, .int .u64 0, .int .u64 0, .int .u64 0] 24)
  have ky := ((Blk.newAt (n := w.heap.size + 1) (w.alloc (.cells #[.int .u64 (lb (a) 0), .int .u64 (lb (a) 1), .int .u64 (lb (a) 2), .int .u64 (lb (a) 3)] 24)) 24 #[.int .u64 (lb (b) 0), .int .u64 (lb (b) 1), .int .u64 (lb (b) 2), .int .u64 (lb (b) 3)] (by simp)).alloc (.cells #[.int .u64 (lb (m) 0), .int .u64 (lb (m) 1), .int .u64 (lb (m) 2), .int .u64 (lb (m) 3)] 24)).alloc (.cells #[.int .u64 0, .int .u64 0, .int .u64 0, .int .u64 0] 24)
  have km := (Blk.newAt (n := w.heap.size + 1 + 1) ((w.alloc (.cells #[.int .u64 (lb (a) 0), .int .u64 (lb (a) 1), .int .u64 (lb (a) 2), .int .u64 (lb (a) 3)] 24)).alloc (.cells #[.int .u64 (lb (b) 0), .int .u64 (lb (b) 1), .int .u64 (lb (b) 2), .int .u64 (lb (b) 3)] 24)) 24 #[.int .u64 (lb (m) 0), .int .u64 (lb (m) 1), .int .u64 (lb (m) 2), .int .u64 (lb (m) 3)] (by simp)).alloc (.cells #[.int .u64 0, .int .u64 0, .int .u64 0, .int .u64 0] 24)
  have kq := Blk.newAt (n := w.heap.size + 1 + 1 + 1) (((w.alloc (.cells #[.int .u64 (lb (a) 0), .int .u64 (lb (a) 1), .int .u64 (lb (a) 2), .int .u64 (lb (a) 3)] 24)).alloc (.cells #[.int .u64 (lb (b) 0), .int .u64 (lb (b) 1), .int .u64 (lb (b) 2), .int .u64 (lb (b) 3)] 24)).alloc (.cells #[.int .u64 (lb (m) 0), .int .u64 (lb (m) 1), .int .u64 (lb (m) 2), .int .u64 (lb (m) 3)] 24)) 24 #[.int .u64 0, .int .u64 0, .int .u64 0, .int .u64 0] (by simp)
  have bw : Below w.heap.size w ((((w.alloc (.cells #[.int .u64 (lb (a) 0), .int .u64 (lb (a) 1), .int .u64 (lb (a) 2), .int .u64 (lb (a) 3)] 24)).alloc (.cells #[.int .u64 (lb (b) 0), .int .u64 (lb (b) 1), .int .u64 (lb (b) 2), .int .u64 (lb (b) 3)] 24)).alloc (.cells #[.int .u64 (lb (m) 0), .int .u64 (lb (m) 1), .int .u64 (lb (m) 2), .int .u64 (lb (m) 3)] 24)).alloc (.cells #[.int .u64 0, .int .u64 0, .int .u64 0, .int .u64 0] 24)) := by go_grown
  generalize (((w.alloc (.cells #[.int .u64 (lb (a) 0), .int .u64 (lb (a) 1), .int .u64 (lb (a) 2), .int .u64 (lb (a) 3)] 24)).alloc (.cells #[.int .u64 (lb (b) 0), .int .u64 (lb (b) 1), .int .u64 (lb (b) 2), .int .u64 (lb (b) 3)] 24)).alloc (.cells #[.int .u64 (lb (m) 0), .int .u64 (lb (m) 1), .int .u64 (lb (m) 2), .int .u64 (lb (m) 3)] 24)).alloc (.cells #[.int .u64 0, .int .u64 0, .int .u64 0, .int .u64 0] 24) = W3 at *
  refine wp_region_kinds [] 9 [(0, 0), (2, 0), (5, 0), (1, 2), (3, 2), (4, 2), (6, 2), (7, 2), (8, 0)] (by kernel_rfl) (by kernel_rfl) ?_
  (refine kind_firm (v := ?_) rfl ?_ ?_; rotate_left; (focus (intro K w' hg hK; have hc1 := (kx.drew.after hg).cell; go_simp; exact hK _ (Grow.refl _))); refine kinds_put (by (simp only [Act.put, List.setIfInBounds_toArray, List.set_cons_succ, List.set_cons_zero]; try rfl)) ?_)
  (refine kind_firm (v := ?_) rfl ?_ ?_; rotate_left; (focus (intro K w' hg hK; have hc1 := (ky.drew.after hg).cell; go_simp; exact hK _ (Grow.refl _))); refine kinds_put (by (simp only [Act.put, List.setIfInBounds_toArray, List.set_cons_succ, List.set_cons_zero]; try rfl)) ?_)
  (refine kind_firm (v := ?_) rfl ?_ ?_; rotate_left; (focus (intro K w' hg hK; have hc1 := (km.drew.after hg).cell; go_simp; exact hK _ (Grow.refl _))); refine kinds_put (by (simp only [Act.put, List.setIfInBounds_toArray, List.set_cons_succ, List.set_cons_zero]; try rfl)) ?_)
  (refine kind_loose rfl ?_; intro K w' hg hK; go_simp; refine Calls.mono (digits_any a _) ?_)
  rintro e w1 ⟨v1, rfl, o1, h1⟩
  obtain ⟨A1, c1, rfl, hc1, D1⟩ := digs_of o1
  refine ⟨_, rfl, hK _ _ h1 ?_⟩
  have g1 := Grow.trans hg h1
  clear hK hg h1 o1 K
  (refine kind_loose rfl ?_; intro K w' hg hK; go_simp; refine Calls.mono (digits_any b _) ?_)
  rintro e w4 ⟨v2, rfl, o2, h4⟩
  obtain ⟨A2, c2, rfl, hc2, D2⟩ := digs_of o2
  refine ⟨_, rfl, hK _ _ h4 ?_⟩
  replace D1 := (D1.after hg).after h4
  replace g1 := Grow.trans (Grow.trans g1 hg) h4
  clear hK hg h4 o2 K
  (refine kind_loose rfl ?_; intro K w' hg hK; go_simp; refine Calls.mono (tm A1 A2 c1 c2 hc1 hc2 _ (D1.after hg) (D2.after hg)) ?_)
  rintro e w5 ⟨v5, rfl, o5, h5⟩
  obtain ⟨A5, c5, rfl, hc5, D5⟩ := digs_of o5
  refine ⟨_, rfl, hK _ _ h5 ?_⟩
  replace g1 := Grow.trans (Grow.trans g1 hg) h5
  clear hK hg h5 o5 K D1 D2
  (refine kind_loose rfl ?_; intro K w' hg hK; go_simp; refine Calls.mono (digits_any m _) ?_)
  rintro e w6 ⟨v6, rfl, o6, h6⟩
  obtain ⟨A6, c6, rfl, hc6, D6⟩ := digs_of o6
  refine ⟨_, rfl, hK _ _ h6 ?_⟩
  replace D5 := (D5.after hg).after h6
  replace g1 := Grow.trans (Grow.trans g1 hg) h6
  clear hK hg h6 o6 K
  (refine kind_loose rfl ?_; intro K w' hg hK; go_simp; refine Calls.mono (rest_any p m (16 + 16) 16 lt32 h0 m16 (by omega) (by omega) (by omega) A5 A6 c5 c6 hc5 hc6 _ (D5.after hg) (D6.after hg)) ?_)
  rintro e w7 ⟨v7, rfl, A7, l7, c7, rfl, hc7, _, _, hlt, D7, h7⟩
  refine ⟨_, rfl, hK _ _ h7 ?_⟩
  replace g1 := Grow.trans (Grow.trans g1 hg) h7
  clear hK hg h7 K D5 D6
  (refine kind_firm (v := ?_) rfl ?_ ?_; rotate_left; (focus (intro K w' hg hK; go_simp; refine Calls.mono (num_any (p % m) l7 hlt A7 c7 hc7 _ (D7.after hg)) ?_; rintro e w'' ⟨rfl, hb⟩; refine ⟨_, rfl, ?_⟩; exact hK _ hb)); refine kinds_put (by (simp only [Act.put, List.setIfInBounds_toArray, List.set_cons_succ, List.set_cons_zero]; try rfl)) ?_)
  refine kind_end ?_
  intro w8 h8
  replace g1 := Grow.trans g1 h8
  replace kq := kq.drew.after g1
  replace bw := below_call g1 bw.drew
  clear g1 kx km ky h8
  have hc1 := kq.cell
  have hf1 := kq.frozen
  have kf := kq.put4 (.int .u64 (lb (p % m) 0)) (.int .u64 (lb (p % m) 1)) (.int .u64 (lb (p % m) 2)) (.int .u64 (lb (p % m) 3))
  replace bw := put_after (g := w.heap.size + 1 + 1 + 1) (by omega) (.int .u64 (lb (p % m) 0)) (.int .u64 (lb (p % m) 1)) (.int .u64 (lb (p % m) 2)) (.int .u64 (lb (p % m) 3)) bw (Below.refl _ _)
  obtain ⟨kf_c, kf_f, kf_l, _⟩ := kf.knows
  go_wp2
  refine bodyPost_ret (v := num (p % m)) (by simp [results, Try.results29, go_sem, kf_c, kf_l]) rfl ?_
  exact ⟨rfl, bw⟩
end Go.Proofs.Ytlibfjemdiochaa
namespace Go.Proofs.Ytlibfjemdiochaa
set_option linter.unusedVariables false
set_option linter.unusedSimpArgs false
open Go.RowKit Go.Proofs.YtlibfjemdiochaaW.PrintWords

theorem toN_def2 (m a p : Nat) (hp : p = a * RR) : p % m = toN m a := by rw [toN_def, hp]
/-! ### Which moduli are right -/
theorem word_more (m : Nat) (hm : m < RR) (ho : m % 2 = 1) (h1 : m ≠ 1) : 1 < lb m 0 ∨ (¬ 1 < lb m 0 ∧ 0 < lb m 1) ∨ (¬ 1 < lb m 0 ∧ ¬ 0 < lb m 1 ∧ 0 < lb m 2) ∨ (¬ 1 < lb m 0 ∧ ¬ 0 < lb m 1 ∧ ¬ 0 < lb m 2 ∧ 0 < lb m 3) := by
  have e0 := lb_lo m 1
  have e1 := lb_lo m 2
  have e2 := lb_lo m 3
  have h0 : lb m 0 % 2 = 1 := by rw [lb_def, lb0]; omega
  have hl := lb_lo m 0
  have hx : ¬ (lb m 0 = 1 ∧ lb m 1 = 0 ∧ lb m 2 = 0 ∧ lb m 3 = 0) := by
    rintro ⟨a, b, c, d⟩
    have h : lb 1 0 = 1 ∧ lb 1 1 = 0 ∧ lb 1 2 = 0 ∧ lb 1 3 = 0 := by simp only [lb_def, lbN]; decide
    exact h1 (words_ext hm (by unfold RR; decide) (a.trans h.1.symm) (b.trans h.2.1.symm) (c.trans h.2.2.1.symm) (d.trans h.2.2.2.symm))
  omega
end Go.Proofs.Ytlibfjemdiochaa
