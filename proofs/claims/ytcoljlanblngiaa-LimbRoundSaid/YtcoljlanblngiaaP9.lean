/- The document's answer for layer 1: a remainder, bit by bit. -/
import Derived.Test.YtcoljlanblngiaaP6
import Derived.Test.YtcoljlanblngiaaP7
import Derived.Test.YtcoljlanblngiaaL
import Derived.Deep.DeepCutAuto
namespace Go.Proofs.Ytcoljlanblngiaa
set_option linter.unusedVariables false
set_option linter.unusedSimpArgs false
open Go.RowKit Go.Proofs.YtcoljlanblngiaaW.PrintWords

/-- A row of digits of r, of lo to hi digits. -/
def DigRow (r lo hi : Nat) (w wr : World) (o : Value) : Prop := ∃ A l c, o = .slice A l c ∧ l ≤ c ∧ lo ≤ l ∧ l ≤ hi ∧ r < 65536 ^ l ∧ Digs wr A r l ∧ Below w.heap.size w wr
theorem DigRow.mk_ {r lo hi l : Nat} {w w0 wr : World} {v : Value} (h : Ints wr w0.heap.size v (dgs r l)) (h1 : lo ≤ l) (h2 : l ≤ hi) (h3 : r < 65536 ^ l) (hb : Below w.heap.size w wr) : DigRow r lo hi w wr v := by
  obtain ⟨A, c, rfl, hc, D⟩ := digs_of h
  exact ⟨A, l, c, rfl, hc, h1, h2, h3, D, hb⟩
theorem dgs_zero_one : dgs 0 1 = [0] := by decide
theorem dgs_one_one : dgs 1 1 = [1] := by decide
theorem digs_one {w : World} (g : Nat) (n : Nat) (x : Int) (hx : dgs n 1 = [x]) (h : Blk w g 3 #[.int .i64 x]) : Digs w (some ⟨g, 0, none⟩) n 1 := by
  obtain ⟨A, c, e, _, D⟩ := digs_of (n := n) (k := 1) (by rw [hx]; exact ints_of_blk (base := 0) h (by omega) (by unfold maxLen; simp))
  cases e
  exact D
/-- The first digits alone. -/
theorem Digs.take {w : World} {A : Option Addr} {n l k : Nat} (h : Digs w A n l) (hk : k ≤ l) : Digs w A n k := by
  unfold Digs Kd.C at *
  refine ⟨dgs_length n k, by have := h.2.1; omega, fun h0 => ?_⟩
  obtain ⟨ad, e, hx⟩ := h.2.2 (by omega)
  refine ⟨ad, e, fun j p hj => hx j p ?_⟩
  have hjk : j < k := by
    rcases Nat.lt_or_ge j k with h1 | h1
    · exact h1
    · rw [List.getElem?_eq_none (by rw [dgs_length]; exact h1)] at hj; cases hj
  rw [dgs_get n k j hjk] at hj
  rw [dgs_get n l j (by omega)]; exact hj
def RestIn (x m i : Nat) (w wr : World) (o s : Value) : Prop := ∃ y : Int, s = .int .i64 y ∧ -1 ≤ y ∧ y ≤ 15 ∧ DigRow (remN x m (16 * i + (y + 1).toNat)) 1 18 w wr o
def RestOut (x m k : Nat) (w wr : World) (o s : Value) : Prop := ∃ z : Int, s = .int .i64 z ∧ -1 ≤ z ∧ z < k ∧ DigRow (remN x m (16 * (z + 1).toNat)) 1 18 w wr o
set_option maxHeartbeats 4000000 in
theorem rest_any (x m ka kb : Nat) (hx : x < 65536 ^ ka) (hm0 : 0 < m) (hm : m < 65536 ^ kb) (hk0 : 0 < ka) (hka : ka ≤ 40) (hkb : kb ≤ 17) (A B : Option Addr) (ca cb : Nat) (hca : ka ≤ ca) (hcb : kb ≤ cb) (w : World) (hA : Digs w A x ka) (hB : Digs w B m kb) :
    Calls Try.prog 49 #[.slice A ka ca, .slice B kb cb] w fun e w' => ∃ v, e = .returned v ∧ DigRow (x % m) 1 18 w w' v := by
  obtain ⟨aA, hAe, _⟩ := digs_at x ka 0 A w hA hk0
  subst hAe
  go_enter Try.func49, Try.ntmps49
  go_wp2
  go_loopw [5, 6] (fun o s wr => RestOut x m ka w wr o s) (fun _ s _ => (intOf s + 1).toNat)
  case atStart =>
    refine ⟨(ka : Int) - 1, rfl, by omega, by omega, ?_⟩
    rw [show ((ka : Int) - 1 + 1).toNat = ka by omega, rem_start x m ka hx]
    exact ⟨_, 1, 1, rfl, by omega, by omega, by omega, by decide, digs_one _ 0 0 dgs_zero_one (Blk.new _ _ _), by go_grown⟩
  case round =>
    unfold RestOut at hrel
    obtain ⟨z, rfl, hz0, hz1, hrow⟩ := hrel
    by_cases hz : 0 ≤ z
    · obtain ⟨i, rfl⟩ := Int.eq_ofNat_of_zero_le hz
      rw [show ((i : Int) + 1).toNat = i + 1 by omega] at hrow
      have hdt : decide (0 ≤ (i : Int)) = true := by simp
      have hi : i < ka := by omega
      go_wp2
      go_loopw [5, 7] (fun o s wr => RestIn x m i w wr o s) (fun _ s _ => (intOf s + 1).toNat)
      case atStart =>
        refine ⟨15, rfl, by omega, by omega, ?_⟩
        rw [show 16 * i + ((15 : Int) + 1).toNat = 16 * (i + 1) by omega]
        exact hrow
      case round =>
        clear hrow
        unfold RestIn at hrel
        obtain ⟨y, rfl, hy0, hy1, hrow⟩ := hrel
        by_cases hy : 0 ≤ y
        · obtain ⟨k, rfl⟩ := Int.eq_ofNat_of_zero_le hy
          rw [show ((k : Int) + 1).toNat = k + 1 by omega] at hrow
          have hdy : decide (0 ≤ (k : Int)) = true := by simp
          have hk : k < 16 := by omega
          obtain ⟨R, l, c, rfl, hc, hl1, hl2, hr, D, bw⟩ := hrow
          have hst := Lib.hid (rem_step x m i k hm0 hk)
          have hlt := Lib.hid (rem_lt x m (16 * i + (k + 1)) hm0)
          obtain ⟨r, hrr⟩ : ∃ r, r = remN x m (16 * i + (k + 1)) := ⟨_, rfl⟩
          rw [← hrr] at hst hlt hr D
          clear hrr
          go_wp2_with fail
          (with_reducible refine (dplus_any r r l l hr hr (by omega) (by omega) R R c c hc hc _ D D).mono ?_)
          rintro e w1 ⟨v1, rfl, o1, h1⟩
          rw [Nat.max_self] at o1
          have l1 := plen_ge r r l
          have l2 := plen_le r r l
          have l3 := plen_lt r r l hr hr
          obtain ⟨A1, c1, rfl, hc1, D1⟩ := digs_of o1
          generalize plen r r l = p at *
          replace bw := below_call h1 bw
          have hA1 := hA.after bw
          clear D o1 h1 hr
          have hp0 : ((p : Int) == 0) = false := by simp; omega
          obtain ⟨ad, e1, hxc⟩ := digs_at x ka i _ w1 hA1 hi
          cases e1
          obtain ⟨hb1, hb2⟩ := dbit_int x i k
          have hii : (i : Int) < ka := by omega
          go_upto_if 35 with (fail)
          go_cut [5] (fun s5 wx => DigRow (2 * r + dbit x i k) 1 20 w wx s5)
          case first =>
            obtain hbit | hbit := dbit_le x i k
            · rw [hbit] at hb1
              go_wp2_with fail
              go_meet
              case rel =>
                rw [hbit, show 2 * r + 0 = r + r by omega]
                exact ⟨_, p, c1, rfl, hc1, by omega, by omega, l3, D1, bw⟩
            · rw [hbit] at hb1
              have kone : Blk (w1.alloc (.cells #[.int .i64 1] 3)) w1.heap.size 3 #[.int .i64 1] := Blk.new _ _ _
              have e2 : Below w1.heap.size w1 (w1.alloc (.cells #[.int .i64 1] 3)) := by go_grown
              go_wp2_with fail
              (with_reducible refine (dplus_any (r + r) 1 p 1 l3 (by decide) (by omega) (by omega) A1 _ c1 1 hc1 (by omega) _ (D1.after e2) (digs_one _ 1 1 dgs_one_one kone)).mono ?_)
              rintro e w2 ⟨v2, rfl, o2, h2⟩
              rw [Nat.max_eq_left (by omega : 1 ≤ p)] at o2
              have l4 := plen_ge (r + r) 1 p
              have l5 := plen_le (r + r) 1 p
              have l6 := plen_lt (r + r) 1 p l3 (Nat.one_lt_pow (by omega) (by omega))
              go_wp2_with fail
              go_meet
              case rel =>
                rw [hbit, show 2 * r + 1 = r + r + 1 by omega]
                exact DigRow.mk_ o2 (by omega) (by omega) l6 (below_call h2 (below_call e2 bw))
          case rest =>
            clear hb1 hb2 hp0 hxc D1 bw hA1 l1 l2 l3 hc1
            obtain ⟨A2, p2, c2, rfl, hc2, l1, l2, l3, D2, bw⟩ := hcut
            obtain ⟨s, hs⟩ : ∃ s, s = 2 * r + dbit x i k := ⟨_, rfl⟩
            rw [← hs] at hst l3 D2
            have hs2 := dbit_le x i k
            clear hs
            have hB2 := hB.after bw
            go_wp2_with fail
            (with_reducible refine (compare_any s m p2 kb l3 hm (by omega) (by omega) A2 B c2 cb hc2 hcb _ D2 hB2).mono ?_)
            rintro e w3 ⟨rfl, rfl⟩
            go_upto_if 42 with (fail)
            go_cut [5] (fun s5 wx => DigRow (remN x m (16 * i + k)) 1 20 w wx s5)
            case first =>
              by_cases hge : m ≤ s
              · have hcd : decide (0 ≤ cmpN s m) = true := by
                  rw [cmpN_def, if_neg (by omega)]; split <;> rfl
                have hcp : 0 ≤ cmpN s m := of_decide_eq_true hcd
                go_wp2_with fail
                (with_reducible refine (dminus_any s m p2 kb hm hge (by omega) A2 B c2 cb hc2 hcb _ D2 hB2).mono ?_)
                rintro e w4 ⟨v4, rfl, o4, h4⟩
                go_wp2_with fail
                go_meet
                case rel =>
                  rw [hst.out, if_pos hge]
                  exact DigRow.mk_ o4 l1 l2 (Nat.lt_of_le_of_lt (Nat.sub_le _ _) l3) (below_call h4 bw)
              · have hcd : decide (0 ≤ cmpN s m) = false := by
                  rw [cmpN_def, if_pos (by omega)]; rfl
                have hcp : ¬ 0 ≤ cmpN s m := of_decide_eq_false hcd
                go_wp2_with fail
                go_meet
                case rel =>
                  rw [hst.out, if_neg hge]
                  exact ⟨_, p2, c2, rfl, hc2, by omega, by omega, l3, D2, bw⟩
            case rest =>
              clear D2 hB2 bw l1 l2 l3 hst
              obtain ⟨A4, p4, c4, rfl, hc4, l1, l2, l3, D4, bw⟩ := hcut
              have hml : remN x m (16 * i + k) < 65536 ^ 18 := small_pow _ kb 18 (Nat.lt_trans (rem_lt x m _ hm0) hm) (by omega)
              by_cases hlong : 18 < p4
              · have hlo : (18 : Int) < p4 := by omega
                have hld : decide ((18 : Int) < p4) = true := decide_eq_true hlo
                go_wp2_with fail
                refine ⟨⟨(k : Int) - 1, rfl, by omega, by omega, ?_⟩, by simp [intOf]⟩
                rw [show ((k : Int) - 1 + 1).toNat = k by omega]
                exact ⟨_, 18, c4, rfl, by omega, by omega, by omega, hml, Digs.take D4 (by omega), bw⟩
              · have hlo : ¬ (18 : Int) < p4 := by omega
                have hld : decide ((18 : Int) < p4) = false := decide_eq_false hlo
                go_wp2_with fail
                go_roundw
                case rel =>
                  have hr : RestIn x m i w wc (.slice A4 p4 c4) (.int .i64 ((k : Int) - 1)) := ⟨(k : Int) - 1, rfl, by omega, by omega, by rw [show ((k : Int) - 1 + 1).toNat = k by omega]; exact ⟨_, p4, c4, rfl, hc4, by omega, by omega, l3, D4, bw⟩⟩
                  first | exact hr | ((repeat apply Exists.intro); exact ⟨hr, rfl⟩)
                case measure => simp [intOf]
        · have hym : y = -1 := by omega
          subst hym
          rw [show 16 * i + ((-1 : Int) + 1).toNat = 16 * i by omega] at hrow
          go_wp2_with fail
          go_roundw
          case rel =>
            have hr : RestOut x m ka w wr u5 (.int .i64 ((i : Int) - 1)) := ⟨(i : Int) - 1, rfl, by omega, by omega, by rw [show ((i : Int) - 1 + 1).toNat = i by omega]; exact hrow⟩
            first | exact hr | ((repeat apply Exists.intro); exact ⟨hr, rfl⟩)
          case measure => simp [intOf]
    · have hzm : z = -1 := by omega
      subst hzm
      rw [show 16 * ((-1 : Int) + 1).toNat = 0 by omega, rem_end] at hrow
      go_wp2_with fail
      go_ret
      exact ⟨_, rfl, hrow⟩
end Go.Proofs.Ytcoljlanblngiaa
