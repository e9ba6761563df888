/- The document's answer for layer 1: a number's digits. The document's answer for layer 1: the number of a list of digits. The document's answer for layer 1: wide numbers and their digits. The document's answer for layer 1: a product of digits. -/
import Derived.Test.YtcoljlanblngiaaK
import Derived.Test.YtcoljlanblngiaaL
import Derived.Test.YtcoljlanblngiaaQLimbMontsx1
import Derived.StillTailTactics
import Derived.Deep.OwnRows
import Derived.OwnWalk
import Derived.BigRegion
namespace Go.Proofs.Ytcoljlanblngiaa
set_option linter.unusedVariables false
set_option linter.unusedSimpArgs false
open Go.RowKit Go.Proofs.YtcoljlanblngiaaW.PrintWords

theorem info_int : (Try.prog.info? 3).map (fun i => (i.zero, i.size, i.bytes)) = some (some (.int .i64 0), 1, 8) := by kernel_rfl
/-- A row of ints of the call's own. -/
abbrev Ints (w : World) (base : Nat) (v : Value) (l : List Int) : Prop := Kd.R (Kd.int .i64) 3 w base (fun _ => True) v l
theorem num_at (x k : Nat) (hk : k < 4) : (#[.int .u64 (lb x 0), .int .u64 (lb x 1), .int .u64 (lb x 2), .int .u64 (lb x 3)] : Array Value)[k]? = some (.int .u64 (lb x k)) := by
  obtain rfl | rfl | rfl | rfl : k = 0 ∨ k = 1 ∨ k = 2 ∨ k = 3 := by omega
  all_goals rfl
def DigIn (n i : Nat) (w W0 wr : World) (o x j : Value) : Prop := ∃ k : Nat, k ≤ 4 ∧ j = .int .i64 k ∧ x = .int .u64 (xw n i k) ∧ Ints wr (w.heap.size + 1) o (dgs n (4 * i + k)) ∧ Below (w.heap.size + 1) W0 wr
def DigOut (n : Nat) (w W0 wr : World) (o i : Value) : Prop := ∃ k : Nat, k ≤ 4 ∧ i = .int .i64 k ∧ Ints wr (w.heap.size + 1) o (dgs n (4 * k)) ∧ Below (w.heap.size + 1) W0 wr
set_option maxHeartbeats 2000000 in
theorem digits_any (n : Nat) (w : World) : Calls Try.prog 21 #[num n] w fun e w' => ∃ v, e = .returned v ∧ Ints w' w.heap.size v (dgs n 16) ∧ Below w.heap.size w w' := by
  go_enter Try.func21, Try.ntmps21
  go_wp2
  obtain ⟨W0, hW0⟩ : ∃ W0, W0 = w.alloc (.cells #[.int .u64 (lb n 0), .int .u64 (lb n 1), .int .u64 (lb n 2), .int .u64 (lb n 3)] 24) := ⟨_, rfl⟩
  have H0 := Lib.hid hW0
  go_loopw [3, 4] (fun o i wr => DigOut n w W0 wr o i) (fun _ i _ => 4 - (intOf i).toNat)
  case atStart =>
    refine ⟨0, by omega, rfl, Kd.R_nil _ _ _ _ _, ?_⟩
    rw [← hW0]; exact Below.refl _ _
  case round =>
    unfold DigOut at hrel
    obtain ⟨i, hi, rfl, hown, hb⟩ := hrel
    clear hW0
    by_cases hlt : i < 4
    · have hdt : decide ((i : Int) < 4) = true := by simp; omega
      have hbx : Blk wr w.heap.size 24 #[.int .u64 (lb n 0), .int .u64 (lb n 1), .int .u64 (lb n 2), .int .u64 (lb n 3)] := by
        refine Blk.below ?_ hb (Nat.lt_succ_self _)
        rw [H0.out]; exact Blk.new _ _ _
      have hxi : wr.cell? ⟨w.heap.size, i, none⟩ = some (.int .u64 (xw n i 0)) := by
        rw [hbx.cell, xw_zero]; exact num_at n i hlt
      go_wp2
      obtain ⟨wo, rfl⟩ : ∃ wo : World, wo = wr := ⟨_, rfl⟩
      clear hxi hbx
      have Hb := Lib.hid hb
      go_loopw [3, 5, 6] (fun o x j wr => DigIn n i w W0 wr o x j) (fun _ _ j _ => 4 - (intOf j).toNat)
      case atStart => exact ⟨0, by omega, rfl, rfl, hown, hb⟩
      case round =>
        unfold DigIn at hrel
        obtain ⟨k, hk, rfl, rfl, hown1, hb1⟩ := hrel
        by_cases hlk : k < 4
        · have x0 := xw_lo n i k
          have x1 := xw_hi n i k
          have xd := xw_digit n i k hlk
          have xs := xw_succ n i k
          have d0 := dg_lo n (4 * i + k)
          have d1 := dg_hi n (4 * i + k)
          have hsz := hb1.size
          have hs0 : w.heap.size + 1 ≤ wr.heap.size := by
            have h := hb1.size
            rw [H0.out] at h
            simpa using h
          have hle : ((dgs n (4 * i + k)).length + 1) * 8 ≤ 140737488355328 := by rw [dgs_length]; omega
          go_wp2_with ((with_reducible refine gate_builtin (b := .append) (xs := #[.tmp 18, .tmp 22]) rfl ?_); at_builtin; refine Kd.R_append (Kd.int .i64) (w0 := W0) (w.heap.size + 1) rfl (.tmp 18) (.tmp 22) 35 3 (.int .i64 0) 8 rfl Try.underlying35 info_int rfl (by decide) (by omega) u3 (dgs n (4 * i + k)) (dg n (4 * i + k)) [.int .i64 (dg n (4 * i + k))] (fun _ => True) (fun _ => False) rfl rfl rfl (fun _ hk => hk.elim) (fun _ _ => trivial) hown1 hb1 hs0 hle ?_; intro v1 w1 hown2 hb2 _ _)
          go_roundw
          case rel =>
            have hr : DigIn n i w W0 w1 v1 (.int .u64 (xw n i k / 65536)) (.int .i64 ((k : Int) + 1)) := ⟨k + 1, by omega, by go_num, by rw [xs], by rw [← Nat.add_assoc, dgs_succ]; exact hown2, hb2⟩
            first | exact hr | ((repeat apply Exists.intro); exact ⟨hr, rfl⟩)
          case measure => simp [intOf]; omega
        · have hk4 : k = 4 := by omega
          subst hk4
          go_wp2
          go_roundw
          case rel =>
            have hr : DigOut n w W0 wr u3 (.int .i64 ((i : Int) + 1)) := ⟨i + 1, by omega, by go_num, hown1, hb1⟩
            first | exact hr | ((repeat apply Exists.intro); exact ⟨hr, rfl⟩)
          case measure => simp [intOf]; omega
    · have hi4 : i = 4 := by omega
      subst hi4
      go_wp2
      go_ret
      refine ⟨_, rfl, Kd.R_lower hown (Nat.le_succ _), ?_⟩
      refine Below.trans ?_ (Below.mono hb (Nat.le_succ _))
      rw [H0.out]
      go_grown
end Go.Proofs.Ytcoljlanblngiaa
namespace Go.Proofs.Ytcoljlanblngiaa
set_option linter.unusedVariables false
set_option linter.unusedSimpArgs false
open Go.RowKit Go.Proofs.YtcoljlanblngiaaW.PrintWords

/-- A list of digits that is read. -/
abbrev Digs (w : World) (A : Option Addr) (n k : Nat) : Prop := Kd.C (Kd.int .i64) w A k (dgs n k)
theorem rd_dgs (n k i : Nat) (h : i < k) : rd (dgs n k) (i : Int) = dg n i := by
  unfold rd
  rw [Int.toNat_natCast, List.getD_eq_getElem?_getD, dgs_get n k i h, dg_def]; rfl
theorem digs_at (n k i : Nat) (A : Option Addr) (w : World) (hd : Digs w A n k) (h : i < k) : ∃ ad, A = some ad ∧ w.cell? (ad.add i) = some (.int .i64 (dg n i)) := by
  have hl := dgs_length n k
  have hd' : Kd.C (Kd.int .i64) w A (dgs n k).length (dgs n k) := by rw [hl]; exact hd
  obtain ⟨ad, e, hx⟩ := Kd.at_int hd' (i : Int) (by omega) (by rw [hl]; omega)
  rw [rd_dgs n k i h, Int.toNat_natCast] at hx
  exact ⟨ad, e, hx⟩
theorem digit_any (n k : Nat) (hn : n < 65536 ^ k) (A : Option Addr) (c : Nat) (hc : k ≤ c) (i : Nat) (w : World) (hd : Digs w A n k) :
    Calls Try.prog 44 #[.slice A k c, .int .i64 (i : Int)] w fun e w' => e = .returned (.int .i64 (dg n i)) ∧ w' = w := by
  by_cases h : i < k
  · obtain ⟨ad, rfl, hx⟩ := digs_at n k i A w hd h
    have h1 : decide ((i : Int) < (k : Int)) = true := by simp; omega
    have h2 : (i : Int) < (k : Int) := by omega
    have h3 : 0 ≤ (i : Int) := by omega
    go_enter Try.func44, Try.ntmps44
    go_wp2
    go_ret
    exact ⟨rfl, rfl⟩
  · have h1 : decide ((i : Int) < (k : Int)) = false := by simp; omega
    have e := dg_high n k i hn (by omega)
    go_enter Try.func44, Try.ntmps44
    go_wp2
    go_ret
    exact ⟨by simp [e], rfl⟩
/-- What stands in the words while the digits come in: i digits are still to come. -/
noncomputable def ow (n i k : Nat) : Int := if 4 * (k + 1) ≤ i then 0 else yw n k (min 4 (4 * (k + 1) - i))
theorem ow_is : ∃ f : Nat → Nat → Nat → Int, ∀ n i k, f n i k = ow n i k := ⟨ow, fun _ _ _ => rfl⟩
noncomputable def owN : Nat → Nat → Nat → Int := Classical.choose ow_is
theorem owN_def (n i k : Nat) : owN n i k = ow n i k := Classical.choose_spec ow_is n i k
theorem owN_start (n i k : Nat) (h : 4 * (k + 1) ≤ i) : owN n i k = 0 := by rw [owN_def]; unfold ow; rw [if_pos h]
theorem owN_end (n k : Nat) : owN n 0 k = lb n k := by
  rw [owN_def]; unfold ow
  rw [if_neg (by omega), show min 4 (4 * (k + 1) - 0) = 4 by omega, yw_four]
theorem owN_bound (n i k : Nat) (h : k = i / 4) : 0 ≤ owN n (i + 1) k ∧ owN n (i + 1) k ≤ 281474976710655 := by
  rw [owN_def]; unfold ow
  split
  · omega
  · have := yw_lo n k (min 4 (4 * (k + 1) - (i + 1)))
    have := yw_small n k (min 4 (4 * (k + 1) - (i + 1))) (by omega)
    omega
theorem owN_here (n i k : Nat) (h : k = i / 4) : owN n (i + 1) k * 65536 + dg n i = owN n i k := by
  rw [owN_def, owN_def]; unfold ow
  rw [if_neg (by omega : ¬ 4 * (k + 1) ≤ i)]
  have e : min 4 (4 * (k + 1) - i) = (4 * (k + 1) - (i + 1)) + 1 := by omega
  have hs := yw_step n k (4 * (k + 1) - (i + 1)) (by omega)
  rw [show 4 * k + (3 - (4 * (k + 1) - (i + 1))) = i by omega] at hs
  rw [e, ← hs]
  split
  · rw [show 4 * (k + 1) - (i + 1) = 0 by omega, yw_zero]
  · rw [show min 4 (4 * (k + 1) - (i + 1)) = 4 * (k + 1) - (i + 1) by omega]
theorem owN_far (n i k : Nat) (h : k ≠ i / 4) : owN n i k = owN n (i + 1) k := by
  rw [owN_def, owN_def]; unfold ow
  split <;> split
  · rfl
  · omega
  · omega
  · congr 1; omega
structure NumSt (n i : Nat) (w wr : World) : Prop where
  b : Below w.heap.size w wr
  hq : Blk wr w.heap.size 24 #[.int .u64 0, .int .u64 0, .int .u64 0, .int .u64 0]
  ho : Blk wr (w.heap.size + 1) 24 #[.int .u64 (owN n i 0), .int .u64 (owN n i 1), .int .u64 (owN n i 2), .int .u64 (owN n i 3)]
def NumRel (n : Nat) (w : World) (s : Value) (wr : World) : Prop := ∃ z : Int, s = .int .i64 z ∧ -1 ≤ z ∧ z ≤ 15 ∧ NumSt n (z + 1).toNat w wr
theorem NumSt.drewN {n i : Nat} {w wr : World} (h : NumSt n i w wr) (m : Nat) : NumSt n i w (wr.drewN m) := ⟨⟨h.b.os, h.b.tape, h.b.output, h.b.size, h.b.block⟩, h.hq, h.ho⟩
theorem num_word (n i k : Nat) (hk : k < 4) : (#[.int .u64 (owN n i 0), .int .u64 (owN n i 1), .int .u64 (owN n i 2), .int .u64 (owN n i 3)] : Array Value)[k]? = some (.int .u64 (owN n i k)) := by
  obtain rfl | rfl | rfl | rfl : k = 0 ∨ k = 1 ∨ k = 2 ∨ k = 3 := by omega
  all_goals rfl
theorem NumSt.put {n i : Nat} {w wr : World} (h : NumSt n (i + 1) w wr) (hi : i < 16) : NumSt n i w (wr.setCell ⟨w.heap.size + 1, i / 4, none⟩ (.int .u64 (owN n i (i / 4)))) := by
  refine ⟨h.b.setCell (by dsimp only; omega) _, h.hq.far (by dsimp only; omega) _, ?_⟩
  have h1 := h.ho.set_ (i / 4) (.int .u64 (owN n i (i / 4)))
  have f0 := fun e => owN_far n i 0 e
  have f1 := fun e => owN_far n i 1 e
  have f2 := fun e => owN_far n i 2 e
  have f3 := fun e => owN_far n i 3 e
  have hk : i / 4 = 0 ∨ i / 4 = 1 ∨ i / 4 = 2 ∨ i / 4 = 3 := by omega
  rcases hk with hk | hk | hk | hk <;> rw [hk] at h1 ⊢
  · rw [f1 (by omega), f2 (by omega), f3 (by omega)]; exact h1
  · rw [f0 (by omega), f2 (by omega), f3 (by omega)]; exact h1
  · rw [f0 (by omega), f1 (by omega), f3 (by omega)]; exact h1
  · rw [f0 (by omega), f1 (by omega), f2 (by omega)]; exact h1
set_option maxHeartbeats 2000000 in
theorem num_any (n k : Nat) (hn : n < 65536 ^ k) (A : Option Addr) (c : Nat) (hc : k ≤ c) (w : World) (hd : Digs w A n k) :
    Calls Try.prog 23 #[.slice A k c] w fun e w' => e = .returned (num n) ∧ Below w.heap.size w w' := by
  go_enter Try.func23, Try.ntmps23
  go_wp2
  go_loopw [4] (fun s wr => NumRel n w s wr) (fun s _ => (intOf s + 1).toNat)
  case atStart =>
    refine ⟨15, rfl, by omega, by omega, (by go_grown), (Blk.newAt (n := w.heap.size) _ _ _ rfl).alloc _, ?_⟩
    have e : (15 + 1 : Int).toNat = 16 := by omega
    rw [e, owN_start n 16 0 (by omega), owN_start n 16 1 (by omega), owN_start n 16 2 (by omega), owN_start n 16 3 (by omega)]
    exact Blk.newAt (n := w.heap.size + 1) _ _ _ (by simp)
  case round =>
    unfold NumRel at hrel
    obtain ⟨z, rfl, hz0, hz1, hst⟩ := hrel
    by_cases hz : 0 ≤ z
    · obtain ⟨i, rfl⟩ := Int.eq_ofNat_of_zero_le hz
      rw [show ((i : Int) + 1).toNat = i + 1 by omega] at hst
      have hdi : decide (0 ≤ (i : Int)) = true := by simp
      have hi16 : i < 16 := by omega
      have hi4 : i / 4 < 4 := by omega
      have hcell : wr.cell? ⟨w.heap.size + 1, i / 4, none⟩ = some (.int .u64 (owN n (i + 1) (i / 4))) := by rw [hst.ho.cell]; exact num_word n (i + 1) (i / 4) hi4
      have hfro := hst.ho.frozen (i / 4)
      have ob := owN_bound n i (i / 4) rfl
      obtain ⟨ob0, ob1⟩ := ob
      have oh := owN_here n i (i / 4) rfl
      have d0 := dg_lo n i
      have d1 := dg_hi n i
      have hD := Kd.C_below hd hst.b
      have w1 : IntKind.i64.wrap ((i : Int) / 4) = (i : Int) / 4 := IntWalk.i64_in _ (by omega)
      have w2 : 0 ≤ (i : Int) / 4 := by omega
      have w3 : (i : Int) / 4 < 4 := by omega
      have w4 : ((i : Int) / 4).toNat = i / 4 := by omega
      have w5 : IntKind.u64.wrap (owN n (i + 1) (i / 4) * 65536) = owN n (i + 1) (i / 4) * 65536 := IntWalk.u64_in _ (by omega)
      have w6 : IntKind.u64.wrap (dg n i) = dg n i := IntWalk.u64_in _ (by omega)
      have w7 : IntKind.u64.wrap (owN n i (i / 4)) = owN n i (i / 4) := IntWalk.u64_in _ (by omega)
      go_wp2
      refine wp_region_still_tail 13 (by kernel_rfl) (by kernel_rfl) ?_
      simp only [List.take_succ_cons, List.take_zero, List.drop_succ_cons, List.drop_zero]
      repeat still_step
      still_call (digit_any n k hn A c hc i _ hD)
      repeat still_step
      refine wpStill_nil ?_
      change wpList _ _ _ _ _ wr.drew
      clear w1 w2 w3 w4 w5 w6 w7 oh
      go_wp2
      go_roundw
      case rel =>
        refine ⟨(i : Int) - 1, rfl, by omega, by omega, ?_⟩
        rw [show ((i : Int) - 1 + 1).toNat = i by omega]
        exact (hst.put hi16).drewN 1
      case measure => simp [intOf]
    · have hzm : z = -1 := by omega
      subst hzm
      obtain ⟨kq1, kq2, kq3, kq4, _⟩ := hst.hq.knows
      obtain ⟨ko1, ko2, ko3, ko4, _⟩ := hst.ho.knows
      have e0 := owN_end n 0
      have e1 := owN_end n 1
      have e2 := owN_end n 2
      have e3 := owN_end n 3
      rw [show ((-1 : Int) + 1).toNat = 0 by omega, e0, e1, e2, e3] at ko1
      go_wp2
      refine bodyPost_ret (v := num n) (by simp [results, Try.results23, go_sem, kq1, kq4]) rfl ?_
      refine ⟨rfl, ?_⟩
      have hb := hst.b
      go_grown
end Go.Proofs.Ytcoljlanblngiaa
namespace Go.Proofs.Ytcoljlanblngiaa
set_option linter.unusedVariables false
set_option linter.unusedSimpArgs false
open Go.RowKit Go.Proofs.YtcoljlanblngiaaW.PrintWords

theorem wide8_at (x k : Nat) (hk : k < 8) : (#[.int .u64 (lb x 0), .int .u64 (lb x 1), .int .u64 (lb x 2), .int .u64 (lb x 3), .int .u64 (lb x 4), .int .u64 (lb x 5), .int .u64 (lb x 6), .int .u64 (lb x 7)] : Array Value)[k]? = some (.int .u64 (lb x k)) := by
  obtain rfl | rfl | rfl | rfl | rfl | rfl | rfl | rfl : k = 0 ∨ k = 1 ∨ k = 2 ∨ k = 3 ∨ k = 4 ∨ k = 5 ∨ k = 6 ∨ k = 7 := by omega
  all_goals rfl
def WigIn (n i : Nat) (w W0 wr : World) (o x j : Value) : Prop := ∃ k : Nat, k ≤ 4 ∧ j = .int .i64 k ∧ x = .int .u64 (xw n i k) ∧ Ints wr (w.heap.size + 1) o (dgs n (4 * i + k)) ∧ Below (w.heap.size + 1) W0 wr
def WigOut (n : Nat) (w W0 wr : World) (o i : Value) : Prop := ∃ k : Nat, k ≤ 8 ∧ i = .int .i64 k ∧ Ints wr (w.heap.size + 1) o (dgs n (4 * k)) ∧ Below (w.heap.size + 1) W0 wr
set_option maxHeartbeats 2000000 in
theorem wdigits_any (n : Nat) (w : World) : Calls Try.prog 50 #[wide n] w fun e w' => ∃ v, e = .returned v ∧ Ints w' w.heap.size v (dgs n 32) ∧ Below w.heap.size w w' := by
  go_enter Try.func50, Try.ntmps50
  go_wp2
  obtain ⟨W0, hW0⟩ : ∃ W0, W0 = w.alloc (.cells #[.int .u64 (lb n 0), .int .u64 (lb n 1), .int .u64 (lb n 2), .int .u64 (lb n 3), .int .u64 (lb n 4), .int .u64 (lb n 5), .int .u64 (lb n 6), .int .u64 (lb n 7)] 41) := ⟨_, rfl⟩
  have H0 := Lib.hid hW0
  go_loopw [3, 4] (fun o i wr => WigOut n w W0 wr o i) (fun _ i _ => 8 - (intOf i).toNat)
  case atStart =>
    refine ⟨0, by omega, rfl, Kd.R_nil _ _ _ _ _, ?_⟩
    rw [← hW0]; exact Below.refl _ _
  case round =>
    unfold WigOut at hrel
    obtain ⟨i, hi, rfl, hown, hb⟩ := hrel
    clear hW0
    by_cases hlt : i < 8
    · have hdt : decide ((i : Int) < 8) = true := by simp; omega
      have hbx : Blk wr w.heap.size 41 #[.int .u64 (lb n 0), .int .u64 (lb n 1), .int .u64 (lb n 2), .int .u64 (lb n 3), .int .u64 (lb n 4), .int .u64 (lb n 5), .int .u64 (lb n 6), .int .u64 (lb n 7)] := by
        refine Blk.below ?_ hb (Nat.lt_succ_self _)
        rw [H0.out]; exact Blk.new _ _ _
      have hxi : wr.cell? ⟨w.heap.size, i, none⟩ = some (.int .u64 (xw n i 0)) := by
        rw [hbx.cell, xw_zero]; exact wide8_at n i hlt
      go_wp2
      obtain ⟨wo, rfl⟩ : ∃ wo : World, wo = wr := ⟨_, rfl⟩
      clear hxi hbx
      have Hb := Lib.hid hb
      go_loopw [3, 5, 6] (fun o x j wr => WigIn n i w W0 wr o x j) (fun _ _ j _ => 4 - (intOf j).toNat)
      case atStart => exact ⟨0, by omega, rfl, rfl, hown, hb⟩
      case round =>
        unfold WigIn at hrel
        obtain ⟨k, hk, rfl, rfl, hown1, hb1⟩ := hrel
        by_cases hlk : k < 4
        · have x0 := xw_lo n i k
          have x1 := xw_hi n i k
          have xd := xw_digit n i k hlk
          have xs := xw_succ n i k
          have d0 := dg_lo n (4 * i + k)
          have d1 := dg_hi n (4 * i + k)
          have hsz := hb1.size
          have hs0 : w.heap.size + 1 ≤ wr.heap.size := by
            have h := hb1.size
            rw [H0.out] at h
            simpa using h
          have hle : ((dgs n (4 * i + k)).length + 1) * 8 ≤ 140737488355328 := by rw [dgs_length]; omega
          go_wp2_with ((with_reducible refine gate_builtin (b := .append) (xs := #[.tmp 18, .tmp 22]) rfl ?_); at_builtin; refine Kd.R_append (Kd.int .i64) (w0 := W0) (w.heap.size + 1) rfl (.tmp 18) (.tmp 22) 35 3 (.int .i64 0) 8 rfl Try.underlying35 info_int rfl (by decide) (by omega) u3 (dgs n (4 * i + k)) (dg n (4 * i + k)) [.int .i64 (dg n (4 * i + k))] (fun _ => True) (fun _ => False) rfl rfl rfl (fun _ hk => hk.elim) (fun _ _ => trivial) hown1 hb1 hs0 hle ?_; intro v1 w1 hown2 hb2 _ _)
          go_roundw
          case rel =>
            have hr : WigIn n i w W0 w1 v1 (.int .u64 (xw n i k / 65536)) (.int .i64 ((k : Int) + 1)) := ⟨k + 1, by omega, by go_num, by rw [xs], by rw [← Nat.add_assoc, dgs_succ]; exact hown2, hb2⟩
            first | exact hr | ((repeat apply Exists.intro); exact ⟨hr, rfl⟩)
          case measure => simp [intOf]; omega
        · have hk4 : k = 4 := by omega
          subst hk4
          go_wp2
          go_roundw
          case rel =>
            have hr : WigOut n w W0 wr u3 (.int .i64 ((i : Int) + 1)) := ⟨i + 1, by omega, by go_num, hown1, hb1⟩
            first | exact hr | ((repeat apply Exists.intro); exact ⟨hr, rfl⟩)
          case measure => simp [intOf]; omega
    · have hi4 : i = 8 := by omega
      subst hi4
      go_wp2
      go_ret
      refine ⟨_, rfl, Kd.R_lower hown (Nat.le_succ _), ?_⟩
      refine Below.trans ?_ (Below.mono hb (Nat.le_succ _))
      rw [H0.out]
      go_grown
structure WideSt (n i : Nat) (w wr : World) : Prop where
  b : Below w.heap.size w wr
  hq : Blk wr w.heap.size 41 #[.int .u64 0, .int .u64 0, .int .u64 0, .int .u64 0, .int .u64 0, .int .u64 0, .int .u64 0, .int .u64 0]
  ho : Blk wr (w.heap.size + 1) 41 #[.int .u64 (owN n i 0), .int .u64 (owN n i 1), .int .u64 (owN n i 2), .int .u64 (owN n i 3), .int .u64 (owN n i 4), .int .u64 (owN n i 5), .int .u64 (owN n i 6), .int .u64 (owN n i 7)]
def WideRel (n : Nat) (w : World) (s : Value) (wr : World) : Prop := ∃ z : Int, s = .int .i64 z ∧ -1 ≤ z ∧ z ≤ 31 ∧ WideSt n (z + 1).toNat w wr
theorem WideSt.drewN {n i : Nat} {w wr : World} (h : WideSt n i w wr) (m : Nat) : WideSt n i w (wr.drewN m) := ⟨⟨h.b.os, h.b.tape, h.b.output, h.b.size, h.b.block⟩, h.hq, h.ho⟩
theorem wide_word (n i k : Nat) (hk : k < 8) : (#[.int .u64 (owN n i 0), .int .u64 (owN n i 1), .int .u64 (owN n i 2), .int .u64 (owN n i 3), .int .u64 (owN n i 4), .int .u64 (owN n i 5), .int .u64 (owN n i 6), .int .u64 (owN n i 7)] : Array Value)[k]? = some (.int .u64 (owN n i k)) := by
  obtain rfl | rfl | rfl | rfl | rfl | rfl | rfl | rfl : k = 0 ∨ k = 1 ∨ k = 2 ∨ k = 3 ∨ k = 4 ∨ k = 5 ∨ k = 6 ∨ k = 7 := by omega
  all_goals rfl
theorem WideSt.put {n i : Nat} {w wr : World} (h : WideSt n (i + 1) w wr) (hi : i < 32) : WideSt n i w (wr.setCell ⟨w.heap.size + 1, i / 4, none⟩ (.int .u64 (owN n i (i / 4)))) := by
  refine ⟨h.b.setCell (by dsimp only; omega) _, h.hq.far (by dsimp only; omega) _, ?_⟩
  have h1 := h.ho.set_ (i / 4) (.int .u64 (owN n i (i / 4)))
  have f0 := fun e => owN_far n i 0 e
  have f1 := fun e => owN_far n i 1 e
  have f2 := fun e => owN_far n i 2 e
  have f3 := fun e => owN_far n i 3 e
  have f4 := fun e => owN_far n i 4 e
  have f5 := fun e => owN_far n i 5 e
  have f6 := fun e => owN_far n i 6 e
  have f7 := fun e => owN_far n i 7 e
  have hk : i / 4 = 0 ∨ i / 4 = 1 ∨ i / 4 = 2 ∨ i / 4 = 3 ∨ i / 4 = 4 ∨ i / 4 = 5 ∨ i / 4 = 6 ∨ i / 4 = 7 := by omega
  rcases hk with hk | hk | hk | hk | hk | hk | hk | hk <;> rw [hk] at h1 ⊢
  · rw [f1 (by omega), f2 (by omega), f3 (by omega), f4 (by omega), f5 (by omega), f6 (by omega), f7 (by omega)]; exact h1
  · rw [f0 (by omega), f2 (by omega), f3 (by omega), f4 (by omega), f5 (by omega), f6 (by omega), f7 (by omega)]; exact h1
  · rw [f0 (by omega), f1 (by omega), f3 (by omega), f4 (by omega), f5 (by omega), f6 (by omega), f7 (by omega)]; exact h1
  · rw [f0 (by omega), f1 (by omega), f2 (by omega), f4 (by omega), f5 (by omega), f6 (by omega), f7 (by omega)]; exact h1
  · rw [f0 (by omega), f1 (by omega), f2 (by omega), f3 (by omega), f5 (by omega), f6 (by omega), f7 (by omega)]; exact h1
  · rw [f0 (by omega), f1 (by omega), f2 (by omega), f3 (by omega), f4 (by omega), f6 (by omega), f7 (by omega)]; exact h1
  · rw [f0 (by omega), f1 (by omega), f2 (by omega), f3 (by omega), f4 (by omega), f5 (by omega), f7 (by omega)]; exact h1
  · rw [f0 (by omega), f1 (by omega), f2 (by omega), f3 (by omega), f4 (by omega), f5 (by omega), f6 (by omega)]; exact h1
set_option maxHeartbeats 2000000 in
theorem wide_any (n k : Nat) (hn : n < 65536 ^ k) (A : Option Addr) (c : Nat) (hc : k ≤ c) (w : World) (hd : Digs w A n k) :
    Calls Try.prog 25 #[.slice A k c] w fun e w' => e = .returned (wide n) ∧ Below w.heap.size w w' := by
  go_enter Try.func25, Try.ntmps25
  go_wp2
  go_loopw [4] (fun s wr => WideRel n w s wr) (fun s _ => (intOf s + 1).toNat)
  case atStart =>
    refine ⟨31, rfl, by omega, by omega, (by go_grown), (Blk.newAt (n := w.heap.size) _ _ _ rfl).alloc _, ?_⟩
    have e : (31 + 1 : Int).toNat = 32 := by omega
    rw [e, owN_start n 32 0 (by omega), owN_start n 32 1 (by omega), owN_start n 32 2 (by omega), owN_start n 32 3 (by omega), owN_start n 32 4 (by omega), owN_start n 32 5 (by omega), owN_start n 32 6 (by omega), owN_start n 32 7 (by omega)]
    exact Blk.newAt (n := w.heap.size + 1) _ _ _ (by simp)
  case round =>
    unfold WideRel at hrel
    obtain ⟨z, rfl, hz0, hz1, hst⟩ := hrel
    by_cases hz : 0 ≤ z
    · obtain ⟨i, rfl⟩ := Int.eq_ofNat_of_zero_le hz
      rw [show ((i : Int) + 1).toNat = i + 1 by omega] at hst
      have hdi : decide (0 ≤ (i : Int)) = true := by simp
      have hi16 : i < 32 := by omega
      have hi4 : i / 4 < 8 := by omega
      have hcell : wr.cell? ⟨w.heap.size + 1, i / 4, none⟩ = some (.int .u64 (owN n (i + 1) (i / 4))) := by rw [hst.ho.cell]; exact wide_word n (i + 1) (i / 4) hi4
      have hfro := hst.ho.frozen (i / 4)
      have ob := owN_bound n i (i / 4) rfl
      obtain ⟨ob0, ob1⟩ := ob
      have oh := owN_here n i (i / 4) rfl
      have d0 := dg_lo n i
      have d1 := dg_hi n i
      have hD := Kd.C_below hd hst.b
      have w1 : IntKind.i64.wrap ((i : Int) / 4) = (i : Int) / 4 := IntWalk.i64_in _ (by omega)
      have w2 : 0 ≤ (i : Int) / 4 := by omega
      have w3 : (i : Int) / 4 < 8 := by omega
      have w4 : ((i : Int) / 4).toNat = i / 4 := by omega
      have w5 : IntKind.u64.wrap (owN n (i + 1) (i / 4) * 65536) = owN n (i + 1) (i / 4) * 65536 := IntWalk.u64_in _ (by omega)
      have w6 : IntKind.u64.wrap (dg n i) = dg n i := IntWalk.u64_in _ (by omega)
      have w7 : IntKind.u64.wrap (owN n i (i / 4)) = owN n i (i / 4) := IntWalk.u64_in _ (by omega)
      go_wp2
      refine wp_region_still_tail 13 (by kernel_rfl) (by kernel_rfl) ?_
      simp only [List.take_succ_cons, List.take_zero, List.drop_succ_cons, List.drop_zero]
      repeat still_step
      still_call (digit_any n k hn A c hc i _ hD)
      repeat still_step
      refine wpStill_nil ?_
      change wpList _ _ _ _ _ wr.drew
      clear w1 w2 w3 w4 w5 w6 w7 oh
      go_wp2
      go_roundw
      case rel =>
        refine ⟨(i : Int) - 1, rfl, by omega, by omega, ?_⟩
        rw [show ((i : Int) - 1 + 1).toNat = i by omega]
        exact (hst.put hi16).drewN 1
      case measure => simp [intOf]
    · have hzm : z = -1 := by omega
      subst hzm
      obtain ⟨kq1, kq2, kq3, kq4, _⟩ := hst.hq.knows
      obtain ⟨ko1, ko2, ko3, ko4, _⟩ := hst.ho.knows
      have e0 := owN_end n 0
      have e1 := owN_end n 1
      have e2 := owN_end n 2
      have e3 := owN_end n 3
      have e4 := owN_end n 4
      have e5 := owN_end n 5
      have e6 := owN_end n 6
      have e7 := owN_end n 7
      rw [show ((-1 : Int) + 1).toNat = 0 by omega, e0, e1, e2, e3, e4, e5, e6, e7] at ko1
      go_wp2
      refine bodyPost_ret (v := wide n) (by simp [results, Try.results25, go_sem, kq1, kq4]) rfl ?_
      refine ⟨rfl, ?_⟩
      have hb := hst.b
      go_grown
end Go.Proofs.Ytcoljlanblngiaa
namespace Go.Proofs.Ytcoljlanblngiaa
set_option linter.unusedVariables false
set_option linter.unusedSimpArgs false
open Go.RowKit Go.Proofs.YtcoljlanblngiaaW.PrintWords

/-- Numbers as cells. -/
def intsA (l : List Int) : Array Value := (l.map (Value.int .i64)).toArray
theorem intsA_size (l : List Int) : (intsA l).size = l.length := by simp [intsA]
theorem intsA_get (l : List Int) (i : Nat) (x : Int) (h : l[i]? = some x) : (intsA l)[i]? = some (.int .i64 x) := by simp [intsA, h]
theorem intsA_set (l : List Int) (i : Nat) (x : Int) : (intsA l).setIfInBounds i (.int .i64 x) = intsA (l.set i x) := by simp [intsA, List.map_set]
theorem intsA_zeros (n : Nat) : madeCells #[.int .i64 0] n = intsA (dgs 0 n) := by
  apply Array.ext_getElem?
  intro i
  rcases Nat.lt_or_ge i n with h | h
  · rw [intsA_get (dgs 0 n) i 0 (by rw [dgs_get 0 n i h]; simp [dgD])]
    simp [madeCells, h, Nat.mod_one]
  · rw [Array.getElem?_eq_none (by simp [madeCells, h]), Array.getElem?_eq_none (by rw [intsA_size, dgs_length]; exact h)]
theorem ints_of_blk {w : World} {g base : Nat} {l : List Int} (h : Blk w g 3 (intsA l)) (hb : base ≤ g) (hl : l.length ≤ maxLen) : Ints w base (.slice (some ⟨g, 0, none⟩) l.length l.length) l := by
  refine Kd.R_of_own ?_ (fun _ _ => trivial)
  refine ⟨by simp [encs_length], .inr ⟨g, l.length, intsA l, rfl, hb, h, Nat.le_refl _, hl, by simp [intsA_size], ?_⟩⟩
  simp [intsA, encs]
  first | done | (rw [List.take_of_length_le (by simp)])
/-- 'make([]T, n)': the block that is made. -/
theorem wpList_make_blk {P : Program} (w : World) {ops : Array Oper} {rest : List Oper} {o : Oper} {a : Act} {Q : Exit → Act → World → Prop}
    (hg : o.guard = none) (l c : Operand) (t : TypeId) (hop : o.op = Op.makeSlice t l c)
    (e : TypeId) (z : Value) (bytes : Nat) (h1 : P.underlying t = some (.slice e)) (h2 : (P.info? e).map (fun i => (i.zero, i.size, i.bytes)) = some (some z, 1, bytes))
    (n : Nat) (L : Int) (hl : a.eval l = .int .i64 L) (hc : a.eval c = .int .i64 L) (hL : L = n) (b2 : bytes * n ≤ 281474976710656) (b3 : n ≤ maxLen)
    (hK : wpList P ops Q rest (a.put o.dst (.slice (some ⟨w.heap.size, 0, none⟩) n n)) (w.alloc (.cells (madeCells z.cells n) e))) :
    wpList P ops Q (o :: rest) a w := by
  subst hL
  obtain ⟨i, hi, hz, hs, hbb⟩ := info_parts h2
  refine wpList_plain hg fun K hK' => ?_
  have hr := run_make (P := P) w t e i z h1 hi hz .i64 .i64 n n (by omega) (by omega) (by rw [hbb]; omega) (by have h := b3; simp [maxLen] at h; omega)
  rw [Int.toNat_natCast, hs, Nat.mul_one] at hr
  unfold Oper.wp
  simp [execOp, hop, hl, hc, hr, Result.andThen]
  exact hK' _ _ hK
theorem digs_of {w : World} {b n k : Nat} {v : Value} (h : Ints w b v (dgs n k)) : ∃ A c, v = .slice A k c ∧ k ≤ c ∧ Digs w A n k := by
  obtain ⟨A, c, e, hc, hd⟩ := Kd.R_reads h
  rw [dgs_length] at e hc hd
  exact ⟨A, c, e, hc, hd⟩
theorem Digs.after {w w1 : World} {A : Option Addr} {n k : Nat} (h : Digs w A n k) (hb : Below w.heap.size w w1) : Digs w1 A n k := Kd.C_below h hb
end Go.Proofs.Ytcoljlanblngiaa
