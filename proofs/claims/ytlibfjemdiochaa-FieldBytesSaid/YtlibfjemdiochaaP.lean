/- The document's answer for layer 1: a number's digits. The document's answer for layer 1: the number of a list of digits. The document's answer for layer 1: wide numbers and their digits. The document's answer for layer 1: a product of digits. The document's answer for layer 1: a product of digits, walked. The document's answer for layer 1: sums and differences of digits, of the printed functions. The document's answer for layer 1: which of two lists of digits is less. -/
import Derived.Test.YtlibfjemdiochaaA
import Derived.Test.YtlibfjemdiochaaN
import Derived.Test.YtlibfjemdiochaaQLimbMontsx1
import Derived.StillTailTactics
import Derived.Deep.OwnRows
import Derived.OwnWalk
import Derived.BigRegion
namespace Go.Proofs.Ytlibfjemdiochaa
set_option linter.unusedVariables false
set_option linter.unusedSimpArgs false
open Go.RowKit Go.Proofs.YtlibfjemdiochaaW.PrintWords

theorem info_int : (Try.prog.info? 3).map (fun i => (i.zero, i.size, i.bytes)) = some (some (.int .i64 0), 1, 8) := by kernel_rfl
/-- A row of ints of the call's own. -/
abbrev Ints (w : World) (base : Nat) (v : Value) (l : List Int) : Prop := Kd.R (Kd.int .i64) 3 w base (fun _ => True) v l
theorem num_at (x k : Nat) (hk : k < 4) : (#[.int .u64 (lb x 0), .int .u64 (lb x 1), .int .u64 (lb x 2), .int .u64 (lb x 3)] : Array Value)[k]? = some (.int .u64 (lb x k)) := by
  obtain rfl | rfl | rfl | rfl : k = 0 ∨ k = 1 ∨ k = 2 ∨ k = 3 := by omega
  all_goals rfl
def DigIn (n i : Nat) (w W0 wr : World) (o x j : Value) : Prop := ∃ k : Nat, k ≤ 4 ∧ j = .int .i64 k ∧ x = .int .u64 (xw n i k) ∧ Ints wr (w.heap.size + 1) o (dgs n (4 * i + k)) ∧ Below (w.heap.size + 1) W0 wr
def DigOut (n : Nat) (w W0 wr : World) (o i : Value) : Prop := ∃ k : Nat, k ≤ 4 ∧ i = .int .i64 k ∧ Ints wr (w.heap.size + 1) o (dgs n (4 * k)) ∧ Below (w.heap.size + 1) W0 wr
set_option maxHeartbeats 2000000 in
theorem digits_any (n : Nat) (w : World) : Calls Try.prog 64 #[num n] w fun e w' => ∃ v, e = .returned v ∧ Ints w' w.heap.size v (dgs n 16) ∧ Below w.heap.size w w' := by
  go_enter Try.func64, Try.ntmps64
  go_wp2
  obtain ⟨W0, hW0⟩ : ∃ W0, W0 = w.alloc (.cells #[.int .u64 (lb n 0), .int .u64 (lb n 1), .int .u64 (lb n 2), .int .u64 (lb n 3)] 24) := ⟨_, rfl⟩
  have H0 := Lib.hid hW0
  go_loopw [3, 4] (fun o i wr => DigOut n w W0 wr o i) (fun _ i _ => 4 - (intOf i).toNat)
  case atStart =>
    refine ⟨0, by omega, rfl, Kd.R_nil _ _ _ _ _, ?_⟩
    rw [← hW0]; exact Below.refl _ _
  case round =>
    unfold DigOut at hrel
    obtain ⟨i, hi, rfl, hown, hb⟩ := hrel
    clear hW0
    by_cases hlt : i < 4
    · have hdt : decide ((i : Int) < 4) = true := by simp; omega
      have hbx : Blk wr w.heap.size 24 #[.int .u64 (lb n 0), .int .u64 (lb n 1), .int .u64 (lb n 2), .int .u64 (lb n 3)] := by
        refine Blk.below ?_ hb (Nat.lt_succ_self _)
        rw [H0.out]; exact Blk.new _ _ _
      have hxi : wr.cell? ⟨w.heap.size, i, none⟩ = some (.int .u64 (xw n i 0)) := by
        rw [hbx.cell, xw_zero]; exact num_at n i hlt
      go_wp2
      obtain ⟨wo, rfl⟩ : ∃ wo : World, wo = wr := ⟨_, rfl⟩
      clear hxi hbx
      have Hb := Lib.hid hb
      go_loopw [3, 5, 6] (fun o x j wr => DigIn n i w W0 wr o x j) (fun _ _ j _ => 4 - (intOf j).toNat)
      case atStart => exact ⟨0, by omega, rfl, rfl, hown, hb⟩
      case round =>
        unfold DigIn at hrel
        obtain ⟨k, hk, rfl, rfl, hown1, hb1⟩ := hrel
        by_cases hlk : k < 4
        · have x0 := xw_lo n i k
          have x1 := xw_hi n i k
          have xd := xw_digit n i k hlk
          have xs := xw_succ n i k
          have d0 := dg_lo n (4 * i + k)
          have d1 := dg_hi n (4 * i + k)
          have hsz := hb1.size
          have hs0 : w.heap.size + 1 ≤ wr.heap.size := by
            have h := hb1.size
            rw [H0.out] at h
            simpa using h
          have hle : ((dgs n (4 * i + k)).length + 1) * 8 ≤ 140737488355328 := by rw [dgs_length]; omega
          go_wp2_with ((with_reducible refine gate_builtin (b := .append) (xs := #[.tmp 18, .tmp 22]) rfl ?_); at_builtin; refine Kd.R_append (Kd.int .i64) (w0 := W0) (w.heap.size + 1) rfl (.tmp 18) (.tmp 22) 80 3 (.int .i64 0) 8 rfl Try.underlying80 info_int rfl (by decide) (by omega) u3 (dgs n (4 * i + k)) (dg n (4 * i + k)) [.int .i64 (dg n (4 * i + k))] (fun _ => True) (fun _ => False) rfl rfl rfl (fun _ hk => hk.elim) (fun _ _ => trivial) hown1 hb1 hs0 hle ?_; intro v1 w1 hown2 hb2 _ _)
          go_roundw
          case rel =>
            have hr : DigIn n i w W0 w1 v1 (.int .u64 (xw n i k / 65536)) (.int .i64 ((k : Int) + 1)) := ⟨k + 1, by omega, by go_num, by rw [xs], by rw [← Nat.add_assoc, dgs_succ]; exact hown2, hb2⟩
            first | exact hr | ((repeat apply Exists.intro); exact ⟨hr, rfl⟩)
          case measure => simp [intOf]; omega
        · have hk4 : k = 4 := by omega
          subst hk4
          go_wp2
          go_roundw
          case rel =>
            have hr : DigOut n w W0 wr u3 (.int .i64 ((i : Int) + 1)) := ⟨i + 1, by omega, by go_num, hown1, hb1⟩
            first | exact hr | ((repeat apply Exists.intro); exact ⟨hr, rfl⟩)
          case measure => simp [intOf]; omega
    · have hi4 : i = 4 := by omega
      subst hi4
      go_wp2
      go_ret
      refine ⟨_, rfl, Kd.R_lower hown (Nat.le_succ _), ?_⟩
      refine Below.trans ?_ (Below.mono hb (Nat.le_succ _))
      rw [H0.out]
      go_grown
end Go.Proofs.Ytlibfjemdiochaa
namespace Go.Proofs.Ytlibfjemdiochaa
set_option linter.unusedVariables false
set_option linter.unusedSimpArgs false
open Go.RowKit Go.Proofs.YtlibfjemdiochaaW.PrintWords

/-- A list of digits that is read. -/
abbrev Digs (w : World) (A : Option Addr) (n k : Nat) : Prop := Kd.C (Kd.int .i64) w A k (dgs n k)
theorem rd_dgs (n k i : Nat) (h : i < k) : rd (dgs n k) (i : Int) = dg n i := by
  unfold rd
  rw [Int.toNat_natCast, List.getD_eq_getElem?_getD, dgs_get n k i h, dg_def]; rfl
theorem digs_at (n k i : Nat) (A : Option Addr) (w : World) (hd : Digs w A n k) (h : i < k) : ∃ ad, A = some ad ∧ w.cell? (ad.add i) = some (.int .i64 (dg n i)) := by
  have hl := dgs_length n k
  have hd' : Kd.C (Kd.int .i64) w A (dgs n k).length (dgs n k) := by rw [hl]; exact hd
  obtain ⟨ad, e, hx⟩ := Kd.at_int hd' (i : Int) (by omega) (by rw [hl]; omega)
  rw [rd_dgs n k i h, Int.toNat_natCast] at hx
  exact ⟨ad, e, hx⟩
theorem digit_any (n k : Nat) (hn : n < 65536 ^ k) (A : Option Addr) (c : Nat) (hc : k ≤ c) (i : Nat) (w : World) (hd : Digs w A n k) :
    Calls Try.prog 77 #[.slice A k c, .int .i64 (i : Int)] w fun e w' => e = .returned (.int .i64 (dg n i)) ∧ w' = w := by
  by_cases h : i < k
  · obtain ⟨ad, rfl, hx⟩ := digs_at n k i A w hd h
    have h1 : decide ((i : Int) < (k : Int)) = true := by simp; omega
    have h2 : (i : Int) < (k : Int) := by omega
    have h3 : 0 ≤ (i : Int) := by omega
    go_enter Try.func77, Try.ntmps77
    go_wp2
    go_ret
    exact ⟨rfl, rfl⟩
  · have h1 : decide ((i : Int) < (k : Int)) = false := by simp; omega
    have e := dg_high n k i hn (by omega)
    go_enter Try.func77, Try.ntmps77
    go_wp2
    go_ret
    exact ⟨by simp [e], rfl⟩
/-- What stands in the words while the digits come in: i digits are still to come. -/
noncomputable def ow (n i k : Nat) : Int := if 4 * (k + 1) ≤ i then 0 else yw n k (min 4 (4 * (k + 1) - i))
theorem ow_is : ∃ f : Nat → Nat → Nat → Int, ∀ n i k, f n i k = ow n i k := ⟨ow, fun _ _ _ => rfl⟩
noncomputable def owN : Nat → Nat → Nat → Int := Classical.choose ow_is
theorem owN_def (n i k : Nat) : owN n i k = ow n i k := Classical.choose_spec ow_is n i k
theorem owN_start (n i k : Nat) (h : 4 * (k + 1) ≤ i) : owN n i k = 0 := by rw [owN_def]; unfold ow; rw [if_pos h]
theorem owN_end (n k : Nat) : owN n 0 k = lb n k := by
  rw [owN_def]; unfold ow
  rw [if_neg (by omega), show min 4 (4 * (k + 1) - 0) = 4 by omega, yw_four]
theorem owN_bound (n i k : Nat) (h : k = i / 4) : 0 ≤ owN n (i + 1) k ∧ owN n (i + 1) k ≤ 281474976710655 := by
  rw [owN_def]; unfold ow
  split
  · omega
  · have := yw_lo n k (min 4 (4 * (k + 1) - (i + 1)))
    have := yw_small n k (min 4 (4 * (k + 1) - (i + 1))) (by omega)
    omega
theorem owN_here (n i k : Nat) (h : k = i / 4) : owN n (i + 1) k * 65536 + dg n i = owN n i k := by
  rw [owN_def, owN_def]; unfold ow
  rw [if_neg (by omega : ¬ 4 * (k + 1) ≤ i)]
  have e : min 4 (4 * (k + 1) - i) = (4 * (k + 1) - (i + 1)) + 1 := by omega
  have hs := yw_step n k (4 * (k + 1) - (i + 1)) (by omega)
  rw [show 4 * k + (3 - (4 * (k + 1) - (i + 1))) = i by omega] at hs
  rw [e, ← hs]
  split
  · rw [show 4 * (k + 1) - (i + 1) = 0 by omega, yw_zero]
  · rw [show min 4 (4 * (k + 1) - (i + 1)) = 4 * (k + 1) - (i + 1) by omega]
theorem owN_far (n i k : Nat) (h : k ≠ i / 4) : owN n i k = owN n (i + 1) k := by
  rw [owN_def, owN_def]; unfold ow
  split <;> split
  · rfl
  · omega
  · omega
  · congr 1; omega
structure NumSt (n i : Nat) (w wr : World) : Prop where
  b : Below w.heap.size w wr
  hq : Blk wr w.heap.size 24 #[.int .u64 0, .int .u64 0, .int .u64 0, .int .u64 0]
  ho : Blk wr (w.heap.size + 1) 24 #[.int .u64 (owN n i 0), .int .u64 (owN n i 1), .int .u64 (owN n i 2), .int .u64 (owN n i 3)]
def NumRel (n : Nat) (w : World) (s : Value) (wr : World) : Prop := ∃ z : Int, s = .int .i64 z ∧ -1 ≤ z ∧ z ≤ 15 ∧ NumSt n (z + 1).toNat w wr
theorem NumSt.drewN {n i : Nat} {w wr : World} (h : NumSt n i w wr) (m : Nat) : NumSt n i w (wr.drewN m) := ⟨⟨h.b.os, h.b.tape, h.b.output, h.b.size, h.b.block⟩, h.hq, h.ho⟩
theorem num_word (n i k : Nat) (hk : k < 4) : (#[.int .u64 (owN n i 0), .int .u64 (owN n i 1), .int .u64 (owN n i 2), .int .u64 (owN n i 3)] : Array Value)[k]? = some (.int .u64 (owN n i k)) := by
  obtain rfl | rfl | rfl | rfl : k = 0 ∨ k = 1 ∨ k = 2 ∨ k = 3 := by omega
  all_goals rfl
theorem NumSt.put {n i : Nat} {w wr : World} (h : NumSt n (i + 1) w wr) (hi : i < 16) : NumSt n i w (wr.setCell ⟨w.heap.size + 1, i / 4, none⟩ (.int .u64 (owN n i (i / 4)))) := by
  refine ⟨h.b.setCell (by dsimp only; omega) _, h.hq.far (by dsimp only; omega) _, ?_⟩
  have h1 := h.ho.set_ (i / 4) (.int .u64 (owN n i (i / 4)))
  have f0 := fun e => owN_far n i 0 e
  have f1 := fun e => owN_far n i 1 e
  have f2 := fun e => owN_far n i 2 e
  have f3 := fun e => owN_far n i 3 e
  have hk : i / 4 = 0 ∨ i / 4 = 1 ∨ i / 4 = 2 ∨ i / 4 = 3 := by omega
  rcases hk with hk | hk | hk | hk <;> rw [hk] at h1 ⊢
  · rw [f1 (by omega), f2 (by omega), f3 (by omega)]; exact h1
  · rw [f0 (by omega), f2 (by omega), f3 (by omega)]; exact h1
  · rw [f0 (by omega), f1 (by omega), f3 (by omega)]; exact h1
  · rw [f0 (by omega), f1 (by omega), f2 (by omega)]; exact h1
set_option maxRecDepth 100000 in
set_option maxHeartbeats 2000000 in
theorem num_any (n k : Nat) (hn : n < 65536 ^ k) (A : Option Addr) (c : Nat) (hc : k ≤ c) (w : World) (hd : Digs w A n k) :
    Calls Try.prog 61 #[.slice A k c] w fun e w' => e = .returned (num n) ∧ Below w.heap.size w w' := by
  go_enter Try.func61, Try.ntmps61
  go_wp2
  go_loopw [4] (fun s wr => NumRel n w s wr) (fun s _ => (intOf s + 1).toNat)
  case atStart =>
    refine ⟨15, rfl, by omega, by omega, (by go_grown), (Blk.newAt (n := w.heap.size) _ _ _ rfl).alloc _, ?_⟩
    have e : (15 + 1 : Int).toNat = 16 := by omega
    rw [e, owN_start n 16 0 (by omega), owN_start n 16 1 (by omega), owN_start n 16 2 (by omega), owN_start n 16 3 (by omega)]
    exact Blk.newAt (n := w.heap.size + 1) _ _ _ (by simp)
  case round =>
    unfold NumRel at hrel
    obtain ⟨z, rfl, hz0, hz1, hst⟩ := hrel
    by_cases hz : 0 ≤ z
    · obtain ⟨i, rfl⟩ := Int.eq_ofNat_of_zero_le hz
      rw [show ((i : Int) + 1).toNat = i + 1 by omega] at hst
      have hdi : decide (0 ≤ (i : Int)) = true := by simp
      have hi16 : i < 16 := by omega
      have hi4 : i / 4 < 4 := by omega
      have hcell : wr.cell? ⟨w.heap.size + 1, i / 4, none⟩ = some (.int .u64 (owN n (i + 1) (i / 4))) := by rw [hst.ho.cell]; exact num_word n (i + 1) (i / 4) hi4
      have hfro := hst.ho.frozen (i / 4)
      have ob := owN_bound n i (i / 4) rfl
      obtain ⟨ob0, ob1⟩ := ob
      have oh := owN_here n i (i / 4) rfl
      have d0 := dg_lo n i
      have d1 := dg_hi n i
      have hD := Kd.C_below hd hst.b
      have w1 : IntKind.i64.wrap ((i : Int) / 4) = (i : Int) / 4 := IntWalk.i64_in _ (by omega)
      have w2 : 0 ≤ (i : Int) / 4 := by omega
      have w3 : (i : Int) / 4 < 4 := by omega
      have w4 : ((i : Int) / 4).toNat = i / 4 := by omega
      have w5 : IntKind.u64.wrap (owN n (i + 1) (i / 4) * 65536) = owN n (i + 1) (i / 4) * 65536 := IntWalk.u64_in _ (by omega)
      have w6 : IntKind.u64.wrap (dg n i) = dg n i := IntWalk.u64_in _ (by omega)
      have w7 : IntKind.u64.wrap (owN n i (i / 4)) = owN n i (i / 4) := IntWalk.u64_in _ (by omega)
      go_wp2
      refine wp_region_still_tail 13 (by kernel_rfl) (by kernel_rfl) ?_
      simp only [List.take_succ_cons, List.take_zero, List.drop_succ_cons, List.drop_zero]
      repeat still_step
      still_call (digit_any n k hn A c hc i _ hD)
      repeat still_step
      refine wpStill_nil ?_
      change wpList _ _ _ _ _ wr.drew
      clear w1 w2 w3 w4 w5 w6 w7 oh
      go_wp2
      go_roundw
      case rel =>
        refine ⟨(i : Int) - 1, rfl, by omega, by omega, ?_⟩
        rw [show ((i : Int) - 1 + 1).toNat = i by omega]
        exact (hst.put hi16).drewN 1
      case measure => simp [intOf]
    · have hzm : z = -1 := by omega
      subst hzm
      obtain ⟨kq1, kq2, kq3, kq4, _⟩ := hst.hq.knows
      obtain ⟨ko1, ko2, ko3, ko4, _⟩ := hst.ho.knows
      have e0 := owN_end n 0
      have e1 := owN_end n 1
      have e2 := owN_end n 2
      have e3 := owN_end n 3
      rw [show ((-1 : Int) + 1).toNat = 0 by omega, e0, e1, e2, e3] at ko1
      go_wp2
      refine bodyPost_ret (v := num n) (by simp [results, Try.results61, go_sem, kq1, kq4]) rfl ?_
      refine ⟨rfl, ?_⟩
      have hb := hst.b
      go_grown
end Go.Proofs.Ytlibfjemdiochaa
namespace Go.Proofs.Ytlibfjemdiochaa
set_option linter.unusedVariables false
set_option linter.unusedSimpArgs false
open Go.RowKit Go.Proofs.YtlibfjemdiochaaW.PrintWords

theorem wide8_at (x k : Nat) (hk : k < 8) : (#[.int .u64 (lb x 0), .int .u64 (lb x 1), .int .u64 (lb x 2), .int .u64 (lb x 3), .int .u64 (lb x 4), .int .u64 (lb x 5), .int .u64 (lb x 6), .int .u64 (lb x 7)] : Array Value)[k]? = some (.int .u64 (lb x k)) := by
  obtain rfl | rfl | rfl | rfl | rfl | rfl | rfl | rfl : k = 0 ∨ k = 1 ∨ k = 2 ∨ k = 3 ∨ k = 4 ∨ k = 5 ∨ k = 6 ∨ k = 7 := by omega
  all_goals rfl
def WigIn (n i : Nat) (w W0 wr : World) (o x j : Value) : Prop := ∃ k : Nat, k ≤ 4 ∧ j = .int .i64 k ∧ x = .int .u64 (xw n i k) ∧ Ints wr (w.heap.size + 1) o (dgs n (4 * i + k)) ∧ Below (w.heap.size + 1) W0 wr
def WigOut (n : Nat) (w W0 wr : World) (o i : Value) : Prop := ∃ k : Nat, k ≤ 8 ∧ i = .int .i64 k ∧ Ints wr (w.heap.size + 1) o (dgs n (4 * k)) ∧ Below (w.heap.size + 1) W0 wr
structure WideSt (n i : Nat) (w wr : World) : Prop where
  b : Below w.heap.size w wr
  hq : Blk wr w.heap.size 43 #[.int .u64 0, .int .u64 0, .int .u64 0, .int .u64 0, .int .u64 0, .int .u64 0, .int .u64 0, .int .u64 0]
  ho : Blk wr (w.heap.size + 1) 43 #[.int .u64 (owN n i 0), .int .u64 (owN n i 1), .int .u64 (owN n i 2), .int .u64 (owN n i 3), .int .u64 (owN n i 4), .int .u64 (owN n i 5), .int .u64 (owN n i 6), .int .u64 (owN n i 7)]
def WideRel (n : Nat) (w : World) (s : Value) (wr : World) : Prop := ∃ z : Int, s = .int .i64 z ∧ -1 ≤ z ∧ z ≤ 31 ∧ WideSt n (z + 1).toNat w wr
theorem WideSt.drewN {n i : Nat} {w wr : World} (h : WideSt n i w wr) (m : Nat) : WideSt n i w (wr.drewN m) := ⟨⟨h.b.os, h.b.tape, h.b.output, h.b.size, h.b.block⟩, h.hq, h.ho⟩
theorem wide_word (n i k : Nat) (hk : k < 8) : (#[.int .u64 (owN n i 0), .int .u64 (owN n i 1), .int .u64 (owN n i 2), .int .u64 (owN n i 3), .int .u64 (owN n i 4), .int .u64 (owN n i 5), .int .u64 (owN n i 6), .int .u64 (owN n i 7)] : Array Value)[k]? = some (.int .u64 (owN n i k)) := by
  obtain rfl | rfl | rfl | rfl | rfl | rfl | rfl | rfl : k = 0 ∨ k = 1 ∨ k = 2 ∨ k = 3 ∨ k = 4 ∨ k = 5 ∨ k = 6 ∨ k = 7 := by omega
  all_goals rfl
theorem WideSt.put {n i : Nat} {w wr : World} (h : WideSt n (i + 1) w wr) (hi : i < 32) : WideSt n i w (wr.setCell ⟨w.heap.size + 1, i / 4, none⟩ (.int .u64 (owN n i (i / 4)))) := by
  refine ⟨h.b.setCell (by dsimp only; omega) _, h.hq.far (by dsimp only; omega) _, ?_⟩
  have h1 := h.ho.set_ (i / 4) (.int .u64 (owN n i (i / 4)))
  have f0 := fun e => owN_far n i 0 e
  have f1 := fun e => owN_far n i 1 e
  have f2 := fun e => owN_far n i 2 e
  have f3 := fun e => owN_far n i 3 e
  have f4 := fun e => owN_far n i 4 e
  have f5 := fun e => owN_far n i 5 e
  have f6 := fun e => owN_far n i 6 e
  have f7 := fun e => owN_far n i 7 e
  have hk : i / 4 = 0 ∨ i / 4 = 1 ∨ i / 4 = 2 ∨ i / 4 = 3 ∨ i / 4 = 4 ∨ i / 4 = 5 ∨ i / 4 = 6 ∨ i / 4 = 7 := by omega
  rcases hk with hk | hk | hk | hk | hk | hk | hk | hk <;> rw [hk] at h1 ⊢
  · rw [f1 (by omega), f2 (by omega), f3 (by omega), f4 (by omega), f5 (by omega), f6 (by omega), f7 (by omega)]; exact h1
  · rw [f0 (by omega), f2 (by omega), f3 (by omega), f4 (by omega), f5 (by omega), f6 (by omega), f7 (by omega)]; exact h1
  · rw [f0 (by omega), f1 (by omega), f3 (by omega), f4 (by omega), f5 (by omega), f6 (by omega), f7 (by omega)]; exact h1
  · rw [f0 (by omega), f1 (by omega), f2 (by omega), f4 (by omega), f5 (by omega), f6 (by omega), f7 (by omega)]; exact h1
  · rw [f0 (by omega), f1 (by omega), f2 (by omega), f3 (by omega), f5 (by omega), f6 (by omega), f7 (by omega)]; exact h1
  · rw [f0 (by omega), f1 (by omega), f2 (by omega), f3 (by omega), f4 (by omega), f6 (by omega), f7 (by omega)]; exact h1
  · rw [f0 (by omega), f1 (by omega), f2 (by omega), f3 (by omega), f4 (by omega), f5 (by omega), f7 (by omega)]; exact h1
  · rw [f0 (by omega), f1 (by omega), f2 (by omega), f3 (by omega), f4 (by omega), f5 (by omega), f6 (by omega)]; exact h1
end Go.Proofs.Ytlibfjemdiochaa
namespace Go.Proofs.Ytlibfjemdiochaa
set_option linter.unusedVariables false
set_option linter.unusedSimpArgs false
open Go.RowKit Go.Proofs.YtlibfjemdiochaaW.PrintWords

/-- Numbers as cells. -/
def intsA (l : List Int) : Array Value := (l.map (Value.int .i64)).toArray
theorem intsA_size (l : List Int) : (intsA l).size = l.length := by simp [intsA]
theorem intsA_get (l : List Int) (i : Nat) (x : Int) (h : l[i]? = some x) : (intsA l)[i]? = some (.int .i64 x) := by simp [intsA, h]
theorem intsA_set (l : List Int) (i : Nat) (x : Int) : (intsA l).setIfInBounds i (.int .i64 x) = intsA (l.set i x) := by simp [intsA, List.map_set]
theorem intsA_zeros (n : Nat) : madeCells #[.int .i64 0] n = intsA (dgs 0 n) := by
  apply Array.ext_getElem?
  intro i
  rcases Nat.lt_or_ge i n with h | h
  · rw [intsA_get (dgs 0 n) i 0 (by rw [dgs_get 0 n i h]; simp [dgD])]
    simp [madeCells, h, Nat.mod_one]
  · rw [Array.getElem?_eq_none (by simp [madeCells, h]), Array.getElem?_eq_none (by rw [intsA_size, dgs_length]; exact h)]
theorem ints_of_blk {w : World} {g base : Nat} {l : List Int} (h : Blk w g 3 (intsA l)) (hb : base ≤ g) (hl : l.length ≤ maxLen) : Ints w base (.slice (some ⟨g, 0, none⟩) l.length l.length) l := by
  refine Kd.R_of_own ?_ (fun _ _ => trivial)
  refine ⟨by simp [encs_length], .inr ⟨g, l.length, intsA l, rfl, hb, h, Nat.le_refl _, hl, by simp [intsA_size], ?_⟩⟩
  simp [intsA, encs]
  first | done | (rw [List.take_of_length_le (by simp)])
/-- 'make([]T, n)': the block that is made. -/
theorem wpList_make_blk {P : Program} (w : World) {ops : Array Oper} {rest : List Oper} {o : Oper} {a : Act} {Q : Exit → Act → World → Prop}
    (hg : o.guard = none) (l c : Operand) (t : TypeId) (hop : o.op = Op.makeSlice t l c)
    (e : TypeId) (z : Value) (bytes : Nat) (h1 : P.underlying t = some (.slice e)) (h2 : (P.info? e).map (fun i => (i.zero, i.size, i.bytes)) = some (some z, 1, bytes))
    (n : Nat) (L : Int) (hl : a.eval l = .int .i64 L) (hc : a.eval c = .int .i64 L) (hL : L = n) (b2 : bytes * n ≤ 281474976710656) (b3 : n ≤ maxLen)
    (hK : wpList P ops Q rest (a.put o.dst (.slice (some ⟨w.heap.size, 0, none⟩) n n)) (w.alloc (.cells (madeCells z.cells n) e))) :
    wpList P ops Q (o :: rest) a w := by
  subst hL
  obtain ⟨i, hi, hz, hs, hbb⟩ := info_parts h2
  refine wpList_plain hg fun K hK' => ?_
  have hr := run_make (P := P) w t e i z h1 hi hz .i64 .i64 n n (by omega) (by omega) (by rw [hbb]; omega) (by have h := b3; simp [maxLen] at h; omega)
  rw [Int.toNat_natCast, hs, Nat.mul_one] at hr
  unfold Oper.wp
  simp [execOp, hop, hl, hc, hr, Result.andThen]
  exact hK' _ _ hK
theorem digs_of {w : World} {b n k : Nat} {v : Value} (h : Ints w b v (dgs n k)) : ∃ A c, v = .slice A k c ∧ k ≤ c ∧ Digs w A n k := by
  obtain ⟨A, c, e, hc, hd⟩ := Kd.R_reads h
  rw [dgs_length] at e hc hd
  exact ⟨A, c, e, hc, hd⟩
theorem Digs.after {w w1 : World} {A : Option Addr} {n k : Nat} (h : Digs w A n k) (hb : Below w.heap.size w w1) : Digs w1 A n k := Kd.C_below h hb
end Go.Proofs.Ytlibfjemdiochaa
namespace Go.Proofs.Ytlibfjemdiochaa
set_option linter.unusedVariables false
set_option linter.unusedSimpArgs false
open Go.RowKit Go.Proofs.YtlibfjemdiochaaW.PrintWords

theorem tcZ_is : ∃ f : Nat → Nat → Nat → Nat → Int, ∀ a b i j, f a b i j = (tcD (tpD a b i) (dgD a i) b i j : Nat) := ⟨fun a b i j => (tcD (tpD a b i) (dgD a i) b i j : Nat), fun _ _ _ _ => rfl⟩
noncomputable def tcZ : Nat → Nat → Nat → Nat → Int := Classical.choose tcZ_is
theorem tcZ_def (a b i j : Nat) : tcZ a b i j = (tcD (tpD a b i) (dgD a i) b i j : Nat) := Classical.choose_spec tcZ_is a b i j
theorem tpV_is : ∃ f : Nat → Nat → Nat → Nat, ∀ a b i, f a b i = tpD a b i := ⟨tpD, fun _ _ _ => rfl⟩
noncomputable def tpV : Nat → Nat → Nat → Nat := Classical.choose tpV_is
theorem tpV_def (a b i : Nat) : tpV a b i = tpD a b i := Classical.choose_spec tpV_is a b i
theorem tcZ_zero (a b i : Nat) : tcZ a b i 0 = 0 := by rw [tcZ_def, tcD_zero]; rfl
theorem tcZ_lo (a b i j : Nat) : 0 ≤ tcZ a b i j := by rw [tcZ_def]; omega
theorem tcZ_hi (a b i j : Nat) : tcZ a b i j < 65536 := by rw [tcZ_def]; have := tcD_lt (tpD a b i) (dgD a i) b i (dgD_lt a i) j; omega
theorem dg_mul (a b i j : Nat) : 0 ≤ dg a i * dg b j ∧ dg a i * dg b j ≤ 4294836225 := by
  rw [dg_def, dg_def]
  have h1 := dgD_lt a i
  have h2 := dgD_lt b j
  have h4 : dgD a i * dgD b j ≤ 65535 * 65535 := Nat.mul_le_mul (by omega) (by omega)
  have e : ((dgD a i : Nat) : Int) * ((dgD b j : Nat) : Int) = ((dgD a i * dgD b j : Nat) : Int) := by rw [Int.natCast_mul]
  rw [e]; omega
theorem t_sum (a b i j : Nat) : dg (tpV a b i) (i + j) + dg a i * dg b j + tcZ a b i j = ((dgD a i * dgD b j + dgD (tpD a b i) (i + j) + tcD (tpD a b i) (dgD a i) b i j : Nat) : Int) := by
  rw [dg_def, dg_def, dg_def, tcZ_def, tpV_def, Int.natCast_add, Int.natCast_add, Int.natCast_mul]
  omega
theorem t_mod (a b i j : Nat) : (dg (tpV a b i) (i + j) + dg a i * dg b j + tcZ a b i j) % 65536 = dg (tpV a b (i + 1)) (i + j) := by
  rw [t_sum, dg_def, tpV_def, tpD_succ, trow_word]; rfl
theorem t_div (a b i j : Nat) : (dg (tpV a b i) (i + j) + dg a i * dg b j + tcZ a b i j) / 65536 = tcZ a b i (j + 1) := by
  rw [t_sum, tcZ_def, tcD_succ]; rfl
/-- The memory within the inner loop. -/
structure TimesSt (a b i p n : Nat) (w wr : World) : Prop where
  hb : Below w.heap.size w wr
  ho : Blk wr w.heap.size 3 (intsA (mixl (tpV a b (i + 1)) (tpV a b i) p n))
theorem TimesSt.drewN {a b i p n : Nat} {w wr : World} (h : TimesSt a b i p n w wr) (m : Nat) : TimesSt a b i p n w (wr.drewN m) := ⟨⟨h.hb.os, h.hb.tape, h.hb.output, h.hb.size, h.hb.block⟩, h.ho⟩
theorem TimesSt.put {a b i p n : Nat} {w wr : World} (h : TimesSt a b i p n w wr) (hp : p < n) (x : Int) (hx : x = dg (tpV a b (i + 1)) p) : TimesSt a b i (p + 1) n w (wr.setCell ⟨w.heap.size, p, none⟩ (.int .i64 x)) := by
  refine ⟨h.hb.setCell (by dsimp only; omega) _, ?_⟩
  have h1 := h.ho.set_ p (.int .i64 x)
  rw [intsA_set, mixl_set _ _ _ _ _ (by rw [hx, dg_def]) hp] at h1
  exact h1
theorem TimesSt.cell {a b i p n : Nat} {w wr : World} (h : TimesSt a b i p n w wr) (hp : p < n) : wr.cell? ⟨w.heap.size, p, none⟩ = some (.int .i64 (dg (tpV a b i) p)) := by
  rw [h.ho.cell]
  refine intsA_get _ _ _ ?_
  rw [mixl_get _ _ _ _ _ hp, if_neg (by omega), dg_def]
theorem TimesSt.first {a b i n : Nat} {w wr : World} (hb : Below w.heap.size w wr) (ho : Blk wr w.heap.size 3 (intsA (dgs (tpV a b i) n))) : TimesSt a b i i n w wr := by
  refine ⟨hb, ?_⟩
  rw [← mixl_low (tpV a b (i + 1)) (tpV a b i) i n fun k hk => by rw [tpV_def, tpV_def, tpD_succ, trow_keep _ _ _ _ _ hk]]
  exact ho
theorem TimesSt.last {a b i k n : Nat} {w wr : World} (h : TimesSt a b i (i + k + 1) n w wr) (hb : b < 65536 ^ k) : Blk wr w.heap.size 3 (intsA (dgs (tpV a b (i + 1)) n)) := by
  have h1 := h.ho
  rw [mixl_all _ _ _ _ fun j hj _ => by rw [tpV_def, tpV_def, tp_far a b i j k hb (by omega), tp_far a b (i + 1) j k hb (by omega)]] at h1
  exact h1
def TimesIn (a b i kb n : Nat) (w wr : World) (c j : Value) : Prop := ∃ k : Nat, k ≤ kb ∧ j = .int .i64 k ∧ c = .int .i64 (tcZ a b i k) ∧ TimesSt a b i (i + k) n w wr
def TimesOut (a b ka n : Nat) (w wr : World) (i : Value) : Prop := ∃ k : Nat, k ≤ ka ∧ i = .int .i64 k ∧ Below w.heap.size w wr ∧ Blk wr w.heap.size 3 (intsA (dgs (tpV a b k) n))
set_option maxHeartbeats 2000000 in
theorem times_any (a b ka kb : Nat) (ha : a < 65536 ^ ka) (hb : b < 65536 ^ kb) (hka : ka ≤ 64) (hkb : kb ≤ 64) (A B : Option Addr) (ca cb : Nat) (hca : ka ≤ ca) (hcb : kb ≤ cb) (w : World) (hA : Digs w A a ka) (hB : Digs w B b kb) :
    Calls Try.prog 63 #[.slice A ka ca, .slice B kb cb] w fun e w' => ∃ v, e = .returned v ∧ Ints w' w.heap.size v (dgs (a * b) (ka + kb)) ∧ Below w.heap.size w w' := by
  go_enter Try.func63, Try.ntmps63
  have wl : IntKind.i64.wrap ((ka : Int) + kb) = ((ka + kb : Nat) : Int) := by rw [IntWalk.i64_in _ (by omega)]; omega
  go_wp2_with (at_make; go_loud (refine wpList_make_blk _ rfl _ _ 80 rfl 3 (.int .i64 0) 8 Try.underlying80 info_int (ka + kb) (ka + kb) rfl rfl (by omega) (by omega) (by unfold maxLen; omega) ?_))
  go_wp2
  go_loopw [18] (fun i wr => TimesOut a b ka (ka + kb) w wr i) (fun i _ => ka - (intOf i).toNat)
  case atStart =>
    refine ⟨0, by omega, rfl, by go_grown, ?_⟩
    rw [show tpV a b 0 = 0 by rw [tpV_def]; unfold tpD; simp [Nat.mod_one], ← intsA_zeros]
    exact Blk.newAt (n := w.heap.size) _ _ _ rfl
  case round =>
    unfold TimesOut at hrel
    obtain ⟨i, hi, rfl, hbl, ho⟩ := hrel
    by_cases hlt : i < ka
    · have hdt : decide ((i : Int) < (ka : Int)) = true := by simp; omega
      go_wp2
      obtain ⟨wo, rfl⟩ : ∃ wo : World, wo = wr := ⟨_, rfl⟩
      go_loopw [23, 7] (fun j c wr => TimesIn a b i kb (ka + kb) w wr c j) (fun j _ _ => kb - (intOf j).toNat)
      case atStart => exact ⟨0, by omega, rfl, by rw [tcZ_zero], TimesSt.first hbl ho⟩
      case round =>
        unfold TimesIn at hrel
        obtain ⟨k, hk, rfl, rfl, hst⟩ := hrel
        by_cases hlk : k < kb
        · have hdk : decide ((k : Int) < (kb : Int)) = true := by simp; omega
          obtain ⟨ad, rfl, hxa⟩ := digs_at a ka i A _ (Kd.C_below hA hst.hb) hlt
          obtain ⟨bd, rfl, hxb⟩ := digs_at b kb k B _ (Kd.C_below hB hst.hb) hlk
          have hxo := hst.cell (by omega)
          have hfo := hst.ho.frozen (i + k)
          have w0 : IntKind.i64.wrap ((i : Int) + k) = (i : Int) + k := IntWalk.i64_in _ (by omega)
          have w1 : IntKind.i64.wrap (dg a i * dg b k) = dg a i * dg b k := IntWalk.i64_in _ (by have := dg_mul a b i k; omega)
          obtain ⟨m0, m1⟩ := dg_mul a b i k
          have t0 := tcZ_lo a b i k
          have t1 := tcZ_hi a b i k
          have d0 := dg_lo (tpV a b i) (i + k)
          have d1 := dg_hi (tpV a b i) (i + k)
          have w2 : IntKind.i64.wrap (dg (tpV a b i) (i + k) + dg a i * dg b k) = dg (tpV a b i) (i + k) + dg a i * dg b k := IntWalk.i64_in _ (by omega)
          have w3 : IntKind.i64.wrap (dg (tpV a b i) (i + k) + dg a i * dg b k + tcZ a b i k) = dg (tpV a b i) (i + k) + dg a i * dg b k + tcZ a b i k := IntWalk.i64_in _ (by omega)
          have w4 : 0 ≤ (i : Int) + k := by omega
          have w5 : (i : Int) + k < (ka : Int) + kb := by omega
          have w6 : ((i : Int) + k).toNat = i + k := by omega
          have w7 : (k : Int) < kb := by omega
          have w8 : (i : Int) < ka := by omega
          go_wp2
          go_region
          go_wp2
          case roundEnd =>
            refine ⟨⟨k + 1, by omega, by go_num, by rw [t_div], ?_⟩, by simp [intOf]; omega⟩
            rw [← Nat.add_assoc]
            exact (hst.put (by omega) _ (by rw [t_mod])).drewN 1
        · have hk4 : k = kb := by omega
          subst hk4
          have hxo := hst.cell (by omega)
          have hfo := hst.ho.frozen (i + k)
          have hz : dg (tpV a b i) (i + k) = 0 := by rw [dg_def, tpV_def, tp_far a b i (i + k) k hb (by omega)]; rfl
          rw [hz] at hxo
          have hz1 : tcZ a b i k = dg (tpV a b (i + 1)) (i + k) := by rw [tcZ_def, t_top a b i k hb, dg_def, tpV_def]
          have t0 := tcZ_lo a b i k
          have t1 := tcZ_hi a b i k
          have w0 : IntKind.i64.wrap ((i : Int) + k) = (i : Int) + k := IntWalk.i64_in _ (by omega)
          have w3 : IntKind.i64.wrap (tcZ a b i k) = tcZ a b i k := IntWalk.i64_in _ (by omega)
          have w4 : 0 ≤ (i : Int) + k := by omega
          have w5 : (i : Int) + k < (ka : Int) + k := by omega
          have w6 : ((i : Int) + k).toNat = i + k := by omega
          go_wp2
          go_roundw
          case rel =>
            exact ⟨i + 1, by omega, by go_num, (hst.put (by omega) _ rfl).hb, (hst.put (by omega) _ rfl).last hb⟩
          case measure => simp [intOf]; omega
    · have hi4 : i = ka := by omega
      subst hi4
      go_wp2
      go_ret
      refine ⟨_, rfl, ?_, hbl⟩
      have h1 : tpV a b i = a * b := by rw [tpV_def]; unfold tpD; rw [Nat.mod_eq_of_lt ha]
      rw [h1] at ho
      have h2 := ints_of_blk ho (Nat.le_refl _) (by rw [dgs_length]; unfold maxLen; omega)
      rw [dgs_length] at h2
      simpa using h2
end Go.Proofs.Ytlibfjemdiochaa
namespace Go.Proofs.Ytlibfjemdiochaa
set_option linter.unusedVariables false
set_option linter.unusedSimpArgs false
open Go.RowKit Go.Proofs.YtlibfjemdiochaaW.PrintWords
open QLimbMonts

theorem digit_f (n k i : Nat) (hn : n < 65536 ^ k) : wardmoteref01_digit.f (dgs n k) (i : Int) = some ((dgD n i : Nat) : Int) := by
  unfold wardmoteref01_digit.f
  rw [dgs_length]
  by_cases h : i < k
  · rw [if_pos (by omega), if_pos (by omega), rd_dgs n k i h, dg_def]
  · rw [if_neg (by omega)]
    have := dg_high n k i hn (by omega)
    rw [dg_def] at this
    rw [this]
theorem sum_word (x y c : Nat) (hx : x < 65536) (hy : y < 65536) (hc : c ≤ 1) :
    Int.tmod (wrap64 ((wrap64 ((x : Int) + y)) + c)) 65536 = ((x + y + c) % 65536 : Nat) ∧ wrap64 (Int.tdiv (wrap64 ((wrap64 ((x : Int) + y)) + c)) 65536) = ((x + y + c) / 65536 : Nat) := by
  have e : wrap64 ((wrap64 ((x : Int) + y)) + c) = ((x + y + c : Nat) : Int) := by unfold wrap64; omega
  rw [e, Int.tmod_eq_emod_of_nonneg (by omega), Int.tdiv_eq_ediv_of_nonneg (by omega)]
  refine ⟨by omega, ?_⟩
  unfold wrap64
  omega
theorem plus_rounds (a b ka kb : Nat) (ha : a < 65536 ^ ka) (hb : b < 65536 ^ kb) (hka : ka ≤ 100) (hkb : kb ≤ 100) :
    ∀ d i, i + d = plen a b (max ka kb) → wardmoteref01_Plus.l0 (2 * d + 2) (dgs a ka) (dgs b kb) (dgs (a + b) i) ((caD a b i : Nat) : Int) (i : Int) = some (dgs (a + b) (plen a b (max ka kb))) := by
  have hA : a < 65536 ^ max ka kb := Nat.lt_of_lt_of_le ha (Nat.pow_le_pow_right (by omega) (by omega))
  have hB : b < 65536 ^ max ka kb := Nat.lt_of_lt_of_le hb (Nat.pow_le_pow_right (by omega) (by omega))
  have hend : caD a b (plen a b (max ka kb)) = 0 := by
    unfold plen
    split
    · rename_i h; rw [caD_end a b _ hA hB, if_pos h]
    · exact caD_past a b _ hA hB
  have hn1 := plen_ge a b (max ka kb)
  have hn2 := plen_le a b (max ka kb)
  intro d
  induction d with
  | zero =>
    intro i hi
    obtain rfl : i = plen a b (max ka kb) := by omega
    rw [hend]
    unfold wardmoteref01_Plus.l0
    rw [dgs_length, dgs_length, if_neg (by omega), if_neg (by omega)]
    unfold wardmoteref01_Plus.j1
    simp
  | succ d ih =>
    intro i hi
    have hg : wardmoteref01_Plus.l0 (2 * (d + 1) + 2) (dgs a ka) (dgs b kb) (dgs (a + b) i) ((caD a b i : Nat) : Int) (i : Int) = wardmoteref01_Plus.j1 (2 * d + 2 + 1) (dgs a ka) (dgs b kb) (dgs (a + b) i) ((caD a b i : Nat) : Int) (i : Int) true := by
      rw [show 2 * (d + 1) + 2 = (2 * d + 2 + 1) + 1 by omega]
      conv => lhs; unfold wardmoteref01_Plus.l0
      rw [dgs_length, dgs_length]
      by_cases h1 : i < ka
      · rw [if_pos (by omega)]
      · rw [if_neg (by omega)]
        by_cases h2 : i < kb
        · rw [if_pos (by omega)]
        · rw [if_neg (by omega)]
          have him : i = max ka kb := by omega
          have hc : caD a b i = 1 := by
            have hp : ¬ a + b < 65536 ^ max ka kb := fun h => by
              have : plen a b (max ka kb) = max ka kb := by unfold plen; rw [if_pos h]
              omega
            rw [him, caD_end a b _ hA hB, if_neg hp]
          rw [hc, show decide ((((1 : Nat) : Int)) > 0) = true from rfl]
    rw [hg]
    unfold wardmoteref01_Plus.j1
    rw [if_pos rfl, digit_f a ka i ha, digit_f b kb i hb]
    obtain ⟨s1, s2⟩ := sum_word (dgD a i) (dgD b i) (caD a b i) (dgD_lt a i) (dgD_lt b i) (caD_le a b i)
    simp only [Option.bind_some]
    rw [dgs_length, if_pos (by omega), s1, s2, ← caD_succ, ← add_digit]
    have e : dgs (a + b) i ++ [((dgD (a + b) i : Nat) : Int)] = dgs (a + b) (i + 1) := by rw [dgs_succ, dg_def]
    have e2 : wrap64 ((i : Int) + 1) = ((i + 1 : Nat) : Int) := by unfold wrap64; omega
    rw [e, e2]
    exact ih (i + 1) (by omega)
theorem dplus_any (a b ka kb : Nat) (ha : a < 65536 ^ ka) (hb : b < 65536 ^ kb) (hka : ka ≤ 100) (hkb : kb ≤ 100) (A B : Option Addr) (ca cb : Nat) (hca : ka ≤ ca) (hcb : kb ≤ cb) (w : World) (hA : Digs w A a ka) (hB : Digs w B b kb) :
    Calls Try.prog 78 #[.slice A ka ca, .slice B kb cb] w fun e w' => ∃ v, e = .returned v ∧ Ints w' w.heap.size v (dgs (a + b) (plen a b (max ka kb))) ∧ Below w.heap.size w w' := by
  have h := plus_rounds a b ka kb ha hb hka hkb (plen a b (max ka kb)) 0 (by omega)
  rw [caD_zero, show (((0 : Nat) : Int)) = 0 from rfl, show dgs (a + b) 0 = [] from rfl] at h
  have hA' : Kd.C (Kd.int .i64) w A (dgs a ka).length (dgs a ka) := by rw [dgs_length]; exact hA
  have hB' : Kd.C (Kd.int .i64) w B (dgs b kb).length (dgs b kb) := by rw [dgs_length]; exact hB
  have := wardmoteref01_Plus.calls _ A ca (dgs a ka) B cb (dgs b kb) _ w hA' (by rw [dgs_length]; exact hca) hB' (by rw [dgs_length]; exact hcb) h
  rw [dgs_length, dgs_length] at this
  exact this
/-! ### Differences -/
theorem minus_word (x y c : Nat) (hx : x < 65536) (hy : y < 65536) (hc : c ≤ 1) : wrap64 ((wrap64 ((x : Int) - y)) - c) = (x : Int) - y - c ∧ wrap64 ((wrap64 ((wrap64 ((x : Int) - y)) - c)) + 65536) = (x : Int) - y - c + 65536 := by
  unfold wrap64; omega
set_option maxHeartbeats 1000000 in
theorem minus_rounds (a b ka kb : Nat) (hb : b < 65536 ^ kb) (hba : b ≤ a) (hka : ka ≤ 100) :
    ∀ d i, i + d = ka → wardmoteref01_Minus.l0 (d + 1) (dgs a ka) (dgs b kb) (dgs (a - b) i) ((boD a b i : Nat) : Int) (ka : Int) (i : Int) = some (dgs (a - b) ka) := by
  intro d
  induction d with
  | zero =>
    intro i hi
    obtain rfl : i = ka := by omega
    unfold wardmoteref01_Minus.l0
    rw [if_neg (by omega)]
  | succ d ih =>
    intro i hi
    have h1 : i < 17592186044416 := Nat.lt_of_lt_of_le (by omega : i < 101) (by decide)
    have e2 : wrap64 ((i : Int) + 1) = ((i + 1 : Nat) : Int) := by unfold wrap64; omega
    have this := ih (i + 1) (by omega)
    unfold wardmoteref01_Minus.l0
    rw [dgs_length, if_pos (by omega), if_pos (by omega), if_pos (by omega), rd_dgs a ka i (by omega), dg_def, digit_f b kb i hb]
    simp only [Option.bind_some]
    obtain ⟨s1, s2⟩ := minus_word (dgD a i) (dgD b i) (boD a b i) (dgD_lt a i) (dgD_lt b i) (boD_le a b i)
    have hd := sub_digit a b i hba
    have hs := boD_succ a b i
    have hl := boD_le a b i
    have e : dgs (a - b) i ++ [((dgD (a - b) i : Nat) : Int)] = dgs (a - b) (i + 1) := by rw [dgs_succ, dg_def]
    rw [s2, s1, e2, dgs_length]
    by_cases hc : dgD a i < dgD b i + boD a b i
    · rw [if_pos hc] at hd hs
      have h0 : (dgD a i : Int) - dgD b i - boD a b i < 0 := by omega
      rw [if_pos h0, if_pos h1, ← hd, e]
      rw [hs, show (((1 : Nat) : Int)) = 1 from rfl] at this
      exact this
    · rw [if_neg hc, Int.add_zero] at hd
      rw [if_neg hc] at hs
      have h0 : ¬ (dgD a i : Int) - dgD b i - boD a b i < 0 := by omega
      rw [if_neg h0, if_pos h1, ← hd, e]
      rw [hs, show (((0 : Nat) : Int)) = 0 from rfl] at this
      exact this
theorem dminus_any (a b ka kb : Nat) (hb : b < 65536 ^ kb) (hba : b ≤ a) (hka : ka ≤ 100) (A B : Option Addr) (ca cb : Nat) (hca : ka ≤ ca) (hcb : kb ≤ cb) (w : World) (hA : Digs w A a ka) (hB : Digs w B b kb) :
    Calls Try.prog 80 #[.slice A ka ca, .slice B kb cb] w fun e w' => ∃ v, e = .returned v ∧ Ints w' w.heap.size v (dgs (a - b) ka) ∧ Below w.heap.size w w' := by
  have h := minus_rounds a b ka kb hb hba hka ka 0 (by omega)
  rw [boD_zero, show (((0 : Nat) : Int)) = 0 from rfl, show dgs (a - b) 0 = [] from rfl] at h
  have hA' : Kd.C (Kd.int .i64) w A (dgs a ka).length (dgs a ka) := by rw [dgs_length]; exact hA
  have hB' : Kd.C (Kd.int .i64) w B (dgs b kb).length (dgs b kb) := by rw [dgs_length]; exact hB
  have h2 : wardmoteref01_Minus.f (ka + 1) (dgs a ka) (dgs b kb) = some (dgs (a - b) ka) := by
    unfold wardmoteref01_Minus.f; rw [dgs_length]; exact h
  have := wardmoteref01_Minus.calls _ A ca (dgs a ka) B cb (dgs b kb) _ w hA' (by rw [dgs_length]; exact hca) hB' (by rw [dgs_length]; exact hcb) h2
  rw [dgs_length, dgs_length] at this
  exact this
end Go.Proofs.Ytlibfjemdiochaa
namespace Go.Proofs.Ytlibfjemdiochaa
set_option linter.unusedVariables false
set_option linter.unusedSimpArgs false
open Go.RowKit Go.Proofs.YtlibfjemdiochaaW.PrintWords

theorem div_digit (n i : Nat) : n / 65536 ^ i = 65536 * (n / 65536 ^ (i + 1)) + dgD n i := by
  unfold dgD
  rw [Nat.pow_succ, ← Nat.div_div_eq_div_mul]
  omega
theorem lt_of_div {a b c : Nat} (h : a / c < b / c) : a < b := by
  rcases Nat.lt_or_ge a b with h1 | h1
  · exact h1
  · have := Nat.div_le_div_right (c := c) h1
    omega
theorem cmp_less (a b i : Nat) (h : a / 65536 ^ (i + 1) = b / 65536 ^ (i + 1)) (hd : dg a i < dg b i) : cmpN a b = -1 := by
  rw [dg_def, dg_def] at hd
  have h1 := div_digit a i
  have h2 := div_digit b i
  rw [cmpN_def, if_pos (lt_of_div (c := 65536 ^ i) (by omega))]
theorem cmp_more (a b i : Nat) (h : a / 65536 ^ (i + 1) = b / 65536 ^ (i + 1)) (hd : dg b i < dg a i) : cmpN a b = 1 := by
  rw [dg_def, dg_def] at hd
  have h1 := div_digit a i
  have h2 := div_digit b i
  have h3 : b < a := lt_of_div (c := 65536 ^ i) (by omega)
  rw [cmpN_def, if_neg (by omega), if_pos h3]
theorem cmp_next (a b i : Nat) (h : a / 65536 ^ (i + 1) = b / 65536 ^ (i + 1)) (h1 : ¬ dg a i < dg b i) (h2 : ¬ dg b i < dg a i) : a / 65536 ^ i = b / 65536 ^ i := by
  rw [dg_def, dg_def] at h1 h2
  have e1 := div_digit a i
  have e2 := div_digit b i
  omega
theorem cmp_same (a b : Nat) (h : a / 65536 ^ 0 = b / 65536 ^ 0) : cmpN a b = 0 := by
  rw [Nat.pow_zero, Nat.div_one, Nat.div_one] at h
  rw [cmpN_def, if_neg (by omega), if_neg (by omega)]
theorem cmp_start (a b k ka kb : Nat) (ha : a < 65536 ^ ka) (hb : b < 65536 ^ kb) (h1 : ka ≤ k) (h2 : kb ≤ k) : a / 65536 ^ k = b / 65536 ^ k := by
  rw [Nat.div_eq_of_lt (Nat.lt_of_lt_of_le ha (Nat.pow_le_pow_right (by omega) h1)), Nat.div_eq_of_lt (Nat.lt_of_lt_of_le hb (Nat.pow_le_pow_right (by omega) h2))]
def CmpRel (a b k : Nat) (w : World) (s : Value) (wr : World) : Prop := ∃ i : Nat, s = .int .i64 ((i : Int) - 1) ∧ i ≤ k ∧ a / 65536 ^ i = b / 65536 ^ i ∧ wr = w
set_option maxHeartbeats 2000000 in
theorem compare_any (a b ka kb : Nat) (ha : a < 65536 ^ ka) (hb : b < 65536 ^ kb) (hka : ka ≤ 100) (hkb : kb ≤ 100) (A B : Option Addr) (ca cb : Nat) (hca : ka ≤ ca) (hcb : kb ≤ cb) (w : World) (hA : Digs w A a ka) (hB : Digs w B b kb) :
    Calls Try.prog 79 #[.slice A ka ca, .slice B kb cb] w fun e w' => e = .returned (.int .i64 (cmpN a b)) ∧ w' = w := by
  obtain ⟨k, hk, hk1, hk2, hk3⟩ : ∃ k : Nat, k ≤ 100 ∧ ka ≤ k ∧ kb ≤ k ∧ (((ka : Int) < kb ∧ k = kb) ∨ (¬ (ka : Int) < kb ∧ k = ka)) := by
    by_cases h : ka < kb
    · exact ⟨kb, hkb, by omega, by omega, .inl ⟨by omega, rfl⟩⟩
    · exact ⟨ka, hka, by omega, by omega, .inr ⟨by omega, rfl⟩⟩
  have hs := Lib.hid (cmp_start a b k ka kb ha hb hk1 hk2)
  go_enter Try.func79, Try.ntmps79
  rcases hk3 with ⟨h, hkk⟩ | ⟨h, hkk⟩
  all_goals
    go_wp2_with fail
    go_loopw [6] (fun s wr => CmpRel a b k w s wr) (fun s _ => (intOf s + 1).toNat)
    case atStart => exact ⟨k, by rw [hkk], Nat.le_refl _, hs.out, rfl⟩
    case round =>
      unfold CmpRel at hrel
      obtain ⟨i1, rfl, hi, he, rfl⟩ := hrel
      by_cases hlt : 0 < i1
      · obtain ⟨i, rfl⟩ : ∃ i, i1 = i + 1 := ⟨i1 - 1, by omega⟩
        have hz : (((i + 1 : Nat) : Int) - 1) = (i : Int) := by omega
        rw [hz]
        have hdt : decide (0 ≤ (i : Int)) = true := by simp
        have hh := Lib.hid he
        clear he
        by_cases h1 : dg a i < dg b i
        · have hr := cmp_less a b i hh.out h1
          go_wp2_with fail
          (with_reducible refine (digit_any a ka ha A ca hca i _ hA).mono ?_)
          rintro e w1 ⟨rfl, rfl⟩
          go_wp2_with fail
          (with_reducible refine (digit_any b kb hb B cb hcb i _ hB).mono ?_)
          rintro e w1 ⟨rfl, rfl⟩
          go_wp2_with fail
          go_ret
          exact ⟨by rw [hr]; rfl, rfl⟩
        · by_cases h2 : dg b i < dg a i
          · have hr := cmp_more a b i hh.out h2
            go_wp2_with fail
            (with_reducible refine (digit_any a ka ha A ca hca i _ hA).mono ?_)
            rintro e w1 ⟨rfl, rfl⟩
            go_wp2_with fail
            (with_reducible refine (digit_any b kb hb B cb hcb i _ hB).mono ?_)
            rintro e w1 ⟨rfl, rfl⟩
            go_wp2_with fail
            (with_reducible refine (digit_any a ka ha A ca hca i _ hA).mono ?_)
            rintro e w1 ⟨rfl, rfl⟩
            go_wp2_with fail
            (with_reducible refine (digit_any b kb hb B cb hcb i _ hB).mono ?_)
            rintro e w1 ⟨rfl, rfl⟩
            go_wp2_with fail
            go_ret
            exact ⟨by rw [hr]; rfl, rfl⟩
          · have hr := Lib.hid (cmp_next a b i hh.out h1 h2)
            go_wp2_with fail
            (with_reducible refine (digit_any a ka ha A ca hca i _ hA).mono ?_)
            rintro e w1 ⟨rfl, rfl⟩
            go_wp2_with fail
            (with_reducible refine (digit_any b kb hb B cb hcb i _ hB).mono ?_)
            rintro e w1 ⟨rfl, rfl⟩
            go_wp2_with fail
            (with_reducible refine (digit_any a ka ha A ca hca i _ hA).mono ?_)
            rintro e w1 ⟨rfl, rfl⟩
            go_wp2_with fail
            (with_reducible refine (digit_any b kb hb B cb hcb i _ hB).mono ?_)
            rintro e w1 ⟨rfl, rfl⟩
            go_wp2_with fail
            go_roundw
            case rel => exact ⟨i, rfl, by omega, hr.out, rfl⟩
            case measure => simp [intOf]
      · have h0 : i1 = 0 := by omega
        subst h0
        have hr := cmp_same a b he
        go_wp2_with fail
        go_ret
        exact ⟨by rw [hr]; rfl, rfl⟩
end Go.Proofs.Ytlibfjemdiochaa
