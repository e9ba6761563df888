/- The document's answer for layer 1: wide numbers and their digits. -/
import Derived.Test.YtcoljlanblngiaaP2
namespace Go.Proofs.Ytcoljlanblngiaa
set_option linter.unusedVariables false
set_option linter.unusedSimpArgs false
open Go.RowKit Go.Proofs.YtcoljlanblngiaaW.PrintWords

theorem wide8_at (x k : Nat) (hk : k < 8) : (#[.int .u64 (lb x 0), .int .u64 (lb x 1), .int .u64 (lb x 2), .int .u64 (lb x 3), .int .u64 (lb x 4), .int .u64 (lb x 5), .int .u64 (lb x 6), .int .u64 (lb x 7)] : Array Value)[k]? = some (.int .u64 (lb x k)) := by
  obtain rfl | rfl | rfl | rfl | rfl | rfl | rfl | rfl : k = 0 ∨ k = 1 ∨ k = 2 ∨ k = 3 ∨ k = 4 ∨ k = 5 ∨ k = 6 ∨ k = 7 := by omega
  all_goals rfl
def WigIn (n i : Nat) (w W0 wr : World) (o x j : Value) : Prop := ∃ k : Nat, k ≤ 4 ∧ j = .int .i64 k ∧ x = .int .u64 (xw n i k) ∧ Ints wr (w.heap.size + 1) o (dgs n (4 * i + k)) ∧ Below (w.heap.size + 1) W0 wr
def WigOut (n : Nat) (w W0 wr : World) (o i : Value) : Prop := ∃ k : Nat, k ≤ 8 ∧ i = .int .i64 k ∧ Ints wr (w.heap.size + 1) o (dgs n (4 * k)) ∧ Below (w.heap.size + 1) W0 wr
set_option maxHeartbeats 2000000 in
theorem wdigits_any (n : Nat) (w : World) : Calls Try.prog 50 #[wide n] w fun e w' => ∃ v, e = .returned v ∧ Ints w' w.heap.size v (dgs n 32) ∧ Below w.heap.size w w' := by
  go_enter Try.func50, Try.ntmps50
  go_wp2
  obtain ⟨W0, hW0⟩ : ∃ W0, W0 = w.alloc (.cells #[.int .u64 (lb n 0), .int .u64 (lb n 1), .int .u64 (lb n 2), .int .u64 (lb n 3), .int .u64 (lb n 4), .int .u64 (lb n 5), .int .u64 (lb n 6), .int .u64 (lb n 7)] 41) := ⟨_, rfl⟩
  have H0 := Lib.hid hW0
  go_loopw [3, 4] (fun o i wr => WigOut n w W0 wr o i) (fun _ i _ => 8 - (intOf i).toNat)
  case atStart =>
    refine ⟨0, by omega, rfl, Kd.R_nil _ _ _ _ _, ?_⟩
    rw [← hW0]; exact Below.refl _ _
  case round =>
    unfold WigOut at hrel
    obtain ⟨i, hi, rfl, hown, hb⟩ := hrel
    clear hW0
    by_cases hlt : i < 8
    · have hdt : decide ((i : Int) < 8) = true := by simp; omega
      have hbx : Blk wr w.heap.size 41 #[.int .u64 (lb n 0), .int .u64 (lb n 1), .int .u64 (lb n 2), .int .u64 (lb n 3), .int .u64 (lb n 4), .int .u64 (lb n 5), .int .u64 (lb n 6), .int .u64 (lb n 7)] := by
        refine Blk.below ?_ hb (Nat.lt_succ_self _)
        rw [H0.out]; exact Blk.new _ _ _
      have hxi : wr.cell? ⟨w.heap.size, i, none⟩ = some (.int .u64 (xw n i 0)) := by
        rw [hbx.cell, xw_zero]; exact wide8_at n i hlt
      go_wp2
      obtain ⟨wo, rfl⟩ : ∃ wo : World, wo = wr := ⟨_, rfl⟩
      clear hxi hbx
      have Hb := Lib.hid hb
      go_loopw [3, 5, 6] (fun o x j wr => WigIn n i w W0 wr o x j) (fun _ _ j _ => 4 - (intOf j).toNat)
      case atStart => exact ⟨0, by omega, rfl, rfl, hown, hb⟩
      case round =>
        unfold WigIn at hrel
        obtain ⟨k, hk, rfl, rfl, hown1, hb1⟩ := hrel
        by_cases hlk : k < 4
        · have x0 := xw_lo n i k
          have x1 := xw_hi n i k
          have xd := xw_digit n i k hlk
          have xs := xw_succ n i k
          have d0 := dg_lo n (4 * i + k)
          have d1 := dg_hi n (4 * i + k)
          have hsz := hb1.size
          have hs0 : w.heap.size + 1 ≤ wr.heap.size := by
            have h := hb1.size
            rw [H0.out] at h
            simpa using h
          have hle : ((dgs n (4 * i + k)).length + 1) * 8 ≤ 140737488355328 := by rw [dgs_length]; omega
          go_wp2_with ((with_reducible refine gate_builtin (b := .append) (xs := #[.tmp 18, .tmp 22]) rfl ?_); at_builtin; refine Kd.R_append (Kd.int .i64) (w0 := W0) (w.heap.size + 1) rfl (.tmp 18) (.tmp 22) 35 3 (.int .i64 0) 8 rfl Try.underlying35 info_int rfl (by decide) (by omega) u3 (dgs n (4 * i + k)) (dg n (4 * i + k)) [.int .i64 (dg n (4 * i + k))] (fun _ => True) (fun _ => False) rfl rfl rfl (fun _ hk => hk.elim) (fun _ _ => trivial) hown1 hb1 hs0 hle ?_; intro v1 w1 hown2 hb2 _ _)
          go_roundw
          case rel =>
            have hr : WigIn n i w W0 w1 v1 (.int .u64 (xw n i k / 65536)) (.int .i64 ((k : Int) + 1)) := ⟨k + 1, by omega, by go_num, by rw [xs], by rw [← Nat.add_assoc, dgs_succ]; exact hown2, hb2⟩
            first | exact hr | ((repeat apply Exists.intro); exact ⟨hr, rfl⟩)
          case measure => simp [intOf]; omega
        · have hk4 : k = 4 := by omega
          subst hk4
          go_wp2
          go_roundw
          case rel =>
            have hr : WigOut n w W0 wr u3 (.int .i64 ((i : Int) + 1)) := ⟨i + 1, by omega, by go_num, hown1, hb1⟩
            first | exact hr | ((repeat apply Exists.intro); exact ⟨hr, rfl⟩)
          case measure => simp [intOf]; omega
    · have hi4 : i = 8 := by omega
      subst hi4
      go_wp2
      go_ret
      refine ⟨_, rfl, Kd.R_lower hown (Nat.le_succ _), ?_⟩
      refine Below.trans ?_ (Below.mono hb (Nat.le_succ _))
      rw [H0.out]
      go_grown
structure WideSt (n i : Nat) (w wr : World) : Prop where
  b : Below w.heap.size w wr
  hq : Blk wr w.heap.size 41 #[.int .u64 0, .int .u64 0, .int .u64 0, .int .u64 0, .int .u64 0, .int .u64 0, .int .u64 0, .int .u64 0]
  ho : Blk wr (w.heap.size + 1) 41 #[.int .u64 (owN n i 0), .int .u64 (owN n i 1), .int .u64 (owN n i 2), .int .u64 (owN n i 3), .int .u64 (owN n i 4), .int .u64 (owN n i 5), .int .u64 (owN n i 6), .int .u64 (owN n i 7)]
def WideRel (n : Nat) (w : World) (s : Value) (wr : World) : Prop := ∃ z : Int, s = .int .i64 z ∧ -1 ≤ z ∧ z ≤ 31 ∧ WideSt n (z + 1).toNat w wr
theorem WideSt.drewN {n i : Nat} {w wr : World} (h : WideSt n i w wr) (m : Nat) : WideSt n i w (wr.drewN m) := ⟨⟨h.b.os, h.b.tape, h.b.output, h.b.size, h.b.block⟩, h.hq, h.ho⟩
theorem wide_word (n i k : Nat) (hk : k < 8) : (#[.int .u64 (owN n i 0), .int .u64 (owN n i 1), .int .u64 (owN n i 2), .int .u64 (owN n i 3), .int .u64 (owN n i 4), .int .u64 (owN n i 5), .int .u64 (owN n i 6), .int .u64 (owN n i 7)] : Array Value)[k]? = some (.int .u64 (owN n i k)) := by
  obtain rfl | rfl | rfl | rfl | rfl | rfl | rfl | rfl : k = 0 ∨ k = 1 ∨ k = 2 ∨ k = 3 ∨ k = 4 ∨ k = 5 ∨ k = 6 ∨ k = 7 := by omega
  all_goals rfl
theorem WideSt.put {n i : Nat} {w wr : World} (h : WideSt n (i + 1) w wr) (hi : i < 32) : WideSt n i w (wr.setCell ⟨w.heap.size + 1, i / 4, none⟩ (.int .u64 (owN n i (i / 4)))) := by
  refine ⟨h.b.setCell (by dsimp only; omega) _, h.hq.far (by dsimp only; omega) _, ?_⟩
  have h1 := h.ho.set_ (i / 4) (.int .u64 (owN n i (i / 4)))
  have f0 := fun e => owN_far n i 0 e
  have f1 := fun e => owN_far n i 1 e
  have f2 := fun e => owN_far n i 2 e
  have f3 := fun e => owN_far n i 3 e
  have f4 := fun e => owN_far n i 4 e
  have f5 := fun e => owN_far n i 5 e
  have f6 := fun e => owN_far n i 6 e
  have f7 := fun e => owN_far n i 7 e
  have hk : i / 4 = 0 ∨ i / 4 = 1 ∨ i / 4 = 2 ∨ i / 4 = 3 ∨ i / 4 = 4 ∨ i / 4 = 5 ∨ i / 4 = 6 ∨ i / 4 = 7 := by omega
  rcases hk with hk | hk | hk | hk | hk | hk | hk | hk <;> rw [hk] at h1 ⊢
  · rw [f1 (by omega), f2 (by omega), f3 (by omega), f4 (by omega), f5 (by omega), f6 (by omega), f7 (by omega)]; exact h1
  · rw [f0 (by omega), f2 (by omega), f3 (by omega), f4 (by omega), f5 (by omega), f6 (by omega), f7 (by omega)]; exact h1
  · rw [f0 (by omega), f1 (by omega), f3 (by omega), f4 (by omega), f5 (by omega), f6 (by omega), f7 (by omega)]; exact h1
  · rw [f0 (by omega), f1 (by omega), f2 (by omega), f4 (by omega), f5 (by omega), f6 (by omega), f7 (by omega)]; exact h1
  · rw [f0 (by omega), f1 (by omega), f2 (by omega), f3 (by omega), f5 (by omega), f6 (by omega), f7 (by omega)]; exact h1
  · rw [f0 (by omega), f1 (by omega), f2 (by omega), f3 (by omega), f4 (by omega), f6 (by omega), f7 (by omega)]; exact h1
  · rw [f0 (by omega), f1 (by omega), f2 (by omega), f3 (by omega), f4 (by omega), f5 (by omega), f7 (by omega)]; exact h1
  · rw [f0 (by omega), f1 (by omega), f2 (by omega), f3 (by omega), f4 (by omega), f5 (by omega), f6 (by omega)]; exact h1
set_option maxHeartbeats 2000000 in
theorem wide_any (n k : Nat) (hn : n < 65536 ^ k) (A : Option Addr) (c : Nat) (hc : k ≤ c) (w : World) (hd : Digs w A n k) :
    Calls Try.prog 25 #[.slice A k c] w fun e w' => e = .returned (wide n) ∧ Below w.heap.size w w' := by
  go_enter Try.func25, Try.ntmps25
  go_wp2
  go_loopw [4] (fun s wr => WideRel n w s wr) (fun s _ => (intOf s + 1).toNat)
  case atStart =>
    refine ⟨31, rfl, by omega, by omega, (by go_grown), (Blk.newAt (n := w.heap.size) _ _ _ rfl).alloc _, ?_⟩
    have e : (31 + 1 : Int).toNat = 32 := by omega
    rw [e, owN_start n 32 0 (by omega), owN_start n 32 1 (by omega), owN_start n 32 2 (by omega), owN_start n 32 3 (by omega), owN_start n 32 4 (by omega), owN_start n 32 5 (by omega), owN_start n 32 6 (by omega), owN_start n 32 7 (by omega)]
    exact Blk.newAt (n := w.heap.size + 1) _ _ _ (by simp)
  case round =>
    unfold WideRel at hrel
    obtain ⟨z, rfl, hz0, hz1, hst⟩ := hrel
    by_cases hz : 0 ≤ z
    · obtain ⟨i, rfl⟩ := Int.eq_ofNat_of_zero_le hz
      rw [show ((i : Int) + 1).toNat = i + 1 by omega] at hst
      have hdi : decide (0 ≤ (i : Int)) = true := by simp
      have hi16 : i < 32 := by omega
      have hi4 : i / 4 < 8 := by omega
      have hcell : wr.cell? ⟨w.heap.size + 1, i / 4, none⟩ = some (.int .u64 (owN n (i + 1) (i / 4))) := by rw [hst.ho.cell]; exact wide_word n (i + 1) (i / 4) hi4
      have hfro := hst.ho.frozen (i / 4)
      have ob := owN_bound n i (i / 4) rfl
      obtain ⟨ob0, ob1⟩ := ob
      have oh := owN_here n i (i / 4) rfl
      have d0 := dg_lo n i
      have d1 := dg_hi n i
      have hD := Kd.C_below hd hst.b
      have w1 : IntKind.i64.wrap ((i : Int) / 4) = (i : Int) / 4 := IntWalk.i64_in _ (by omega)
      have w2 : 0 ≤ (i : Int) / 4 := by omega
      have w3 : (i : Int) / 4 < 8 := by omega
      have w4 : ((i : Int) / 4).toNat = i / 4 := by omega
      have w5 : IntKind.u64.wrap (owN n (i + 1) (i / 4) * 65536) = owN n (i + 1) (i / 4) * 65536 := IntWalk.u64_in _ (by omega)
      have w6 : IntKind.u64.wrap (dg n i) = dg n i := IntWalk.u64_in _ (by omega)
      have w7 : IntKind.u64.wrap (owN n i (i / 4)) = owN n i (i / 4) := IntWalk.u64_in _ (by omega)
      go_wp2
      refine wp_region_still_tail 13 (by kernel_rfl) (by kernel_rfl) ?_
      simp only [List.take_succ_cons, List.take_zero, List.drop_succ_cons, List.drop_zero]
      repeat still_step
      still_call (digit_any n k hn A c hc i _ hD)
      repeat still_step
      refine wpStill_nil ?_
      change wpList _ _ _ _ _ wr.drew
      clear w1 w2 w3 w4 w5 w6 w7 oh
      go_wp2
      go_roundw
      case rel =>
        refine ⟨(i : Int) - 1, rfl, by omega, by omega, ?_⟩
        rw [show ((i : Int) - 1 + 1).toNat = i by omega]
        exact (hst.put hi16).drewN 1
      case measure => simp [intOf]
    · have hzm : z = -1 := by omega
      subst hzm
      obtain ⟨kq1, kq2, kq3, kq4, _⟩ := hst.hq.knows
      obtain ⟨ko1, ko2, ko3, ko4, _⟩ := hst.ho.knows
      have e0 := owN_end n 0
      have e1 := owN_end n 1
      have e2 := owN_end n 2
      have e3 := owN_end n 3
      have e4 := owN_end n 4
      have e5 := owN_end n 5
      have e6 := owN_end n 6
      have e7 := owN_end n 7
      rw [show ((-1 : Int) + 1).toNat = 0 by omega, e0, e1, e2, e3, e4, e5, e6, e7] at ko1
      go_wp2
      refine bodyPost_ret (v := wide n) (by simp [results, Try.results25, go_sem, kq1, kq4]) rfl ?_
      refine ⟨rfl, ?_⟩
      have hb := hst.b
      go_grown
end Go.Proofs.Ytcoljlanblngiaa
