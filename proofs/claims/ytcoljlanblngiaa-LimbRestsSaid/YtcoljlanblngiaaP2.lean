/- The document's answer for layer 1: the number of a list of digits. -/
import Derived.Test.YtcoljlanblngiaaP
import Derived.StillTailTactics
namespace Go.Proofs.Ytcoljlanblngiaa
set_option linter.unusedVariables false
set_option linter.unusedSimpArgs false
open Go.RowKit Go.Proofs.YtcoljlanblngiaaW.PrintWords

/-- A list of digits that is read. -/
abbrev Digs (w : World) (A : Option Addr) (n k : Nat) : Prop := Kd.C (Kd.int .i64) w A k (dgs n k)
theorem rd_dgs (n k i : Nat) (h : i < k) : rd (dgs n k) (i : Int) = dg n i := by
  unfold rd
  rw [Int.toNat_natCast, List.getD_eq_getElem?_getD, dgs_get n k i h, dg_def]; rfl
theorem digs_at (n k i : Nat) (A : Option Addr) (w : World) (hd : Digs w A n k) (h : i < k) : ∃ ad, A = some ad ∧ w.cell? (ad.add i) = some (.int .i64 (dg n i)) := by
  have hl := dgs_length n k
  have hd' : Kd.C (Kd.int .i64) w A (dgs n k).length (dgs n k) := by rw [hl]; exact hd
  obtain ⟨ad, e, hx⟩ := Kd.at_int hd' (i : Int) (by omega) (by rw [hl]; omega)
  rw [rd_dgs n k i h, Int.toNat_natCast] at hx
  exact ⟨ad, e, hx⟩
theorem digit_any (n k : Nat) (hn : n < 65536 ^ k) (A : Option Addr) (c : Nat) (hc : k ≤ c) (i : Nat) (w : World) (hd : Digs w A n k) :
    Calls Try.prog 44 #[.slice A k c, .int .i64 (i : Int)] w fun e w' => e = .returned (.int .i64 (dg n i)) ∧ w' = w := by
  by_cases h : i < k
  · obtain ⟨ad, rfl, hx⟩ := digs_at n k i A w hd h
    have h1 : decide ((i : Int) < (k : Int)) = true := by simp; omega
    have h2 : (i : Int) < (k : Int) := by omega
    have h3 : 0 ≤ (i : Int) := by omega
    go_enter Try.func44, Try.ntmps44
    go_wp2
    go_ret
    exact ⟨rfl, rfl⟩
  · have h1 : decide ((i : Int) < (k : Int)) = false := by simp; omega
    have e := dg_high n k i hn (by omega)
    go_enter Try.func44, Try.ntmps44
    go_wp2
    go_ret
    exact ⟨by simp [e], rfl⟩
/-- What stands in the words while the digits come in: i digits are still to come. -/
noncomputable def ow (n i k : Nat) : Int := if 4 * (k + 1) ≤ i then 0 else yw n k (min 4 (4 * (k + 1) - i))
theorem ow_is : ∃ f : Nat → Nat → Nat → Int, ∀ n i k, f n i k = ow n i k := ⟨ow, fun _ _ _ => rfl⟩
noncomputable def owN : Nat → Nat → Nat → Int := Classical.choose ow_is
theorem owN_def (n i k : Nat) : owN n i k = ow n i k := Classical.choose_spec ow_is n i k
theorem owN_start (n i k : Nat) (h : 4 * (k + 1) ≤ i) : owN n i k = 0 := by rw [owN_def]; unfold ow; rw [if_pos h]
theorem owN_end (n k : Nat) : owN n 0 k = lb n k := by
  rw [owN_def]; unfold ow
  rw [if_neg (by omega), show min 4 (4 * (k + 1) - 0) = 4 by omega, yw_four]
theorem owN_bound (n i k : Nat) (h : k = i / 4) : 0 ≤ owN n (i + 1) k ∧ owN n (i + 1) k ≤ 281474976710655 := by
  rw [owN_def]; unfold ow
  split
  · omega
  · have := yw_lo n k (min 4 (4 * (k + 1) - (i + 1)))
    have := yw_small n k (min 4 (4 * (k + 1) - (i + 1))) (by omega)
    omega
theorem owN_here (n i k : Nat) (h : k = i / 4) : owN n (i + 1) k * 65536 + dg n i = owN n i k := by
  rw [owN_def, owN_def]; unfold ow
  rw [if_neg (by omega : ¬ 4 * (k + 1) ≤ i)]
  have e : min 4 (4 * (k + 1) - i) = (4 * (k + 1) - (i + 1)) + 1 := by omega
  have hs := yw_step n k (4 * (k + 1) - (i + 1)) (by omega)
  rw [show 4 * k + (3 - (4 * (k + 1) - (i + 1))) = i by omega] at hs
  rw [e, ← hs]
  split
  · rw [show 4 * (k + 1) - (i + 1) = 0 by omega, yw_zero]
  · rw [show min 4 (4 * (k + 1) - (i + 1)) = 4 * (k + 1) - (i + 1) by omega]
theorem owN_far (n i k : Nat) (h : k ≠ i / 4) : owN n i k = owN n (i + 1) k := by
  rw [owN_def, owN_def]; unfold ow
  split <;> split
  · rfl
  · omega
  · omega
  · congr 1; omega
structure NumSt (n i : Nat) (w wr : World) : Prop where
  b : Below w.heap.size w wr
  hq : Blk wr w.heap.size 24 #[.int .u64 0, .int .u64 0, .int .u64 0, .int .u64 0]
  ho : Blk wr (w.heap.size + 1) 24 #[.int .u64 (owN n i 0), .int .u64 (owN n i 1), .int .u64 (owN n i 2), .int .u64 (owN n i 3)]
def NumRel (n : Nat) (w : World) (s : Value) (wr : World) : Prop := ∃ z : Int, s = .int .i64 z ∧ -1 ≤ z ∧ z ≤ 15 ∧ NumSt n (z + 1).toNat w wr
theorem NumSt.drewN {n i : Nat} {w wr : World} (h : NumSt n i w wr) (m : Nat) : NumSt n i w (wr.drewN m) := ⟨⟨h.b.os, h.b.tape, h.b.output, h.b.size, h.b.block⟩, h.hq, h.ho⟩
theorem num_word (n i k : Nat) (hk : k < 4) : (#[.int .u64 (owN n i 0), .int .u64 (owN n i 1), .int .u64 (owN n i 2), .int .u64 (owN n i 3)] : Array Value)[k]? = some (.int .u64 (owN n i k)) := by
  obtain rfl | rfl | rfl | rfl : k = 0 ∨ k = 1 ∨ k = 2 ∨ k = 3 := by omega
  all_goals rfl
theorem NumSt.put {n i : Nat} {w wr : World} (h : NumSt n (i + 1) w wr) (hi : i < 16) : NumSt n i w (wr.setCell ⟨w.heap.size + 1, i / 4, none⟩ (.int .u64 (owN n i (i / 4)))) := by
  refine ⟨h.b.setCell (by dsimp only; omega) _, h.hq.far (by dsimp only; omega) _, ?_⟩
  have h1 := h.ho.set_ (i / 4) (.int .u64 (owN n i (i / 4)))
  have f0 := fun e => owN_far n i 0 e
  have f1 := fun e => owN_far n i 1 e
  have f2 := fun e => owN_far n i 2 e
  have f3 := fun e => owN_far n i 3 e
  have hk : i / 4 = 0 ∨ i / 4 = 1 ∨ i / 4 = 2 ∨ i / 4 = 3 := by omega
  rcases hk with hk | hk | hk | hk <;> rw [hk] at h1 ⊢
  · rw [f1 (by omega), f2 (by omega), f3 (by omega)]; exact h1
  · rw [f0 (by omega), f2 (by omega), f3 (by omega)]; exact h1
  · rw [f0 (by omega), f1 (by omega), f3 (by omega)]; exact h1
  · rw [f0 (by omega), f1 (by omega), f2 (by omega)]; exact h1
set_option maxHeartbeats 2000000 in
theorem num_any (n k : Nat) (hn : n < 65536 ^ k) (A : Option Addr) (c : Nat) (hc : k ≤ c) (w : World) (hd : Digs w A n k) :
    Calls Try.prog 23 #[.slice A k c] w fun e w' => e = .returned (num n) ∧ Below w.heap.size w w' := by
  go_enter Try.func23, Try.ntmps23
  go_wp2
  go_loopw [4] (fun s wr => NumRel n w s wr) (fun s _ => (intOf s + 1).toNat)
  case atStart =>
    refine ⟨15, rfl, by omega, by omega, (by go_grown), (Blk.newAt (n := w.heap.size) _ _ _ rfl).alloc _, ?_⟩
    have e : (15 + 1 : Int).toNat = 16 := by omega
    rw [e, owN_start n 16 0 (by omega), owN_start n 16 1 (by omega), owN_start n 16 2 (by omega), owN_start n 16 3 (by omega)]
    exact Blk.newAt (n := w.heap.size + 1) _ _ _ (by simp)
  case round =>
    unfold NumRel at hrel
    obtain ⟨z, rfl, hz0, hz1, hst⟩ := hrel
    by_cases hz : 0 ≤ z
    · obtain ⟨i, rfl⟩ := Int.eq_ofNat_of_zero_le hz
      rw [show ((i : Int) + 1).toNat = i + 1 by omega] at hst
      have hdi : decide (0 ≤ (i : Int)) = true := by simp
      have hi16 : i < 16 := by omega
      have hi4 : i / 4 < 4 := by omega
      have hcell : wr.cell? ⟨w.heap.size + 1, i / 4, none⟩ = some (.int .u64 (owN n (i + 1) (i / 4))) := by rw [hst.ho.cell]; exact num_word n (i + 1) (i / 4) hi4
      have hfro := hst.ho.frozen (i / 4)
      have ob := owN_bound n i (i / 4) rfl
      obtain ⟨ob0, ob1⟩ := ob
      have oh := owN_here n i (i / 4) rfl
      have d0 := dg_lo n i
      have d1 := dg_hi n i
      have hD := Kd.C_below hd hst.b
      have w1 : IntKind.i64.wrap ((i : Int) / 4) = (i : Int) / 4 := IntWalk.i64_in _ (by omega)
      have w2 : 0 ≤ (i : Int) / 4 := by omega
      have w3 : (i : Int) / 4 < 4 := by omega
      have w4 : ((i : Int) / 4).toNat = i / 4 := by omega
      have w5 : IntKind.u64.wrap (owN n (i + 1) (i / 4) * 65536) = owN n (i + 1) (i / 4) * 65536 := IntWalk.u64_in _ (by omega)
      have w6 : IntKind.u64.wrap (dg n i) = dg n i := IntWalk.u64_in _ (by omega)
      have w7 : IntKind.u64.wrap (owN n i (i / 4)) = owN n i (i / 4) := IntWalk.u64_in _ (by omega)
      go_wp2
      refine wp_region_still_tail 13 (by kernel_rfl) (by kernel_rfl) ?_
      simp only [List.take_succ_cons, List.take_zero, List.drop_succ_cons, List.drop_zero]
      repeat still_step
      still_call (digit_any n k hn A c hc i _ hD)
      repeat still_step
      refine wpStill_nil ?_
      change wpList _ _ _ _ _ wr.drew
      clear w1 w2 w3 w4 w5 w6 w7 oh
      go_wp2
      go_roundw
      case rel =>
        refine ⟨(i : Int) - 1, rfl, by omega, by omega, ?_⟩
        rw [show ((i : Int) - 1 + 1).toNat = i by omega]
        exact (hst.put hi16).drewN 1
      case measure => simp [intOf]
    · have hzm : z = -1 := by omega
      subst hzm
      obtain ⟨kq1, kq2, kq3, kq4, _⟩ := hst.hq.knows
      obtain ⟨ko1, ko2, ko3, ko4, _⟩ := hst.ho.knows
      have e0 := owN_end n 0
      have e1 := owN_end n 1
      have e2 := owN_end n 2
      have e3 := owN_end n 3
      rw [show ((-1 : Int) + 1).toNat = 0 by omega, e0, e1, e2, e3] at ko1
      go_wp2
      refine bodyPost_ret (v := num n) (by simp [results, Try.results23, go_sem, kq1, kq4]) rfl ?_
      refine ⟨rfl, ?_⟩
      have hb := hst.b
      go_grown
end Go.Proofs.Ytcoljlanblngiaa
