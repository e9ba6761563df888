/- The document's answer for layer 1: a number's digits. -/
import Derived.Test.YtcoljlanblngiaaK
import Derived.Test.YtcoljlanblngiaaL
import Derived.Test.YtcoljlanblngiaaQLimbMontsx1
namespace Go.Proofs.Ytcoljlanblngiaa
set_option linter.unusedVariables false
set_option linter.unusedSimpArgs false
open Go.RowKit Go.Proofs.YtcoljlanblngiaaW.PrintWords

theorem info_int : (Try.prog.info? 3).map (fun i => (i.zero, i.size, i.bytes)) = some (some (.int .i64 0), 1, 8) := by kernel_rfl
/-- A row of ints of the call's own. -/
abbrev Ints (w : World) (base : Nat) (v : Value) (l : List Int) : Prop := Kd.R (Kd.int .i64) 3 w base (fun _ => True) v l
theorem num_at (x k : Nat) (hk : k < 4) : (#[.int .u64 (lb x 0), .int .u64 (lb x 1), .int .u64 (lb x 2), .int .u64 (lb x 3)] : Array Value)[k]? = some (.int .u64 (lb x k)) := by
  obtain rfl | rfl | rfl | rfl : k = 0 ∨ k = 1 ∨ k = 2 ∨ k = 3 := by omega
  all_goals rfl
def DigIn (n i : Nat) (w W0 wr : World) (o x j : Value) : Prop := ∃ k : Nat, k ≤ 4 ∧ j = .int .i64 k ∧ x = .int .u64 (xw n i k) ∧ Ints wr (w.heap.size + 1) o (dgs n (4 * i + k)) ∧ Below (w.heap.size + 1) W0 wr
def DigOut (n : Nat) (w W0 wr : World) (o i : Value) : Prop := ∃ k : Nat, k ≤ 4 ∧ i = .int .i64 k ∧ Ints wr (w.heap.size + 1) o (dgs n (4 * k)) ∧ Below (w.heap.size + 1) W0 wr
set_option maxHeartbeats 2000000 in
theorem digits_any (n : Nat) (w : World) : Calls Try.prog 21 #[num n] w fun e w' => ∃ v, e = .returned v ∧ Ints w' w.heap.size v (dgs n 16) ∧ Below w.heap.size w w' := by
  go_enter Try.func21, Try.ntmps21
  go_wp2
  obtain ⟨W0, hW0⟩ : ∃ W0, W0 = w.alloc (.cells #[.int .u64 (lb n 0), .int .u64 (lb n 1), .int .u64 (lb n 2), .int .u64 (lb n 3)] 24) := ⟨_, rfl⟩
  have H0 := Lib.hid hW0
  go_loopw [3, 4] (fun o i wr => DigOut n w W0 wr o i) (fun _ i _ => 4 - (intOf i).toNat)
  case atStart =>
    refine ⟨0, by omega, rfl, Kd.R_nil _ _ _ _ _, ?_⟩
    rw [← hW0]; exact Below.refl _ _
  case round =>
    unfold DigOut at hrel
    obtain ⟨i, hi, rfl, hown, hb⟩ := hrel
    clear hW0
    by_cases hlt : i < 4
    · have hdt : decide ((i : Int) < 4) = true := by simp; omega
      have hbx : Blk wr w.heap.size 24 #[.int .u64 (lb n 0), .int .u64 (lb n 1), .int .u64 (lb n 2), .int .u64 (lb n 3)] := by
        refine Blk.below ?_ hb (Nat.lt_succ_self _)
        rw [H0.out]; exact Blk.new _ _ _
      have hxi : wr.cell? ⟨w.heap.size, i, none⟩ = some (.int .u64 (xw n i 0)) := by
        rw [hbx.cell, xw_zero]; exact num_at n i hlt
      go_wp2
      obtain ⟨wo, rfl⟩ : ∃ wo : World, wo = wr := ⟨_, rfl⟩
      clear hxi hbx
      have Hb := Lib.hid hb
      go_loopw [3, 5, 6] (fun o x j wr => DigIn n i w W0 wr o x j) (fun _ _ j _ => 4 - (intOf j).toNat)
      case atStart => exact ⟨0, by omega, rfl, rfl, hown, hb⟩
      case round =>
        unfold DigIn at hrel
        obtain ⟨k, hk, rfl, rfl, hown1, hb1⟩ := hrel
        by_cases hlk : k < 4
        · have x0 := xw_lo n i k
          have x1 := xw_hi n i k
          have xd := xw_digit n i k hlk
          have xs := xw_succ n i k
          have d0 := dg_lo n (4 * i + k)
          have d1 := dg_hi n (4 * i + k)
          have hsz := hb1.size
          have hs0 : w.heap.size + 1 ≤ wr.heap.size := by
            have h := hb1.size
            rw [H0.out] at h
            simpa using h
          have hle : ((dgs n (4 * i + k)).length + 1) * 8 ≤ 140737488355328 := by rw [dgs_length]; omega
          go_wp2_with ((with_reducible refine gate_builtin (b := .append) (xs := #[.tmp 18, .tmp 22]) rfl ?_); at_builtin; refine Kd.R_append (Kd.int .i64) (w0 := W0) (w.heap.size + 1) rfl (.tmp 18) (.tmp 22) 35 3 (.int .i64 0) 8 rfl Try.underlying35 info_int rfl (by decide) (by omega) u3 (dgs n (4 * i + k)) (dg n (4 * i + k)) [.int .i64 (dg n (4 * i + k))] (fun _ => True) (fun _ => False) rfl rfl rfl (fun _ hk => hk.elim) (fun _ _ => trivial) hown1 hb1 hs0 hle ?_; intro v1 w1 hown2 hb2 _ _)
          go_roundw
          case rel =>
            have hr : DigIn n i w W0 w1 v1 (.int .u64 (xw n i k / 65536)) (.int .i64 ((k : Int) + 1)) := ⟨k + 1, by omega, by go_num, by rw [xs], by rw [← Nat.add_assoc, dgs_succ]; exact hown2, hb2⟩
            first | exact hr | ((repeat apply Exists.intro); exact ⟨hr, rfl⟩)
          case measure => simp [intOf]; omega
        · have hk4 : k = 4 := by omega
          subst hk4
          go_wp2
          go_roundw
          case rel =>
            have hr : DigOut n w W0 wr u3 (.int .i64 ((i : Int) + 1)) := ⟨i + 1, by omega, by go_num, hown1, hb1⟩
            first | exact hr | ((repeat apply Exists.intro); exact ⟨hr, rfl⟩)
          case measure => simp [intOf]; omega
    · have hi4 : i = 4 := by omega
      subst hi4
      go_wp2
      go_ret
      refine ⟨_, rfl, Kd.R_lower hown (Nat.le_succ _), ?_⟩
      refine Below.trans ?_ (Below.mono hb (Nat.le_succ _))
      rw [H0.out]
      go_grown
end Go.Proofs.Ytcoljlanblngiaa
