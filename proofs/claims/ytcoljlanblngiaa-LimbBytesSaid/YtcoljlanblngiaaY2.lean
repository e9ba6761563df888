/- The document's answer for layer 1: a number's bytes. -/
import Derived.Test.YtcoljlanblngiaaP
import Derived.Test.YtcoljlanblngiaaY1
namespace Go.Proofs.Ytcoljlanblngiaa
set_option linter.unusedVariables false
set_option linter.unusedSimpArgs false
open Go.RowKit Go.Proofs.YtcoljlanblngiaaW.PrintWords

theorem info_byte : (Try.prog.info? 5).map (fun i => (i.zero, i.size, i.bytes)) = some (some (.int .u8 0), 1, 1) := by kernel_rfl
/-- A row of bytes of the call's own. -/
abbrev Byts (w : World) (base : Nat) (v : Value) (l : List Int) : Prop := Kd.R (Kd.int .u8) 5 w base (fun _ => True) v l
/-- A number's bytes as a string. -/
theorem bst_is : ∃ f : Nat → ByteArray, ∀ n, f n = strOfNums (bys n 32) := ⟨fun n => strOfNums (bys n 32), fun _ => rfl⟩
noncomputable def bst : Nat → ByteArray := Classical.choose bst_is
theorem bst_def (n : Nat) : bst n = strOfNums (bys n 32) := Classical.choose_spec bst_is n
def BytIn (n i : Nat) (w W0 wr : World) (o x j : Value) : Prop := ∃ k : Nat, k ≤ 8 ∧ j = .int .i64 k ∧ x = .int .u64 (xb n i k) ∧ Byts wr (w.heap.size + 1) o (bys n (8 * (3 - i) + k)) ∧ Below (w.heap.size + 1) W0 wr
def BytOut (n : Nat) (w W0 wr : World) (o i : Value) : Prop := ∃ z : Int, -1 ≤ z ∧ z ≤ 3 ∧ i = .int .i64 z ∧ Byts wr (w.heap.size + 1) o (bys n (8 * (3 - z).toNat)) ∧ Below (w.heap.size + 1) W0 wr
set_option maxHeartbeats 2000000 in
theorem rbytes_any (n : Nat) (w : World) : Calls Try.prog 16 #[num n] w fun e w' => e = .returned (.string (bst n)) ∧ Below w.heap.size w w' := by
  go_enter Try.func16, Try.ntmps16
  go_wp2
  obtain ⟨W0, hW0⟩ : ∃ W0, W0 = w.alloc (.cells #[.int .u64 (lb n 0), .int .u64 (lb n 1), .int .u64 (lb n 2), .int .u64 (lb n 3)] 24) := ⟨_, rfl⟩
  have H0 := Lib.hid hW0
  go_loopw [3, 4] (fun o i wr => BytOut n w W0 wr o i) (fun _ i _ => (intOf i + 1).toNat)
  case atStart =>
    refine ⟨3, by omega, by omega, rfl, Kd.R_nil _ _ _ _ _, ?_⟩
    rw [← hW0]; exact Below.refl _ _
  case round =>
    unfold BytOut at hrel
    obtain ⟨z, hz0, hz1, rfl, hown, hb⟩ := hrel
    clear hW0
    by_cases hlt : 0 ≤ z
    · obtain ⟨i, rfl⟩ := Int.eq_ofNat_of_zero_le hlt
      have hdt : decide (0 ≤ (i : Int)) = true := by simp
      rw [show (3 - (i : Int)).toNat = 3 - i by omega] at hown
      have hbx : Blk wr w.heap.size 24 #[.int .u64 (lb n 0), .int .u64 (lb n 1), .int .u64 (lb n 2), .int .u64 (lb n 3)] := by
        refine Blk.below ?_ hb (Nat.lt_succ_self _)
        rw [H0.out]; exact Blk.new _ _ _
      have hxi : wr.cell? ⟨w.heap.size, i, none⟩ = some (.int .u64 (xb n i 0)) := by
        rw [hbx.cell, xb_zero]; exact num_at n i (by omega)
      have hi4 : (i : Int) < 4 := by omega
      go_wp2
      obtain ⟨wo, rfl⟩ : ∃ wo : World, wo = wr := ⟨_, rfl⟩
      clear hxi hbx
      have Hb := Lib.hid hb
      go_loopw [3, 5, 6] (fun o x j wr => BytIn n i w W0 wr o x j) (fun _ _ j _ => 8 - (intOf j).toNat)
      case atStart => exact ⟨0, by omega, rfl, rfl, hown, hb⟩
      case round =>
        unfold BytIn at hrel
        obtain ⟨k, hk, rfl, rfl, hown1, hb1⟩ := hrel
        by_cases hlk : k < 8
        · have x0 := xb_lo n i k
          have x1 := xb_hi n i k
          have xd := xb_byte n i k hlk
          have xs := xb_succ n i k
          rw [show 8 * i + (7 - k) = 31 - (8 * (3 - i) + k) by omega] at xd
          have d0 := byt_lo n (31 - (8 * (3 - i) + k))
          have d1 := byt_hi n (31 - (8 * (3 - i) + k))
          have hsz := hb1.size
          have hs0 : w.heap.size + 1 ≤ wr.heap.size := by
            have h := hb1.size
            rw [H0.out] at h
            simpa using h
          have hle : ((bys n (8 * (3 - i) + k)).length + 1) * 1 ≤ 140737488355328 := by rw [bys_length]; omega
          go_wp2_with ((with_reducible refine gate_builtin (b := .append) (xs := #[.tmp 18, .tmp 22]) rfl ?_); at_builtin; refine Kd.R_append (Kd.int .u8) (w0 := W0) (w.heap.size + 1) rfl (.tmp 18) (.tmp 22) 65 5 (.int .u8 0) 1 rfl Try.underlying65 info_byte rfl (by decide) (by omega) u3 (bys n (8 * (3 - i) + k)) (byt n (31 - (8 * (3 - i) + k))) [.int .u8 (byt n (31 - (8 * (3 - i) + k)))] (fun _ => True) (fun _ => False) rfl rfl rfl (fun _ hk => hk.elim) (fun _ _ => trivial) hown1 hb1 hs0 hle ?_; intro v1 w1 hown2 hb2 _ _)
          go_roundw
          case rel =>
            have hr : BytIn n i w W0 w1 v1 (.int .u64 (xb n i k * 256 % 18446744073709551616)) (.int .i64 ((k : Int) + 1)) := ⟨k + 1, by omega, by go_num, by rw [xs], by rw [← Nat.add_assoc, bys_succ]; exact hown2, hb2⟩
            first | exact hr | ((repeat apply Exists.intro); exact ⟨hr, rfl⟩)
          case measure => simp [intOf]; omega
        · have hk8 : k = 8 := by omega
          subst hk8
          go_wp2
          go_roundw
          case rel =>
            have hr : BytOut n w W0 wr u3 (.int .i64 ((i : Int) - 1)) := ⟨(i : Int) - 1, by omega, by omega, by go_num, by rw [show (3 - ((i : Int) - 1)).toNat = (3 - i) + 1 by omega, Nat.mul_succ]; exact hown1, hb1⟩
            first | exact hr | ((repeat apply Exists.intro); exact ⟨hr, rfl⟩)
          case measure => simp [intOf]
    · have hz : z = -1 := by omega
      subst hz
      rw [show 8 * (3 - (-1 : Int)).toNat = 32 by omega] at hown
      obtain ⟨A, c, rfl, hc, hd⟩ := Kd.R_reads hown
      rw [bys_length] at hd hc
      have hcs := fun W (h : Below wr.heap.size wr W) => Kd.C_string (P := Try.prog) Try.underlying65 Try.underlying5 Try.underlying9 (c := c) (Kd.C_below hd h)
      have hcs0 := hcs wr (Below.refl _ _)
      clear hcs
      rw [← bst_def] at hcs0
      simp only [bys_length]
      go_wp2
      go_ret
      refine ⟨rfl, ?_⟩
      refine Below.trans ?_ (Below.mono hb (Nat.le_succ _))
      rw [H0.out]
      go_grown
end Go.Proofs.Ytcoljlanblngiaa
