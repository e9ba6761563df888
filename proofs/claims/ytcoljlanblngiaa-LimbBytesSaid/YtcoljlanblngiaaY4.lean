/- limb's number of bytes, and the document's. -/
import Derived.Test.YtcoljlanblngiaaY3
import Derived.Test.YtcoljlanblngiaaQ
namespace Go.Proofs.Ytcoljlanblngiaa
set_option linter.unusedVariables false
set_option linter.unusedSimpArgs false
open Go.RowKit Go.Proofs.YtcoljlanblngiaaW.PrintWords

/-- s is the number's bytes, the highest first. -/
def IsBytes (s : ByteArray) (n : Nat) : Prop := s.size = 32 ∧ ∀ i (h : i < s.size), ((s[i]'h).toNat : Int) = byt n (31 - i)
theorem index_byte (s : ByteArray) (n : Nat) (hs : IsBytes s n) (i : Nat) (hi : i < 32) (z : Int) (hz : z = 31 - (i : Int)) (w : World) : (Instr.index 9 (.string s) (.int .i64 z)).run Try.prog w = .ok (.int .u8 (byt n i)) w := by
  subst hz
  rw [run_index_string w 9 s .i64 _ Try.underlying9]
  have h1 := hs.1
  have h0 : 0 ≤ 31 - (i : Int) ∧ 31 - (i : Int) < s.size := by omega
  rw [dif_pos h0]
  have h2 := hs.2 (31 - (i : Int)).toNat (by omega)
  rw [h2]
  congr 3
  omega
theorem isBytes_size {s : ByteArray} {n : Nat} (hs : IsBytes s n) : s.size = 32 := hs.1
structure FromSt (n i : Nat) (w wr : World) : Prop where
  b : Below w.heap.size w wr
  hq : Blk wr w.heap.size 24 #[.int .u64 0, .int .u64 0, .int .u64 0, .int .u64 0]
  ho : Blk wr (w.heap.size + 1) 24 #[.int .u64 (lw n i 0), .int .u64 (lw n i 1), .int .u64 (lw n i 2), .int .u64 (lw n i 3)]
def FromRel (n : Nat) (w : World) (s : Value) (wr : World) : Prop := ∃ i : Nat, s = .int .i64 (i : Int) ∧ i ≤ 32 ∧ FromSt n i w wr
theorem FromSt.drewN {n i : Nat} {w wr : World} (h : FromSt n i w wr) (m : Nat) : FromSt n i w (wr.drewN m) := ⟨⟨h.b.os, h.b.tape, h.b.output, h.b.size, h.b.block⟩, h.hq, h.ho⟩
theorem lw_word (n i k : Nat) (hk : k < 4) : (#[.int .u64 (lw n i 0), .int .u64 (lw n i 1), .int .u64 (lw n i 2), .int .u64 (lw n i 3)] : Array Value)[k]? = some (.int .u64 (lw n i k)) := by
  obtain rfl | rfl | rfl | rfl : k = 0 ∨ k = 1 ∨ k = 2 ∨ k = 3 := by omega
  all_goals rfl
theorem FromSt.put {n i : Nat} {w wr : World} (h : FromSt n i w wr) (hi : i < 32) : FromSt n (i + 1) w (wr.setCell ⟨w.heap.size + 1, i / 8, none⟩ (.int .u64 (lw n (i + 1) (i / 8)))) := by
  refine ⟨h.b.setCell (by dsimp only; omega) _, h.hq.far (by dsimp only; omega) _, ?_⟩
  have h1 := h.ho.set_ (i / 8) (.int .u64 (lw n (i + 1) (i / 8)))
  have f0 := fun e => lw_far n i 0 e
  have f1 := fun e => lw_far n i 1 e
  have f2 := fun e => lw_far n i 2 e
  have f3 := fun e => lw_far n i 3 e
  have hk : i / 8 = 0 ∨ i / 8 = 1 ∨ i / 8 = 2 ∨ i / 8 = 3 := by omega
  rcases hk with hk | hk | hk | hk <;> rw [hk] at h1 ⊢
  · rw [f1 (by omega), f2 (by omega), f3 (by omega)] at h1; exact h1
  · rw [f0 (by omega), f2 (by omega), f3 (by omega)] at h1; exact h1
  · rw [f0 (by omega), f1 (by omega), f3 (by omega)] at h1; exact h1
  · rw [f0 (by omega), f1 (by omega), f2 (by omega)] at h1; exact h1
set_option maxHeartbeats 2000000 in
theorem from_any (n : Nat) (s : ByteArray) (hs : IsBytes s n) (w : World) : Calls Try.prog 14 #[.string s] w fun e w' => e = .returned (.tuple #[num n, .int .i64 0]) ∧ Below w.heap.size w w' := by
  have hsz := isBytes_size hs
  go_enter Try.func14, Try.ntmps14
  go_wp2
  go_loopw [10] (fun s wr => FromRel n w s wr) (fun s _ => 32 - (intOf s).toNat)
  case atStart =>
    refine ⟨0, rfl, by omega, (by go_grown), (Blk.newAt (n := w.heap.size) _ _ _ rfl).alloc _, ?_⟩
    rw [lw_zero, lw_zero, lw_zero, lw_zero]
    exact Blk.newAt (n := w.heap.size + 1) _ _ _ (by simp)
  case round =>
    unfold FromRel at hrel
    obtain ⟨i, rfl, hi, hst⟩ := hrel
    by_cases hlt : i < 32
    · have hdt : decide ((i : Int) < 32) = true := by simp; omega
      have w1 : IntKind.i64.wrap (31 - (i : Int)) = 31 - (i : Int) := IntWalk.i64_in _ (by omega)
      have w2 : 0 ≤ (i : Int) / 8 := by omega
      have w3 : (i : Int) / 8 < 4 := by omega
      have w4 : ((i : Int) / 8).toNat = i / 8 := by omega
      have hx : wr.cell? ⟨w.heap.size + 1, i / 8, none⟩ = some (.int .u64 (lw n i (i / 8))) := by rw [hst.ho.cell]; exact lw_word n i (i / 8) (by omega)
      have hfro := hst.ho.frozen (i / 8)
      have hix := index_byte s n hs i hlt _ rfl
      have b0 := byt_lo n i
      have b1 := byt_hi n i
      obtain ⟨hor, hsl⟩ := lw_here n i (i / 8) rfl
      go_wp2
      go_region
      go_wp2
      go_roundw
      case rel =>
        have w5 : IntKind.u64.wrap (byt n i * 2 ^ (8 * (i % 8))) = byt n i * 2 ^ (8 * (i % 8)) := IntWalk.u64_in _ ⟨Int.mul_nonneg b0 (Int.le_of_lt (Int.pow_pos (by omega))), by omega⟩
        refine ⟨i + 1, by go_num, by omega, ?_⟩
        rw [w5, hor]
        exact (hst.put hlt).drewN 1
      case measure => simp [intOf]; omega
    · have h32 : i = 32 := by omega
      subst h32
      obtain ⟨kq1, kq2, kq3, kq4, _⟩ := hst.hq.knows
      obtain ⟨ko1, ko2, ko3, ko4, _⟩ := hst.ho.knows
      rw [lw_end n 0 (by omega), lw_end n 1 (by omega), lw_end n 2 (by omega), lw_end n 3 (by omega)] at ko1
      go_wp2
      refine bodyPost_ret (v := .tuple #[num n, .int .i64 0]) (by simp [results, Try.results14, go_sem, kq1, kq4]) rfl ?_
      refine ⟨rfl, ?_⟩
      have hb := hst.b
      go_grown
theorem from_bad (s : ByteArray) (hs : s.size ≠ 32) (hm : s.size ≤ maxLen) (w : World) : Calls Try.prog 14 #[.string s] w fun e w' => e = .returned (.tuple #[num 0, .int .i64 4]) ∧ Below w.heap.size w w' := by
  have hm2 : s.size ≤ 9223372036854775807 := by unfold maxLen at hm; omega
  have hne : ((s.size : Int) == 32) = false := by simp; omega
  rw [num_zero]
  go_enter Try.func14, Try.ntmps14
  go_wp2
  have kb : Blk (w.alloc (.cells #[.int .u64 0, .int .u64 0, .int .u64 0, .int .u64 0] 24)) w.heap.size 24 #[.int .u64 0, .int .u64 0, .int .u64 0, .int .u64 0] := Blk.new _ _ _
  obtain ⟨kq1, kq2, kq3, kq4, _⟩ := kb.knows
  refine bodyPost_ret (v := .tuple #[zeroV, .int .i64 4]) (by simp [results, Try.results14, go_sem, kq1, kq4]) rfl ?_
  refine ⟨rfl, ?_⟩
  go_grown
/-! ### The document's -/
structure RomSt (n i : Nat) (w wr : World) : Prop where
  b : Below w.heap.size w wr
  hq : Blk wr w.heap.size 24 #[.int .u64 0, .int .u64 0, .int .u64 0, .int .u64 0]
  ho : Blk wr (w.heap.size + 1) 24 #[.int .u64 (hw n i 0), .int .u64 (hw n i 1), .int .u64 (hw n i 2), .int .u64 (hw n i 3)]
def RomRel (n : Nat) (w : World) (s : Value) (wr : World) : Prop := ∃ i : Nat, s = .int .i64 (32 - (i : Int)) ∧ i ≤ 32 ∧ RomSt n i w wr
theorem RomSt.drewN {n i : Nat} {w wr : World} (h : RomSt n i w wr) (m : Nat) : RomSt n i w (wr.drewN m) := ⟨⟨h.b.os, h.b.tape, h.b.output, h.b.size, h.b.block⟩, h.hq, h.ho⟩
theorem hw_word (n i k : Nat) (hk : k < 4) : (#[.int .u64 (hw n i 0), .int .u64 (hw n i 1), .int .u64 (hw n i 2), .int .u64 (hw n i 3)] : Array Value)[k]? = some (.int .u64 (hw n i k)) := by
  obtain rfl | rfl | rfl | rfl : k = 0 ∨ k = 1 ∨ k = 2 ∨ k = 3 := by omega
  all_goals rfl
theorem RomSt.put {n i : Nat} {w wr : World} (h : RomSt n (i + 1) w wr) (hi : i < 32) : RomSt n i w (wr.setCell ⟨w.heap.size + 1, i / 8, none⟩ (.int .u64 (hw n i (i / 8)))) := by
  refine ⟨h.b.setCell (by dsimp only; omega) _, h.hq.far (by dsimp only; omega) _, ?_⟩
  have h1 := h.ho.set_ (i / 8) (.int .u64 (hw n i (i / 8)))
  have f0 := fun e => hw_far n i 0 e
  have f1 := fun e => hw_far n i 1 e
  have f2 := fun e => hw_far n i 2 e
  have f3 := fun e => hw_far n i 3 e
  have hk : i / 8 = 0 ∨ i / 8 = 1 ∨ i / 8 = 2 ∨ i / 8 = 3 := by omega
  rcases hk with hk | hk | hk | hk <;> rw [hk] at h1 ⊢
  · rw [f1 (by omega), f2 (by omega), f3 (by omega)]; exact h1
  · rw [f0 (by omega), f2 (by omega), f3 (by omega)]; exact h1
  · rw [f0 (by omega), f1 (by omega), f3 (by omega)]; exact h1
  · rw [f0 (by omega), f1 (by omega), f2 (by omega)]; exact h1
set_option maxHeartbeats 2000000 in
theorem rfrom_any (n : Nat) (s : ByteArray) (hs : IsBytes s n) (w : World) : Calls Try.prog 15 #[.string s] w fun e w' => e = .returned (.tuple #[num n, .int .i64 0]) ∧ Below w.heap.size w w' := by
  have hsz := isBytes_size hs
  go_enter Try.func15, Try.ntmps15
  go_wp2
  go_loopw [5, 6] (fun s _ wr => RomRel n w s wr) (fun s _ _ => 32 - (intOf s).toNat)
  case atStart =>
    refine ⟨32, by go_num, by omega, (by go_grown), (Blk.newAt (n := w.heap.size) _ _ _ rfl).alloc _, ?_⟩
    rw [hw_zero n 32 0 (by omega), hw_zero n 32 1 (by omega), hw_zero n 32 2 (by omega), hw_zero n 32 3 (by omega)]
    exact Blk.newAt (n := w.heap.size + 1) _ _ _ (by simp)
  case round =>
    unfold RomRel at hrel
    obtain ⟨i1, rfl, hi, hst⟩ := hrel
    by_cases hlt : 0 < i1
    · obtain ⟨i, rfl⟩ : ∃ i, i1 = i + 1 := ⟨i1 - 1, by omega⟩
      obtain ⟨z, hz⟩ : ∃ z : Int, z = 32 - ((i + 1 : Nat) : Int) := ⟨_, rfl⟩
      rw [← hz]
      have hz1 : z = 31 - (i : Int) := by omega
      have hdt : decide (z < 32) = true := by simp; omega
      have w1 : IntKind.i64.wrap (3 - z / 8) = ((i / 8 : Nat) : Int) := by rw [IntWalk.i64_in _ (by omega)]; omega
      have w3 : ((i / 8 : Nat) : Int) < 4 := by omega
      have w4 : (((i / 8 : Nat) : Int)).toNat = i / 8 := by omega
      have w5 : 0 ≤ ((i / 8 : Nat) : Int) := by omega
      have w6 : 3 - z / 8 = ((i / 8 : Nat) : Int) := by omega
      have hx : wr.cell? ⟨w.heap.size + 1, i / 8, none⟩ = some (.int .u64 (hw n (i + 1) (i / 8))) := by rw [hst.ho.cell]; exact hw_word n (i + 1) (i / 8) (by omega)
      have hfro := hst.ho.frozen (i / 8)
      have hix := index_byte s n hs i (by omega) z hz1
      have b0 := byt_lo n i
      have b1 := byt_hi n i
      have h0 := hw_lo n (i + 1) (i / 8)
      obtain ⟨hor, hsl⟩ := hw_here n i (i / 8) rfl
      have hh := hw_lo n i (i / 8)
      have hzs := Lib.hid hz
      have z0 : 0 ≤ z := by omega
      have z1 : z < 32 := by omega
      clear hz hz1
      go_wp2
      go_region
      go_wp2
      go_roundw
      case rel =>
        trace_state
        have hz := hzs.out
        refine ⟨i, by go_num, by omega, ?_⟩
        exact (hst.put (by omega)).drewN 1
      case measure => have hz := hzs.out; simp [intOf]; omega
    · have h32 : i1 = 0 := by omega
      subst h32
      obtain ⟨kq1, kq2, kq3, kq4, _⟩ := hst.hq.knows
      obtain ⟨ko1, ko2, ko3, ko4, _⟩ := hst.ho.knows
      rw [hw_end n 0, hw_end n 1, hw_end n 2, hw_end n 3] at ko1
      go_wp2
      refine bodyPost_ret (v := .tuple #[num n, .int .i64 0]) (by simp [results, Try.results15, go_sem, kq1, kq4]) rfl ?_
      refine ⟨rfl, ?_⟩
      have hb := hst.b
      go_grown
theorem rfrom_bad (s : ByteArray) (hs : s.size ≠ 32) (hm : s.size ≤ maxLen) (w : World) : Calls Try.prog 15 #[.string s] w fun e w' => e = .returned (.tuple #[num 0, .int .i64 4]) ∧ Below w.heap.size w w' := by
  have hm2 : s.size ≤ 9223372036854775807 := by unfold maxLen at hm; omega
  have hne : ((s.size : Int) == 32) = false := by simp; omega
  rw [num_zero]
  go_enter Try.func15, Try.ntmps15
  go_wp2
  have kb : Blk (w.alloc (.cells #[.int .u64 0, .int .u64 0, .int .u64 0, .int .u64 0] 24)) w.heap.size 24 #[.int .u64 0, .int .u64 0, .int .u64 0, .int .u64 0] := Blk.new _ _ _
  obtain ⟨kq1, kq2, kq3, kq4, _⟩ := kb.knows
  refine bodyPost_ret (v := .tuple #[zeroV, .int .i64 4]) (by simp [results, Try.results15, go_sem, kq1, kq4]) rfl ?_
  refine ⟨rfl, ?_⟩
  go_grown
end Go.Proofs.Ytcoljlanblngiaa
