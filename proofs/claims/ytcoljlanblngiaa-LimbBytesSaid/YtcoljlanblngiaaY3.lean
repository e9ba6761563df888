/- limb's bytes of a number. -/
import Derived.Test.YtcoljlanblngiaaY2
namespace Go.Proofs.Ytcoljlanblngiaa
set_option linter.unusedVariables false
set_option linter.unusedSimpArgs false
open Go.RowKit Go.Proofs.YtcoljlanblngiaaW.PrintWords

/-- Bytes as cells. -/
def u8A (l : List Int) : Array Value := (l.map (Value.int .u8)).toArray
theorem u8A_size (l : List Int) : (u8A l).size = l.length := by simp [u8A]
theorem u8A_get (l : List Int) (i : Nat) (x : Int) (h : l[i]? = some x) : (u8A l)[i]? = some (.int .u8 x) := by simp [u8A, h]
theorem u8A_set (l : List Int) (i : Nat) (x : Int) : (u8A l).setIfInBounds i (.int .u8 x) = u8A (l.set i x) := by simp [u8A, List.map_set]
structure ByteSt (n i : Nat) (w wr : World) : Prop where
  b : Below w.heap.size w wr
  ha : Blk wr w.heap.size 24 #[.int .u64 (lb n 0), .int .u64 (lb n 1), .int .u64 (lb n 2), .int .u64 (lb n 3)]
  ho : Blk wr (w.heap.size + 1) 64 (u8A (mby n i))
def ByteRel (n : Nat) (w : World) (s : Value) (wr : World) : Prop := ∃ i : Nat, s = .int .i64 (i : Int) ∧ i ≤ 32 ∧ ByteSt n i w wr
theorem ByteSt.put {n i : Nat} {w wr : World} (h : ByteSt n i w wr) (hi : i < 32) : ByteSt n (i + 1) w (wr.setCell ⟨w.heap.size + 1, 31 - i, none⟩ (.int .u8 (byt n i))) := by
  refine ⟨h.b.setCell (by dsimp only; omega) _, h.ha.far (by dsimp only; omega) _, ?_⟩
  have h1 := h.ho.set_ (31 - i) (.int .u8 (byt n i))
  rw [u8A_set, mby_set n i hi] at h1
  exact h1
set_option maxHeartbeats 2000000 in
theorem bytes_any (n : Nat) (w : World) : Calls Try.prog 13 #[num n] w fun e w' => e = .returned (.string (bst n)) ∧ Below w.heap.size w w' := by
  go_enter Try.func13, Try.ntmps13
  go_wp2
  go_loopw [5] (fun s wr => ByteRel n w s wr) (fun s _ => 32 - (intOf s).toNat)
  case atStart =>
    refine ⟨0, rfl, by omega, (by go_grown), (Blk.newAt (n := w.heap.size) _ _ _ rfl).alloc _, ?_⟩
    rw [mby_zero]
    exact Blk.newAt (n := w.heap.size + 1) _ _ _ (by simp)
  case round =>
    unfold ByteRel at hrel
    obtain ⟨i, rfl, hi, hst⟩ := hrel
    by_cases hlt : i < 32
    · have hdt : decide ((i : Int) < 32) = true := by simp; omega
      have w1 : IntKind.i64.wrap (31 - (i : Int)) = 31 - (i : Int) := IntWalk.i64_in _ (by omega)
      have w2 : 0 ≤ (i : Int) / 8 := by omega
      have w3 : (i : Int) / 8 < 4 := by omega
      have w4 : ((i : Int) / 8).toNat = i / 8 := by omega
      have w5 : 0 ≤ 31 - (i : Int) := by omega
      have w6 : 31 - (i : Int) < 32 := by omega
      have w7 : (31 - (i : Int)).toNat = 31 - i := by omega
      have hx : wr.cell? ⟨w.heap.size, i / 8, none⟩ = some (.int .u64 (lb n (i / 8))) := by rw [hst.ha.cell]; exact num_at n (i / 8) (by omega)
      have hcell : wr.cell? ⟨w.heap.size + 1, 31 - i, none⟩ = some (.int .u8 0) := by
        rw [hst.ho.cell]; refine u8A_get _ _ _ ?_
        rw [mby_get n i (31 - i) (by omega), if_neg (by omega)]
      have hfro := hst.ho.frozen (31 - i)
      have l0 := lb_lo n (i / 8)
      have l1 := lb_hi n (i / 8)
      have hsb := shr_byte n i
      go_wp2
      go_roundw
      case rel =>
        refine ⟨i + 1, by go_num, by omega, ?_⟩
        exact hst.put hlt
      case measure => simp [intOf]; omega
    · have h32 : i = 32 := by omega
      subst h32
      have hrd : ReadsInt wr .u8 (some ⟨w.heap.size + 1, 0, none⟩) 32 (mby n 32) := by
        refine ⟨mby_length _ _, by omega, fun _ => ⟨_, rfl, fun j hj => ?_⟩⟩
        have h1 : (⟨w.heap.size + 1, 0, none⟩ : Addr).add j = ⟨w.heap.size + 1, j, none⟩ := by simp [Addr.add]; try (intro h; exact h.symm)
        rw [h1, hst.ho.cell, u8A_get _ _ _ (mby_get n 32 j hj)]
        rw [List.getD_eq_getElem?_getD, mby_get n 32 j hj]; rfl
      have hcs := string_of_reads (P := Try.prog) Try.underlying65 Try.underlying5 Try.underlying9 (c := 32) hrd
      rw [mby_all, ← bst_def] at hcs
      go_wp2
      go_ret
      refine ⟨rfl, ?_⟩
      have hb := hst.b
      go_grown
end Go.Proofs.Ytcoljlanblngiaa
