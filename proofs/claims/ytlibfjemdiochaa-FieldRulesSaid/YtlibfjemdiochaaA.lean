/- limb's sums, differences, comparisons: each function once. -/
import Derived.Test.YtlibfjemdiochaaProg
import Derived.Test.YtlibfjemdiochaaN
import Derived.WalkKit
import Derived.WalkSpells
import Derived.WalkLawsBesides
import Derived.Handy
import Derived.BigRegion
import Derived.Deep.RegionHeld3
import Derived.Lib.Hide
import Derived.Deep.QuietTactic
import Derived.BigQuiet
namespace Go.Proofs.Ytlibfjemdiochaa
set_option linter.unusedVariables false
set_option linter.unusedSimpArgs false
open Go.RowKit

noncomputable abbrev num (n : Nat) : Value := .agg #[.int .u64 (lb n 0), .int .u64 (lb n 1), .int .u64 (lb n 2), .int .u64 (lb n 3)]
noncomputable abbrev wide (n : Nat) : Value := .agg #[.int .u64 (lb n 0), .int .u64 (lb n 1), .int .u64 (lb n 2), .int .u64 (lb n 3), .int .u64 (lb n 4), .int .u64 (lb n 5), .int .u64 (lb n 6), .int .u64 (lb n 7)]

theorem bcell {W w1 : World} (hb : Below W.heap.size W w1) : (∀ b o, b < W.heap.size → w1.cell? ⟨b, o, none⟩ = W.cell? ⟨b, o, none⟩) ∧ (∀ b o, b < W.heap.size → w1.frozen? ⟨b, o, none⟩ = W.frozen? ⟨b, o, none⟩) ∧ W.heap.size ≤ w1.heap.size :=
  ⟨fun b o h => hb.cell (p := ⟨b, o, none⟩) h, fun b o h => hb.frozen (p := ⟨b, o, none⟩) h, hb.size⟩

theorem below_call {w W w1 : World} (h : Below W.heap.size W w1) (h0 : Below w.heap.size w W) : Below w.heap.size w w1 := h0.trans (h.mono h0.size)

theorem add64 (x y c : Int) (hx : 0 ≤ x) (hy : 0 ≤ y) (hc0 : 0 ≤ c) (hc : c ≤ 1) (w : World) : (callFunc 58 #[.int .u64 x, .int .u64 y, .int .u64 c]).run Try.prog w =
    .ok (.value (.tuple #[.int .u64 ((x + y + c) % 18446744073709551616), .int .u64 ((x + y + c) / 18446744073709551616)])) w := by
  rw [run_callFunc_extern Try.func58 (by kernel_rfl) (by kernel_rfl) (by kernel_rfl) (e := add64Entry) (by kernel_rfl), run_add64 x y c hx hy hc0 hc]
  rfl
/-- The model's entry for Sub64. -/
def sub64Entry : Array Value → Sem Value := fun args => do
  let (x, y, b) ← Extern.MathBitsCarry.three "Sub64" args
  pure (Extern.MathBitsCarry.pair ((x + Extern.MathBitsCarry.m64 - y - b) % Extern.MathBitsCarry.m64) (if x < y + b then 1 else 0))
theorem run_sub64 {P : Program} (x y b : Nat) (hb : b ≤ 1) (w : World) :
    (sub64Entry #[.int .u64 x, .int .u64 y, .int .u64 b]).run P w =
      .ok (.tuple #[.int .u64 (((x + 18446744073709551616 - y - b) % 18446744073709551616 : Nat) : Int), .int .u64 ((if x < y + b then 1 else 0 : Nat) : Int)]) w := by
  have : b = 0 ∨ b = 1 := by omega
  rcases this with rfl | rfl <;> rfl
theorem sub64 (x y b : Nat) (hb : b ≤ 1) (w : World) : (callFunc 76 #[.int .u64 x, .int .u64 y, .int .u64 b]).run Try.prog w =
    .ok (.value (.tuple #[.int .u64 (((x + 18446744073709551616 - y - b) % 18446744073709551616 : Nat) : Int), .int .u64 ((if x < y + b then 1 else 0 : Nat) : Int)])) w := by
  rw [run_callFunc_extern Try.func76 (by kernel_rfl) (by kernel_rfl) (by kernel_rfl) (e := sub64Entry) (by kernel_rfl), run_sub64 x y b hb]
  rfl

theorem add_step (a b i : Nat) (hi : i < 4) (w : World) : (callFunc 58 #[.int .u64 (lb a i), .int .u64 (lb b i), .int .u64 (ca a b i)]).run Try.prog w =
    .ok (.value (.tuple #[.int .u64 (lb (addN a b) i), .int .u64 (ca a b (i+1))])) w := by
  rw [add64 _ _ _ (lb_lo _ _) (lb_lo _ _) (ca_lo _ _ _) (ca_hi _ _ _), lb_add_step, ca_step, lb_addN _ _ hi]
theorem add_step0 (a b : Nat) (w : World) : (callFunc 58 #[.int .u64 (lb a 0), .int .u64 (lb b 0), .int .u64 0]).run Try.prog w =
    .ok (.value (.tuple #[.int .u64 (lb (addN a b) 0), .int .u64 (ca a b 1)])) w := by have h := add_step a b 0 (by omega) w; rw [ca_zero] at h; exact h
theorem sub_step (a b i : Nat) (hi : i < 4) (hb : b < RR) (w : World) : (callFunc 76 #[.int .u64 (lb a i), .int .u64 (lb b i), .int .u64 (bo a b i)]).run Try.prog w =
    .ok (.value (.tuple #[.int .u64 (lb (subN a b) i), .int .u64 (bo a b (i+1))])) w := by
  have h := sub64 (lbN a i) (lbN b i) (boc a b 0 i) (boc_le _ _ _ _ (by omega)) w
  rw [← lb_subN a b hi hb, ← lb_def, ← lb_def, ← bo_def] at h
  have e : ((if lbN a i < lbN b i + boc a b 0 i then 1 else 0 : Nat) : Int) = bo a b (i + 1) := by rw [bo_def, boc_succ]
  rw [e] at h
  exact h
theorem sub_step0 (a b : Nat) (hb : b < RR) (w : World) : (callFunc 76 #[.int .u64 (lb a 0), .int .u64 (lb b 0), .int .u64 0]).run Try.prog w =
    .ok (.value (.tuple #[.int .u64 (lb (subN a b) 0), .int .u64 (bo a b 1)])) w := by have h := sub_step a b 0 (by omega) hb w; rw [bo_zero] at h; exact h

set_option maxHeartbeats 1000000 in
theorem plus_any (a b : Nat) (w : World) : Calls Try.prog 82 #[num a, num b] w fun e w' => e = .returned (.tuple #[num (addN a b), .int .u64 (ca a b 4)]) ∧ Below w.heap.size w w' := by
  have k0 := add_step0 a b
  have k1 := add_step a b 1 (by omega)
  have k2 := add_step a b 2 (by omega)
  have k3 := add_step a b 3 (by omega)
  go_enter Try.func82, Try.ntmps82
  go_wp2
  refine wp_loop_rounds 5 ?_
  rw [rounds_succ]; go_wp2; go_region; go_wp2
  rw [rounds_succ]; go_wp2; go_region; go_wp2
  rw [rounds_succ]; go_wp2; go_region; go_wp2
  rw [rounds_succ]; go_wp2; go_region; go_wp2
  rw [rounds_succ]; go_wp2
  go_returns
  refine ⟨rfl, ?_⟩
  go_grown
set_option maxHeartbeats 1000000 in
theorem minus_any (a b : Nat) (hb : b < RR) (w : World) : Calls Try.prog 74 #[num a, num b] w fun e w' => e = .returned (.tuple #[num (subN a b), .int .u64 (bo a b 4)]) ∧ Below w.heap.size w w' := by
  have k0 := sub_step0 a b hb
  have k1 := sub_step a b 1 (by omega) hb
  have k2 := sub_step a b 2 (by omega) hb
  have k3 := sub_step a b 3 (by omega) hb
  go_enter Try.func74, Try.ntmps74
  go_wp2
  refine wp_loop_rounds 5 ?_
  rw [rounds_succ]; go_wp2; go_region; go_wp2
  rw [rounds_succ]; go_wp2; go_region; go_wp2
  rw [rounds_succ]; go_wp2; go_region; go_wp2
  rw [rounds_succ]; go_wp2; go_region; go_wp2
  rw [rounds_succ]; go_wp2
  go_returns
  refine ⟨rfl, ?_⟩
  go_grown
theorem add_any (a b : Nat) (w : World) : Calls Try.prog 75 #[num a, num b] w fun e w' => e = .returned (.tuple #[num (addN a b), .int .u64 (ca a b 4)]) ∧ Below w.heap.size w w' := by
  go_enter Try.func75, Try.ntmps75
  go_wp2_with (go_at_call 82; refine (plus_any a b _).mono ?_; rintro e w1 ⟨rfl, hbw1⟩; have b_w1 := below_call hbw1 (w := w) (by go_grown); have s_w1 := b_w1.size; obtain ⟨cw1, fw1, zw1⟩ := bcell hbw1; (try simp only [World.size_alloc, World.size_setCell, World.size_drew] at zw1 cw1 fw1); have zw1_w_0 : w.heap.size < w1.heap.size := (by omega); have zw1_w_1 : w.heap.size + 1 < w1.heap.size := (by omega); have zw1_w_2 : w.heap.size + 1 + 1 < w1.heap.size := (by omega); clear zw1 hbw1)
  refine bodyPost_ret (v := .tuple #[num (addN a b), .int .u64 (ca a b 4)]) (by simp [results, Try.results75, go_sem, cw1, zw1_w_2]) rfl ?_
  refine ⟨rfl, ?_⟩

  go_grown
theorem sub_any (a b : Nat) (hb : b < RR) (w : World) : Calls Try.prog 48 #[num a, num b] w fun e w' => e = .returned (.tuple #[num (subN a b), .int .u64 (bo a b 4)]) ∧ Below w.heap.size w w' := by
  go_enter Try.func48, Try.ntmps48
  go_wp2_with (go_at_call 74; refine (minus_any a b hb _).mono ?_; rintro e w1 ⟨rfl, hbw1⟩; have b_w1 := below_call hbw1 (w := w) (by go_grown); have s_w1 := b_w1.size; obtain ⟨cw1, fw1, zw1⟩ := bcell hbw1; (try simp only [World.size_alloc, World.size_setCell, World.size_drew] at zw1 cw1 fw1); have zw1_w_0 : w.heap.size < w1.heap.size := (by omega); have zw1_w_1 : w.heap.size + 1 < w1.heap.size := (by omega); have zw1_w_2 : w.heap.size + 1 + 1 < w1.heap.size := (by omega); clear zw1 hbw1)
  refine bodyPost_ret (v := .tuple #[num (subN a b), .int .u64 (bo a b 4)]) (by simp [results, Try.results48, go_sem, cw1, zw1_w_2]) rfl ?_
  refine ⟨rfl, ?_⟩
  go_grown
theorem carry_any (a b : Nat) (hb : b < RR) (w : World) : Calls Try.prog 81 #[.func (.func 74) #[] #[], num a, num b] w fun e w' => e = .returned (.int .u64 (bo a b 4)) ∧ Below w.heap.size w w' := by
  go_enter Try.func81, Try.ntmps81
  go_wp2_with (go_at_call 74; refine (minus_any a b hb _).mono ?_; rintro e w1 ⟨rfl, hbw1⟩; have b_w1 := below_call hbw1 (w := w) (by go_grown); have s_w1 := b_w1.size; obtain ⟨cw1, fw1, zw1⟩ := bcell hbw1; (try simp only [World.size_alloc, World.size_setCell, World.size_drew] at zw1 cw1 fw1); have zw1_w_0 : w.heap.size < w1.heap.size := (by omega); have zw1_w_1 : w.heap.size + 1 < w1.heap.size := (by omega); clear zw1 hbw1)
  go_ret
  refine ⟨rfl, ?_⟩
  go_grown
theorem cmp_any (a b : Nat) (ha : a < RR) (hb : b < RR) (w : World) : Calls Try.prog 66 #[num a, num b] w fun e w' => e = .returned (.int .i64 (cmpN a b)) ∧ Below w.heap.size w w' := by
  have x0 := bo_lo a b 4
  have x1 := bo_hi a b 4
  have y0 := bo_lo b a 4
  have y1 := bo_hi b a 4
  go_enter Try.func66, Try.ntmps66
  go_wp2_with fail; (with_reducible refine (carry_any a b hb _).mono ?_); rintro e w1 ⟨rfl, hbw1⟩; have b_w1 := below_call hbw1 (w := w) (by go_grown); have s_w1 := b_w1.size; obtain ⟨cw1, fw1, zw1⟩ := bcell hbw1; (try simp only [World.size_alloc, World.size_setCell, World.size_drew] at zw1 cw1 fw1); have zw1_w_0 : w.heap.size < w1.heap.size := (by omega); have zw1_w_1 : w.heap.size + 1 < w1.heap.size := (by omega); clear zw1 hbw1
  go_wp2_with fail; (with_reducible refine (carry_any b a ha _).mono ?_); rintro e w2 ⟨rfl, hbw2⟩; have b_w2 := below_call hbw2 (w := w) (by go_grown); have s_w2 := b_w2.size; obtain ⟨cw2, fw2, zw2⟩ := bcell hbw2; (try simp only [World.size_alloc, World.size_setCell, World.size_drew] at zw2 cw2 fw2); have zw2_w_0 : w.heap.size < w2.heap.size := (by omega); have zw2_w_1 : w.heap.size + 1 < w2.heap.size := (by omega); clear zw2 hbw2
  go_wp2
  go_ret
  refine ⟨?_, ?_⟩
  · exact congrArg (fun x => Ending.returned (Value.int .i64 x)) (cmpN_bo a b ha hb)
  · go_grown
end Go.Proofs.Ytlibfjemdiochaa
