/- limb's sums, differences, comparisons: each function once. Blocks of memory that are known whole. '==' of numbers of four words. '==' of numbers of eight words. -/
import Derived.Test.YtbmokmkaebfneaaProg
import Derived.Test.YtbmokmkaebfneaaN
import Derived.WalkKit
import Derived.WalkSpells
import Derived.WalkLawsBesides
import Derived.Handy
import Derived.BigRegion
import Derived.Deep.RegionHeld3
import Derived.Lib.Hide
import Derived.Deep.QuietTactic
import Derived.BigQuiet
import Derived.Laws.Rows
import Derived.Deep.Draws
import Derived.ChangeKeysEq
import Derived.KernelRfl
namespace Go.Proofs.Ytbmokmkaebfneaa
set_option linter.unusedVariables false
set_option linter.unusedSimpArgs false
open Go.RowKit

noncomputable abbrev num (n : Nat) : Value := .agg #[.int .u64 (lb n 0), .int .u64 (lb n 1), .int .u64 (lb n 2), .int .u64 (lb n 3)]
noncomputable abbrev wide (n : Nat) : Value := .agg #[.int .u64 (lb n 0), .int .u64 (lb n 1), .int .u64 (lb n 2), .int .u64 (lb n 3), .int .u64 (lb n 4), .int .u64 (lb n 5), .int .u64 (lb n 6), .int .u64 (lb n 7)]

theorem bcell {W w1 : World} (hb : Below W.heap.size W w1) : (∀ b o, b < W.heap.size → w1.cell? ⟨b, o, none⟩ = W.cell? ⟨b, o, none⟩) ∧ (∀ b o, b < W.heap.size → w1.frozen? ⟨b, o, none⟩ = W.frozen? ⟨b, o, none⟩) ∧ W.heap.size ≤ w1.heap.size :=
  ⟨fun b o h => hb.cell (p := ⟨b, o, none⟩) h, fun b o h => hb.frozen (p := ⟨b, o, none⟩) h, hb.size⟩

theorem below_call {w W w1 : World} (h : Below W.heap.size W w1) (h0 : Below w.heap.size w W) : Below w.heap.size w w1 := h0.trans (h.mono h0.size)

theorem add64 (x y c : Int) (hx : 0 ≤ x) (hy : 0 ≤ y) (hc0 : 0 ≤ c) (hc : c ≤ 1) (w : World) : (callFunc 76 #[.int .u64 x, .int .u64 y, .int .u64 c]).run Try.prog w =
    .ok (.value (.tuple #[.int .u64 ((x + y + c) % 18446744073709551616), .int .u64 ((x + y + c) / 18446744073709551616)])) w := by
  rw [run_callFunc_extern Try.func76 (by kernel_rfl) (by kernel_rfl) (by kernel_rfl) (e := add64Entry) (by kernel_rfl), run_add64 x y c hx hy hc0 hc]
  rfl
/-- The model's entry for Sub64. -/
def sub64Entry : Array Value → Sem Value := fun args => do
  let (x, y, b) ← Extern.MathBitsCarry.three "Sub64" args
  pure (Extern.MathBitsCarry.pair ((x + Extern.MathBitsCarry.m64 - y - b) % Extern.MathBitsCarry.m64) (if x < y + b then 1 else 0))
theorem run_sub64 {P : Program} (x y b : Nat) (hb : b ≤ 1) (w : World) :
    (sub64Entry #[.int .u64 x, .int .u64 y, .int .u64 b]).run P w =
      .ok (.tuple #[.int .u64 (((x + 18446744073709551616 - y - b) % 18446744073709551616 : Nat) : Int), .int .u64 ((if x < y + b then 1 else 0 : Nat) : Int)]) w := by
  have : b = 0 ∨ b = 1 := by omega
  rcases this with rfl | rfl <;> rfl
theorem sub64 (x y b : Nat) (hb : b ≤ 1) (w : World) : (callFunc 77 #[.int .u64 x, .int .u64 y, .int .u64 b]).run Try.prog w =
    .ok (.value (.tuple #[.int .u64 (((x + 18446744073709551616 - y - b) % 18446744073709551616 : Nat) : Int), .int .u64 ((if x < y + b then 1 else 0 : Nat) : Int)])) w := by
  rw [run_callFunc_extern Try.func77 (by kernel_rfl) (by kernel_rfl) (by kernel_rfl) (e := sub64Entry) (by kernel_rfl), run_sub64 x y b hb]
  rfl

theorem add_step (a b i : Nat) (hi : i < 4) (w : World) : (callFunc 76 #[.int .u64 (lb a i), .int .u64 (lb b i), .int .u64 (ca a b i)]).run Try.prog w =
    .ok (.value (.tuple #[.int .u64 (lb (addN a b) i), .int .u64 (ca a b (i+1))])) w := by
  rw [add64 _ _ _ (lb_lo _ _) (lb_lo _ _) (ca_lo _ _ _) (ca_hi _ _ _), lb_add_step, ca_step, lb_addN _ _ hi]
theorem add_step0 (a b : Nat) (w : World) : (callFunc 76 #[.int .u64 (lb a 0), .int .u64 (lb b 0), .int .u64 0]).run Try.prog w =
    .ok (.value (.tuple #[.int .u64 (lb (addN a b) 0), .int .u64 (ca a b 1)])) w := by have h := add_step a b 0 (by omega) w; rw [ca_zero] at h; exact h
theorem sub_step (a b i : Nat) (hi : i < 4) (hb : b < RR) (w : World) : (callFunc 77 #[.int .u64 (lb a i), .int .u64 (lb b i), .int .u64 (bo a b i)]).run Try.prog w =
    .ok (.value (.tuple #[.int .u64 (lb (subN a b) i), .int .u64 (bo a b (i+1))])) w := by
  have h := sub64 (lbN a i) (lbN b i) (boc a b 0 i) (boc_le _ _ _ _ (by omega)) w
  rw [← lb_subN a b hi hb, ← lb_def, ← lb_def, ← bo_def] at h
  have e : ((if lbN a i < lbN b i + boc a b 0 i then 1 else 0 : Nat) : Int) = bo a b (i + 1) := by rw [bo_def, boc_succ]
  rw [e] at h
  exact h
theorem sub_step0 (a b : Nat) (hb : b < RR) (w : World) : (callFunc 77 #[.int .u64 (lb a 0), .int .u64 (lb b 0), .int .u64 0]).run Try.prog w =
    .ok (.value (.tuple #[.int .u64 (lb (subN a b) 0), .int .u64 (bo a b 1)])) w := by have h := sub_step a b 0 (by omega) hb w; rw [bo_zero] at h; exact h

set_option maxHeartbeats 1000000 in
theorem plus_any (a b : Nat) (w : World) : Calls Try.prog 93 #[num a, num b] w fun e w' => e = .returned (.tuple #[num (addN a b), .int .u64 (ca a b 4)]) ∧ Below w.heap.size w w' := by
  have k0 := add_step0 a b
  have k1 := add_step a b 1 (by omega)
  have k2 := add_step a b 2 (by omega)
  have k3 := add_step a b 3 (by omega)
  go_enter Try.func93, Try.ntmps93
  go_wp2
  refine wp_loop_rounds 5 ?_
  rw [rounds_succ]; go_wp2; go_region; go_wp2
  rw [rounds_succ]; go_wp2; go_region; go_wp2
  rw [rounds_succ]; go_wp2; go_region; go_wp2
  rw [rounds_succ]; go_wp2; go_region; go_wp2
  rw [rounds_succ]; go_wp2
  go_returns
  refine ⟨rfl, ?_⟩
  go_grown
set_option maxHeartbeats 1000000 in
theorem minus_any (a b : Nat) (hb : b < RR) (w : World) : Calls Try.prog 87 #[num a, num b] w fun e w' => e = .returned (.tuple #[num (subN a b), .int .u64 (bo a b 4)]) ∧ Below w.heap.size w w' := by
  have k0 := sub_step0 a b hb
  have k1 := sub_step a b 1 (by omega) hb
  have k2 := sub_step a b 2 (by omega) hb
  have k3 := sub_step a b 3 (by omega) hb
  go_enter Try.func87, Try.ntmps87
  go_wp2
  refine wp_loop_rounds 5 ?_
  rw [rounds_succ]; go_wp2; go_region; go_wp2
  rw [rounds_succ]; go_wp2; go_region; go_wp2
  rw [rounds_succ]; go_wp2; go_region; go_wp2
  rw [rounds_succ]; go_wp2; go_region; go_wp2
  rw [rounds_succ]; go_wp2
  go_returns
  refine ⟨rfl, ?_⟩
  go_grown
theorem add_any (a b : Nat) (w : World) : Calls Try.prog 84 #[num a, num b] w fun e w' => e = .returned (.tuple #[num (addN a b), .int .u64 (ca a b 4)]) ∧ Below w.heap.size w w' := by
  go_enter Try.func84, Try.ntmps84
  go_wp2_with (go_at_call 93; refine (plus_any a b _).mono ?_; rintro e w1 ⟨rfl, hbw1⟩; have b_w1 := below_call hbw1 (w := w) (by go_grown); have s_w1 := b_w1.size; obtain ⟨cw1, fw1, zw1⟩ := bcell hbw1; (try simp only [World.size_alloc, World.size_setCell, World.size_drew] at zw1 cw1 fw1); have zw1_w_0 : w.heap.size < w1.heap.size := (by omega); have zw1_w_1 : w.heap.size + 1 < w1.heap.size := (by omega); have zw1_w_2 : w.heap.size + 1 + 1 < w1.heap.size := (by omega); clear zw1 hbw1)
  refine bodyPost_ret (v := .tuple #[num (addN a b), .int .u64 (ca a b 4)]) (by simp [results, Try.results84, go_sem, cw1, zw1_w_2]) rfl ?_
  refine ⟨rfl, ?_⟩

  go_grown
theorem sub_any (a b : Nat) (hb : b < RR) (w : World) : Calls Try.prog 73 #[num a, num b] w fun e w' => e = .returned (.tuple #[num (subN a b), .int .u64 (bo a b 4)]) ∧ Below w.heap.size w w' := by
  go_enter Try.func73, Try.ntmps73
  go_wp2_with (go_at_call 87; refine (minus_any a b hb _).mono ?_; rintro e w1 ⟨rfl, hbw1⟩; have b_w1 := below_call hbw1 (w := w) (by go_grown); have s_w1 := b_w1.size; obtain ⟨cw1, fw1, zw1⟩ := bcell hbw1; (try simp only [World.size_alloc, World.size_setCell, World.size_drew] at zw1 cw1 fw1); have zw1_w_0 : w.heap.size < w1.heap.size := (by omega); have zw1_w_1 : w.heap.size + 1 < w1.heap.size := (by omega); have zw1_w_2 : w.heap.size + 1 + 1 < w1.heap.size := (by omega); clear zw1 hbw1)
  refine bodyPost_ret (v := .tuple #[num (subN a b), .int .u64 (bo a b 4)]) (by simp [results, Try.results73, go_sem, cw1, zw1_w_2]) rfl ?_
  refine ⟨rfl, ?_⟩
  go_grown
theorem carry_any (a b : Nat) (hb : b < RR) (w : World) : Calls Try.prog 94 #[.func (.func 87) #[] #[], num a, num b] w fun e w' => e = .returned (.int .u64 (bo a b 4)) ∧ Below w.heap.size w w' := by
  go_enter Try.func94, Try.ntmps94
  go_wp2_with (go_at_call 87; refine (minus_any a b hb _).mono ?_; rintro e w1 ⟨rfl, hbw1⟩; have b_w1 := below_call hbw1 (w := w) (by go_grown); have s_w1 := b_w1.size; obtain ⟨cw1, fw1, zw1⟩ := bcell hbw1; (try simp only [World.size_alloc, World.size_setCell, World.size_drew] at zw1 cw1 fw1); have zw1_w_0 : w.heap.size < w1.heap.size := (by omega); have zw1_w_1 : w.heap.size + 1 < w1.heap.size := (by omega); clear zw1 hbw1)
  go_ret
  refine ⟨rfl, ?_⟩
  go_grown
theorem cmp_any (a b : Nat) (ha : a < RR) (hb : b < RR) (w : World) : Calls Try.prog 86 #[num a, num b] w fun e w' => e = .returned (.int .i64 (cmpN a b)) ∧ Below w.heap.size w w' := by
  have x0 := bo_lo a b 4
  have x1 := bo_hi a b 4
  have y0 := bo_lo b a 4
  have y1 := bo_hi b a 4
  go_enter Try.func86, Try.ntmps86
  go_wp2_with fail; (with_reducible refine (carry_any a b hb _).mono ?_); rintro e w1 ⟨rfl, hbw1⟩; have b_w1 := below_call hbw1 (w := w) (by go_grown); have s_w1 := b_w1.size; obtain ⟨cw1, fw1, zw1⟩ := bcell hbw1; (try simp only [World.size_alloc, World.size_setCell, World.size_drew] at zw1 cw1 fw1); have zw1_w_0 : w.heap.size < w1.heap.size := (by omega); have zw1_w_1 : w.heap.size + 1 < w1.heap.size := (by omega); clear zw1 hbw1
  go_wp2_with fail; (with_reducible refine (carry_any b a ha _).mono ?_); rintro e w2 ⟨rfl, hbw2⟩; have b_w2 := below_call hbw2 (w := w) (by go_grown); have s_w2 := b_w2.size; obtain ⟨cw2, fw2, zw2⟩ := bcell hbw2; (try simp only [World.size_alloc, World.size_setCell, World.size_drew] at zw2 cw2 fw2); have zw2_w_0 : w.heap.size < w2.heap.size := (by omega); have zw2_w_1 : w.heap.size + 1 < w2.heap.size := (by omega); clear zw2 hbw2
  go_wp2
  go_ret
  refine ⟨?_, ?_⟩
  · exact congrArg (fun x => Ending.returned (Value.int .i64 x)) (cmpN_bo a b ha hb)
  · go_grown
end Go.Proofs.Ytbmokmkaebfneaa
namespace Go.Proofs.Ytbmokmkaebfneaa
set_option linter.unusedVariables false
set_option linter.unusedSimpArgs false
open Go.RowKit

/-- Block g is just these cells of element type t, none of them frozen. -/
def Blk (w : World) (g : Nat) (t : TypeId) (cs : Array Value) : Prop := w.heap[g]? = some (.cells cs t (0, 0))
section
variable {w w1 : World} {g : Nat} {t : TypeId} {cs : Array Value}
theorem Blk.lt (h : Blk w g t cs) : g < w.heap.size := by
  rcases Nat.lt_or_ge g w.heap.size with hlt | hge
  · exact hlt
  · unfold Blk at h; rw [Array.getElem?_eq_none hge] at h; cases h
theorem Blk.cell (h : Blk w g t cs) : ∀ i, w.cell? ⟨g, i, none⟩ = cs[i]? := fun i => cell_of_row w g i cs t (0, 0) h
theorem Blk.frozen (h : Blk w g t cs) : ∀ i, w.frozen? ⟨g, i, none⟩ = false := fun i => by
  unfold Blk at h
  simp [World.frozen?, h]
theorem Blk.knows (h : Blk w g t cs) : (∀ i, w.cell? ⟨g, i, none⟩ = cs[i]?) ∧ (∀ i, w.frozen? ⟨g, i, none⟩ = false) ∧ g < w.heap.size ∧ g < w.heap.size + 1 ∧ g < w.heap.size + 1 + 1 :=
  ⟨h.cell, h.frozen, h.lt, Nat.lt_succ_of_lt h.lt, Nat.lt_succ_of_lt (Nat.lt_succ_of_lt h.lt)⟩
theorem Blk.new (w : World) (t : TypeId) (cs : Array Value) : Blk (w.alloc (.cells cs t)) w.heap.size t cs := heap_alloc_new w _
theorem Blk.newAt (w : World) (t : TypeId) (cs : Array Value) {n : Nat} (hn : n = w.heap.size) : Blk (w.alloc (.cells cs t)) n t cs := by rw [hn]; exact Blk.new w t cs
theorem Blk.drew (h : Blk w g t cs) : Blk w.drew g t cs := h
theorem Blk.drewN (h : Blk w g t cs) (n : Nat) : Blk (w.drewN n) g t cs := h
theorem Blk.alloc (h : Blk w g t cs) (o : Obj) : Blk (w.alloc o) g t cs := (Below.heap_alloc w o g h.lt).trans h
theorem Blk.set_ (h : Blk w g t cs) (i : Nat) (u : Value) : Blk (w.setCell ⟨g, i, none⟩ u) g t (cs.setIfInBounds i u) := by
  unfold Blk at h ⊢
  simp [World.setCell, Array.getElem?_modify, h]
theorem Blk.far (h : Blk w g t cs) {p : Addr} (hp : g ≠ p.block) (u : Value) : Blk (w.setCell p u) g t cs := (Below.heap_setCell w p u g hp).trans h
theorem Blk.below {B : Nat} (h : Blk w g t cs) (hb : Below B w w1) (hg : g < B) : Blk w1 g t cs := (hb.block g hg).trans h
theorem Blk.after (h : Blk w g t cs) (hb : Below w.heap.size w w1) : Blk w1 g t cs := (hb.block g h.lt).trans h
end
end Go.Proofs.Ytbmokmkaebfneaa
namespace Go.Proofs.Ytbmokmkaebfneaa
set_option linter.unusedVariables false
set_option linter.unusedSimpArgs false
open Go.RowKit

abbrev zeroV : Value := .agg #[.int .u64 0, .int .u64 0, .int .u64 0, .int .u64 0]
theorem num_zero : num 0 = zeroV := by unfold num zeroV; rw [lb_zero, lb_zero, lb_zero, lb_zero]
theorem eq_word (d : Nat) (x y : Int) (w : World) : (Op.equalIn (d + 1) 22 (.int .u64 x) (.int .u64 y)).run Try.prog w = .ok (x == y) w := by
  simp only [Op.equalIn, Sem.run_bind, run_underlying Try.underlying22, Result.andThen_ok, if_true, Sem.run_pure]
theorem eq_step {d e c i : Nat} {xs ys : Array Value} {is : List Nat} {a b : Value} {r s : Bool} {w : World} (ha : (part e xs (i * c)).run Try.prog w = .ok a w) (hb : (part e ys (i * c)).run Try.prog w = .ok b w)
    (he : (Op.equalIn d e a b).run Try.prog w = .ok r w) (hr : (Op.eqItems d e c xs ys is).run Try.prog w = .ok s w) : (Op.eqItems d e c xs ys (i :: is)).run Try.prog w = .ok (r && s) w := by
  simp only [Op.eqItems, Sem.run_bind, ha, hb, he, Result.andThen_ok]
  cases r
  · simp
  · simpa using hr
theorem info_word : (Try.prog.info? 22).isSome = true := by kernel_rfl
theorem cells_word : Try.prog.cellsOf 22 = 1 := by kernel_rfl
theorem eqin_num (x0 x1 x2 x3 y0 y1 y2 y3 : Int) (w : World) : (Op.equalIn 10000 24 (.agg #[.int .u64 x0, .int .u64 x1, .int .u64 x2, .int .u64 x3]) (.agg #[.int .u64 y0, .int .u64 y1, .int .u64 y2, .int .u64 y3])).run Try.prog w = .ok (x0 == y0 && (x1 == y1 && (x2 == y2 && x3 == y3))) w := by
  obtain ⟨i, hi⟩ := Option.isSome_iff_exists.1 info_word
  rw [run_equalIn_array w 9999 _ _ Try.underlying24 hi, cells_word]
  have p : ∀ (a : Array Value) (k : Nat) (v : Value), a[k * 1]? = some v → (part 22 a (k * 1)).run Try.prog w = .ok v w := by
    intro a k v h
    have hg : (isAgg 22).run Try.prog w = .ok false w := by simp [isAgg, run_underlying Try.underlying22]
    simp only [part, Sem.run_bind, hg, Result.andThen_ok, h]
    simp
  have h3 := eq_step (d := 9998 + 1) (e := 22) (c := 1) (is := []) (p #[.int .u64 x0, .int .u64 x1, .int .u64 x2, .int .u64 x3] 3 (.int .u64 x3) rfl) (p #[.int .u64 y0, .int .u64 y1, .int .u64 y2, .int .u64 y3] 3 (.int .u64 y3) rfl) (eq_word 9998 x3 y3 w) (s := true) (by simp [Op.eqItems])
  have h2 := eq_step (p _ 2 (.int .u64 x2) rfl) (p _ 2 (.int .u64 y2) rfl) (eq_word 9998 x2 y2 w) h3
  have h1 := eq_step (p _ 1 (.int .u64 x1) rfl) (p _ 1 (.int .u64 y1) rfl) (eq_word 9998 x1 y1 w) h2
  have h0 := eq_step (p _ 0 (.int .u64 x0) rfl) (p _ 0 (.int .u64 y0) rfl) (eq_word 9998 x0 y0 w) h1
  rw [Bool.and_true] at h0
  exact h0
theorem eqin_same (n : Nat) (w : World) : (Op.equalIn 10000 24 (num n) (num n)).run Try.prog w = .ok true w := by
  unfold num; rw [eqin_num]; simp
theorem eqin_other {m n : Nat} (hm : m < RR) (hn : n < RR) (h : m ≠ n) (w : World) : (Op.equalIn 10000 24 (num m) (num n)).run Try.prog w = .ok false w := by
  unfold num
  rw [eqin_num]
  have : (lb m 0 == lb n 0 && (lb m 1 == lb n 1 && (lb m 2 == lb n 2 && lb m 3 == lb n 3))) = false := by
    rw [Bool.eq_false_iff]
    intro e
    simp only [Bool.and_eq_true, beq_iff_eq] at e
    exact h (words_ext hm hn e.1 e.2.1 e.2.2.1 e.2.2.2)
  rw [this]
theorem eqin_zero_other {m : Nat} (hm : m < RR) (h : m ≠ 0) (w : World) : (Op.equalIn 10000 24 (num m) zeroV).run Try.prog w = .ok false w := by
  rw [← num_zero]; exact eqin_other hm (by unfold RR; omega) h w
theorem eqin_zero_same (w : World) : (Op.equalIn 10000 24 (num 0) zeroV).run Try.prog w = .ok true w := by
  rw [← num_zero]; exact eqin_same 0 w
abbrev oneV : Value := .agg #[.int .u64 1, .int .u64 0, .int .u64 0, .int .u64 0]
theorem num_one : num 1 = oneV := by
  have h : lb 1 0 = 1 ∧ lb 1 1 = 0 ∧ lb 1 2 = 0 ∧ lb 1 3 = 0 := by simp only [lb_def, lbN]; decide
  unfold num oneV; rw [h.1, h.2.1, h.2.2.1, h.2.2.2]
end Go.Proofs.Ytbmokmkaebfneaa
namespace Go.Proofs.Ytbmokmkaebfneaa
set_option linter.unusedVariables false
set_option linter.unusedSimpArgs false
open Go.RowKit

theorem eqin_wide_same (n : Nat) (w : World) : (Op.equalIn 10000 81 (wide n) (wide n)).run Try.prog w = .ok true w := by
  obtain ⟨i, hi⟩ := Option.isSome_iff_exists.1 info_word
  unfold wide
  rw [run_equalIn_array w 9999 _ _ Try.underlying81 hi, cells_word]
  have p : ∀ (a : Array Value) (k : Nat) (v : Value), a[k * 1]? = some v → (part 22 a (k * 1)).run Try.prog w = .ok v w := by
    intro a k v h
    have hg : (isAgg 22).run Try.prog w = .ok false w := by simp [isAgg, run_underlying Try.underlying22]
    simp only [part, Sem.run_bind, hg, Result.andThen_ok, h]
    simp
  have go : ∀ (a : Array Value) (is : List Nat), (∀ k, k ∈ is → ∃ x : Int, a[k * 1]? = some (.int .u64 x)) → (Op.eqItems 9999 22 1 a a is).run Try.prog w = .ok true w := by
    intro a is
    induction is with
    | nil => intro _; simp [Op.eqItems]
    | cons k is ih =>
      intro h
      obtain ⟨x, hx⟩ := h k (by simp)
      have h1 := eq_step (c := 1) (is := is) (p a k _ hx) (p a k _ hx) (eq_word 9998 x x w) (ih fun k hk => h k (by simp [hk]))
      rw [beq_self_eq_true, Bool.true_and] at h1
      exact h1
  refine go _ _ fun k hk => ?_
  have hk8 : k < 8 := by simpa using hk
  obtain rfl | rfl | rfl | rfl | rfl | rfl | rfl | rfl : k = 0 ∨ k = 1 ∨ k = 2 ∨ k = 3 ∨ k = 4 ∨ k = 5 ∨ k = 6 ∨ k = 7 := by omega
  all_goals exact ⟨_, rfl⟩
end Go.Proofs.Ytbmokmkaebfneaa
