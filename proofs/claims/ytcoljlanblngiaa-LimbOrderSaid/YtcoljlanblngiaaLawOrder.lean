/- LimbOrder: one number is less than another one just if their difference borrows, and of two unlike ones just one is less: for every two numbers of four words, with no condition. -/
import Derived.Test.YtcoljlanblngiaaF
namespace Go.Proofs.Ytcoljlanblngiaa
set_option linter.unusedVariables false
set_option linter.unusedSimpArgs false
open Go.RowKit

set_option maxHeartbeats 2000000 in
theorem order_walk (a b : Nat) (ha : a < RR) (hb : b < RR) (w : World) : Calls Try.prog 6 #[num a, num b] w fun e w' => e = .returned (.bool true) ∧ Below w.heap.size w w' := by
  have ht := turns_any
  have c1 := cmpN_def a b
  have c2 := cmpN_def b a
  have b1 := bo_four a b ha hb
  have b2 := bo_four b a hb ha
  obtain h | h | h : a < b ∨ a = b ∨ b < a := by omega
  · have he := eqin_other ha hb (by omega)
    rw [if_pos h] at c1 b1
    rw [if_neg (by omega), if_pos h] at c2
    rw [if_neg (by omega)] at b2
    clear h
    go_enter Try.func6, Try.ntmps6
    go_wp2_with fail; (with_reducible refine (sub_any a b hb _).mono ?_); rintro e w1 ⟨rfl, hbw1⟩; have b_w1 := below_call hbw1 (w := w) (by go_grown); have s_w1 := b_w1.size; obtain ⟨cw1, fw1, zw1⟩ := bcell hbw1; (try simp only [World.size_alloc, World.size_setCell, World.size_drew] at zw1 cw1 fw1); have zw1_w_0 : w.heap.size < w1.heap.size := (by omega); have zw1_w_1 : w.heap.size + 1 < w1.heap.size := (by omega); clear zw1 hbw1
    go_wp2_with fail; (with_reducible refine (sub_any b a ha _).mono ?_); rintro e w2 ⟨rfl, hbw2⟩; have b_w2 := below_call hbw2 (w := w) (by go_grown); have b_w2_w1 := below_call hbw2 (w := w1) (by go_grown); have s_w2 := b_w2.size; have s_w2_w1 := b_w2_w1.size; obtain ⟨cw2, fw2, zw2⟩ := bcell hbw2; (try simp only [World.size_alloc, World.size_setCell, World.size_drew] at zw2 cw2 fw2); have zw2_w_0 : w.heap.size < w2.heap.size := (by omega); have zw2_w_1 : w.heap.size + 1 < w2.heap.size := (by omega); have zw2_w1_0 : w1.heap.size < w2.heap.size := (by omega); clear zw2 hbw2
    go_wp2_with fail; (with_reducible refine (cmp_any a b ha hb _).mono ?_); rintro e w3 ⟨rfl, hbw3⟩; have b_w3 := below_call hbw3 (w := w) (by go_grown); have s_w3 := b_w3.size; obtain ⟨cw3, fw3, zw3⟩ := bcell hbw3; (try simp only [World.size_alloc, World.size_setCell, World.size_drew] at zw3 cw3 fw3); have zw3_w_0 : w.heap.size < w3.heap.size := (by omega); have zw3_w_1 : w.heap.size + 1 < w3.heap.size := (by omega); clear zw3 hbw3
    go_wp2_with fail; (with_reducible refine (cmp_any b a hb ha _).mono ?_); rintro e w4 ⟨rfl, hbw4⟩; have b_w4 := below_call hbw4 (w := w) (by go_grown); have s_w4 := b_w4.size; obtain ⟨cw4, fw4, zw4⟩ := bcell hbw4; (try simp only [World.size_alloc, World.size_setCell, World.size_drew] at zw4 cw4 fw4); have zw4_w_0 : w.heap.size < w4.heap.size := (by omega); have zw4_w_1 : w.heap.size + 1 < w4.heap.size := (by omega); clear zw4 hbw4
    go_wp2_with fail; (with_reducible refine (turns_any _).mono ?_); rintro e w5 ⟨rfl, hbw5⟩; have b_w5 := below_call hbw5 (w := w) (by go_grown); have s_w5 := b_w5.size; obtain ⟨cw5, fw5, zw5⟩ := bcell hbw5; (try simp only [World.size_alloc, World.size_setCell, World.size_drew] at zw5 cw5 fw5); have zw5_w_0 : w.heap.size < w5.heap.size := (by omega); have zw5_w_1 : w.heap.size + 1 < w5.heap.size := (by omega); clear zw5 hbw5
    go_wp2
    go_ret
    refine ⟨rfl, ?_⟩
    go_grown
  · subst h
    have he := eqin_same a
    rw [if_neg (by omega), if_neg (by omega)] at c1
    rw [if_neg (by omega)] at b1
    clear c2 b2
    go_enter Try.func6, Try.ntmps6
    go_wp2_with fail; (with_reducible refine (sub_any a a ha _).mono ?_); rintro e w1 ⟨rfl, hbw1⟩; have b_w1 := below_call hbw1 (w := w) (by go_grown); have s_w1 := b_w1.size; obtain ⟨cw1, fw1, zw1⟩ := bcell hbw1; (try simp only [World.size_alloc, World.size_setCell, World.size_drew] at zw1 cw1 fw1); have zw1_w_0 : w.heap.size < w1.heap.size := (by omega); have zw1_w_1 : w.heap.size + 1 < w1.heap.size := (by omega); clear zw1 hbw1
    go_wp2_with fail; (with_reducible refine (sub_any a a ha _).mono ?_); rintro e w2 ⟨rfl, hbw2⟩; have b_w2 := below_call hbw2 (w := w) (by go_grown); have b_w2_w1 := below_call hbw2 (w := w1) (by go_grown); have s_w2 := b_w2.size; have s_w2_w1 := b_w2_w1.size; obtain ⟨cw2, fw2, zw2⟩ := bcell hbw2; (try simp only [World.size_alloc, World.size_setCell, World.size_drew] at zw2 cw2 fw2); have zw2_w_0 : w.heap.size < w2.heap.size := (by omega); have zw2_w_1 : w.heap.size + 1 < w2.heap.size := (by omega); have zw2_w1_0 : w1.heap.size < w2.heap.size := (by omega); clear zw2 hbw2
    go_wp2_with fail; (with_reducible refine (cmp_any a a ha ha _).mono ?_); rintro e w3 ⟨rfl, hbw3⟩; have b_w3 := below_call hbw3 (w := w) (by go_grown); have s_w3 := b_w3.size; obtain ⟨cw3, fw3, zw3⟩ := bcell hbw3; (try simp only [World.size_alloc, World.size_setCell, World.size_drew] at zw3 cw3 fw3); have zw3_w_0 : w.heap.size < w3.heap.size := (by omega); have zw3_w_1 : w.heap.size + 1 < w3.heap.size := (by omega); clear zw3 hbw3
    go_wp2_with fail; (with_reducible refine (cmp_any a a ha ha _).mono ?_); rintro e w4 ⟨rfl, hbw4⟩; have b_w4 := below_call hbw4 (w := w) (by go_grown); have s_w4 := b_w4.size; obtain ⟨cw4, fw4, zw4⟩ := bcell hbw4; (try simp only [World.size_alloc, World.size_setCell, World.size_drew] at zw4 cw4 fw4); have zw4_w_0 : w.heap.size < w4.heap.size := (by omega); have zw4_w_1 : w.heap.size + 1 < w4.heap.size := (by omega); clear zw4 hbw4
    go_wp2_with fail; (with_reducible refine (turns_any _).mono ?_); rintro e w5 ⟨rfl, hbw5⟩; have b_w5 := below_call hbw5 (w := w) (by go_grown); have s_w5 := b_w5.size; obtain ⟨cw5, fw5, zw5⟩ := bcell hbw5; (try simp only [World.size_alloc, World.size_setCell, World.size_drew] at zw5 cw5 fw5); have zw5_w_0 : w.heap.size < w5.heap.size := (by omega); have zw5_w_1 : w.heap.size + 1 < w5.heap.size := (by omega); clear zw5 hbw5
    go_wp2
    go_ret
    refine ⟨rfl, ?_⟩
    go_grown
  · have he := eqin_other ha hb (by omega)
    rw [if_neg (by omega), if_pos h] at c1
    rw [if_neg (by omega)] at b1
    rw [if_pos h] at c2 b2
    clear h
    go_enter Try.func6, Try.ntmps6
    go_wp2_with fail; (with_reducible refine (sub_any a b hb _).mono ?_); rintro e w1 ⟨rfl, hbw1⟩; have b_w1 := below_call hbw1 (w := w) (by go_grown); have s_w1 := b_w1.size; obtain ⟨cw1, fw1, zw1⟩ := bcell hbw1; (try simp only [World.size_alloc, World.size_setCell, World.size_drew] at zw1 cw1 fw1); have zw1_w_0 : w.heap.size < w1.heap.size := (by omega); have zw1_w_1 : w.heap.size + 1 < w1.heap.size := (by omega); clear zw1 hbw1
    go_wp2_with fail; (with_reducible refine (sub_any b a ha _).mono ?_); rintro e w2 ⟨rfl, hbw2⟩; have b_w2 := below_call hbw2 (w := w) (by go_grown); have b_w2_w1 := below_call hbw2 (w := w1) (by go_grown); have s_w2 := b_w2.size; have s_w2_w1 := b_w2_w1.size; obtain ⟨cw2, fw2, zw2⟩ := bcell hbw2; (try simp only [World.size_alloc, World.size_setCell, World.size_drew] at zw2 cw2 fw2); have zw2_w_0 : w.heap.size < w2.heap.size := (by omega); have zw2_w_1 : w.heap.size + 1 < w2.heap.size := (by omega); have zw2_w1_0 : w1.heap.size < w2.heap.size := (by omega); clear zw2 hbw2
    go_wp2_with fail; (with_reducible refine (cmp_any a b ha hb _).mono ?_); rintro e w3 ⟨rfl, hbw3⟩; have b_w3 := below_call hbw3 (w := w) (by go_grown); have s_w3 := b_w3.size; obtain ⟨cw3, fw3, zw3⟩ := bcell hbw3; (try simp only [World.size_alloc, World.size_setCell, World.size_drew] at zw3 cw3 fw3); have zw3_w_0 : w.heap.size < w3.heap.size := (by omega); have zw3_w_1 : w.heap.size + 1 < w3.heap.size := (by omega); clear zw3 hbw3
    go_wp2_with fail; (with_reducible refine (cmp_any b a hb ha _).mono ?_); rintro e w4 ⟨rfl, hbw4⟩; have b_w4 := below_call hbw4 (w := w) (by go_grown); have s_w4 := b_w4.size; obtain ⟨cw4, fw4, zw4⟩ := bcell hbw4; (try simp only [World.size_alloc, World.size_setCell, World.size_drew] at zw4 cw4 fw4); have zw4_w_0 : w.heap.size < w4.heap.size := (by omega); have zw4_w_1 : w.heap.size + 1 < w4.heap.size := (by omega); clear zw4 hbw4
    go_wp2_with fail; (with_reducible refine (turns_any _).mono ?_); rintro e w5 ⟨rfl, hbw5⟩; have b_w5 := below_call hbw5 (w := w) (by go_grown); have s_w5 := b_w5.size; obtain ⟨cw5, fw5, zw5⟩ := bcell hbw5; (try simp only [World.size_alloc, World.size_setCell, World.size_drew] at zw5 cw5 fw5); have zw5_w_0 : w.heap.size < w5.heap.size := (by omega); have zw5_w_1 : w.heap.size + 1 < w5.heap.size := (by omega); clear zw5 hbw5
    go_wp2
    go_ret
    refine ⟨rfl, ?_⟩
    go_grown
end Go.Proofs.Ytcoljlanblngiaa
