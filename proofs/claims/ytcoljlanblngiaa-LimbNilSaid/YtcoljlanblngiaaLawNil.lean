/- LimbNil, the walk. -/
import Derived.Test.YtcoljlanblngiaaF
namespace Go.Proofs.Ytcoljlanblngiaa
set_option linter.unusedVariables false
set_option linter.unusedSimpArgs false
open Go.RowKit

theorem below_nil (g : Nat) (w : World) : Calls Try.prog 51 #[.pointer none, .pointer (some ⟨g, 0, none⟩)] w fun e w' => e = .returned (.bool false) ∧ w = w' := by
  go_enter Try.func51, Try.ntmps51
  go_wp2
  go_ret
  exact ⟨rfl, rfl⟩
theorem mmul_nil (a b : Nat) (w : World) : Calls Try.prog 35 #[.pointer none, num a, num b] w fun e w' => e = .returned (.tuple #[zeroV, .int .i64 1]) ∧ Below w.heap.size w w' := by
  go_enter Try.func35, Try.ntmps35
  go_wp2_with (go_at_call 51; refine (below_nil _ _).mono ?_; rintro e w1 ⟨rfl, rfl⟩)
  go_returns
  refine ⟨rfl, ?_⟩
  go_grown
theorem to_nil (a : Nat) (w : World) : Calls Try.prog 36 #[.pointer none, num a] w fun e w' => e = .returned (.tuple #[zeroV, .int .i64 1]) ∧ Below w.heap.size w w' := by
  go_enter Try.func36, Try.ntmps36
  go_wp2_with (go_at_call 51; refine (below_nil _ _).mono ?_; rintro e w1 ⟨rfl, rfl⟩)
  go_returns
  refine ⟨rfl, ?_⟩
  go_grown
theorem from_nil (a : Nat) (w : World) : Calls Try.prog 37 #[.pointer none, num a] w fun e w' => e = .returned (.tuple #[zeroV, .int .i64 1]) ∧ Below w.heap.size w w' := by
  go_enter Try.func37, Try.ntmps37
  go_wp2_with (go_at_call 51; refine (below_nil _ _).mono ?_; rintro e w1 ⟨rfl, rfl⟩)
  go_returns
  refine ⟨rfl, ?_⟩
  go_grown
theorem nil_walk (a b : Nat) (ha : a < RR) (hb : b < RR) (w : World) : Calls Try.prog 10 #[num a, num b] w fun e w' => e = .returned (.bool true) ∧ Below w.heap.size w w' := by
  go_enter Try.func10, Try.ntmps10
  go_wp2_with fail; (with_reducible refine (mmul_nil a b _).mono ?_); rintro e w1 ⟨rfl, h1⟩; have ka := ((Blk.newAt (n := w.heap.size) _ _ _ (by first | rfl | simp)).alloc _).after h1; have kb := (Blk.newAt (n := w.heap.size + 1) _ _ _ (by first | rfl | simp)).after h1; have bw := below_call h1 (w := w) (by go_grown); obtain ⟨ka_c, ka_f, ka_l, ka_m, _⟩ := ka.knows; obtain ⟨kb_c, kb_f, kb_l, kb_m, _⟩ := kb.knows
  go_wp2_with fail; (with_reducible refine (to_nil a _).mono ?_); rintro e w2 ⟨rfl, h2⟩; clear ka_c ka_f ka_l ka_m kb_c kb_f kb_l kb_m; (first | replace ka := ka.after h2 | replace ka := (ka.alloc _).after h2 | replace ka := ((ka.alloc _).alloc _).after h2 | replace ka := ka.drew.after h2 | replace ka := (ka.alloc _).drew.after h2 | replace ka := (ka.drew.alloc _).after h2); (first | replace kb := kb.after h2 | replace kb := (kb.alloc _).after h2 | replace kb := ((kb.alloc _).alloc _).after h2 | replace kb := kb.drew.after h2 | replace kb := (kb.alloc _).drew.after h2 | replace kb := (kb.drew.alloc _).after h2); replace bw := below_call h2 (w := w) (by go_grown); clear h2; obtain ⟨ka_c, ka_f, ka_l, ka_m, _⟩ := ka.knows; obtain ⟨kb_c, kb_f, kb_l, kb_m, _⟩ := kb.knows
  go_wp2_with fail; (with_reducible refine (from_nil b _).mono ?_); rintro e w3 ⟨rfl, h3⟩; clear ka_c ka_f ka_l ka_m kb_c kb_f kb_l kb_m; (first | replace ka := ka.after h3 | replace ka := (ka.alloc _).after h3 | replace ka := ((ka.alloc _).alloc _).after h3 | replace ka := ka.drew.after h3 | replace ka := (ka.alloc _).drew.after h3 | replace ka := (ka.drew.alloc _).after h3); (first | replace kb := kb.after h3 | replace kb := (kb.alloc _).after h3 | replace kb := ((kb.alloc _).alloc _).after h3 | replace kb := kb.drew.after h3 | replace kb := (kb.alloc _).drew.after h3 | replace kb := (kb.drew.alloc _).after h3); replace bw := below_call h3 (w := w) (by go_grown); clear h3; obtain ⟨ka_c, ka_f, ka_l, ka_m, _⟩ := ka.knows; obtain ⟨kb_c, kb_f, kb_l, kb_m, _⟩ := kb.knows
  go_wp2_with fail; (with_reducible refine (turns_any _).mono ?_); rintro e w4 ⟨rfl, h4⟩; clear ka_c ka_f ka_l ka_m kb_c kb_f kb_l kb_m; (first | replace ka := ka.after h4 | replace ka := (ka.alloc _).after h4 | replace ka := ((ka.alloc _).alloc _).after h4 | replace ka := ka.drew.after h4 | replace ka := (ka.alloc _).drew.after h4 | replace ka := (ka.drew.alloc _).after h4); (first | replace kb := kb.after h4 | replace kb := (kb.alloc _).after h4 | replace kb := ((kb.alloc _).alloc _).after h4 | replace kb := kb.drew.after h4 | replace kb := (kb.alloc _).drew.after h4 | replace kb := (kb.drew.alloc _).after h4); replace bw := below_call h4 (w := w) (by go_grown); clear h4; obtain ⟨ka_c, ka_f, ka_l, ka_m, _⟩ := ka.knows; obtain ⟨kb_c, kb_f, kb_l, kb_m, _⟩ := kb.knows
  go_wp2
  go_ret
  refine ⟨rfl, ?_⟩
  go_grown
end Go.Proofs.Ytcoljlanblngiaa
