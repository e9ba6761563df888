/- LimbRests, the walk. -/
import Derived.Test.YtcoljlanblngiaaE
import Derived.Test.YtcoljlanblngiaaF
import Derived.Test.YtcoljlanblngiaaP10
namespace Go.Proofs.Ytcoljlanblngiaa
set_option linter.unusedVariables false
set_option linter.unusedSimpArgs false
open Go.RowKit Go.Proofs.YtcoljlanblngiaaW.PrintWords

theorem mod_zero (x : Nat) (w : World) : Calls Try.prog 32 #[wide x, num 0] w fun e w' => e = .returned (.tuple #[num 0, .int .i64 1]) ∧ Below w.heap.size w w' := by
  have he := eqin_zero_same
  rw [num_zero] at he ⊢
  go_enter Try.func32, Try.ntmps32
  go_wp2
  have kf : Blk (((w.alloc (.cells #[.int .u64 (lb (x) 0), .int .u64 (lb (x) 1), .int .u64 (lb (x) 2), .int .u64 (lb (x) 3), .int .u64 (lb (x) 4), .int .u64 (lb (x) 5), .int .u64 (lb (x) 6), .int .u64 (lb (x) 7)] 41)).alloc (.cells #[.int .u64 0, .int .u64 0, .int .u64 0, .int .u64 0] 24)).alloc (.cells #[.int .u64 0, .int .u64 0, .int .u64 0, .int .u64 0] 24)) (w.heap.size + 1 + 1) 24 #[.int .u64 0, .int .u64 0, .int .u64 0, .int .u64 0] := Blk.newAt _ _ _ (by simp)
  obtain ⟨kf_c, kf_f, kf_l, _⟩ := kf.knows
  refine bodyPost_ret (v := .tuple #[zeroV, .int .i64 1]) (by simp [results, Try.results32, go_sem, kf_c, kf_l]) rfl ?_
  exact ⟨rfl, by go_grown⟩
theorem mod_rest (x m : Nat) (hx : x < 18446744073709551616 ^ 8) (hm : m < RR) (h0 : m ≠ 0) (w : World) : Calls Try.prog 32 #[wide x, num m] w fun e w' => e = .returned (.tuple #[num (x % m), .int .i64 0]) ∧ Below w.heap.size w w' := by
  have h := mod_any x m hx hm h0 w
  rw [upN_def, Nat.pow_zero, Nat.div_one] at h
  exact h
set_option maxHeartbeats 2000000 in
theorem rests_walk (x m : Nat) (hx : x < 18446744073709551616 ^ 8) (hm : m < RR) (w : World) : Calls Try.prog 8 #[wide x, num m] w fun e w' => e = .returned (.bool true) ∧ Below w.heap.size w w' := by
  have q1 := eqin_same
  by_cases h0 : m = 0
  · subst h0
    go_enter Try.func8, Try.ntmps8
    go_wp2_with fail; (with_reducible refine (mod_zero x _).mono ?_); rintro e w1 ⟨rfl, h1⟩; have kx := ((Blk.newAt (n := w.heap.size) _ _ _ (by first | rfl | simp)).alloc _).after h1; have km := (Blk.newAt (n := w.heap.size + 1) _ _ _ (by first | rfl | simp)).after h1; have bw := below_call h1 (w := w) (by go_grown); obtain ⟨kx_c, kx_f, kx_l, kx_m, _⟩ := kx.knows; obtain ⟨km_c, km_f, km_l, km_m, _⟩ := km.knows
    go_wp2_with fail; (with_reducible refine (rmod_zero x _).mono ?_); rintro e w2 ⟨rfl, h2⟩; clear kx_c kx_f kx_l kx_m km_c km_f km_l km_m; (first | replace kx := kx.after h2 | replace kx := (kx.alloc _).after h2 | replace kx := ((kx.alloc _).alloc _).after h2 | replace kx := kx.drew.after h2 | replace kx := (kx.alloc _).drew.after h2 | replace kx := (kx.drew.alloc _).after h2); (first | replace km := km.after h2 | replace km := (km.alloc _).after h2 | replace km := ((km.alloc _).alloc _).after h2 | replace km := km.drew.after h2 | replace km := (km.alloc _).drew.after h2 | replace km := (km.drew.alloc _).after h2); (first | have ka := (Blk.new _ _ _).after h2 | have ka := (Blk.new _ _ _).drew.after h2); have bwsz := Below.size bw; replace bw := below_call h2 (w := w) (by go_grown); clear h2 bwsz; obtain ⟨kx_c, kx_f, kx_l, kx_m, _⟩ := kx.knows; obtain ⟨km_c, km_f, km_l, km_m, _⟩ := km.knows; obtain ⟨ka_c, ka_f, ka_l, ka_m, _⟩ := ka.knows
    go_wp2_with fail; (with_reducible refine (turns_any _).mono ?_); rintro e w3 ⟨rfl, h3⟩; clear kx_c kx_f kx_l kx_m km_c km_f km_l km_m ka_c ka_f ka_l ka_m; (first | replace kx := kx.after h3 | replace kx := (kx.alloc _).after h3 | replace kx := ((kx.alloc _).alloc _).after h3 | replace kx := kx.drew.after h3 | replace kx := (kx.alloc _).drew.after h3 | replace kx := (kx.drew.alloc _).after h3); (first | replace km := km.after h3 | replace km := (km.alloc _).after h3 | replace km := ((km.alloc _).alloc _).after h3 | replace km := km.drew.after h3 | replace km := (km.alloc _).drew.after h3 | replace km := (km.drew.alloc _).after h3); (first | replace ka := ka.after h3 | replace ka := (ka.alloc _).after h3 | replace ka := ((ka.alloc _).alloc _).after h3 | replace ka := ka.drew.after h3 | replace ka := (ka.alloc _).drew.after h3 | replace ka := (ka.drew.alloc _).after h3); (first | have kb := (Blk.new _ _ _).after h3 | have kb := (Blk.new _ _ _).drew.after h3); have bwsz := Below.size bw; replace bw := below_call h3 (w := w) (by go_grown); clear h3 bwsz; obtain ⟨kx_c, kx_f, kx_l, kx_m, _⟩ := kx.knows; obtain ⟨km_c, km_f, km_l, km_m, _⟩ := km.knows; obtain ⟨ka_c, ka_f, ka_l, ka_m, _⟩ := ka.knows; obtain ⟨kb_c, kb_f, kb_l, kb_m, _⟩ := kb.knows
    go_wp2
    go_ret
    exact ⟨rfl, bw⟩
  · have x32 : x < 65536 ^ 32 := by rw [show 65536 ^ 32 = 18446744073709551616 ^ 8 from by decide]; exact hx
    go_enter Try.func8, Try.ntmps8
    go_wp2_with fail; (with_reducible refine (mod_rest x m hx hm h0 _).mono ?_); rintro e w1 ⟨rfl, h1⟩; have kx := ((Blk.newAt (n := w.heap.size) _ _ _ (by first | rfl | simp)).alloc _).after h1; have km := (Blk.newAt (n := w.heap.size + 1) _ _ _ (by first | rfl | simp)).after h1; have bw := below_call h1 (w := w) (by go_grown); obtain ⟨kx_c, kx_f, kx_l, kx_m, _⟩ := kx.knows; obtain ⟨km_c, km_f, km_l, km_m, _⟩ := km.knows
    go_wp2_with fail; (with_reducible refine (rmod_any x m x32 hm h0 _).mono ?_); rintro e w2 ⟨rfl, h2⟩; clear kx_c kx_f kx_l kx_m km_c km_f km_l km_m; (first | replace kx := kx.after h2 | replace kx := (kx.alloc _).after h2 | replace kx := ((kx.alloc _).alloc _).after h2 | replace kx := kx.drew.after h2 | replace kx := (kx.alloc _).drew.after h2 | replace kx := (kx.drew.alloc _).after h2); (first | replace km := km.after h2 | replace km := (km.alloc _).after h2 | replace km := ((km.alloc _).alloc _).after h2 | replace km := km.drew.after h2 | replace km := (km.alloc _).drew.after h2 | replace km := (km.drew.alloc _).after h2); (first | have ka := (Blk.new _ _ _).after h2 | have ka := (Blk.new _ _ _).drew.after h2); have bwsz := Below.size bw; replace bw := below_call h2 (w := w) (by go_grown); clear h2 bwsz; obtain ⟨kx_c, kx_f, kx_l, kx_m, _⟩ := kx.knows; obtain ⟨km_c, km_f, km_l, km_m, _⟩ := km.knows; obtain ⟨ka_c, ka_f, ka_l, ka_m, _⟩ := ka.knows
    go_wp2_with fail; (with_reducible refine (turns_any _).mono ?_); rintro e w3 ⟨rfl, h3⟩; clear kx_c kx_f kx_l kx_m km_c km_f km_l km_m ka_c ka_f ka_l ka_m; (first | replace kx := kx.after h3 | replace kx := (kx.alloc _).after h3 | replace kx := ((kx.alloc _).alloc _).after h3 | replace kx := kx.drew.after h3 | replace kx := (kx.alloc _).drew.after h3 | replace kx := (kx.drew.alloc _).after h3); (first | replace km := km.after h3 | replace km := (km.alloc _).after h3 | replace km := ((km.alloc _).alloc _).after h3 | replace km := km.drew.after h3 | replace km := (km.alloc _).drew.after h3 | replace km := (km.drew.alloc _).after h3); (first | replace ka := ka.after h3 | replace ka := (ka.alloc _).after h3 | replace ka := ((ka.alloc _).alloc _).after h3 | replace ka := ka.drew.after h3 | replace ka := (ka.alloc _).drew.after h3 | replace ka := (ka.drew.alloc _).after h3); (first | have kb := (Blk.new _ _ _).after h3 | have kb := (Blk.new _ _ _).drew.after h3); have bwsz := Below.size bw; replace bw := below_call h3 (w := w) (by go_grown); clear h3 bwsz; obtain ⟨kx_c, kx_f, kx_l, kx_m, _⟩ := kx.knows; obtain ⟨km_c, km_f, km_l, km_m, _⟩ := km.knows; obtain ⟨ka_c, ka_f, ka_l, ka_m, _⟩ := ka.knows; obtain ⟨kb_c, kb_f, kb_l, kb_m, _⟩ := kb.knows
    go_wp2
    go_ret
    exact ⟨rfl, bw⟩
end Go.Proofs.Ytcoljlanblngiaa
