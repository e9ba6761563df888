/- The two fields: their primes, how they lie in memory, and how they are made. -/
import Derived.Test.YtlibfjemdiochaaV3
import Derived.Test.YtlibfjemdiochaaV2
namespace Go.Proofs.Ytlibfjemdiochaa
set_option linter.unusedVariables false
set_option linter.unusedSimpArgs false
open Go.RowKit

abbrev pC : Bool → Nat
  | true => 115792089237316195423570985008687907853269984665640564039457584007908834671663
  | false => 115792089237316195423570985008687907852837564279074904382605163141518161494337
abbrev rtC : Bool → Nat
  | true => 28948022309329048855892746252171976963317496166410141009864396001977208667916
  | false => 0
/-- The primes, and the exponents of roots. -/
theorem pN_is : ∃ f : Bool → Nat, ∀ b, f b = pC b := ⟨pC, fun _ => rfl⟩
noncomputable def pN : Bool → Nat := Classical.choose pN_is
theorem pN_def (b : Bool) : pN b = pC b := Classical.choose_spec pN_is b
theorem rtN_is : ∃ f : Bool → Nat, ∀ b, f b = rtC b := ⟨rtC, fun _ => rfl⟩
noncomputable def rtN : Bool → Nat := Classical.choose rtN_is
theorem rtN_def (b : Bool) : rtN b = rtC b := Classical.choose_spec rtN_is b
theorem pN_lt (b : Bool) : pN b < RR := by rw [pN_def]; unfold RR; cases b <;> decide
theorem pN_odd (b : Bool) : pN b % 2 = 1 := by rw [pN_def]; cases b <;> decide
theorem pN_one (b : Bool) : 1 < pN b := by rw [pN_def]; cases b <;> decide
theorem pN_high (b : Bool) : RR < 2 * pN b := by rw [pN_def]; unfold RR; cases b <;> decide
theorem rtN_lt (b : Bool) : rtN b < RR := by rw [rtN_def]; unfold RR; cases b <;> decide
theorem rt_base : rtN true = (pN true + 1) / 4 := by rw [rtN_def, pN_def]; decide
theorem rt_none : rtN false = 0 := by rw [rtN_def]
theorem lb_p (b : Bool) : lb (pN b) 0 = (if b then 18446744069414583343 else 13822214165235122497) ∧ lb (pN b) 1 = (if b then 18446744073709551615 else 13451932020343611451) ∧ lb (pN b) 2 = (if b then 18446744073709551615 else 18446744073709551614) ∧ lb (pN b) 3 = 18446744073709551615 := by
  rw [pN_def]; cases b <;> (simp only [lb_def, lbN]; decide)
theorem lb_rt (b : Bool) : lb (rtN b) 0 = (if b then 18446744072635809548 else 0) ∧ lb (rtN b) 1 = (if b then 18446744073709551615 else 0) ∧ lb (rtN b) 2 = (if b then 18446744073709551615 else 0) ∧ lb (rtN b) 3 = (if b then 4611686018427387903 else 0) := by
  rw [rtN_def]; cases b <;> (simp only [lb_def, lbN]; decide)
/-- A field in memory: its block, and its Montgomery way's. -/
def FieldB (w : World) (f b : Nat) (base : Bool) : Prop :=
  Blk w f 64 #[.int .u64 (lb (pN base) 0), .int .u64 (lb (pN base) 1), .int .u64 (lb (pN base) 2), .int .u64 (lb (pN base) 3), .pointer (some ⟨b, 0, none⟩), .int .u64 (lb (rtN base) 0), .int .u64 (lb (rtN base) 1), .int .u64 (lb (rtN base) 2), .int .u64 (lb (rtN base) 3)] ∧ MontB w b (pN base) (r2N (pN base)) (ivN (pN base))
theorem FieldB.lt {w : World} {f b : Nat} {base : Bool} (h : FieldB w f b base) : f < w.heap.size ∧ b < w.heap.size := ⟨h.1.lt, Blk.lt h.2⟩
theorem FieldB.after {w w1 : World} {f b : Nat} {base : Bool} (h : FieldB w f b base) (hb : Below w.heap.size w w1) : FieldB w1 f b base := ⟨h.1.after hb, h.2.below hb⟩
theorem FieldB.drew {w : World} {f b : Nat} {base : Bool} (h : FieldB w f b base) : FieldB w.drew f b base := ⟨h.1.drew, h.2⟩
theorem FieldB.alloc {w : World} {f b : Nat} {base : Bool} (h : FieldB w f b base) (o : Obj) : FieldB (w.alloc o) f b base := ⟨h.1.alloc o, Blk.alloc h.2 o⟩
theorem new_base (w : World) : Calls Try.prog 70 #[.agg #[.int .u64 18446744069414583343, .int .u64 18446744073709551615, .int .u64 18446744073709551615, .int .u64 18446744073709551615]] w fun e w' => ∃ g, e = .returned (.tuple #[.pointer (some ⟨g, 0, none⟩), .int .i64 0]) ∧ MontB w' g (pN true) (r2N (pN true)) (ivN (pN true)) ∧ Below w.heap.size w w' := by
  have h := newmont_any (pN true) (pN_lt _) (pN_odd _) (by have := pN_one true; omega) w
  unfold num at h
  rw [(lb_p true).1, (lb_p true).2.1, (lb_p true).2.2.1, (lb_p true).2.2.2] at h
  exact h
theorem new_scalars (w : World) : Calls Try.prog 70 #[.agg #[.int .u64 13822214165235122497, .int .u64 13451932020343611451, .int .u64 18446744073709551614, .int .u64 18446744073709551615]] w fun e w' => ∃ g, e = .returned (.tuple #[.pointer (some ⟨g, 0, none⟩), .int .i64 0]) ∧ MontB w' g (pN false) (r2N (pN false)) (ivN (pN false)) ∧ Below w.heap.size w w' := by
  have h := newmont_any (pN false) (pN_lt _) (pN_odd _) (by have := pN_one false; omega) w
  unfold num at h
  rw [(lb_p false).1, (lb_p false).2.1, (lb_p false).2.2.1, (lb_p false).2.2.2] at h
  exact h
set_option maxHeartbeats 2000000 in
theorem base_any (w : World) : Calls Try.prog 40 #[] w fun e w' => ∃ f b, e = .returned (.pointer (some ⟨f, 0, none⟩)) ∧ FieldB w' f b true ∧ Below w.heap.size w w' := by
  go_enter Try.func40, Try.ntmps40
  go_wp2_with fail; (with_reducible refine (new_base _).mono ?_); rintro e w1 ⟨g, rfl, hM, h1⟩; have km := (Blk.newAt (n := w.heap.size) _ _ _ (by first | rfl | simp)).after h1; have bw := below_call h1 (w := w) (by go_grown); obtain ⟨km_c, km_f, km_l, km_m, _⟩ := km.knows
  go_wp2
  go_ret
  refine ⟨_, g, rfl, ⟨?_, Blk.alloc hM _⟩, by go_grown⟩
  rw [(lb_p true).1, (lb_p true).2.1, (lb_p true).2.2.1, (lb_p true).2.2.2, (lb_rt true).1, (lb_rt true).2.1, (lb_rt true).2.2.1, (lb_rt true).2.2.2]
  exact Blk.new _ _ _
set_option maxHeartbeats 2000000 in
theorem scalars_any (w : World) : Calls Try.prog 42 #[] w fun e w' => ∃ f b, e = .returned (.pointer (some ⟨f, 0, none⟩)) ∧ FieldB w' f b false ∧ Below w.heap.size w w' := by
  go_enter Try.func42, Try.ntmps42
  go_wp2_with fail; (with_reducible refine (new_scalars _).mono ?_); rintro e w1 ⟨g, rfl, hM, h1⟩; have km := (Blk.newAt (n := w.heap.size) _ _ _ (by first | rfl | simp)).after h1; have bw := below_call h1 (w := w) (by go_grown); obtain ⟨km_c, km_f, km_l, km_m, _⟩ := km.knows
  go_wp2
  go_ret
  refine ⟨_, g, rfl, ⟨?_, Blk.alloc hM _⟩, by go_grown⟩
  rw [(lb_p false).1, (lb_p false).2.1, (lb_p false).2.2.1, (lb_p false).2.2.2, (lb_rt false).1, (lb_rt false).2.1, (lb_rt false).2.2.1, (lb_rt false).2.2.2]
  exact Blk.new _ _ _
end Go.Proofs.Ytlibfjemdiochaa
