/- Of the fields' laws: what they share. -/
import Derived.Test.YtbmokmkaebfneaaRG
import Derived.Test.YtbmokmkaebfneaaPR
import Derived.Test.YtbmokmkaebfneaaFE
namespace Go.Proofs.Ytbmokmkaebfneaa
set_option linter.unusedVariables false
set_option linter.unusedSimpArgs false
open Go.RowKit

theorem FieldB.far {w : World} {f b : Nat} {base : Bool} (h : FieldB w f b base) {p : Addr} (hp : f ≠ p.block ∧ b ≠ p.block) (u : Value) : FieldB (w.setCell p u) f b base := ⟨h.1.far hp.1 u, Blk.far h.2 hp.2 u⟩
theorem Blk.ne {w : World} {g g' : Nat} {t t' : TypeId} {cs cs' : Array Value} (h : Blk w g t cs) (h' : Blk w g' t' cs') (ht : t ≠ t') : g ≠ g' := fun e => by
  subst e
  unfold Blk at h h'
  rw [h] at h'
  injection h' with h1
  injection h1 with h2 h3
  exact ht h3
theorem FieldB.ne {w : World} {f b g' : Nat} {base : Bool} {t' : TypeId} {cs' : Array Value} (h : FieldB w f b base) (h' : Blk w g' t' cs') (ht : 121 ≠ t' ∧ 136 ≠ t') : f ≠ g' ∧ b ≠ g' := ⟨h.1.ne h' ht.1, Blk.ne h.2 h' ht.2⟩
theorem finv_zero_eq {base : Bool} {f g : Nat} {w : World} (hF : FieldB w f g base) (x : Nat) (h : x = 0) : Calls Try.prog 51 #[.pointer (some ⟨f, 0, none⟩), num x] w fun e w' => e = .returned (.tuple #[num 0, .int .i64 21]) ∧ Below w.heap.size w w' := by
  subst h; exact finv_zero hF
theorem pN_prime (b : Bool) : Prm (pN b) := by
  rw [pN_def]; cases b
  · exact prm_115792089237316195423570985008687907852837564279074904382605163141518161494337
  · exact prm_115792089237316195423570985008687907853269984665640564039457584007908834671663
abbrev fourNV : Value := .agg #[.int .u64 4, .int .u64 0, .int .u64 0, .int .u64 0]
theorem num_four : num 4 = fourNV := by
  have h : lb 4 0 = 4 ∧ lb 4 1 = 0 ∧ lb 4 2 = 0 ∧ lb 4 3 = 0 := by simp only [lb_def, lbN]; decide
  unfold num fourNV; rw [h.1, h.2.1, h.2.2.1, h.2.2.2]
theorem half_mul : fmlN true (fpwN true 2 (ieN true)) 2 = 1 := by
  rw [fmlN_def, fpwN_def, ieN_def, pN_def]
  rw [pow_of_pm (pC true) 2 (pC true - 2) 57896044618658097711785492504343953926634992332820282019728792003954417335832 (by decide +kernel) (by decide +kernel)]
  decide +kernel
theorem four_pow : fpwN true 4 (rtN true) = 2 := by
  rw [fpwN_def, rtN_def, pN_def]
  exact pow_of_pm (pC true) 4 (rtC true) _ (by decide +kernel) (by decide +kernel)
theorem four_square : fmlN true (fpwN true 4 (rtN true)) (fpwN true 4 (rtN true)) = 4 := by
  rw [four_pow, fmlN_def, pN_def]; decide +kernel
theorem four_even : evN true (fpwN true 4 (rtN true)) = 2 := by
  rw [four_pow, evN_def]; rfl
end Go.Proofs.Ytbmokmkaebfneaa
