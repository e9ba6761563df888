/- The document's answer for layer 1: a product of digits, walked. -/
import Derived.Test.YtcoljlanblngiaaP
namespace Go.Proofs.Ytcoljlanblngiaa
set_option linter.unusedVariables false
set_option linter.unusedSimpArgs false
open Go.RowKit Go.Proofs.YtcoljlanblngiaaW.PrintWords

theorem tcZ_is : ∃ f : Nat → Nat → Nat → Nat → Int, ∀ a b i j, f a b i j = (tcD (tpD a b i) (dgD a i) b i j : Nat) := ⟨fun a b i j => (tcD (tpD a b i) (dgD a i) b i j : Nat), fun _ _ _ _ => rfl⟩
noncomputable def tcZ : Nat → Nat → Nat → Nat → Int := Classical.choose tcZ_is
theorem tcZ_def (a b i j : Nat) : tcZ a b i j = (tcD (tpD a b i) (dgD a i) b i j : Nat) := Classical.choose_spec tcZ_is a b i j
theorem tpV_is : ∃ f : Nat → Nat → Nat → Nat, ∀ a b i, f a b i = tpD a b i := ⟨tpD, fun _ _ _ => rfl⟩
noncomputable def tpV : Nat → Nat → Nat → Nat := Classical.choose tpV_is
theorem tpV_def (a b i : Nat) : tpV a b i = tpD a b i := Classical.choose_spec tpV_is a b i
theorem tcZ_zero (a b i : Nat) : tcZ a b i 0 = 0 := by rw [tcZ_def, tcD_zero]; rfl
theorem tcZ_lo (a b i j : Nat) : 0 ≤ tcZ a b i j := by rw [tcZ_def]; omega
theorem tcZ_hi (a b i j : Nat) : tcZ a b i j < 65536 := by rw [tcZ_def]; have := tcD_lt (tpD a b i) (dgD a i) b i (dgD_lt a i) j; omega
theorem dg_mul (a b i j : Nat) : 0 ≤ dg a i * dg b j ∧ dg a i * dg b j ≤ 4294836225 := by
  rw [dg_def, dg_def]
  have h1 := dgD_lt a i
  have h2 := dgD_lt b j
  have h4 : dgD a i * dgD b j ≤ 65535 * 65535 := Nat.mul_le_mul (by omega) (by omega)
  have e : ((dgD a i : Nat) : Int) * ((dgD b j : Nat) : Int) = ((dgD a i * dgD b j : Nat) : Int) := by rw [Int.natCast_mul]
  rw [e]; omega
theorem t_sum (a b i j : Nat) : dg (tpV a b i) (i + j) + dg a i * dg b j + tcZ a b i j = ((dgD a i * dgD b j + dgD (tpD a b i) (i + j) + tcD (tpD a b i) (dgD a i) b i j : Nat) : Int) := by
  rw [dg_def, dg_def, dg_def, tcZ_def, tpV_def, Int.natCast_add, Int.natCast_add, Int.natCast_mul]
  omega
theorem t_mod (a b i j : Nat) : (dg (tpV a b i) (i + j) + dg a i * dg b j + tcZ a b i j) % 65536 = dg (tpV a b (i + 1)) (i + j) := by
  rw [t_sum, dg_def, tpV_def, tpD_succ, trow_word]; rfl
theorem t_div (a b i j : Nat) : (dg (tpV a b i) (i + j) + dg a i * dg b j + tcZ a b i j) / 65536 = tcZ a b i (j + 1) := by
  rw [t_sum, tcZ_def, tcD_succ]; rfl
/-- The memory within the inner loop. -/
structure TimesSt (a b i p n : Nat) (w wr : World) : Prop where
  hb : Below w.heap.size w wr
  ho : Blk wr w.heap.size 3 (intsA (mixl (tpV a b (i + 1)) (tpV a b i) p n))
theorem TimesSt.drewN {a b i p n : Nat} {w wr : World} (h : TimesSt a b i p n w wr) (m : Nat) : TimesSt a b i p n w (wr.drewN m) := ⟨⟨h.hb.os, h.hb.tape, h.hb.output, h.hb.size, h.hb.block⟩, h.ho⟩
theorem TimesSt.put {a b i p n : Nat} {w wr : World} (h : TimesSt a b i p n w wr) (hp : p < n) (x : Int) (hx : x = dg (tpV a b (i + 1)) p) : TimesSt a b i (p + 1) n w (wr.setCell ⟨w.heap.size, p, none⟩ (.int .i64 x)) := by
  refine ⟨h.hb.setCell (by dsimp only; omega) _, ?_⟩
  have h1 := h.ho.set_ p (.int .i64 x)
  rw [intsA_set, mixl_set _ _ _ _ _ (by rw [hx, dg_def]) hp] at h1
  exact h1
theorem TimesSt.cell {a b i p n : Nat} {w wr : World} (h : TimesSt a b i p n w wr) (hp : p < n) : wr.cell? ⟨w.heap.size, p, none⟩ = some (.int .i64 (dg (tpV a b i) p)) := by
  rw [h.ho.cell]
  refine intsA_get _ _ _ ?_
  rw [mixl_get _ _ _ _ _ hp, if_neg (by omega), dg_def]
theorem TimesSt.first {a b i n : Nat} {w wr : World} (hb : Below w.heap.size w wr) (ho : Blk wr w.heap.size 3 (intsA (dgs (tpV a b i) n))) : TimesSt a b i i n w wr := by
  refine ⟨hb, ?_⟩
  rw [← mixl_low (tpV a b (i + 1)) (tpV a b i) i n fun k hk => by rw [tpV_def, tpV_def, tpD_succ, trow_keep _ _ _ _ _ hk]]
  exact ho
theorem TimesSt.last {a b i k n : Nat} {w wr : World} (h : TimesSt a b i (i + k + 1) n w wr) (hb : b < 65536 ^ k) : Blk wr w.heap.size 3 (intsA (dgs (tpV a b (i + 1)) n)) := by
  have h1 := h.ho
  rw [mixl_all _ _ _ _ fun j hj _ => by rw [tpV_def, tpV_def, tp_far a b i j k hb (by omega), tp_far a b (i + 1) j k hb (by omega)]] at h1
  exact h1
def TimesIn (a b i kb n : Nat) (w wr : World) (c j : Value) : Prop := ∃ k : Nat, k ≤ kb ∧ j = .int .i64 k ∧ c = .int .i64 (tcZ a b i k) ∧ TimesSt a b i (i + k) n w wr
def TimesOut (a b ka n : Nat) (w wr : World) (i : Value) : Prop := ∃ k : Nat, k ≤ ka ∧ i = .int .i64 k ∧ Below w.heap.size w wr ∧ Blk wr w.heap.size 3 (intsA (dgs (tpV a b k) n))
set_option maxHeartbeats 2000000 in
theorem times_any (a b ka kb : Nat) (ha : a < 65536 ^ ka) (hb : b < 65536 ^ kb) (hka : ka ≤ 64) (hkb : kb ≤ 64) (A B : Option Addr) (ca cb : Nat) (hca : ka ≤ ca) (hcb : kb ≤ cb) (w : World) (hA : Digs w A a ka) (hB : Digs w B b kb) :
    Calls Try.prog 26 #[.slice A ka ca, .slice B kb cb] w fun e w' => ∃ v, e = .returned v ∧ Ints w' w.heap.size v (dgs (a * b) (ka + kb)) ∧ Below w.heap.size w w' := by
  go_enter Try.func26, Try.ntmps26
  have wl : IntKind.i64.wrap ((ka : Int) + kb) = ((ka + kb : Nat) : Int) := by rw [IntWalk.i64_in _ (by omega)]; omega
  go_wp2_with (at_make; go_loud (refine wpList_make_blk _ rfl _ _ 35 rfl 3 (.int .i64 0) 8 Try.underlying35 info_int (ka + kb) (ka + kb) rfl rfl (by omega) (by omega) (by unfold maxLen; omega) ?_))
  go_wp2
  go_loopw [18] (fun i wr => TimesOut a b ka (ka + kb) w wr i) (fun i _ => ka - (intOf i).toNat)
  case atStart =>
    refine ⟨0, by omega, rfl, by go_grown, ?_⟩
    rw [show tpV a b 0 = 0 by rw [tpV_def]; unfold tpD; simp [Nat.mod_one], ← intsA_zeros]
    exact Blk.newAt (n := w.heap.size) _ _ _ rfl
  case round =>
    unfold TimesOut at hrel
    obtain ⟨i, hi, rfl, hbl, ho⟩ := hrel
    by_cases hlt : i < ka
    · have hdt : decide ((i : Int) < (ka : Int)) = true := by simp; omega
      go_wp2
      obtain ⟨wo, rfl⟩ : ∃ wo : World, wo = wr := ⟨_, rfl⟩
      go_loopw [23, 7] (fun j c wr => TimesIn a b i kb (ka + kb) w wr c j) (fun j _ _ => kb - (intOf j).toNat)
      case atStart => exact ⟨0, by omega, rfl, by rw [tcZ_zero], TimesSt.first hbl ho⟩
      case round =>
        unfold TimesIn at hrel
        obtain ⟨k, hk, rfl, rfl, hst⟩ := hrel
        by_cases hlk : k < kb
        · have hdk : decide ((k : Int) < (kb : Int)) = true := by simp; omega
          obtain ⟨ad, rfl, hxa⟩ := digs_at a ka i A _ (Kd.C_below hA hst.hb) hlt
          obtain ⟨bd, rfl, hxb⟩ := digs_at b kb k B _ (Kd.C_below hB hst.hb) hlk
          have hxo := hst.cell (by omega)
          have hfo := hst.ho.frozen (i + k)
          have w0 : IntKind.i64.wrap ((i : Int) + k) = (i : Int) + k := IntWalk.i64_in _ (by omega)
          have w1 : IntKind.i64.wrap (dg a i * dg b k) = dg a i * dg b k := IntWalk.i64_in _ (by have := dg_mul a b i k; omega)
          obtain ⟨m0, m1⟩ := dg_mul a b i k
          have t0 := tcZ_lo a b i k
          have t1 := tcZ_hi a b i k
          have d0 := dg_lo (tpV a b i) (i + k)
          have d1 := dg_hi (tpV a b i) (i + k)
          have w2 : IntKind.i64.wrap (dg (tpV a b i) (i + k) + dg a i * dg b k) = dg (tpV a b i) (i + k) + dg a i * dg b k := IntWalk.i64_in _ (by omega)
          have w3 : IntKind.i64.wrap (dg (tpV a b i) (i + k) + dg a i * dg b k + tcZ a b i k) = dg (tpV a b i) (i + k) + dg a i * dg b k + tcZ a b i k := IntWalk.i64_in _ (by omega)
          have w4 : 0 ≤ (i : Int) + k := by omega
          have w5 : (i : Int) + k < (ka : Int) + kb := by omega
          have w6 : ((i : Int) + k).toNat = i + k := by omega
          have w7 : (k : Int) < kb := by omega
          have w8 : (i : Int) < ka := by omega
          go_wp2
          go_region
          go_wp2
          case roundEnd =>
            refine ⟨⟨k + 1, by omega, by go_num, by rw [t_div], ?_⟩, by simp [intOf]; omega⟩
            rw [← Nat.add_assoc]
            exact (hst.put (by omega) _ (by rw [t_mod])).drewN 1
        · have hk4 : k = kb := by omega
          subst hk4
          have hxo := hst.cell (by omega)
          have hfo := hst.ho.frozen (i + k)
          have hz : dg (tpV a b i) (i + k) = 0 := by rw [dg_def, tpV_def, tp_far a b i (i + k) k hb (by omega)]; rfl
          rw [hz] at hxo
          have hz1 : tcZ a b i k = dg (tpV a b (i + 1)) (i + k) := by rw [tcZ_def, t_top a b i k hb, dg_def, tpV_def]
          have t0 := tcZ_lo a b i k
          have t1 := tcZ_hi a b i k
          have w0 : IntKind.i64.wrap ((i : Int) + k) = (i : Int) + k := IntWalk.i64_in _ (by omega)
          have w3 : IntKind.i64.wrap (tcZ a b i k) = tcZ a b i k := IntWalk.i64_in _ (by omega)
          have w4 : 0 ≤ (i : Int) + k := by omega
          have w5 : (i : Int) + k < (ka : Int) + k := by omega
          have w6 : ((i : Int) + k).toNat = i + k := by omega
          go_wp2
          go_roundw
          case rel =>
            exact ⟨i + 1, by omega, by go_num, (hst.put (by omega) _ rfl).hb, (hst.put (by omega) _ rfl).last hb⟩
          case measure => simp [intOf]; omega
    · have hi4 : i = ka := by omega
      subst hi4
      go_wp2
      go_ret
      refine ⟨_, rfl, ?_, hbl⟩
      have h1 : tpV a b i = a * b := by rw [tpV_def]; unfold tpD; rw [Nat.mod_eq_of_lt ha]
      rw [h1] at ho
      have h2 := ints_of_blk ho (Nat.le_refl _) (by rw [dgs_length]; unfold maxLen; omega)
      rw [dgs_length] at h2
      simpa using h2
end Go.Proofs.Ytcoljlanblngiaa
