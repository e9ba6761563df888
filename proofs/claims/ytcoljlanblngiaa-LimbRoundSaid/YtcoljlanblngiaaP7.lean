/- The document's answer for layer 1: which of two lists of digits is less. -/
import Derived.Test.YtcoljlanblngiaaP
namespace Go.Proofs.Ytcoljlanblngiaa
set_option linter.unusedVariables false
set_option linter.unusedSimpArgs false
open Go.RowKit Go.Proofs.YtcoljlanblngiaaW.PrintWords

theorem div_digit (n i : Nat) : n / 65536 ^ i = 65536 * (n / 65536 ^ (i + 1)) + dgD n i := by
  unfold dgD
  rw [Nat.pow_succ, ← Nat.div_div_eq_div_mul]
  omega
theorem lt_of_div {a b c : Nat} (h : a / c < b / c) : a < b := by
  rcases Nat.lt_or_ge a b with h1 | h1
  · exact h1
  · have := Nat.div_le_div_right (c := c) h1
    omega
theorem cmp_less (a b i : Nat) (h : a / 65536 ^ (i + 1) = b / 65536 ^ (i + 1)) (hd : dg a i < dg b i) : cmpN a b = -1 := by
  rw [dg_def, dg_def] at hd
  have h1 := div_digit a i
  have h2 := div_digit b i
  rw [cmpN_def, if_pos (lt_of_div (c := 65536 ^ i) (by omega))]
theorem cmp_more (a b i : Nat) (h : a / 65536 ^ (i + 1) = b / 65536 ^ (i + 1)) (hd : dg b i < dg a i) : cmpN a b = 1 := by
  rw [dg_def, dg_def] at hd
  have h1 := div_digit a i
  have h2 := div_digit b i
  have h3 : b < a := lt_of_div (c := 65536 ^ i) (by omega)
  rw [cmpN_def, if_neg (by omega), if_pos h3]
theorem cmp_next (a b i : Nat) (h : a / 65536 ^ (i + 1) = b / 65536 ^ (i + 1)) (h1 : ¬ dg a i < dg b i) (h2 : ¬ dg b i < dg a i) : a / 65536 ^ i = b / 65536 ^ i := by
  rw [dg_def, dg_def] at h1 h2
  have e1 := div_digit a i
  have e2 := div_digit b i
  omega
theorem cmp_same (a b : Nat) (h : a / 65536 ^ 0 = b / 65536 ^ 0) : cmpN a b = 0 := by
  rw [Nat.pow_zero, Nat.div_one, Nat.div_one] at h
  rw [cmpN_def, if_neg (by omega), if_neg (by omega)]
theorem cmp_start (a b k ka kb : Nat) (ha : a < 65536 ^ ka) (hb : b < 65536 ^ kb) (h1 : ka ≤ k) (h2 : kb ≤ k) : a / 65536 ^ k = b / 65536 ^ k := by
  rw [Nat.div_eq_of_lt (Nat.lt_of_lt_of_le ha (Nat.pow_le_pow_right (by omega) h1)), Nat.div_eq_of_lt (Nat.lt_of_lt_of_le hb (Nat.pow_le_pow_right (by omega) h2))]
def CmpRel (a b k : Nat) (w : World) (s : Value) (wr : World) : Prop := ∃ i : Nat, s = .int .i64 ((i : Int) - 1) ∧ i ≤ k ∧ a / 65536 ^ i = b / 65536 ^ i ∧ wr = w
set_option maxHeartbeats 2000000 in
theorem compare_any (a b ka kb : Nat) (ha : a < 65536 ^ ka) (hb : b < 65536 ^ kb) (hka : ka ≤ 100) (hkb : kb ≤ 100) (A B : Option Addr) (ca cb : Nat) (hca : ka ≤ ca) (hcb : kb ≤ cb) (w : World) (hA : Digs w A a ka) (hB : Digs w B b kb) :
    Calls Try.prog 29 #[.slice A ka ca, .slice B kb cb] w fun e w' => e = .returned (.int .i64 (cmpN a b)) ∧ w' = w := by
  obtain ⟨k, hk, hk1, hk2, hk3⟩ : ∃ k : Nat, k ≤ 100 ∧ ka ≤ k ∧ kb ≤ k ∧ (((ka : Int) < kb ∧ k = kb) ∨ (¬ (ka : Int) < kb ∧ k = ka)) := by
    by_cases h : ka < kb
    · exact ⟨kb, hkb, by omega, by omega, .inl ⟨by omega, rfl⟩⟩
    · exact ⟨ka, hka, by omega, by omega, .inr ⟨by omega, rfl⟩⟩
  have hs := Lib.hid (cmp_start a b k ka kb ha hb hk1 hk2)
  go_enter Try.func29, Try.ntmps29
  rcases hk3 with ⟨h, hkk⟩ | ⟨h, hkk⟩
  all_goals
    go_wp2_with fail
    go_loopw [6] (fun s wr => CmpRel a b k w s wr) (fun s _ => (intOf s + 1).toNat)
    case atStart => exact ⟨k, by rw [hkk], Nat.le_refl _, hs.out, rfl⟩
    case round =>
      unfold CmpRel at hrel
      obtain ⟨i1, rfl, hi, he, rfl⟩ := hrel
      by_cases hlt : 0 < i1
      · obtain ⟨i, rfl⟩ : ∃ i, i1 = i + 1 := ⟨i1 - 1, by omega⟩
        have hz : (((i + 1 : Nat) : Int) - 1) = (i : Int) := by omega
        rw [hz]
        have hdt : decide (0 ≤ (i : Int)) = true := by simp
        have hh := Lib.hid he
        clear he
        by_cases h1 : dg a i < dg b i
        · have hr := cmp_less a b i hh.out h1
          go_wp2_with fail
          (with_reducible refine (digit_any a ka ha A ca hca i _ hA).mono ?_)
          rintro e w1 ⟨rfl, rfl⟩
          go_wp2_with fail
          (with_reducible refine (digit_any b kb hb B cb hcb i _ hB).mono ?_)
          rintro e w1 ⟨rfl, rfl⟩
          go_wp2_with fail
          go_ret
          exact ⟨by rw [hr]; rfl, rfl⟩
        · by_cases h2 : dg b i < dg a i
          · have hr := cmp_more a b i hh.out h2
            go_wp2_with fail
            (with_reducible refine (digit_any a ka ha A ca hca i _ hA).mono ?_)
            rintro e w1 ⟨rfl, rfl⟩
            go_wp2_with fail
            (with_reducible refine (digit_any b kb hb B cb hcb i _ hB).mono ?_)
            rintro e w1 ⟨rfl, rfl⟩
            go_wp2_with fail
            (with_reducible refine (digit_any a ka ha A ca hca i _ hA).mono ?_)
            rintro e w1 ⟨rfl, rfl⟩
            go_wp2_with fail
            (with_reducible refine (digit_any b kb hb B cb hcb i _ hB).mono ?_)
            rintro e w1 ⟨rfl, rfl⟩
            go_wp2_with fail
            go_ret
            exact ⟨by rw [hr]; rfl, rfl⟩
          · have hr := Lib.hid (cmp_next a b i hh.out h1 h2)
            go_wp2_with fail
            (with_reducible refine (digit_any a ka ha A ca hca i _ hA).mono ?_)
            rintro e w1 ⟨rfl, rfl⟩
            go_wp2_with fail
            (with_reducible refine (digit_any b kb hb B cb hcb i _ hB).mono ?_)
            rintro e w1 ⟨rfl, rfl⟩
            go_wp2_with fail
            (with_reducible refine (digit_any a ka ha A ca hca i _ hA).mono ?_)
            rintro e w1 ⟨rfl, rfl⟩
            go_wp2_with fail
            (with_reducible refine (digit_any b kb hb B cb hcb i _ hB).mono ?_)
            rintro e w1 ⟨rfl, rfl⟩
            go_wp2_with fail
            go_roundw
            case rel => exact ⟨i, rfl, by omega, hr.out, rfl⟩
            case measure => simp [intOf]
      · have h0 : i1 = 0 := by omega
        subst h0
        have hr := cmp_same a b he
        go_wp2_with fail
        go_ret
        exact ⟨by rw [hr]; rfl, rfl⟩
end Go.Proofs.Ytcoljlanblngiaa
