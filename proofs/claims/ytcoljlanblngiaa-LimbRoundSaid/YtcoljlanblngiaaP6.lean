/- The document's answer for layer 1: sums and differences of digits, of the printed functions. -/
import Derived.Test.YtcoljlanblngiaaP
import Derived.Test.YtcoljlanblngiaaL
namespace Go.Proofs.Ytcoljlanblngiaa
set_option linter.unusedVariables false
set_option linter.unusedSimpArgs false
open Go.RowKit Go.Proofs.YtcoljlanblngiaaW.PrintWords
open QLimbMonts

theorem digit_f (n k i : Nat) (hn : n < 65536 ^ k) : wardmoteref01_digit.f (dgs n k) (i : Int) = some ((dgD n i : Nat) : Int) := by
  unfold wardmoteref01_digit.f
  rw [dgs_length]
  by_cases h : i < k
  · rw [if_pos (by omega), if_pos (by omega), rd_dgs n k i h, dg_def]
  · rw [if_neg (by omega)]
    have := dg_high n k i hn (by omega)
    rw [dg_def] at this
    rw [this]
theorem sum_word (x y c : Nat) (hx : x < 65536) (hy : y < 65536) (hc : c ≤ 1) :
    Int.tmod (wrap64 ((wrap64 ((x : Int) + y)) + c)) 65536 = ((x + y + c) % 65536 : Nat) ∧ wrap64 (Int.tdiv (wrap64 ((wrap64 ((x : Int) + y)) + c)) 65536) = ((x + y + c) / 65536 : Nat) := by
  have e : wrap64 ((wrap64 ((x : Int) + y)) + c) = ((x + y + c : Nat) : Int) := by unfold wrap64; omega
  rw [e, Int.tmod_eq_emod_of_nonneg (by omega), Int.tdiv_eq_ediv_of_nonneg (by omega)]
  refine ⟨by omega, ?_⟩
  unfold wrap64
  omega
theorem plus_rounds (a b ka kb : Nat) (ha : a < 65536 ^ ka) (hb : b < 65536 ^ kb) (hka : ka ≤ 100) (hkb : kb ≤ 100) :
    ∀ d i, i + d = plen a b (max ka kb) → wardmoteref01_Plus.l0 (2 * d + 2) (dgs a ka) (dgs b kb) (dgs (a + b) i) ((caD a b i : Nat) : Int) (i : Int) = some (dgs (a + b) (plen a b (max ka kb))) := by
  have hA : a < 65536 ^ max ka kb := Nat.lt_of_lt_of_le ha (Nat.pow_le_pow_right (by omega) (by omega))
  have hB : b < 65536 ^ max ka kb := Nat.lt_of_lt_of_le hb (Nat.pow_le_pow_right (by omega) (by omega))
  have hend : caD a b (plen a b (max ka kb)) = 0 := by
    unfold plen
    split
    · rename_i h; rw [caD_end a b _ hA hB, if_pos h]
    · exact caD_past a b _ hA hB
  have hn1 := plen_ge a b (max ka kb)
  have hn2 := plen_le a b (max ka kb)
  intro d
  induction d with
  | zero =>
    intro i hi
    obtain rfl : i = plen a b (max ka kb) := by omega
    rw [hend]
    unfold wardmoteref01_Plus.l0
    rw [dgs_length, dgs_length, if_neg (by omega), if_neg (by omega)]
    unfold wardmoteref01_Plus.j1
    simp
  | succ d ih =>
    intro i hi
    have hg : wardmoteref01_Plus.l0 (2 * (d + 1) + 2) (dgs a ka) (dgs b kb) (dgs (a + b) i) ((caD a b i : Nat) : Int) (i : Int) = wardmoteref01_Plus.j1 (2 * d + 2 + 1) (dgs a ka) (dgs b kb) (dgs (a + b) i) ((caD a b i : Nat) : Int) (i : Int) true := by
      rw [show 2 * (d + 1) + 2 = (2 * d + 2 + 1) + 1 by omega]
      conv => lhs; unfold wardmoteref01_Plus.l0
      rw [dgs_length, dgs_length]
      by_cases h1 : i < ka
      · rw [if_pos (by omega)]
      · rw [if_neg (by omega)]
        by_cases h2 : i < kb
        · rw [if_pos (by omega)]
        · rw [if_neg (by omega)]
          have him : i = max ka kb := by omega
          have hc : caD a b i = 1 := by
            have hp : ¬ a + b < 65536 ^ max ka kb := fun h => by
              have : plen a b (max ka kb) = max ka kb := by unfold plen; rw [if_pos h]
              omega
            rw [him, caD_end a b _ hA hB, if_neg hp]
          rw [hc, show decide ((((1 : Nat) : Int)) > 0) = true from rfl]
    rw [hg]
    unfold wardmoteref01_Plus.j1
    rw [if_pos rfl, digit_f a ka i ha, digit_f b kb i hb]
    obtain ⟨s1, s2⟩ := sum_word (dgD a i) (dgD b i) (caD a b i) (dgD_lt a i) (dgD_lt b i) (caD_le a b i)
    simp only [Option.bind_some]
    rw [dgs_length, if_pos (by omega), s1, s2, ← caD_succ, ← add_digit]
    have e : dgs (a + b) i ++ [((dgD (a + b) i : Nat) : Int)] = dgs (a + b) (i + 1) := by rw [dgs_succ, dg_def]
    have e2 : wrap64 ((i : Int) + 1) = ((i + 1 : Nat) : Int) := by unfold wrap64; omega
    rw [e, e2]
    exact ih (i + 1) (by omega)
theorem dplus_any (a b ka kb : Nat) (ha : a < 65536 ^ ka) (hb : b < 65536 ^ kb) (hka : ka ≤ 100) (hkb : kb ≤ 100) (A B : Option Addr) (ca cb : Nat) (hca : ka ≤ ca) (hcb : kb ≤ cb) (w : World) (hA : Digs w A a ka) (hB : Digs w B b kb) :
    Calls Try.prog 20 #[.slice A ka ca, .slice B kb cb] w fun e w' => ∃ v, e = .returned v ∧ Ints w' w.heap.size v (dgs (a + b) (plen a b (max ka kb))) ∧ Below w.heap.size w w' := by
  have h := plus_rounds a b ka kb ha hb hka hkb (plen a b (max ka kb)) 0 (by omega)
  rw [caD_zero, show (((0 : Nat) : Int)) = 0 from rfl, show dgs (a + b) 0 = [] from rfl] at h
  have hA' : Kd.C (Kd.int .i64) w A (dgs a ka).length (dgs a ka) := by rw [dgs_length]; exact hA
  have hB' : Kd.C (Kd.int .i64) w B (dgs b kb).length (dgs b kb) := by rw [dgs_length]; exact hB
  have := wardmoteref01_Plus.calls _ A ca (dgs a ka) B cb (dgs b kb) _ w hA' (by rw [dgs_length]; exact hca) hB' (by rw [dgs_length]; exact hcb) h
  rw [dgs_length, dgs_length] at this
  exact this
/-! ### Differences -/
theorem minus_word (x y c : Nat) (hx : x < 65536) (hy : y < 65536) (hc : c ≤ 1) : wrap64 ((wrap64 ((x : Int) - y)) - c) = (x : Int) - y - c ∧ wrap64 ((wrap64 ((wrap64 ((x : Int) - y)) - c)) + 65536) = (x : Int) - y - c + 65536 := by
  unfold wrap64; omega
set_option maxHeartbeats 1000000 in
theorem minus_rounds (a b ka kb : Nat) (hb : b < 65536 ^ kb) (hba : b ≤ a) (hka : ka ≤ 100) :
    ∀ d i, i + d = ka → wardmoteref01_Minus.l0 (d + 1) (dgs a ka) (dgs b kb) (dgs (a - b) i) ((boD a b i : Nat) : Int) (ka : Int) (i : Int) = some (dgs (a - b) ka) := by
  intro d
  induction d with
  | zero =>
    intro i hi
    obtain rfl : i = ka := by omega
    unfold wardmoteref01_Minus.l0
    rw [if_neg (by omega)]
  | succ d ih =>
    intro i hi
    have h1 : i < 17592186044416 := Nat.lt_of_lt_of_le (by omega : i < 101) (by decide)
    have e2 : wrap64 ((i : Int) + 1) = ((i + 1 : Nat) : Int) := by unfold wrap64; omega
    have this := ih (i + 1) (by omega)
    unfold wardmoteref01_Minus.l0
    rw [dgs_length, if_pos (by omega), if_pos (by omega), if_pos (by omega), rd_dgs a ka i (by omega), dg_def, digit_f b kb i hb]
    simp only [Option.bind_some]
    obtain ⟨s1, s2⟩ := minus_word (dgD a i) (dgD b i) (boD a b i) (dgD_lt a i) (dgD_lt b i) (boD_le a b i)
    have hd := sub_digit a b i hba
    have hs := boD_succ a b i
    have hl := boD_le a b i
    have e : dgs (a - b) i ++ [((dgD (a - b) i : Nat) : Int)] = dgs (a - b) (i + 1) := by rw [dgs_succ, dg_def]
    rw [s2, s1, e2, dgs_length]
    by_cases hc : dgD a i < dgD b i + boD a b i
    · rw [if_pos hc] at hd hs
      have h0 : (dgD a i : Int) - dgD b i - boD a b i < 0 := by omega
      rw [if_pos h0, if_pos h1, ← hd, e]
      rw [hs, show (((1 : Nat) : Int)) = 1 from rfl] at this
      exact this
    · rw [if_neg hc, Int.add_zero] at hd
      rw [if_neg hc] at hs
      have h0 : ¬ (dgD a i : Int) - dgD b i - boD a b i < 0 := by omega
      rw [if_neg h0, if_pos h1, ← hd, e]
      rw [hs, show (((0 : Nat) : Int)) = 0 from rfl] at this
      exact this
theorem dminus_any (a b ka kb : Nat) (hb : b < 65536 ^ kb) (hba : b ≤ a) (hka : ka ≤ 100) (A B : Option Addr) (ca cb : Nat) (hca : ka ≤ ca) (hcb : kb ≤ cb) (w : World) (hA : Digs w A a ka) (hB : Digs w B b kb) :
    Calls Try.prog 45 #[.slice A ka ca, .slice B kb cb] w fun e w' => ∃ v, e = .returned v ∧ Ints w' w.heap.size v (dgs (a - b) ka) ∧ Below w.heap.size w w' := by
  have h := minus_rounds a b ka kb hb hba hka ka 0 (by omega)
  rw [boD_zero, show (((0 : Nat) : Int)) = 0 from rfl, show dgs (a - b) 0 = [] from rfl] at h
  have hA' : Kd.C (Kd.int .i64) w A (dgs a ka).length (dgs a ka) := by rw [dgs_length]; exact hA
  have hB' : Kd.C (Kd.int .i64) w B (dgs b kb).length (dgs b kb) := by rw [dgs_length]; exact hB
  have h2 : wardmoteref01_Minus.f (ka + 1) (dgs a ka) (dgs b kb) = some (dgs (a - b) ka) := by
    unfold wardmoteref01_Minus.f; rw [dgs_length]; exact h
  have := wardmoteref01_Minus.calls _ A ca (dgs a ka) B cb (dgs b kb) _ w hA' (by rw [dgs_length]; exact hca) hB' (by rw [dgs_length]; exact hcb) h2
  rw [dgs_length, dgs_length] at this
  exact this
end Go.Proofs.Ytcoljlanblngiaa
