/- ShareSums: sums of polynomials, in plain Lean. -/
import Derived.Test.YtbmokmkaebfneaaRY7
import Derived.Test.YtbmokmkaebfneaaRYN
namespace Go.Proofs.Ytbmokmkaebfneaa
open Go.RowKit
open RX
set_option linter.unusedVariables false
abbrev noIn : In Nat := ⟨none, 0, []⟩
def OkIn (t : In Nat) : Prop := (∀ x, x ∈ t.l → x < RR) ∧ t.l.length < 9223372036854775808
theorem okIn_no : OkIn noIn := ⟨fun x hx => by simp at hx, by decide⟩
abbrev InSl := Sl (In Nat) inL 1 OkIn
abbrev Lies (L : List (In Nat)) : World → Prop := LieAll lbs 4 L
theorem lies_keep (L : List (In Nat)) : ∀ w w', Lies L w → Fr w w' (fun _ => False) → Lies L w' := fun _ _ h hf => LieAll.keep h hf
/-- The sums after t steps, column by column, row by row: n columns. -/
noncomputable def mixF (L : List (In Nat)) (n : Nat) : Nat → List Nat
  | 0 => List.replicate n 0
  | t + 1 => (mixF L n t).set (t % n) (fadN false ((mixF L n t).getD (t % n) 0) ((L.getD (t / n) noIn).l.getD (t % n) 0))
theorem mixF_len (L : List (In Nat)) (n : Nat) : ∀ t, (mixF L n t).length = n
  | 0 => by simp [mixF]
  | t + 1 => by rw [mixF, List.length_set, mixF_len L n t]
theorem mixF_lt (L : List (In Nat)) (n : Nat) : ∀ t x, x ∈ mixF L n t → x < pN false
  | 0, x, h => by rw [mixF] at h; rw [List.eq_of_mem_replicate h]; exact pN_pos false
  | t + 1, x, h => by
    rw [mixF] at h
    rcases List.mem_or_eq_of_mem_set h with h | h
    · exact mixF_lt L n t x h
    · rw [h]; exact fadN_lt _ _ _
theorem mixF_all (L : List (In Nat)) (n t : Nat) : AllS (mixF L n t) := fun k hk => by
  rw [List.getD_eq_getElem?_getD, List.getElem?_eq_getElem hk]; exact mixF_lt L n t _ (List.getElem_mem hk)
theorem mixF_RR (L : List (In Nat)) (n t : Nat) : ∀ x, x ∈ mixF L n t → x < RR := fun x hx => lt_RR (mixF_lt L n t x hx)
theorem mixF_getD_lt (L : List (In Nat)) (n t j : Nat) : (mixF L n t).getD j 0 < pN false := by
  by_cases h : j < (mixF L n t).length
  · exact mixF_all L n t j h
  · rw [List.getD_eq_getElem?_getD, List.getElem?_eq_none (by omega)]; exact pN_pos false
theorem mixF_step (L : List (In Nat)) (n k j : Nat) (hj : j < n) : mixF L n (n * k + (j + 1)) = (mixF L n (n * k + j)).set j (fadN false ((mixF L n (n * k + j)).getD j 0) ((L.getD k noIn).l.getD j 0)) := by
  show (mixF L n (n * k + j)).set ((n * k + j) % n) (fadN false ((mixF L n (n * k + j)).getD ((n * k + j) % n) 0) ((L.getD ((n * k + j) / n) noIn).l.getD ((n * k + j) % n) 0)) = _
  rw [Nat.mul_add_mod, Nat.mod_eq_of_lt hj, Nat.mul_add_div (by omega), Nat.div_eq_of_lt hj, Nat.add_zero]
theorem getD_set (l : List Nat) (i j x : Nat) (hi : i < l.length) : (l.set i x).getD j 0 = if i = j then x else l.getD j 0 := by
  rw [List.getD_eq_getElem?_getD, List.getElem?_set]
  split
  · rename_i h; subst h; first | rfl | (rw [if_pos hi]; rfl)
  · rw [List.getD_eq_getElem?_getD]
theorem mixF_in (L : List (In Nat)) (n k : Nat) : ∀ i, i ≤ n → ∀ j, j < n → (mixF L n (n * k + i)).getD j 0 = if j < i then fadN false ((mixF L n (n * k)).getD j 0) ((L.getD k noIn).l.getD j 0) else (mixF L n (n * k)).getD j 0
  | 0, _, j, hj => by rw [if_neg (by omega)]; rfl
  | i + 1, hi, j, hj => by
    rw [mixF_step L n k i (by omega), getD_set _ _ _ _ (by rw [mixF_len]; omega)]
    by_cases e : i = j
    · subst e
      rw [if_pos rfl, if_pos (by omega), mixF_in L n k i (by omega) i hj, if_neg (by omega)]
    · rw [if_neg e, mixF_in L n k i (by omega) j hj]
      by_cases h : j < i
      · rw [if_pos h, if_pos (by omega)]
      · rw [if_neg h, if_neg (by omega)]
theorem mixF_next (L : List (In Nat)) (n k j : Nat) (hj : j < n) : (mixF L n (n * (k + 1))).getD j 0 = fadN false ((mixF L n (n * k)).getD j 0) ((L.getD k noIn).l.getD j 0) := by
  have := mixF_in L n k n (Nat.le_refl n) j hj
  rw [if_pos hj] at this
  rw [Nat.mul_succ]; exact this
/-- The sum of the first m lists' values at x. -/
noncomputable def sumE (L : List (In Nat)) (x n : Nat) : Nat → Nat
  | 0 => 0
  | m + 1 => fadN false (sumE L x n m) (evK (L.getD m noIn).l x n)
theorem sumE_lt (L : List (In Nat)) (x n : Nat) : ∀ m, sumE L x n m < pN false
  | 0 => pN_pos false
  | m + 1 => fadN_lt _ _ _
theorem evK_add {a b c : List Nat} (x n : Nat) (h : ∀ j, j < n → a.getD j 0 = fadN false (b.getD j 0) (c.getD j 0)) : ∀ k, k ≤ n → tf false (evK a x k) = tf false (evK b x k) + tf false (evK c x k)
  | 0, _ => by simp only [evK, tf_zero]; grobner
  | k + 1, hk => by
    have ih := evK_add x n h k (by omega)
    simp only [evK, tf_add, tf_mul, h k (by omega)]
    rw [ih]
    grobner
theorem evK_zero {a : List Nat} (x n : Nat) (h : ∀ j, j < n → a.getD j 0 = 0) : ∀ k, k ≤ n → tf false (evK a x k) = 0
  | 0, _ => by simp only [evK, tf_zero]
  | k + 1, hk => by
    have ih := evK_zero x n h k (by omega)
    simp only [evK, tf_add, tf_mul, h k (by omega), tf_zero]
    rw [ih]
    grobner
theorem whole_eq (L : List (In Nat)) (x n : Nat) : ∀ m, evK (mixF L n (n * m)) x n = sumE L x n m
  | 0 => tf_inj false (evK_lt _ _ _) (pN_pos false) (by
    show tf false (evK (mixF L n (n * 0)) x n) = tf false 0
    rw [tf_zero]
    refine evK_zero x n (fun j hj => ?_) n (Nat.le_refl n)
    rw [Nat.mul_zero, mixF, List.getD_eq_getElem?_getD, List.getElem?_replicate]; simp [hj])
  | m + 1 => tf_inj false (evK_lt _ _ _) (sumE_lt _ _ _ _) (by
    show tf false (evK (mixF L n (n * (m + 1))) x n) = tf false (fadN false (sumE L x n m) (evK (L.getD m noIn).l x n))
    rw [evK_add x n (mixF_next L n m) n (Nat.le_refl n), whole_eq L x n m, tf_add])
theorem zeros_num (L : List (In Nat)) (n : Nat) {z : List Value} (hz : z = lbs 0) : spare z (n * 4) = (mixF L n 0).flatMap lbs := by
  subst hz
  have : ∀ n, spare (lbs 0) (n * 4) = (List.replicate n 0).flatMap lbs := fun n => by
    induction n with
    | zero => rfl
    | succ n ih =>
      rw [List.replicate_succ', List.flatMap_append, ← ih]
      unfold spare
      rw [show (n + 1) * 4 = n * 4 + 4 by omega]
      rw [List.range_add, List.map_append]
      congr 1
      simp only [List.flatMap_cons, List.flatMap_nil, List.append_nil, List.map_map]
      have h4 : (lbs 0).length = 4 := rfl
      have : List.range 4 = [0, 1, 2, 3] := rfl
      rw [this]
      simp only [List.map_cons, List.map_nil, Function.comp, h4]
      rw [show (n * 4 + 0) % 4 = 0 by omega, show (n * 4 + 1) % 4 = 1 by omega, show (n * 4 + 2) % 4 = 2 by omega, show (n * 4 + 3) % 4 = 3 by omega]
      rfl
  exact this n
/-- A sum stored in its column. -/
theorem mixF_st {L : List (In Nat)} {n k j : Nat} {x : Nat} (hj : j < n) (hx : x = fadN false ((mixF L n (n * k + j)).getD j 0) ((L.getD k noIn).l.getD j 0)) : 0 + j * 4 + 0 + 4 ≤ ((mixF L n (n * k + j)).flatMap lbs).length ∧ (mixF L n (n * k + (j + 1))).flatMap lbs = ((mixF L n (n * k + j)).flatMap lbs).take (0 + j * 4 + 0) ++ lbs x ++ ((mixF L n (n * k + j)).flatMap lbs).drop (0 + j * 4 + 0 + 4) := by
  rw [Nat.zero_add]
  refine ⟨by rw [flat_len lbs_len, mixF_len]; omega, ?_⟩
  rw [mixF_step L n k j hj, ← hx, Nat.add_zero, List.append_assoc, set_flat lbs_len _ _ _ (by rw [mixF_len]; exact hj)]
end Go.Proofs.Ytbmokmkaebfneaa
