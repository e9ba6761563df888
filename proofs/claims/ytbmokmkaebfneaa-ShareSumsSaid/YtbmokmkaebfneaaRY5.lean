/- Shares, in plain Lean: which lists are nodes', the weights. -/
import Derived.Test.YtbmokmkaebfneaaRY4
import Derived.Test.YtbmokmkaebfneaaFF
namespace Go.Proofs.Ytbmokmkaebfneaa
open RX
set_option linter.unusedVariables false
/-- Scalars all. -/
def AllS (l : List Nat) : Prop := ∀ k, k < l.length → l.getD k 0 < pN false
theorem allS_of {l : List Nat} (h : ∀ t, t ∈ l → t < pN false) : AllS l := fun k hk => all_at h (pN_pos false) k
theorem lst_same {l m : List Nat} (h : l.length = m.length) (hk : ∀ k, k < l.length → l.getD k 0 = m.getD k 0) : l = m := by
  apply List.ext_getElem h
  intro i h1 h2
  have := hk i h1
  rwa [List.getD_eq_getElem?_getD, List.getD_eq_getElem?_getD, List.getElem?_eq_getElem h1, List.getElem?_eq_getElem h2] at this
theorem allS_one {x : Nat} (h : x < pN false) : AllS [x] := fun k hk => by
  match k, hk with
  | 0, _ => exact h
theorem allS_not {x : Nat} (h : ¬ x < pN false) : ¬ AllS [x] := fun e => h (e 0 (by show 0 < 1; decide))
/-- Is n one of the first k? -/
def Seen (l : List Int) (k : Nat) (n : Int) : Prop := ∃ i, i < k ∧ l.getD i 0 = n
structure Good1 (l : List Int) (k : Nat) : Prop where
  lo : 1 ≤ l.getD k 0
  hi : l.getD k 0 ≤ 10
  un : ¬ Seen l k (l.getD k 0)
def Among (l : List Int) : Prop := 1 ≤ l.length ∧ ∀ k, k < l.length → Good1 l k
noncomputable def seenL (l : List Int) (k : Nat) : List Value := (List.range 11).map fun (j : Nat) => Value.bool (tr (Seen l k (j : Int)))
theorem seen_len (l : List Int) (k : Nat) : (seenL l k).length = 11 := by simp [seenL]
theorem seen_get (l : List Int) (k j : Nat) (h : j < 11) : (seenL l k)[j]? = some (.bool (tr (Seen l k (j : Int)))) := by
  unfold seenL; rw [List.getElem?_map, List.getElem?_range h]; rfl
theorem seen_0 (l : List Int) : seenL l 0 = [.bool false, .bool false, .bool false, .bool false, .bool false, .bool false, .bool false, .bool false, .bool false, .bool false, .bool false] := by
  have h : ∀ j : Nat, tr (Seen l 0 (j : Int)) = false := fun j => tr_f fun ⟨i, hi, _⟩ => by omega
  unfold seenL
  simp only [h]
  rfl
theorem seen_ld (l : List Int) (k : Nat) {n : Int} (h0 : 0 ≤ n) (h1 : n < 11) : ((seenL l k).drop (n.toNat * 1 + 0)).take 1 = [.bool (tr (Seen l k n))] := by
  apply List.ext_getElem?
  intro i
  match i with
  | 0 =>
    rw [List.getElem?_take_of_lt (by omega), List.getElem?_drop, show n.toNat * 1 + 0 + 0 = n.toNat by omega, seen_get l k _ (by omega), Int.toNat_of_nonneg h0]; rfl
  | i + 1 => rw [List.getElem?_eq_none (by rw [List.length_take]; omega), List.getElem?_eq_none (by simp)]
theorem seen_st (l : List Int) (k : Nat) (h0 : 0 ≤ l.getD k 0) (h1 : l.getD k 0 < 11) : (l.getD k 0).toNat * 1 + 0 + 1 ≤ (seenL l k).length ∧ seenL l (k + 1) = (seenL l k).take ((l.getD k 0).toNat * 1 + 0) ++ [.bool true] ++ (seenL l k).drop ((l.getD k 0).toNat * 1 + 0 + 1) := by
  refine ⟨by rw [seen_len]; omega, ?_⟩
  have hl : ((seenL l k).take ((l.getD k 0).toNat * 1 + 0)).length = (l.getD k 0).toNat := by rw [List.length_take, seen_len]; omega
  apply List.ext_getElem?
  intro i
  rcases Nat.lt_or_ge i 11 with hi | hi
  · rw [seen_get l (k + 1) i hi, List.append_assoc]
    rcases Nat.lt_trichotomy i (l.getD k 0).toNat with hlt | he | hgt
    · rw [List.getElem?_append_left (by rw [hl]; exact hlt), List.getElem?_take_of_lt (by omega), seen_get l k i hi]
      congr 3
      refine propext ⟨fun ⟨j, hj, e⟩ => ?_, fun ⟨j, hj, e⟩ => ⟨j, by omega, e⟩⟩
      rcases Nat.lt_succ_iff_lt_or_eq.1 hj with hj | rfl
      · exact ⟨j, hj, e⟩
      · omega
    · rw [List.getElem?_append_right (by rw [hl]; omega), hl, he, Nat.sub_self]
      have : tr (Seen l (k + 1) ((l.getD k 0).toNat : Int)) = true := tr_t ⟨k, by omega, by rw [Int.toNat_of_nonneg h0]⟩
      rw [this]; rfl
    · rw [List.getElem?_append_right (by rw [hl]; omega), hl, List.getElem?_append_right (by show 1 ≤ _; omega), List.getElem?_drop, show (l.getD k 0).toNat * 1 + 0 + 1 + (i - (l.getD k 0).toNat - [Value.bool true].length) = i from (by show (l.getD k 0).toNat * 1 + 0 + 1 + (i - (l.getD k 0).toNat - 1) = i; omega), seen_get l k i hi]
      congr 3
      refine propext ⟨fun ⟨j, hj, e⟩ => ?_, fun ⟨j, hj, e⟩ => ⟨j, by omega, e⟩⟩
      rcases Nat.lt_succ_iff_lt_or_eq.1 hj with hj | rfl
      · exact ⟨j, hj, e⟩
      · omega
  · rw [List.getElem?_eq_none (by rw [seen_len]; omega), List.getElem?_eq_none (by rw [List.length_append, List.length_append, hl, List.length_drop, seen_len]; show _ + 1 + _ ≤ i; omega)]
theorem seen_no {l : List Int} {k : Nat} {n : Int} (h : ¬ Seen l k n) : ∀ j, j < k → ¬ (l.getD j 0 = n) := fun j hj e => h ⟨j, hj, e⟩
theorem seen_of {l : List Int} {k : Nat} {n : Int} (h : ∀ j, j < k → ¬ (l.getD j 0 = n)) : ¬ Seen l k n := fun ⟨j, hj, e⟩ => h j hj e
/-- No two the same: at most ten. -/
theorem pigeon : ∀ (m : Nat) (f : Nat → Nat) (n : Nat), (∀ i, i < n → f i < m) → (∀ i j, i < j → j < n → f i ≠ f j) → n ≤ m := by
  intro m
  induction m with
  | zero =>
    intro f n h _
    rcases Nat.eq_zero_or_pos n with rfl | h0
    · exact Nat.le_refl _
    · exact absurd (h 0 h0) (by omega)
  | succ m ih =>
    intro f n h hd
    rcases Nat.eq_zero_or_pos n with rfl | h0
    · omega
    · obtain ⟨n, rfl⟩ : ∃ k, n = k + 1 := ⟨n - 1, by omega⟩
      have := ih (fun i => if f i < f n then f i else f i - 1) n (fun i hi => by
        have h1 := h i (by omega)
        have h2 := h n (by omega)
        have h3 := hd i n hi (by omega)
        split <;> omega) (fun i j hij hj => by
        have h1 := hd i j hij (by omega)
        have h2 := hd i n (by omega) (by omega)
        have h3 := hd j n (by omega) (by omega)
        split <;> split <;> omega)
      omega
theorem among_ten {l : List Int} (h : Among l) : l.length ≤ 10 := by
  refine pigeon 10 (fun i => (l.getD i 0).toNat - 1) l.length (fun i hi => ?_) (fun i j hij hj e => ?_)
  · have := h.2 i hi; have h1 := this.lo; have h2 := this.hi; omega
  · have h1 := h.2 i (by omega); have h2 := h.2 j hj
    have a1 := h1.lo; have a2 := h1.hi; have b1 := h2.lo; have b2 := h2.hi
    exact h2.un ⟨i, hij, by omega⟩
theorem toNat_pN {x : Int} (b : Bool) (h : x ≤ 10) : x.toNat < pN b := pN_big b (show x.toNat < 1000 by omega)
/-! ### Weights -/
noncomputable def inv (x : Nat) : Nat := fpwN false x (ieN false)
theorem inv_lt (x : Nat) : fpwN false x (ieN false) < pN false := fpwN_lt _ _ _
/-- The products above and below, over the first k. -/
noncomputable def upK (l : List Int) (n : Int) (x : Nat) : Nat → Nat
  | 0 => 1
  | k + 1 => open Classical in if l.getD k 0 = n then upK l n x k else fmlN false (upK l n x k) (fsbN false x (l.getD k 0).toNat)
noncomputable def dnK (l : List Int) (n : Int) : Nat → Nat
  | 0 => 1
  | k + 1 => open Classical in if l.getD k 0 = n then dnK l n k else fmlN false (dnK l n k) (fsbN false n.toNat (l.getD k 0).toNat)
/-- A weight, factor by factor. -/
noncomputable def wK (l : List Int) (n : Int) (x : Nat) : Nat → Nat
  | 0 => 1
  | k + 1 => open Classical in if l.getD k 0 = n then wK l n x k else fmlN false (wK l n x k) (fmlN false (fsbN false x (l.getD k 0).toNat) (fpwN false (fsbN false n.toNat (l.getD k 0).toNat) (ieN false)))
theorem upK_lt (l : List Int) (n : Int) (x k : Nat) : upK l n x k < pN false := by
  cases k with
  | zero => exact pN_one _
  | succ k =>
    unfold upK; split
    · exact upK_lt l n x k
    · exact fmlN_lt _ _ _
theorem dnK_lt (l : List Int) (n : Int) (k : Nat) : dnK l n k < pN false := by
  cases k with
  | zero => exact pN_one _
  | succ k =>
    unfold dnK; split
    · exact dnK_lt l n k
    · exact fmlN_lt _ _ _
theorem wK_lt (l : List Int) (n : Int) (x k : Nat) : wK l n x k < pN false := by
  cases k with
  | zero => exact pN_one _
  | succ k =>
    unfold wK; split
    · exact wK_lt l n x k
    · exact fmlN_lt _ _ _
theorem upK_same {l : List Int} {n : Int} {x k : Nat} (h : l.getD k 0 = n) : upK l n x k = upK l n x (k + 1) := by conv => rhs; unfold upK; rw [if_pos h]
theorem upK_other {l : List Int} {n : Int} {x k : Nat} (h : ¬ l.getD k 0 = n) : fmlN false (upK l n x k) (fsbN false x (l.getD k 0).toNat) = upK l n x (k + 1) := by conv => rhs; unfold upK; rw [if_neg h]
theorem dnK_same {l : List Int} {n : Int} {k : Nat} (h : l.getD k 0 = n) : dnK l n k = dnK l n (k + 1) := by conv => rhs; unfold dnK; rw [if_pos h]
theorem dnK_other {l : List Int} {n : Int} {k : Nat} (h : ¬ l.getD k 0 = n) : fmlN false (dnK l n k) (fsbN false n.toNat (l.getD k 0).toNat) = dnK l n (k + 1) := by conv => rhs; unfold dnK; rw [if_neg h]
theorem wK_same {l : List Int} {n : Int} {x k : Nat} (h : l.getD k 0 = n) : wK l n x k = wK l n x (k + 1) := by conv => rhs; unfold wK; rw [if_pos h]
theorem wK_other {l : List Int} {n : Int} {x k : Nat} (h : ¬ l.getD k 0 = n) : fmlN false (wK l n x k) (fmlN false (fsbN false x (l.getD k 0).toNat) (fpwN false (fsbN false n.toNat (l.getD k 0).toNat) (ieN false))) = wK l n x (k + 1) := by conv => rhs; unfold wK; rw [if_neg h]
theorem tf_small_ne {m n : Nat} (hm : m < 1000) (hn : n < 1000) (h : m ≠ n) : tf false m ≠ tf false n := fun e => h (tf_inj false (pN_big false hm) (pN_big false hn) e)
/-- What is below: another node's number less one's own is not 0. -/
theorem down_ne {m n : Int} (hm : 1 ≤ m ∧ m ≤ 10) (hn : 1 ≤ n ∧ n ≤ 10) (h : ¬ m = n) : fsbN false n.toNat m.toNat ≠ 0 := fun e => by
  have hp := toNat_pN (x := m) false hm.2
  have h0 := (tf_sub false n.toNat m.toNat hp).symm.trans ((congrArg (tf false) e).trans (tf_zero false))
  exact tf_small_ne (m := n.toNat) (n := m.toNat) (by omega) (by omega) (by omega) (by grobner)
theorem fml_ne {a b : Nat} (ha : a < pN false) (hb : b < pN false) (h0 : a ≠ 0) (h1 : b ≠ 0) : fmlN false a b ≠ 0 := fun e => by
  have h := (tf_mul false a b).symm.trans ((congrArg (tf false) e).trans (tf_zero false))
  rcases tf_dom false _ _ h with h | h
  · exact h0 (tf_inj false ha (pN_pos _) (h.trans (tf_zero false).symm))
  · exact h1 (tf_inj false hb (pN_pos _) (h.trans (tf_zero false).symm))
theorem in10 {l : List Int} {N : Nat} (h : ∀ k, k < N → Good1 l k) {k : Nat} (hk : k < N) : 1 ≤ l.getD k 0 ∧ l.getD k 0 ≤ 10 := ⟨(h k hk).lo, (h k hk).hi⟩
theorem dnK_ne {l : List Int} {n : Int} (hn : 1 ≤ n ∧ n ≤ 10) : ∀ k, (∀ j, j < k → 1 ≤ l.getD j 0 ∧ l.getD j 0 ≤ 10) → dnK l n k ≠ 0
  | 0, _ => by unfold dnK; decide
  | k + 1, h => by
    have ih := dnK_ne hn k (fun j hj => h j (by omega))
    unfold dnK; split
    · exact ih
    · rename_i hne
      exact fml_ne (dnK_lt _ _ _) (fsbN_lt _ _ _) ih (down_ne (h k (by omega)) hn hne)
theorem wK_mul {l : List Int} {n : Int} {x : Nat} (hn : 1 ≤ n ∧ n ≤ 10) : ∀ k, (∀ j, j < k → 1 ≤ l.getD j 0 ∧ l.getD j 0 ≤ 10) → tf false (wK l n x k) * tf false (dnK l n k) = tf false (upK l n x k)
  | 0, _ => by unfold wK dnK upK; rw [tf_one]; grobner
  | k + 1, h => by
    have ih := wK_mul (x := x) hn k (fun j hj => h j (by omega))
    unfold wK dnK upK
    by_cases he : l.getD k 0 = n
    · rw [if_pos he, if_pos he, if_pos he]; exact ih
    · rw [if_neg he, if_neg he, if_neg he]
      have hi := tf_inv false (fsbN false n.toNat (l.getD k 0).toNat) (fsbN_lt _ _ _) (down_ne (h k (by omega)) hn he)
      rw [tf_mul, tf_mul, tf_mul, tf_mul]
      generalize tf false (wK l n x k) = a at *
      generalize tf false (dnK l n k) = b at *
      generalize tf false (upK l n x k) = c at *
      generalize tf false (fsbN false n.toNat (l.getD k 0).toNat) = d at *
      generalize tf false (fpwN false (fsbN false n.toNat (l.getD k 0).toNat) (ieN false)) = e at *
      generalize tf false (fsbN false x (l.getD k 0).toNat) = f at *
      grobner
theorem wK_eq {l : List Int} {n : Int} {x k : Nat} (hn : 1 ≤ n ∧ n ≤ 10) (h : ∀ j, j < k → 1 ≤ l.getD j 0 ∧ l.getD j 0 ≤ 10) : fmlN false (upK l n x k) (fpwN false (dnK l n k) (ieN false)) = wK l n x k := by
  have h1 := wK_mul (x := x) hn k h
  have h2 := tf_inv false (dnK l n k) (dnK_lt _ _ _) (dnK_ne hn k h)
  apply tf_inj false (fmlN_lt _ _ _) (wK_lt _ _ _ _)
  rw [tf_mul]
  generalize tf false (wK l n x k) = a at *
  generalize tf false (dnK l n k) = b at *
  generalize tf false (upK l n x k) = c at *
  generalize tf false (fpwN false (dnK l n k) (ieN false)) = d at *
  grobner
/-- The weights of the first k. -/
noncomputable def wL (l : List Int) (x k : Nat) : List Nat := (List.range k).map fun i => wK l (l.getD i 0) x l.length
theorem wL_len (l : List Int) (x k : Nat) : (wL l x k).length = k := by simp [wL]
theorem wL_succ (l : List Int) (x k : Nat) : wL l x k ++ [wK l (l.getD k 0) x l.length] = wL l x (k + 1) := by unfold wL; rw [List.range_succ, List.map_append]; rfl
theorem wL_one (l : List Int) (x : Nat) : [wK l (l.getD 0 0) x l.length] = wL l x 1 := rfl
theorem wL_get (l : List Int) (x k i : Nat) (h : i < k) : (wL l x k).getD i 0 = wK l (l.getD i 0) x l.length := by
  rw [List.getD_eq_getElem?_getD]; unfold wL; rw [List.getElem?_map, List.getElem?_range h]; rfl
theorem wL_lt (l : List Int) (x k : Nat) : ∀ t, t ∈ wL l x k → t < pN false := by
  intro t ht
  unfold wL at ht
  obtain ⟨i, _, rfl⟩ := List.mem_map.1 ht
  exact wK_lt _ _ _ _
theorem wL_getD_lt (l : List Int) (x k i : Nat) : (wL l x k).getD i 0 < pN false := all_at (wL_lt l x k) (pN_pos false) i
/-- Is n one of them, and where? -/
def Has (l : List Int) (n : Int) : Prop := ∃ k, k < l.length ∧ l.getD k 0 = n
theorem has_no {l : List Int} {n : Int} (h : ∀ k, k < l.length → ¬ (l.getD k 0 = n)) : ¬ Has l n := fun ⟨k, hk, e⟩ => h k hk e
theorem no_has {l : List Int} {n : Int} (h : ¬ Has l n) : ∀ k, k < l.length → ¬ (l.getD k 0 = n) := fun k hk e => h ⟨k, hk, e⟩
noncomputable def ixOf (l : List Int) (n : Int) : Nat := firstOf (fun k => ¬ l.getD k 0 = n) l.length
theorem ixOf_lt {l : List Int} {n : Int} (h : Has l n) : ixOf l n < l.length := (firstOf_spec (P := fun k => ¬ l.getD k 0 = n) fun hh => by obtain ⟨k, hk, e⟩ := h; exact hh k hk e).1
theorem ixOf_is {l : List Int} {n : Int} (h : Has l n) : l.getD (ixOf l n) 0 = n := Classical.not_not.1 (firstOf_spec (P := fun k => ¬ l.getD k 0 = n) fun hh => by obtain ⟨k, hk, e⟩ := h; exact hh k hk e).2.1
theorem ixOf_eq {l : List Int} {n : Int} {v : Nat} (h1 : v < l.length) (h2 : l.getD v 0 = n) (h3 : ∀ k, k < v → ¬ (l.getD k 0 = n)) : v = ixOf l n := (firstOf_eq h1 (fun hh => hh h2) h3).symm
theorem wL_ix {l : List Int} {n : Int} {x : Nat} (h : Has l n) : (wL l x l.length).getD (ixOf l n) 0 = wK l n x l.length := by rw [wL_get _ _ _ _ (ixOf_lt h), ixOf_is h]
theorem wL_at {l : List Int} {n : Int} {x v : Nat} (hv : v < l.length) (hq : l.getD v 0 = n) : wK l n x l.length = (wL l x l.length).getD v 0 := by rw [wL_get _ _ _ _ hv, hq]
/-- A sum of products. -/
noncomputable def dot (a b : List Nat) : Nat → Nat
  | 0 => 0
  | k + 1 => fadN false (dot a b k) (fmlN false (a.getD k 0) (b.getD k 0))
theorem dot_lt (a b : List Nat) (k : Nat) : dot a b k < pN false := by
  cases k with
  | zero => exact pN_pos _
  | succ k => exact fadN_lt _ _ _
theorem wL_step {l : List Int} {x K : Nat} (h : ∀ k, k < l.length → Good1 l k) (hK : K < l.length) : wL l x K ++ [fmlN false (upK l (l.getD K 0) x l.length) (fpwN false (dnK l (l.getD K 0) l.length) (ieN false))] = wL l x (K + 1) := by
  rw [wK_eq (in10 h hK) (fun j hj => in10 h hj)]; exact wL_succ l x K
theorem wL_first {l : List Int} {x : Nat} (h : ∀ k, k < l.length → Good1 l k) (hK : 0 < l.length) : [fmlN false (upK l (l.getD 0 0) x l.length) (fpwN false (dnK l (l.getD 0 0) l.length) (ieN false))] = wL l x 1 := by
  rw [wK_eq (in10 h hK) (fun j hj => in10 h hj)]; rfl
end Go.Proofs.Ytbmokmkaebfneaa
