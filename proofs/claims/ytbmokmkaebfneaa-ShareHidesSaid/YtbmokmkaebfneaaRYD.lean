/- Shares, in plain Lean: the first ten, reduced; values at nodes; the value at any point told by the values at nodes. -/
import Derived.Test.YtbmokmkaebfneaaRYB
namespace Go.Proofs.Ytbmokmkaebfneaa
open RX
set_option linter.unusedVariables false
/-- The first k of the first ten, reduced. -/
noncomputable def rgL (l : List Nat) (k : Nat) : List Nat := ((l.take 10).take k).map (frdN false)
theorem rgL_len (l : List Nat) (k : Nat) : (rgL l k).length = min k (min 10 l.length) := by simp [rgL]
theorem rgL_one {l : List Nat} (h : 0 < l.length) : [frdN false (l.getD 0 0)] = rgL l 1 := by
  cases l with
  | nil => simp at h
  | cons a l => simp [rgL]
theorem rgL_succ {l : List Nat} {k : Nat} (h : k < l.length) (h10 : k < 10) : rgL l k ++ [frdN false (l.getD k 0)] = rgL l (k + 1) := by
  unfold rgL
  have hk : k < (l.take 10).length := by rw [List.length_take]; omega
  have e : l.getD k 0 = (l.take 10)[k] := by rw [List.getElem_take, List.getD_eq_getElem?_getD, List.getElem?_eq_getElem h]; rfl
  generalize l.take 10 = m at hk e ⊢
  rw [e, ← List.map_singleton, ← List.map_append, List.take_append_getElem hk]
theorem rgL_same {l : List Nat} {k : Nat} (h10 : ¬ k < 10) : rgL l (k + 1) = rgL l k := by
  unfold rgL
  have h : (l.take 10).length ≤ k := by rw [List.length_take]; omega
  generalize l.take 10 = m at h ⊢
  rw [List.take_of_length_le h, List.take_of_length_le (by omega)]
theorem rgL_le (l : List Nat) (k : Nat) : (rgL l k).length ≤ 10 := by rw [rgL_len]; omega
theorem rgL_pos {l : List Nat} (h : 0 < l.length) : 1 ≤ (rgL l l.length).length := by rw [rgL_len]; omega
theorem rgL_len1 {l : List Nat} (h : 0 < l.length) : 1 = (rgL l 1).length := by rw [rgL_len]; omega
theorem rgL_lens {l : List Nat} {k : Nat} (h : k < l.length) (h10 : k < 10) : (rgL l (k + 1)).length = (rgL l k).length + 1 := by rw [rgL_len, rgL_len]; omega
theorem rgL_lt (l : List Nat) (k : Nat) : ∀ t, t ∈ rgL l k → t < pN false := by
  intro t ht
  unfold rgL at ht
  obtain ⟨x, _, rfl⟩ := List.mem_map.1 ht
  exact frdN_lt _ _
theorem rgL_all (l : List Nat) (k : Nat) : AllS (rgL l k) := allS_of (rgL_lt l k)
/-- The values at the first k nodes. -/
noncomputable def evL (p : List Nat) (c : List Int) (k : Nat) : List Nat := (List.range k).map fun i => evK p (c.getD i 0).toNat p.length
theorem evL_len (p : List Nat) (c : List Int) (k : Nat) : (evL p c k).length = k := by simp [evL]
theorem evL_one (p : List Nat) (c : List Int) : [evK p (c.getD 0 0).toNat p.length] = evL p c 1 := rfl
theorem evL_succ (p : List Nat) (c : List Int) (k : Nat) : evL p c k ++ [evK p (c.getD k 0).toNat p.length] = evL p c (k + 1) := by unfold evL; rw [List.range_succ, List.map_append]; rfl
theorem evL_get (p : List Nat) (c : List Int) (k i : Nat) (h : i < k) : (evL p c k).getD i 0 = evK p (c.getD i 0).toNat p.length := by
  rw [List.getD_eq_getElem?_getD]; unfold evL; rw [List.getElem?_map, List.getElem?_range h]; rfl
theorem evL_lt (p : List Nat) (c : List Int) (k : Nat) : ∀ t, t ∈ evL p c k → t < pN false := by
  intro t ht
  unfold evL at ht
  obtain ⟨i, _, rfl⟩ := List.mem_map.1 ht
  exact evK_lt _ _ _
theorem evL_all (p : List Nat) (c : List Int) (k : Nat) : AllS (evL p c k) := allS_of (evL_lt p c k)
/-- The sum of weights times values. -/
theorem dot_SW {l : List Int} (h : Among l) (x : Nat) (L : List Nat) : ∀ k, k ≤ l.length → tf false (dot (wL l x l.length) L k) = SW l (fun i => tf false (L.getD i 0)) l.length k (tf false x)
  | 0, _ => tf_zero false
  | k + 1, hk => by
    show tf false (fadN false (dot (wL l x l.length) L k) (fmlN false ((wL l x l.length).getD k 0) (L.getD k 0))) = SW l _ l.length k _ + _ * _
    rw [tf_add, tf_mul, dot_SW h x L k (by omega), wL_get _ _ _ _ (by omega), wK_WF (in10' h (by omega)) _ (fun j hj => in10' h hj)]
theorem SW_congr {l : List Int} {y z : Nat → FQ} {N : Nat} {X : FQ} : ∀ k, (∀ i, i < k → y i = z i) → SW l y N k X = SW l z N k X
  | 0, _ => rfl
  | k + 1, h => by
    show SW l y N k X + _ * y k = SW l z N k X + _ * z k
    rw [SW_congr k (fun i hi => h i (by omega)), h k (by omega)]
/-- Powers and sums of terms, of numbers mod Q. -/
noncomputable def PW (X : FQ) : Nat → FQ
  | 0 => 1
  | k + 1 => X * PW X k
noncomputable def PE (l : List Nat) (X : FQ) : Nat → FQ
  | 0 => 0
  | k + 1 => PE l X k + tf false (l.getD k 0) * PW X k
theorem powK_PW (x : Nat) : ∀ k, tf false (powK x k) = PW (tf false x) k
  | 0 => tf_one false
  | k + 1 => by
    show tf false (fmlN false (powK x k) x) = tf false x * PW (tf false x) k
    rw [tf_mul, powK_PW x k]; grobner
theorem evK_PE (l : List Nat) (x : Nat) : ∀ k, tf false (evK l x k) = PE l (tf false x) k
  | 0 => tf_zero false
  | k + 1 => by
    show tf false (fadN false (evK l x k) (fmlN false (l.getD k 0) (powK x k))) = PE l (tf false x) k + tf false (l.getD k 0) * PW (tf false x) k
    rw [tf_add, tf_mul, powK_PW, evK_PE l x k]
theorem PW_deg : ∀ k, IsP (k + 1) (fun X => PW X k)
  | 0 => (isP_const 0 1).congr fun _ => rfl
  | k + 1 => (PW_deg k).mulX.congr fun _ => rfl
theorem PE_deg (l : List Nat) : ∀ k, IsP k (fun X => PE l X k)
  | 0 => (isP_zero 0).congr fun _ => rfl
  | k + 1 => ((PE_deg l k).succ.add ((PW_deg k).smul (tf false (l.getD k 0)))).congr fun _ => rfl
/-- The shares of a polynomial of no more coefficients than nodes tell its value. -/
theorem back_eq {l : List Int} (h : Among l) {p : List Nat} (hp : p.length ≤ l.length) (x : Nat) : dot (wL l x l.length) (evL p l l.length) l.length = evK p x p.length :=
  tf_inj false (dot_lt _ _ _) (evK_lt _ _ _) (by
    rw [dot_SW h x _ _ (Nat.le_refl _), evK_PE, SW_congr (z := fun i => PE p (tf false (l.getD i 0).toNat) p.length) _ (fun i hi => by rw [evL_get _ _ _ _ hi, evK_PE])]
    exact lagrange h hp (PE_deg p p.length) (tf false x))
theorem PE_zero (l : List Nat) : ∀ k, PE l 0 (k + 1) = tf false (l.getD 0 0)
  | 0 => by show (0 : FQ) + _ * 1 = _; grobner
  | k + 1 => by
    show PE l 0 (k + 1) + _ * ((0 : FQ) * PW 0 k) = _
    rw [PE_zero l k]; grobner
theorem back_zero {l : List Int} (h : Among l) {p : List Nat} (hp : p.length ≤ l.length) (h0 : 1 ≤ p.length) (hs : AllS p) : dot (wL l 0 l.length) (evL p l l.length) l.length = p.getD 0 0 := by
  rw [back_eq h hp]
  refine tf_inj false (evK_lt _ _ _) (hs 0 h0) ?_
  rw [evK_PE, tf_zero]
  obtain ⟨n, hn⟩ : ∃ n, p.length = n + 1 := ⟨p.length - 1, by omega⟩
  rw [hn]
  exact PE_zero p n
end Go.Proofs.Ytbmokmkaebfneaa
