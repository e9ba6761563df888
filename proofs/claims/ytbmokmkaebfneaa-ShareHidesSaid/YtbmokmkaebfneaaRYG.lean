/- Shares, in plain Lean: a further node, and the value there that makes any secret. -/
import Derived.Test.YtbmokmkaebfneaaRYD
namespace Go.Proofs.Ytbmokmkaebfneaa
open RX
set_option linter.unusedVariables false
/-- One pass: a number that is a node's goes up. -/
def psN (l : List Int) (o : Int) : Nat → Int
  | 0 => o
  | k + 1 => if l.getD k 0 = psN l o k then psN l o k + 1 else psN l o k
def otN (l : List Int) : Nat → Int
  | 0 => 1
  | k + 1 => psN l (otN l k) l.length
theorem ps_up {l : List Int} {o : Int} {k : Nat} (h : l.getD k 0 = psN l o k) : psN l o k + 1 = psN l o (k + 1) := by conv => rhs; unfold psN; rw [if_pos h]
theorem ps_same {l : List Int} {o : Int} {k : Nat} (h : ¬ l.getD k 0 = psN l o k) : psN l o k = psN l o (k + 1) := by conv => rhs; unfold psN; rw [if_neg h]
theorem ps_in {l : List Int} (h : Among l) {o : Int} (h1 : 1 ≤ o) (h11 : o ≤ 11) : ∀ k, k ≤ l.length → 1 ≤ psN l o k ∧ psN l o k ≤ 11
  | 0, _ => ⟨h1, h11⟩
  | k + 1, hk => by
    have ih := ps_in h h1 h11 k (by omega)
    have g := in10' h (i := k) (by omega)
    by_cases e : l.getD k 0 = psN l o k
    · rw [← ps_up e]; omega
    · rw [← ps_same e]; exact ih
theorem ot_in {l : List Int} (h : Among l) : ∀ k, 1 ≤ otN l k ∧ otN l k ≤ 11
  | 0 => ⟨show (1 : Int) ≤ 1 by decide, show (1 : Int) ≤ 11 by decide⟩
  | k + 1 => ps_in h (ot_in h k).1 (ot_in h k).2 _ (Nat.le_refl _)
theorem ps_mono (l : List Int) (o : Int) : ∀ n k, psN l o k ≤ psN l o (k + n)
  | 0, k => Int.le_refl _
  | n + 1, k => by
    have ih := ps_mono l o n k
    rw [show k + (n + 1) = k + n + 1 by omega]
    by_cases e : l.getD (k + n) 0 = psN l o (k + n)
    · rw [← ps_up e]; omega
    · rw [← ps_same e]; exact ih
theorem ps_moves {l : List Int} {o : Int} (h : Has l o) : o + 1 ≤ psN l o l.length := by
  obtain ⟨j, hj, e⟩ := h
  have h0 := ps_mono l o j 0
  rw [Nat.zero_add] at h0
  have h0' : o ≤ psN l o j := h0
  have h1 := ps_mono l o (l.length - (j + 1)) (j + 1)
  rw [show j + 1 + (l.length - (j + 1)) = l.length by omega] at h1
  by_cases q : l.getD j 0 = psN l o j
  · rw [← ps_up q] at h1; omega
  · rw [← ps_same q] at h1; omega
theorem ps_stays {l : List Int} {o : Int} (h : ¬ Has l o) : ∀ k, k ≤ l.length → psN l o k = o
  | 0, _ => rfl
  | k + 1, hk => by
    have ih := ps_stays h k (by omega)
    rw [← ps_same (fun e => h ⟨k, by omega, by rw [e, ih]⟩), ih]
theorem ot_moves {l : List Int} : ∀ k, Has l (otN l k) → ((k : Int) + 1 ≤ otN l k) ∧ Has l (otN l k)
  | 0, h => ⟨by show (0 : Int) + 1 ≤ 1; decide, h⟩
  | k + 1, h => by
    refine ⟨?_, h⟩
    by_cases g : Has l (otN l k)
    · have ih := (ot_moves k g).1
      have := ps_moves g
      show ((k + 1 : Nat) : Int) + 1 ≤ psN l (otN l k) l.length
      omega
    · have e : otN l (k + 1) = otN l k := ps_stays g _ (Nat.le_refl _)
      rw [e] at h; exact absurd h g
/-- The number that is found is no node's. -/
theorem ot_free {l : List Int} (h : otN l 10 ≤ 10) : ¬ Has l (otN l 10) := fun g => by
  have := (ot_moves 10 g).1
  omega
/-- The nodes and the further one. -/
def hdL (l : List Int) : List Int := l ++ [otN l 10]
theorem hdL_len (l : List Int) : (hdL l).length = l.length + 1 := by simp [hdL]
theorem hdL_lo (l : List Int) {k : Nat} (h : k < l.length) : (hdL l).getD k 0 = l.getD k 0 := by
  unfold hdL; rw [List.getD_eq_getElem?_getD, List.getD_eq_getElem?_getD, List.getElem?_append_left h]
theorem hdL_hi (l : List Int) : (hdL l).getD l.length 0 = otN l 10 := by
  unfold hdL; rw [List.getD_eq_getElem?_getD, List.getElem?_append_right (Nat.le_refl _), Nat.sub_self]; rfl
theorem hdL_seen (l : List Int) (n : Int) : ∀ {k}, k ≤ l.length → (Seen (hdL l) k n ↔ Seen l k n) := fun {k} hk =>
  ⟨fun ⟨i, hi, e⟩ => ⟨i, hi, by rw [← hdL_lo l (by omega)]; exact e⟩, fun ⟨i, hi, e⟩ => ⟨i, hi, by rw [hdL_lo l (by omega)]; exact e⟩⟩
theorem hdL_among {l : List Int} (h : Among l) (h10 : otN l 10 ≤ 10) : Among (hdL l) := by
  refine ⟨by rw [hdL_len]; omega, fun k hk => ?_⟩
  rw [hdL_len] at hk
  rcases Nat.lt_succ_iff_lt_or_eq.1 hk with hk | rfl
  · have g := h.2 k hk
    exact ⟨by rw [hdL_lo l hk]; exact g.lo, by rw [hdL_lo l hk]; exact g.hi, by rw [hdL_lo l hk, hdL_seen l _ (by omega)]; exact g.un⟩
  · refine ⟨by rw [hdL_hi]; exact (ot_in h 10).1, by rw [hdL_hi]; exact h10, ?_⟩
    rw [hdL_hi, hdL_seen l _ (Nat.le_refl _)]
    exact ot_free h10
theorem hdL_ok {l : List Int} (h : Among l) (hl : ∀ t, t ∈ l → I64 t) : ∀ t, t ∈ hdL l → I64 t := by
  intro t ht
  unfold hdL at ht
  rcases List.mem_append.1 ht with ht | ht
  · exact hl t ht
  · have : t = otN l 10 := by simpa using ht
    subst this
    have := ot_in h 10
    unfold I64 at *
    omega
/-- What is left of a secret. -/
noncomputable def rsK (s : Nat) (w l : List Nat) : Nat → Nat
  | 0 => s
  | k + 1 => fsbN false (rsK s w l k) (fmlN false (w.getD k 0) (l.getD k 0))
theorem rsK_lt {s : Nat} (hs : s < pN false) (w l : List Nat) (k : Nat) : rsK s w l k < pN false := by
  cases k with
  | zero => exact hs
  | succ k => exact fsbN_lt _ _ _
theorem rsK_dot (s : Nat) (w l : List Nat) : ∀ k, tf false (rsK s w l k) + tf false (dot w l k) = tf false s
  | 0 => by show tf false s + tf false 0 = _; rw [tf_zero]; grobner
  | k + 1 => by
    have ih := rsK_dot s w l k
    show tf false (fsbN false (rsK s w l k) (fmlN false (w.getD k 0) (l.getD k 0))) + tf false (fadN false (dot w l k) (fmlN false (w.getD k 0) (l.getD k 0))) = _
    rw [tf_sub false _ _ (fmlN_lt _ _ _), tf_add, tf_mul]
    generalize tf false (rsK s w l k) = a at *
    generalize tf false (dot w l k) = b at *
    generalize tf false (w.getD k 0) * tf false (l.getD k 0) = c at *
    grobner
theorem dot_congr (w : List Nat) {l m : List Nat} : ∀ k, (∀ i, i < k → l.getD i 0 = m.getD i 0) → dot w l k = dot w m k
  | 0, _ => rfl
  | k + 1, h => by
    show fadN false (dot w l k) _ = fadN false (dot w m k) _
    rw [dot_congr w k (fun i hi => h i (by omega)), h k (by omega)]
/-- The values, and the one at the further node. -/
noncomputable def vlL (l : List Int) (m : List Nat) (s : Nat) : List Nat := m ++ [fmlN false (rsK s (wL (hdL l) 0 (hdL l).length) m m.length) (fpwN false ((wL (hdL l) 0 (hdL l).length).getD l.length 0) (ieN false))]
theorem vl_app {l : List Int} {m : List Nat} {s i : Nat} (h : i = l.length) : m ++ [fmlN false (rsK s (wL (hdL l) 0 (hdL l).length) m m.length) (fpwN false ((wL (hdL l) 0 (hdL l).length).getD i 0) (ieN false))] = vlL l m s := by subst h; rfl
theorem vlL_len (l : List Int) (m : List Nat) (s : Nat) : (vlL l m s).length = m.length + 1 := by simp [vlL]
theorem vlL_lt {l : List Int} {m : List Nat} {s : Nat} (hm : ∀ t, t ∈ m → t < pN false) : ∀ t, t ∈ vlL l m s → t < pN false := by
  intro t ht
  unfold vlL at ht
  rcases List.mem_append.1 ht with ht | ht
  · exact hm t ht
  · have := List.mem_singleton.1 ht
    subst this
    exact fmlN_lt _ _ _
theorem up_ne {l : List Int} {n : Int} : ∀ k, (∀ j, j < k → 1 ≤ l.getD j 0 ∧ l.getD j 0 ≤ 10) → upK l n 0 k ≠ 0
  | 0, _ => by unfold upK; decide
  | k + 1, h => by
    have ih := up_ne (n := n) k (fun j hj => h j (by omega))
    unfold upK; split
    · exact ih
    · refine fml_ne (upK_lt _ _ _ _) (fsbN_lt _ _ _) ih fun e => ?_
      have hj := h k (by omega)
      have hp := toNat_pN (x := l.getD k 0) false hj.2
      have h0 := (tf_sub false 0 (l.getD k 0).toNat hp).symm.trans ((congrArg (tf false) e).trans (tf_zero false))
      rw [tf_zero] at h0
      refine tf_small_ne (m := (l.getD k 0).toNat) (n := 0) (by omega) (by omega) (by omega) ?_
      rw [tf_zero]; grobner
theorem wK_ne {l : List Int} {n : Int} (hn : 1 ≤ n ∧ n ≤ 10) (k : Nat) (h : ∀ j, j < k → 1 ≤ l.getD j 0 ∧ l.getD j 0 ≤ 10) : wK l n 0 k ≠ 0 := fun e => by
  have h1 := wK_mul (x := 0) hn k h
  rw [e, tf_zero] at h1
  refine up_ne (n := n) k h (tf_inj false (upK_lt _ _ _ _) (pN_pos _) ?_)
  rw [tf_zero, ← h1]; grobner
/-- Any secret goes with these values: the shares hide it. -/
theorem hides_eq {l : List Int} (h : Among l) (h10 : otN l 10 ≤ 10) {m : List Nat} (hm : l.length = m.length) {s : Nat} (hs : s < pN false) : dot (wL (hdL l) 0 (hdL l).length) (vlL l m s) (hdL l).length = s := by
  have hA := hdL_among h h10
  refine tf_inj false (dot_lt _ _ _) hs ?_
  have h1 := rsK_dot s (wL (hdL l) 0 (hdL l).length) m m.length
  have hv : ∀ i, i < m.length → (vlL l m s).getD i 0 = m.getD i 0 := fun i hi => by
    unfold vlL; rw [List.getD_eq_getElem?_getD, List.getElem?_append_left hi, ← List.getD_eq_getElem?_getD]
  have hl : (vlL l m s).getD m.length 0 = fmlN false (rsK s (wL (hdL l) 0 (hdL l).length) m m.length) (fpwN false ((wL (hdL l) 0 (hdL l).length).getD l.length 0) (ieN false)) := by
    unfold vlL; rw [List.getD_eq_getElem?_getD, List.getElem?_append_right (Nat.le_refl _), Nat.sub_self]; rfl
  have hne : (wL (hdL l) 0 (hdL l).length).getD l.length 0 ≠ 0 := by
    rw [wL_get _ _ _ _ (by rw [hdL_len]; omega)]
    exact wK_ne (in10' hA (by rw [hdL_len]; omega)) _ (fun j hj => in10' hA hj)
  have hi := tf_inv false ((wL (hdL l) 0 (hdL l).length).getD l.length 0) (wL_getD_lt _ _ _ _) hne
  rw [show (hdL l).length = m.length + 1 by rw [hdL_len, hm]] at *
  show tf false (fadN false (dot _ (vlL l m s) m.length) (fmlN false ((wL (hdL l) 0 (m.length + 1)).getD m.length 0) ((vlL l m s).getD m.length 0))) = _
  rw [dot_congr _ _ hv, hl, tf_add, tf_mul, tf_mul]
  rw [hm] at hi
  rw [hm]
  generalize tf false (rsK s (wL (hdL l) 0 (m.length + 1)) m m.length) = a at *
  generalize tf false (dot (wL (hdL l) 0 (m.length + 1)) m m.length) = b at *
  generalize tf false ((wL (hdL l) 0 (m.length + 1)).getD m.length 0) = c at *
  generalize tf false (fpwN false ((wL (hdL l) 0 (m.length + 1)).getD m.length 0) (ieN false)) = d at *
  generalize tf false s = e at *
  grobner
end Go.Proofs.Ytbmokmkaebfneaa
