/- Shares, in plain Lean: polynomials by their values: as many roots as coefficients; the value that shares tell. -/
import Derived.Test.YtbmokmkaebfneaaRY7
namespace Go.Proofs.Ytbmokmkaebfneaa
open RX
set_option linter.unusedVariables false
/-- The numbers mod Q. -/
abbrev FQ := Fin (pN false)
/-- A polynomial of d coefficients, by its values. -/
def IsP : Nat → (FQ → FQ) → Prop
  | 0, f => ∀ x, f x = 0
  | d + 1, f => ∃ c g, IsP d g ∧ ∀ x, f x = c + x * g x
theorem IsP.congr : ∀ {d : Nat} {f g : FQ → FQ}, IsP d f → (∀ x, g x = f x) → IsP d g
  | 0, f, g, h, e => fun x => (e x).trans (h x)
  | d + 1, f, g, ⟨c, q, hq, h⟩, e => ⟨c, q, hq, fun x => (e x).trans (h x)⟩
theorem isP_zero : ∀ d : Nat, IsP d (fun _ => 0)
  | 0 => fun _ => rfl
  | d + 1 => ⟨0, _, isP_zero d, fun x => by grobner⟩
theorem isP_const (d : Nat) (c : FQ) : IsP (d + 1) (fun _ => c) := ⟨c, _, isP_zero d, fun x => by grobner⟩
theorem IsP.succ : ∀ {d : Nat} {f : FQ → FQ}, IsP d f → IsP (d + 1) f
  | 0, f, h => ⟨0, _, isP_zero 0, fun x => by rw [h x]; grobner⟩
  | d + 1, f, ⟨c, g, hg, h⟩ => ⟨c, g, hg.succ, h⟩
theorem IsP.mono {d e : Nat} {f : FQ → FQ} (h : IsP d f) (hd : d ≤ e) : IsP e f := by
  induction hd with
  | refl => exact h
  | step _ ih => exact ih.succ
theorem IsP.add : ∀ {d : Nat} {f g : FQ → FQ}, IsP d f → IsP d g → IsP d (fun x => f x + g x)
  | 0, f, g, h, k => fun x => by show f x + g x = 0; rw [h x, k x]; grobner
  | d + 1, f, g, ⟨c, p, hp, h⟩, ⟨e, q, hq, k⟩ => ⟨c + e, _, hp.add hq, fun x => by show f x + g x = _; rw [h x, k x]; grobner⟩
theorem IsP.smul (s : FQ) : ∀ {d : Nat} {f : FQ → FQ}, IsP d f → IsP d (fun x => s * f x)
  | 0, f, h => fun x => by show s * f x = 0; rw [h x]; grobner
  | d + 1, f, ⟨c, p, hp, h⟩ => ⟨s * c, _, hp.smul s, fun x => by show s * f x = _; rw [h x]; grobner⟩
theorem IsP.mulX {d : Nat} {f : FQ → FQ} (h : IsP d f) : IsP (d + 1) (fun x => x * f x) := ⟨0, f, h, fun x => by grobner⟩
theorem IsP.lin {d : Nat} {f : FQ → FQ} (h : IsP d f) (a s : FQ) : IsP (d + 1) (fun x => f x * ((x - a) * s)) :=
  ((h.mulX.smul s).add ((h.smul (s * (0 - a))).succ)).congr fun x => by grobner
theorem IsP.factor : ∀ {d : Nat} {f : FQ → FQ}, IsP (d + 1) f → ∀ a, ∃ g, IsP d g ∧ ∀ x, f x = f a + (x - a) * g x
  | 0, f, ⟨c, g, hg, h⟩, a => ⟨fun _ => 0, fun _ => rfl, fun x => by rw [h x, h a, hg x, hg a]; grobner⟩
  | d + 1, f, ⟨c, g, hg, h⟩, a => by
    obtain ⟨q, hq, hk⟩ := hg.factor a
    refine ⟨fun x => g a + x * q x, ⟨g a, q, hq, fun x => rfl⟩, fun x => ?_⟩
    rw [h x, h a, hk x]; grobner
theorem IsP.roots : ∀ {d : Nat} {f : FQ → FQ}, IsP d f → ∀ r : Nat → FQ, (∀ i, i < d → f (r i) = 0) → (∀ i j, i < j → j < d → r i ≠ r j) → ∀ x, f x = 0
  | 0, f, h, _, _, _ => h
  | d + 1, f, h, r, hr, hd => by
    obtain ⟨g, hg, hk⟩ := h.factor (r d)
    have h0 := hr d (by omega)
    have hz := hg.roots r (fun i hi => by
      have h1 := hk (r i)
      rw [hr i (by omega), h0] at h1
      rcases tf_dom false (r i - r d) (g (r i)) (by grobner) with h2 | h2
      · exact absurd (by grobner : r i = r d) (hd i d hi (by omega))
      · exact h2) (fun i j hij hj => hd i j hij (by omega))
    intro x
    rw [hk x, h0, hz x]; grobner
/-! ### Weights as functions -/
noncomputable def ivF (u : FQ) : FQ := tf false (fpwN false u.val (ieN false))
theorem ivF_mul {u : FQ} (h : u ≠ 0) : ivF u * u = 1 := by
  have h0 : u.val ≠ 0 := fun e => h (by apply Fin.ext; rw [e, Fin.val_zero])
  have := tf_inv false u.val u.isLt h0
  rwa [tf_all] at this
/-- A weight, as a function. -/
noncomputable def WF (l : List Int) (n : Int) : Nat → FQ → FQ
  | 0, _ => 1
  | k + 1, X => open Classical in if l.getD k 0 = n then WF l n k X else WF l n k X * ((X - tf false (l.getD k 0).toNat) * ivF (tf false n.toNat - tf false (l.getD k 0).toNat))
theorem fsb_val {x y : Nat} (hx : x < pN false) (hy : y < pN false) : (tf false x - tf false y).val = fsbN false x y := by
  rw [← tf_sub false x y hy, tf_val, Nat.mod_eq_of_lt (fsbN_lt _ _ _)]
theorem wK_WF {l : List Int} {n : Int} {x : Nat} (hn : 1 ≤ n ∧ n ≤ 10) : ∀ k, (∀ j, j < k → 1 ≤ l.getD j 0 ∧ l.getD j 0 ≤ 10) → tf false (wK l n x k) = WF l n k (tf false x)
  | 0, _ => by unfold wK WF; exact tf_one false
  | k + 1, h => by
    have ih := wK_WF (x := x) hn k (fun j hj => h j (by omega))
    unfold wK WF
    have hp := toNat_pN (x := l.getD k 0) false (h k (by omega)).2
    by_cases he : l.getD k 0 = n
    · rw [if_pos he, if_pos he]; exact ih
    · rw [if_neg he, if_neg he, tf_mul, tf_mul, tf_sub _ _ _ hp, ih]
      unfold ivF
      rw [fsb_val (toNat_pN (x := n) false hn.2) hp]
theorem WF_deg {l : List Int} {n : Int} : ∀ k, ((∃ i, i < k ∧ l.getD i 0 = n) → IsP k (WF l n k)) ∧ IsP (k + 1) (WF l n k)
  | 0 => ⟨fun ⟨i, hi, _⟩ => by omega, (isP_const 0 1).congr fun x => rfl⟩
  | k + 1 => by
    obtain ⟨h1, h2⟩ := WF_deg (l := l) (n := n) k
    by_cases he : l.getD k 0 = n
    · have e : ∀ x, WF l n (k + 1) x = WF l n k x := fun x => by conv => lhs; unfold WF; rw [if_pos he]
      exact ⟨fun _ => h2.congr e, h2.succ.congr e⟩
    · have e : ∀ x, WF l n (k + 1) x = WF l n k x * ((x - tf false (l.getD k 0).toNat) * ivF (tf false n.toNat - tf false (l.getD k 0).toNat)) := fun x => by conv => lhs; unfold WF; rw [if_neg he]
      refine ⟨fun ⟨i, hi, hin⟩ => ?_, (h2.lin _ _).congr e⟩
      have : IsP k (WF l n k) := h1 ⟨i, by
        rcases Nat.lt_succ_iff_lt_or_eq.1 hi with hi | rfl
        · exact hi
        · exact absurd hin he, hin⟩
      exact (this.lin _ _).congr e
theorem tf_ne_of {m n : Int} (hm : 1 ≤ m ∧ m ≤ 10) (hn : 1 ≤ n ∧ n ≤ 10) (h : m ≠ n) : tf false m.toNat ≠ tf false n.toNat := tf_small_ne (by omega) (by omega) (by omega)
theorem WF_own {l : List Int} {n : Int} (hn : 1 ≤ n ∧ n ≤ 10) : ∀ k, (∀ j, j < k → 1 ≤ l.getD j 0 ∧ l.getD j 0 ≤ 10) → WF l n k (tf false n.toNat) = 1
  | 0, _ => rfl
  | k + 1, h => by
    have ih := WF_own (l := l) hn k (fun j hj => h j (by omega))
    unfold WF; split
    · exact ih
    · rename_i he
      have hne := tf_ne_of hn (h k (by omega)) (Ne.symm he)
      have := ivF_mul (u := tf false n.toNat - tf false (l.getD k 0).toNat) (fun e => hne (by grobner))
      rw [ih]; grobner
theorem WF_other {l : List Int} {n m : Int} (hnm : m ≠ n) : ∀ k, (∃ j, j < k ∧ l.getD j 0 = m) → WF l n k (tf false m.toNat) = 0
  | 0, ⟨j, hj, _⟩ => by omega
  | k + 1, ⟨j, hj, e⟩ => by
    unfold WF
    rcases Nat.lt_succ_iff_lt_or_eq.1 hj with hj | rfl
    · have ih := WF_other (l := l) hnm k ⟨j, hj, e⟩
      split
      · exact ih
      · rw [ih]; grobner
    · rw [if_neg (by rw [e]; exact hnm), e]; grobner
/-- The sum of the first k weights times values. -/
noncomputable def SW (l : List Int) (y : Nat → FQ) (N : Nat) : Nat → FQ → FQ
  | 0, _ => 0
  | k + 1, X => SW l y N k X + WF l (l.getD k 0) N X * y k
theorem SW_deg {l : List Int} {y : Nat → FQ} {N : Nat} : ∀ k, k ≤ N → IsP N (SW l y N k)
  | 0, _ => (isP_zero N).congr fun _ => rfl
  | k + 1, h => by
    have h1 := (SW_deg (l := l) (y := y) (N := N) k (by omega)).add (((WF_deg (l := l) (n := l.getD k 0) N).1 ⟨k, by omega, rfl⟩).smul (y k))
    refine h1.congr fun x => ?_
    show SW l y N k x + WF l (l.getD k 0) N x * y k = SW l y N k x + y k * WF l (l.getD k 0) N x
    grobner
theorem distinct_of {l : List Int} (h : Among l) {i j : Nat} (hj : j < l.length) (hij : i < j) : l.getD i 0 ≠ l.getD j 0 := fun e => (h.2 j hj).un ⟨i, hij, e⟩
theorem in10' {l : List Int} (h : Among l) {i : Nat} (hi : i < l.length) : 1 ≤ l.getD i 0 ∧ l.getD i 0 ≤ 10 := ⟨(h.2 i hi).lo, (h.2 i hi).hi⟩
theorem SW_at {l : List Int} (h : Among l) {y : Nat → FQ} {j : Nat} (hj : j < l.length) : ∀ k, k ≤ l.length → SW l y l.length k (tf false (l.getD j 0).toNat) = open Classical in if j < k then y j else 0
  | 0, _ => by rw [if_neg (by omega)]; rfl
  | k + 1, hk => by
    have ih := SW_at h (y := y) hj k (by omega)
    show SW l y l.length k _ + WF l (l.getD k 0) l.length _ * y k = _
    rw [ih]
    rcases Nat.lt_trichotomy j k with hlt | rfl | hgt
    · rw [if_pos hlt, if_pos (by omega), WF_other (distinct_of h (by omega) hlt) _ ⟨j, hj, rfl⟩]; grobner
    · rw [if_neg (by omega), if_pos (by omega), WF_own (in10' h hj) _ (fun i hi => in10' h hi)]; grobner
    · rw [if_neg (by omega), if_neg (by omega), WF_other (Ne.symm (distinct_of h hj hgt)) _ ⟨j, hj, rfl⟩]; grobner
/-- WHAT SHARES TELL: a polynomial of at most as many coefficients as nodes is the weighted sum of its values at them. -/
theorem lagrange {l : List Int} (h : Among l) {d : Nat} (hd : d ≤ l.length) {f : FQ → FQ} (hf : IsP d f) (X : FQ) : SW l (fun i => f (tf false (l.getD i 0).toNat)) l.length l.length X = f X := by
  have hD : IsP l.length (fun x => SW l (fun i => f (tf false (l.getD i 0).toNat)) l.length l.length x + (0 - 1) * f x) := (SW_deg _ (Nat.le_refl _)).add ((hf.mono hd).smul _)
  have e0 := hD.roots (fun i => tf false (l.getD i 0).toNat) (fun i hi => by
    show SW _ _ _ _ _ + _ = _
    rw [SW_at h hi _ (Nat.le_refl _), if_pos hi]; grobner) (fun i j hij hj => tf_ne_of (in10' h (by omega)) (in10' h hj) (distinct_of h hj hij)) X
  have e1 : SW l (fun i => f (tf false (l.getD i 0).toNat)) l.length l.length X + (0 - 1) * f X = 0 := e0
  grobner
/-! ### Sums -/
noncomputable def sm (L : List Nat) : Nat → Nat
  | 0 => 0
  | k + 1 => fadN false (sm L k) (L.getD k 0)
theorem sm_lt (L : List Nat) (k : Nat) : sm L k < pN false := by
  cases k with
  | zero => exact pN_pos _
  | succ k => exact fadN_lt _ _ _
theorem sm_SW {l : List Int} (h : Among l) (x : Nat) : ∀ k, k ≤ l.length → tf false (sm (wL l x l.length) k) = SW l (fun _ => 1) l.length k (tf false x)
  | 0, _ => tf_zero false
  | k + 1, hk => by
    show tf false (fadN false (sm (wL l x l.length) k) ((wL l x l.length).getD k 0)) = SW l _ l.length k _ + _ * 1
    rw [tf_add, sm_SW h x k (by omega), wL_get _ _ _ _ (by omega), wK_WF (in10' h (by omega)) _ (fun j hj => in10' h hj)]
    grobner
theorem sum_one {l : List Int} (h : Among l) (x : Nat) : sm (wL l x l.length) l.length = 1 :=
  tf_inj false (sm_lt _ _) (pN_one _) (by
    have := lagrange h (f := fun _ => 1) (d := 1) h.1 (isP_const 0 1) (tf false x)
    rw [sm_SW h x _ (Nat.le_refl _), this, tf_one])
theorem own_one {l : List Int} (h : Among l) : (wL l (l.getD 0 0).toNat l.length).getD 0 0 = 1 := by
  have h0 : 0 < l.length := h.1
  rw [wL_get _ _ _ _ h0]
  exact tf_inj false (wK_lt _ _ _ _) (pN_one _) (by rw [wK_WF (in10' h h0) _ (fun j hj => in10' h hj), WF_own (in10' h h0) _ (fun j hj => in10' h hj), tf_one])
theorem drop_getD (L : List Nat) (k : Nat) : (L.drop 1).getD k 0 = L.getD (k + 1) 0 := by
  rw [List.getD_eq_getElem?_getD, List.getD_eq_getElem?_getD, List.getElem?_drop, Nat.add_comm]
theorem own_zero {l : List Int} (h : Among l) {k : Nat} (hk : k < l.length - 1) : ((wL l (l.getD 0 0).toNat l.length).drop 1).getD k 0 = 0 := by
  rw [drop_getD, wL_get _ _ _ _ (by omega)]
  exact tf_inj false (wK_lt _ _ _ _) (pN_pos _) (by rw [wK_WF (in10' h (by omega)) _ (fun j hj => in10' h hj), WF_other (distinct_of h (by omega) (by omega)) _ ⟨0, by omega, rfl⟩, tf_zero])
end Go.Proofs.Ytbmokmkaebfneaa
