/- Parcels, in plain Lean: numbers' bytes, records' bytes. Links, in plain Lean: frames, acks, the end that takes. Links: what was packed is read; the frames of texts. Links, in plain Lean: the texts that are pushed, those that are taken. -/
import Derived.Test.YtieencpejpeenaaRY4
import Derived.Test.YtieencpejpeenaaRY5
section
namespace Go.Proofs.Ytieencpejpeenaa
open Go.RowKit
open RX
set_option linter.unusedVariables false
set_option linter.unusedSimpArgs false
set_option linter.unnecessarySimpa false
/-- A text as a list's member. -/
def OkS (l : List UInt8) : Prop := l.length < 9223372036854775808
abbrev StrSl := Sl (List UInt8) cS 1 OkS
/-! ### Numbers' bytes -/
/-- The last i bytes of n, the highest first. -/
def beL (n : Nat) : Nat → List UInt8
  | 0 => []
  | i + 1 => UInt8.ofNat (n / 256 ^ i) :: beL n i
theorem beL_len (n : Nat) : ∀ i, (beL n i).length = i
  | 0 => rfl
  | i + 1 => by rw [beL, List.length_cons, beL_len n i]
theorem u8_of (n : Nat) : (UInt8.ofNat n).toNat = n % 256 := by simp
/-- The number that j bytes are. -/
def vK0 (l : List UInt8) : Nat → Nat
  | 0 => 0
  | j + 1 => vK0 l j * 256 + (l.getD j 0).toNat
theorem vK_is : ∃ f : List UInt8 → Nat → Nat, (∀ l, f l 0 = 0) ∧ ∀ l j, f l (j + 1) = f l j * 256 + (l.getD j 0).toNat := ⟨vK0, fun _ => rfl, fun _ _ => rfl⟩
noncomputable def vK : List UInt8 → Nat → Nat := Classical.choose vK_is
theorem vK_zero (l : List UInt8) : vK l 0 = 0 := (Classical.choose_spec vK_is).1 l
theorem vK_succ (l : List UInt8) (j : Nat) : vK l (j + 1) = vK l j * 256 + (l.getD j 0).toNat := (Classical.choose_spec vK_is).2 l j
theorem vK_step (l : List UInt8) (j : Nat) : vK l j * 256 + (l.getD j 0).toNat = vK l (j + 1) := (vK_succ l j).symm
theorem wr_zero (l : List UInt8) : 0 = wr (vK l 0) := by rw [vK_zero, wr_def]; decide
theorem wr_step (l : List UInt8) (j : Nat) : wr (vK l j * 256 + (l.getD j 0).toNat) = wr (vK l (j + 1)) := by rw [vK_succ]
theorem vK_lt (l : List UInt8) : ∀ j, vK l j < 256 ^ j
  | 0 => by simp [vK_zero, vK_succ]
  | j + 1 => by
    have := vK_lt l j
    have h := byte_lt (l.getD j 0)
    rw [vK_succ, Nat.pow_succ]
    omega
theorem vK8_lt (l : List UInt8) : vK l 8 < 18446744073709551616 := vK_lt l 8
theorem vK_top (l : List UInt8) : ∀ j, vK l (j + 1) = (l.getD 0 0).toNat * 256 ^ j + vK (l.drop 1) j
  | 0 => by simp [vK_zero, vK_succ]
  | j + 1 => by
    rw [vK_succ, vK_top l j, vK_succ]
    have e : (l.drop 1).getD j 0 = l.getD (j + 1) 0 := by
      rw [List.getD_eq_getElem?_getD, List.getD_eq_getElem?_getD, List.getElem?_drop, Nat.add_comm]
    rw [e, Nat.pow_succ, Nat.add_mul, Nat.mul_assoc]
    omega
/-- Is it below 2^63? The first byte tells. -/
theorem vK8_small (l : List UInt8) : vK l 8 < 9223372036854775808 ↔ ¬ 127 < (l.getD 0 0).toNat := by
  have h1 : vK l 8 = (l.getD 0 0).toNat * 256 ^ 7 + vK (l.drop 1) 7 := vK_top l 7
  have h2 := vK_lt (l.drop 1) 7
  have h3 : (256 : Nat) ^ 7 = 72057594037927936 := by decide
  rw [h3] at h1 h2
  omega
theorem wr_neg {n : Nat} (h : n < 18446744073709551616) : wr n < 0 ↔ ¬ n < 9223372036854775808 := by
  rw [wr_def]; omega
theorem wr8_neg (l : List UInt8) : wr (vK l 8) < 0 ↔ 127 < (l.getD 0 0).toNat := by
  rw [wr_neg (vK8_lt l), vK8_small]; omega
/-- There and back. -/
theorem vK_beL (n : Nat) : ∀ (i : Nat) (m : List UInt8), vK (beL n i ++ m) i = n % 256 ^ i := by
  intro i
  induction i with
  | zero => intro m; simp [vK_zero, Nat.mod_one]
  | succ i ih =>
    intro m
    have e : ∀ (a : UInt8) (l : List UInt8) (j : Nat), vK (a :: l) (j + 1) = a.toNat * 256 ^ j + vK l j := fun a l j => by
      rw [vK_top]; simp
    rw [beL, List.cons_append, e, ih, u8_of, Nat.pow_succ, Nat.mod_mul, Nat.mul_comm]
    omega
theorem vK_beL8 {n : Nat} (h : n < 18446744073709551616) : vK (beL n 8) 8 = n := by
  have := vK_beL n 8 []
  rw [List.append_nil] at this
  rw [this]
  exact Nat.mod_eq_of_lt h
/-! ### Records -/
/-- How many bytes the first k items take. -/
def szK (l : List (List UInt8)) : Nat → Nat
  | 0 => 2
  | k + 1 => szK l k + 2 + (l.getD k []).length
/-- A record's bytes: the first k items. -/
def pkK (kd : Nat) (l : List (List UInt8)) : Nat → List UInt8
  | 0 => [UInt8.ofNat kd, UInt8.ofNat l.length]
  | k + 1 => pkK kd l k ++ (beL (l.getD k []).length 2 ++ l.getD k [])
theorem pkK_len (kd : Nat) (l : List (List UInt8)) : ∀ k, (pkK kd l k).length = szK l k
  | 0 => rfl
  | k + 1 => by rw [pkK, szK, List.length_append, List.length_append, beL_len, pkK_len kd l k]; omega
theorem pkK_len2 (kd : Nat) (l : List (List UInt8)) (k : Nat) (a b : UInt8) : (pkK kd l k ++ [a, b]).length = szK l k + 2 := by rw [List.length_append, pkK_len]; rfl
/-- May it be packed? -/
def Fits (l : List (List UInt8)) : Prop := (∀ k, k < l.length → (l.getD k []).length ≤ 8000) ∧ l.length ≤ 40 ∧ szK l l.length ≤ 20000
theorem szK_le (l : List (List UInt8)) : ∀ k, (∀ j, j < k → (l.getD j []).length ≤ 8000) → szK l k ≤ 2 + 8002 * k
  | 0, _ => by simp [szK]
  | k + 1, h => by
    have := szK_le l k (fun j hj => h j (by omega))
    have := h k (by omega)
    rw [szK]; omega
theorem szK_mono (l : List (List UInt8)) : ∀ (k d : Nat), szK l k ≤ szK l (k + d)
  | k, 0 => Nat.le_refl _
  | k, d + 1 => by have := szK_mono l k d; rw [← Nat.add_assoc, szK]; omega
/-- Where item k begins. -/
def n16 (s : List UInt8) (p : Nat) : Nat := (s.getD p 0).toNat * 256 + (s.getD (p + 1) 0).toNat
def atK (s : List UInt8) : Nat → Nat
  | 0 => 2
  | k + 1 => atK s k + 2 + n16 s (atK s k)
def itK (s : List UInt8) (k : Nat) : List UInt8 := (s.drop (atK s k + 2)).take (n16 s (atK s k))
/-- The first k items. -/
def itL (s : List UInt8) (k : Nat) : List (List UInt8) := (List.range k).map (itK s)
theorem itL_len (s : List UInt8) (k : Nat) : (itL s k).length = k := by simp [itL]
theorem itL_one (s : List UInt8) : [itK s 0] = itL s 1 := rfl
theorem itL_succ (s : List UInt8) (k : Nat) : itL s k ++ [itK s k] = itL s (k + 1) := by unfold itL; rw [List.range_succ, List.map_append]; rfl
theorem itL_get (s : List UInt8) (k i : Nat) (h : i < k) : (itL s k).getD i [] = itK s i := by
  rw [List.getD_eq_getElem?_getD]; unfold itL; rw [List.getElem?_map, List.getElem?_range h]; rfl
/-- Is item k there, and not too long? -/
def ItOK (s : List UInt8) (k : Nat) : Prop := atK s k + 2 ≤ s.length ∧ n16 s (atK s k) ≤ 8000 ∧ atK s k + 2 + n16 s (atK s k) ≤ s.length
/-! What the program reads of the rest. -/
theorem drop_get (s : List UInt8) (p j : Nat) : (s.drop p).getD j 0 = s.getD (p + j) 0 := by
  rw [List.getD_eq_getElem?_getD, List.getD_eq_getElem?_getD, List.getElem?_drop]
theorem item_rest (s : List UInt8) (p n : Nat) : ((s.drop p).take (2 + n)).drop 2 = (s.drop (p + 2)).take n := by
  rw [List.drop_take, List.drop_drop]; congr 1; omega
theorem rest_next (s : List UInt8) (p n : Nat) : (s.drop p).drop (2 + n) = s.drop (p + 2 + n) := by rw [List.drop_drop]; congr 1; omega
theorem szK_fits {l : List (List UInt8)} (h : Fits l) {k : Nat} (hk : k ≤ l.length) : szK l k ≤ 20000 := by
  have := szK_mono l k (l.length - k)
  rw [show k + (l.length - k) = l.length by omega] at this
  exact Nat.le_trans this h.2.2
theorem pk_next (kd : Nat) (l : List (List UInt8)) (k : Nat) : (pkK kd l k ++ [UInt8.ofNat ((l.getD k []).length / 2 ^ 8), UInt8.ofNat (l.getD k []).length]) ++ l.getD k [] = pkK kd l (k + 1) := by
  rw [pkK, List.append_assoc]
  simp [beL]
theorem pk_next' (kd : Nat) (l : List (List UInt8)) (k : Nat) : (pkK kd l k ++ beL (l.getD k []).length 2) ++ l.getD k [] = pkK kd l (k + 1) := by rw [pkK, List.append_assoc]
theorem pk_zero (kd : Nat) (l : List (List UInt8)) : beL kd 1 ++ beL l.length 1 = pkK kd l 0 := by simp [beL, pkK]
/-! Lists of numbers. -/
def itsK (l : List Int) : Nat → List UInt8
  | 0 => []
  | k + 1 => itsK l k ++ beL (l.getD k 0).toNat 8
theorem itsK_len (l : List Int) : ∀ k, (itsK l k).length = 8 * k
  | 0 => rfl
  | k + 1 => by rw [itsK, List.length_append, itsK_len l k, beL_len]; omega
/-- .. and the next one's first j bytes. -/
def itsP (l : List Int) (k j : Nat) : List UInt8 := itsK l k ++ (beL (l.getD k 0).toNat 8).take j
theorem itsP_len (l : List Int) (k j : Nat) (h : j ≤ 8) : (itsP l k j).length = 8 * k + j := by
  unfold itsP; rw [List.length_append, itsK_len, List.length_take, beL_len]; omega
theorem itsP_zero (l : List Int) (k : Nat) : itsK l k = itsP l k 0 := by simp [itsP]
theorem itsP_full (l : List Int) (k : Nat) : itsP l k 8 = itsK l (k + 1) := by
  unfold itsP; rw [itsK, List.take_of_length_le (by rw [beL_len]; omega)]
theorem its_step {l : List Int} {k : Nat} {n : Nat} (hn : n = (l.getD k 0).toNat) (j s : Nat) (hj : j < 8) (hs : s = 56 - 8 * j) : itsP l k j ++ [UInt8.ofNat (n / 2 ^ s)] = itsP l k (j + 1) := by
  subst hn; subst hs
  unfold itsP
  rw [List.append_assoc]
  congr 1
  have h8 : beL (l.getD k 0).toNat 8 = [UInt8.ofNat ((l.getD k 0).toNat / 2 ^ 56), UInt8.ofNat ((l.getD k 0).toNat / 2 ^ 48), UInt8.ofNat ((l.getD k 0).toNat / 2 ^ 40), UInt8.ofNat ((l.getD k 0).toNat / 2 ^ 32), UInt8.ofNat ((l.getD k 0).toNat / 2 ^ 24), UInt8.ofNat ((l.getD k 0).toNat / 2 ^ 16), UInt8.ofNat ((l.getD k 0).toNat / 2 ^ 8), UInt8.ofNat ((l.getD k 0).toNat / 2 ^ 0)] := by
    simp [beL]
  rw [h8]
  match j, hj with
  | 0, _ => rfl
  | 1, _ => rfl
  | 2, _ => rfl
  | 3, _ => rfl
  | 4, _ => rfl
  | 5, _ => rfl
  | 6, _ => rfl
  | 7, _ => rfl
theorem its_first (l : List Int) : [UInt8.ofNat ((l.getD 0 0).toNat / 2 ^ 56)] = itsP l 0 1 := its_step (l := l) (k := 0) rfl 0 56 (by decide) (by decide)
theorem all_one {x : Int} (h : 0 ≤ x) : ∀ k, k < [x].length → 0 ≤ [x].getD k 0 := fun k hk => by
  match k, hk with
  | 0, _ => exact h
theorem all_two {x y : Int} (h : 0 ≤ x) (h' : 0 ≤ y) : ∀ k, k < [x, y].length → 0 ≤ [x, y].getD k 0 := fun k hk => by
  match k, hk with
  | 0, _ => exact h
  | 1, _ => exact h'
/-- How many numbers bytes are. -/
def n8 (s : List UInt8) : Nat := s.length / 8
theorem n8_len {s : List UInt8} (h : s.length % 8 = 0) : s.length = 8 * n8 s := by unfold n8; omega
theorem n8_pos {s : List UInt8} (h : s.length % 8 = 0) (h1 : 0 < s.length) : 1 ≤ n8 s := by unfold n8; omega
/-- The numbers that bytes are. -/
noncomputable def tiL (s : List UInt8) (k : Nat) : List Int := (List.range k).map fun i => ((vK (s.drop (8 * i)) 8 : Nat) : Int)
theorem tiL_len (s : List UInt8) (k : Nat) : (tiL s k).length = k := by simp [tiL]
theorem tiL_one (s : List UInt8) : [((vK s 8 : Nat) : Int)] = tiL s 1 := by simp [tiL, List.range_succ]
theorem tiL_succ (s : List UInt8) (k : Nat) : tiL s k ++ [((vK (s.drop (8 * k)) 8 : Nat) : Int)] = tiL s (k + 1) := by unfold tiL; rw [List.range_succ, List.map_append]; rfl
theorem tiL_get (s : List UInt8) (k i : Nat) (h : i < k) : (tiL s k).getD i 0 = ((vK (s.drop (8 * i)) 8 : Nat) : Int) := by
  rw [List.getD_eq_getElem?_getD]; unfold tiL; rw [List.getElem?_map, List.getElem?_range h]; rfl
theorem wr8_no {s : List UInt8} {p : Nat} (h : ¬ 127 < (s.getD p 0).toNat) : ¬ wr (vK (s.drop p) 8) < 0 := fun g => h (by have := (wr8_neg _).1 g; rwa [drop_get] at this)
theorem wr8_yes {s : List UInt8} {p : Nat} (h : 127 < (s.getD p 0).toNat) : wr (vK (s.drop p) 8) < 0 := (wr8_neg _).2 (by rw [drop_get]; exact h)
theorem wr8_nat {s : List UInt8} {p : Nat} (h : ¬ 127 < (s.getD p 0).toNat) : wr (vK (s.drop p) 8) = ((vK (s.drop p) 8 : Nat) : Int) := wr_small ((vK8_small _).2 (by rw [drop_get]; exact h))
theorem wr8_no0 {s : List UInt8} (h : ¬ 127 < (s.getD 0 0).toNat) : ¬ wr (vK s 8) < 0 := fun g => h ((wr8_neg _).1 g)
theorem wr8_yes0 {s : List UInt8} (h : 127 < (s.getD 0 0).toNat) : wr (vK s 8) < 0 := (wr8_neg _).2 h
theorem wr8_nat0 {s : List UInt8} (h : ¬ 127 < (s.getD 0 0).toNat) : wr (vK s 8) = ((vK s 8 : Nat) : Int) := wr_small ((vK8_small _).2 h)
theorem ti_one {s : List UInt8} (h : ¬ 127 < (s.getD 0 0).toNat) : [wr (vK s 8)] = tiL s 1 := by rw [wr8_nat0 h, tiL_one]
theorem ti_succ {s : List UInt8} {k : Nat} (h : ¬ 127 < (s.getD (8 * k) 0).toNat) : tiL s k ++ [wr (vK (s.drop (8 * k)) 8)] = tiL s (k + 1) := by rw [wr8_nat h, tiL_succ]
theorem vK_drop (s : List UInt8) (p j : Nat) : vK (s.drop p) j * 256 + (s.getD (p + j) 0).toNat = vK (s.drop p) (j + 1) := by rw [vK_succ, drop_get]
theorem drop_ne {l : List UInt8} {a : Nat} (h : a < l.length) : ¬ l.drop a = [] := fun e => by
  have := congrArg List.length e
  rw [List.length_drop] at this
  simp at this
  omega
theorem drop_nil {l : List UInt8} {a : Nat} (h : l.length ≤ a) : l.drop a = [] := List.drop_eq_nil_of_le h
theorem ne_nil_of {l : List UInt8} (h : 0 < l.length) : ¬ l = [] := fun e => by rw [e] at h; simp at h
theorem drop_drop8 (s : List UInt8) (k : Nat) : (s.drop (8 * k)).drop 8 = s.drop (8 * (k + 1)) := by rw [List.drop_drop]; congr 1
theorem later_of {s : List UInt8} {v : Nat} (h : 127 < (s.getD (8 * v) 0).toNat) (h0 : ¬ 127 < (s.getD 0 0).toNat) : 1 ≤ v := by
  rcases Nat.eq_zero_or_pos v with rfl | h1
  · exact absurd h h0
  · exact h1
theorem toi_one {s : List UInt8} (h : s.length = 8) : n8 s = 1 := by unfold n8; rw [h]
theorem toi_all {s : List UInt8} (h : s.length = 8) (hb : ¬ 127 < (s.getD 0 0).toNat) : ∀ k, k < n8 s → ¬ 127 < (s.getD (8 * k) 0).toNat := fun k hk => by
  rw [toi_one h] at hk
  obtain rfl : k = 0 := by omega
  exact hb
theorem toi_get {s : List UInt8} (h : s.length = 8) : (tiL s (n8 s)).getD 0 0 = ((vK s 8 : Nat) : Int) := by rw [toi_one h, tiL_get s 1 0 (by decide)]; rfl
theorem toi_ok {s : List UInt8} (h : s.length % 8 = 0) (h1 : n8 s = 1) (hp : ∀ k, k < n8 s → ¬ 127 < (s.getD (8 * k) 0).toNat) : s.length = 8 ∧ ¬ 127 < (s.getD 0 0).toNat := ⟨by have := n8_len h; omega, hp 0 (by omega)⟩
theorem drop_ix (s : List UInt8) (p k : Nat) : Value.int .u8 (((s.getD (p + k) 0).toNat : Nat) : Int) = .int .u8 ((((s.drop p).getD k 0).toNat : Nat) : Int) := by rw [drop_get]
end Go.Proofs.Ytieencpejpeenaa
end
section
namespace Go.Proofs.Ytieencpejpeenaa
open Go.RowKit
open RX
set_option linter.unusedVariables false
set_option linter.unusedSimpArgs false
set_option linter.unnecessarySimpa false
/-! ### What is sent -/
/-- Numbers' bytes, one by one. -/
def iiL (l : List Int) (k : Nat) : List (List UInt8) := (List.range k).map fun i => beL (l.getD i 0).toNat 8
theorem iiL_len (l : List Int) (k : Nat) : (iiL l k).length = k := by simp [iiL]
theorem iiL_one (l : List Int) : [beL (l.getD 0 0).toNat 8] = iiL l 1 := rfl
theorem iiL_succ (l : List Int) (k : Nat) : iiL l k ++ [beL (l.getD k 0).toNat 8] = iiL l (k + 1) := by unfold iiL; rw [List.range_succ, List.map_append]; rfl
theorem iiL_ok {l : List Int} {k : Nat} : ∀ t, t ∈ iiL l k → OkS t := fun t ht => by
  obtain ⟨i, hi, rfl⟩ := List.mem_map.1 ht
  unfold OkS; rw [beL_len]; decide
theorem its_one (n : Nat) : itsK [(n : Int)] [(n : Int)].length = beL n 8 := by simp [itsK]
theorem iiL_two (x y : Nat) : iiL [(x : Int), (y : Int)] [(x : Int), (y : Int)].length = [beL x 8, beL y 8] := by simp [iiL, List.range_succ]
theorem fits_of {l : List (List UInt8)} (h1 : ∀ t, t ∈ l → t.length ≤ 7900) (h2 : l.length ≤ 2) : Fits l := by
  have h3 : ∀ k, k < l.length → (l.getD k []).length ≤ 7900 := fun k hk => by
    rw [List.getD_eq_getElem?_getD, List.getElem?_eq_getElem hk]; exact h1 _ (List.getElem_mem hk)
  refine ⟨fun k hk => by have := h3 k hk; omega, by omega, ?_⟩
  have := szK_le l l.length (fun j hj => by have := h3 j hj; omega)
  omega
theorem fits_two (x y : Nat) : Fits [beL x 8, beL y 8] := fits_of (fun t ht => by
  simp only [List.mem_cons, List.not_mem_nil, or_false] at ht
  rcases ht with rfl | rfl <;> rw [beL_len] <;> decide) (by show 2 ≤ 2; decide)
theorem fits_ii (x y : Nat) : Fits (iiL [(x : Int), (y : Int)] [(x : Int), (y : Int)].length) := by rw [iiL_two]; exact fits_two x y
theorem fits_fr (x y : Nat) {t : List UInt8} (h : t.length ≤ 7900) : Fits [beL x 8, beL y 8, t] := by
  refine ⟨fun k hk => ?_, by show 3 ≤ 40; decide, ?_⟩
  · match k, hk with
    | 0, _ => show (beL x 8).length ≤ 8000; rw [beL_len]; decide
    | 1, _ => show (beL y 8).length ≤ 8000; rw [beL_len]; decide
    | 2, _ => show t.length ≤ 8000; omega
  · show szK [beL x 8, beL y 8, t] 3 ≤ 20000
    simp only [szK, List.getD_cons_zero, List.getD_cons_succ, beL_len]
    omega
/-- An ack's bytes; a frame's. -/
def akT (x y : Nat) : List UInt8 := pkK 2 [beL x 8, beL y 8] 2
def frT (x y : Nat) (t : List UInt8) : List UInt8 := pkK 1 [beL x 8, beL y 8, t] 3
theorem ak_of (x y : Nat) : pkK 2 (iiL [(x : Int), (y : Int)] [(x : Int), (y : Int)].length) (iiL [(x : Int), (y : Int)] [(x : Int), (y : Int)].length).length = akT x y := by rw [iiL_two]; rfl
theorem fr_of (x y : Nat) (t : List UInt8) : pkK 1 (iiL [(x : Int), (y : Int)] [(x : Int), (y : Int)].length ++ [t]) (iiL [(x : Int), (y : Int)] [(x : Int), (y : Int)].length ++ [t]).length = frT x y t := by rw [iiL_two]; rfl
theorem fits_iit (x y : Nat) {t : List UInt8} (h : t.length ≤ 7900) : Fits (iiL [(x : Int), (y : Int)] [(x : Int), (y : Int)].length ++ [t]) := by rw [iiL_two]; exact fits_fr x y h
/-! ### What is read -/
/-- Are bytes a number? -/
def I8 (t : List UInt8) : Prop := t.length = 8 ∧ ¬ (127 < (t.getD 0 0).toNat)
open Classical in
noncomputable def nbN (t : List UInt8) : Nat := if I8 t then vK t 8 else 0
theorem nbN_yes {t : List UInt8} (h : I8 t) : vK t 8 = nbN t := by unfold nbN; rw [if_pos h]
theorem nbN_no {t : List UInt8} (h : ¬ I8 t) : 0 = nbN t := by unfold nbN; rw [if_neg h]
/-- .. up to MaxBig? -/
def NbOK (t : List UInt8) : Prop := I8 t ∧ nbN t ≤ 1099511627776
/-! The end that takes. -/
noncomputable def lfN (a x : Nat) : Nat := if x < a then a else x
noncomputable def cmN (a n x y : Nat) : Nat := if a < x then y else if n = (if x < a then 0 else y) + 1 then n else (if x < a then 0 else y)
def nxP (a n x y : Nat) : Prop := ¬ a < x ∧ n = (if x < a then 0 else y) + 1
open Classical in
noncomputable def txN (a n x y : Nat) (t : List UInt8) : List UInt8 := if nxP a n x y then t else []
noncomputable def erN (a x : Nat) : Int := if a < x then 7 else 0
theorem toi_nb {s : List UInt8} (h : I8 s) : (tiL s (n8 s)).getD 0 0 = ((nbN s : Nat) : Int) := by rw [toi_get h.1, nbN_yes h]
theorem i8_of {s : List UInt8} (h : s.length % 8 = 0) (h1 : n8 s = 1) (hp : ∀ k, k < n8 s → ¬ (127 < (s.getD (8 * k) 0).toNat)) : I8 s := toi_ok h h1 hp
def AllIt (s : List UInt8) : Prop := ∀ k, k < (s.getD 1 0).toNat → ItOK s k
/-- Are bytes a record of this kind, with so many items? -/
def UP (s : List UInt8) (kd m : Nat) : Prop := s.length ≤ 20000 ∧ 2 ≤ s.length ∧ (s.getD 0 0).toNat = kd ∧ (s.getD 1 0).toNat = m ∧ AllIt s ∧ s.length ≤ atK s (s.getD 1 0).toNat
theorem itL_drop_get (s : List UInt8) (n : Nat) (h : 2 < n) : ((itL s n).drop 2).getD 0 [] = itK s 2 := by
  rw [List.getD_eq_getElem?_getD, List.getElem?_drop, ← List.getD_eq_getElem?_getD, itL_get s n (2 + 0) h]
theorem itL_drop_len (s : List UInt8) (n : Nat) (h : n = 3) : ((itL s n).drop 2).length = 1 := by rw [List.length_drop, itL_len, h]
/-- Is it a frame? -/
def FR (s : List UInt8) : Prop := UP s 1 3 ∧ NbOK (itK s 0) ∧ NbOK (itK s 1) ∧ 1 ≤ nbN (itK s 0) ∧ 1 ≤ nbN (itK s 1) ∧ (itK s 2).length ≤ 7900
/-! Frame by frame. -/
end Go.Proofs.Ytieencpejpeenaa
end
section
namespace Go.Proofs.Ytieencpejpeenaa
open Go.RowKit
open RX
set_option linter.unusedVariables false
set_option linter.unusedSimpArgs false
set_option linter.unnecessarySimpa false
theorem pk_split (kd : Nat) (l : List (List UInt8)) (k : Nat) : ∀ d, ∃ r, pkK kd l (k + d) = pkK kd l k ++ r
  | 0 => ⟨[], by rw [List.append_nil]; rfl⟩
  | d + 1 => by
    obtain ⟨r, hr⟩ := pk_split kd l k d
    exact ⟨r ++ (beL (l.getD (k + d) []).length 2 ++ l.getD (k + d) []), by rw [← Nat.add_assoc, pkK, hr, List.append_assoc]⟩
theorem pk_item (kd : Nat) (l : List (List UInt8)) {k n : Nat} (h : k < n) : ∃ r, (pkK kd l n).drop (szK l k) = beL (l.getD k []).length 2 ++ (l.getD k [] ++ r) := by
  obtain ⟨r, hr⟩ := pk_split kd l (k + 1) (n - (k + 1))
  rw [show k + 1 + (n - (k + 1)) = n by omega] at hr
  refine ⟨r, ?_⟩
  rw [hr, pkK, List.append_assoc, List.drop_append, ← pkK_len kd l k, List.drop_length, Nat.sub_self, List.drop_zero, List.nil_append, List.append_assoc]
theorem pk_n16 (kd : Nat) (l : List (List UInt8)) {k n : Nat} (h : k < n) (hl : (l.getD k []).length < 65536) : n16 (pkK kd l n) (szK l k) = (l.getD k []).length := by
  obtain ⟨r, hr⟩ := pk_item kd l h
  have h0 := drop_get (pkK kd l n) (szK l k) 0
  have h1 := drop_get (pkK kd l n) (szK l k) 1
  rw [hr] at h0 h1
  unfold n16
  rw [← h1]
  rw [Nat.add_zero] at h0
  rw [← h0]
  simp only [beL, List.cons_append, List.getD_cons_zero, List.getD_cons_succ, u8_of]
  simp only [Nat.pow_zero, Nat.pow_one, Nat.div_one]
  omega
theorem pk_at (kd : Nat) (l : List (List UInt8)) {n : Nat} (hl : ∀ k, k < n → (l.getD k []).length < 65536) : ∀ k, k ≤ n → atK (pkK kd l n) k = szK l k
  | 0, _ => rfl
  | k + 1, h => by rw [atK, pk_at kd l hl k (by omega), pk_n16 kd l (by omega) (hl k (by omega)), szK]
theorem pk_it (kd : Nat) (l : List (List UInt8)) {n : Nat} (hl : ∀ k, k < n → (l.getD k []).length < 65536) {k : Nat} (h : k < n) : itK (pkK kd l n) k = l.getD k [] := by
  unfold itK
  rw [pk_at kd l hl k (by omega), pk_n16 kd l h (hl k h)]
  obtain ⟨r, hr⟩ := pk_item kd l h
  rw [← List.drop_drop, hr, List.drop_append, beL_len, List.drop_eq_nil_of_le (by rw [beL_len]; omega), List.nil_append]
  simp
theorem pk_UP {kd : Nat} {l : List (List UInt8)} (hk : kd < 256) (h : Fits l) : UP (pkK kd l l.length) kd l.length := by
  have hl : ∀ k, k < l.length → (l.getD k []).length < 65536 := fun k hk => by have := h.1 k hk; omega
  have hlen := pkK_len kd l l.length
  have hat := pk_at kd l hl
  have hd : ∀ n, ∃ r, pkK kd l n = UInt8.ofNat kd :: UInt8.ofNat l.length :: r := fun n => by
    obtain ⟨r, hr⟩ := pk_split kd l 0 n
    rw [Nat.zero_add] at hr
    exact ⟨r, hr⟩
  obtain ⟨r, hr⟩ := hd l.length
  have h0 : ((pkK kd l l.length).getD 0 0).toNat = kd := by rw [hr]; show (UInt8.ofNat kd).toNat = kd; rw [u8_of]; exact Nat.mod_eq_of_lt hk
  have h1 : ((pkK kd l l.length).getD 1 0).toNat = l.length := by rw [hr]; show (UInt8.ofNat l.length).toNat = l.length; rw [u8_of]; exact Nat.mod_eq_of_lt (by have := h.2.1; omega)
  refine ⟨by rw [hlen]; exact h.2.2, by rw [hr]; simp, h0, h1, fun k hk => ?_, ?_⟩
  · rw [h1] at hk
    have hs := szK_mono l (k + 1) (l.length - (k + 1))
    rw [show k + 1 + (l.length - (k + 1)) = l.length by omega, szK] at hs
    unfold ItOK
    rw [hat k (by omega), pk_n16 kd l hk (hl k hk), hlen]
    exact ⟨by omega, h.1 k hk, hs⟩
  · rw [h1, hat _ (Nat.le_refl _), hlen]; exact Nat.le_refl _
theorem nb_be {n : Nat} (h : n ≤ 1099511627776) : NbOK (beL n 8) ∧ nbN (beL n 8) = n := by
  have hi : I8 (beL n 8) := by
    refine ⟨beL_len n 8, ?_⟩
    show ¬ 127 < (UInt8.ofNat (n / 256 ^ 7)).toNat
    rw [u8_of]
    have h3 : (256 : Nat) ^ 7 = 72057594037927936 := by decide
    rw [h3, Nat.div_eq_of_lt (by omega)]
    decide
  have hv : nbN (beL n 8) = n := by rw [← nbN_yes hi]; exact vK_beL8 (by omega)
  exact ⟨⟨hi, by rw [hv]; exact h⟩, hv⟩
section
variable {x n : Nat} {u : List UInt8}
theorem fr_items (hu : u.length ≤ 7900) : itK (frT x n u) 0 = beL x 8 ∧ itK (frT x n u) 1 = beL n 8 ∧ itK (frT x n u) 2 = u := by
  have hl : ∀ k, k < 3 → (([beL x 8, beL n 8, u] : List (List UInt8)).getD k []).length < 65536 := fun k hk => by have := (fits_fr x n hu).1 k hk; omega
  exact ⟨pk_it 1 _ hl (by decide : 0 < 3), pk_it 1 _ hl (by decide : 1 < 3), pk_it 1 _ hl (by decide : 2 < 3)⟩
theorem fr_FR (h1 : 1 ≤ x) (hx : x ≤ 1099511627776) (h2 : 1 ≤ n) (hn : n ≤ 1099511627776) (hu : u.length ≤ 7900) : FR (frT x n u) := by
  obtain ⟨e0, e1, e2⟩ := fr_items (x := x) (n := n) hu
  have a := nb_be hx
  have b := nb_be hn
  refine ⟨pk_UP (by decide) (fits_fr x n hu), ?_, ?_, ?_, ?_, ?_⟩
  · rw [e0]; exact a.1
  · rw [e1]; exact b.1
  · rw [e0, a.2]; exact h1
  · rw [e1, b.2]; exact h2
  · rw [e2]; exact hu
theorem fr_0 (hx : x ≤ 1099511627776) (hu : u.length ≤ 7900) : nbN (itK (frT x n u) 0) = x := by rw [(fr_items hu).1, (nb_be hx).2]
theorem fr_1 (hn : n ≤ 1099511627776) (hu : u.length ≤ 7900) : nbN (itK (frT x n u) 1) = n := by rw [(fr_items hu).2.1, (nb_be hn).2]
theorem ak_items : itK (akT x n) 0 = beL x 8 ∧ itK (akT x n) 1 = beL n 8 := by
  have hl : ∀ k, k < 2 → (([beL x 8, beL n 8] : List (List UInt8)).getD k []).length < 65536 := fun k hk => by have := (fits_two x n).1 k hk; omega
  exact ⟨pk_it 2 _ hl (by decide : 0 < 2), pk_it 2 _ hl (by decide : 1 < 2)⟩
theorem ak_UP : UP (akT x n) 2 2 := pk_UP (kd := 2) (l := [beL x 8, beL n 8]) (by decide) (fits_two x n)
theorem ak_0 (hx : x ≤ 1099511627776) : NbOK (itK (akT x n) 0) ∧ nbN (itK (akT x n) 0) = x := by rw [ak_items.1]; exact nb_be hx
theorem ak_1 (hn : n ≤ 1099511627776) : NbOK (itK (akT x n) 1) ∧ nbN (itK (akT x n) 1) = n := by rw [ak_items.2]; exact nb_be hn
end
/-- The frames of texts: numbered on from g. -/
def frL (x g : Nat) (l : List (List UInt8)) (k : Nat) : List (List UInt8) := (List.range k).map fun i => frT x (g + i + 1) (l.getD i [])
theorem frL_len (x g : Nat) (l : List (List UInt8)) (k : Nat) : (frL x g l k).length = k := by simp [frL]
theorem frL_one (x g : Nat) (l : List (List UInt8)) : [frT x (g + 0 + 1) (l.getD 0 [])] = frL x g l 1 := rfl
theorem frL_succ (x g : Nat) (l : List (List UInt8)) (k : Nat) : frL x g l k ++ [frT x (g + k + 1) (l.getD k [])] = frL x g l (k + 1) := by unfold frL; rw [List.range_succ, List.map_append]; rfl
theorem frL_get (x g : Nat) (l : List (List UInt8)) (k i : Nat) (h : i < k) : (frL x g l k).getD i [] = frT x (g + i + 1) (l.getD i []) := by
  rw [List.getD_eq_getElem?_getD]; unfold frL; rw [List.getElem?_map, List.getElem?_range h]; rfl
theorem iiu_ok {l : List Int} {k : Nat} {u : List UInt8} (hu : u.length ≤ 7900) : ∀ t, t ∈ iiL l k ++ [u] → OkS t := fun t ht => by
  rcases List.mem_append.1 ht with h | h
  · exact iiL_ok t h
  · rw [List.mem_singleton.1 h]; unfold OkS; omega
section
variable {a n x y : Nat} {u : List UInt8}
theorem tf_eskip0 (hl : x < a) (hk : ¬ n = 1) : lfN a x = a ∧ cmN a n x y = 0 ∧ txN a n x y u = [] ∧ tr (nxP a n x y) = false ∧ erN a x = 0 := by
  have h : ¬ nxP a n x y := fun h => by have := h.2; rw [if_pos hl] at this; omega
  refine ⟨if_pos hl, ?_, if_neg h, tr_f h, if_neg (by omega)⟩
  unfold cmN; repeat' split
  all_goals omega
theorem tf_enew (hl : x < a) (hk : n = 1) : lfN a x = a ∧ cmN a n x y = n ∧ txN a n x y u = u ∧ tr (nxP a n x y) = true ∧ erN a x = 0 := by
  have h : nxP a n x y := ⟨by omega, by rw [if_pos hl]; omega⟩
  refine ⟨if_pos hl, ?_, if_pos h, tr_t h, if_neg (by omega)⟩
  unfold cmN; repeat' split
  all_goals omega
theorem tf_enext (hl : x = a) (hk : n = y + 1) : lfN a x = a ∧ cmN a n x y = n ∧ txN a n x y u = u ∧ tr (nxP a n x y) = true ∧ erN a x = 0 := by
  have h : nxP a n x y := ⟨by omega, by rw [if_neg (by omega)]; exact hk⟩
  refine ⟨by rw [hl]; exact if_neg (by omega), ?_, if_pos h, tr_t h, if_neg (by omega)⟩
  unfold cmN; repeat' split
  all_goals omega
end
theorem mem_le {l : List (List UInt8)} (hm : ∀ t, t ∈ l → t.length ≤ 7900) (k : Nat) : (l.getD k []).length ≤ 7900 := by
  rw [List.getD_eq_getElem?_getD]
  cases hq : l[k]? with
  | none => show 0 ≤ 7900; omega
  | some v => exact hm v (List.mem_of_getElem? hq)
end Go.Proofs.Ytieencpejpeenaa
end
section
namespace Go.Proofs.Ytieencpejpeenaa
open Go.RowKit
open RX
set_option linter.unusedVariables false
set_option linter.unusedSimpArgs false
set_option linter.unnecessarySimpa false
theorem frL_get0 (x : Nat) (l : List (List UInt8)) (k i : Nat) (h : i < k) : (frL x 0 l k).getD i [] = frT x (i + 1) (l.getD i []) := by rw [frL_get x 0 l k i h, Nat.zero_add]
/-- Of the first k texts those that are not too long. -/
def wl (l : List (List UInt8)) (k : Nat) : List (List UInt8) := (l.take k).filter fun u => decide (u.length ≤ 7900)
section
variable {l : List (List UInt8)} {k : Nat}
theorem take_get (h : k < l.length) : l.take (k + 1) = l.take k ++ [l.getD k []] := by
  rw [List.take_add_one, List.getElem?_eq_getElem h, List.getD_eq_getElem?_getD, List.getElem?_eq_getElem h]; rfl
theorem wl_app (h : k < l.length) (hs : (l.getD k []).length ≤ 7900) : wl l k ++ [l.getD k []] = wl l (k + 1) := by
  unfold wl; rw [take_get h, List.filter_append, List.filter_cons_of_pos (by simpa using hs)]; rfl
theorem wl_len (h : k < l.length) (hs : (l.getD k []).length ≤ 7900) : (wl l k).length + 1 = (wl l (k + 1)).length := by rw [← wl_app h hs, List.length_append]; rfl
theorem wl_skip (hs : ¬ (l.getD k []).length ≤ 7900) : wl l (k + 1) = wl l k := by
  by_cases h : k < l.length
  · unfold wl; rw [take_get h, List.filter_append, List.filter_cons_of_neg (by simpa using hs)]; simp
  · unfold wl; rw [List.take_of_length_le (by omega), List.take_of_length_le (by omega)]
theorem wl_none : ∀ {k : Nat}, (∀ j, j < k → ¬ (l.getD j []).length ≤ 7900) → wl l k = []
  | 0, _ => rfl
  | k + 1, h => by rw [wl_skip (h k (by omega)), wl_none fun j hj => h j (by omega)]
theorem wl_first (hb : ∀ j, j < k → ¬ (l.getD j []).length ≤ 7900) (h : k < l.length) (hs : (l.getD k []).length ≤ 7900) : [l.getD k []] = wl l (k + 1) := by
  rw [← wl_app h hs, wl_none hb]; rfl
theorem wl_le : (wl l k).length ≤ k := by unfold wl; exact Nat.le_trans (List.length_filter_le _ _) (by rw [List.length_take]; omega)
theorem wl_all : ∀ t, t ∈ wl l k → t.length ≤ 7900 := fun t ht => by unfold wl at ht; rw [List.mem_filter] at ht; exact of_decide_eq_true ht.2
theorem wl_ok : ∀ t, t ∈ wl l k → OkS t := fun t ht => by have := wl_all t ht; unfold OkS; omega
theorem wl_pos (h : k < l.length) (hs : (l.getD k []).length ≤ 7900) : 1 ≤ (wl l l.length).length := by
  have hm : l.getD k [] ∈ wl l l.length := by
    unfold wl; rw [List.take_length, List.mem_filter]
    refine ⟨?_, by simpa using hs⟩
    rw [List.getD_eq_getElem?_getD, List.getElem?_eq_getElem h]; exact List.getElem_mem h
  exact List.length_pos_of_mem hm
end
section
variable {W L : List (List UInt8)} {g k : Nat}
theorem tk_app (hL : L = W.drop g) (h : k < L.length) : W.take (g + k) ++ [L.getD k []] = W.take (g + (k + 1)) := by
  subst hL
  rw [List.length_drop] at h
  rw [← Nat.add_assoc, take_get (by omega)]
  congr 2
  rw [List.getD_eq_getElem?_getD, List.getElem?_drop, List.getD_eq_getElem?_getD]
theorem tk_first (h : 0 < W.length) : [W.getD 0 []] = W.take 1 := by rw [take_get h]; rfl
theorem drop_mem {p : List UInt8 → Prop} (h : ∀ t, t ∈ L → p t) : ∀ t, t ∈ L.drop k → p t := fun t ht => h t (List.mem_of_mem_drop ht)
end
end Go.Proofs.Ytieencpejpeenaa
end
