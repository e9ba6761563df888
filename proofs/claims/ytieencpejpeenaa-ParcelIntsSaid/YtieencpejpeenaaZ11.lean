/- The numbers that bytes are, in plain Lean: ToInts and the document's ToInts come to the same. No program here. -/
import Derived.Test.YtieencpejpeenaaZ10
namespace Go.Proofs.Ytieencpejpeenaa
set_option linter.unusedVariables false
set_option linter.unusedSimpArgs false
open Go.RowKit Go.Proofs.YtieencpejpeenaaW.PrintWords
open QParcel

/-- The number of j bytes from a place on. -/
def valN (s : ByteArray) (a : Nat) : Nat → Nat
  | 0 => 0
  | j + 1 => 256 * valN s a j + bN s (a + j)
theorem val_step (v b p t : Nat) (h1 : t * p ≤ v) (h2 : v < (t + 1) * p) (hb : b < 256) : t * (p * 256) ≤ 256 * v + b ∧ 256 * v + b < (t + 1) * (p * 256) := by
  rw [← Nat.mul_assoc, ← Nat.mul_assoc]
  generalize t * p = x at *
  generalize (t + 1) * p = y at *
  omega
theorem val_top (s : ByteArray) (a : Nat) : ∀ j, bN s a * 256 ^ j ≤ valN s a (j + 1) ∧ valN s a (j + 1) < (bN s a + 1) * 256 ^ j
  | 0 => by simp [valN]
  | j + 1 => by
    obtain ⟨h1, h2⟩ := val_top s a j
    have := val_step (valN s a (j + 1)) (bN s (a + (j + 1))) (256 ^ j) (bN s a) h1 h2 (bN_lt s _)
    rw [Nat.pow_succ]
    exact this
theorem val_seven (s : ByteArray) (a j : Nat) (hj : j ≤ 7) : valN s a j < 72057594037927936 := by
  cases j with
  | zero => exact (by decide : (0 : Nat) < 72057594037927936)
  | succ j =>
    have h := (val_top s a j).2
    have h1 := bN_lt s a
    have h2 : (bN s a + 1) * 256 ^ j ≤ 256 * 256 ^ 6 := Nat.mul_le_mul (by omega) (Nat.pow_le_pow_right (by omega) (by omega))
    exact Nat.lt_of_lt_of_le h (Nat.le_trans h2 (by decide))
theorem val_pos (s : ByteArray) (a j : Nat) (hj : j ≤ 8) (hp : bN s a ≤ 127) : valN s a j < 9223372036854775808 := by
  cases j with
  | zero => exact (by decide : (0 : Nat) < 9223372036854775808)
  | succ j =>
    have h := (val_top s a j).2
    have h2 : (bN s a + 1) * 256 ^ j ≤ 128 * 256 ^ 7 := Nat.mul_le_mul (by omega) (Nat.pow_le_pow_right (by omega) (by omega))
    exact Nat.lt_of_lt_of_le h (Nat.le_trans h2 (by decide))
theorem val_neg (s : ByteArray) (a : Nat) (hp : 127 < bN s a) : 9223372036854775808 ≤ valN s a 8 ∧ valN s a 8 < 18446744073709551616 := by
  obtain ⟨h1, h2⟩ := val_top s a 7
  have h3 := bN_lt s a
  refine ⟨Nat.le_trans (Nat.le_trans (show 9223372036854775808 ≤ 128 * 256 ^ 7 by decide) (Nat.mul_le_mul_right _ (by omega))) h1, Nat.lt_of_lt_of_le h2 (Nat.le_trans (Nat.mul_le_mul_right _ (show bN s a + 1 ≤ 256 by omega)) (by decide))⟩
theorem or_m (v : Nat) (hv : v < 72057594037927936) : ((wrap64 (wrap64 (v : Int) * 256)) % ((2 ^ 64 : Nat) : Int)).toNat = 256 * v := by unfold wrap64; omega
theorem or_b (b : Nat) (hb : b < 256) : ((wrap64 (b : Int)) % ((2 ^ 64 : Nat) : Int)).toNat = b := by unfold wrap64; omega
theorem w_same (x : Int) : IntKind.i64.wrap x = wrap64 x := by rw [IntKind.wrap_i64]; unfold wrap64; first | rfl | omega
theorem or_wrap (v b : Nat) (hv : v < 72057594037927936) (hb : b < 256) : bits .or .i64 (wrap64 (wrap64 (v : Int) * 256)) (wrap64 (b : Int)) = wrap64 ((256 * v + b : Nat) : Int) := by
  have h : (2 ^ 8 * v ||| b) = 2 ^ 8 * v + b := (Nat.two_pow_add_eq_or_of_lt (i := 8) (b := b) (by omega) v).symm
  have e : bits .or .i64 (wrap64 (wrap64 (v : Int) * 256)) (wrap64 (b : Int)) = IntKind.i64.wrap ((BitVec.ofInt 64 (wrap64 (wrap64 (v : Int) * 256)) ||| BitVec.ofInt 64 (wrap64 (b : Int))).toNat : Int) := rfl
  have e2 : (BitVec.ofInt 64 (wrap64 (wrap64 (v : Int) * 256)) ||| BitVec.ofInt 64 (wrap64 (b : Int))).toNat = 256 * v + b := by
    have e3 : (BitVec.ofInt 64 (wrap64 (wrap64 (v : Int) * 256))).toNat = 256 * v := (BitVec.toNat_ofInt _).trans (or_m v hv)
    have e4 : (BitVec.ofInt 64 (wrap64 (b : Int))).toNat = b := (BitVec.toNat_ofInt _).trans (or_b b hb)
    rw [BitVec.toNat_or, e3, e4]
    exact h
  rw [e, e2, w_same]
/-- What stands from a place on, of d more numbers. -/
def toS (s : ByteArray) : Nat → Nat → List Int → List Int × Int
  | 0, _, l => (l, 0)
  | d + 1, at_, l => if 127 < bN s at_ then ([], 4) else toS s d (at_ + 8) (l ++ [(valN s at_ 8 : Int)])
def toIntsR (s : ByteArray) : List Int × Int := if s.size % 8 = 0 ∧ s.size ≤ 8000 then toS s (s.size / 8) 0 [] else ([], 4)
theorem ti_i (i : Nat) (h : i < 8) : wrap64 ((i : Int) + 1) = ((i + 1 : Nat) : Int) ∧ (i : Int) < 8 ∧ 0 ≤ (i : Int) := by unfold wrap64; omega
theorem ti_s (i z a d : Nat) (h : i < 8) (hz : a + 8 * (d + 1) = z) : (i : Int) < ((z - a : Nat) : Int) ∧ a + i < z := by omega
theorem ti_w (v : Nat) (h1 : 9223372036854775808 ≤ v) (h2 : v < 18446744073709551616) : wrap64 (v : Int) < 0 := by unfold wrap64; omega
theorem ti_p (v : Nat) (h1 : v < 9223372036854775808) : wrap64 (v : Int) = (v : Int) ∧ ¬ (v : Int) < 0 := by unfold wrap64; omega
theorem ti_8 (z a d : Nat) (hz : a + 8 * (d + 1) = z) : 8 ≤ ((z - a : Nat) : Int) := by omega
theorem ti_l1 (s : ByteArray) (a d : Nat) (l : List Int) (hl : l.length ≤ 8000) (hz : a + 8 * (d + 1) = s.size) (r : List Int × Int)
    (h : bN s a ≤ 127 → Ev (fun k => parcel_ToInts.l0 k (s.extract (a + 8) s.size) (l ++ [(valN s a 8 : Int)])) r) (h2 : 127 < bN s a → r = ([], 4)) :
    ∀ j i, i + j = 8 → Ev (fun k => parcel_ToInts.l1 k (s.extract a s.size) l (wrap64 (valN s a i : Int)) (i : Int)) r := by
  intro j
  induction j with
  | zero =>
    intro i hi
    obtain rfl : i = 8 := by omega
    by_cases c : 127 < bN s a
    · rw [h2 c]
      obtain ⟨v1, v2⟩ := val_neg s a c
      have g := ti_w _ v1 v2
      refine Ev.step (f := fun _ => some ([], 4)) (fun k => ?_) (Ev.now _)
      show parcel_ToInts.l1 (k + 1) _ _ _ _ = _
      unfold parcel_ToInts.l1
      rw [if_neg (by decide), if_pos g]
    · have hc : bN s a ≤ 127 := Nat.le_of_not_lt c
      obtain ⟨w1, g⟩ := ti_p _ (val_pos s a 8 (Nat.le_refl _) hc)
      have x1 : (s.extract a s.size).extract 8 (s.extract a s.size).size = s.extract (a + 8) s.size := by
        rw [ext_ext s a 8 _ s.size (Nat.le_refl _) (ext_size s a) (by omega)]
      have g2 : l.length < 17592186044416 := Nat.lt_of_le_of_lt hl (by decide)
      have g3 : 8 ≤ ((s.extract a s.size).size : Int) := by rw [ext_size]; exact ti_8 _ _ d hz
      refine Ev.step (fun k => ?_) (h hc)
      show parcel_ToInts.l1 (k + 1) _ _ _ _ = _
      unfold parcel_ToInts.l1
      rw [if_neg (by decide), w1, if_neg g, if_pos g2, if_pos g3, x1]
  | succ j ih =>
    intro i hi
    have hi8 : i < 8 := by omega
    obtain ⟨w1, g1, g0⟩ := ti_i i hi8
    obtain ⟨g2, g3⟩ := ti_s i s.size a d hi8 hz
    have e1 : bt (s.extract a s.size) (i : Int) = (bN s (a + i) : Int) := by rw [bt_nat, bN_ext s a i g3]
    have w2 := or_wrap (valN s a i) (bN s (a + i)) (val_seven s a i (by omega)) (bN_lt s _)
    have g4 : (i : Int) < ((s.extract a s.size).size : Int) := by rw [ext_size]; exact g2
    refine Ev.step (fun k => ?_) (ih (i + 1) (by omega))
    show parcel_ToInts.l1 (k + 1) _ _ _ _ = _
    conv => lhs; unfold parcel_ToInts.l1
    rw [if_pos g1, if_pos g0, if_pos g4, e1, w2, w1]
    rfl
theorem emp (s : ByteArray) : s.toList = ([] : List UInt8) ↔ s.size = 0 := by
  rw [ByteArray.toList_eq, ← data_length s]
  constructor
  · intro h; rw [h]; rfl
  · intro h; exact List.eq_nil_of_length_eq_zero h
theorem ti_l0 (s : ByteArray) (hs : s.size ≤ 8000) : ∀ d a (l : List Int), a + 8 * d = s.size → l.length + d ≤ 8000 → Ev (fun k => parcel_ToInts.l0 k (s.extract a s.size) l) (toS s d a l) := by
  intro d
  induction d with
  | zero =>
    intro a l ha hl
    have g : (s.extract a s.size).toList = ([] : List UInt8) := (emp _).2 (by rw [ext_size]; omega)
    unfold toS
    refine Ev.step (f := fun _ => some (l, 0)) (fun k => ?_) (Ev.now _)
    show parcel_ToInts.l0 (k + 1) _ _ = _
    unfold parcel_ToInts.l0
    rw [if_pos g]
  | succ d ih =>
    intro a l ha hl
    have g : ¬ (s.extract a s.size).toList = ([] : List UInt8) := fun h => by have := (emp _).1 h; rw [ext_size] at this; omega
    have h1 := ti_l1 s a d l (by omega) ha (toS s (d + 1) a l) (fun hc => by
      have e : toS s (d + 1) a l = toS s d (a + 8) (l ++ [(valN s a 8 : Int)]) := by rw [toS, if_neg (by omega)]
      rw [e]
      exact ih (a + 8) _ (by omega) (by rw [List.length_append]; simp; omega)) (fun hc => by rw [toS, if_pos hc]) 8 0 (by omega)
    refine Ev.step (fun k => ?_) h1
    show parcel_ToInts.l0 (k + 1) _ _ = _
    unfold parcel_ToInts.l0
    rw [if_neg g, show wrap64 ((valN s a 0 : Nat) : Int) = 0 from (by show wrap64 0 = 0; unfold wrap64; decide)]
    rfl
theorem toints_ev (s : ByteArray) : Ev (fun k => parcel_ToInts.f k s) (toIntsR s) := by
  have hj : Ev (fun k => parcel_ToInts.j0 k s true) ([], 4) := by
    refine Ev.step (f := fun _ => some ([], 4)) (fun k => ?_) (Ev.now _)
    show parcel_ToInts.j0 (k + 1) _ _ = _
    unfold parcel_ToInts.j0
    dsimp only
    rw [if_pos rfl]
  unfold toIntsR
  by_cases h8 : s.size % 8 = 0
  · by_cases hs : s.size ≤ 8000
    · rw [if_pos ⟨h8, hs⟩]
      have h := ti_l0 s hs (s.size / 8) 0 [] (by omega) (by simp; omega)
      have e : s.extract 0 s.size = s := by apply D_inj; rw [D_extract, List.drop_zero, Nat.sub_zero, ← D_size, List.take_length]
      rw [e] at h
      have hj2 : Ev (fun k => parcel_ToInts.j0 k s false) (toS s (s.size / 8) 0 []) := by
        refine Ev.step (fun k => ?_) h
        show parcel_ToInts.j0 (k + 1) _ _ = _
        unfold parcel_ToInts.j0
        dsimp only
        rw [if_neg (by simp)]
      refine Ev.congr (fun k => ?_) hj2
      show parcel_ToInts.f k s = _
      unfold parcel_ToInts.f
      rw [if_pos (by omega), decide_eq_false (by omega)]
    · rw [if_neg (fun h => hs h.2)]
      refine Ev.congr (fun k => ?_) hj
      show parcel_ToInts.f k s = _
      unfold parcel_ToInts.f
      rw [if_pos (by omega), decide_eq_true (by omega)]
  · rw [if_neg (fun h => h8 h.1)]
    refine Ev.congr (fun k => ?_) hj
    show parcel_ToInts.f k s = _
    unfold parcel_ToInts.f
    rw [if_neg (by omega)]
/-! ### The document's -/
theorem ri_w (v b : Nat) (h : 256 * v + b < 9223372036854775808) : wrap64 (wrap64 (256 * (v : Int)) + wrap64 (b : Int)) = ((256 * v + b : Nat) : Int) := by unfold wrap64; omega
theorem ri_a (a i z d : Nat) (hi : i < 8) (hz : a + 8 * (d + 1) = z) (hs : z ≤ 8000) : ((a + i : Nat) : Int) < wrap64 ((a : Int) + 8) ∧ 0 ≤ ((a + i : Nat) : Int) ∧ ((a + i : Nat) : Int) < (z : Int) ∧ wrap64 (((a + i : Nat) : Int) + 1) = ((a + (i + 1) : Nat) : Int) := by unfold wrap64; omega
theorem ri_e (a z d : Nat) (hz : a + 8 * (d + 1) = z) (hs : z ≤ 8000) : ¬ ((a + 8 : Nat) : Int) < wrap64 ((a : Int) + 8) ∧ wrap64 ((a : Int) + 8) = ((a + 8 : Nat) : Int) := by unfold wrap64; omega
theorem rti_l1 (s : ByteArray) (hs : s.size ≤ 8000) (a d : Nat) (l : List Int) (hl : l.length ≤ 8000) (hz : a + 8 * (d + 1) = s.size) (hp : bN s a ≤ 127) (r : List Int × Int)
    (h : Ev (fun k => wardmoteref09_ToInts.l0 k s (l ++ [(valN s a 8 : Int)]) ((a + 8 : Nat) : Int)) r) :
    ∀ j i, i + j = 8 → Ev (fun k => wardmoteref09_ToInts.l1 k s l (a : Int) (valN s a i : Int) ((a + i : Nat) : Int)) r := by
  intro j
  induction j with
  | zero =>
    intro i hi
    obtain rfl : i = 8 := by omega
    obtain ⟨g1, w1⟩ := ri_e a s.size d hz hs
    have g2 : l.length < 17592186044416 := Nat.lt_of_le_of_lt hl (by decide)
    refine Ev.step (fun k => ?_) h
    show wardmoteref09_ToInts.l1 (k + 1) _ _ _ _ _ = _
    unfold wardmoteref09_ToInts.l1
    rw [if_neg g1, if_pos g2, w1]
  | succ j ih =>
    intro i hi
    obtain ⟨g1, g0, g2, w1⟩ := ri_a a i s.size d (by omega) hz hs
    have hv : 256 * valN s a i + bN s (a + i) < 9223372036854775808 := val_pos s a (i + 1) (by omega) hp
    have w2 := ri_w _ _ hv
    refine Ev.step (fun k => ?_) (ih (i + 1) (by omega))
    show wardmoteref09_ToInts.l1 (k + 1) _ _ _ _ _ = _
    conv => lhs; unfold wardmoteref09_ToInts.l1
    rw [if_pos g1, if_pos g0, if_pos g2, bt_nat, w2, w1]
    rfl
theorem rti_l0 (s : ByteArray) (hs : s.size ≤ 8000) : ∀ d a (l : List Int), a + 8 * d = s.size → l.length + d ≤ 8000 → Ev (fun k => wardmoteref09_ToInts.l0 k s l (a : Int)) (toS s d a l) := by
  intro d
  induction d with
  | zero =>
    intro a l ha hl
    unfold toS
    refine Ev.step (f := fun _ => some (l, 0)) (fun k => ?_) (Ev.now _)
    show wardmoteref09_ToInts.l0 (k + 1) _ _ _ = _
    unfold wardmoteref09_ToInts.l0
    rw [if_neg (by omega)]
  | succ d ih =>
    intro a l ha hl
    have g1 : (a : Int) < (s.size : Int) := by omega
    have g0 : 0 ≤ (a : Int) := Int.natCast_nonneg _
    by_cases c : 127 < bN s a
    · rw [toS, if_pos c]
      refine Ev.step (f := fun _ => some ([], 4)) (fun k => ?_) (Ev.now _)
      show wardmoteref09_ToInts.l0 (k + 1) _ _ _ = _
      unfold wardmoteref09_ToInts.l0
      rw [if_pos g1, if_pos g0, bt_nat, if_pos (by omega)]
    · rw [toS, if_neg c]
      have h1 := rti_l1 s hs a d l (by omega) ha (Nat.le_of_not_lt c) _ (ih (a + 8) (l ++ [(valN s a 8 : Int)]) (by omega) (by rw [List.length_append]; simp; omega)) 8 0 (by omega)
      refine Ev.step (fun k => ?_) h1
      show wardmoteref09_ToInts.l0 (k + 1) _ _ _ = _
      unfold wardmoteref09_ToInts.l0
      rw [if_pos g1, if_pos g0, bt_nat, if_neg (by omega)]
      rfl
theorem rtoints_ev (s : ByteArray) : Ev (fun k => wardmoteref09_ToInts.f k s) (toIntsR s) := by
  have hj : Ev (fun k => wardmoteref09_ToInts.j0 k s true) ([], 4) := by
    refine Ev.step (f := fun _ => some ([], 4)) (fun k => ?_) (Ev.now _)
    show wardmoteref09_ToInts.j0 (k + 1) _ _ = _
    unfold wardmoteref09_ToInts.j0
    dsimp only
    rw [if_pos rfl]
  unfold toIntsR
  by_cases h8 : s.size % 8 = 0
  · by_cases hs : s.size ≤ 8000
    · rw [if_pos ⟨h8, hs⟩]
      have h := rti_l0 s hs (s.size / 8) 0 [] (by omega) (by simp; omega)
      have hj2 : Ev (fun k => wardmoteref09_ToInts.j0 k s false) (toS s (s.size / 8) 0 []) := by
        refine Ev.step (fun k => ?_) h
        show wardmoteref09_ToInts.j0 (k + 1) _ _ = _
        unfold wardmoteref09_ToInts.j0
        dsimp only
        rw [if_neg (by simp)]
        rfl
      refine Ev.congr (fun k => ?_) hj2
      show wardmoteref09_ToInts.f k s = _
      unfold wardmoteref09_ToInts.f
      rw [if_pos (by omega), decide_eq_false (by omega)]
    · rw [if_neg (fun h => hs h.2)]
      refine Ev.congr (fun k => ?_) hj
      show wardmoteref09_ToInts.f k s = _
      unfold wardmoteref09_ToInts.f
      rw [if_pos (by omega), decide_eq_true (by omega)]
  · rw [if_neg (fun h => h8 h.1)]
    refine Ev.congr (fun k => ?_) hj
    show wardmoteref09_ToInts.f k s = _
    unfold wardmoteref09_ToInts.f
    rw [if_neg (by omega)]
end Go.Proofs.Ytieencpejpeenaa
