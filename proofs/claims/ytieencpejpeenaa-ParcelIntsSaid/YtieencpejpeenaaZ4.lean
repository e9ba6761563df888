/- Records as bytes, in plain Lean: what Unpack and the document's Unpack come to. No program here. -/
import Derived.Test.YtieencpejpeenaaZ3
import Derived.Test.YtieencpejpeenaaQParcelx5
namespace Go.Proofs.Ytieencpejpeenaa
set_option linter.unusedVariables false
set_option linter.unusedSimpArgs false
open Go.RowKit Go.Proofs.YtieencpejpeenaaW.PrintWords
open QParcel

/-- Byte i. -/
def bN (s : ByteArray) (i : Nat) : Nat := if h : i < s.size then (s[i]'h).toNat else 0
theorem bN_lt (s : ByteArray) (i : Nat) : bN s i < 256 := by unfold bN; split; exact UInt8.toNat_lt _; omega
theorem bt_nat (s : ByteArray) (i : Nat) : bt s (i : Int) = (bN s i : Int) := by
  unfold bt bN
  rw [Int.toNat_natCast]
  split <;> rfl
/-- The length that stands at a place. -/
def lenAt (s : ByteArray) (i : Nat) : Nat := 256 * bN s i + bN s (i + 1)
theorem lenAt_lt (s : ByteArray) (i : Nat) : lenAt s i < 65536 := by unfold lenAt; have := bN_lt s i; have := bN_lt s (i + 1); omega
/-- What stands from a place on, of d more items. -/
def unpS (s : ByteArray) : Nat → Nat → List ByteArray → Int × List ByteArray × Int
  | 0, at_, l => if at_ < s.size then (0, [], 4) else ((bN s 0 : Int), l, 0)
  | d + 1, at_, l => if s.size < at_ + 2 then (0, [], 90) else if 8000 < lenAt s at_ then (0, [], 2) else if s.size < at_ + 2 + lenAt s at_ then (0, [], 90) else unpS s d (at_ + 2 + lenAt s at_) (l ++ [s.extract (at_ + 2) (at_ + 2 + lenAt s at_)])
def unpackR (s : ByteArray) : Int × List ByteArray × Int :=
  if 20000 < s.size then (0, [], 2) else if s.size < 2 then (0, [], 90) else if bN s 0 < 1 ∨ 63 < bN s 0 ∨ 40 < bN s 1 then (0, [], 4) else unpS s (bN s 1) 2 []
theorem ext_size (s : ByteArray) (a : Nat) : (s.extract a s.size).size = s.size - a := by rw [ByteArray.size_extract]; omega
theorem bN_ext (s : ByteArray) (a i : Nat) (h : a + i < s.size) : bN (s.extract a s.size) i = bN s (a + i) := by
  have h1 : i < (s.extract a s.size).size := by rw [ext_size]; omega
  unfold bN
  rw [dif_pos h1, dif_pos h]
  simp [ByteArray.getElem_eq_getElem_data]
theorem or_low (a b : Nat) (ha : a < 256) (hb : b < 256) : bits .or .i64 (256 * (a : Int)) (b : Int) = ((256 * a + b : Nat) : Int) := by
  have h : (2 ^ 8 * a ||| b) = 2 ^ 8 * a + b := (Nat.two_pow_add_eq_or_of_lt (i := 8) (b := b) (by omega) a).symm
  have e : bits .or .i64 (256 * (a : Int)) (b : Int) = IntKind.i64.wrap ((BitVec.ofInt 64 (256 * (a : Int)) ||| BitVec.ofInt 64 (b : Int)).toNat : Int) := rfl
  rw [e]
  have e1 : BitVec.ofInt 64 (256 * (a : Int)) = BitVec.ofNat 64 (256 * a) := by rw [show (256 * (a : Int)) = ((256 * a : Nat) : Int) by omega, BitVec.ofInt_natCast]
  rw [e1, BitVec.ofInt_natCast, BitVec.toNat_or, BitVec.toNat_ofNat, BitVec.toNat_ofNat, Nat.mod_eq_of_lt (by omega), Nat.mod_eq_of_lt (by omega)]
  rw [show 256 * a = 2 ^ 8 * a by omega, h, IntKind.wrap_i64]
  omega
/-! ### Sums that do not wrap -/
theorem un_w (z a i n L d : Nat) (h2 : 2 ≤ z) (hm : z ≤ 20000) (hi : i + (d + 1) = n) (hn : n < 256) (ha : a ≤ z) (hL : L < 65536) :
    (1 : Int) < (z : Int) ∧ (i : Int) < (n : Int) ∧ wrap64 ((z : Int) - (a : Int)) = (z : Int) - (a : Int) ∧ wrap64 ((a : Int) + 1) = ((a + 1 : Nat) : Int) ∧ wrap64 ((i : Int) + 1) = ((i + 1 : Nat) : Int) ∧
    wrap64 ((a : Int) + 2) = ((a + 2 : Nat) : Int) ∧ wrap64 (((a + 2 : Nat) : Int) + (L : Int)) = ((a + 2 + L : Nat) : Int) ∧ wrap64 ((z : Int) - (a : Int) - 2) = (z : Int) - (a : Int) - 2 := by
  unfold wrap64; omega
theorem un_len (a b : Nat) (ha : a < 256) (hb : b < 256) : wrap64 (wrap64 (256 * wrap64 (a : Int)) + wrap64 (b : Int)) = ((256 * a + b : Nat) : Int) := by
  unfold wrap64; omega
theorem un_a (z a : Nat) (h : ¬ z < a + 2) : ¬ (z : Int) - (a : Int) < 2 ∧ 0 ≤ (a : Int) ∧ (a : Int) < (z : Int) ∧ 0 ≤ ((a + 1 : Nat) : Int) ∧ ((a + 1 : Nat) : Int) < (z : Int) := by omega
theorem un_a1 (z a : Nat) (h : z < a + 2) : (z : Int) - (a : Int) < 2 := by omega
theorem un_b1 (L : Nat) (h : 8000 < L) : (L : Int) > 8000 := by omega
theorem un_b0 (L : Nat) (h : ¬ 8000 < L) : ¬ (L : Int) > 8000 := by omega
theorem un_c1 (z a L : Nat) (h : z < a + 2 + L) : (z : Int) - (a : Int) - 2 < (L : Int) := by omega
theorem un_c0 (z a L : Nat) (h : ¬ z < a + 2 + L) : ¬ (z : Int) - (a : Int) - 2 < (L : Int) ∧ 0 ≤ ((a + 2 : Nat) : Int) ∧ ((a + 2 : Nat) : Int) ≤ ((a + 2 + L : Nat) : Int) ∧ ((a + 2 + L : Nat) : Int) ≤ (z : Int) ∧ a + 2 + L ≤ z := by omega
theorem un_n (n : Nat) (h : n < 256) : wrap64 (n : Int) = (n : Int) := by unfold wrap64; omega
/-! ### The document's -/
theorem runp_l0 (s : ByteArray) (h2 : 2 ≤ s.size) (hm : s.size ≤ 20000) (n : Nat) (hn : n < 256) (e0 : wrap64 (bt s 1) = (n : Int)) : ∀ d i at_ (l : List ByteArray), i + d = n → l.length = i → at_ ≤ s.size →
    Ev (fun k => wardmoteref09_Unpack.l0 k s (at_ : Int) (i : Int) (bN s 0 : Int) l) (unpS s d at_ l) := by
  intro d
  induction d with
  | zero =>
    intro i at_ l hi hl ha
    unfold unpS
    have g1 : (1 : Int) < (s.size : Int) := by omega
    have g2 : ¬ (i : Int) < (n : Int) := by omega
    refine Ev.step (f := fun _ => some (if at_ < s.size then (0, [], 4) else ((bN s 0 : Int), l, 0))) (fun k => ?_) (Ev.now _)
    show wardmoteref09_Unpack.l0 (k + 1) _ _ _ _ _ = _
    unfold wardmoteref09_Unpack.l0
    rw [if_pos g1, e0, if_neg g2]
    by_cases h : at_ < s.size
    · have g3 : (at_ : Int) < (s.size : Int) := Int.ofNat_lt.2 h
      rw [if_pos g3, if_pos h]
    · have g3 : ¬ (at_ : Int) < (s.size : Int) := fun h' => h (Int.ofNat_lt.1 h')
      rw [if_neg g3, if_neg h]
  | succ d ih =>
    intro i at_ l hi hl ha
    unfold unpS
    obtain ⟨g1, g2, w1, w2, w3, w5, w6, w7⟩ := un_w s.size at_ i n (lenAt s at_) d h2 hm hi hn ha (lenAt_lt s at_)
    have w4 : wrap64 (wrap64 (256 * wrap64 (bt s (at_ : Int))) + wrap64 (bt s ((at_ + 1 : Nat) : Int))) = (lenAt s at_ : Int) := by
      rw [bt_nat, bt_nat]; exact un_len _ _ (bN_lt s at_) (bN_lt s (at_ + 1))
    by_cases c1 : s.size < at_ + 2
    · have g3 := un_a1 _ _ c1
      rw [if_pos c1]
      refine Ev.step (f := fun _ => some (0, [], 90)) (fun k => ?_) (Ev.now _)
      show wardmoteref09_Unpack.l0 (k + 1) _ _ _ _ _ = _
      unfold wardmoteref09_Unpack.l0
      rw [if_pos g1, e0, if_pos g2, w1, if_pos g3]
    · obtain ⟨g3, g4, g5, g6, g7⟩ := un_a _ _ c1
      rw [if_neg c1]
      by_cases c2 : 8000 < lenAt s at_
      · have g8 := un_b1 _ c2
        rw [if_pos c2]
        refine Ev.step (f := fun _ => some (0, [], 2)) (fun k => ?_) (Ev.now _)
        show wardmoteref09_Unpack.l0 (k + 1) _ _ _ _ _ = _
        unfold wardmoteref09_Unpack.l0
        rw [if_pos g1, e0, if_pos g2, w1, if_neg g3, if_pos g4, if_pos g5, w2, if_pos g6, if_pos g7, w4, if_pos g8]
      · have g8 := un_b0 _ c2
        rw [if_neg c2]
        by_cases c3 : s.size < at_ + 2 + lenAt s at_
        · have g9 := un_c1 _ _ _ c3
          rw [if_pos c3]
          refine Ev.step (f := fun _ => some (0, [], 90)) (fun k => ?_) (Ev.now _)
          show wardmoteref09_Unpack.l0 (k + 1) _ _ _ _ _ = _
          unfold wardmoteref09_Unpack.l0
          rw [if_pos g1, e0, if_pos g2, w1, if_neg g3, if_pos g4, if_pos g5, w2, if_pos g6, if_pos g7, w4, if_neg g8, w7, if_pos g9]
        · obtain ⟨g9, g10, g11, g12, g14⟩ := un_c0 _ _ _ c3
          have g13 : l.length < 8796093022208 := Nat.lt_of_le_of_lt (by omega : l.length ≤ 256) (by decide)
          rw [if_neg c3]
          refine Ev.step (fun k => ?_) (ih (i + 1) (at_ + 2 + lenAt s at_) (l ++ [s.extract (at_ + 2) (at_ + 2 + lenAt s at_)]) (by rw [← hi]; ac_rfl) (by rw [List.length_append, hl]; rfl) g14)
          show wardmoteref09_Unpack.l0 (k + 1) _ _ _ _ _ = _
          conv => lhs; unfold wardmoteref09_Unpack.l0
          rw [if_pos g1, e0, if_pos g2, w1, if_neg g3, if_pos g4, if_pos g5, w2, if_pos g6, if_pos g7, w4, if_neg g8, w7, if_neg g9, w5, if_pos g10, w6, if_pos g11, if_pos g12, if_pos g13, w3, Int.toNat_natCast, Int.toNat_natCast]
theorem runpack_ev (s : ByteArray) : Ev (fun k => wardmoteref09_Unpack.f k s) (unpackR s) := by
  have b0 : bt s 0 = (bN s 0 : Int) := bt_nat s 0
  have b1 : bt s 1 = (bN s 1 : Int) := bt_nat s 1
  have l0 := bN_lt s 0
  unfold unpackR
  by_cases c1 : 20000 < s.size
  · rw [if_pos c1]
    refine Ev.congr (fun k => ?_) (Ev.now _)
    show wardmoteref09_Unpack.f k s = _
    unfold wardmoteref09_Unpack.f
    rw [if_pos (by omega)]
  · rw [if_neg c1]
    by_cases c2 : s.size < 2
    · rw [if_pos c2]
      refine Ev.congr (fun k => ?_) (Ev.now _)
      show wardmoteref09_Unpack.f k s = _
      unfold wardmoteref09_Unpack.f
      rw [if_neg (by omega), if_pos (by omega)]
    · rw [if_neg c2]
      have hj : Ev (fun k => wardmoteref09_Unpack.j0 k s true) (0, [], 4) := by
        refine Ev.step (f := fun _ => some (0, [], 4)) (fun k => ?_) (Ev.now _)
        show wardmoteref09_Unpack.j0 (k + 1) _ _ = _
        unfold wardmoteref09_Unpack.j0
        dsimp only
        rw [if_pos rfl]
      by_cases c3 : bN s 0 < 1 ∨ 63 < bN s 0 ∨ 40 < bN s 1
      · rw [if_pos c3]
        refine Ev.congr (fun k => ?_) hj
        show wardmoteref09_Unpack.f k s = _
        unfold wardmoteref09_Unpack.f
        rw [if_neg (by omega), if_neg (by omega), if_pos (by omega), b0, b1]
        by_cases d1 : bN s 0 < 1
        · rw [if_pos (by omega)]
        · rw [if_neg (by omega)]
          by_cases d2 : 63 < bN s 0
          · rw [if_pos (by omega)]
          · rw [if_neg (by omega), if_pos (by omega), decide_eq_true (by omega)]
      · rw [if_neg c3]
        have h := runp_l0 s (by omega) (by omega) (bN s 1) (bN_lt s 1) (by rw [b1]; exact un_n _ (bN_lt s 1)) (bN s 1) 0 2 [] (by omega) rfl (by omega)
        have hj2 : Ev (fun k => wardmoteref09_Unpack.j0 k s false) (unpS s (bN s 1) 2 []) := by
          refine Ev.step (fun k => ?_) h
          show wardmoteref09_Unpack.j0 (k + 1) _ _ = _
          unfold wardmoteref09_Unpack.j0
          dsimp only
          have g : (0 : Int) < (s.size : Int) := by omega
          rw [if_neg (by simp), if_pos g, b0, un_n _ l0]
          rfl
        refine Ev.congr (fun k => ?_) hj2
        show wardmoteref09_Unpack.f k s = _
        unfold wardmoteref09_Unpack.f
        rw [if_neg (by omega), if_neg (by omega), if_pos (by omega), b0, b1, if_neg (by omega), if_neg (by omega), if_pos (by omega), decide_eq_false (by omega)]
end Go.Proofs.Ytieencpejpeenaa
