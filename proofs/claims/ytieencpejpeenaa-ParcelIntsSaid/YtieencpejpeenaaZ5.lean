/- Records as bytes, in plain Lean: the program's Unpack comes to the same. No program here. -/
import Derived.Test.YtieencpejpeenaaZ4
import Derived.Test.YtieencpejpeenaaQParcelx3
namespace Go.Proofs.Ytieencpejpeenaa
set_option linter.unusedVariables false
set_option linter.unusedSimpArgs false
open Go.RowKit Go.Proofs.YtieencpejpeenaaW.PrintWords
open QParcel

theorem ext_ext (s : ByteArray) (a x y z : Nat) (hz : z ≤ s.size) (hy : y = z - a) (ha : a ≤ z) : (s.extract a s.size).extract x y = s.extract (a + x) z := by
  apply ByteArray.ext
  simp only [ByteArray.data_extract, Array.extract_extract]
  congr 1
  have : s.data.size = s.size := rfl
  omega
theorem isE (s : ByteArray) : (s.toList != ([] : List UInt8)) = decide (0 < s.size) := by
  rw [ByteArray.toList_eq]
  have : s.size = s.data.toList.length := (data_length s).symm
  rw [this]
  cases s.data.toList <;> simp
theorem uj_err (s x5 : ByteArray) (e : Int) (he : ¬ e = 0) (l : List ByteArray) : Ev (fun k => parcel_Unpack.j1 k s x5 e l) (0, [], e) := by
  refine Ev.step (f := fun k => parcel_Unpack.j2 k s e l false) (fun k => ?_) ?_
  · show parcel_Unpack.j1 (k + 1) _ _ _ _ = _
    unfold parcel_Unpack.j1
    dsimp only
    rw [if_neg he]
  · refine Ev.step (f := fun _ => some (0, [], e)) (fun k => ?_) (Ev.now _)
    show parcel_Unpack.j2 (k + 1) _ _ _ _ = _
    unfold parcel_Unpack.j2
    dsimp only
    rw [if_neg (by simp), if_neg he]
theorem uj_end (s x5 : ByteArray) (l : List ByteArray) (hs : 0 < s.size) : Ev (fun k => parcel_Unpack.j1 k s x5 0 l) (if 0 < x5.size then (0, [], 4) else ((bN s 0 : Int), l, 0)) := by
  have b0 : wrap64 (bt s 0) = (bN s 0 : Int) := by rw [show bt s 0 = (bN s 0 : Int) from bt_nat s 0]; exact un_n _ (bN_lt s 0)
  have g : 0 < (s.size : Int) := Int.ofNat_lt.2 hs
  refine Ev.step (f := fun k => parcel_Unpack.j2 k s 0 l (decide (0 < x5.size))) (fun k => ?_) ?_
  · show parcel_Unpack.j1 (k + 1) _ _ _ _ = _
    unfold parcel_Unpack.j1
    dsimp only
    rw [if_pos rfl, isE]
  · refine Ev.step (f := fun _ => some (if 0 < x5.size then (0, [], 4) else ((bN s 0 : Int), l, 0))) (fun k => ?_) (Ev.now _)
    show parcel_Unpack.j2 (k + 1) _ _ _ _ = _
    unfold parcel_Unpack.j2
    dsimp only
    by_cases h : 0 < x5.size
    · rw [decide_eq_true h, if_pos rfl, if_neg (by decide), if_pos h]
    · rw [decide_eq_false h, if_neg (by simp), if_pos rfl, if_pos g, b0, if_neg h]
theorem up_or (a b : Nat) (ha : a < 256) (hb : b < 256) : bits .or .i64 (wrap64 (wrap64 (a : Int) * 256)) (wrap64 (b : Int)) = ((256 * a + b : Nat) : Int) := by
  have e1 : wrap64 (wrap64 (a : Int) * 256) = 256 * (a : Int) := by unfold wrap64; omega
  rw [e1, un_n b hb, or_low a b ha hb]
theorem up_a (z a : Nat) (ha : a ≤ z) (h : ¬ z < a + 2) : ¬ ((z - a : Nat) : Int) < 2 ∧ 0 < ((z - a : Nat) : Int) ∧ 1 < ((z - a : Nat) : Int) := by omega
theorem up_a1 (z a : Nat) (h : z < a + 2) : ((z - a : Nat) : Int) < 2 := by omega
theorem up_w (L : Nat) (h : L < 65536) : wrap64 (2 + (L : Int)) = ((2 + L : Nat) : Int) ∧ 2 ≤ ((2 + L : Nat) : Int) ∧ 0 ≤ ((2 + L : Nat) : Int) := by unfold wrap64; omega
theorem up_c1 (z a L : Nat) (ha : a ≤ z) (h : z < a + 2 + L) : ((z - a : Nat) : Int) < ((2 + L : Nat) : Int) := by omega
theorem up_c0 (z a L : Nat) (ha : a ≤ z) (h : ¬ z < a + 2 + L) : ¬ ((z - a : Nat) : Int) < ((2 + L : Nat) : Int) ∧ ((2 + L : Nat) : Int) ≤ ((z - a : Nat) : Int) ∧ a + 2 + L ≤ z := by omega
theorem up_z (a L : Nat) : 2 + L = a + 2 + L - a ∧ a ≤ a + 2 + L := by omega
theorem up_d (i d n : Nat) (h : i + (d + 1) = n) : i + 1 + d = n := by omega
theorem up_in (i d n : Nat) (h : i + (d + 1) = n) : i < n := by omega
theorem up_s0 (z a : Nat) (h : ¬ z < a + 2) : a + 0 < z ∧ a + 1 < z := by omega
theorem up_l (i n : Nat) (h : i < n) (hn : n < 256) : i < 8796093022208 := Nat.lt_trans h (Nat.lt_of_lt_of_le hn (by decide))
theorem up_i (i n : Nat) (h : i < n) (hn : n < 256) : ((i : Int) + 1) % 256 = ((i + 1 : Nat) : Int) := by omega
theorem up_l0 (s : ByteArray) (h2 : 2 ≤ s.size) (n : Nat) (hn : n < 256) : ∀ d i at_ (l : List ByteArray), i + d = n → l.length = i → at_ ≤ s.size →
    Ev (fun k => parcel_Unpack.l0 k s (s.extract at_ s.size) 0 l (n : Int) (i : Int)) (unpS s d at_ l) := by
  intro d
  induction d with
  | zero =>
    intro i at_ l hi hl ha
    unfold unpS
    have g2 : ¬ (i : Int) < (n : Int) := by omega
    have h := uj_end s (s.extract at_ s.size) l (by omega)
    have e : (if 0 < (s.extract at_ s.size).size then ((0 : Int), ([] : List ByteArray), (4 : Int)) else ((bN s 0 : Int), l, 0)) = (if at_ < s.size then (0, [], 4) else ((bN s 0 : Int), l, 0)) := by
      rw [ext_size]
      by_cases h : at_ < s.size
      · rw [if_pos h, if_pos (by omega)]
      · rw [if_neg h, if_neg (by omega)]
    rw [e] at h
    refine Ev.step (fun k => ?_) h
    show parcel_Unpack.l0 (k + 1) _ _ _ _ _ _ = _
    unfold parcel_Unpack.l0
    rw [if_neg g2]
  | succ d ih =>
    intro i at_ l hi hl ha
    unfold unpS
    have hin := up_in i d n hi
    have g2 : (i : Int) < (n : Int) := Int.ofNat_lt.2 hin
    have hL := lenAt_lt s at_
    by_cases c1 : s.size < at_ + 2
    · have g3 := up_a1 _ _ c1
      rw [if_pos c1]
      refine Ev.step (fun k => ?_) (uj_err s (s.extract at_ s.size) 90 (by decide) l)
      show parcel_Unpack.l0 (k + 1) _ _ _ _ _ _ = _
      unfold parcel_Unpack.l0
      rw [if_pos g2, ext_size, if_pos g3]
    · obtain ⟨g3, g4, g5⟩ := up_a _ _ ha c1
      have e0 : bt (s.extract at_ s.size) 0 = (bN s at_ : Int) := by rw [show bt (s.extract at_ s.size) 0 = (bN (s.extract at_ s.size) 0 : Int) from bt_nat _ 0, bN_ext s at_ 0 (up_s0 _ _ c1).1, Nat.add_zero]
      have e1 : bt (s.extract at_ s.size) 1 = (bN s (at_ + 1) : Int) := by rw [show bt (s.extract at_ s.size) 1 = (bN (s.extract at_ s.size) 1 : Int) from bt_nat _ 1, bN_ext s at_ 1 (up_s0 _ _ c1).2]
      have w4 : bits .or .i64 (wrap64 (wrap64 (bt (s.extract at_ s.size) 0) * 256)) (wrap64 (bt (s.extract at_ s.size) 1)) = (lenAt s at_ : Int) := by
        rw [e0, e1]; exact up_or _ _ (bN_lt s at_) (bN_lt s (at_ + 1))
      obtain ⟨w5, g10, g11⟩ := up_w _ hL
      rw [if_neg c1]
      by_cases c2 : 8000 < lenAt s at_
      · have g8 := un_b1 _ c2
        rw [if_pos c2]
        refine Ev.step (fun k => ?_) (uj_err s (s.extract at_ s.size) 2 (by decide) l)
        show parcel_Unpack.l0 (k + 1) _ _ _ _ _ _ = _
        unfold parcel_Unpack.l0
        rw [if_pos g2, w4, ext_size, if_neg g3, if_pos g4, if_pos g5, if_pos g8]
      · have g8 := un_b0 _ c2
        rw [if_neg c2]
        by_cases c3 : s.size < at_ + 2 + lenAt s at_
        · have g9 := up_c1 _ _ _ ha c3
          rw [if_pos c3]
          refine Ev.step (fun k => ?_) (uj_err s (s.extract at_ s.size) 90 (by decide) l)
          show parcel_Unpack.l0 (k + 1) _ _ _ _ _ _ = _
          unfold parcel_Unpack.l0
          rw [if_pos g2, w4, w5, ext_size, if_neg g3, if_pos g4, if_pos g5, if_neg g8, if_pos g9]
        · obtain ⟨g9, g12, g14⟩ := up_c0 _ _ _ ha c3
          have g13 : l.length < 8796093022208 := by rw [hl]; exact up_l i n hin hn
          rw [if_neg c3]
          have x1 : (s.extract at_ s.size).extract (2 + lenAt s at_) (s.size - at_) = s.extract (at_ + 2 + lenAt s at_) s.size := by
            rw [ext_ext s at_ _ _ s.size (Nat.le_refl _) rfl ha, Nat.add_assoc]
          have x2 : (s.extract at_ s.size).extract 2 (2 + lenAt s at_) = s.extract (at_ + 2) (at_ + 2 + lenAt s at_) :=
            ext_ext s at_ 2 (2 + lenAt s at_) (at_ + 2 + lenAt s at_) g14 (up_z _ _).1 (up_z _ _).2
          refine Ev.step (fun k => ?_) (ih (i + 1) (at_ + 2 + lenAt s at_) (l ++ [s.extract (at_ + 2) (at_ + 2 + lenAt s at_)]) (up_d i d n hi) (by rw [List.length_append, hl]; rfl) g14)
          show parcel_Unpack.l0 (k + 1) _ _ _ _ _ _ = _
          conv => lhs; unfold parcel_Unpack.l0
          rw [if_pos g2, w4, w5, ext_size, if_neg g3, if_pos g4, if_pos g5, if_neg g8, if_neg g9, if_pos g10, if_pos g12, if_pos g13, if_pos g11, up_i i n hin hn, Int.toNat_natCast, x1, x2]
theorem unpack_ev (s : ByteArray) : Ev (fun k => parcel_Unpack.f k s) (unpackR s) := by
  have b0 : wrap64 (bt s 0) = (bN s 0 : Int) := by rw [show bt s 0 = (bN s 0 : Int) from bt_nat s 0]; exact un_n _ (bN_lt s 0)
  have b1 : bt s 1 = (bN s 1 : Int) := bt_nat s 1
  have l0 := bN_lt s 0
  unfold unpackR
  by_cases c1 : 20000 < s.size
  · rw [if_pos c1]
    refine Ev.congr (fun k => ?_) (Ev.now _)
    show parcel_Unpack.f k s = _
    unfold parcel_Unpack.f
    rw [if_pos (by omega)]
  · rw [if_neg c1]
    by_cases c2 : s.size < 2
    · rw [if_pos c2]
      refine Ev.congr (fun k => ?_) (Ev.now _)
      show parcel_Unpack.f k s = _
      unfold parcel_Unpack.f
      rw [if_neg (by omega), if_pos (by omega)]
    · rw [if_neg c2]
      by_cases c3 : bN s 0 < 1 ∨ 63 < bN s 0 ∨ 40 < bN s 1
      · rw [if_pos c3]
        refine Ev.congr (fun k => ?_) (Ev.now _)
        show parcel_Unpack.f k s = _
        unfold parcel_Unpack.f parcel_kind.f
        rw [if_neg (by omega), if_neg (by omega), if_pos (by omega), b0, b1]
        by_cases d1 : bN s 0 < 1
        · rw [if_neg (by omega)]; simp
        · rw [if_pos (by omega)]
          by_cases d2 : 63 < bN s 0
          · rw [decide_eq_false (by omega)]; simp
          · rw [decide_eq_true (by omega)]
            simp only [Option.bind_some, if_true]
            rw [if_pos (by omega), if_pos (by omega)]
      · rw [if_neg c3]
        have h := up_l0 s (by omega) (bN s 1) (bN_lt s 1) (bN s 1) 0 2 [] (by omega) rfl (by omega)
        refine Ev.congr (fun k => ?_) h
        show parcel_Unpack.f k s = _
        unfold parcel_Unpack.f parcel_kind.f
        rw [if_neg (by omega), if_neg (by omega), if_pos (by omega), b0, b1, if_pos (by omega), decide_eq_true (by omega)]
        simp only [Option.bind_some, if_true]
        rw [if_pos (by omega), if_neg (by omega), if_pos (by omega)]
        rfl
end Go.Proofs.Ytieencpejpeenaa
