/- There and back: what was packed is unpacked, and what is unpacked is packed so, in plain Lean. No program here. -/
import Derived.Test.YtieencpejpeenaaZ6
namespace Go.Proofs.Ytieencpejpeenaa
set_option linter.unusedVariables false
set_option linter.unusedSimpArgs false
open Go.RowKit Go.Proofs.YtieencpejpeenaaW.PrintWords
open QParcel

/-- A string's bytes. -/
def D (s : ByteArray) : List UInt8 := s.data.toList
def U (l : List Int) : List UInt8 := l.map fun n => UInt8.ofNat n.toNat
theorem D_size (s : ByteArray) : (D s).length = s.size := data_length s
theorem D_inj {a b : ByteArray} (h : D a = D b) : a = b := ByteArray.ext (Array.toList_inj.1 h)
theorem D_str (l : List Int) : D (strOfNums l) = U l := rfl
theorem U_append (a b : List Int) : U (a ++ b) = U a ++ U b := List.map_append
theorem U_length (l : List Int) : (U l).length = l.length := List.length_map _
theorem U_bytes (s : ByteArray) : U (bytesOf s) = D s := by rw [← D_str, strOf_bytes]
theorem D_extract (s : ByteArray) (a b : Nat) : D (s.extract a b) = ((D s).drop a).take (b - a) := by
  unfold D; rw [ByteArray.data_extract, Array.toList_extract, List.extract_eq_take_drop]
theorem bN_D (s : ByteArray) (i : Nat) : bN s i = ((D s)[i]?.getD 0).toNat := by
  unfold bN D
  by_cases h : i < s.size
  · rw [dif_pos h, ByteArray.getElem_eq_getElem_data]
    have h' : i < s.data.toList.length := by rw [data_length]; exact h
    rw [List.getElem?_eq_getElem h']
    simp
  · rw [dif_neg h, List.getElem?_eq_none (by rw [data_length]; omega)]
    rfl
theorem U_one (n : Nat) (h : n < 256) : ((UInt8.ofNat ((n : Int)).toNat).toNat) = n := by
  rw [Int.toNat_natCast, UInt8.toNat_ofNat']
  exact Nat.mod_eq_of_lt h
theorem len_cells (L : Nat) (h : L < 65536) : U [(L : Int) / 256 % 256, (L : Int) % 256] = [UInt8.ofNat (L / 256), UInt8.ofNat (L % 256)] := by
  have e1 : ((L : Int) / 256 % 256).toNat = L / 256 := by omega
  have e2 : ((L : Int) % 256).toNat = L % 256 := by omega
  simp only [U, List.map_cons, List.map_nil, e1, e2]
theorem o_nat (n : Nat) (h : n < 256) : (UInt8.ofNat n).toNat = n := by rw [UInt8.toNat_ofNat']; exact Nat.mod_eq_of_lt h
theorem len_sum (L : Nat) (h : L < 65536) : L / 256 < 256 ∧ L % 256 < 256 ∧ 256 * (L / 256) + L % 256 = L := by omega
theorem lenAt_of (p : ByteArray) (pre post : List UInt8) (L : Nat) (hL : L < 65536) (h : D p = pre ++ (U [(L : Int) / 256 % 256, (L : Int) % 256] ++ post)) : lenAt p pre.length = L := by
  obtain ⟨h1, h2, h3⟩ := len_sum L hL
  unfold lenAt
  rw [bN_D, bN_D, h, len_cells L hL, List.getElem?_append_right (Nat.le_refl _), List.getElem?_append_right (Nat.le_add_right _ 1), Nat.sub_self, Nat.add_sub_cancel_left]
  simp only [List.cons_append, List.getElem?_cons_zero, List.getElem?_cons_succ, Option.getD_some]
  rw [o_nat _ h1, o_nat _ h2, h3]
theorem item_U (s : ByteArray) : U (itemB s) = U [(s.size : Int) / 256 % 256, (s.size : Int) % 256] ++ D s := by
  unfold itemB; rw [U_append, U_bytes]
theorem there (p : ByteArray) : ∀ (r : List ByteArray) (pre : List UInt8) (acc : List ByteArray), (∀ s ∈ r, s.size ≤ 8000) → D p = pre ++ U (itemsB r) → unpS p r.length pre.length acc = ((bN p 0 : Int), acc ++ r, 0)
  | [], pre, acc, _, h => by
    have hz : p.size = pre.length := by rw [← D_size, h]; simp [itemsB, U]
    unfold unpS
    simp only [List.length_nil]
    rw [if_neg (by omega), List.append_nil]
  | s :: r, pre, acc, hs, h => by
    have h8 := hs s (by simp)
    have h' : D p = pre ++ (U [(s.size : Int) / 256 % 256, (s.size : Int) % 256] ++ (D s ++ U (itemsB r))) := by
      rw [h]; simp only [itemsB, U_append, item_U, List.append_assoc]
    have hL := lenAt_of p pre _ s.size (by omega) h'
    have hsz : p.size = pre.length + 2 + s.size + (U (itemsB r)).length := by
      rw [← D_size, h']; simp only [List.length_append, D_size, U_length]; simp; omega
    have hx : p.extract (pre.length + 2) (pre.length + 2 + s.size) = s := by
      apply D_inj
      have e : D p = (pre ++ U [(s.size : Int) / 256 % 256, (s.size : Int) % 256]) ++ (D s ++ U (itemsB r)) := by rw [h']; simp only [List.append_assoc]
      have e2 : pre.length + 2 = (pre ++ U [(s.size : Int) / 256 % 256, (s.size : Int) % 256]).length := by rw [List.length_append, U_length]; rfl
      rw [D_extract, e, e2, List.drop_left, Nat.add_sub_cancel_left, ← D_size s, List.take_left]
    have ih := there p r (pre ++ U (itemB s)) (acc ++ [s]) (fun t ht => hs t (by simp [ht])) (by rw [h]; simp only [itemsB, U_append, List.append_assoc])
    have e3 : (pre ++ U (itemB s)).length = pre.length + 2 + s.size := by rw [List.length_append, U_length, itemB_length]; omega
    simp only [List.length_cons]
    unfold unpS
    rw [hL, hx, if_neg (by omega), if_neg (by omega), if_neg (by omega), ← e3, ih, List.append_assoc]
    rfl
theorem pack_bytes (kind : Int) (hk : 0 < kind ∧ kind < 64) (l : List ByteArray) (hl : PackOk l) : unpackR (strOfNums (packB kind l)) = (kind, l, 0) := by
  obtain ⟨h1, h2, h3⟩ := hl
  have hD : D (strOfNums (packB kind l)) = U [kind % 256, (l.length : Int) % 256] ++ U (itemsB l) := by rw [D_str]; unfold packB; rw [U_append]
  have hsz : (strOfNums (packB kind l)).size = 2 + tot l := by rw [strOfNums_size]; unfold packB; rw [List.length_append, itemsB_length]; rfl
  have b0 : bN (strOfNums (packB kind l)) 0 = kind.toNat := by
    rw [bN_D, hD]
    have e : (kind % 256).toNat = kind.toNat := by omega
    show (UInt8.ofNat (kind % 256).toNat).toNat = _
    rw [e, o_nat _ (by omega)]
  have b1 : bN (strOfNums (packB kind l)) 1 = l.length := by
    rw [bN_D, hD]
    have e : ((l.length : Int) % 256).toNat = l.length := by omega
    show (UInt8.ofNat ((l.length : Int) % 256).toNat).toNat = _
    rw [e, o_nat _ (by omega)]
  have h := there (strOfNums (packB kind l)) l (U [kind % 256, (l.length : Int) % 256]) [] h1 hD
  unfold unpackR
  rw [b1, hsz, if_neg (by omega), if_neg (by omega)]
  have hlen : (U [kind % 256, (l.length : Int) % 256]).length = 2 := rfl
  rw [hlen, b0] at h
  rw [b0, if_neg (by omega), h]
  have e : ((kind.toNat : Nat) : Int) = kind := by omega
  rw [e, List.nil_append]
theorem back (s : ByteArray) (k : Int) (l : List ByteArray) : ∀ d at_ acc, at_ ≤ s.size → unpS s d at_ acc = (k, l, 0) →
    ∃ r, l = acc ++ r ∧ r.length = d ∧ (∀ x ∈ r, x.size ≤ 8000) ∧ (D s).drop at_ = U (itemsB r) ∧ k = (bN s 0 : Int)
  | 0, at_, acc, ha, h => by
    unfold unpS at h
    by_cases c : at_ < s.size
    · rw [if_pos c] at h; simp at h
    · rw [if_neg c] at h
      simp only [Prod.mk.injEq] at h
      refine ⟨[], by rw [List.append_nil]; exact h.2.1.symm, rfl, by simp, ?_, h.1.symm⟩
      rw [List.drop_eq_nil_of_le (by rw [D_size]; omega)]; rfl
  | d + 1, at_, acc, ha, h => by
    unfold unpS at h
    by_cases c1 : s.size < at_ + 2
    · rw [if_pos c1] at h; simp at h
    · rw [if_neg c1] at h
      by_cases c2 : 8000 < lenAt s at_
      · rw [if_pos c2] at h; simp at h
      · rw [if_neg c2] at h
        by_cases c3 : s.size < at_ + 2 + lenAt s at_
        · rw [if_pos c3] at h; simp at h
        · rw [if_neg c3] at h
          have hx : (s.extract (at_ + 2) (at_ + 2 + lenAt s at_)).size = lenAt s at_ := by rw [ByteArray.size_extract]; omega
          obtain ⟨r, e1, e2, e3, e4, e5⟩ := back s k l d _ _ (by omega) h
          refine ⟨s.extract (at_ + 2) (at_ + 2 + lenAt s at_) :: r, ?_, by simp [e2], ?_, ?_, e5⟩
          · rw [e1, List.append_assoc]; rfl
          · intro x hm
            rcases List.mem_cons.1 hm with rfl | hm
            · rw [hx]; omega
            · exact e3 x hm
          · have hL := lenAt_lt s at_
            have a1 : at_ < (D s).length := by rw [D_size]; omega
            have a2 : at_ + 1 < (D s).length := by rw [D_size]; omega
            have d1 : bN s at_ = ((D s)[at_]'a1).toNat := by rw [bN_D, List.getElem?_eq_getElem a1]; rfl
            have d2 : bN s (at_ + 1) = ((D s)[at_ + 1]'a2).toNat := by rw [bN_D, List.getElem?_eq_getElem a2]; rfl
            have hU : U [((lenAt s at_ : Nat) : Int) / 256 % 256, ((lenAt s at_ : Nat) : Int) % 256] = [(D s)[at_]'a1, (D s)[at_ + 1]'a2] := by
              have l1 := bN_lt s at_
              have l2 := bN_lt s (at_ + 1)
              have q1 : lenAt s at_ / 256 = bN s at_ := by unfold lenAt; omega
              have q2 : lenAt s at_ % 256 = bN s (at_ + 1) := by unfold lenAt; omega
              rw [len_cells _ hL, q1, q2, d1, d2, UInt8.ofNat_toNat, UInt8.ofNat_toNat]
            have hdr : (D s).drop at_ = (D s)[at_]'a1 :: (D s)[at_ + 1]'a2 :: (D s).drop (at_ + 2) := by
              rw [List.drop_eq_getElem_cons a1, List.drop_eq_getElem_cons a2]
            have hI : U (itemB (s.extract (at_ + 2) (at_ + 2 + lenAt s at_))) = [(D s)[at_]'a1, (D s)[at_ + 1]'a2] ++ ((D s).drop (at_ + 2)).take (lenAt s at_) := by
              rw [item_U, hx, hU, D_extract, Nat.add_sub_cancel_left]
            have hT : (D s).drop (at_ + 2) = ((D s).drop (at_ + 2)).take (lenAt s at_) ++ (D s).drop (at_ + 2 + lenAt s at_) := by
              conv => lhs; rw [← List.take_append_drop (lenAt s at_) ((D s).drop (at_ + 2))]
              rw [List.drop_drop]
            rw [hdr]
            simp only [itemsB, U_append]
            rw [hI, ← e4]
            simp only [List.cons_append, List.nil_append]
            rw [← hT]
theorem unpack_back (s : ByteArray) (k : Int) (l : List ByteArray) (h : unpackR s = (k, l, 0)) : (0 < k ∧ k < 64) ∧ PackOk l ∧ strOfNums (packB k l) = s := by
  unfold unpackR at h
  by_cases c1 : 20000 < s.size
  · rw [if_pos c1] at h; simp at h
  · rw [if_neg c1] at h
    by_cases c2 : s.size < 2
    · rw [if_pos c2] at h; simp at h
    · rw [if_neg c2] at h
      by_cases c3 : bN s 0 < 1 ∨ 63 < bN s 0 ∨ 40 < bN s 1
      · rw [if_pos c3] at h; simp at h
      · rw [if_neg c3] at h
        obtain ⟨r, e1, e2, e3, e4, e5⟩ := back s k l (bN s 1) 2 [] (by omega) h
        rw [List.nil_append] at e1
        subst e1
        have a0 : 0 < (D s).length := by rw [D_size]; omega
        have a1 : 1 < (D s).length := by rw [D_size]; omega
        have d1 : bN s 0 = ((D s)[0]'a0).toNat := by rw [bN_D, List.getElem?_eq_getElem a0]; rfl
        have d2 : bN s 1 = ((D s)[1]'a1).toNat := by rw [bN_D, List.getElem?_eq_getElem a1]; rfl
        have ht : tot l + 2 = s.size := by
          have := congrArg List.length e4
          rw [List.length_drop, D_size, U_length, itemsB_length] at this
          omega
        refine ⟨⟨by omega, by omega⟩, ⟨e3, by omega, by omega⟩, ?_⟩
        apply D_inj
        rw [D_str]
        unfold packB
        rw [U_append, ← e4]
        have u0 : (k % 256).toNat = bN s 0 := by omega
        have u1 : ((l.length : Int) % 256).toNat = bN s 1 := by omega
        have hU : U [k % 256, (l.length : Int) % 256] = [(D s)[0]'a0, (D s)[1]'a1] := by
          simp only [U, List.map_cons, List.map_nil, u0, u1, d1, d2, UInt8.ofNat_toNat]
        rw [hU]
        conv => rhs; rw [← List.drop_zero (l := D s), List.drop_eq_getElem_cons a0, List.drop_eq_getElem_cons a1]
        rfl
theorem unpS_err (s : ByteArray) : ∀ d at_ l, (unpS s d at_ l).2.2 ≠ 0 → (unpS s d at_ l).1 = 0 ∧ (unpS s d at_ l).2.1 = []
  | 0, at_, l => by
    unfold unpS
    split
    · intro _; exact ⟨rfl, rfl⟩
    · intro h; exact absurd rfl h
  | d + 1, at_, l => by
    unfold unpS
    split
    · intro _; exact ⟨rfl, rfl⟩
    · split
      · intro _; exact ⟨rfl, rfl⟩
      · split
        · intro _; exact ⟨rfl, rfl⟩
        · exact unpS_err s d _ _
theorem unpackR_err (s : ByteArray) (h : (unpackR s).2.2 ≠ 0) : (unpackR s).1 = 0 ∧ (unpackR s).2.1 = [] := by
  unfold unpackR at h ⊢
  split
  · exact ⟨rfl, rfl⟩
  · rename_i c1
    rw [if_neg c1] at h
    split
    · exact ⟨rfl, rfl⟩
    · rename_i c2
      rw [if_neg c2] at h
      split
      · exact ⟨rfl, rfl⟩
      · rename_i c3
        rw [if_neg c3] at h
        exact unpS_err s _ _ _ h
end Go.Proofs.Ytieencpejpeenaa
