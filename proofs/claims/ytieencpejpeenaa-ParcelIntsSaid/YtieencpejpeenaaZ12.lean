/- ParcelInts, in plain Lean. No program here. -/
import Derived.Test.YtieencpejpeenaaZ8
import Derived.Test.YtieencpejpeenaaZ11
namespace Go.Proofs.Ytieencpejpeenaa
set_option linter.unusedVariables false
set_option linter.unusedSimpArgs false
open Go.RowKit Go.Proofs.YtieencpejpeenaaW.PrintWords
open QParcel

theorem ix_step (i n : Nat) (h : i < n) (hn : n ≤ 17592186044416) : wrap64 ((i : Int) + 1) = ((i + 1 : Nat) : Int) := by unfold wrap64; omega
theorem ix_l0 (a b : List Int) (ha : a.length ≤ 17592186044416) : ∀ d i, i + d = a.length → i ≤ b.length → a.take i = b.take i →
    Ev (fun k => wardmoteplain_Ints.l0 k a b (a.length : Int) (i : Int)) (decide (a = b)) := by
  intro d
  induction d with
  | zero =>
    intro i hi hib ht
    obtain rfl : i = a.length := by omega
    rw [List.take_length] at ht
    have g : ¬ (a.length : Int) < (a.length : Int) := Int.lt_irrefl _
    have e : decide (a = b) = ((a.length : Int) == (b.length : Int)) := by
      by_cases h : a.length = b.length
      · have : a = b := by rw [h, List.take_length] at ht; exact ht
        subst this; simp
      · have h1 : ¬ a = b := fun h' => h (by rw [h'])
        have h2 : ((a.length : Int) == (b.length : Int)) = false := by simp; omega
        rw [h2, decide_eq_false h1]
    rw [e]
    refine Ev.step (f := fun _ => some ((a.length : Int) == (b.length : Int))) (fun k => ?_) (Ev.now _)
    show wardmoteplain_Ints.l0 (k + 1) _ _ _ _ = _
    unfold wardmoteplain_Ints.l0
    rw [if_neg g]
  | succ d ih =>
    intro i hi hib ht
    have hia : i < a.length := by omega
    have g1 : (i : Int) < (a.length : Int) := Int.ofNat_lt.2 hia
    have g0 : 0 ≤ (i : Int) := Int.natCast_nonneg _
    have t1 : a.take (i + 1) = a.take i ++ [a[i]] := by rw [List.take_add_one, List.getElem?_eq_getElem hia]; rfl
    by_cases c1 : b.length ≤ i
    · have g2 : (i : Int) ≥ (b.length : Int) := Int.ofNat_le.2 c1
      rw [decide_eq_false (fun h => by rw [h] at hia; omega)]
      refine Ev.step (f := fun _ => some false) (fun k => ?_) (Ev.now _)
      show wardmoteplain_Ints.l0 (k + 1) _ _ _ _ = _
      unfold wardmoteplain_Ints.l0
      rw [if_pos g1, if_pos g2]
    · have hb : i < b.length := by omega
      have g2 : ¬ (i : Int) ≥ (b.length : Int) := by omega
      have g3 : (i : Int) < (b.length : Int) := Int.ofNat_lt.2 hb
      have t2 : b.take (i + 1) = b.take i ++ [b[i]] := by rw [List.take_add_one, List.getElem?_eq_getElem hb]; rfl
      by_cases c2 : a[i] = b[i]
      · refine Ev.step (fun k => ?_) (ih (i + 1) (by omega) hb (by rw [t1, t2, ht, c2]))
        show wardmoteplain_Ints.l0 (k + 1) _ _ _ _ = _
        conv => lhs; unfold wardmoteplain_Ints.l0
        rw [if_pos g1, if_neg g2, if_pos g0, if_pos g1, if_pos g3, rdi_at a i hia, rdi_at b i hb, if_pos c2, ix_step i _ hia ha]
      · have hne : ¬ a = b := fun h => by subst h; exact c2 rfl
        rw [decide_eq_false hne]
        refine Ev.step (f := fun _ => some false) (fun k => ?_) (Ev.now _)
        show wardmoteplain_Ints.l0 (k + 1) _ _ _ _ = _
        unfold wardmoteplain_Ints.l0
        rw [if_pos g1, if_neg g2, if_pos g0, if_pos g1, if_pos g3, rdi_at a i hia, rdi_at b i hb, if_neg c2]
theorem ix_ev (a b : List Int) (ha : a.length ≤ 17592186044416) : Ev (fun k => wardmoteplain_Ints.f k a b) (decide (a = b)) :=
  ix_l0 a b ha a.length 0 (by omega) (by omega) (by simp)
theorem toS_few (s : ByteArray) : ∀ d a l, (toS s d a l).1.length ≤ l.length + d
  | 0, a, l => by unfold toS; simp
  | d + 1, a, l => by
    unfold toS
    split
    · simp
    · have := toS_few s d (a + 8) (l ++ [(valN s a 8 : Int)])
      rw [List.length_append] at this
      simp at this
      omega
theorem toIntsR_few (s : ByteArray) : (toIntsR s).1.length ≤ 1000 := by
  unfold toIntsR
  split
  · rename_i h
    have := toS_few s (s.size / 8) 0 []
    simp at this
    omega
  · simp
/-! ### There and back -/
theorem numB_get : ∀ (n : Nat) (x : Int) (j : Nat), j < n → (numB x n)[j]? = some (x / 256 ^ (n - 1 - j) % 256)
  | 0, x, j, h => by omega
  | n + 1, x, 0, h => by rw [numB_top, List.getElem?_cons_zero]; rfl
  | n + 1, x, j + 1, h => by
    rw [numB_top, List.getElem?_cons_succ, numB_get n x j (by omega)]
    congr 4
    omega
theorem cell_at (p : ByteArray) (pre post : List UInt8) (x : Nat) (h : D p = pre ++ (U (numB (x : Int) 8) ++ post)) (j : Nat) (hj : j < 8) : bN p (pre.length + j) = x / 256 ^ (7 - j) % 256 := by
  have hl : j < (U (numB (x : Int) 8)).length := by rw [U_length, numB_length]; exact hj
  rw [bN_D, h, List.getElem?_append_right (Nat.le_add_right _ _), Nat.add_sub_cancel_left, List.getElem?_append_left hl]
  unfold U
  rw [List.getElem?_map, numB_get 8 _ j hj]
  have e : ((x : Int) / 256 ^ (8 - 1 - j) % 256).toNat = x / 256 ^ (7 - j) % 256 := by
    rw [show 8 - 1 - j = 7 - j by omega]
    have : ((x : Int) / 256 ^ (7 - j) % 256) = ((x / 256 ^ (7 - j) % 256 : Nat) : Int) := by
      rw [Int.natCast_emod, Int.natCast_ediv, Int.natCast_pow]; rfl
    rw [this, Int.toNat_natCast]
  simp only [Option.map_some, Option.getD_some, e]
  exact o_nat _ (Nat.mod_lt _ (by omega))
theorem val_at (p : ByteArray) (pre post : List UInt8) (x : Nat) (hx : x < 18446744073709551616) (h : D p = pre ++ (U (numB (x : Int) 8) ++ post)) : ∀ j, j ≤ 8 → valN p pre.length j = x / 256 ^ (8 - j)
  | 0, _ => by
    show 0 = x / 256 ^ 8
    rw [Nat.div_eq_of_lt]; exact hx
  | j + 1, hj => by
    show 256 * valN p pre.length j + bN p (pre.length + j) = _
    rw [val_at p pre post x hx h j (by omega), cell_at p pre post x h j (by omega), show 8 - j = (7 - j) + 1 by omega, Nat.pow_succ, ← Nat.div_div_eq_div_mul, show 8 - (j + 1) = 7 - j by omega]
    generalize x / 256 ^ (7 - j) = y
    omega
theorem ints_there (p : ByteArray) : ∀ (r : List Int) (pre : List UInt8) (acc : List Int), Pos r → D p = pre ++ U (flat r) → toS p r.length pre.length acc = (acc ++ r, 0)
  | [], pre, acc, _, h => by simp [toS]
  | x :: r, pre, acc, hp, h => by
    have hx := hp x (by simp)
    obtain ⟨n, rfl⟩ := Int.eq_ofNat_of_zero_le hx.1
    have h' : D p = pre ++ (U (numB (n : Int) 8) ++ U (flat r)) := by rw [h]; simp only [flat, U_append]
    have hv := val_at p pre _ n (by omega) h' 8 (by omega)
    have hb := cell_at p pre _ n h' 0 (by omega)
    rw [Nat.add_zero] at hb
    have ih := ints_there p r (pre ++ U (numB (n : Int) 8)) (acc ++ [(n : Int)]) (fun y hy => hp y (by simp [hy])) (by rw [h']; simp only [List.append_assoc])
    have e3 : (pre ++ U (numB (n : Int) 8)).length = pre.length + 8 := by rw [List.length_append, U_length, numB_length]
    have hb2 : ¬ 127 < bN p pre.length := by
      rw [hb]
      have : n / 256 ^ (7 - 0) < 128 := Nat.div_lt_of_lt_mul (show n < 256 ^ 7 * 128 by omega)
      have := Nat.mod_le (n / 256 ^ (7 - 0)) 256
      omega
    simp only [List.length_cons]
    rw [toS, if_neg hb2, hv, ← e3]
    have e4 : (n / 256 ^ (8 - 8) : Nat) = n := by simp
    rw [e4, ih, List.append_assoc]
    rfl
theorem ints_back (l : List Int) (h1 : l.length ≤ 1000) (hp : Pos l) : toIntsR (strOfNums (flat l)) = (l, 0) := by
  have hs : (strOfNums (flat l)).size = 8 * l.length := by rw [strOfNums_size, flat_length]
  have h := ints_there (strOfNums (flat l)) l [] [] hp (by rw [D_str]; rfl)
  unfold toIntsR
  rw [hs, if_pos ⟨by omega, by omega⟩, show 8 * l.length / 8 = l.length by omega]
  exact h
theorem intsR_ok (l : List Int) (h : (intsR l).2 = 0) : l.length ≤ 1000 ∧ Pos l ∧ (intsR l).1 = strOfNums (flat l) := by
  by_cases h1 : 1000 < l.length
  · have e : intsR l = (⟨#[]⟩, 2) := by unfold intsR; rw [if_pos h1]
    rw [e] at h; exact absurd h (by decide)
  · by_cases hp : Pos l
    · have e := ints_pos (Nat.le_of_not_lt h1) hp
      rw [e]; exact ⟨Nat.le_of_not_lt h1, hp, rfl⟩
    · rw [ints_neg (Nat.le_of_not_lt h1) hp] at h; exact absurd h (by decide)
/-! ### The law -/
theorem pi_l0 (l : List Int) (hw : Wf l) : Ev (fun k => wardmotelaw09_ParcelInts.l0 k l (l.length : Int) 0) true := by
  by_cases h : 0 < l.length
  · have hx : Wf [l[0]] := fun y hy => by rw [List.mem_singleton.1 hy]; exact hw _ (List.getElem_mem h)
    have h1 : Ev (fun k => parcel_Int.f k l[0]) (intsR [l[0]]) := by
      unfold parcel_Int.f
      exact Ev.bind (ints_ev [l[0]] hx) (Ev.now _)
    refine Ev.step (f := fun k => (parcel_Int.f k l[0]).bind fun bt238 => ((wardmoteref09_Ints.f k (([l[0]] : List Int))).bind fun bt243 => (if bt238.1.toList = bt243.1.toList then (if bt238.2 = bt243.2 then ((wardmotelaw09_two.f k).bind fun t245 => (some t245)) else (some false)) else (some false)))) (fun k => ?_) (Ev.bind h1 (Ev.bind (rints_ev [l[0]] hx) ?_))
    · show wardmotelaw09_ParcelInts.l0 (k + 1) _ _ _ = _
      unfold wardmotelaw09_ParcelInts.l0
      dsimp only
      have e := rdi_at l 0 h
      have e' : rd l 0 = l[0] := e
      rw [if_pos (by omega), if_pos (by omega), if_pos (by omega), e']
    · refine Ev.congr (fun k => ?_) two_some
      show (if _ then _ else _) = _
      rw [if_pos rfl, if_pos rfl]
  · refine Ev.step (fun k => ?_) two_some
    show wardmotelaw09_ParcelInts.l0 (k + 1) _ _ _ = _
    unfold wardmotelaw09_ParcelInts.l0
    dsimp only
    rw [if_neg (by omega)]
theorem pi_j2 (l : List Int) (hw : Wf l) : Ev (fun k => wardmotelaw09_ParcelInts.j2 k l false) true := by
  refine Ev.step (fun k => ?_) (pi_l0 l hw)
  show wardmotelaw09_ParcelInts.j2 (k + 1) _ _ = _
  unfold wardmotelaw09_ParcelInts.j2
  dsimp only
  rw [if_neg (by simp)]
theorem toint_ev (s : ByteArray) (y : List Int) (e : Int) (h : toIntsR s = (y, e)) : Ev (fun k => parcel_ToInt.f k s) (if e = 0 then (if y.length = 1 then (rd y 0, 0) else (0, 4)) else (0, 4)) := by
  have h1 := toints_ev s
  rw [h] at h1
  unfold parcel_ToInt.f
  refine Ev.bind h1 ?_
  refine Ev.congr (fun k => ?_) (Ev.now _)
  show (if e = 0 then (if (y.length : Int) = 1 then (if 0 < (y.length : Int) then (some (rd y 0, 0)) else none) else some (0, 4)) else some (0, 4)) = _
  by_cases he : e = 0
  · rw [if_pos he, if_pos he]
    by_cases hy : y.length = 1
    · rw [if_pos (by omega), if_pos (by omega), if_pos hy]
    · rw [if_neg (by omega), if_neg hy]
  · rw [if_neg he, if_neg he]
theorem pi_j1 (l : List Int) (hw : Wf l) (s : ByteArray) (y : List Int) (e : Int) (h : toIntsR s = (y, e)) : Ev (fun k => wardmotelaw09_ParcelInts.j1 k l s y e) true := by
  have h1 := toint_ev s y e h
  have hj := pi_j2 l hw
  refine Ev.step (fun k => ?_) (Ev.bind h1 (f := fun k bt232 => (if e = 0 then (if ((bt232.2 == 0) != ((y.length : Int) == 1)) = true then (wardmotelaw09_ParcelInts.j2 k l true) else (if bt232.2 = 0 then (if 0 < (y.length : Int) then (if bt232.1 = (rd y 0) then (wardmotelaw09_ParcelInts.j2 k l false) else (wardmotelaw09_ParcelInts.j2 k l true)) else (none)) else (wardmotelaw09_ParcelInts.j2 k l (bt232.1 != 0)))) else (if ((bt232.2 == 0) != false) = true then (wardmotelaw09_ParcelInts.j2 k l true) else (if bt232.2 = 0 then (if 0 < (y.length : Int) then (if bt232.1 = (rd y 0) then (wardmotelaw09_ParcelInts.j2 k l false) else (wardmotelaw09_ParcelInts.j2 k l true)) else (none)) else (wardmotelaw09_ParcelInts.j2 k l (bt232.1 != 0)))))) ?_)
  · show wardmotelaw09_ParcelInts.j1 (k + 1) _ _ _ _ = _
    unfold wardmotelaw09_ParcelInts.j1
    rfl
  · refine Ev.congr (fun k => ?_) hj
    by_cases he : e = 0
    · by_cases hy : y.length = 1
      · have g : (((0 : Int) == 0) != ((y.length : Int) == 1)) = false := by rw [hy]; rfl
        simp only [if_pos he, if_pos hy]
        rw [g, if_neg (by simp), if_pos trivial, if_pos (by omega), if_pos trivial]
      · have g : (((4 : Int) == 0) != ((y.length : Int) == 1)) = false := by
          have : ((y.length : Int) == 1) = false := by simp; omega
          rw [this]; rfl
        simp only [if_pos he, if_neg hy]
        rw [g, if_neg (by simp), if_neg (by decide)]
        rfl
    · simp only [if_neg he]
      rw [if_neg (by decide), if_neg (by decide)]
      rfl
theorem pi_j0 (l : List Int) (hw : Wf l) (hl : l.length ≤ 17592186044416) (s : ByteArray) (y : List Int) (e : Int) (h : toIntsR s = (y, e)) : Ev (fun k => wardmotelaw09_ParcelInts.j0 k l s (intsR l).1 (intsR l).2 y e false) true := by
  have hj := pi_j1 l hw s y e h
  have hok := intsR_ok l
  rcases hr : intsR l with ⟨p, e'⟩
  rw [hr] at hok
  by_cases h0 : e' = 0
  · obtain ⟨h1, hp, h3⟩ := hok h0
    have h3' : p = strOfNums (flat l) := h3
    have ht := toints_ev p
    rw [h3', ints_back l h1 hp, ← h3'] at ht
    have hx := ix_ev l l hl
    rw [decide_eq_true rfl] at hx
    refine Ev.step (fun k => ?_) (Ev.bind ht (f := fun k bt227 => (if bt227.2 = 0 then ((wardmoteplain_Ints.f k bt227.1 l).bind fun t231 => (if t231 = true then (wardmotelaw09_ParcelInts.j1 k l s y e) else (some false))) else (some false))) ?_)
    · show wardmotelaw09_ParcelInts.j0 (k + 1) _ _ _ _ _ _ _ = _
      unfold wardmotelaw09_ParcelInts.j0
      dsimp only
      rw [if_neg (by simp), if_pos h0]
    · refine Ev.congr (fun k => ?_) (Ev.bind hx (f := fun k t231 => (if t231 = true then (wardmotelaw09_ParcelInts.j1 k l s y e) else (some false))) ?_)
      · show (if _ then _ else _) = _
        rw [if_pos rfl]
      · refine Ev.congr (fun k => ?_) hj
        show (if _ then _ else _) = _
        rw [if_pos rfl]
  · refine Ev.step (fun k => ?_) hj
    show wardmotelaw09_ParcelInts.j0 (k + 1) _ _ _ _ _ _ _ = _
    unfold wardmotelaw09_ParcelInts.j0
    dsimp only
    rw [if_neg (by simp), if_neg h0]
theorem ints_pure (l : List Int) (s : ByteArray) (hl : l.length ≤ 17592186044416) (hw : Wf l) : ∃ k, wardmotelaw09_ParcelInts.f k l s = some true := by
  refine Ev.rounds (g := fun k => wardmotelaw09_ParcelInts.f k l s) ?_
  rcases hr : toIntsR s with ⟨y, e⟩
  have hj := pi_j0 l hw hl s y e hr
  have h1 := toints_ev s
  have h2 := rtoints_ev s
  have hf := toIntsR_few s
  rw [hr] at h1 h2 hf
  have hx := ix_ev y y (Nat.le_trans hf (by decide))
  rw [decide_eq_true rfl] at hx
  unfold wardmotelaw09_ParcelInts.f
  refine Ev.bind (ints_ev l hw) (Ev.bind (rints_ev l hw) (Ev.bind h1 (Ev.bind h2 ?_)))
  refine Ev.congr (fun k => ?_) (Ev.bind hx (f := fun k t226 => (if t226 = true then (wardmotelaw09_ParcelInts.j0 k l s (intsR l).1 (intsR l).2 y e (e != e)) else (wardmotelaw09_ParcelInts.j0 k l s (intsR l).1 (intsR l).2 y e true))) ?_)
  · show (if _ then _ else _) = _
    rw [if_pos rfl, if_pos rfl]
  · refine Ev.congr (fun k => ?_) hj
    show (if _ then _ else _) = _
    rw [if_pos rfl]
    simp
end Go.Proofs.Ytieencpejpeenaa
