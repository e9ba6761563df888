/- Numbers' bytes, in plain Lean: Ints and the document's Ints come to the same. No program here. -/
import Derived.Test.YtieencpejpeenaaZ7
import Derived.Test.YtieencpejpeenaaQParcelx8
namespace Go.Proofs.Ytieencpejpeenaa
set_option linter.unusedVariables false
set_option linter.unusedSimpArgs false
open Go.RowKit Go.Proofs.YtieencpejpeenaaW.PrintWords
open QParcel

theorem numB_top : ∀ (j : Nat) (x : Int), numB x (j + 1) = (x / 256 ^ j % 256) :: numB x j
  | 0, x => by simp [numB]
  | j + 1, x => by
    have h := numB_top j (x / 256)
    rw [numB, h]
    have e : x / 256 / 256 ^ j = x / 256 ^ (j + 1) := by
      rw [Int.ediv_ediv_of_nonneg (by omega), Int.pow_succ, Int.mul_comm]
    rw [e]; rfl
def flat : List Int → List Int
  | [] => []
  | x :: l => numB x 8 ++ flat l
theorem flat_append (a b : List Int) : flat (a ++ b) = flat a ++ flat b := by
  induction a with
  | nil => rfl
  | cons x a ih => simp [flat, ih]
theorem flat_length (l : List Int) : (flat l).length = 8 * l.length := by
  induction l with
  | nil => rfl
  | cons x l ih => simp [flat, ih, numB_length]; omega
theorem flat_take (l : List Int) (i : Nat) (h : i < l.length) : flat (l.take (i + 1)) = flat (l.take i) ++ numB l[i] 8 := by
  have e : l.take (i + 1) = l.take i ++ [l[i]] := by rw [List.take_add_one, List.getElem?_eq_getElem h]; rfl
  rw [e, flat_append]; simp [flat]
theorem rdi_at (l : List Int) (i : Nat) (h : i < l.length) : rd l (i : Int) = l[i] := by
  unfold rd
  rw [Int.toNat_natCast, List.getD_eq_getElem?_getD, List.getElem?_eq_getElem h]; rfl
def Pos (l : List Int) : Prop := ∀ x ∈ l, 0 ≤ x ∧ x ≤ 9223372036854775807
def Wf (l : List Int) : Prop := ∀ x ∈ l, -9223372036854775808 ≤ x ∧ x ≤ 9223372036854775807
open Classical in
noncomputable def intsR (l : List Int) : ByteArray × Int := if 1000 < l.length then (⟨#[]⟩, 2) else if Pos l then (strOfNums (flat l), 0) else (⟨#[]⟩, 1)
theorem ints_pos {l : List Int} (h1 : l.length ≤ 1000) (h : Pos l) : intsR l = (strOfNums (flat l), 0) := by unfold intsR; rw [if_neg (by omega), if_pos h]
theorem ints_neg {l : List Int} (h1 : l.length ≤ 1000) (h : ¬ Pos l) : intsR l = (⟨#[]⟩, 1) := by unfold intsR; rw [if_neg (by omega), if_neg h]
theorem shr_at (x : Int) (j : Nat) (hj : j < 8) : shr .i64 x ((8 * j : Nat) : Int) % 256 = x / 256 ^ j % 256 := by
  have e : (2 : Int) ^ (8 * j) = 256 ^ j := by rw [Int.pow_mul]; rfl
  unfold shr
  rw [Int.toNat_natCast, Nat.min_eq_left (by show 8 * j ≤ 64; omega), e]
theorem il_w (j : Nat) (hj : j < 8) : wrap64 (((8 * j : Nat) : Int) - 8) = ((8 * j : Nat) : Int) - 8 ∧ 0 ≤ ((8 * j : Nat) : Int) := by unfold wrap64; omega
theorem il_s (j : Nat) : ((8 * (j + 1) : Nat) : Int) - 8 = ((8 * j : Nat) : Int) := by omega
theorem il_n (a j : Nat) (h : a + j ≤ 8008) : a < 140737488355328 := Nat.lt_of_le_of_lt (by omega : a ≤ 8008) (by decide)
theorem il_l1 (l : List Int) (n i x : Int) (r : ByteArray × Int) : ∀ j (acc : List Int), j ≤ 8 → acc.length + j ≤ 8008 → Ev (fun k => parcel_Ints.l0 k (acc ++ numB x j) l n (wrap64 (i + 1))) r → Ev (fun k => parcel_Ints.l1 k acc x (((8 * j : Nat) : Int) - 8) l n i) r := by
  intro j
  induction j with
  | zero =>
    intro acc _ _ h
    have e : acc ++ numB x 0 = acc := by simp [numB]
    rw [e] at h
    refine Ev.step (fun k => ?_) h
    show parcel_Ints.l1 (k + 1) _ _ _ _ _ _ = _
    unfold parcel_Ints.l1
    rw [if_neg (by decide)]
  | succ j ih =>
    intro acc hj hl h
    obtain ⟨w1, g0⟩ := il_w j (by omega)
    have e : acc ++ numB x (j + 1) = (acc ++ [x / 256 ^ j % 256]) ++ numB x j := by rw [numB_top]; simp
    rw [e] at h
    have hl2 : (acc ++ [x / 256 ^ j % 256]).length + j ≤ 8008 := by rw [List.length_append]; simp; omega
    refine Ev.step (fun k => ?_) (ih (acc ++ [x / 256 ^ j % 256]) (by omega) hl2 h)
    show parcel_Ints.l1 (k + 1) _ _ _ _ _ _ = _
    rw [il_s]
    conv => lhs; unfold parcel_Ints.l1
    rw [if_pos g0, if_pos g0, if_pos (il_n _ (j + 1) hl), shr_at x j (by omega), w1]
theorem wi (i n : Nat) (h : i < n) (hn : n ≤ 1000) : wrap64 ((i : Int) + 1) = ((i + 1 : Nat) : Int) := by unfold wrap64; omega
theorem in_l0 (l : List Int) (h1 : l.length ≤ 1000) (hw : Wf l) : ∀ d i, i + d = l.length → Pos (l.take i) → Ev (fun k => parcel_Ints.l0 k (flat (l.take i)) l (l.length : Int) (i : Int)) (intsR l) := by
  intro d
  induction d with
  | zero =>
    intro i hi hp
    obtain rfl : i = l.length := by omega
    rw [List.take_length] at hp ⊢
    rw [ints_pos h1 hp]
    refine Ev.step (f := fun _ => some (strOfNums (flat l), 0)) (fun k => ?_) (Ev.now _)
    show parcel_Ints.l0 (k + 1) _ _ _ _ = _
    unfold parcel_Ints.l0
    rw [if_neg (Int.lt_irrefl _)]
  | succ d ih =>
    intro i hi hp
    have hil : i < l.length := by omega
    have g1 : (i : Int) < (l.length : Int) := Int.ofNat_lt.2 hil
    have g0 : 0 ≤ (i : Int) := Int.natCast_nonneg _
    by_cases hn : l[i] < 0
    · have hno : ¬ Pos l := fun h => by have := (h l[i] (List.getElem_mem hil)).1; omega
      rw [ints_neg h1 hno]
      refine Ev.step (f := fun _ => some (⟨#[]⟩, 1)) (fun k => ?_) (Ev.now _)
      show parcel_Ints.l0 (k + 1) _ _ _ _ = _
      unfold parcel_Ints.l0
      rw [if_pos g1, if_pos g0, if_pos g1, rdi_at l i hil, if_pos hn]
    · have hp2 : Pos (l.take (i + 1)) := by
        have e : l.take (i + 1) = l.take i ++ [l[i]] := by rw [List.take_add_one, List.getElem?_eq_getElem hil]; rfl
        rw [e]
        intro x hx
        rcases List.mem_append.1 hx with h | h
        · exact hp x h
        · rw [List.mem_singleton.1 h]; have := hw l[i] (List.getElem_mem hil); omega
      have h := ih (i + 1) (by omega) hp2
      have hlen : (flat (l.take i)).length + 8 ≤ 8008 := by rw [flat_length, List.length_take]; omega
      have h2 := il_l1 l (l.length : Int) (i : Int) l[i] _ 8 (flat (l.take i)) (by omega) hlen (by rw [← flat_take l i hil, wi i _ hil h1]; exact h)
      refine Ev.step (fun k => ?_) h2
      show parcel_Ints.l0 (k + 1) _ _ _ _ = _
      conv => lhs; unfold parcel_Ints.l0
      rw [if_pos g1, if_pos g0, if_pos g1, rdi_at l i hil, if_neg hn]
      rfl
theorem ints_ev (l : List Int) (hw : Wf l) : Ev (fun k => parcel_Ints.f k l) (intsR l) := by
  by_cases h : 1000 < l.length
  · have e : intsR l = (⟨#[]⟩, 2) := by unfold intsR; rw [if_pos h]
    rw [e]
    refine Ev.congr (fun k => ?_) (Ev.now _)
    show parcel_Ints.f k l = _
    unfold parcel_Ints.f
    rw [if_pos (by omega)]
  · have h2 := in_l0 l (by omega) hw l.length 0 (by omega) (by intro x hx; simp at hx)
    refine Ev.congr (fun k => ?_) h2
    show parcel_Ints.f k l = _
    unfold parcel_Ints.f
    rw [if_neg (by omega)]
    rfl
theorem rin_l0 (l : List Int) (h1 : l.length ≤ 1000) (hw : Wf l) : ∀ d i, i + d = l.length → Pos (l.take i) → Ev (fun k => wardmoteref09_Ints.l0 k (strOfNums (flat (l.take i))) l (l.length : Int) (i : Int)) (intsR l) := by
  intro d
  induction d with
  | zero =>
    intro i hi hp
    obtain rfl : i = l.length := by omega
    rw [List.take_length] at hp ⊢
    rw [ints_pos h1 hp]
    refine Ev.step (f := fun _ => some (strOfNums (flat l), 0)) (fun k => ?_) (Ev.now _)
    show wardmoteref09_Ints.l0 (k + 1) _ _ _ _ = _
    unfold wardmoteref09_Ints.l0
    rw [if_neg (Int.lt_irrefl _)]
  | succ d ih =>
    intro i hi hp
    have hil : i < l.length := by omega
    have g1 : (i : Int) < (l.length : Int) := Int.ofNat_lt.2 hil
    have g0 : 0 ≤ (i : Int) := Int.natCast_nonneg _
    by_cases hn : l[i] < 0
    · have hno : ¬ Pos l := fun h => by have := (h l[i] (List.getElem_mem hil)).1; omega
      rw [ints_neg h1 hno]
      refine Ev.step (f := fun _ => some (⟨#[]⟩, 1)) (fun k => ?_) (Ev.now _)
      show wardmoteref09_Ints.l0 (k + 1) _ _ _ _ = _
      unfold wardmoteref09_Ints.l0
      rw [if_pos g1, if_pos g0, if_pos g1, rdi_at l i hil, if_pos hn]
    · have hx := hw l[i] (List.getElem_mem hil)
      have hp2 : Pos (l.take (i + 1)) := by
        have e : l.take (i + 1) = l.take i ++ [l[i]] := by rw [List.take_add_one, List.getElem?_eq_getElem hil]; rfl
        rw [e]
        intro x hx
        rcases List.mem_append.1 hx with h | h
        · exact hp x h
        · rw [List.mem_singleton.1 h]; have := hw l[i] (List.getElem_mem hil); omega
      have h := ih (i + 1) (by omega) hp2
      have s1 : (strOfNums (flat (l.take i))).size ≤ 8000 := by rw [strOfNums_size, flat_length, List.length_take]; omega
      have s2 : (strOfNums (numB l[i] 8)).size = 8 := by rw [strOfNums_size, numB_length]
      have g2 : (strOfNums (flat (l.take i))).size + (strOfNums (numB l[i] 8)).size ≤ 9223372036854775807 := Nat.le_trans (by omega : _ ≤ 8008) (by decide)
      refine Ev.step (f := fun k => (wardmoteref05_Number.f k l[i] 8).bind fun t203 => (if (strOfNums (flat (l.take i))).size + t203.size ≤ 9223372036854775807 then (wardmoteref09_Ints.l0 k (strOfNums (flat (l.take i)) ++ t203) l (l.length : Int) (wrap64 ((i : Int) + 1))) else none)) (fun k => ?_) ?_
      · show wardmoteref09_Ints.l0 (k + 1) _ _ _ _ = _
        conv => lhs; unfold wardmoteref09_Ints.l0
        rw [if_pos g1, if_pos g0, if_pos g1, rdi_at l i hil, if_neg hn]
      · refine Ev.bind (num_ev l[i] 8 (by omega) (by omega) hx.2) ?_
        refine Ev.congr (fun k => ?_) h
        show (if _ then _ else _) = _
        rw [if_pos g2, wi i _ hil h1, ← strOf_append, ← flat_take l i hil]
theorem rints_ev (l : List Int) (hw : Wf l) : Ev (fun k => wardmoteref09_Ints.f k l) (intsR l) := by
  by_cases h : 1000 < l.length
  · have e : intsR l = (⟨#[]⟩, 2) := by unfold intsR; rw [if_pos h]
    rw [e]
    refine Ev.congr (fun k => ?_) (Ev.now _)
    show wardmoteref09_Ints.f k l = _
    unfold wardmoteref09_Ints.f
    rw [if_pos (by omega)]
  · have h2 := rin_l0 l (by omega) hw l.length 0 (by omega) (by intro x hx; simp at hx)
    refine Ev.congr (fun k => ?_) h2
    show wardmoteref09_Ints.f k l = _
    unfold wardmoteref09_Ints.f
    rw [if_neg (by omega)]
    rfl
end Go.Proofs.Ytieencpejpeenaa
