/- Records as bytes, in plain Lean: what Pack and the document's Pack come to. No program here. -/
import Derived.Test.YtieencpejpeenaaQParcelx2
namespace Go.Proofs.Ytieencpejpeenaa
set_option linter.unusedVariables false
set_option linter.unusedSimpArgs false
open Go.RowKit Go.Proofs.YtieencpejpeenaaW.PrintWords
open QParcel

theorem strOf_append (a b : List Int) : strOfNums (a ++ b) = strOfNums a ++ strOfNums b := by
  apply ByteArray.ext
  simp [strOfNums]
theorem strOf_bytes (s : ByteArray) : strOfNums (bytesOf s) = s := by
  apply ByteArray.ext
  have e : ((fun n : Int => UInt8.ofNat n.toNat) ∘ fun b : UInt8 => (b.toNat : Int)) = id := by funext b; simp
  simp only [strOfNums, bytesOf, List.map_map, e, List.map_id]
theorem strOf_nil : strOfNums [] = (⟨#[]⟩ : ByteArray) := rfl
def itemB (s : ByteArray) : List Int := [(s.size : Int) / 256 % 256, (s.size : Int) % 256] ++ bytesOf s
def itemsB : List ByteArray → List Int
  | [] => []
  | s :: l => itemB s ++ itemsB l
def tot : List ByteArray → Nat
  | [] => 0
  | s :: l => 2 + s.size + tot l
theorem itemsB_append (a b : List ByteArray) : itemsB (a ++ b) = itemsB a ++ itemsB b := by
  induction a with
  | nil => rfl
  | cons s a ih => simp [itemsB, ih]
theorem tot_append (a b : List ByteArray) : tot (a ++ b) = tot a + tot b := by
  induction a with
  | nil => simp [tot]
  | cons s a ih => simp [tot, ih]; omega
theorem itemB_length (s : ByteArray) : (itemB s).length = 2 + s.size := by simp [itemB, bytesOf_length]; omega
theorem itemsB_length (l : List ByteArray) : (itemsB l).length = tot l := by
  induction l with
  | nil => rfl
  | cons s l ih => simp [itemsB, tot, ih, itemB_length]
theorem take_one (l : List ByteArray) (i : Nat) (h : i < l.length) : l.take (i + 1) = l.take i ++ [l[i]] := by rw [List.take_add_one, List.getElem?_eq_getElem h]; rfl
theorem tot_take (l : List ByteArray) (i : Nat) (h : i < l.length) : tot (l.take (i + 1)) = tot (l.take i) + (2 + (l[i]).size) := by
  rw [take_one l i h, tot_append]; simp [tot]
theorem itemsB_take (l : List ByteArray) (i : Nat) (h : i < l.length) : itemsB (l.take (i + 1)) = itemsB (l.take i) ++ itemB l[i] := by
  rw [take_one l i h, itemsB_append]; simp [itemsB]
theorem tot_small (l : List ByteArray) (h : ∀ s ∈ l, s.size ≤ 8000) : tot l ≤ 8002 * l.length := by
  induction l with
  | nil => simp [tot]
  | cons s l ih =>
    have h1 := h s (by simp)
    have h2 := ih fun t ht => h t (by simp [ht])
    simp [tot]; omega
theorem tot_part (l : List ByteArray) (i : Nat) : tot (l.take i) ≤ tot l := by
  have h := tot_append (l.take i) (l.drop i)
  rw [List.take_append_drop] at h
  omega
theorem rd_at (l : List ByteArray) (i : Nat) (h : i < l.length) : rdOf ByteArray.empty l (i : Int) = l[i] := by
  unfold rdOf
  rw [Int.toNat_natCast, List.getD_eq_getElem?_getD, List.getElem?_eq_getElem h]; rfl
theorem wrap_in (x : Int) (h : -9223372036854775808 ≤ x ∧ x ≤ 9223372036854775807) : wrap64 x = x := by unfold wrap64; omega
def packB (kind : Int) (l : List ByteArray) : List Int := [kind % 256, (l.length : Int) % 256] ++ itemsB l
/-- A record has bytes. -/
def PackOk (l : List ByteArray) : Prop := (∀ s ∈ l, s.size ≤ 8000) ∧ l.length ≤ 40 ∧ 2 + tot l ≤ 20000
open Classical in
noncomputable def packA (kind : Int) (l : List ByteArray) : ByteArray × Int := if PackOk l then (strOfNums (packB kind l), 0) else (⟨#[]⟩, 2)
open Classical in
noncomputable def packR (kind : Int) (l : List ByteArray) : ByteArray × Int := if 0 < kind ∧ kind < 64 then packA kind l else (⟨#[]⟩, 1)
theorem packA_ok {kind : Int} {l : List ByteArray} (h : PackOk l) : packA kind l = (strOfNums (packB kind l), 0) := by unfold packA; rw [if_pos h]
theorem packA_no {kind : Int} {l : List ByteArray} (h : ¬ PackOk l) : packA kind l = (⟨#[]⟩, 2) := by unfold packA; rw [if_neg h]
/-! ### The program's -/
theorem pk_l1 (h0 : List Int) (hh : h0.length = 2) (l : List ByteArray) (hl : PackOk l) : ∀ d i, i + d = l.length → Ev (fun k => parcel_Pack.l1 k (h0 ++ itemsB (l.take i)) l (l.length : Int) (i : Int)) (strOfNums (h0 ++ itemsB l), 0) := by
  obtain ⟨h1, h2, h3⟩ := hl
  intro d
  induction d with
  | zero =>
    intro i hi
    obtain rfl : i = l.length := by omega
    refine Ev.step (f := fun _ => some (strOfNums (h0 ++ itemsB l), 0)) (fun k => ?_) (Ev.now _)
    show parcel_Pack.l1 (k + 1) _ _ _ _ = _
    unfold parcel_Pack.l1
    rw [if_neg (by omega), List.take_length]
  | succ d ih =>
    intro i hi
    have hil : i < l.length := by omega
    refine Ev.step (f := fun k => parcel_Pack.l1 k (h0 ++ itemsB (l.take (i + 1))) l (l.length : Int) ((i + 1 : Nat) : Int)) (fun k => ?_) (ih (i + 1) (by omega))
    show parcel_Pack.l1 (k + 1) _ _ _ _ = _
    have hp := tot_part l (i + 1)
    have ht := tot_take l i hil
    have hL := itemsB_length (l.take i)
    have e1 : wrap64 ((i : Int) + 1) = ((i + 1 : Nat) : Int) := by rw [wrap_in _ (by omega)]; omega
    have e2 : h0 ++ itemsB (l.take (i + 1)) = h0 ++ itemsB (l.take i) ++ [(l[i].size : Int) / 256 % 256, (l[i].size : Int) % 256] ++ bytesOf l[i] := by
      rw [itemsB_take l i hil]; unfold itemB; simp only [List.append_assoc]
    conv => lhs; unfold parcel_Pack.l1
    rw [if_pos (by omega), if_pos (by omega), if_pos (by omega), rd_at l i hil]
    simp only [Option.bind_some]
    have g1 : (h0 ++ itemsB (l.take i)).length + [(l[i].size : Int) / 256 % 256, (l[i].size : Int) % 256].length < 140737488355328 := by
      simp only [List.length_append, List.length_cons, List.length_nil]; omega
    have g2 : (h0 ++ itemsB (l.take i) ++ [(l[i].size : Int) / 256 % 256, (l[i].size : Int) % 256]).length + l[i].size < 140737488355328 := by
      simp only [List.length_append, List.length_cons, List.length_nil]; omega
    rw [if_pos g1, if_pos g2, e1, e2]
theorem pk_j1 (kind : Int) (l : List ByteArray) (x6 : Int) : Ev (fun k => parcel_Pack.j1 k kind l x6 true) (⟨#[]⟩, 2) := by
  refine Ev.step (f := fun _ => some (⟨#[]⟩, 2)) (fun k => ?_) (Ev.now _)
  show parcel_Pack.j1 (k + 1) _ _ _ _ = _
  unfold parcel_Pack.j1
  dsimp only
  rw [if_pos rfl]
theorem pk_j1_ok (kind : Int) (l : List ByteArray) (hl : PackOk l) : Ev (fun k => parcel_Pack.j1 k kind l (2 + (tot l : Nat) : Int) false) (strOfNums (packB kind l), 0) := by
  have h := pk_l1 [kind % 256, (l.length : Int) % 256] rfl l hl l.length 0 (by omega)
  refine Ev.step (f := fun k => parcel_Pack.l1 k ([kind % 256, (l.length : Int) % 256] ++ itemsB (l.take 0)) l (l.length : Int) ((0 : Nat) : Int)) (fun k => ?_) h
  obtain ⟨h1, h2, h3⟩ := hl
  show parcel_Pack.j1 (k + 1) _ _ _ _ = _
  unfold parcel_Pack.j1
  dsimp only
  rw [if_neg (by simp), if_pos (by omega), if_pos (by omega)]
  simp only [Option.bind_some]
  rw [if_pos (by simp)]
  simp [itemsB]
theorem pk_l0 (kind : Int) (l : List ByteArray) (hl : l.length ≤ 8796093022208) : ∀ d i, i + d = l.length → (∀ s ∈ l.take i, s.size ≤ 8000) →
    Ev (fun k => parcel_Pack.l0 k kind l (2 + (tot (l.take i) : Nat) : Int) l (l.length : Int) (i : Int)) (packA kind l) := by
  intro d
  induction d with
  | zero =>
    intro i hi hs
    obtain rfl : i = l.length := by omega
    rw [List.take_length] at hs ⊢
    by_cases h40 : l.length ≤ 40
    · by_cases h2 : 2 + tot l ≤ 20000
      · have hok : PackOk l := ⟨hs, h40, h2⟩
        rw [packA_ok hok]
        refine Ev.step (f := fun k => parcel_Pack.j1 k kind l (2 + (tot l : Nat) : Int) false) (fun k => ?_) (pk_j1_ok kind l hok)
        show parcel_Pack.l0 (k + 1) _ _ _ _ _ _ = _
        unfold parcel_Pack.l0
        rw [if_neg (by omega), if_neg (by omega), decide_eq_false (by omega)]
      · rw [packA_no (fun h => h2 h.2.2)]
        refine Ev.step (f := fun k => parcel_Pack.j1 k kind l (2 + (tot l : Nat) : Int) true) (fun k => ?_) (pk_j1 _ _ _)
        show parcel_Pack.l0 (k + 1) _ _ _ _ _ _ = _
        unfold parcel_Pack.l0
        rw [if_neg (by omega), if_neg (by omega), decide_eq_true (by omega)]
    · rw [packA_no (fun h => h40 h.2.1)]
      refine Ev.step (f := fun k => parcel_Pack.j1 k kind l (2 + (tot l : Nat) : Int) true) (fun k => ?_) (pk_j1 _ _ _)
      show parcel_Pack.l0 (k + 1) _ _ _ _ _ _ = _
      unfold parcel_Pack.l0
      rw [if_neg (by omega), if_pos (by omega)]
  | succ d ih =>
    intro i hi hs
    have hil : i < l.length := by omega
    by_cases h8 : l[i].size ≤ 8000
    · have hs2 : ∀ s ∈ l.take (i + 1), s.size ≤ 8000 := by
        rw [take_one l i hil]
        intro s hm
        rcases List.mem_append.1 hm with h | h
        · exact hs s h
        · simp at h; rw [h]; exact h8
      refine Ev.step (f := fun k => parcel_Pack.l0 k kind l (2 + (tot (l.take (i + 1)) : Nat) : Int) l (l.length : Int) ((i + 1 : Nat) : Int)) (fun k => ?_) (ih (i + 1) (by omega) hs2)
      show parcel_Pack.l0 (k + 1) _ _ _ _ _ _ = _
      have hb := tot_small _ hs
      have ht := tot_take l i hil
      have hlt : (l.take i).length ≤ l.length := by rw [List.length_take]; omega
      conv => lhs; unfold parcel_Pack.l0
      rw [if_pos (by omega), if_pos (by omega), if_pos (by omega), rd_at l i hil, if_neg (by omega)]
      have e1 : wrap64 ((i : Int) + 1) = ((i + 1 : Nat) : Int) := by rw [wrap_in _ (by omega)]; omega
      have e2 : wrap64 (2 + (tot (l.take i) : Nat) + wrap64 (2 + (l[i].size : Int))) = (2 + (tot (l.take (i + 1)) : Nat) : Int) := by
        rw [wrap_in (2 + (l[i].size : Int)) (by omega), wrap_in _ (by omega)]; omega
      rw [e1, e2]
    · rw [packA_no (fun h => h8 (h.1 _ (List.getElem_mem hil)))]
      refine Ev.step (f := fun _ => some (⟨#[]⟩, 2)) (fun k => ?_) (Ev.now _)
      show parcel_Pack.l0 (k + 1) _ _ _ _ _ _ = _
      unfold parcel_Pack.l0
      rw [if_pos (by omega), if_pos (by omega), if_pos (by omega), rd_at l i hil, if_pos (by omega)]
theorem pack_ev (kind : Int) (l : List ByteArray) (hl : l.length ≤ 8796093022208) : Ev (fun k => parcel_Pack.f k kind l) (packR kind l) := by
  have h := pk_l0 kind l hl l.length 0 (by omega) (by simp)
  simp only [List.take_zero, tot] at h
  unfold packR
  by_cases h1 : 0 < kind ∧ kind < 64
  · rw [if_pos h1]
    refine Ev.congr (f := fun k => parcel_Pack.l0 k kind l 2 l (l.length : Int) 0) (fun k => ?_) h
    show parcel_Pack.f k kind l = _
    unfold parcel_Pack.f parcel_kind.f
    rw [if_pos (by omega), decide_eq_true h1.2]
    simp
  · rw [if_neg h1]
    refine Ev.congr (f := fun _ => some (⟨#[]⟩, 1)) (fun k => ?_) (Ev.now _)
    show parcel_Pack.f k kind l = _
    unfold parcel_Pack.f parcel_kind.f
    by_cases h2 : 0 < kind
    · rw [if_pos (by omega), decide_eq_false (by omega)]; simp
    · rw [if_neg (by omega)]; simp
end Go.Proofs.Ytieencpejpeenaa
