/- Records as bytes, in plain Lean: the document's Pack comes to the same. No program here. -/
import Derived.Test.YtieencpejpeenaaZ1
namespace Go.Proofs.Ytieencpejpeenaa
set_option linter.unusedVariables false
set_option linter.unusedSimpArgs false
open Go.RowKit Go.Proofs.YtieencpejpeenaaW.PrintWords
open QParcel

/-- A number's lowest n bytes, the highest first. -/
def numB : Int → Nat → List Int
  | _, 0 => []
  | x, n + 1 => numB (x / 256) n ++ [x % 256]
theorem numB_length : ∀ (n : Nat) (x : Int), (numB x n).length = n
  | 0, _ => rfl
  | n + 1, x => by simp [numB, numB_length n]
theorem num_l0 (n : Nat) (hn : n ≤ 8) : ∀ d i (x : Int) (s : ByteArray), i + d = n → 0 ≤ x → x ≤ 9223372036854775807 → s.size = i →
    Ev (fun k => wardmoteref05_Number.l0 k x (n : Int) s (i : Int)) (strOfNums (numB x d) ++ s) := by
  intro d
  induction d with
  | zero =>
    intro i x s hi h0 h1 hs
    obtain rfl : i = n := by omega
    have e : strOfNums (numB x 0) ++ s = s := by apply ByteArray.ext; simp [numB, strOfNums]
    rw [e]
    refine Ev.step (f := fun _ => some s) (fun k => ?_) (Ev.now _)
    show wardmoteref05_Number.l0 (k + 1) _ _ _ _ = _
    unfold wardmoteref05_Number.l0
    rw [if_neg (by omega)]
  | succ d ih =>
    intro i x s hi h0 h1 hs
    have hsz : (strOfNums [x % 256] ++ s).size = i + 1 := by rw [ByteArray.size_append, strOfNums_size, hs]; simp; omega
    have e : strOfNums (numB x (d + 1)) ++ s = strOfNums (numB (x / 256) d) ++ (strOfNums [x % 256] ++ s) := by
      rw [numB, strOf_append, ByteArray.append_assoc]
    rw [e]
    refine Ev.step (f := fun k => wardmoteref05_Number.l0 k (x / 256) (n : Int) (strOfNums [x % 256] ++ s) ((i + 1 : Nat) : Int)) (fun k => ?_) (ih (i + 1) (x / 256) _ (by omega) (by omega) (by omega) hsz)
    show wardmoteref05_Number.l0 (k + 1) _ _ _ _ = _
    have e1 : wrap64 ((i : Int) + 1) = ((i + 1 : Nat) : Int) := by rw [wrap_in _ (by omega)]; omega
    have e2 : wrap64 (Int.tdiv x 256) = x / 256 := by rw [Int.tdiv_eq_ediv_of_nonneg h0, wrap_in _ (by omega)]
    have g : (strOfNums [x % 256]).size + s.size ≤ 9223372036854775807 := by rw [strOfNums_size, hs]; simp; omega
    conv => lhs; unfold wardmoteref05_Number.l0
    rw [if_pos (by omega)]
    simp only [Option.bind_some]
    rw [if_pos g, e1, e2]
theorem num_ev (x : Int) (n : Nat) (hn : n ≤ 8) (h0 : 0 ≤ x) (h1 : x ≤ 9223372036854775807) : Ev (fun k => wardmoteref05_Number.f k x (n : Int)) (strOfNums (numB x n)) := by
  have h := num_l0 n hn n 0 x ⟨#[]⟩ (by omega) h0 h1 rfl
  have e : strOfNums (numB x n) ++ (⟨#[]⟩ : ByteArray) = strOfNums (numB x n) := by apply ByteArray.ext; simp [strOfNums]
  rw [e] at h
  exact h
theorem rpk_l1 (h0 : List Int) (hh : h0.length = 2) (l : List ByteArray) (hl : PackOk l) : ∀ d i, i + d = l.length → Ev (fun k => wardmoteref09_Pack.l1 k (strOfNums (h0 ++ itemsB (l.take i))) l (l.length : Int) (i : Int)) (strOfNums (h0 ++ itemsB l), 0) := by
  obtain ⟨h1, h2, h3⟩ := hl
  intro d
  induction d with
  | zero =>
    intro i hi
    obtain rfl : i = l.length := by omega
    refine Ev.step (f := fun _ => some (strOfNums (h0 ++ itemsB l), 0)) (fun k => ?_) (Ev.now _)
    show wardmoteref09_Pack.l1 (k + 1) _ _ _ _ = _
    unfold wardmoteref09_Pack.l1
    rw [if_neg (by omega), List.take_length]
  | succ d ih =>
    intro i hi
    have hil : i < l.length := by omega
    have hp := tot_part l (i + 1)
    have ht := tot_take l i hil
    have hL := itemsB_length (l.take i)
    have e1 : wrap64 ((i : Int) + 1) = ((i + 1 : Nat) : Int) := by rw [wrap_in _ (by omega)]; omega
    have e2 : strOfNums (h0 ++ itemsB (l.take (i + 1))) = strOfNums (h0 ++ itemsB (l.take i)) ++ strOfNums (numB (l[i].size : Int) 2) ++ l[i] := by
      have e3 : numB (l[i].size : Int) 2 = [(l[i].size : Int) / 256 % 256, (l[i].size : Int) % 256] := rfl
      rw [itemsB_take l i hil, e3]; unfold itemB
      simp only [strOf_append, strOf_bytes, ByteArray.append_assoc]
    have hs0 : (strOfNums (h0 ++ itemsB (l.take i))).size = 2 + tot (l.take i) := by rw [strOfNums_size, List.length_append]; omega
    have hs1 : (strOfNums (numB (l[i].size : Int) 2)).size = 2 := by rw [strOfNums_size, numB_length]
    refine Ev.step (f := fun k => (wardmoteref05_Number.f k (l[i].size : Int) 2).bind fun t => (if (strOfNums (h0 ++ itemsB (l.take i))).size + t.size ≤ 9223372036854775807 then (if (strOfNums (h0 ++ itemsB (l.take i)) ++ t).size + l[i].size ≤ 9223372036854775807 then (wardmoteref09_Pack.l1 k ((strOfNums (h0 ++ itemsB (l.take i)) ++ t) ++ l[i]) l (l.length : Int) (wrap64 ((i : Int) + 1))) else none) else none)) (fun k => ?_) ?_
    · show wardmoteref09_Pack.l1 (k + 1) _ _ _ _ = _
      conv => lhs; unfold wardmoteref09_Pack.l1
      rw [if_pos (by omega), if_pos (by omega), if_pos (by omega), rd_at l i hil]
    · refine Ev.bind (num_ev (l[i].size : Int) 2 (by omega) (by omega) (by omega)) ?_
      refine Ev.congr (fun k => ?_) (ih (i + 1) (by omega))
      have g2 : (strOfNums (h0 ++ itemsB (l.take i)) ++ strOfNums (numB (l[i].size : Int) 2)).size + l[i].size ≤ 9223372036854775807 := by rw [ByteArray.size_append]; omega
      show (if _ then _ else _) = _
      rw [if_pos (by omega), if_pos g2, e1, e2]
theorem rpk_j2 (kind : Int) (l : List ByteArray) : Ev (fun k => wardmoteref09_Pack.j2 k kind l true) (⟨#[]⟩, 2) := by
  refine Ev.step (f := fun _ => some (⟨#[]⟩, 2)) (fun k => ?_) (Ev.now _)
  show wardmoteref09_Pack.j2 (k + 1) _ _ _ = _
  unfold wardmoteref09_Pack.j2
  dsimp only
  rw [if_pos rfl]
theorem rpk_j2_ok (kind : Int) (hk : 0 < kind ∧ kind < 64) (l : List ByteArray) (hl : PackOk l) : Ev (fun k => wardmoteref09_Pack.j2 k kind l false) (strOfNums (packB kind l), 0) := by
  have h := rpk_l1 [kind % 256, (l.length : Int) % 256] rfl l hl l.length 0 (by omega)
  obtain ⟨h1, h2, h3⟩ := hl
  refine Ev.step (f := fun k => (wardmoteref05_Number.f k kind 1).bind fun t => ((wardmoteref05_Number.f k (l.length : Int) 1).bind fun u => (if t.size + u.size ≤ 9223372036854775807 then (wardmoteref09_Pack.l1 k (t ++ u) l (l.length : Int) 0) else none))) (fun k => ?_) ?_
  · show wardmoteref09_Pack.j2 (k + 1) _ _ _ = _
    unfold wardmoteref09_Pack.j2
    dsimp only
    rw [if_neg (by simp)]
  · refine Ev.bind (num_ev kind 1 (by omega) (by omega) (by omega)) ?_
    refine Ev.bind (num_ev (l.length : Int) 1 (by omega) (by omega) (by omega)) ?_
    refine Ev.congr (fun k => ?_) h
    have s1 : (strOfNums (numB kind 1)).size = 1 := by rw [strOfNums_size, numB_length]
    have s2 : (strOfNums (numB (l.length : Int) 1)).size = 1 := by rw [strOfNums_size, numB_length]
    have e : strOfNums (numB kind 1) ++ strOfNums (numB (l.length : Int) 1) = strOfNums ([kind % 256, (l.length : Int) % 256] ++ itemsB (l.take 0)) := by
      rw [← strOf_append]; rfl
    show (if _ then _ else _) = _
    rw [if_pos (by omega), e]
    rfl
theorem rpk_l0 (kind : Int) (hk : 0 < kind ∧ kind < 64) (l : List ByteArray) (hl : l.length ≤ 8796093022208) : ∀ d i, i + d = l.length → (∀ s ∈ l.take i, s.size ≤ 8000) →
    Ev (fun k => wardmoteref09_Pack.l0 k kind l (2 + (tot (l.take i) : Nat) : Int) l (l.length : Int) (i : Int)) (packA kind l) := by
  intro d
  induction d with
  | zero =>
    intro i hi hs
    obtain rfl : i = l.length := by omega
    rw [List.take_length] at hs ⊢
    by_cases h40 : l.length ≤ 40
    · by_cases h2 : 2 + tot l ≤ 20000
      · have hok : PackOk l := ⟨hs, h40, h2⟩
        rw [packA_ok hok]
        refine Ev.step (f := fun k => wardmoteref09_Pack.j2 k kind l false) (fun k => ?_) (rpk_j2_ok kind hk l hok)
        show wardmoteref09_Pack.l0 (k + 1) _ _ _ _ _ _ = _
        unfold wardmoteref09_Pack.l0
        rw [if_neg (by omega), if_neg (by omega), decide_eq_false (by omega)]
      · rw [packA_no (fun h => h2 h.2.2)]
        refine Ev.step (f := fun k => wardmoteref09_Pack.j2 k kind l true) (fun k => ?_) (rpk_j2 _ _)
        show wardmoteref09_Pack.l0 (k + 1) _ _ _ _ _ _ = _
        unfold wardmoteref09_Pack.l0
        rw [if_neg (by omega), if_neg (by omega), decide_eq_true (by omega)]
    · rw [packA_no (fun h => h40 h.2.1)]
      refine Ev.step (f := fun k => wardmoteref09_Pack.j2 k kind l true) (fun k => ?_) (rpk_j2 _ _)
      show wardmoteref09_Pack.l0 (k + 1) _ _ _ _ _ _ = _
      unfold wardmoteref09_Pack.l0
      rw [if_neg (by omega), if_pos (by omega)]
  | succ d ih =>
    intro i hi hs
    have hil : i < l.length := by omega
    by_cases h8 : l[i].size ≤ 8000
    · have hs2 : ∀ s ∈ l.take (i + 1), s.size ≤ 8000 := by
        rw [take_one l i hil]
        intro s hm
        rcases List.mem_append.1 hm with h | h
        · exact hs s h
        · simp at h; rw [h]; exact h8
      refine Ev.step (f := fun k => wardmoteref09_Pack.l0 k kind l (2 + (tot (l.take (i + 1)) : Nat) : Int) l (l.length : Int) ((i + 1 : Nat) : Int)) (fun k => ?_) (ih (i + 1) (by omega) hs2)
      show wardmoteref09_Pack.l0 (k + 1) _ _ _ _ _ _ = _
      have hb := tot_small _ hs
      have ht := tot_take l i hil
      have hlt : (l.take i).length ≤ l.length := by rw [List.length_take]; omega
      conv => lhs; unfold wardmoteref09_Pack.l0
      rw [if_pos (by omega), if_pos (by omega), if_pos (by omega), rd_at l i hil, if_neg (by omega)]
      have e1 : wrap64 ((i : Int) + 1) = ((i + 1 : Nat) : Int) := by rw [wrap_in _ (by omega)]; omega
      have e2 : wrap64 (wrap64 (2 + (tot (l.take i) : Nat) + 2) + (l[i].size : Int)) = (2 + (tot (l.take (i + 1)) : Nat) : Int) := by
        rw [wrap_in (2 + (tot (l.take i) : Nat) + 2) (by omega), wrap_in _ (by omega)]; omega
      rw [e1, e2]
    · rw [packA_no (fun h => h8 (h.1 _ (List.getElem_mem hil)))]
      refine Ev.step (f := fun _ => some (⟨#[]⟩, 2)) (fun k => ?_) (Ev.now _)
      show wardmoteref09_Pack.l0 (k + 1) _ _ _ _ _ _ = _
      unfold wardmoteref09_Pack.l0
      rw [if_pos (by omega), if_pos (by omega), if_pos (by omega), rd_at l i hil, if_pos (by omega)]
theorem rpk_j0 (kind : Int) (l : List ByteArray) : Ev (fun k => wardmoteref09_Pack.j0 k kind l true) (⟨#[]⟩, 1) := by
  refine Ev.step (f := fun _ => some (⟨#[]⟩, 1)) (fun k => ?_) (Ev.now _)
  show wardmoteref09_Pack.j0 (k + 1) _ _ _ = _
  unfold wardmoteref09_Pack.j0
  dsimp only
  rw [if_pos rfl]
theorem rpack_ev (kind : Int) (l : List ByteArray) (hl : l.length ≤ 8796093022208) : Ev (fun k => wardmoteref09_Pack.f k kind l) (packR kind l) := by
  unfold packR
  by_cases h1 : 0 < kind ∧ kind < 64
  · have h := rpk_l0 kind h1 l hl l.length 0 (by omega) (by simp)
    simp only [List.take_zero, tot] at h
    rw [if_pos h1]
    have h2 : Ev (fun k => wardmoteref09_Pack.j0 k kind l false) (packA kind l) := by
      refine Ev.step (f := fun k => wardmoteref09_Pack.l0 k kind l 2 l (l.length : Int) 0) (fun k => ?_) h
      show wardmoteref09_Pack.j0 (k + 1) _ _ _ = _
      unfold wardmoteref09_Pack.j0
      dsimp only
      rw [if_neg (by simp)]
    refine Ev.congr (fun k => ?_) h2
    show wardmoteref09_Pack.f k kind l = _
    unfold wardmoteref09_Pack.f
    rw [if_neg (by omega), decide_eq_false (by omega)]
  · rw [if_neg h1]
    refine Ev.congr (fun k => ?_) (rpk_j0 kind l)
    show wardmoteref09_Pack.f k kind l = _
    unfold wardmoteref09_Pack.f
    by_cases h2 : 0 < kind
    · rw [if_neg (by omega), decide_eq_true (by omega)]
    · rw [if_pos (by omega)]
end Go.Proofs.Ytieencpejpeenaa
