/- Which nonce was used twice, and how many there are: in plain Lean. -/
import Derived.Test.YtbmokmkaebfneaaRYJ
namespace Go.Proofs.Ytbmokmkaebfneaa
open Go.RowKit
open RX
set_option linter.unusedVariables false
set_option maxRecDepth 10000
set_option maxHeartbeats 1000000
structure EmitN where
  (node : Int) (dx dy : Nat) (di : Bool) (ex ey : Nat) (ei : Bool) (ch : Nat)
structure EmitOk (t : EmitN) : Prop where
  (node : (Lit.int .i64 t.node).wf = true) (dx : t.dx < RR) (dy : t.dy < RR) (ex : t.ex < RR) (ey : t.ey < RR) (ch : t.ch < RR)
noncomputable def emitL (t : EmitN) : List Value := (.int .i64 t.node :: .int .u64 (lb t.dx 0) :: .int .u64 (lb t.dx 1) :: .int .u64 (lb t.dx 2) :: .int .u64 (lb t.dx 3) :: .int .u64 (lb t.dy 0) :: .int .u64 (lb t.dy 1) :: .int .u64 (lb t.dy 2) :: .int .u64 (lb t.dy 3) :: .bool t.di :: .int .u64 (lb t.ex 0) :: .int .u64 (lb t.ex 1) :: .int .u64 (lb t.ex 2) :: .int .u64 (lb t.ex 3) :: .int .u64 (lb t.ey 0) :: .int .u64 (lb t.ey 1) :: .int .u64 (lb t.ey 2) :: .int .u64 (lb t.ey 3) :: .bool t.ei :: .int .u64 (lb t.ch 0) :: .int .u64 (lb t.ch 1) :: .int .u64 (lb t.ch 2) :: .int .u64 (lb t.ch 3) :: [])
theorem emitL_len (t : EmitN) : (emitL t).length = 23 := rfl
def dE : EmitN := ⟨0, 0, 0, false, 0, 0, false, 0⟩
theorem dE_ok : EmitOk dE := ⟨by decide, RR_zero, RR_zero, RR_zero, RR_zero, RR_zero⟩
theorem one_emitL (t : EmitN) : ∀ j, j < 23 → ((emitL t).getD j undef).oneCell' = true := fun j hj => by
  match j, hj with
  | 0, _ => rfl
  | 1, _ => rfl
  | 2, _ => rfl
  | 3, _ => rfl
  | 4, _ => rfl
  | 5, _ => rfl
  | 6, _ => rfl
  | 7, _ => rfl
  | 8, _ => rfl
  | 9, _ => rfl
  | 10, _ => rfl
  | 11, _ => rfl
  | 12, _ => rfl
  | 13, _ => rfl
  | 14, _ => rfl
  | 15, _ => rfl
  | 16, _ => rfl
  | 17, _ => rfl
  | 18, _ => rfl
  | 19, _ => rfl
  | 20, _ => rfl
  | 21, _ => rfl
  | 22, _ => rfl
  | j + 23, h => exact absurd h (by omega)
theorem ones_emitL (t : EmitN) : ∀ u ∈ emitL t, u.oneCell' = true := by
  intro u hu
  obtain ⟨i, hi, e⟩ := List.getElem_of_mem hu
  have := one_emitL t i (by rwa [emitL_len] at hi)
  rw [List.getD_eq_getElem?_getD, List.getElem?_eq_getElem hi, e] at this
  exact this
/-- The pair's cells. -/
noncomputable def prE (t : EmitN) : List Value := (.int .i64 t.node :: .int .u64 (lb t.dx 0) :: .int .u64 (lb t.dx 1) :: .int .u64 (lb t.dx 2) :: .int .u64 (lb t.dx 3) :: .int .u64 (lb t.dy 0) :: .int .u64 (lb t.dy 1) :: .int .u64 (lb t.dy 2) :: .int .u64 (lb t.dy 3) :: .bool t.di :: .int .u64 (lb t.ex 0) :: .int .u64 (lb t.ex 1) :: .int .u64 (lb t.ex 2) :: .int .u64 (lb t.ex 3) :: .int .u64 (lb t.ey 0) :: .int .u64 (lb t.ey 1) :: .int .u64 (lb t.ey 2) :: .int .u64 (lb t.ey 3) :: .bool t.ei :: [])
theorem emit_pair (t : EmitN) : emitL t = prE t ++ lbs t.ch := rfl
theorem emit_eq {a b : EmitN} (h : prE a = prE b) (hc : a.ch = b.ch) : emitL a = emitL b := by rw [emit_pair, emit_pair, h, hc]
theorem emit_ne {a b : EmitN} (ha : EmitOk a) (hb : EmitOk b) (hc : ¬ a.ch = b.ch) : ¬ emitL a = emitL b := fun e => by
  rw [emit_pair, emit_pair] at e
  have h := (List.append_inj e rfl).2
  have h0 : ∀ j, j < 4 → lb a.ch j = lb b.ch j := fun j hj => by
    have := congrArg (fun l => l[j]?) h
    match j, hj with
    | 0, _ => simpa [lbs] using this
    | 1, _ => simpa [lbs] using this
    | 2, _ => simpa [lbs] using this
    | 3, _ => simpa [lbs] using this
  exact hc (words_ext ha.ch hb.ch (h0 0 (by omega)) (h0 1 (by omega)) (h0 2 (by omega)) (h0 3 (by omega)))
abbrev EmitSl := Sl EmitN emitL 23 EmitOk
/-! Which nonce was used twice. -/
def Hit (l : List EmitN) (i j : Nat) : Prop := prE (l.getD i dE) = prE (l.getD j dE) ∧ ¬ (l.getD i dE).ch = (l.getD j dE).ch
def HitJ (l : List EmitN) (j : Nat) : Prop := ∃ i, i < j ∧ Hit l i j
theorem no_hit {l : List EmitN} {j : Nat} (h : ¬ HitJ l j) : ∀ i, i < j → ¬ Hit l i j := fun i hi e => h ⟨i, hi, e⟩
noncomputable def twJ (l : List EmitN) : Nat := firstOf (fun j => ¬ HitJ l j) l.length
noncomputable def twI (l : List EmitN) : Nat := firstOf (fun i => ¬ Hit l i (twJ l)) (twJ l)
theorem twJ_eq {l : List EmitN} {j : Nat} (h1 : j < l.length) (h2 : HitJ l j) (h3 : ∀ k, k < j → ¬ HitJ l k) : twJ l = j := firstOf_eq h1 (fun h => h h2) h3
theorem twI_eq {l : List EmitN} {i j : Nat} (hj : twJ l = j) (h1 : i < j) (h2 : Hit l i j) (h3 : ∀ k, k < i → ¬ Hit l k j) : twI l = i := by
  unfold twI; rw [hj]; exact firstOf_eq h1 (fun h => h h2) h3
def HasTw (l : List EmitN) : Prop := ∃ j, j < l.length ∧ HitJ l j
theorem hasTw_no {l : List EmitN} (h : ¬ HasTw l) : ∀ k, k < l.length → ¬ HitJ l k := fun k hk e => h ⟨k, hk, e⟩
theorem no_hasTw {l : List EmitN} (h : ∀ k, k < l.length → ¬ HitJ l k) : ¬ HasTw l := fun ⟨k, hk, e⟩ => h k hk e
theorem twJ_lt {l : List EmitN} (h : HasTw l) : twJ l < l.length := (firstOf_spec (P := fun j => ¬ HitJ l j) (fun e => no_hasTw e h)).1
theorem twI_lt {l : List EmitN} (h : HasTw l) : twI l < twJ l := by
  have h2 := (firstOf_spec (P := fun j => ¬ HitJ l j) (fun e => no_hasTw e h)).2.1
  obtain ⟨i, hi, e⟩ := Classical.not_not.1 h2
  exact (firstOf_spec (P := fun i => ¬ Hit l i (twJ l)) (n := twJ l) (fun q => q i hi e)).1
theorem no_hits {l : List EmitN} {j : Nat} (h : HitJ l j) (hn : ∀ i, i < j → ¬ Hit l i j) : False := let ⟨i, hi, e⟩ := h; hn i hi e
/-! How many there are. -/
def SeenP (l : List EmitN) (k j : Nat) : Prop := ∃ i, i < k ∧ prE (l.getD i dE) = prE (l.getD j dE)
theorem seenP_yes {l : List EmitN} {k j : Nat} (h : prE (l.getD k dE) = prE (l.getD j dE)) : SeenP l (k + 1) j := ⟨k, by omega, h⟩
theorem seenP_up {l : List EmitN} {k j : Nat} (h : SeenP l k j) : SeenP l (k + 1) j := let ⟨i, hi, e⟩ := h; ⟨i, by omega, e⟩
theorem seenP_no {l : List EmitN} {k j : Nat} (h : ¬ SeenP l k j) (hn : ¬ prE (l.getD k dE) = prE (l.getD j dE)) : ¬ SeenP l (k + 1) j := fun ⟨i, hi, e⟩ => by
  rcases Nat.lt_succ_iff_lt_or_eq.1 hi with hi | rfl
  · exact h ⟨i, hi, e⟩
  · exact hn e
theorem seenP_0 (l : List EmitN) (j : Nat) : ¬ SeenP l 0 j := fun ⟨i, hi, _⟩ => by omega
noncomputable def dsN (l : List EmitN) : Nat → Nat
  | 0 => 0
  | k + 1 => open Classical in if SeenP l k k then dsN l k else dsN l k + 1
theorem dsN_old {l : List EmitN} {k : Nat} (h : SeenP l k k) : dsN l k = dsN l (k + 1) := by conv => rhs; unfold dsN; rw [if_pos h]
theorem dsN_new {l : List EmitN} {k : Nat} (h : ¬ SeenP l k k) : dsN l k + 1 = dsN l (k + 1) := by conv => rhs; unfold dsN; rw [if_neg h]
theorem dsN_le (l : List EmitN) : ∀ k, dsN l k ≤ k
  | 0 => Nat.le_refl _
  | k + 1 => by
    have := dsN_le l k
    unfold dsN; split <;> omega
/-- The map of the pairs. -/
noncomputable def dsM (l : List EmitN) : Nat → List (List Value × Value)
  | 0 => []
  | k + 1 => putK (prE (l.getD k dE)) (.bool true) (dsM l k)
def KP : List LK := [.i .i64, .i .u64, .i .u64, .i .u64, .i .u64, .i .u64, .i .u64, .i .u64, .i .u64, .b, .i .u64, .i .u64, .i .u64, .i .u64, .i .u64, .i .u64, .i .u64, .i .u64, .b]
theorem pair_fits (t : EmitN) : fitsB KP (prE t) = true := rfl
theorem put_mem {k : List Value} {v : Value} {l : List (List Value × Value)} {x : List Value × Value} (h : x ∈ putK k v l) : x.1 = k ∨ x ∈ l := by
  unfold putK at h
  split at h
  · rcases List.mem_or_eq_of_mem_set h with h | rfl
    · exact .inr h
    · exact .inl rfl
  · rcases List.mem_append.1 h with h | h
    · exact .inr h
    · exact .inl (by rw [List.mem_singleton.1 h])
theorem dsM_keys (l : List EmitN) : ∀ k x, x ∈ dsM l k → ∃ i, i < k ∧ x.1 = prE (l.getD i dE)
  | 0, x, h => by simp [dsM] at h
  | k + 1, x, h => by
    rcases put_mem h with e | h
    · exact ⟨k, by omega, e⟩
    · obtain ⟨i, hi, e⟩ := dsM_keys l k x h; exact ⟨i, by omega, e⟩
theorem dsM_fits (l : List EmitN) (k : Nat) : ∀ x, x ∈ dsM l k → fitsB KP x.1 = true := fun x hx => by
  obtain ⟨i, _, e⟩ := dsM_keys l k x hx
  rw [e]; exact pair_fits _
theorem atK_none {k : List Value} : ∀ {l : List (List Value × Value)}, atK k l = none → ∀ x, x ∈ l → eqL k x.1 = false
  | [], _, x, h => by simp at h
  | y :: r, h, x, hx => by
    simp only [atK] at h
    cases he : eqL k y.1 with
    | true => rw [he] at h; cases h
    | false =>
      rw [he] at h
      rcases List.mem_cons.1 hx with rfl | hx
      · exact he
      · exact atK_none (Option.map_eq_none_iff.1 h) x hx
theorem dsM_has (l : List EmitN) : ∀ k i, i < k → ∃ x, x ∈ dsM l k ∧ x.1 = prE (l.getD i dE)
  | 0, i, h => by omega
  | k + 1, i, h => by
    have keep : ∀ x, x ∈ dsM l k → ∃ y, y ∈ dsM l (k + 1) ∧ y.1 = x.1 := fun x hx => by
      show ∃ y, y ∈ putK (prE (l.getD k dE)) (.bool true) (dsM l k) ∧ _
      unfold putK
      split
      · rename_i j hj
        obtain ⟨z, hz, hq⟩ := atK_some hj
        obtain ⟨n, hn⟩ := List.getElem?_of_mem hx
        by_cases hnj : j = n
        · subst hnj
          have e0 : z = x := Option.some.inj (hz.symm.trans hn)
          have e := (eqL_iff (pair_fits (l.getD k dE)) (dsM_fits l k z (List.mem_of_getElem? hz))).1 hq
          exact ⟨_, List.mem_of_getElem? (by rw [List.getElem?_set_self (List.getElem?_eq_some_iff.1 hz).1]), e.trans (by rw [e0])⟩
        · exact ⟨x, List.mem_of_getElem? (by rw [List.getElem?_set_ne hnj]; exact hn), rfl⟩
      · exact ⟨x, List.mem_append_left _ hx, rfl⟩
    rcases Nat.lt_succ_iff_lt_or_eq.1 h with h | rfl
    · obtain ⟨x, hx, e⟩ := dsM_has l k i h
      obtain ⟨y, hy, e'⟩ := keep x hx
      exact ⟨y, hy, e'.trans e⟩
    · show ∃ x, x ∈ putK (prE (l.getD i dE)) (.bool true) (dsM l i) ∧ _
      unfold putK
      split
      · rename_i j hj
        obtain ⟨z, hz, _⟩ := atK_some hj
        exact ⟨_, List.mem_of_getElem? (by rw [List.getElem?_set_self (List.getElem?_eq_some_iff.1 hz).1]), rfl⟩
      · exact ⟨_, List.mem_append_right _ (List.mem_singleton.2 rfl), rfl⟩
theorem dsM_len (l : List EmitN) : ∀ k, (dsM l k).length = dsN l k
  | 0 => rfl
  | k + 1 => by
    have ih := dsM_len l k
    show (putK (prE (l.getD k dE)) (.bool true) (dsM l k)).length = _
    unfold putK
    by_cases hs : SeenP l k k
    · rw [← dsN_old hs]
      obtain ⟨i, hi, e⟩ := hs
      obtain ⟨x, hx, ex⟩ := dsM_has l k i hi
      split
      · rw [List.length_set]; exact ih
      · rename_i hn
        have := atK_none hn x hx
        rw [(eqL_iff (pair_fits _) (dsM_fits l k x hx)).2 (by rw [ex, e])] at this
        cases this
    · rw [← dsN_new hs]
      split
      · rename_i j hj
        obtain ⟨z, hz, hq⟩ := atK_some hj
        have hz' := List.mem_of_getElem? hz
        obtain ⟨i, hi, e⟩ := dsM_keys l k z hz'
        exact absurd ⟨i, hi, by rw [← e]; exact ((eqL_iff (pair_fits _) (dsM_fits l k z hz')).1 hq).symm⟩ hs
      · rw [List.length_append, ih]; rfl
end Go.Proofs.Ytbmokmkaebfneaa
