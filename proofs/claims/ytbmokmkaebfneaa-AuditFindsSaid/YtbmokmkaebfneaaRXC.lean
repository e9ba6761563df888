/- A region on paper. -/
import Derived.Test.YtbmokmkaebfneaaRXB
namespace Go.Proofs.Ytbmokmkaebfneaa
open Go.RowKit
namespace RX
set_option linter.unnecessarySimpa false
set_option linter.unusedVariables false
set_option linter.unusedSimpArgs false
/-- What is known at a point of the code: slots, blocks, the next block's number. -/
structure St where
  sl : List (Nat × SV)
  hp : List (Nat × Bk)
  nx : Nat
def guardS (ops : Array Oper) (sl : List (Nat × SV)) (o : Oper) : Option Bool := match o.guard with
  | none => some true
  | some (g, w) => match (ops[g]?).bind (·.dst) with
    | some d => match lkS sl d with
      | .bo t => some (t == w)
      | _ => none
    | none => none
def Eff.bd (f : Eff) (n : Nat) : Bool := f.v.bd n && f.up.all fun x => Nat.blt x.1 n && x.2.bd n
def dstB (N : Nat) : Option Nat → Bool
  | none => true
  | some d => Nat.blt d N
def putL (sl : List (Nat × SV)) : Option Nat → SV → List (Nat × SV)
  | none, _ => sl
  | some d, v => (d, v) :: sl
def noEff : Eff := ⟨.any, [], [], 0⟩
abbrev R5 := Option (List (Option Nat × Eff) × List Nat × St × List Hint × List Obl)
/-- Does it leave alone what is read only? -/
def roB (ro : List Nat) (f : Eff) : Bool := f.up.all fun x => !ro.any (Nat.beq x.1)
def opStep (P : Program) (Γ : List Gm) (lens ro : List Nat) (N : Nat) (ops : Array Oper) (s : St) (o : Oper) (hs : List Hint) : R3 :=
  match guardS ops s.sl o with
  | none => none
  | some false => cond (dstB N o.dst) (some (noEff, hs, [])) none
  | some true => match opEff P Γ lens (avOf (lkS s.sl)) s.hp s.nx o hs with
    | some (f, hs', os) => cond (dstB N o.dst && (f.bd (s.nx + f.nw) && roB ro f)) (some (f, hs', os)) none
    | none => none
def St.ap (s : St) (d : Option Nat) (f : Eff) : St := ⟨putL s.sl d f.v, f.up ++ s.hp, s.nx + f.nw⟩
def runOps (P : Program) (Γ : List Gm) (lens ro : List Nat) (N : Nat) (ops : Array Oper) : List Oper → St → List Hint → R5
  | [], s, hs => some ([], [], s, hs, [])
  | o :: r, s, hs => match opStep P Γ lens ro N ops s o hs with
    | some (f, hs', os) => match runOps P Γ lens ro N ops r (s.ap o.dst f) hs' with
      | some (L, ns, s', hs'', os') => some ((o.dst, f) :: L, s.nx :: ns, s', hs'', os ++ os')
      | none => none
    | none => none

def allT : Nat → Bool := fun _ => true
theorem foldS_all {F : Nat → Bool} : ∀ (l : List (Option Nat × Eff)) (i : Nat) (σ : Nat → SV), (∀ k, k < l.length → F (i + k) = true) → foldS F i l σ = foldS allT 0 l σ := by
  intro l i σ h
  funext t
  have : ∀ (l : List (Option Nat × Eff)) (i j : Nat) (σ : Nat → SV), (∀ k, k < l.length → F (i + k) = true) → foldS F i l σ = foldS allT j l σ := by
    intro l
    induction l with
    | nil => intros; rfl
    | cons x l ih =>
      intro i j σ h
      obtain ⟨d, f⟩ := x
      show foldS F (i + 1) l _ = foldS allT (j + 1) l _
      rw [if_pos (by simpa using h 0 (by simp)), if_pos (show allT j = true from rfl)]
      exact ih (i + 1) (j + 1) _ (fun k hk => by have := h (k + 1) (by simpa using hk); rwa [show i + (k + 1) = i + 1 + k by omega] at this)
  rw [this l i 0 σ h]
theorem foldH_all {F : Nat → Bool} : ∀ (l : List (Option Nat × Eff)) (i : Nat) (σ : Nat → Option Bk), (∀ k, k < l.length → F (i + k) = true) → foldH F i l σ = foldH allT 0 l σ := by
  have : ∀ (l : List (Option Nat × Eff)) (i j : Nat) (σ : Nat → Option Bk), (∀ k, k < l.length → F (i + k) = true) → foldH F i l σ = foldH allT j l σ := by
    intro l
    induction l with
    | nil => intros; rfl
    | cons x l ih =>
      intro i j σ h
      obtain ⟨d, f⟩ := x
      show foldH F (i + 1) l _ = foldH allT (j + 1) l _
      rw [if_pos (by simpa using h 0 (by simp)), if_pos (show allT j = true from rfl)]
      exact ih (i + 1) (j + 1) _ (fun k hk => by have := h (k + 1) (by simpa using hk); rwa [show i + (k + 1) = i + 1 + k by omega] at this)
  intro l i σ h
  rw [this l i 0 σ h]
theorem foldS_shift {F : Nat → Bool} : ∀ (l : List (Option Nat × Eff)) (i : Nat) (σ : Nat → SV), (∀ k, k < l.length → F (i + k) = false) → foldS F i l σ = σ := by
  intro l i σ h
  funext t
  exact foldS_none l i σ (fun k d f hk hF => by rw [h k (List.getElem?_eq_some_iff.1 hk).1] at hF; cases hF)
theorem foldH_shift {F : Nat → Bool} : ∀ (l : List (Option Nat × Eff)) (i : Nat) (σ : Nat → Option Bk), (∀ k, k < l.length → F (i + k) = false) → foldH F i l σ = σ := by
  intro l i σ h
  funext t
  exact foldH_none l i σ (fun k d f hk hF => by rw [h k (List.getElem?_eq_some_iff.1 hk).1] at hF; cases hF)
theorem foldS_app {F : Nat → Bool} : ∀ (a b : List (Option Nat × Eff)) (i : Nat) (σ : Nat → SV), foldS F i (a ++ b) σ = foldS F (i + a.length) b (foldS F i a σ)
  | [], b, i, σ => rfl
  | (d, f) :: a, b, i, σ => by
    show foldS F (i + 1) (a ++ b) _ = _
    rw [foldS_app a b (i + 1)]
    show foldS F (i + 1 + a.length) b _ = foldS F (i + (a.length + 1)) b _
    rw [show i + 1 + a.length = i + (a.length + 1) by omega]; rfl
theorem foldH_app {F : Nat → Bool} : ∀ (a b : List (Option Nat × Eff)) (i : Nat) (σ : Nat → Option Bk), foldH F i (a ++ b) σ = foldH F (i + a.length) b (foldH F i a σ)
  | [], b, i, σ => rfl
  | (d, f) :: a, b, i, σ => by
    show foldH F (i + 1) (a ++ b) _ = _
    rw [foldH_app a b (i + 1)]
    show foldH F (i + 1 + a.length) b _ = foldH F (i + (a.length + 1)) b _
    rw [show i + 1 + a.length = i + (a.length + 1) by omega]; rfl
theorem foldS_take (L : List (Option Nat × Eff)) (i : Nat) (hi : i ≤ L.length) (σ : Nat → SV) : foldS (fun j => Nat.blt j i) 0 L σ = foldS allT 0 (L.take i) σ := by
  conv => lhs; rw [← List.take_append_drop i L]
  rw [foldS_app, foldS_shift (L.drop i), foldS_all]
  · intro k hk; rw [Nat.zero_add]; exact blt_iff.2 (by rw [List.length_take] at hk; omega)
  · intro k hk
    cases hq : Nat.blt (0 + (L.take i).length + k) i with
    | false => rfl
    | true => have := blt_iff.1 hq; rw [List.length_take] at this; omega
theorem foldH_take (L : List (Option Nat × Eff)) (i : Nat) (hi : i ≤ L.length) (σ : Nat → Option Bk) : foldH (fun j => Nat.blt j i) 0 L σ = foldH allT 0 (L.take i) σ := by
  conv => lhs; rw [← List.take_append_drop i L]
  rw [foldH_app, foldH_shift (L.drop i), foldH_all]
  · intro k hk; rw [Nat.zero_add]; exact blt_iff.2 (by rw [List.length_take] at hk; omega)
  · intro k hk
    cases hq : Nat.blt (0 + (L.take i).length + k) i with
    | false => rfl
    | true => have := blt_iff.1 hq; rw [List.length_take] at this; omega
theorem lkS_putL (sl : List (Nat × SV)) (d : Option Nat) (v : SV) : lkS (putL sl d v) = putS (lkS sl) d v := by
  funext t
  cases d with
  | none => simp [putL, putS]
  | some d =>
    simp only [putL, lkS, putS]
    cases hq : Nat.beq d t with
    | true => rw [Nat.eq_of_beq_eq_true hq, if_pos rfl]; rfl
    | false => rw [if_neg (fun e => by have e := Option.some.inj e; rw [e, Nat.beq_refl] at hq; cases hq)]; rfl
theorem lkH_append : ∀ (a b : List (Nat × Bk)) (t : Nat), lkH (a ++ b) t = match lkH a t with | some x => some x | none => lkH b t
  | [], _, _ => rfl
  | (i, v) :: a, b, t => by
    simp only [List.cons_append, lkH]
    cases hq : Nat.beq i t with
    | true => rfl
    | false => simp only [cond_false]; exact lkH_append a b t
theorem lkH_putH (hp up : List (Nat × Bk)) : lkH (up ++ hp) = putH (lkH hp) up := by
  funext t; rw [lkH_append]; rfl

/-- What an operation of a region was reckoned from. -/
structure Fact (P : Program) (V : Env) (Γ : List Gm) (lens ro : List Nat) (N : Nat) (ops : Array Oper) (σs : Nat → SV) (σh : Nat → Option Bk) (pre : List (Option Nat × Eff)) (o : Oper) (f : Eff) (n : Nat) : Prop where
  ok : ∃ (sk : St), sk.nx = n ∧ lkS sk.sl = foldS allT 0 pre σs ∧ lkH sk.hp = foldH allT 0 pre σh ∧
    ((guardS ops sk.sl o = some true ∧ ∃ h h' os, opEff P Γ lens (avOf (lkS sk.sl)) sk.hp n o h = some (f, h', os) ∧ allO P V os) ∨ (guardS ops sk.sl o = some false ∧ f = noEff))
  bd : f.bd (n + f.nw) = true
  dN : dstB N o.dst = true
  ro : roB ro f = true
theorem noEff_bd (n : Nat) : noEff.bd n = true := by simp [noEff, Eff.bd, SV.bd]
theorem opStep_fact {P : Program} {V : Env} {Γ : List Gm} {lens ro : List Nat} {N : Nat} {ops : Array Oper} {σs : Nat → SV} {σh : Nat → Option Bk} {pre : List (Option Nat × Eff)} {s : St} {o : Oper} {hs hs' : List Hint} {f : Eff} {os : List Obl}
    (h : opStep P Γ lens ro N ops s o hs = some (f, hs', os)) (ho : allO P V os) (h1 : lkS s.sl = foldS allT 0 pre σs) (h2 : lkH s.hp = foldH allT 0 pre σh) : Fact P V Γ lens ro N ops σs σh pre o f s.nx := by
  unfold opStep at h
  split at h
  · cases h
  · rename_i hg
    obtain ⟨hq, he⟩ := cond_bind h
    cases he
    exact ⟨⟨s, rfl, h1, h2, .inr ⟨hg, rfl⟩⟩, noEff_bd _, hq, rfl⟩
  · rename_i hg
    split at h
    · rename_i f' h' os' he
      obtain ⟨hq, hh⟩ := cond_bind h
      cases hh
      simp only [Bool.and_eq_true] at hq
      exact ⟨⟨s, rfl, h1, h2, .inl ⟨hg, _, _, _, he, ho⟩⟩, hq.2.1, hq.1, hq.2.2⟩
    · cases h
theorem runOps_spec {P : Program} {V : Env} {Γ : List Gm} {lens ro : List Nat} {N : Nat} {ops : Array Oper} {σs : Nat → SV} {σh : Nat → Option Bk} :
    ∀ (l : List Oper) (pre : List (Option Nat × Eff)) (s s' : St) (hs hs' : List Hint) (L : List (Option Nat × Eff)) (ns : List Nat) (os : List Obl), runOps P Γ lens ro N ops l s hs = some (L, ns, s', hs', os) → allO P V os →
      lkS s.sl = foldS allT 0 pre σs → lkH s.hp = foldH allT 0 pre σh →
      L.length = l.length ∧ ns.length = l.length ∧ (∀ (k : Nat) (o : Oper), l[k]? = some o → ∃ f n, L[k]? = some (o.dst, f) ∧ ns[k]? = some n ∧ s.nx ≤ n ∧ n + f.nw ≤ s'.nx ∧ Fact P V Γ lens ro N ops σs σh (pre ++ L.take k) o f n) ∧
      (∀ (j k n m : Nat) (d : Option Nat) (f : Eff), j < k → ns[j]? = some n → L[j]? = some (d, f) → ns[k]? = some m → n + f.nw ≤ m) ∧ s.nx ≤ s'.nx ∧ lkS s'.sl = foldS allT 0 (pre ++ L) σs ∧ lkH s'.hp = foldH allT 0 (pre ++ L) σh
  | [], pre, s, s', hs, hs', L, ns, os, h, _, h1, h2 => by
    cases h
    exact ⟨rfl, rfl, fun k o hk => by simp at hk, fun j k n m d f _ hj => by simp at hj, Nat.le_refl _, by simpa using h1, by simpa using h2⟩
  | o :: r, pre, s, s', hs, hs', L, ns, os, h, ho, h1, h2 => by
    unfold runOps at h
    split at h
    case h_2 => cases h
    rename_i f hs1 os1 hst
    split at h
    case h_2 => cases h
    rename_i L' ns' s2 hs2 os2 hrest
    cases h
    rw [allO_app] at ho
    have hf := opStep_fact (σs := σs) (σh := σh) hst ho.1 h1 h2
    have e1 : lkS (s.ap o.dst f).sl = foldS allT 0 (pre ++ [(o.dst, f)]) σs := by
      rw [foldS_app, ← h1]; exact lkS_putL _ _ _
    have e2 : lkH (s.ap o.dst f).hp = foldH allT 0 (pre ++ [(o.dst, f)]) σh := by
      rw [foldH_app, ← h2]; exact lkH_putH _ _
    obtain ⟨i1, i2, i3, i4, i5, i6, i7⟩ := runOps_spec r (pre ++ [(o.dst, f)]) _ _ _ _ _ _ _ hrest ho.2 e1 e2
    have hnx : (s.ap o.dst f).nx = s.nx + f.nw := rfl
    refine ⟨by simp [i1], by simp [i2], ?_, ?_, by omega, ?_, ?_⟩
    · intro k o' hk
      cases k with
      | zero =>
        simp at hk; subst hk
        exact ⟨f, s.nx, rfl, rfl, Nat.le_refl _, by omega, by simpa using hf⟩
      | succ k =>
        obtain ⟨f', n', a, b, c, d, e⟩ := i3 k o' (by simpa using hk)
        exact ⟨f', n', by simpa using a, by simpa using b, by omega, d, by simpa using e⟩
    · intro j k n m d f' hjk hj hL hk
      cases k with
      | zero => omega
      | succ k =>
        cases j with
        | zero =>
          simp at hj hL hk
          obtain ⟨_, rfl⟩ := hL
          subst hj
          have hkl : k < r.length := by rw [← i2]; exact (List.getElem?_eq_some_iff.1 hk).1
          obtain ⟨f'', n'', a, b, c, _, _⟩ := i3 k _ (List.getElem?_eq_getElem hkl)
          rw [hk] at b; cases b
          omega
        | succ j => exact i4 j k n m d f' (by omega) (by simpa using hj) (by simpa using hL) (by simpa using hk)
    · rw [i6]; simp
    · rw [i7]; simp
end RX
end Go.Proofs.Ytbmokmkaebfneaa
