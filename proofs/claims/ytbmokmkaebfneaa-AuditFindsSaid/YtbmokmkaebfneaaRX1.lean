/- What a walk on paper keeps true of slots and memory; one operation; a region in any order. -/
import Derived.Test.YtbmokmkaebfneaaRX0
namespace Go.Proofs.Ytbmokmkaebfneaa
open Go.RowKit
namespace RX
set_option linter.unnecessarySimpa false
set_option linter.unusedVariables false
set_option linter.unusedSimpArgs false

def lkS : List (Nat × SV) → Nat → SV
  | [], _ => .any
  | (i, v) :: r, t => cond (Nat.beq i t) v (lkS r t)
def lkH : List (Nat × Bk) → Nat → Option Bk
  | [], _ => none
  | (i, v) :: r, t => cond (Nat.beq i t) (some v) (lkH r t)

/-- w' is w, but for blocks of A and what was made. -/
structure Fr (w w' : World) (A : Nat → Prop) : Prop where
  os : w'.os = w.os
  tape : w'.tape = w.tape
  output : w'.output = w.output
  size : w.heap.size ≤ w'.heap.size
  block : ∀ b, b < w.heap.size → ¬ A b → w'.heap[b]? = w.heap[b]?
theorem Fr.refl (w : World) (A : Nat → Prop) : Fr w w A := ⟨rfl, rfl, rfl, Nat.le_refl _, fun _ _ _ => rfl⟩
theorem Fr.trans {a b c : World} {A B : Nat → Prop} (h : Fr a b A) (k : Fr b c B) (hB : ∀ x, x < a.heap.size → B x → A x) : Fr a c A :=
  ⟨k.os.trans h.os, k.tape.trans h.tape, k.output.trans h.output, Nat.le_trans h.size k.size, fun x hx hA => (k.block x (Nat.lt_of_lt_of_le hx h.size) (fun hb => hA (hB x hx hb))).trans (h.block x hx hA)⟩
theorem Fr.mono {a b : World} {A B : Nat → Prop} (h : Fr a b A) (hB : ∀ x, x < a.heap.size → A x → B x) : Fr a b B :=
  ⟨h.os, h.tape, h.output, h.size, fun x hx hn => h.block x hx fun ha => hn (hB x hx ha)⟩
theorem Fr.of_below {w w' : World} (h : Below w.heap.size w w') (A : Nat → Prop) : Fr w w' A := ⟨h.os, h.tape, h.output, h.size, fun b hb _ => h.block b hb⟩
theorem Fr.below {w w' : World} {A : Nat → Prop} (h : Fr w w' A) (hA : ∀ b, ¬ A b) : Below w.heap.size w w' := ⟨h.os, h.tape, h.output, h.size, fun b hb => h.block b hb (hA b)⟩

theorem lt_of_heap {w : World} {b : Nat} {o : Obj} (h : w.heap[b]? = some o) : b < w.heap.size := by
  rcases Nat.lt_or_ge b w.heap.size with h' | h'
  · exact h'
  · rw [Array.getElem?_eq_none h'] at h; cases h

theorem lt_of_holds {V : Env} {ρ : Nat → Nat × Nat} {w : World} {b : Nat} {x : Bk} (h : x.holds V ρ w.heap[b]?) (hl : x.live = true) : b < w.heap.size := by
  cases x with
  | view i => obtain ⟨r, t, z, h⟩ := h; exact lt_of_heap h
  | gone => cases hl
  | cs ty l => exact lt_of_heap h
  | row ty i => exact lt_of_heap h
  | ob i => exact lt_of_heap h
  | own ty i c z => exact lt_of_heap h
/-- What one operation does: its value, the blocks it looks at, those it leaves otherwise or makes (nw of them: n0.. ). -/
structure Eff where
  v : SV
  rd : List (Nat × Bk)
  up : List (Nat × Bk)
  nw : Nat

def putS (σ : Nat → SV) (d : Option Nat) (v : SV) : Nat → SV := fun t => if d = some t then v else σ t
def putH (σ : Nat → Option Bk) (up : List (Nat × Bk)) : Nat → Option Bk := fun i => match lkH up i with | some b => some b | none => σ i

/-- Is something known there? -/
def lvO : Option Bk → Bool
  | some b => b.live
  | none => false
theorem lvO_some {o : Option Bk} (h : lvO o = true) : ∃ b, o = some b ∧ b.live = true := by
  cases o with
  | none => cases h
  | some b => exact ⟨b, rfl, h⟩
theorem live_ne {b : Bk} (h : b.live = true) : b ≠ .gone := fun e => by rw [e] at h; cases h
theorem gone_of {b : Bk} (h : b.live = false) : b = .gone := by cases b <;> first | rfl | cases h
structure Inv (V : Env) (w0 : World) (ρ0 : Nat → Nat × Nat) (p0 N : Nat) (ro : Nat → Bool) (ρ : Nat → Nat × Nat) (σs : Nat → SV) (σh : Nat → Option Bk) (a : Act) (w : World) : Prop where
  size : a.tmps.size = N
  defers : a.defers = []
  slots : ∀ t, σs t ≠ .any → a.tmps.getD t undef = den V ρ (σs t)
  heap : ∀ id bk, σh id = some bk → bk.holds V ρ w.heap[(ρ id).1]?
  inj : ∀ i j, lvO (σh i) = true → lvO (σh j) = true → (ro i = false ∨ ro j = false) → (ρ i).1 = (ρ j).1 → i = j
  fr : Fr w0 w (fun b => ∃ i, i < p0 ∧ ro i = false ∧ (ρ0 i).1 = b)
  old : ∀ i, i < p0 → ρ i = ρ0 i
  new : ∀ i, lvO (σh i) = true → p0 ≤ i → w0.heap.size ≤ (ρ i).1 ∨ ∃ k, k < p0 ∧ ro k = false ∧ σh k = some .gone ∧ (ρ i).1 = (ρ0 k).1

def growUpon (P : Program) (next : Value → World → Prop) : Result Next → Prop
  | .ok (.value v) w' => next v w'
  | .ok .skip w' => next undef w'
  | .ok (.enter f args) w' => Calls P f args w' fun e w'' => ∃ v, e = .returned v ∧ next v w''
  | _ => False
theorem growUpon_mono {P : Program} {next next' : Value → World → Prop} (h : ∀ v w, next v w → next' v w) {r : Result Next} (hh : growUpon P next r) : growUpon P next' r := by
  cases r with
  | ok n w' =>
    cases n <;> simp only [growUpon] at hh ⊢
    case value v => exact h _ _ hh
    case skip => exact h _ _ hh
    case enter f args => exact hh.mono fun e w'' ⟨v, he, hn⟩ => ⟨v, he, h _ _ hn⟩
  | halt x w' => simp only [growUpon] at hh
theorem wp_of_grow {P : Program} {o : Oper} {a : Act} {w : World} {K : Act → World → Prop} {Q : Exit → Act → World → Prop} (hh : growUpon P (fun v w' => K (a.put o.dst v) w') ((execOp a.eval o).run P w)) : o.wp P a w K Q := by
  unfold Oper.wp
  generalize (execOp a.eval o).run P w = r at *
  cases r with
  | ok n w' =>
    cases n <;> simp only [growUpon] at hh <;> simp only [Oper.upon]
    case enter f args => exact hh.mono fun e w'' ⟨v, he, hn⟩ => by subst he; exact hn
    all_goals exact hh
  | halt x w' => simp only [growUpon] at hh

/-- What is so behind an operation that does f; ρ' numbers the blocks. -/
def PostAt (V : Env) (n0 : Nat) (ρ : Nat → Nat × Nat) (w : World) (f : Eff) (v : Value) (w' : World) (ρ' : Nat → Nat × Nat) : Prop :=
  (∀ id, ¬ (n0 ≤ id ∧ id < n0 + f.nw) → ρ' id = ρ id) ∧ (∀ id, n0 ≤ id → id < n0 + f.nw → w.heap.size ≤ (ρ' id).1 ∨ ∃ g, lkH f.up g = some .gone ∧ ¬ (n0 ≤ g ∧ g < n0 + f.nw) ∧ (ρ' id).1 = (ρ g).1) ∧
    (∀ i j, n0 ≤ i → i < n0 + f.nw → n0 ≤ j → j < n0 + f.nw → (ρ' i).1 = (ρ' j).1 → i = j) ∧ (f.v ≠ .any → v = den V ρ' f.v) ∧
    (∀ id bk, lkH f.up id = some bk → bk.holds V ρ' w'.heap[(ρ' id).1]?) ∧
    Fr w w' (fun b => ∃ id, lkH f.up id ≠ none ∧ ¬ (n0 ≤ id ∧ id < n0 + f.nw) ∧ (ρ id).1 = b)
def Post (V : Env) (n0 : Nat) (ρ : Nat → Nat × Nat) (w : World) (f : Eff) (v : Value) (w' : World) : Prop := ∃ ρ' : Nat → Nat × Nat, PostAt V n0 ρ w f v w' ρ'

theorem getD_setIfInBounds {xs : Array Value} {i j : Nat} {v d : Value} : (xs.setIfInBounds i v).getD j d = if i = j ∧ i < xs.size then v else xs.getD j d := by
  simp only [Array.getD_eq_getD_getElem?, Array.getElem?_setIfInBounds]
  by_cases h : i = j
  · subst h
    by_cases h2 : i < xs.size <;> simp [h2]
  · simp [h]

theorem Inv.stepAt {V : Env} {w0 : World} {ρ0 : Nat → Nat × Nat} {p0 N : Nat} {ro : Nat → Bool} {ρ : Nat → Nat × Nat} {σs : Nat → SV} {σh : Nat → Option Bk} {a : Act} {w w' : World} {n0 : Nat} {f : Eff} {v : Value} {d : Option Nat} {ρ' : Nat → Nat × Nat}
    (h : Inv V w0 ρ0 p0 N ro ρ σs σh a w) (hp : PostAt V n0 ρ w f v w' ρ')
    (hup : ∀ id, lkH f.up id ≠ none → ¬ (n0 ≤ id ∧ id < n0 + f.nw) → lvO (σh id) = true) (hro : ∀ id, lkH f.up id ≠ none → ro id = false)
    (hn : ∀ id, n0 ≤ id → id < n0 + f.nw → σh id = none ∧ p0 ≤ id)
    (hs : ∀ t, (σs t).out n0 (n0 + f.nw) = true) (hh : ∀ id bk, σh id = some bk → bk.out n0 (n0 + f.nw) = true) (hd : ∀ t, d = some t → t < N) :
    Inv V w0 ρ0 p0 N ro ρ' (putS σs d f.v) (putH σh f.up) (a.put d v) w' := by
  obtain ⟨h1, h2, h3, h4, h5, h6⟩ := hp
  have key : ∀ id, σh id ≠ none → ¬ (n0 ≤ id ∧ id < n0 + f.nw) := fun id hi hb => hi (hn id hb.1 hb.2).1
  have some_ne : ∀ {id}, lvO (σh id) = true → σh id ≠ none := fun {id} hi e => by rw [e] at hi; cases hi
  have there : ∀ id, lvO (σh id) = true → (ρ id).1 < w.heap.size := fun id hi => by
    obtain ⟨bk, hb, hl⟩ := lvO_some hi
    exact lt_of_holds (h.heap id bk hb) hl
  -- what is known behind, and not new, was known ahead
  have keyUp : ∀ id, lvO (putH σh f.up id) = true → (n0 ≤ id ∧ id < n0 + f.nw) ∨ (¬ (n0 ≤ id ∧ id < n0 + f.nw) ∧ lvO (σh id) = true) := fun id hi => by
    by_cases hb : n0 ≤ id ∧ id < n0 + f.nw
    · exact .inl hb
    · refine .inr ⟨hb, ?_⟩
      unfold putH at hi
      cases hu : lkH f.up id with
      | none => rw [hu] at hi; exact hi
      | some b => exact hup id (by rw [hu]; simp) hb
  have notGone : ∀ {id g}, lvO (putH σh f.up id) = true → lkH f.up g = some .gone → g ≠ id := fun {id g} hi hg e => by
    subst e; unfold putH at hi; rw [hg] at hi; cases hi
  -- a new one is none of the old ones
  have apart : ∀ i j, n0 ≤ i → i < n0 + f.nw → ¬ (n0 ≤ j ∧ j < n0 + f.nw) → lvO (σh j) = true → lvO (putH σh f.up j) = true → (ρ' i).1 ≠ (ρ j).1 := by
    intro i j hi1 hi2 hj hj' hj2 he
    rcases h2 i hi1 hi2 with hge | ⟨g, hg, hgn, hge⟩
    · have := there j hj'; omega
    · have hgu : lkH f.up g ≠ none := by rw [hg]; simp
      exact notGone hj2 hg (h.inj g j (hup g hgu hgn) hj' (.inl (hro g hgu)) (hge.symm.trans he))
  refine ⟨?_, ?_, ?_, ?_, ?_, ?_, ?_, ?_⟩
  · cases d <;> simp [Act.put, h.size]
  · cases d <;> exact h.defers
  · intro t ht
    unfold putS at ht ⊢
    by_cases hdt : d = some t
    · subst hdt
      rw [if_pos rfl] at ht ⊢
      have : t < a.tmps.size := by rw [h.size]; exact hd t rfl
      show (a.tmps.setIfInBounds t v).getD t undef = _
      rw [getD_setIfInBounds, if_pos ⟨rfl, this⟩]
      exact h4 ht
    · rw [if_neg hdt] at ht ⊢
      rw [den_out h1 (hs t), ← h.slots t ht]
      cases d with
      | none => rfl
      | some d' =>
        show (a.tmps.setIfInBounds d' v).getD t undef = _
        rw [getD_setIfInBounds, if_neg (fun hc => hdt (by rw [hc.1]))]
  · intro id bk hb
    unfold putH at hb
    cases hu : lkH f.up id with
    | some b => rw [hu] at hb; cases hb; exact h5 id _ hu
    | none =>
      rw [hu] at hb
      replace hb : σh id = some bk := hb
      have hk := key id (by rw [hb]; simp)
      cases hl : bk.live with
      | false => rw [gone_of hl]; trivial
      | true =>
        have hlv : lvO (σh id) = true := by rw [hb]; exact hl
        have he : w'.heap[(ρ' id).1]? = w.heap[(ρ id).1]? := by
          rw [h1 id hk]
          refine h6.block _ (there id hlv) ?_
          rintro ⟨id', hu', hn', he⟩
          have : id' = id := h.inj _ _ (hup id' hu' hn') hlv (.inl (hro id' hu')) he
          subst this
          exact hu' hu
        rw [he]
        exact Bk.holds_out h1 (hh id bk hb) (h.heap id bk hb)
  · intro i j hi hj hr he
    rcases keyUp i hi with hi1 | ⟨hi1, hi'⟩ <;> rcases keyUp j hj with hj1 | ⟨hj1, hj'⟩
    · exact h3 i j hi1.1 hi1.2 hj1.1 hj1.2 he
    · rw [h1 j hj1] at he
      exact absurd he (apart i j hi1.1 hi1.2 hj1 hj' hj)
    · rw [h1 i hi1] at he
      exact absurd he.symm (apart j i hj1.1 hj1.2 hi1 hi' hi)
    · rw [h1 i hi1, h1 j hj1] at he
      exact h.inj i j hi' hj' hr he
  · refine h.fr.trans h6 ?_
    rintro x hx ⟨id, hu, hn', rfl⟩
    have hk := hup id hu hn'
    rcases Nat.lt_or_ge id p0 with hp | hp
    · exact ⟨id, hp, hro id hu, by rw [h.old id hp]⟩
    · rcases h.new id hk hp with hge | ⟨k, hk1, hk0, _, hk2⟩
      · omega
      · exact ⟨k, hk1, hk0, hk2.symm⟩
  · intro i hi
    rw [h1 i fun hb => by have := (hn i hb.1 hb.2).2; omega]
    exact h.old i hi
  · -- who is gone stays gone
    have still : ∀ k, k < p0 → σh k = some .gone → putH σh f.up k = some .gone := fun k hk hg => by
      unfold putH
      cases hu : lkH f.up k with
      | none => exact hg
      | some b =>
        have := hup k (by rw [hu]; simp) (fun hb => by have := (hn k hb.1 hb.2).2; omega)
        rw [hg] at this; cases this
    have oldNew : ∀ i, ¬ (n0 ≤ i ∧ i < n0 + f.nw) → lvO (σh i) = true → p0 ≤ i → w0.heap.size ≤ (ρ i).1 ∨ ∃ k, k < p0 ∧ ro k = false ∧ putH σh f.up k = some .gone ∧ (ρ i).1 = (ρ0 k).1 := fun i hi hi' hp => by
      rcases h.new i hi' hp with hge | ⟨k, hk1, hk0, hk2, hk3⟩
      · exact .inl hge
      · exact .inr ⟨k, hk1, hk0, still k hk1 hk2, hk3⟩
    intro i hi hp
    rcases keyUp i hi with hi1 | ⟨hi1, hi'⟩
    · rcases h2 i hi1.1 hi1.2 with hge | ⟨g, hg, hgn, hge⟩
      · exact .inl (Nat.le_trans h.fr.size hge)
      · have hgu : lkH f.up g ≠ none := by rw [hg]; simp
        have hgl := hup g hgu hgn
        rw [hge]
        rcases Nat.lt_or_ge g p0 with hgp | hgp
        · exact .inr ⟨g, hgp, hro g hgu, by unfold putH; rw [hg], by rw [h.old g hgp]⟩
        · exact oldNew g hgn hgl hgp
    · rw [h1 i hi1]; exact oldNew i hi1 hi' hp

theorem Inv.step {V : Env} {w0 : World} {ρ0 : Nat → Nat × Nat} {p0 N : Nat} {ro : Nat → Bool} {ρ : Nat → Nat × Nat} {σs : Nat → SV} {σh : Nat → Option Bk} {a : Act} {w w' : World} {n0 : Nat} {f : Eff} {v : Value} {d : Option Nat}
    (h : Inv V w0 ρ0 p0 N ro ρ σs σh a w) (hp : Post V n0 ρ w f v w')
    (hup : ∀ id, lkH f.up id ≠ none → ¬ (n0 ≤ id ∧ id < n0 + f.nw) → lvO (σh id) = true) (hro : ∀ id, lkH f.up id ≠ none → ro id = false)
    (hn : ∀ id, n0 ≤ id → id < n0 + f.nw → σh id = none ∧ p0 ≤ id)
    (hs : ∀ t, (σs t).out n0 (n0 + f.nw) = true) (hh : ∀ id bk, σh id = some bk → bk.out n0 (n0 + f.nw) = true) (hd : ∀ t, d = some t → t < N) :
    ∃ ρ', Inv V w0 ρ0 p0 N ro ρ' (putS σs d f.v) (putH σh f.up) (a.put d v) w' := by
  obtain ⟨ρ', hp⟩ := hp
  exact ⟨ρ', h.stepAt hp hup hro hn hs hh hd⟩

/-! What is known behind those operations that F picks. -/
def foldS (F : Nat → Bool) : Nat → List (Option Nat × Eff) → (Nat → SV) → (Nat → SV)
  | _, [], σ => σ
  | i, (d, f) :: r, σ => foldS F (i + 1) r (if F i then putS σ d f.v else σ)
def foldH (F : Nat → Bool) : Nat → List (Option Nat × Eff) → (Nat → Option Bk) → (Nat → Option Bk)
  | _, [], σ => σ
  | i, (_, f) :: r, σ => foldH F (i + 1) r (if F i then putH σ f.up else σ)
theorem foldS_agree {F G : Nat → Bool} {t : Nat} : ∀ (l : List (Option Nat × Eff)) (i : Nat) (σ σ' : Nat → SV), (∀ k d f, l[k]? = some (d, f) → d = some t → F (i + k) = G (i + k)) → σ t = σ' t → foldS F i l σ t = foldS G i l σ' t
  | [], _, _, _, _, h => h
  | (d, f) :: r, i, σ, σ', hl, h => by
    refine foldS_agree r (i + 1) _ _ (fun k d' f' hk hd => by have := hl (k + 1) d' f' (by simpa using hk) hd; rwa [show i + (k + 1) = i + 1 + k by omega] at this) ?_
    by_cases hd : d = some t
    · have e0 : F i = G i := by have := hl 0 d f rfl hd; rwa [Nat.add_zero] at this
      rw [e0]
      split <;> simp [putS, hd, h]
    · have : ∀ (τ : Nat → SV) (c : Bool), (if c then putS τ d f.v else τ) t = τ t := fun τ c => by cases c <;> simp [putS, hd]
      rw [this, this]; exact h
theorem foldS_none {F : Nat → Bool} {t : Nat} : ∀ (l : List (Option Nat × Eff)) (i : Nat) (σ : Nat → SV), (∀ k d f, l[k]? = some (d, f) → F (i + k) = true → d ≠ some t) → foldS F i l σ t = σ t
  | [], _, _, _ => rfl
  | (d, f) :: r, i, σ, hl => by
    show foldS F (i + 1) r _ t = _
    rw [foldS_none r (i + 1) _ (fun k d' f' hk hF => hl (k + 1) d' f' (by simpa using hk) (by rwa [show i + (k + 1) = i + 1 + k by omega]))]
    split
    · rename_i hF
      have := hl 0 d f rfl (by simpa using hF)
      simp [putS, this]
    · rfl
theorem foldS_last {F : Nat → Bool} {t : Nat} {f0 : Eff} : ∀ (l : List (Option Nat × Eff)) (i k0 : Nat) (σ : Nat → SV), l[k0]? = some (some t, f0) → F (i + k0) = true →
    (∀ k d f, k0 < k → l[k]? = some (d, f) → F (i + k) = true → d ≠ some t) → foldS F i l σ t = f0.v
  | [], _, _, _, h, _, _ => by simp at h
  | (d, f) :: r, i, 0, σ, h, hF, hl => by
    obtain ⟨rfl, rfl⟩ : d = some t ∧ f = f0 := by simpa using h
    show foldS F (i + 1) r _ t = _
    rw [foldS_none r (i + 1) _ (fun k d' f' hk hF => hl (k + 1) d' f' (by omega) (by simpa using hk) (by rwa [show i + (k + 1) = i + 1 + k by omega])), if_pos (by simpa using hF)]
    simp [putS]
  | (d, f) :: r, i, k0 + 1, σ, h, hF, hl => by
    show foldS F (i + 1) r _ t = _
    exact foldS_last r (i + 1) k0 _ (by simpa using h) (by rwa [show i + 1 + k0 = i + (k0 + 1) by omega]) (fun k d' f' hk hr hF => hl (k + 1) d' f' (by omega) (by simpa using hr) (by rwa [show i + (k + 1) = i + 1 + k by omega]))
theorem foldS_or {F : Nat → Bool} {t : Nat} : ∀ (l : List (Option Nat × Eff)) (i : Nat) (σ : Nat → SV), foldS F i l σ t = σ t ∨ ∃ k d f, l[k]? = some (d, f) ∧ F (i + k) = true ∧ foldS F i l σ t = f.v
  | [], _, _ => .inl rfl
  | (d, f) :: r, i, σ => by
    rcases foldS_or (F := F) (t := t) r (i + 1) (if F i then putS σ d f.v else σ) with h | ⟨k, d', f', hk, hF, h⟩
    · by_cases hF : F i = true
      · by_cases hd : d = some t
        · exact .inr ⟨0, d, f, rfl, by simpa using hF, by show foldS F (i + 1) r _ t = _; rw [h, if_pos hF]; simp [putS, hd]⟩
        · exact .inl (by show foldS F (i + 1) r _ t = _; rw [h, if_pos hF]; simp [putS, hd])
      · exact .inl (by show foldS F (i + 1) r _ t = _; rw [h, if_neg hF])
    · exact .inr ⟨k + 1, d', f', by simpa using hk, by rwa [show i + (k + 1) = i + 1 + k by omega], h⟩
theorem foldH_agree {F G : Nat → Bool} {t : Nat} : ∀ (l : List (Option Nat × Eff)) (i : Nat) (σ σ' : Nat → Option Bk), (∀ k d f, l[k]? = some (d, f) → lkH f.up t ≠ none → F (i + k) = G (i + k)) → σ t = σ' t → foldH F i l σ t = foldH G i l σ' t
  | [], _, _, _, _, h => h
  | (d, f) :: r, i, σ, σ', hl, h => by
    refine foldH_agree r (i + 1) _ _ (fun k d' f' hk hd => by have := hl (k + 1) d' f' (by simpa using hk) hd; rwa [show i + (k + 1) = i + 1 + k by omega] at this) ?_
    cases hd : lkH f.up t with
    | some b =>
      have e0 : F i = G i := by have := hl 0 d f rfl (by simp [hd]); rwa [Nat.add_zero] at this
      rw [e0]
      split <;> simp [putH, hd, h]
    | none =>
      have : ∀ (τ : Nat → Option Bk) (c : Bool), (if c then putH τ f.up else τ) t = τ t := fun τ c => by cases c <;> simp [putH, hd]
      rw [this, this]; exact h
theorem foldH_none {F : Nat → Bool} {t : Nat} : ∀ (l : List (Option Nat × Eff)) (i : Nat) (σ : Nat → Option Bk), (∀ k d f, l[k]? = some (d, f) → F (i + k) = true → lkH f.up t = none) → foldH F i l σ t = σ t
  | [], _, _, _ => rfl
  | (d, f) :: r, i, σ, hl => by
    show foldH F (i + 1) r _ t = _
    rw [foldH_none r (i + 1) _ (fun k d' f' hk hF => hl (k + 1) d' f' (by simpa using hk) (by rwa [show i + (k + 1) = i + 1 + k by omega]))]
    split
    · rename_i hF
      have := hl 0 d f rfl (by simpa using hF)
      simp [putH, this]
    · rfl
theorem foldH_last {F : Nat → Bool} {t : Nat} {d0 : Option Nat} {f0 : Eff} {b0 : Bk} (hb : lkH f0.up t = some b0) : ∀ (l : List (Option Nat × Eff)) (i k0 : Nat) (σ : Nat → Option Bk), l[k0]? = some (d0, f0) → F (i + k0) = true →
    (∀ k d f, k0 < k → l[k]? = some (d, f) → F (i + k) = true → lkH f.up t = none) → foldH F i l σ t = some b0
  | [], _, _, _, h, _, _ => by simp at h
  | (d, f) :: r, i, 0, σ, h, hF, hl => by
    obtain ⟨rfl, rfl⟩ : d = d0 ∧ f = f0 := by simpa using h
    show foldH F (i + 1) r _ t = _
    rw [foldH_none r (i + 1) _ (fun k d' f' hk hF => hl (k + 1) d' f' (by omega) (by simpa using hk) (by rwa [show i + (k + 1) = i + 1 + k by omega])), if_pos (by simpa using hF)]
    simp [putH, hb]
  | (d, f) :: r, i, k0 + 1, σ, h, hF, hl => by
    show foldH F (i + 1) r _ t = _
    exact foldH_last hb r (i + 1) k0 _ (by simpa using h) (by rwa [show i + 1 + k0 = i + (k0 + 1) by omega]) (fun k d' f' hk hr hF => hl (k + 1) d' f' (by omega) (by simpa using hr) (by rwa [show i + (k + 1) = i + 1 + k by omega]))
theorem foldH_or {F : Nat → Bool} {t : Nat} : ∀ (l : List (Option Nat × Eff)) (i : Nat) (σ : Nat → Option Bk), foldH F i l σ t = σ t ∨ ∃ k d f, l[k]? = some (d, f) ∧ F (i + k) = true ∧ lkH f.up t ≠ none ∧ foldH F i l σ t = lkH f.up t
  | [], _, _ => .inl rfl
  | (d, f) :: r, i, σ => by
    rcases foldH_or (F := F) (t := t) r (i + 1) (if F i then putH σ f.up else σ) with h | ⟨k, d', f', hk, hF, hu, h⟩
    · by_cases hF : F i = true
      · cases hd : lkH f.up t with
        | some b => exact .inr ⟨0, d, f, rfl, by simpa using hF, by simp [hd], by show foldH F (i + 1) r _ t = _; rw [h, if_pos hF]; simp [putH, hd]⟩
        | none => exact .inl (by show foldH F (i + 1) r _ t = _; rw [h, if_pos hF]; simp [putH, hd])
      · exact .inl (by show foldH F (i + 1) r _ t = _; rw [h, if_neg hF])
    · exact .inr ⟨k + 1, d', f', by simpa using hk, by rwa [show i + (k + 1) = i + 1 + k by omega], hu, h⟩
end RX
end Go.Proofs.Ytbmokmkaebfneaa
