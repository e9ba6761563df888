/- Code on paper: one way through it; loops round by round, or by a law of their own. -/
import Derived.Test.YtbmokmkaebfneaaRXD
namespace Go.Proofs.Ytbmokmkaebfneaa
open Go.RowKit
namespace RX
set_option linter.unnecessarySimpa false
set_option linter.unusedVariables false
set_option linter.unusedSimpArgs false
/-- The run from a loop's head on. -/
def loopWp (P : Program) (c : Code) (Q : Exit → Act → World → Prop) (a : Act) (w : World) : Prop :=
  ∀ (b : Frame) (k : List Item) (cs : List Frame), ∃ e a' w', Q e a' w' ∧ Arrives P (lone (b.at a (.code c :: .inLoop c :: k)) cs w) b k cs e a' w'
theorem loopWp_mono {P : Program} {c : Code} {Q Q' : Exit → Act → World → Prop} {a : Act} {w : World} (h : loopWp P c Q a w) (hq : ∀ e a w, Q e a w → Q' e a w) : loopWp P c Q' a w :=
  fun b k cs => let ⟨e, a', w', q, r⟩ := h b k cs; ⟨e, a', w', hq _ _ _ q, r⟩
theorem loop_of {P : Program} {c : Code} {Q : Exit → Act → World → Prop} {a : Act} {w : World} (h : loopWp P c Q a w) : (Code.loop c).wp P Q a w :=
  fun b k cs => let ⟨e, a', w', q, r⟩ := h b k cs; ⟨e, a', w', q, .of_steps (.one step_loop) r⟩
theorem loop_round {P : Program} {c : Code} {Q : Exit → Act → World → Prop} {a : Act} {w : World} (h : c.wp P (Exit.then (loopWp P c Q) Q) a w) : loopWp P c Q a w := by
  intro b k cs
  obtain ⟨e, a₁, w₁, hq, harr⟩ := h b (.inLoop c :: k) cs
  cases e with
  | normal =>
    obtain ⟨e₂, a₂, w₂, hq₂, harr₂⟩ := hq b k cs
    exact ⟨e₂, a₂, w₂, hq₂, .of_steps (Steps.trans harr (.one step_inLoop)) harr₂⟩
  | exit id => exact ⟨_, a₁, w₁, hq, .pass (x := .inLoop c) rfl (fun _ _ => .inl (by simp)) harr⟩
  | goto l => exact ⟨_, a₁, w₁, hq, .pass (x := .inLoop c) rfl (fun _ _ => .inl (by simp)) harr⟩
  | ret => exact ⟨_, a₁, w₁, hq, .pass (x := .inLoop c) rfl (fun _ _ => .inl (by simp)) harr⟩
  | panic ch => exact ⟨_, a₁, w₁, hq, .pass (x := .inLoop c) rfl (fun _ _ => .inl (by simp)) harr⟩
  | outgrown => exact ⟨_, a₁, w₁, hq, .pass (x := .inLoop c) rfl (fun _ _ => .inl (by simp)) harr⟩

inductive Ex where
  | normal
  | exit (id : Nat)
  | ret
def Ex.to : Ex → Exit
  | .normal => .normal
  | .exit id => .exit id
  | .ret => .ret
def Ex.beq : Ex → Ex → Bool
  | .normal, .normal => true
  | .exit i, .exit j => Nat.beq i j
  | .ret, .ret => true
  | _, _ => false
theorem Ex.eq_of_beq : ∀ {a b : Ex}, a.beq b = true → a = b := by
  intro a b h
  cases a <;> cases b <;> simp_all [Ex.beq, Nat.beq_eq]

/-- A law of a stretch of code, on paper: what is known ahead (slots, blocks 0 ..), how it ends, what is known behind. -/
structure Sg where
  sl : List (Nat × SV)
  pre : List Bk := []
  ex : Ex
  sl' : List (Nat × SV)
  post : List (Option Bk) := []
  news : List Bk := []
def slotsOK (V : Env) (ρ : Nat → Nat × Nat) (a : Act) : List (Nat × SV) → Prop
  | [] => True
  | (t, v) :: r => a.tmps.getD t undef = den V ρ v ∧ slotsOK V ρ a r
def preOK (V : Env) (ρ : Nat → Nat × Nat) (w : World) (pre : List Bk) (post : List (Option Bk)) : Prop := (∀ i j, i < pre.length → j < pre.length → (isWr post i = true ∨ isWr post j = true) → (ρ i).1 = (ρ j).1 → i = j) ∧ ∀ (i : Nat) (bk : Bk), pre[i]? = some bk → bk.holds V ρ w.heap[(ρ i).1]?
/-- What is so of the blocks behind: p of them known ahead. -/
def postOK (V : Env) (p : Nat) (post : List (Option Bk)) (news : List Bk) (ρ ρ' : Nat → Nat × Nat) (w w' : World) : Prop :=
  (∀ i, i < p → ρ' i = ρ i) ∧ (∀ j, j < news.length → w.heap.size ≤ (ρ' (p + j)).1 ∨ ∃ g, post[g]? = some (some .gone) ∧ (ρ' (p + j)).1 = (ρ g).1) ∧ (∀ i j, i < news.length → j < news.length → (ρ' (p + i)).1 = (ρ' (p + j)).1 → i = j) ∧
    (∀ (i : Nat) (bk : Bk), post[i]? = some (some bk) → bk.holds V ρ' w'.heap[(ρ i).1]?) ∧ (∀ (j : Nat) (bk : Bk), news[j]? = some bk → bk.holds V ρ' w'.heap[(ρ' (p + j)).1]?) ∧
    Fr w w' (fun b => ∃ i bk, post[i]? = some (some bk) ∧ (ρ i).1 = b)
def Sg.Q (V : Env) (N : Nat) (g : Sg) (ρ : Nat → Nat × Nat) (w : World) : Exit → Act → World → Prop := fun e a' w' =>
  e = g.ex.to ∧ a'.tmps.size = N ∧ a'.defers = [] ∧ ∃ ρ', slotsOK V ρ' a' g.sl' ∧ postOK V g.pre.length g.post g.news ρ ρ' w w'
def Sg.Valid (P : Program) (N : Nat) (c : Code) (g : Sg) (VA VB : Env) : Prop :=
  ∀ ρ a w, a.tmps.size = N → a.defers = [] → slotsOK VA ρ a g.sl → preOK VA ρ w g.pre g.post → c.wp P (g.Q VB N ρ w) a w
/-- .. as it is used. -/
structure Sm where
  g : Sg
  τ : List Nat
  υ : List Nat := []
  τ' : List Nat
  υ' : List Nat := []

def ownSl (r : SV → SV) (sl : List (Nat × SV)) : List (Nat × SV) → Option (List Obl)
  | [] => some []
  | (t, v) :: q => match lkS sl t with
    | .any => none
    | x => match mt x (r v), ownSl r sl q with
      | some o, some os => some (o ++ os)
      | _, _ => none
def mapSl (r : SV → SV) : List (Nat × SV) → List (Nat × SV)
  | [] => []
  | (t, v) :: q => (t, r v) :: mapSl r q
def slB (n N : Nat) : List (Nat × SV) → Bool
  | [] => true
  | (t, v) :: q => v.bd n && (Nat.blt t N && slB n N q)
theorem ownSl_spec {P : Program} {V : Env} {r : SV → SV} {sl : List (Nat × SV)} {ρ : Nat → Nat × Nat} {a : Act} (h : ∀ t, lkS sl t ≠ .any → a.tmps.getD t undef = den V ρ (lkS sl t)) : ∀ {q : List (Nat × SV)} {os : List Obl}, ownSl r sl q = some os → allO P V os → slotsOK V ρ a (mapSl r q)
  | [], _, _, _ => trivial
  | (t, v) :: q, os, hq, ho => by
    unfold ownSl at hq
    split at hq
    · cases hq
    · rename_i hx
      split at hq
      · rename_i o os' hm hr
        cases hq
        rw [allO_app] at ho
        refine ⟨?_, ownSl_spec h hr ho.2⟩
        rw [h t hx]
        unfold den; rw [mt_spec _ _ _ hm ho.1 ρ]
      · cases hq
theorem slotsOK_rn {V V' : Env} {ρ ρ' : Nat → Nat × Nat} {a : Act} {r : SV → SV} (h : ∀ x, dl V ρ (r x) = dl V' ρ' x) : ∀ {q : List (Nat × SV)}, slotsOK V ρ a (mapSl r q) ↔ slotsOK V' ρ' a q
  | [] => Iff.rfl
  | (t, v) :: q => by
    simp only [mapSl, slotsOK, slotsOK_rn h (q := q)]
    unfold den; rw [h]
theorem slotsOK_bd {V : Env} {ρ ρ' : Nat → Nat × Nat} {a : Act} {n N : Nat} (h : ∀ i, i < n → ρ' i = ρ i) : ∀ {q : List (Nat × SV)}, slB n N q = true → (slotsOK V ρ' a q ↔ slotsOK V ρ a q)
  | [], _ => Iff.rfl
  | (t, v) :: q, hq => by
    simp only [slB, Bool.and_eq_true] at hq
    simp only [slotsOK, slotsOK_bd h hq.2.2]
    unfold den; rw [dl_agree h hq.1]
theorem slotsOK_lk {V : Env} {ρ : Nat → Nat × Nat} {a : Act} : ∀ {q : List (Nat × SV)}, slotsOK V ρ a q → ∀ t, lkS q t ≠ .any → a.tmps.getD t undef = den V ρ (lkS q t)
  | [], _, t, ht => absurd rfl ht
  | (i, v) :: q, h, t, ht => by
    simp only [lkS] at ht ⊢
    cases hq : Nat.beq i t with
    | true => rw [Nat.eq_of_beq_eq_true hq] at h; exact h.1
    | false => rw [hq] at ht; exact slotsOK_lk h.2 t ht

/-! A stretch's law used at a point. -/
def smR (τ θ : List Nat) (x : SV) : SV := (x.rnE τ).rnI θ
def smB (τ υ θ : List Nat) (x : Bk) : Bk := (x.rnE τ υ).rnI θ
theorem den_smR {V : Env} {τ υ θ : List Nat} {ρ : Nat → Nat × Nat} {x : SV} : dl V ρ (smR τ θ x) = dl (V.sub τ υ) (fun i => ρ (θ.getD i 0)) x := by
  unfold smR; rw [dl_rnI, dl_rnE (υ := υ)]
theorem holds_smB {V : Env} (hE : V.E.length ≤ 1000000) (hO : V.O.length ≤ 1000000) {τ υ θ : List Nat} {ρ : Nat → Nat × Nat} {x : Bk} {o : Option Obj} : (smB τ υ θ x).holds V ρ o ↔ x.holds (V.sub τ υ) (fun i => ρ (θ.getD i 0)) o := by
  unfold smB; rw [Bk.holds_rnI, Bk.holds_rnE hE hO]
/-- The written blocks are none of those that are read only. -/
def roIds (ro : List Nat) : List Nat → List (Option Bk) → Bool
  | i :: is, some _ :: ps => !ro.any (Nat.beq i) && roIds ro is ps
  | _ :: is, none :: ps => roIds ro is ps
  | _, _ => true
theorem roIds_get {ro : List Nat} : ∀ {is : List Nat} {ps : List (Option Bk)} {i id : Nat} {b : Bk}, roIds ro is ps = true → is[i]? = some id → ps[i]? = some (some b) → ro.any (Nat.beq id) = false
  | [], _, _, _, _, _, h, _ => by simp at h
  | _ :: _, [], _, _, _, _, _, h => by simp at h
  | j :: is, some c :: ps, 0, id, b, h, h1, h2 => by simp only [roIds, Bool.and_eq_true, Bool.not_eq_true'] at h; simp at h1; subst h1; exact h.1
  | j :: is, none :: ps, 0, id, b, h, h1, h2 => by simp at h2
  | j :: is, some c :: ps, k + 1, id, b, h, h1, h2 => by simp only [roIds, Bool.and_eq_true] at h; exact roIds_get (i := k) h.2 (by simpa using h1) (by simpa using h2)
  | j :: is, none :: ps, k + 1, id, b, h, h1, h2 => roIds_get (is := is) (ps := ps) (i := k) h (by simpa using h1) (by simpa using h2)
def segAt (ro : List Nat) (N : Nat) (s : St) (m : Sm) (ids : List Nat) : Option (St × List Obl) :=
  (fun θ => match ownSl (smR m.τ θ) s.sl m.g.sl, told s.hp (smB m.τ m.υ θ) ids m.g.pre with
  | some o1, some (_, o2) =>
    cond (nodupB ids && (roIds ro ids m.g.post && (Nat.ble s.nx s.nx && (ro.all (fun i => Nat.blt i s.nx) && (ids.all (fun i => Nat.blt i s.nx) && (Nat.ble m.g.post.length ids.length && (slB (m.g.pre.length + m.g.news.length) N m.g.sl' && (obd (m.g.pre.length + m.g.news.length) m.g.post && (m.g.news.all fun b => b.bd (m.g.pre.length + m.g.news.length))))))))))
      (some (⟨mapSl (smR m.τ' θ) m.g.sl', upOld (smB m.τ' m.υ' θ) ids m.g.post ++ upNew (smB m.τ' m.υ' θ) s.nx m.g.news ++ s.hp, s.nx + m.g.news.length⟩, o1 ++ o2)) none
  | _, _ => none) (ids ++ List.range' s.nx m.g.news.length)
theorem bd_rnI_lt {θ : List Nat} {n M : Nat} (h : ∀ i, i < n → θ.getD i 0 < M) : ∀ {x : SV}, x.bd n = true → (x.rnI θ).bd M = true := by
  intro x
  induction x <;> simp_all [SV.bd, SV.rnI, blt_iff]
theorem bd_rnE {τ : List Nat} {n : Nat} : ∀ {x : SV}, x.bd n = true → (x.rnE τ).bd n = true := by
  intro x
  induction x <;> simp_all [SV.bd, SV.rnE]
  split <;> rfl
theorem bk_bd_rn {τ υ θ : List Nat} {n M : Nat} (h : ∀ i, i < n → θ.getD i 0 < M) {x : Bk} (hx : x.bd n = true) : (smB τ υ θ x).bd M = true := by
  cases x with
  | cs ty l => exact bd_rnI_lt h (bd_rnE hx)
  | own ty i c z =>
    simp only [Bk.bd, Bool.and_eq_true, blt_iff] at hx
    simp only [smB, Bk.rnE, Bk.rnI, Bk.bd, Bool.and_eq_true, blt_iff]
    exact ⟨h c hx.1, bd_rnI_lt h (bd_rnE hx.2)⟩
  | _ => rfl
theorem segAt_ok {P : Program} {V : Env} {N p0 : Nat} {rl : List Nat} (hE : V.E.length ≤ 1000000) (hO : V.O.length ≤ 1000000) {s s' : St} {m : Sm} {ids : List Nat} {os : List Obl} {c : Code} (h : segAt rl N s m ids = some (s', os)) (ho : allO P V os) (hw : WF p0 s)
    (hg : m.g.Valid P N c (V.sub m.τ m.υ) (V.sub m.τ' m.υ')) : WF p0 s' ∧ ∀ {w0 : World} {ρ0 ρ : Nat → Nat × Nat} {a : Act} {w : World}, Inv V w0 ρ0 p0 N (fun i => rl.any (Nat.beq i)) ρ (lkS s.sl) (lkH s.hp) a w →
      c.wp P (fun e a' w' => e = m.g.ex.to ∧ ∃ ρ', Inv V w0 ρ0 p0 N (fun i => rl.any (Nat.beq i)) ρ' (lkS s'.sl) (lkH s'.hp) a' w') a w := by
  unfold segAt at h
  simp only at h
  split at h
  case h_2 => cases h
  rename_i o1 rd o2 hsl ht
  obtain ⟨hq, he⟩ := cond_bind h
  clear h
  cases he
  rw [allO_app] at ho
  simp only [Bool.and_eq_true, List.all_eq_true, Nat.ble_eq, blt_iff] at hq
  obtain ⟨hnd, hroi, _, hrol, hlt, hpl, hsb, hpb, hnb⟩ := hq
  obtain ⟨t1, t2, t3, t4⟩ := told_spec ht ho.2
  have hroF : ∀ id, s.nx ≤ id → rl.any (Nat.beq id) = false := fun id hid => by
    rw [List.any_eq_false]; intro x hx hb; have := hrol x hx; have := Nat.eq_of_beq_eq_true hb; omega
  have hθ : ∀ i, i < ids.length → (ids ++ List.range' s.nx m.g.news.length).getD i 0 = ids.getD i 0 := fun i hi => by
    simp [List.getD_eq_getElem?_getD, List.getElem?_append_left hi]
  have hθn : ∀ j, j < m.g.news.length → (ids ++ List.range' s.nx m.g.news.length).getD (ids.length + j) 0 = s.nx + j := fun j hj => by
    rw [List.getD_eq_getElem?_getD, List.getElem?_append_right (by omega)]
    simp [List.getElem?_range', hj]
  have hid : ∀ i, i < ids.length → ∃ id, ids[i]? = some id ∧ ids.getD i 0 = id ∧ id < s.nx := fun i hi => by
    refine ⟨ids[i], List.getElem?_eq_getElem hi, by simp [List.getD_eq_getElem?_getD, List.getElem?_eq_getElem hi], hlt _ (List.getElem_mem hi)⟩
  have hθb : ∀ i, i < m.g.pre.length + m.g.news.length → (ids ++ List.range' s.nx m.g.news.length).getD i 0 < s.nx + m.g.news.length := fun i hi => by
    rcases Nat.lt_or_ge i ids.length with hl | hge
    · obtain ⟨x, hx, hx', hxn⟩ := hid i hl
      rw [hθ i hl, hx']; omega
    · obtain ⟨j, rfl⟩ : ∃ j, i = ids.length + j := ⟨i - ids.length, by omega⟩
      rw [hθn j (by omega)]; omega
  have upMem : ∀ {id : Nat} {bk : Bk}, lkH (upOld (smB m.τ' m.υ' (ids ++ List.range' s.nx m.g.news.length)) ids m.g.post ++ upNew (smB m.τ' m.υ' (ids ++ List.range' s.nx m.g.news.length)) s.nx m.g.news) id = some bk →
      (∃ (i : Nat) (b : Bk), ids[i]? = some id ∧ m.g.post[i]? = some (some b) ∧ bk = smB m.τ' m.υ' (ids ++ List.range' s.nx m.g.news.length) b) ∨ (∃ (j : Nat) (b : Bk), m.g.news[j]? = some b ∧ id = s.nx + j ∧ bk = smB m.τ' m.υ' (ids ++ List.range' s.nx m.g.news.length) b) := by
    intro id bk hb
    rcases lkH_app hb with hb | hb
    · obtain ⟨i, b, hi, hpi, he⟩ := mem_upOld hb; exact .inl ⟨i, b, hi, hpi, he⟩
    · obtain ⟨j, b, hj, hid', he⟩ := mem_upNew hb; exact .inr ⟨j, b, hj, hid', he⟩
  refine ⟨⟨?_, ?_, Nat.le_trans hw.p0 (Nat.le_add_right _ _)⟩, ?_⟩
  · intro t
    have : ∀ (q : List (Nat × SV)), slB (m.g.pre.length + m.g.news.length) N q = true → ∀ t, (lkS (mapSl (smR m.τ' (ids ++ List.range' s.nx m.g.news.length)) q) t).bd (s.nx + m.g.news.length) = true := by
      intro q
      induction q with
      | nil => intro _ t; rfl
      | cons x q ih =>
        intro hq t
        obtain ⟨i, v⟩ := x
        simp only [slB, Bool.and_eq_true] at hq
        simp only [mapSl, lkS]
        cases Nat.beq i t with
        | true => exact bd_rnI_lt hθb (bd_rnE hq.1)
        | false => exact ih hq.2.2 t
    exact this _ hsb t
  · intro id bk hb
    simp only at hb ⊢
    rw [lkH_append] at hb
    cases hu : lkH (upOld (smB m.τ' m.υ' (ids ++ List.range' s.nx m.g.news.length)) ids m.g.post ++ upNew (smB m.τ' m.υ' (ids ++ List.range' s.nx m.g.news.length)) s.nx m.g.news) id with
    | none =>
      rw [hu] at hb
      obtain ⟨x, y⟩ := hw.hp id bk hb
      exact ⟨by omega, Bk.bd_mono (Nat.le_add_right _ _) y⟩
    | some b' =>
      rw [hu] at hb
      cases hb
      rcases upMem hu with ⟨i, b, hi, hpi, rfl⟩ | ⟨j, b, hj, rfl, rfl⟩
      · exact ⟨by have := hlt id (List.mem_of_getElem? hi); omega, bk_bd_rn hθb (obd_get hpb hpi)⟩
      · exact ⟨by have := (List.getElem?_eq_some_iff.1 hj).1; omega, bk_bd_rn hθb (hnb b (List.mem_of_getElem? hj))⟩
  · intro w0 ρ0 ρ a w hI
    let θ := ids ++ List.range' s.nx m.g.news.length
    have hs : slotsOK (V.sub m.τ m.υ) (fun i => ρ (θ.getD i 0)) a m.g.sl := (slotsOK_rn (r := smR m.τ θ) (fun x => den_smR)).1 (ownSl_spec hI.slots hsl ho.1)
    have hpre : preOK (V.sub m.τ m.υ) (fun i => ρ (θ.getD i 0)) w m.g.pre m.g.post := by
      constructor
      · intro i j hi hj hor he
        simp only [θ] at he
        rw [hθ i (by omega), hθ j (by omega)] at he
        obtain ⟨x, hx, hx', _⟩ := hid i (by omega)
        obtain ⟨y, hy, hy', _⟩ := hid j (by omega)
        rw [hx', hy'] at he
        have kx : lvO (lkH s.hp x) = true := by
          cases hb : lkH rd x with
          | none => exact absurd hb (t4 x (List.mem_of_getElem? hx))
          | some bk => rw [(t2 _ (lkH_mem hb)).1]; exact (t2 _ (lkH_mem hb)).2
        have ky : lvO (lkH s.hp y) = true := by
          cases hb : lkH rd y with
          | none => exact absurd hb (t4 y (List.mem_of_getElem? hy))
          | some bk => rw [(t2 _ (lkH_mem hb)).1]; exact (t2 _ (lkH_mem hb)).2
        have wrR : ∀ {k z : Nat}, ids[k]? = some z → isWr m.g.post k = true → rl.any (Nat.beq z) = false := by
          intro k z hk hwr
          unfold isWr at hwr
          split at hwr
          · rename_i b hb; exact roIds_get hroi hk hb
          · cases hwr
        have hxy := hI.inj x y kx ky (hor.imp (wrR hx) (wrR hy)) he
        subst hxy
        exact nodup_get hnd hx hy
      · intro i bk hb
        have hi : i < ids.length := by rw [t1]; exact (List.getElem?_eq_some_iff.1 hb).1
        obtain ⟨x, hx, hx', _⟩ := hid i hi
        obtain ⟨k, hk, hd⟩ := t3 i x bk hx hb
        show bk.holds _ _ w.heap[(ρ _).1]?
        simp only [θ]
        rw [hθ i hi, hx']
        exact (holds_smB hE hO).1 (hd ρ _ (hI.heap x k (t2 _ (lkH_mem hk)).1))
    refine wp_mono (hg _ a w hI.size hI.defers hs hpre) ?_
    rintro e a' w' ⟨rfl, hsz, hdf, ρc, hsl', h1, h2, h3, h5, h6, h7⟩
    refine ⟨rfl, ?_⟩
    let ρ' : Nat → Nat × Nat := fun id => if s.nx ≤ id ∧ id < s.nx + m.g.news.length then ρc (m.g.pre.length + (id - s.nx)) else ρ id
    have hag : ∀ id, ¬ (s.nx ≤ id ∧ id < s.nx + m.g.news.length) → ρ' id = ρ id := fun id hid => if_neg hid
    have hnw : ∀ j, j < m.g.news.length → ρ' (s.nx + j) = ρc (m.g.pre.length + j) := fun j hj => by
      show (if _ then _ else _) = _
      rw [if_pos ⟨by omega, by omega⟩, show s.nx + j - s.nx = j by omega]
    have key : ∀ i, i < m.g.pre.length + m.g.news.length → ρ' (θ.getD i 0) = ρc i := fun i hi => by
      rcases Nat.lt_or_ge i m.g.pre.length with hlt' | hge
      · obtain ⟨x, hx, hx', hxn⟩ := hid i (by omega)
        rw [h1 i hlt']
        show ρ' _ = ρ _
        simp only [θ]
        rw [hθ i (by omega), hx', hag x (by omega)]
      · obtain ⟨j, rfl⟩ : ∃ j, i = m.g.pre.length + j := ⟨i - m.g.pre.length, by omega⟩
        have := hθn j (by omega)
        rw [t1] at this
        simp only [θ]
        rw [this, hnw j (by omega)]
    have hP : PostAt V s.nx ρ w ⟨.any, rd, upOld (smB m.τ' m.υ' θ) ids m.g.post ++ upNew (smB m.τ' m.υ' θ) s.nx m.g.news, m.g.news.length⟩ undef w' ρ' := by
      refine ⟨hag, ?_, ?_, fun hc => absurd rfl hc, ?_, ?_⟩
      · intro id a b
        obtain ⟨j, rfl⟩ : ∃ j, id = s.nx + j := ⟨id - s.nx, by omega⟩
        simp only at b
        rw [hnw j (by omega)]
        rcases h2 j (by omega) with hge | ⟨g', hg, he⟩
        · exact .inl hge
        · have hil : g' < ids.length := Nat.lt_of_lt_of_le (List.getElem?_eq_some_iff.1 hg).1 hpl
          obtain ⟨x, hx, hx', hxn⟩ := hid g' hil
          refine .inr ⟨x, by rw [lkH_append', upOld_gone (r := smB m.τ' m.υ' θ) rfl hnd hx hg], by omega, ?_⟩
          rw [he]
          show (ρ _).1 = _
          simp only [θ]
          rw [hθ g' hil, hx']
      · intro i j a b c d he
        obtain ⟨i, rfl⟩ : ∃ k, i = s.nx + k := ⟨i - s.nx, by omega⟩
        obtain ⟨j, rfl⟩ : ∃ k, j = s.nx + k := ⟨j - s.nx, by omega⟩
        simp only at b d
        rw [hnw i (by omega), hnw j (by omega)] at he
        rw [h3 i j (by omega) (by omega) he]
      · intro id bk hb
        rcases upMem hb with ⟨i, b, hi, hpi, rfl⟩ | ⟨j, b, hj, rfl, rfl⟩
        · have hil : i < ids.length := (List.getElem?_eq_some_iff.1 hi).1
          obtain ⟨x, hx, hx', hxn⟩ := hid i hil
          rw [hi] at hx; cases hx
          rw [holds_smB hE hO, Bk.holds_agree (ρ := ρc) (n := m.g.pre.length + m.g.news.length) key (obd_get hpb hpi), hag id (by omega)]
          have := h5 i b hpi
          simp only [θ] at this
          rwa [hθ i hil, hx'] at this
        · have hjl : j < m.g.news.length := (List.getElem?_eq_some_iff.1 hj).1
          rw [holds_smB hE hO, Bk.holds_agree (ρ := ρc) (n := m.g.pre.length + m.g.news.length) key (hnb b (List.mem_of_getElem? hj)), hnw j hjl]
          exact h6 j b hj
      · refine h7.mono ?_
        rintro x _ ⟨i, bk, hi, rfl⟩
        have hil : i < ids.length := Nat.lt_of_lt_of_le (List.getElem?_eq_some_iff.1 hi).1 hpl
        obtain ⟨y, hy, hy', hyn⟩ := hid i hil
        refine ⟨y, lkH_of_mem (x := (y, smB m.τ' m.υ' θ bk)) (List.mem_append_left _ (upOld_mem hy hi)), by omega, ?_⟩
        show (ρ y).1 = (ρ _).1
        simp only [θ]
        rw [hθ i hil, hy']
    have hI0 : Inv V w0 ρ0 p0 N (fun i => rl.any (Nat.beq i)) ρ (fun _ => .any) (lkH s.hp) a' w := ⟨hsz, hdf, fun t ht => absurd rfl ht, hI.heap, hI.inj, hI.fr, hI.old, hI.new⟩
    have hI1 := hI0.stepAt (d := none) hP (fun id hu hnew => by
        cases hb : lkH (upOld (smB m.τ' m.υ' θ) ids m.g.post ++ upNew (smB m.τ' m.υ' θ) s.nx m.g.news) id with
        | none => exact absurd hb hu
        | some bk =>
          rcases upMem hb with ⟨i, b, hi, hpi, rfl⟩ | ⟨j, b, hj, rfl, rfl⟩
          · cases hq : lkH rd id with
            | none => exact absurd hq (t4 id (List.mem_of_getElem? hi))
            | some bk' => rw [(t2 _ (lkH_mem hq)).1]; exact (t2 _ (lkH_mem hq)).2
          · have hjl : j < m.g.news.length := (List.getElem?_eq_some_iff.1 hj).1
            exact absurd ⟨by omega, by simp only; omega⟩ hnew)
      (fun id hu => by
        cases hb : lkH (upOld (smB m.τ' m.υ' θ) ids m.g.post ++ upNew (smB m.τ' m.υ' θ) s.nx m.g.news) id with
        | none => exact absurd hb hu
        | some bk =>
          rcases upMem hb with ⟨i, b, hi, hpi, rfl⟩ | ⟨j, b, hj, rfl, rfl⟩
          · exact roIds_get hroi hi hpi
          · exact hroF _ (by omega))
      (fun id a b => ⟨by
        cases hb : lkH s.hp id with
        | none => rfl
        | some bk => have := (hw.hp id bk hb).1; omega, Nat.le_trans hw.p0 a⟩)
      (fun _ => rfl) (fun id bk hb => Bk.out_of_bd (hw.hp id bk hb).2) (fun t ht => by cases ht)
    refine ⟨ρ', hI1.size, hI1.defers, ?_, ?_, ?_, hI1.fr, hI1.old, ?_⟩
    · refine slotsOK_lk ((slotsOK_rn (V' := V.sub m.τ' m.υ') (ρ' := fun i => ρ' (θ.getD i 0)) (r := smR m.τ' θ) (fun x => den_smR)).2 ?_)
      exact (slotsOK_bd (n := m.g.pre.length + m.g.news.length) key hsb).2 hsl'
    · intro id bk hb
      rw [lkH_putH] at hb
      exact hI1.heap id bk hb
    · intro i j hi hj
      rw [lkH_putH] at hi hj
      exact hI1.inj i j hi hj
    · intro i hi
      rw [lkH_putH] at hi ⊢
      exact hI1.new i hi
end RX
end Go.Proofs.Ytbmokmkaebfneaa
