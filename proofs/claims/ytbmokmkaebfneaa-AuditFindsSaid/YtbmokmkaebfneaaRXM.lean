/- Stretches of code on paper: their laws out of a way; loops. -/
import Derived.Test.YtbmokmkaebfneaaRXH
namespace Go.Proofs.Ytbmokmkaebfneaa
open Go.RowKit
namespace RX
set_option linter.unnecessarySimpa false
set_option linter.unusedVariables false
set_option linter.unusedSimpArgs false
/-- A stretch's way, checked: what is owed. -/
def sgCheck (P : Program) (Γ : List Gm) (S : List Sm) (lens : List Nat) (N : Nat) (code : Code) (g : Sg) (τ υ τ' υ' : List Nat) (fuel : Nat) (hs : List Hint) (outs : List Nat) : Option (List Obl × List (Code × Nat)) :=
  (fun pre sl => cond (slB g.pre.length N sl && bksB g.pre.length pre)
    (match exec P Γ S lens (roList g.post g.pre.length) N fuel false code ⟨sl, startHp 0 pre, g.pre.length⟩ hs with
      | some (e, s', [], os, cs) => cond (e.beq g.ex) (match ownSl (smR τ' (List.range g.pre.length ++ outs)) s'.sl g.sl', finAt g.pre.length s'.hp (smB τ' υ' (List.range g.pre.length ++ outs)) g.post g.news outs with
        | some o1, some o2 => some (os ++ (o2 ++ o1), cs)
        | _, _ => none) none
      | _ => none) none) (rnEs τ υ g.pre) (mapSl (fun x => x.rnE τ) g.sl)
theorem slB_lk {n N : Nat} : ∀ {q : List (Nat × SV)}, slB n N q = true → ∀ t, (lkS q t).bd n = true
  | [], _, _ => rfl
  | (i, v) :: q, h, t => by
    simp only [slB, Bool.and_eq_true] at h
    simp only [lkS]
    cases Nat.beq i t with
    | true => exact h.1
    | false => exact slB_lk h.2.2 t
section
variable {P : Program} {V : Env} {Γ : List Gm} {S : List Sm} {lens : List Nat}
theorem Sg.of_exec {code : Code} {N : Nat} (hm : P.follows .mixedOrders = true)
    (hV : VOK V lens) (hE : V.E.length ≤ 1000000) (hO : V.O.length ≤ 1000000) (hΓ : allG P V Γ) {g : Sg} {τ υ τ' υ' : List Nat} {fuel : Nat} {hs : List Hint} {outs : List Nat} {os : List Obl} {cs : List (Code × Nat)}
    (h : sgCheck P Γ S lens N code g τ υ τ' υ' fuel hs outs = some (os, cs)) (ho : allO P V os) (hc : allC P N V S cs) : g.Valid P N code (V.sub τ υ) (V.sub τ' υ') := by
  unfold sgCheck at h
  simp only at h
  obtain ⟨hq, h⟩ := cond_bind h
  simp only [Bool.and_eq_true] at hq
  obtain ⟨hab, hpb⟩ := hq
  intro ρ a w hsz hdf hsl hpre
  split at h
  case h_2 => cases h
  rename_i e s' os' cs' hx
  cases hbe : e.beq g.ex with
  | false => rw [hbe] at h; cases h
  | true =>
  rw [hbe] at h
  simp only [cond_true] at h
  have hex := Ex.eq_of_beq hbe
  split at h
  case h_2 => cases h
  rename_i o1 o2 hown hfin
  cases h
  rw [allO_app, allO_app] at ho
  have hprelen : (rnEs τ υ g.pre).length = g.pre.length := by
    have : ∀ l : List Bk, (rnEs τ υ l).length = l.length := fun l => by induction l <;> simp_all [rnEs]
    exact this _
  have hpre' : ∀ (i : Nat) (bk : Bk), (rnEs τ υ g.pre)[i]? = some bk → bk.holds V ρ w.heap[(ρ i).1]? := by
    intro i bk hb'
    rw [rnEs_get] at hb'
    obtain ⟨b, hb1, rfl⟩ := Option.map_eq_some_iff.1 hb'
    exact (Bk.holds_rnE hE hO).2 (hpre.2 i b hb1)
  have hWF : WF g.pre.length ⟨mapSl (fun x => x.rnE τ) g.sl, startHp 0 (rnEs τ υ g.pre), g.pre.length⟩ := by
    refine ⟨fun t => slB_lk hab t, fun id bk hb' => ?_, Nat.le_refl _⟩
    obtain ⟨h1, h2⟩ := startHp_get hb'
    have h3 := (List.getElem?_eq_some_iff.1 h2).1
    exact ⟨by rw [hprelen] at h3; simp only; omega, bksB_get hpb h2⟩
  obtain ⟨_, W⟩ := exec_ok (p0 := g.pre.length) hm hV hE hO hΓ _ _ _ _ _ _ _ _ _ _ hx ho.1 hc hWF
  have hI : Inv V w ρ g.pre.length N (fun i => (roList g.post g.pre.length).any (Nat.beq i)) ρ (lkS (mapSl (fun x => x.rnE τ) g.sl)) (lkH (startHp 0 (rnEs τ υ g.pre))) a w := by
    refine ⟨hsz, hdf, ?_, ?_, ?_, Fr.refl _ _, fun _ _ => rfl, ?_⟩
    · exact slotsOK_lk ((slotsOK_rn (V' := V.sub τ υ) (ρ' := ρ) (r := fun x => x.rnE τ) (fun x => dl_rnE)).2 hsl)
    · intro id bk hb'
      obtain ⟨_, h2⟩ := startHp_get hb'
      rw [Nat.sub_zero] at h2
      exact hpre' id bk h2
    · intro i j hi hj hor he
      have key : ∀ i, lvO (lkH (startHp 0 (rnEs τ υ g.pre)) i) = true → i < g.pre.length := fun i hi => by
        obtain ⟨b, hb', _⟩ := lvO_some hi
        obtain ⟨_, h2⟩ := startHp_get hb'
        have h3 := (List.getElem?_eq_some_iff.1 h2).1
        rw [hprelen] at h3; omega
      exact hpre.1 i j (key i hi) (key j hj) (hor.imp (roList_no (key i hi)) (roList_no (key j hj))) he
    · intro i hi hp
      obtain ⟨b, hb', _⟩ := lvO_some hi
      obtain ⟨_, h2⟩ := startHp_get hb'
      have h3 := (List.getElem?_eq_some_iff.1 h2).1
      rw [hprelen] at h3; omega
  refine wp_mono (W w ρ ρ a w hI) ?_
  rintro x a' w' ⟨rfl, ρ', hI'⟩
  refine ⟨by rw [hex], hI'.size, hI'.defers, fun i => ρ' ((List.range g.pre.length ++ outs).getD i 0), ?_, ?_⟩
  · exact (slotsOK_rn (r := smR τ' (List.range g.pre.length ++ outs)) (fun x => den_smR (υ := υ'))).1 (ownSl_spec hI'.slots hown ho.2.2)
  · exact fin_ok hE hO hfin ho.2.1 (ro := fun i => (roList g.post g.pre.length).any (Nat.beq i)) (fun i hi => by
      rw [List.any_eq_false]; intro x hx hb'; have := roList_lt hx; have := Nat.eq_of_beq_eq_true hb'; omega) (fun i hi h0 => roList_no hi h0) hI'
end
theorem segOK {P : Program} {f : FuncId} {fn : Func} (F : FnIs P f fn) {N : Nat} {code : Code} {E : List (List Value)} {O : List Obj} {lens : List Nat} (hV : VOK ⟨E, O⟩ lens) (hE : E.length ≤ 1000000) (hO : O.length ≤ 1000000) {Γ : List Gm} {S : List Sm} {g : Sg} {τ υ τ' υ' : List Nat} {fuel : Nat} {hs : List Hint} {outs : List Nat} {os : List Obl} {cs : List (Code × Nat)}
    (h : sgCheck P Γ S lens N code g τ υ τ' υ' fuel hs outs = some (os, cs)) (hΓ : allG P ⟨E, O⟩ Γ) (ho : allO P ⟨E, O⟩ os) (hc : allC P N ⟨E, O⟩ S cs) : g.Valid P N code (Env.sub ⟨E, O⟩ τ υ) (Env.sub ⟨E, O⟩ τ' υ') :=
  Sg.of_exec F.mixed hV hE hO hΓ h ho hc

/-! ### Loops -/
/-- The loops of a code, as they stand in the text. -/
def loopsOf : Code → List Code
  | .seq x y => loopsOf x ++ loopsOf y
  | .cond _ x y => loopsOf x ++ loopsOf y
  | .block _ b => loopsOf b
  | .loop b => .loop b :: loopsOf b
  | _ => []
def loopAt (c : Code) (n : Nat) : Code := (loopsOf c).getD n .skip
def bodyAt (c : Code) (n : Nat) : Code := match loopAt c n with
  | .loop b => b
  | _ => .skip
/-- Block i in the next round: itself, or, where it is used up (R tells which), a new one. -/
def nextId (p : Nat) (R : List Nat) (i : Nat) : Nat := match R.findIdx? (Nat.beq i) with
  | some j => p + j
  | none => i
def nextIds (p : Nat) (R : List Nat) : List Nat := (List.range p).map (nextId p R)
/-- A round: slots and blocks as before, of the next things; R: blocks used up and made anew, W: written. -/
def roundSg (sl : List (Nat × SV)) (pre : List Bk) (R W : List Nat) : Sg :=
  { sl := sl, pre := pre, ex := .normal, sl' := mapSl (fun x => x.rnI (nextIds pre.length R)) sl,
    post := (List.range pre.length).map (fun i => cond (R.any (Nat.beq i)) (some .gone) (cond (W.any (Nat.beq i)) (some ((pre.getD i .gone).rnI (nextIds pre.length R))) none)),
    news := R.map fun i => (pre.getD i .gone).rnI (nextIds pre.length R) }
/-- The last round's blocks, as the loop has them: first those made anew, then the last round's own. -/
def lastIds (p : Nat) (R : List Nat) (q : Nat) : List Nat := nextIds p R ++ List.range' (p + R.length) q
/-- A loop, by its last round's law. -/
def loopSg (g : Sg) (R : List Nat) : Sg :=
  { sl := g.sl, pre := g.pre, ex := g.ex, sl' := mapSl (fun x => x.rnI (lastIds g.pre.length R g.news.length)) g.sl',
    post := (List.range g.pre.length).map (fun i => cond (R.any (Nat.beq i)) (some .gone) ((g.post.getD i none).map fun b => b.rnI (lastIds g.pre.length R g.news.length))),
    news := (R.map fun i => ((g.post.getD i none).getD .gone).rnI (lastIds g.pre.length R g.news.length)) ++ g.news.map fun b => b.rnI (lastIds g.pre.length R g.news.length) }
/-- Does a block name none of those that are used up? -/
def stayB (θ : List Nat) : Bk → Bool
  | .cs _ l => (l.rnI θ).beq l
  | .own _ _ c z => Nat.beq (θ.getD c 0) c && (z.rnI θ).beq z
  | _ => true
theorem stayB_spec {θ : List Nat} {b : Bk} (h : stayB θ b = true) : b.rnI θ = b := by
  cases b with
  | cs t l => simp only [Bk.rnI]; rw [SV.eq_of_beq h]
  | own t i c z =>
    simp only [stayB, Bool.and_eq_true] at h
    simp only [Bk.rnI]; rw [SV.eq_of_beq h.2, Nat.eq_of_beq_eq_true h.1]
  | _ => rfl
def loopB (N : Nat) (g : Sg) (R W : List Nat) : Bool :=
  nodupB R && (R.all (fun i => Nat.blt i g.pre.length) && (R.all (isWr g.post) && (W.all (isWr g.post) && (Nat.ble g.post.length g.pre.length && (g.pre.all Bk.live && (bksB g.pre.length g.pre &&
    (slB (g.pre.length + g.news.length) N g.sl' && (obd (g.pre.length + g.news.length) g.post && (bksB (g.pre.length + g.news.length) g.news &&
      (R.all (fun i => ((g.post.getD i none).getD .gone).live) && g.pre.all (fun b => stayB (nextIds g.pre.length R) b || true)))))))))))
theorem any_of_get {R : List Nat} {j i : Nat} (h : R[j]? = some i) : R.any (Nat.beq i) = true := List.any_eq_true.2 ⟨i, List.mem_of_getElem? h, Nat.beq_refl i⟩
theorem findIdx_some {R : List Nat} {i j : Nat} (h : R.findIdx? (Nat.beq i) = some j) : R[j]? = some i ∧ j < R.length := by
  obtain ⟨hj, he, _⟩ := List.findIdx?_eq_some_iff_getElem.1 h
  exact ⟨by rw [List.getElem?_eq_getElem hj, ← Nat.eq_of_beq_eq_true he], hj⟩
theorem findIdx_none {R : List Nat} {i : Nat} : R.findIdx? (Nat.beq i) = none ↔ R.any (Nat.beq i) = false := by
  rw [List.findIdx?_eq_none_iff, List.any_eq_false]
  exact ⟨fun h x hx => by rw [h x hx]; simp, fun h x hx => by
    have := h x hx
    cases hq : Nat.beq i x with
    | false => rfl
    | true => exact absurd hq this⟩
theorem nextId_old {p : Nat} {R : List Nat} {i : Nat} (h : R.any (Nat.beq i) = false) : nextId p R i = i := by unfold nextId; rw [findIdx_none.2 h]
theorem nextId_new {p : Nat} {R : List Nat} {i : Nat} (h : R.any (Nat.beq i) = true) : ∃ j, R[j]? = some i ∧ j < R.length ∧ nextId p R i = p + j := by
  unfold nextId
  cases hq : R.findIdx? (Nat.beq i) with
  | none => rw [findIdx_none.1 hq] at h; cases h
  | some j => obtain ⟨a, b⟩ := findIdx_some hq; exact ⟨j, a, b, rfl⟩
theorem nextIds_get {p : Nat} {R : List Nat} {i : Nat} (hi : i < p) : (nextIds p R).getD i 0 = nextId p R i := by
  unfold nextIds; rw [List.getD_eq_getElem?_getD, List.getElem?_map, List.getElem?_range hi]; rfl
theorem lastIds_get {p q : Nat} {R : List Nat} {i : Nat} (hi : i < p) : (lastIds p R q).getD i 0 = nextId p R i := by
  unfold lastIds
  rw [List.getD_eq_getElem?_getD, List.getElem?_append_left (by unfold nextIds; simpa using hi), ← List.getD_eq_getElem?_getD, nextIds_get hi]
theorem lastIds_new {p q : Nat} {R : List Nat} {j : Nat} (hj : j < q) : (lastIds p R q).getD (p + j) 0 = p + R.length + j := by
  unfold lastIds
  have hl : (nextIds p R).length = p := by unfold nextIds; simp
  rw [List.getD_eq_getElem?_getD, List.getElem?_append_right (by rw [hl]; omega), hl]
  simp [List.getElem?_range', hj]
theorem isWr_some {post : List (Option Bk)} {i : Nat} (h : isWr post i = true) : ∃ b, post[i]? = some (some b) := by
  unfold isWr at h
  split at h
  · rename_i b hb; exact ⟨b, hb⟩
  · cases h
theorem isWr_of {post : List (Option Bk)} {i : Nat} {b : Bk} (h : post[i]? = some (some b)) : isWr post i = true := by unfold isWr; rw [h]
/-- What holds ahead of a round. -/
structure Lp (V : Env) (N : Nat) (g : Sg) (R : List Nat) (ρ0 : Nat → Nat × Nat) (w0 : World) (ρ : Nat → Nat × Nat) (a : Act) (w : World) : Prop where
  size : a.tmps.size = N
  defers : a.defers = []
  slots : slotsOK V ρ a g.sl
  heap : ∀ (i : Nat) (b : Bk), g.pre[i]? = some b → b.holds V ρ w.heap[(ρ i).1]?
  inj : ∀ i j, i < g.pre.length → j < g.pre.length → (isWr g.post i = true ∨ isWr g.post j = true) → (ρ i).1 = (ρ j).1 → i = j
  same : ∀ i, i < g.pre.length → R.any (Nat.beq i) = false → ρ i = ρ0 i
  fresh : ∀ i, i < g.pre.length → R.any (Nat.beq i) = true → w0.heap.size ≤ (ρ i).1 ∨ ∃ k, k < g.pre.length ∧ R.any (Nat.beq k) = true ∧ (ρ i).1 = (ρ0 k).1
  fr : Fr w0 w (fun b => ∃ i, i < g.pre.length ∧ isWr g.post i = true ∧ (ρ0 i).1 = b)
structure LoopOK (N : Nat) (g : Sg) (R W : List Nat) : Prop where
  nd : nodupB R = true
  lt : ∀ i, R.any (Nat.beq i) = true → i < g.pre.length
  wr : ∀ i, R.any (Nat.beq i) = true ∨ W.any (Nat.beq i) = true → isWr g.post i = true
  len : g.post.length ≤ g.pre.length
  live : ∀ (i : Nat) (b : Bk), g.pre[i]? = some b → b.live = true
  bd : ∀ (i : Nat) (b : Bk), g.pre[i]? = some b → b.bd g.pre.length = true
  slB' : slB (g.pre.length + g.news.length) N g.sl' = true
  pB : obd (g.pre.length + g.news.length) g.post = true
  nB : ∀ (i : Nat) (b : Bk), g.news[i]? = some b → b.bd (g.pre.length + g.news.length) = true
  rl : ∀ (i : Nat) (b : Bk), R.any (Nat.beq i) = true → g.post[i]? = some (some b) → b.live = true
theorem loopB_ok {N : Nat} {g : Sg} {R W : List Nat} (h : loopB N g R W = true) : LoopOK N g R W := by
  simp only [loopB, Bool.and_eq_true, List.all_eq_true, blt_iff, Nat.ble_eq] at h
  obtain ⟨h1, h2, h3, h4, h5, h6, h7, h8, h9, h10, h11, _⟩ := h
  have mem : ∀ {L : List Nat} {i : Nat}, L.any (Nat.beq i) = true → i ∈ L := fun h => by
    obtain ⟨x, hx, he⟩ := List.any_eq_true.1 h
    rw [Nat.eq_of_beq_eq_true he]; exact hx
  refine ⟨h1, fun i hi => h2 i (mem hi), fun i hi => hi.elim (fun h => h3 i (mem h)) (fun h => h4 i (mem h)), h5, fun i b hb => h6 b (List.mem_of_getElem? hb), fun i b hb => bksB_get h7 hb, h8, h9, fun i b hb => bksB_get h10 hb, fun i b hi hb => ?_⟩
  have := h11 i (mem hi)
  rw [List.getD_eq_getElem?_getD, hb] at this
  exact this
section
variable {P : Program} {N : Nat} {c : Code} {g : Sg} {R W : List Nat} {ρ0 : Nat → Nat × Nat} {w0 : World}
theorem round_post {i : Nat} {b : Bk} (h : (roundSg g.sl g.pre R W).post[i]? = some (some b)) : i < g.pre.length ∧ ((R.any (Nat.beq i) = true ∧ b = .gone) ∨ (R.any (Nat.beq i) = false ∧ W.any (Nat.beq i) = true ∧ b = (g.pre.getD i .gone).rnI (nextIds g.pre.length R))) := by
  simp only [roundSg, List.getElem?_map] at h
  cases hi : (List.range g.pre.length)[i]? with
  | none => rw [hi] at h; cases h
  | some x =>
    have hl : i < g.pre.length := by simpa using (List.getElem?_eq_some_iff.1 hi).1
    rw [List.getElem?_range hl] at hi
    cases hi
    rw [List.getElem?_range hl] at h
    simp only [Option.map_some, Option.some.injEq] at h
    refine ⟨hl, ?_⟩
    cases hR : R.any (Nat.beq i) with
    | true => rw [hR] at h; exact .inl ⟨rfl, by cases h; rfl⟩
    | false =>
      rw [hR] at h
      cases hW : W.any (Nat.beq i) with
      | true => rw [hW] at h; exact .inr ⟨rfl, rfl, by cases h; rfl⟩
      | false => rw [hW] at h; cases h
theorem Lp.round (C : LoopOK N g R W) {VA VB : Env} {ρ : Nat → Nat × Nat} {a : Act} {w : World} (h : Lp VA N g R ρ0 w0 ρ a w)
    (hk : ∀ (i : Nat) (b : Bk), g.pre[i]? = some b → R.any (Nat.beq i) = false → W.any (Nat.beq i) = false → b.rnI (nextIds g.pre.length R) = b ∧ ∀ ρ o, b.holds VA ρ o → b.holds VB ρ o)
    (hr : Sg.Valid P N c (roundSg g.sl g.pre R W) VA VB) : c.wp P (fun e a' w' => e = .normal ∧ ∃ ρ', Lp VB N g R ρ0 w0 ρ' a' w') a w := by
  let θ := nextIds g.pre.length R
  have wrOf : ∀ {i : Nat}, isWr (roundSg g.sl g.pre R W).post i = true → isWr g.post i = true := fun {i} hi => by
    obtain ⟨b, hb⟩ := isWr_some hi
    obtain ⟨_, hor⟩ := round_post hb
    exact C.wr i (hor.imp (·.1) (·.2.1))
  have hpre : preOK VA ρ w (roundSg g.sl g.pre R W).pre (roundSg g.sl g.pre R W).post := ⟨fun i j hi hj hor he => h.inj i j hi hj (hor.imp wrOf wrOf) he, h.heap⟩
  refine wp_mono (hr ρ a w h.size h.defers h.slots hpre) ?_
  rintro e a' w' ⟨rfl, hsz, hdf, ρ', hsl, q1, q2, q3, q4, q5, q6⟩
  have getB : ∀ {i : Nat}, i < g.pre.length → ∃ b, g.pre[i]? = some b ∧ g.pre.getD i .gone = b := fun {i} hi => ⟨_, List.getElem?_eq_getElem hi, by simp [List.getD_eq_getElem?_getD, List.getElem?_eq_getElem hi]⟩
  have hnl : (roundSg g.sl g.pre R W).news.length = R.length := by simp [roundSg]
  have hold : ∀ {i : Nat}, i < g.pre.length → R.any (Nat.beq i) = false → ρ' (θ.getD i 0) = ρ i := fun {i} hi hR => by
    rw [nextIds_get hi, nextId_old hR]; exact q1 i hi
  have there : ∀ {i : Nat}, i < g.pre.length → (ρ i).1 < w.heap.size := fun {i} hi => by
    obtain ⟨b, hb, _⟩ := getB hi
    exact lt_of_holds (h.heap i b hb) (C.live i b hb)
  have goneR : ∀ {k : Nat}, (roundSg g.sl g.pre R W).post[k]? = some (some .gone) → k < g.pre.length ∧ R.any (Nat.beq k) = true := fun {k} hg => by
    obtain ⟨hl, hor⟩ := round_post hg
    refine ⟨hl, ?_⟩
    rcases hor with ⟨hR, _⟩ | ⟨_, _, he⟩
    · exact hR
    · obtain ⟨b, hb, hgd⟩ := getB hl
      rw [hgd] at he
      have h1 := C.live k b hb
      rw [← Bk.live_rnI (θ := nextIds g.pre.length R), ← he] at h1
      cases h1
  have hnew : ∀ {j : Nat}, j < R.length → w.heap.size ≤ (ρ' (g.pre.length + j)).1 ∨ ∃ k, k < g.pre.length ∧ R.any (Nat.beq k) = true ∧ (ρ' (g.pre.length + j)).1 = (ρ k).1 := fun {j} hj => by
    rcases q2 j (by rw [hnl]; exact hj) with hge | ⟨k, hg, he⟩
    · exact .inl hge
    · obtain ⟨hl, hR⟩ := goneR hg
      exact .inr ⟨k, hl, hR, he⟩
  refine ⟨rfl, fun i => ρ' (θ.getD i 0), hsz, hdf, ?_, ?_, ?_, ?_, ?_, ?_⟩
  · exact (slotsOK_rn (r := fun x => x.rnI θ) (fun x => dl_rnI)).1 hsl
  · intro i b hb
    have hi : i < g.pre.length := (List.getElem?_eq_some_iff.1 hb).1
    have hgd : g.pre.getD i .gone = b := by simp [List.getD_eq_getElem?_getD, hb]
    show b.holds VB _ w'.heap[(ρ' (θ.getD i 0)).1]?
    cases hR : R.any (Nat.beq i) with
    | true =>
      obtain ⟨j, hj, hjl, hn⟩ := nextId_new (p := g.pre.length) hR
      rw [nextIds_get hi, hn]
      refine Bk.holds_rnI.1 (q5 j (b.rnI θ) ?_)
      simp only [roundSg, List.getElem?_map, hj, Option.map_some, hgd]; rfl
    | false =>
      rw [hold hi hR]
      cases hW : W.any (Nat.beq i) with
      | true =>
        refine Bk.holds_rnI.1 (q4 i (b.rnI θ) ?_)
        simp only [roundSg, List.getElem?_map, List.getElem?_range hi, Option.map_some, hR, hW, cond_false, cond_true, hgd]; rfl
      | false =>
        obtain ⟨hst, hc⟩ := hk i b hb hR hW
        have he : w'.heap[(ρ i).1]? = w.heap[(ρ i).1]? := by
          refine q6.block _ (there hi) ?_
          rintro ⟨i', bk, hb', he⟩
          obtain ⟨hl, hor⟩ := round_post hb'
          have := h.inj i' i hl hi (.inl (C.wr i' (hor.imp (·.1) (·.2.1)))) he
          subst this
          rcases hor with ⟨x, _⟩ | ⟨_, x, _⟩
          · rw [hR] at x; cases x
          · rw [hW] at x; cases x
        rw [he]
        refine Bk.holds_rnI.1 ?_
        rw [hst]
        exact (Bk.holds_agree (ρ := ρ) (ρ' := ρ') q1 (C.bd i b hb)).2 (hc ρ _ (h.heap i b hb))
  · intro i j hi hj hor he
    cases hRi : R.any (Nat.beq i) with
    | true =>
      obtain ⟨x, hx, hxl, hnx⟩ := nextId_new (p := g.pre.length) hRi
      cases hRj : R.any (Nat.beq j) with
      | true =>
        obtain ⟨y, hy, hyl, hny⟩ := nextId_new (p := g.pre.length) hRj
        rw [nextIds_get hi, nextIds_get hj, hnx, hny] at he
        have := q3 x y (by rw [hnl]; exact hxl) (by rw [hnl]; exact hyl) he
        subst this
        rw [hx] at hy; exact Option.some.inj hy
      | false =>
        rw [hold hj hRj, nextIds_get hi, hnx] at he
        rcases hnew hxl with hge | ⟨k, hk1, hk2, hk3⟩
        · have := there hj; omega
        · have := h.inj k j hk1 hj (.inl (C.wr k (.inl hk2))) (hk3.symm.trans he)
          subst this; rw [hRj] at hk2; cases hk2
    | false =>
      cases hRj : R.any (Nat.beq j) with
      | true =>
        obtain ⟨y, hy, hyl, hny⟩ := nextId_new (p := g.pre.length) hRj
        rw [hold hi hRi, nextIds_get hj, hny] at he
        rcases hnew hyl with hge | ⟨k, hk1, hk2, hk3⟩
        · have := there hi; omega
        · have := h.inj k i hk1 hi (.inl (C.wr k (.inl hk2))) (hk3.symm.trans he.symm)
          subst this; rw [hRi] at hk2; cases hk2
      | false =>
        rw [hold hi hRi, hold hj hRj] at he
        exact h.inj i j hi hj hor he
  · intro i hi hR
    rw [hold hi hR]; exact h.same i hi hR
  · intro i hi hR
    obtain ⟨x, hx, hxl, hnx⟩ := nextId_new (p := g.pre.length) hR
    rw [nextIds_get hi, hnx]
    rcases hnew hxl with hge | ⟨k, hk1, hk2, hk3⟩
    · exact .inl (Nat.le_trans h.fr.size hge)
    · rw [hk3]; exact h.fresh k hk1 hk2
  · refine h.fr.trans q6 ?_
    rintro x hx ⟨i, bk, hb, rfl⟩
    obtain ⟨hl, hor⟩ := round_post hb
    cases hR : R.any (Nat.beq i) with
    | false => exact ⟨i, hl, C.wr i (hor.imp (·.1) (·.2.1)), by rw [h.same i hl hR]⟩
    | true =>
      rcases h.fresh i hl hR with hge | ⟨k, hk1, hk2, hk3⟩
      · omega
      · exact ⟨k, hk1, C.wr k (.inl hk2), hk3.symm⟩
theorem loop_post {k : Nat} (hk : k < g.pre.length) : (loopSg g R).post[k]? = some (cond (R.any (Nat.beq k)) (some .gone) ((g.post.getD k none).map fun b => b.rnI (lastIds g.pre.length R g.news.length))) := by
  simp only [loopSg, List.getElem?_map, List.getElem?_range hk, Option.map_some]
theorem Lp.last (C : LoopOK N g R W) {VA VB : Env} {ρ : Nat → Nat × Nat} {a : Act} {w : World} (h : Lp VA N g R ρ0 w0 ρ a w)
    (hl : g.Valid P N c VA VB) : c.wp P ((loopSg g R).Q VB N ρ0 w0) a w := by
  refine wp_mono (hl ρ a w h.size h.defers h.slots ⟨h.inj, h.heap⟩) ?_
  rintro e a' w' ⟨rfl, hsz, hdf, ρ', hsl, q1, q2, q3, q4, q5, q6⟩
  let p := g.pre.length
  let q := g.news.length
  let ρF : Nat → Nat × Nat := fun i => if i < p then ρ0 i else if i < p + R.length then ρ (R.getD (i - p) 0) else ρ' (i - R.length)
  have F1 : ∀ i, i < p → ρF i = ρ0 i := fun i hi => if_pos hi
  have F2 : ∀ (j i : Nat), R[j]? = some i → ρF (p + j) = ρ i := fun j i hj => by
    have hjl := (List.getElem?_eq_some_iff.1 hj).1
    show (if _ then _ else _) = _
    rw [if_neg (by omega), if_pos (by omega), show p + j - p = j by omega, List.getD_eq_getElem?_getD, hj]; rfl
  have F3 : ∀ j, ρF (p + R.length + j) = ρ' (p + j) := fun j => by
    show (if _ then _ else _) = _
    rw [if_neg (by omega), if_neg (by omega), show p + R.length + j - R.length = p + j by omega]
  have key : ∀ i, i < p + q → ρF ((lastIds p R q).getD i 0) = ρ' i := fun i hi => by
    rcases Nat.lt_or_ge i p with hlt | hge
    · rw [lastIds_get hlt]
      cases hR : R.any (Nat.beq i) with
      | false => rw [nextId_old hR, F1 i hlt, q1 i hlt, h.same i hlt hR]
      | true =>
        obtain ⟨x, hx, hxl, hnx⟩ := nextId_new (p := p) hR
        rw [hnx, F2 x i hx, q1 i hlt]
    · obtain ⟨j, rfl⟩ : ∃ j, i = p + j := ⟨i - p, by omega⟩
      rw [lastIds_new (by omega), F3]
  have there : ∀ {i : Nat}, i < p → (ρ i).1 < w.heap.size := fun {i} hi =>
    lt_of_holds (h.heap i _ (List.getElem?_eq_getElem hi)) (C.live i _ (List.getElem?_eq_getElem hi))
  have fresh0 : ∀ {i : Nat}, i < p → (w0.heap.size ≤ (ρ i).1 ∧ R.any (Nat.beq i) = true) ∨ ∃ k, k < p ∧ (R.any (Nat.beq k) = true ∨ k = i) ∧ (ρ i).1 = (ρ0 k).1 := fun {i} hi => by
    cases hR : R.any (Nat.beq i) with
    | false => exact .inr ⟨i, hi, .inr rfl, by rw [h.same i hi hR]⟩
    | true =>
      rcases h.fresh i hi hR with hge | ⟨k, hk1, hk2, hk3⟩
      · exact .inl ⟨hge, rfl⟩
      · exact .inr ⟨k, hk1, .inl hk2, hk3⟩
  have postR : ∀ {k : Nat}, k < p → R.any (Nat.beq k) = true → (loopSg g R).post[k]? = some (some .gone) := fun {k} hk hR => by
    rw [loop_post hk, hR]; rfl
  have postN : ∀ {k : Nat} {b : Bk}, k < p → R.any (Nat.beq k) = false → g.post[k]? = some (some b) → (loopSg g R).post[k]? = some (some (b.rnI (lastIds p R q))) := fun {k b} hk hR hb => by
    rw [loop_post hk, hR, List.getD_eq_getElem?_getD, hb]; rfl
  have ltPost : ∀ {k : Nat} {b : Bk}, g.post[k]? = some (some b) → k < p := fun {k b} hb => Nat.lt_of_lt_of_le (List.getElem?_eq_some_iff.1 hb).1 C.len
  have hnl : (loopSg g R).news.length = R.length + q := by simp [loopSg]; rfl
  have newsR : ∀ {j : Nat}, j < R.length → ∃ i b, R[j]? = some i ∧ i < p ∧ R.any (Nat.beq i) = true ∧ g.post[i]? = some (some b) ∧ (loopSg g R).news[j]? = some (b.rnI (lastIds p R q)) := fun {j} hj => by
    have hg := List.getElem?_eq_getElem hj
    have hR := any_of_get hg
    obtain ⟨b, hb⟩ := isWr_some (C.wr _ (.inl hR))
    refine ⟨_, b, hg, C.lt _ hR, hR, hb, ?_⟩
    simp only [loopSg]
    rw [List.getElem?_append_left (by simpa using hj)]
    simp only [List.getElem?_map, hg, Option.map_some, List.getD_eq_getElem?_getD, hb, Option.getD_some]; rfl
  have newsL : ∀ {j : Nat}, (loopSg g R).news[R.length + j]? = (g.news[j]?).map (Bk.rnI (lastIds p R q)) := fun {j} => by
    simp only [loopSg]
    rw [List.getElem?_append_right (by simp)]
    simp only [List.length_map, Nat.add_sub_cancel_left, List.getElem?_map]; rfl
  -- a new block of the last round's
  have lastNew : ∀ {j : Nat}, j < q → w.heap.size ≤ (ρ' (p + j)).1 ∨ ∃ k, k < p ∧ g.post[k]? = some (some .gone) ∧ R.any (Nat.beq k) = false ∧ (ρ' (p + j)).1 = (ρ k).1 := fun {j} hj => by
    rcases q2 j hj with hge | ⟨k, hg, he⟩
    · exact .inl hge
    · refine .inr ⟨k, ltPost hg, hg, ?_, he⟩
      cases hR : R.any (Nat.beq k) with
      | false => rfl
      | true => have := C.rl k _ hR hg; cases this
  have apart : ∀ {j x i : Nat}, j < q → R[x]? = some i → (ρ' (p + j)).1 ≠ (ρ i).1 := fun {j x i} hj hx he => by
    have hR := any_of_get hx
    have hi := C.lt i hR
    rcases lastNew hj with hge | ⟨k, hk1, hk2, hk3, hk4⟩
    · have := there hi; omega
    · have := h.inj k i hk1 hi (.inl (isWr_of hk2)) (hk4.symm.trans he)
      subst this; rw [hR] at hk3; cases hk3
  refine ⟨rfl, hsz, hdf, ρF, ?_, F1, ?_, ?_, ?_, ?_, ?_⟩
  · show slotsOK VB ρF a' (mapSl (fun x => x.rnI (lastIds p R q)) g.sl')
    refine (slotsOK_rn (V' := VB) (ρ' := fun i => ρF ((lastIds p R q).getD i 0)) (r := fun x => x.rnI (lastIds p R q)) (fun x => dl_rnI)).2 ?_
    exact (slotsOK_bd (n := p + q) key C.slB').2 hsl
  · intro j hj
    rw [hnl] at hj
    rcases Nat.lt_or_ge j R.length with hlt | hge
    · obtain ⟨i, b, hg, hi, hR, _, _⟩ := newsR hlt
      show _ ≤ (ρF (p + j)).1 ∨ ∃ k, _ ∧ (ρF (p + j)).1 = _
      rw [F2 j i hg]
      rcases h.fresh i hi hR with hge | ⟨k, hk1, hk2, hk3⟩
      · exact .inl hge
      · exact .inr ⟨k, postR hk1 hk2, hk3⟩
    · obtain ⟨j, rfl⟩ : ∃ k, j = R.length + k := ⟨j - R.length, by omega⟩
      show _ ≤ (ρF (p + (R.length + j))).1 ∨ ∃ k, _ ∧ (ρF (p + (R.length + j))).1 = _
      rw [← Nat.add_assoc, F3]
      rcases lastNew (show j < q by omega) with hge | ⟨k, hk1, hk2, hk3, hk4⟩
      · exact .inl (Nat.le_trans h.fr.size hge)
      · exact .inr ⟨k, postN hk1 hk3 hk2, by rw [hk4, h.same k hk1 hk3]⟩
  · intro i j hi hj he
    rw [hnl] at hi hj
    replace he : (ρF (p + i)).1 = (ρF (p + j)).1 := he
    rcases Nat.lt_or_ge i R.length with hi1 | hi1 <;> rcases Nat.lt_or_ge j R.length with hj1 | hj1
    · obtain ⟨x, b, hx, hxp, hxR, hxb, _⟩ := newsR hi1
      obtain ⟨y, b', hy, hyp, hyR, _, _⟩ := newsR hj1
      rw [F2 i x hx, F2 j y hy] at he
      have := h.inj x y hxp hyp (.inl (isWr_of hxb)) he
      subst this
      exact nodup_get C.nd hx hy
    · obtain ⟨x, b, hx, hxp, hxR, hxb, _⟩ := newsR hi1
      obtain ⟨j, rfl⟩ : ∃ k, j = R.length + k := ⟨j - R.length, by omega⟩
      rw [F2 i x hx, ← Nat.add_assoc, F3] at he
      exact absurd he.symm (apart (by omega) hx)
    · obtain ⟨y, b', hy, hyp, hyR, _, _⟩ := newsR hj1
      obtain ⟨i, rfl⟩ : ∃ k, i = R.length + k := ⟨i - R.length, by omega⟩
      rw [F2 j y hy, ← Nat.add_assoc, F3] at he
      exact absurd he (apart (by omega) hy)
    · obtain ⟨i, rfl⟩ : ∃ k, i = R.length + k := ⟨i - R.length, by omega⟩
      obtain ⟨j, rfl⟩ : ∃ k, j = R.length + k := ⟨j - R.length, by omega⟩
      rw [← Nat.add_assoc, ← Nat.add_assoc, F3, F3] at he
      have := q3 i j (by omega) (by omega) he
      omega
  · intro i bk hb
    have hi : i < p := by
      have := (List.getElem?_eq_some_iff.1 hb).1
      simpa [loopSg] using this
    cases hR : R.any (Nat.beq i) with
    | true => rw [postR hi hR] at hb; cases hb; trivial
    | false =>
      cases hg : g.post[i]? with
      | none => rw [loop_post hi, hR, List.getD_eq_getElem?_getD, hg] at hb; cases hb
      | some ob =>
        cases ob with
        | none => rw [loop_post hi, hR, List.getD_eq_getElem?_getD, hg] at hb; cases hb
        | some b =>
          rw [postN hi hR hg] at hb
          cases hb
          rw [← h.same i hi hR]
          exact Bk.holds_rnI.2 ((Bk.holds_agree (ρ := ρ') (n := p + q) key (obd_get C.pB hg)).2 (q4 i b hg))
  · intro j bk hb
    have hj := (List.getElem?_eq_some_iff.1 hb).1
    rw [hnl] at hj
    rcases Nat.lt_or_ge j R.length with hlt | hge
    · obtain ⟨i, b, hg, hi, hR, hgb, hn⟩ := newsR hlt
      rw [hn] at hb; cases hb
      show Bk.holds VB ρF w'.heap[(ρF (p + j)).1]? _
      rw [F2 j i hg]
      exact Bk.holds_rnI.2 ((Bk.holds_agree (ρ := ρ') (n := p + q) key (obd_get C.pB hgb)).2 (q4 i b hgb))
    · obtain ⟨j, rfl⟩ : ∃ k, j = R.length + k := ⟨j - R.length, by omega⟩
      rw [newsL] at hb
      obtain ⟨b, hgb, rfl⟩ := Option.map_eq_some_iff.1 hb
      show Bk.holds VB ρF w'.heap[(ρF (p + (R.length + j))).1]? _
      rw [← Nat.add_assoc, F3]
      exact Bk.holds_rnI.2 ((Bk.holds_agree (ρ := ρ') (n := p + q) key (C.nB j b hgb)).2 (q5 j b hgb))
  · have wrF : ∀ {k : Nat}, k < p → isWr g.post k = true → ∃ bk, (loopSg g R).post[k]? = some (some bk) := fun {k} hk hw => by
      cases hR : R.any (Nat.beq k) with
      | true => exact ⟨_, postR hk hR⟩
      | false => obtain ⟨b, hb⟩ := isWr_some hw; exact ⟨_, postN hk hR hb⟩
    refine (h.fr.trans q6 ?_).mono ?_
    · rintro x hx ⟨i, bk, hb, rfl⟩
      have hi := ltPost hb
      rcases fresh0 hi with ⟨hge, _⟩ | ⟨k, hk1, hk2, hk3⟩
      · omega
      · refine ⟨k, hk1, ?_, hk3.symm⟩
        rcases hk2 with hk2 | rfl
        · exact C.wr k (.inl hk2)
        · exact isWr_of hb
    · rintro x hx ⟨i, hi, hw, rfl⟩
      obtain ⟨bk, hb⟩ := wrF hi hw
      exact ⟨i, bk, hb, rfl⟩
/-- A LOOP: m rounds that go on, and one that ends it. -/
theorem Sg.loop (V : Nat → Env) {VB : Env} (m : Nat) (hchk : loopB N g R W = true) (hex : g.ex.beq .normal = false)
    (hk : ∀ k, k < m → ∀ (i : Nat) (b : Bk), g.pre[i]? = some b → R.any (Nat.beq i) = false → W.any (Nat.beq i) = false → b.rnI (nextIds g.pre.length R) = b ∧ ∀ ρ o, b.holds (V k) ρ o → b.holds (V (k + 1)) ρ o)
    (hr : ∀ k, k < m → Sg.Valid P N c (roundSg g.sl g.pre R W) (V k) (V (k + 1))) (hl : g.Valid P N c (V m) VB) : (loopSg g R).Valid P N (.loop c) (V 0) VB := by
  have C := loopB_ok hchk
  intro ρ0 a w0 hsz hdf hsl hpre
  have wrF : ∀ {k : Nat}, k < g.pre.length → isWr g.post k = true → isWr (loopSg g R).post k = true := fun {k} hk hw => by
    obtain ⟨b, hb⟩ := isWr_some hw
    cases hR : R.any (Nat.beq k) with
    | true => exact isWr_of (b := .gone) (by simp only [loopSg, List.getElem?_map, List.getElem?_range hk, Option.map_some, hR, cond_true])
    | false => exact isWr_of (b := b.rnI (lastIds g.pre.length R g.news.length)) (by simp only [loopSg, List.getElem?_map, List.getElem?_range hk, Option.map_some, hR, cond_false, List.getD_eq_getElem?_getD, hb, Option.getD_some])
  have hI : Lp (V 0) N g R ρ0 w0 ρ0 a w0 := ⟨hsz, hdf, hsl, hpre.2, fun i j hi hj hor he => hpre.1 i j hi hj (hor.imp (wrF hi) (wrF hj)) he, fun _ _ _ => rfl, fun i hi hR => .inr ⟨i, hi, hR, rfl⟩, Fr.refl _ _⟩
  have run : ∀ (n k : Nat), k + n = m → ∀ (ρ : Nat → Nat × Nat) (a : Act) (w : World), Lp (V k) N g R ρ0 w0 ρ a w → loopWp P c ((loopSg g R).Q VB N ρ0 w0) a w := by
    intro n
    induction n with
    | zero =>
      intro k hkm ρ a w h
      obtain rfl : k = m := by omega
      refine loop_round (wp_mono (h.last C hl) ?_)
      intro e a' w' hq
      have he : e = g.ex.to := hq.1
      subst he
      cases hx : g.ex with
      | normal => rw [hx] at hex; cases hex
      | exit id => rw [hx] at hq; exact hq
      | ret => rw [hx] at hq; exact hq
    | succ n ih =>
      intro k hkm ρ a w h
      refine loop_round (wp_mono (h.round C (hk k (by omega)) (hr k (by omega))) ?_)
      rintro e a' w' ⟨rfl, ρ', h'⟩
      exact ih (k + 1) (by omega) ρ' a' w' h'
  exact loop_of (run m 0 (by omega) ρ0 a w0 hI)
end
end RX
end Go.Proofs.Ytbmokmkaebfneaa
