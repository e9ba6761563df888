/- Contracts of functions and laws of stretches, out of a way on paper. -/
import Derived.Test.YtbmokmkaebfneaaRXF
namespace Go.Proofs.Ytbmokmkaebfneaa
open Go.RowKit
namespace RX
set_option linter.unnecessarySimpa false
set_option linter.unusedVariables false
set_option linter.unusedSimpArgs false
def startSl : Nat → SV → List (Nat × SV)
  | i, .cons h t => (i, h) :: startSl (i + 1) t
  | _, _ => []
def startHp : Nat → List Bk → List (Nat × Bk)
  | i, b :: r => (i, b) :: startHp (i + 1) r
  | _, [] => []
def rnEs (τ υ : List Nat) : List Bk → List Bk
  | [] => []
  | b :: r => b.rnE τ υ :: rnEs τ υ r
theorem rnEs_get {τ υ : List Nat} : ∀ {l : List Bk} {i : Nat}, (rnEs τ υ l)[i]? = (l[i]?).map (Bk.rnE τ υ)
  | [], i => by simp [rnEs]
  | b :: r, 0 => by simp [rnEs]
  | b :: r, i + 1 => by simpa [rnEs] using rnEs_get (l := r) (i := i)
theorem startHp_get : ∀ {l : List Bk} {i id : Nat} {b : Bk}, lkH (startHp i l) id = some b → i ≤ id ∧ l[id - i]? = some b
  | [], _, _, _, h => by simp [startHp, lkH] at h
  | c :: r, i, id, b, h => by
    simp only [startHp, lkH] at h
    cases hq : Nat.beq i id with
    | true => rw [hq] at h; cases h; rw [Nat.eq_of_beq_eq_true hq]; exact ⟨Nat.le_refl _, by simp⟩
    | false =>
      rw [hq] at h
      obtain ⟨h1, h2⟩ := startHp_get h
      refine ⟨by omega, ?_⟩
      rw [show id - i = (id - (i + 1)) + 1 by omega]
      simpa using h2
theorem startSl_get {V : Env} {ρ : Nat → Nat × Nat} : ∀ {l : SV} {i t : Nat}, l.isL = true → lkS (startSl i l) t ≠ .any → i ≤ t ∧ (dl V ρ l)[t - i]? = some (den V ρ (lkS (startSl i l) t)) ∧ t < i + l.len
  | .nil, _, _, _, h => absurd rfl h
  | .cons x r, i, t, hl, h => by
    simp only [SV.isL, Bool.and_eq_true] at hl
    simp only [startSl, lkS] at h ⊢
    simp only [dl, dl_single hl.1]
    cases hq : Nat.beq i t with
    | true => rw [Nat.eq_of_beq_eq_true hq]; exact ⟨Nat.le_refl _, by simp, by simp only [SV.len]; omega⟩
    | false =>
      rw [hq] at h
      simp only [cond_false] at h ⊢
      obtain ⟨h1, h2, h3⟩ := startSl_get (V := V) (ρ := ρ) hl.2 h
      refine ⟨by omega, ?_, by simp only [SV.len]; omega⟩
      rw [show t - i = (t - (i + 1)) + 1 by omega]
      simpa using h2

/-- The blocks behind, as they are told. -/
def finB (hp : List (Nat × Bk)) (r : Bk → Bk) : Nat → List (Option Bk) → Option (List Obl)
  | _, [] => some []
  | i, none :: ps => finB hp r (i + 1) ps
  | i, some b' :: ps => match lkH hp i, finB hp r (i + 1) ps with
    | some b, some os => (mtB b (r b')).map (· ++ os)
    | _, _ => none
def newB (hp : List (Nat × Bk)) (r : Bk → Bk) : List Nat → List Bk → Option (List Obl)
  | [], [] => some []
  | id :: ids, b' :: bs => match lkH hp id, newB hp r ids bs with
    | some b, some os => (mtB b (r b')).map (· ++ os)
    | _, _ => none
  | _, _ => none
theorem finB_spec {P : Program} {V : Env} {hp : List (Nat × Bk)} {r : Bk → Bk} : ∀ {ps : List (Option Bk)} {i : Nat} {os : List Obl}, finB hp r i ps = some os → allO P V os →
    ∀ (k : Nat) (b' : Bk), ps[k]? = some (some b') → ∃ b, lkH hp (i + k) = some b ∧ b.live = (r b').live ∧ ∀ ρ o, b.holds V ρ o → (r b').holds V ρ o
  | [], _, _, _, _, k, _, hk => by simp at hk
  | none :: ps, i, os, h, ho, k, b1, hk => by
    cases k with
    | zero => simp at hk
    | succ k =>
      have := finB_spec (ps := ps) h ho k b1 (by simpa using hk)
      rwa [show i + 1 + k = i + (k + 1) by omega] at this
  | some b0 :: ps, i, os, h, ho, k, b1, hk => by
    unfold finB at h
    split at h
    case h_2 => cases h
    rename_i b os' hb hr
    obtain ⟨o, hm, rfl⟩ := Option.map_eq_some_iff.1 h
    rw [allO_app] at ho
    cases k with
    | zero => simp at hk; subst hk; exact ⟨b, hb, mtB_live hm, fun ρ o => mtB_spec hm ho.1 ρ⟩
    | succ k =>
      have := finB_spec hr ho.2 k b1 (by simpa using hk)
      rwa [show i + 1 + k = i + (k + 1) by omega] at this
theorem newB_spec {P : Program} {V : Env} {hp : List (Nat × Bk)} {r : Bk → Bk} : ∀ {ids : List Nat} {bs : List Bk} {os : List Obl}, newB hp r ids bs = some os → allO P V os →
    ids.length = bs.length ∧ ∀ (k : Nat) (b' : Bk), bs[k]? = some b' → ∃ id b, ids[k]? = some id ∧ lkH hp id = some b ∧ b.live = (r b').live ∧ ∀ ρ o, b.holds V ρ o → (r b').holds V ρ o
  | [], [], _, _, _ => ⟨rfl, fun k b' hk => by simp at hk⟩
  | id :: ids, b0 :: bs, os, h, ho => by
    unfold newB at h
    split at h
    case h_2 => cases h
    rename_i b os' hb hr
    obtain ⟨o, hm, rfl⟩ := Option.map_eq_some_iff.1 h
    rw [allO_app] at ho
    obtain ⟨h1, h2⟩ := newB_spec hr ho.2
    refine ⟨by simp [h1], fun k b' hk => ?_⟩
    cases k with
    | zero => simp at hk; subst hk; exact ⟨id, b, rfl, hb, mtB_live hm, fun ρ o => mtB_spec hm ho.1 ρ⟩
    | succ k => obtain ⟨id', b2, x, y, z⟩ := h2 k b' (by simpa using hk); exact ⟨id', b2, by simpa using x, y, z⟩
  | [], _ :: _, _, h, _ => by simp [newB] at h
  | _ :: _, [], _, h, _ => by simp [newB] at h
def finAt (p : Nat) (hp : List (Nat × Bk)) (r : Bk → Bk) (post : List (Option Bk)) (news : List Bk) (outs : List Nat) : Option (List Obl) :=
  match finB hp r 0 post, newB hp r outs news with
  | some o1, some o2 => cond (nodupB outs && (outs.all (fun i => Nat.ble p i) && (Nat.ble post.length p && news.all Bk.live))) (some (o1 ++ o2)) none
  | _, _ => none
section
variable {P : Program} {V : Env} {p N : Nat} {ρ ρ' : Nat → Nat × Nat} {w w' : World} {σs : Nat → SV} {a' : Act}
theorem live_smB {τ υ θ : List Nat} {b : Bk} : (smB τ υ θ b).live = b.live := by unfold smB; rw [Bk.live_rnI, Bk.live_rnE]
theorem fin_ok (hE : V.E.length ≤ 1000000) (hO : V.O.length ≤ 1000000) {hp : List (Nat × Bk)} {τ υ : List Nat} {post : List (Option Bk)} {news : List Bk} {outs : List Nat} {os : List Obl}
    (h : finAt p hp (smB τ υ (List.range p ++ outs)) post news outs = some os) (ho : allO P V os) {ro : Nat → Bool} (hro : ∀ i, p ≤ i → ro i = false) (hwr : ∀ i, i < p → ro i = false → isWr post i = true) (hI : Inv V w ρ p N ro ρ' σs (lkH hp) a' w') :
    postOK (V.sub τ υ) p post news ρ (fun i => ρ' ((List.range p ++ outs).getD i 0)) w w' := by
  unfold finAt at h
  split at h
  case h_2 => cases h
  rename_i o1 o2 hf hn
  obtain ⟨hq, he⟩ := cond_bind h
  cases he
  rw [allO_app] at ho
  simp only [Bool.and_eq_true, List.all_eq_true, Nat.ble_eq] at hq
  obtain ⟨hnd, hge, hpl, hlv⟩ := hq
  obtain ⟨hlen, hnew⟩ := newB_spec hn ho.2
  have hfin := finB_spec hf ho.1
  have hθ : ∀ i, i < p → (List.range p ++ outs).getD i 0 = i := fun i hi => by
    rw [List.getD_eq_getElem?_getD, List.getElem?_append_left (by simpa using hi)]; simp [hi]
  have hθn : ∀ (j id : Nat), outs[j]? = some id → (List.range p ++ outs).getD (p + j) 0 = id := fun j id hj => by
    rw [List.getD_eq_getElem?_getD, List.getElem?_append_right (by simp)]; simp [hj]
  have get : ∀ j, j < news.length → ∃ id b bk, outs[j]? = some id ∧ news[j]? = some bk ∧ lkH hp id = some b ∧ lvO (lkH hp id) = true ∧ (∀ ρ o, b.holds V ρ o → (smB τ υ (List.range p ++ outs) bk).holds V ρ o) ∧ p ≤ id := fun j hj => by
    obtain ⟨id, b, h1, h2, h3, h4⟩ := hnew j _ (List.getElem?_eq_getElem hj)
    refine ⟨id, b, _, h1, List.getElem?_eq_getElem hj, h2, ?_, h4, hge id (List.mem_of_getElem? h1)⟩
    rw [h2]
    show b.live = true
    rw [h3, live_smB]; exact hlv _ (List.getElem_mem hj)
  refine ⟨fun i hi => by simp only; rw [hθ i hi]; exact hI.old i hi, ?_, ?_, ?_, ?_, ?_⟩
  · intro j hj
    obtain ⟨id, b, bk, h1, _, h2, h5, _, h4⟩ := get j hj
    simp only
    rw [hθn j id h1]
    rcases hI.new id h5 h4 with hge | ⟨k, hk, hk0, hk1, hk2⟩
    · exact .inl hge
    · refine .inr ⟨k, ?_, hk2⟩
      have hw := hwr k hk hk0
      unfold isWr at hw
      split at hw
      · rename_i b' hb'
        obtain ⟨b'', x, y, _⟩ := hfin k b' hb'
        rw [Nat.zero_add, hk1] at x
        cases x
        rw [live_smB] at y
        rw [hb', gone_of y.symm]
      · cases hw
  · intro i j hi hj he
    obtain ⟨x, bx, _, h1, _, h2, h5, _, hpx⟩ := get i hi
    obtain ⟨y, bY, _, k1, _, k2, k5, _, _⟩ := get j hj
    simp only at he
    rw [hθn i x h1, hθn j y k1] at he
    have := hI.inj x y h5 k5 (.inl (hro x (by assumption))) he
    subst this
    exact nodup_get hnd h1 k1
  · intro i bk hb
    have hi : i < p := Nat.lt_of_lt_of_le (List.getElem?_eq_some_iff.1 hb).1 hpl
    obtain ⟨b, hl, _, hh⟩ := hfin i bk hb
    rw [Nat.zero_add] at hl
    have := hh ρ' _ (hI.heap i b hl)
    rw [hI.old i hi] at this
    exact (holds_smB hE hO).1 this
  · intro j bk hb
    have hj : j < news.length := (List.getElem?_eq_some_iff.1 hb).1
    obtain ⟨id, b, bk', h1, h0, h2, _, h3, _⟩ := get j hj
    rw [hb] at h0; cases h0
    simp only
    rw [hθn j id h1]
    exact (holds_smB hE hO).1 (h3 ρ' _ (hI.heap id b h2))
  · refine hI.fr.mono ?_
    rintro b hb ⟨i, hi, hi0, rfl⟩
    have hw := hwr i hi hi0
    unfold isWr at hw
    split at hw
    · rename_i b' hb'; exact ⟨i, b', hb', rfl⟩
    · cases hw
end

/-! Results -/
def resCell (P : Program) (hp : List (Nat × Bk)) (ty : TypeId) : SV → Option SV
  | .ptr id .nil off => match lkH hp id, rowOf P ty, sizeT P ty with
    | some (.cs _ l), some true, some n => cond (l.isL && Nat.ble (off + n) l.len) (some (.agg (SV.takeL n (SV.dropL off l)))) none
    | some (.cs _ l), some false, some _ => cond (l.isL && Nat.ble (off + 1) l.len) (some (SV.nthL off l)) none
    | _, _, _ => none
  | _ => none
theorem resCell_run {P : Program} {V : Env} {hp : List (Nat × Bk)} {ty : TypeId} {x v : SV} (h : resCell P hp ty x = some v) {ρ : Nat → Nat × Nat} {w : World} (hh : ∀ id bk, lkH hp id = some bk → bk.holds V ρ w.heap[(ρ id).1]?) :
    (do loadVar ty (← asAddr (den V ρ x)) : Sem Value).run P w = .ok (den V ρ v) w := by
  unfold resCell at h
  split at h
  case h_2 => cases h
  rename_i id off
  have hx : den V ρ (.ptr id .nil off) = .pointer (some ⟨(ρ id).1, off, none⟩) := by simp [den, dl, natV, undef]
  rw [hx]
  show (Instr.loadAt ty (.pointer (some ⟨(ρ id).1, off, none⟩))).run P w = _
  split at h
  · rename_i t l n hb hr hn
    obtain ⟨hq, he⟩ := cond_bind h
    cases he
    simp only [Bool.and_eq_true, Nat.ble_eq] at hq
    have hl := take_len (V := V) hq.1 hq.2 ρ
    refine run_load_row (hh id _ hb) hr (by rw [hl]; exact hn) ?_
    rw [hl, dl_take (isL_drop hq.1), dl_drop hq.1]
  · rename_i t l n hb hr hn
    obtain ⟨hq, he⟩ := cond_bind h
    cases he
    simp only [Bool.and_eq_true, Nat.ble_eq] at hq
    refine run_load_one (hh id _ hb) hr ?_
    rw [List.getElem?_toArray]
    exact (dl_nth hq.1 (by omega)).1
  · cases h
def resVars (P : Program) (s : St) : List ResultVar → Option SV
  | [] => some .nil
  | .tmp t :: r => match resVars P s r with
    | some l => cond (okVal (lkS s.sl t)) (some (.cons (lkS s.sl t) l)) none
    | none => none
  | .cell a ty :: r => match resCell P s.hp ty (lkS s.sl a), resVars P s r with
    | some v, some l => cond (okVal v) (some (.cons v l)) none
    | _, _ => none
def resS (P : Program) (fn : Func) (s : St) : Option SV := match resVars P s fn.results.toList with
  | some (.cons v .nil) => some v
  | some l => some (.tup l)
  | none => none
def resFn (tmps : Array Value) : ResultVar → Sem Value
  | .tmp t => pure (tmps.getD t undef)
  | .cell a t => do loadVar t (← asAddr (tmps.getD a undef))
theorem results_eq (fn : Func) (tmps : Array Value) : results fn tmps = (do let vs ← fn.results.mapM (resFn tmps); pure (if h : vs.size = 1 then vs[0] else .tuple vs)) := by
  unfold results
  first | rfl | (congr 1; done) | (congr 1; congr 1; funext r; cases r <;> rfl)
theorem resVars_run {P : Program} {V : Env} {s : St} {ρ : Nat → Nat × Nat} {a : Act} {w : World} (hs : ∀ t, lkS s.sl t ≠ .any → a.tmps.getD t undef = den V ρ (lkS s.sl t)) (hh : ∀ id bk, lkH s.hp id = some bk → bk.holds V ρ w.heap[(ρ id).1]?) :
    ∀ {rs : List ResultVar} {l : SV}, resVars P s rs = some l → (rs.mapM (resFn a.tmps)).run P w = .ok (dl V ρ l) w ∧ l.isL = true
  | [], l, h => by cases h; exact ⟨rfl, rfl⟩
  | .tmp t :: r, l, h => by
    unfold resVars at h
    split at h
    · rename_i l' hl
      obtain ⟨hq, he⟩ := cond_bind h
      cases he
      obtain ⟨h1, h2⟩ := okVal_spec hq
      obtain ⟨i1, i2⟩ := resVars_run hs hh hl
      refine ⟨?_, by simp only [SV.isL, h2, i2, Bool.and_self]⟩
      simp only [List.mapM_cons, Sem.run_bind, resFn, Sem.run_pure, Result.andThen, i1, dl, dl_single h2]
      rw [hs t h1]; rfl
    · cases h
  | .cell x ty :: r, l, h => by
    unfold resVars at h
    split at h
    · rename_i v l' hv hl
      obtain ⟨hq, he⟩ := cond_bind h
      cases he
      obtain ⟨h1, h2⟩ := okVal_spec hq
      obtain ⟨i1, i2⟩ := resVars_run hs hh hl
      refine ⟨?_, by simp only [SV.isL, h2, i2, Bool.and_self]⟩
      have hx : lkS s.sl x ≠ .any := by intro e; rw [e] at hv; simp [resCell] at hv
      have := resCell_run (V := V) hv (ρ := ρ) hh
      rw [← hs x hx] at this
      rw [List.mapM_cons, Sem.run_bind]
      show ((do loadVar ty (← asAddr (a.tmps.getD x undef)) : Sem Value).run P w).andThen _ = _
      rw [this]
      simp only [Result.andThen, Sem.run_bind, Sem.run_pure, i1, dl, dl_single h2]
      rfl
    · cases h
theorem resS_run {P : Program} {V : Env} {fn : Func} {s : St} {v : SV} (h : resS P fn s = some v) {ρ : Nat → Nat × Nat} {a : Act} {w : World} (hs : ∀ t, lkS s.sl t ≠ .any → a.tmps.getD t undef = den V ρ (lkS s.sl t)) (hh : ∀ id bk, lkH s.hp id = some bk → bk.holds V ρ w.heap[(ρ id).1]?) :
    (results fn a.tmps).run P w = .ok (den V ρ v) w := by
  unfold resS at h
  have run : ∀ {l : SV}, resVars P s fn.results.toList = some l → (results fn a.tmps).run P w = .ok (if h : (dl V ρ l).toArray.size = 1 then (dl V ρ l).toArray[0] else .tuple (dl V ρ l).toArray) w ∧ l.isL = true := by
    intro l hl
    obtain ⟨h1, h2⟩ := resVars_run (V := V) hs hh hl
    refine ⟨?_, h2⟩
    rw [results_eq, Sem.run_bind, Array.mapM_eq_mapM_toList, Sem.run_map, h1]
    rfl
  split at h
  · rename_i x hl
    cases h
    obtain ⟨h1, h2⟩ := run hl
    rw [h1]
    have : dl V ρ (.cons v .nil) = [den V ρ v] := by
      simp only [SV.isL, Bool.and_true] at h2
      simp only [dl, dl_single h2, List.append_nil]
    simp only [this]
    rfl
  · rename_i l hne hl
    cases h
    obtain ⟨h1, h2⟩ := run hl
    rw [h1, dif_neg]
    · rfl
    · intro hsz
      have hlen := dl_len (V := V) (ρ := ρ) h2
      simp only [List.size_toArray] at hsz
      cases l with
      | cons x t =>
        simp only [SV.len] at hlen
        have ht : t.len = 0 := by omega
        simp only [SV.isL, Bool.and_eq_true] at h2
        cases t with
        | nil => exact hne _ rfl
        | cons _ _ => simp [SV.len] at ht
        | _ => simp [SV.isL] at h2
      | nil => rw [hsz] at hlen; simp [SV.len] at hlen
      | _ => simp [SV.isL] at h2
  · cases h

/-! ### Contracts and laws -/
def bksB (n : Nat) : List Bk → Bool
  | [] => true
  | b :: r => b.bd n && bksB n r
theorem bksB_get {n : Nat} : ∀ {l : List Bk} {i : Nat} {b : Bk}, bksB n l = true → l[i]? = some b → b.bd n = true
  | [], _, _, _, h => by simp at h
  | c :: r, 0, b, h, hi => by simp only [bksB, Bool.and_eq_true] at h; simp at hi; subst hi; exact h.1
  | c :: r, i + 1, b, h, hi => by simp only [bksB, Bool.and_eq_true] at h; exact bksB_get h.2 (by simpa using hi)
def noAnyL : SV → Bool
  | .cons h t => okVal h && noAnyL t
  | _ => true
/-- The blocks that are read only. -/
def roList (post : List (Option Bk)) : Nat → List Nat
  | 0 => []
  | n + 1 => cond (isWr post n) (roList post n) (n :: roList post n)
theorem roList_lt {post : List (Option Bk)} : ∀ {n i : Nat}, i ∈ roList post n → i < n
  | 0, _, h => by cases h
  | n + 1, i, h => by
    simp only [roList] at h
    cases hq : isWr post n with
    | true => rw [hq] at h; have := roList_lt (n := n) h; omega
    | false =>
      rw [hq] at h
      rcases List.mem_cons.1 h with rfl | h
      · omega
      · have := roList_lt (n := n) h; omega
theorem roList_no {post : List (Option Bk)} : ∀ {n i : Nat}, i < n → (roList post n).any (Nat.beq i) = false → isWr post i = true
  | 0, _, h, _ => by omega
  | n + 1, i, h, hr => by
    simp only [roList] at hr
    by_cases e : i = n
    · subst e
      cases hq : isWr post i with
      | true => rfl
      | false => rw [hq] at hr; simp [Nat.beq_refl] at hr
    · refine roList_no (n := n) (by omega) ?_
      cases hq : isWr post n with
      | true => rw [hq] at hr; exact hr
      | false => rw [hq] at hr; simp only [cond_false, List.any_cons, Bool.or_eq_false_iff] at hr; exact hr.2
/-- A function's way, checked: what is owed. -/
def ctCheck (P : Program) (Γ : List Gm) (S : List Sm) (lens : List Nat) (fn : Func) (code : Code) (c : Ct) (τ υ : List Nat) (fuel : Nat) (hs : List Hint) (outs : List Nat) : Option (List Obl × List (Code × Nat)) :=
  (fun pre => cond ((c.args.rnE τ).isL && ((c.args.rnE τ).bd c.pre.length && bksB c.pre.length pre))
    (match exec P Γ S lens (roList c.post c.pre.length) (c.args.len + (fn.ntmps - c.args.len)) fuel false code ⟨startSl 0 (c.args.rnE τ), startHp 0 pre, c.pre.length⟩ hs with
      | some (.exit _, _, _, _, _) => none
      | some (_, s', [], os, cs) => match resS P fn s', finAt c.pre.length s'.hp (smB τ υ (List.range c.pre.length ++ outs)) c.post c.news outs with
        | some v, some o2 => match mt v (smR τ (List.range c.pre.length ++ outs) c.res) with
          | some o3 => some (os ++ (o2 ++ o3), cs)
          | none => none
        | _, _ => none
      | _ => none) none) (rnEs τ υ c.pre)
theorem len_rnE {τ : List Nat} : ∀ {l : SV}, (l.rnE τ).len = l.len := by
  intro l
  induction l <;> simp_all [SV.rnE, SV.len]
  split <;> rfl
theorem callFunc_enter {P : Program} {f : FuncId} {fn : Func} {c : Code} (hf : P.funcs[f]? = some fn) (hname : (fn.name == "runtime.NumGoroutine") = false) (hb : fn.body = some c) (args : Array Value) (w : World) : (callFunc f args).run P w = .ok (.enter f args) w := by
  have hn : ¬ fn.name = "runtime.NumGoroutine" := fun e => by rw [e] at hname; simp at hname
  simp [callFunc, hf, hn, hb]
section
variable {P : Program} {V : Env} {Γ : List Gm} {S : List Sm} {lens : List Nat}
theorem Ct.of_exec {f : FuncId} {fn : Func} {code : Code} (hf : P.funcs[f]? = some fn) (hname : (fn.name == "runtime.NumGoroutine") = false) (hb : fn.body = some code) (hm : P.follows .mixedOrders = true)
    (hV : VOK V lens) (hE : V.E.length ≤ 1000000) (hO : V.O.length ≤ 1000000) (hΓ : allG P V Γ) {c : Ct} {τ υ : List Nat} {fuel : Nat} {hs : List Hint} {outs : List Nat} {os : List Obl} {cs : List (Code × Nat)}
    (h : ctCheck P Γ S lens fn code c τ υ fuel hs outs = some (os, cs)) (ho : allO P V os) (hc : allC P (c.args.len + (fn.ntmps - c.args.len)) V S cs) : c.Valid P f (V.sub τ υ) := by
  unfold ctCheck at h
  simp only at h
  obtain ⟨hq, h⟩ := cond_bind h
  simp only [Bool.and_eq_true] at hq
  obtain ⟨hL, hab, hpb⟩ := hq
  intro ρ w hpre
  rw [callFunc_enter hf hname hb]
  show Calls P f _ w _
  split at h
  · cases h
  case h_3 => cases h
  rename_i e s' os' cs' hne hx
  split at h
  case h_2 => cases h
  rename_i v o2 hv hfin
  split at h
  case h_2 => cases h
  rename_i o3 hm3
  cases h
  rw [allO_app, allO_app] at ho
  have hprelen : (rnEs τ υ c.pre).length = c.pre.length := by
    have : ∀ l : List Bk, (rnEs τ υ l).length = l.length := fun l => by induction l <;> simp_all [rnEs]
    exact this _
  have hargs : dl V ρ (c.args.rnE τ) = dl (V.sub τ υ) ρ c.args := dl_rnE
  have hpre' : ∀ (i : Nat) (bk : Bk), (rnEs τ υ c.pre)[i]? = some bk → bk.holds V ρ w.heap[(ρ i).1]? := by
    intro i bk hb'
    rw [rnEs_get] at hb'
    obtain ⟨b, hb1, rfl⟩ := Option.map_eq_some_iff.1 hb'
    exact (Bk.holds_rnE hE hO).2 (hpre.2 i b hb1)
  have hlenA : (dl (V.sub τ υ) ρ c.args).length = c.args.len := by rw [← hargs, dl_len hL, len_rnE]
  have hWF : WF c.pre.length ⟨startSl 0 (c.args.rnE τ), startHp 0 (rnEs τ υ c.pre), c.pre.length⟩ := by
    refine ⟨fun t => ?_, fun id bk hb' => ?_, Nat.le_refl _⟩
    · have : ∀ (l : SV) (i t : Nat), l.bd c.pre.length = true → (lkS (startSl i l) t).bd c.pre.length = true := by
        intro l
        induction l with
        | cons x r ih1 ih2 =>
          intro i t hl
          simp only [SV.bd, Bool.and_eq_true] at hl
          simp only [startSl, lkS]
          cases Nat.beq i t with
          | true => exact hl.1
          | false => exact ih2 _ _ hl.2
        | _ => intro i t _; rfl
      exact this _ _ _ hab
    · obtain ⟨h1, h2⟩ := startHp_get hb'
      have h3 := (List.getElem?_eq_some_iff.1 h2).1
      exact ⟨by rw [hprelen] at h3; simp only; omega, bksB_get hpb h2⟩
  obtain ⟨_, W⟩ := exec_ok (p0 := c.pre.length) hm hV hE hO hΓ _ _ _ _ _ _ _ _ _ _ hx ho.1 hc hWF
  refine calls_of_wp hf hb ?_
  let a : Act := { tmps := (dl (V.sub τ υ) ρ c.args).toArray ++ Array.replicate (fn.ntmps - (dl (V.sub τ υ) ρ c.args).toArray.size) undef, defers := [] }
  have hI : Inv V w ρ c.pre.length (c.args.len + (fn.ntmps - c.args.len)) (fun i => (roList c.post c.pre.length).any (Nat.beq i)) ρ (lkS (startSl 0 (c.args.rnE τ))) (lkH (startHp 0 (rnEs τ υ c.pre))) a w := by
    refine ⟨by simp [a, hlenA], rfl, ?_, ?_, ?_, Fr.refl _ _, fun _ _ => rfl, ?_⟩
    · intro t ht
      obtain ⟨_, h2, h3⟩ := startSl_get (V := V) (ρ := ρ) hL ht
      rw [Nat.sub_zero] at h2
      rw [hargs] at h2
      show a.tmps.getD t undef = _
      have hlt := (List.getElem?_eq_some_iff.1 h2).1
      rw [Array.getD_eq_getD_getElem?]
      show (((dl (V.sub τ υ) ρ c.args).toArray ++ Array.replicate _ undef)[t]?).getD undef = _
      rw [Array.getElem?_append_left (by simpa using hlt), List.getElem?_toArray, h2]
      rfl
    · intro id bk hb'
      obtain ⟨_, h2⟩ := startHp_get hb'
      rw [Nat.sub_zero] at h2
      exact hpre' id bk h2
    · intro i j hi hj hor he
      have key : ∀ i, lvO (lkH (startHp 0 (rnEs τ υ c.pre)) i) = true → i < c.pre.length := fun i hi => by
        obtain ⟨b, hb', _⟩ := lvO_some hi
        obtain ⟨_, h2⟩ := startHp_get hb'
        have h3 := (List.getElem?_eq_some_iff.1 h2).1
        rw [hprelen] at h3; omega
      exact hpre.1 i j (key i hi) (key j hj) (hor.imp (roList_no (key i hi)) (roList_no (key j hj))) he
    · intro i hi hp
      obtain ⟨b, hb', _⟩ := lvO_some hi
      obtain ⟨_, h2⟩ := startHp_get hb'
      have h3 := (List.getElem?_eq_some_iff.1 h2).1
      rw [hprelen] at h3; omega
  have W1 := W w ρ ρ a w hI
  refine wp_mono W1 ?_
  rintro x a' w' ⟨rfl, ρ', hI'⟩
  have hpost := fin_ok hE hO hfin ho.2.1 (ro := fun i => (roList c.post c.pre.length).any (Nat.beq i)) (fun i hi => by
    rw [List.any_eq_false]; intro x hx hb'; have := roList_lt hx; have := Nat.eq_of_beq_eq_true hb'; omega) (fun i hi h0 => roList_no hi h0) hI'
  have hres := resS_run hv hI'.slots hI'.heap
  have fin : c.Post (V.sub τ υ) ρ w (den V ρ' v) w' := by
    obtain ⟨q1, q2, q3, q4, q5, q6⟩ := hpost
    refine ⟨_, q1, q2, q3, ?_, q4, q5, q6⟩
    unfold den
    rw [mt_spec _ _ _ hm3 ho.2.2 ρ', den_smR (υ := υ)]
  have done : a'.defers = [] ∧ ∃ u, (results fn a'.tmps).run P w' = .ok u w' ∧ ∃ v, Ending.returned u = .returned v ∧ c.Post (V.sub τ υ) ρ w v w' := ⟨hI'.defers, _, hres, _, rfl, fin⟩
  cases e with
  | normal => exact done
  | ret => exact done
  | exit id => exact (hne id rfl).elim
end
end RX
end Go.Proofs.Ytbmokmkaebfneaa
