/- Calls by contracts: the effect, and that it is right. -/
import Derived.Test.YtbmokmkaebfneaaRX7
namespace Go.Proofs.Ytbmokmkaebfneaa
open Go.RowKit
namespace RX
set_option linter.unnecessarySimpa false
set_option linter.unusedVariables false
set_option linter.unusedSimpArgs false
def upOld (r : Bk → Bk) : List Nat → List (Option Bk) → List (Nat × Bk)
  | i :: is, some b :: ps => (i, r b) :: upOld r is ps
  | _ :: is, none :: ps => upOld r is ps
  | _, _ => []
def upNew (r : Bk → Bk) : Nat → List Bk → List (Nat × Bk)
  | n, b :: bs => (n, r b) :: upNew r (n + 1) bs
  | _, [] => []
theorem mem_upOld {r : Bk → Bk} {x : Nat × Bk} : ∀ {is : List Nat} {ps : List (Option Bk)}, x ∈ upOld r is ps → ∃ (i : Nat) (b : Bk), is[i]? = some x.1 ∧ ps[i]? = some (some b) ∧ x.2 = r b
  | i :: is, some b :: ps, h => by
    simp only [upOld, List.mem_cons] at h
    rcases h with rfl | h
    · exact ⟨0, b, rfl, rfl, rfl⟩
    · obtain ⟨k, c, h1, h2, h3⟩ := mem_upOld h; exact ⟨k + 1, c, by simpa using h1, by simpa using h2, h3⟩
  | i :: is, none :: ps, h => by obtain ⟨k, c, h1, h2, h3⟩ := mem_upOld (is := is) (ps := ps) h; exact ⟨k + 1, c, by simpa using h1, by simpa using h2, h3⟩
  | [], _, h => by cases h
  | _ :: _, [], h => by cases h
theorem upOld_mem {r : Bk → Bk} : ∀ {is : List Nat} {ps : List (Option Bk)} {i id : Nat} {b : Bk}, is[i]? = some id → ps[i]? = some (some b) → (id, r b) ∈ upOld r is ps
  | [], _, _, _, _, h, _ => by simp at h
  | _ :: _, [], _, _, _, _, h => by simp at h
  | i :: is, some c :: ps, 0, id, b, h1, h2 => by simp at h1 h2; subst h1; subst h2; exact List.mem_cons_self
  | i :: is, none :: ps, 0, id, b, h1, h2 => by simp at h2
  | i :: is, some c :: ps, k + 1, id, b, h1, h2 => List.mem_cons_of_mem _ (upOld_mem (i := k) (by simpa using h1) (by simpa using h2))
  | i :: is, none :: ps, k + 1, id, b, h1, h2 => upOld_mem (is := is) (ps := ps) (i := k) (by simpa using h1) (by simpa using h2)
theorem mem_upNew {r : Bk → Bk} {x : Nat × Bk} : ∀ {n : Nat} {bs : List Bk}, x ∈ upNew r n bs → ∃ (j : Nat) (b : Bk), bs[j]? = some b ∧ x.1 = n + j ∧ x.2 = r b
  | n, [], h => by cases h
  | n, b :: bs, h => by
    simp only [upNew, List.mem_cons] at h
    rcases h with rfl | h
    · exact ⟨0, b, rfl, rfl, rfl⟩
    · obtain ⟨k, c, h1, h2, h3⟩ := mem_upNew h; exact ⟨k + 1, c, by simpa using h1, by omega, h3⟩
theorem lkH_of_mem : ∀ {l : List (Nat × Bk)} {x : Nat × Bk}, x ∈ l → lkH l x.1 ≠ none
  | (i, b) :: r, x, h => by
    simp only [lkH]
    cases hq : Nat.beq i x.1 with
    | true => simp
    | false =>
      simp only [cond_false]
      rcases List.mem_cons.1 h with rfl | h
      · simp [Nat.beq_refl] at hq
      · exact lkH_of_mem h
theorem lkH_app : ∀ {a b : List (Nat × Bk)} {id : Nat} {bk : Bk}, lkH (a ++ b) id = some bk → (id, bk) ∈ a ∨ (id, bk) ∈ b := fun h => List.mem_append.1 (lkH_mem h)

/-- The blocks that a contract is told of, as they are known; what is owed for them. -/
def told (hp : List (Nat × Bk)) (r : Bk → Bk) : List Nat → List Bk → Option (List (Nat × Bk) × List Obl)
  | [], [] => some ([], [])
  | i :: is, b :: bs => match lkH hp i, told hp r is bs with
    | some k, some (l, os) => match mtB k (r b) with
      | some o => cond k.live (some ((i, k) :: l, o ++ os)) none
      | none => none
    | _, _ => none
  | _, _ => none
theorem told_spec {P : Program} {V : Env} {hp : List (Nat × Bk)} {r : Bk → Bk} : ∀ {is : List Nat} {bs : List Bk} {l : List (Nat × Bk)} {os : List Obl}, told hp r is bs = some (l, os) → allO P V os →
    is.length = bs.length ∧ (∀ x ∈ l, lkH hp x.1 = some x.2 ∧ x.2.live = true) ∧ (∀ (i id : Nat) (b : Bk), is[i]? = some id → bs[i]? = some b → ∃ k, lkH l id = some k ∧ ∀ ρ o, k.holds V ρ o → (r b).holds V ρ o) ∧ (∀ id ∈ is, lkH l id ≠ none)
  | [], [], l, os, h, _ => by cases h; exact ⟨rfl, fun x hx => (by cases hx), fun i id b hi => (by simp at hi), fun id hid => (by cases hid)⟩
  | i :: is, b :: bs, l, os, h, ho => by
    unfold told at h
    split at h
    · rename_i k l' os' hk hl
      split at h
      · rename_i o hm
        cases hlv : k.live with
        | false => rw [hlv] at h; cases h
        | true =>
        rw [hlv] at h
        cases h
        rw [allO_app] at ho
        obtain ⟨h1, h2, h3, h4⟩ := told_spec hl ho.2
        have hall : ∀ x ∈ (i, k) :: l', lkH hp x.1 = some x.2 ∧ x.2.live = true := fun x hx => by
          rcases List.mem_cons.1 hx with rfl | hx
          · exact ⟨hk, hlv⟩
          · exact h2 x hx
        refine ⟨by simp [h1], hall, ?_, ?_⟩
        · intro j id c hj hc
          cases j with
          | zero =>
            simp at hj hc; subst hj; subst hc
            exact ⟨k, lkH_self _ _ _, fun ρ o => mtB_spec hm ho.1 ρ⟩
          | succ j =>
            obtain ⟨k', hk', hd⟩ := h3 j id c (by simpa using hj) (by simpa using hc)
            refine ⟨k', ?_, hd⟩
            simp only [lkH]
            cases hq : Nat.beq i id with
            | false => exact hk'
            | true =>
              have e := Nat.eq_of_beq_eq_true hq
              subst e
              have := (h2 _ (lkH_mem hk')).1
              simp only at this
              rw [hk] at this
              rw [this]; rfl
        · intro id hid
          simp only [lkH]
          cases hq : Nat.beq i id with
          | true => simp
          | false =>
            simp only [cond_false]
            rcases List.mem_cons.1 hid with rfl | hid
            · simp [Nat.beq_refl] at hq
            · exact h4 id hid
      · cases h
    · cases h
  | [], _ :: _, _, _, h, _ => by simp [told] at h
  | _ :: _, [], _, _, h, _ => by simp [told] at h

def nodupB : List Nat → Bool
  | [] => true
  | i :: is => (is.all fun j => !Nat.beq i j) && nodupB is
theorem nodup_get : ∀ {l : List Nat} {i j : Nat} {x : Nat}, nodupB l = true → l[i]? = some x → l[j]? = some x → i = j
  | [], i, _, _, _, h, _ => by simp at h
  | y :: l, 0, 0, _, _, _, _ => rfl
  | y :: l, 0, j + 1, x, h, hi, hj => by
    simp only [nodupB, Bool.and_eq_true, List.all_eq_true] at h
    simp at hi hj; subst hi
    have := h.1 y (List.mem_of_getElem? hj)
    simp [Nat.beq_refl] at this
  | y :: l, i + 1, 0, x, h, hi, hj => by
    simp only [nodupB, Bool.and_eq_true, List.all_eq_true] at h
    simp at hi hj; subst hj
    have := h.1 y (List.mem_of_getElem? hi)
    simp [Nat.beq_refl] at this
  | y :: l, i + 1, j + 1, x, h, hi, hj => by
    simp only [nodupB, Bool.and_eq_true] at h
    rw [nodup_get (i := i) (j := j) h.2 (by simpa using hi) (by simpa using hj)]
def obd (n : Nat) : List (Option Bk) → Bool
  | [] => true
  | some b :: r => b.bd n && obd n r
  | none :: r => obd n r
theorem obd_get {n : Nat} : ∀ {l : List (Option Bk)} {i : Nat} {b : Bk}, obd n l = true → l[i]? = some (some b) → b.bd n = true
  | [], _, _, _, h => by simp at h
  | some c :: r, 0, b, h, hi => by simp only [obd, Bool.and_eq_true] at h; simp at hi; subst hi; exact h.1
  | none :: r, 0, b, h, hi => by simp at hi
  | some c :: r, i + 1, b, h, hi => by simp only [obd, Bool.and_eq_true] at h; exact obd_get h.2 (by simpa using hi)
  | none :: r, i + 1, b, h, hi => obd_get (l := r) h (by simpa using hi)

def gmR (g : Gm) (ids : List Nat) (nx : Nat) (x : SV) : SV := (x.rnE g.τ).rnI (ids ++ List.range' nx g.c.news.length)
def gmB (g : Gm) (ids : List Nat) (nx : Nat) (x : Bk) : Bk := (x.rnE g.τ g.υ).rnI (ids ++ List.range' nx g.c.news.length)
theorem lkH_append' : ∀ (a b : List (Nat × Bk)) (t : Nat), lkH (a ++ b) t = match lkH a t with | some x => some x | none => lkH b t
  | [], _, _ => rfl
  | (i, v) :: a, b, t => by
    simp only [List.cons_append, lkH]
    cases hq : Nat.beq i t with
    | true => rfl
    | false => simp only [cond_false]; exact lkH_append' a b t
theorem upOld_gone {r : Bk → Bk} (hr : r .gone = .gone) : ∀ {is : List Nat} {ps : List (Option Bk)} {i id : Nat}, nodupB is = true → is[i]? = some id → ps[i]? = some (some .gone) → lkH (upOld r is ps) id = some .gone
  | [], _, _, _, _, h, _ => by simp at h
  | _ :: _, [], _, _, _, _, h => by simp at h
  | i :: is, some c :: ps, 0, id, _, h1, h2 => by simp at h1 h2; subst h1; subst h2; simp [upOld, lkH, Nat.beq_refl, hr]
  | i :: is, none :: ps, 0, id, _, h1, h2 => by simp at h2
  | i :: is, some c :: ps, k + 1, id, hn, h1, h2 => by
    have h1' : is[k]? = some id := by simpa using h1
    have ih := upOld_gone hr (is := is) (ps := ps) (i := k) (by simp only [nodupB, Bool.and_eq_true] at hn; exact hn.2) h1' (by simpa using h2)
    simp only [upOld, lkH]
    simp only [nodupB, Bool.and_eq_true, List.all_eq_true] at hn
    have := hn.1 id (List.mem_of_getElem? h1')
    cases hq : Nat.beq i id with
    | true => rw [hq] at this; cases this
    | false => exact ih
  | i :: is, none :: ps, k + 1, id, hn, h1, h2 => upOld_gone hr (is := is) (ps := ps) (i := k) (by simp only [nodupB, Bool.and_eq_true] at hn; exact hn.2) (by simpa using h1) (by simpa using h2)
theorem lkH_once {g : Gm} {ids : List Nat} {nx : Nat} {i id : Nat} {b : List (Nat × Bk)} (hn : nodupB ids = true) (h1 : ids[i]? = some id) (h2 : g.c.post[i]? = some (some .gone)) (_ : id < nx) : lkH (upOld (gmB g ids nx) ids g.c.post ++ b) id = some .gone := by
  have := upOld_gone (r := gmB g ids nx) rfl hn h1 h2
  rw [lkH_append', this]
def callEff (hp : List (Nat × Bk)) (nx : Nat) (g : Gm) (ids : List Nat) (args : SV) : Option (Eff × List Obl) :=
  match mt args (gmR g ids nx g.c.args), told hp (gmB g ids nx) ids g.c.pre with
  | some o1, some (rd, o2) =>
    cond (nodupB ids && (ids.all (fun i => Nat.blt i nx) && (Nat.ble g.c.post.length ids.length && (g.c.res.bd (g.c.pre.length + g.c.news.length) && (obd (g.c.pre.length + g.c.news.length) g.c.post && (g.c.news.all fun b => b.bd (g.c.pre.length + g.c.news.length)))))))
      (some (⟨gmR g ids nx g.c.res, rd, upOld (gmB g ids nx) ids g.c.post ++ upNew (gmB g ids nx) nx g.c.news, g.c.news.length⟩, o1 ++ o2)) none
  | _, _ => none

section
variable {P : Program} {V : Env} {av : Operand → SV} {hp : List (Nat × Bk)} {nx : Nat} {o : Oper}
theorem den_gmR {g : Gm} {ids : List Nat} {ρ : Nat → Nat × Nat} {x : SV} : dl V ρ (gmR g ids nx x) = dl (V.sub g.τ g.υ) (fun i => ρ ((ids ++ List.range' nx g.c.news.length).getD i 0)) x := by
  unfold gmR; rw [dl_rnI, dl_rnE (υ := g.υ)]
theorem holds_gmB (hE : V.E.length ≤ 1000000) (hO : V.O.length ≤ 1000000) {g : Gm} {ids : List Nat} {ρ : Nat → Nat × Nat} {x : Bk} {o : Option Obj} : (gmB g ids nx x).holds V ρ o ↔ x.holds (V.sub g.τ g.υ) (fun i => ρ ((ids ++ List.range' nx g.c.news.length).getD i 0)) o := by
  unfold gmB; rw [Bk.holds_rnI, Bk.holds_rnE hE hO]
theorem callEff_good (hE : V.E.length ≤ 1000000) (hO : V.O.length ≤ 1000000) {g : Gm} {ids : List Nat} {args : SV} {f : Eff} {os : List Obl} (h : callEff hp nx g ids args = some (f, os)) (ho : allO P V os)
    (hrun : ∀ (ρ ρc : Nat → Nat × Nat) (w : World) (ev : Operand → Value), (∀ x ∈ o.op.operands, av x ≠ .any → ev x = den V ρ (av x)) → dl V ρ args = dl (V.sub g.τ g.υ) ρc g.c.args → g.c.Pre (V.sub g.τ g.υ) ρc w → growUpon P (g.c.Post (V.sub g.τ g.υ) ρc w) ((execOp ev o).run P w)) :
    Good P V av hp nx o f := by
  unfold callEff at h
  split at h
  case h_2 => cases h
  rename_i o1 rd o2 hm ht
  cases hq : (nodupB ids && (ids.all (fun i => Nat.blt i nx) && (Nat.ble g.c.post.length ids.length && (g.c.res.bd (g.c.pre.length + g.c.news.length) && (obd (g.c.pre.length + g.c.news.length) g.c.post && (g.c.news.all fun b => b.bd (g.c.pre.length + g.c.news.length))))))) with
  | false => rw [hq] at h; cases h
  | true =>
    rw [hq] at h; cases h
    rw [allO_app] at ho
    simp only [Bool.and_eq_true, List.all_eq_true, Nat.ble_eq, blt_iff] at hq
    obtain ⟨hnd, hlt, hpl, hrb, hpb, hnb⟩ := hq
    obtain ⟨t1, t2, t3, t4⟩ := told_spec ht ho.2
    have hθ : ∀ i, i < ids.length → (ids ++ List.range' nx g.c.news.length).getD i 0 = ids.getD i 0 := fun i hi => by
      simp [List.getD_eq_getElem?_getD, List.getElem?_append_left hi]
    have hθn : ∀ j, j < g.c.news.length → (ids ++ List.range' nx g.c.news.length).getD (ids.length + j) 0 = nx + j := fun j hj => by
      rw [List.getD_eq_getElem?_getD, List.getElem?_append_right (by omega)]
      simp [List.getElem?_range', hj]
    have hid : ∀ i, i < ids.length → ∃ id, ids[i]? = some id ∧ ids.getD i 0 = id ∧ id < nx := fun i hi => by
      refine ⟨ids[i], List.getElem?_eq_getElem hi, by simp [List.getD_eq_getElem?_getD, List.getElem?_eq_getElem hi], hlt _ (List.getElem_mem hi)⟩
    refine ⟨?_, fun id bk hb => t2 _ (lkH_mem hb), ?_⟩
    · intro ρ w ev hev hrd hinj
      have hpre : g.c.Pre (V.sub g.τ g.υ) (fun i => ρ ((ids ++ List.range' nx g.c.news.length).getD i 0)) w := by
        constructor
        · intro i j hi hj hor he
          simp only at he
          rw [hθ i (by omega), hθ j (by omega)] at he
          obtain ⟨x, hx, hx', _⟩ := hid i (by omega)
          obtain ⟨y, hy, hy', _⟩ := hid j (by omega)
          rw [hx', hy'] at he
          have wrU : ∀ {k z : Nat}, ids[k]? = some z → isWr g.c.post k = true → lkH (upOld (gmB g ids nx) ids g.c.post ++ upNew (gmB g ids nx) nx g.c.news) z ≠ none := by
            intro k z hk hwr
            unfold isWr at hwr
            split at hwr
            · rename_i b hb; exact lkH_of_mem (x := (z, gmB g ids nx b)) (List.mem_append_left _ (upOld_mem hk hb))
            · cases hwr
          have hxy := hinj x y (t4 x (List.mem_of_getElem? hx)) (t4 y (List.mem_of_getElem? hy)) (hor.imp (wrU hx) (wrU hy)) he
          subst hxy
          exact nodup_get hnd hx hy
        · intro i bk hb
          have hi : i < ids.length := by rw [t1]; exact (List.getElem?_eq_some_iff.1 hb).1
          obtain ⟨x, hx, hx', _⟩ := hid i hi
          obtain ⟨k, hk, hd⟩ := t3 i x bk hx hb
          show bk.holds _ _ w.heap[(ρ _).1]?
          rw [hθ i hi, hx']
          exact (holds_gmB hE hO).1 (hd ρ _ (hrd x k hk))
      have hargs : dl V ρ args = dl (V.sub g.τ g.υ) (fun i => ρ ((ids ++ List.range' nx g.c.news.length).getD i 0)) g.c.args := by rw [mt_spec _ _ _ hm ho.1 ρ, den_gmR]
      refine growUpon_mono (fun v w' hp' => ?_) (hrun ρ _ w ev hev hargs hpre)
      obtain ⟨ρc, h1, h2, h3, h4, h5, h6, h7⟩ := hp'
      let ρ' : Nat → Nat × Nat := fun id => if nx ≤ id ∧ id < nx + g.c.news.length then ρc (g.c.pre.length + (id - nx)) else ρ id
      have hag : ∀ id, ¬ (nx ≤ id ∧ id < nx + g.c.news.length) → ρ' id = ρ id := fun id hid => if_neg hid
      have hnw : ∀ j, j < g.c.news.length → ρ' (nx + j) = ρc (g.c.pre.length + j) := fun j hj => by
        show (if _ then _ else _) = _
        rw [if_pos ⟨by omega, by omega⟩, show nx + j - nx = j by omega]
      have key : ∀ i, i < g.c.pre.length + g.c.news.length → ρ' ((ids ++ List.range' nx g.c.news.length).getD i 0) = ρc i := fun i hi => by
        rcases Nat.lt_or_ge i g.c.pre.length with hlt' | hge
        · obtain ⟨x, hx, hx', hxn⟩ := hid i (by omega)
          rw [h1 i hlt']
          show ρ' _ = ρ _
          rw [hθ i (by omega), hx', hag x (by omega)]
        · obtain ⟨j, rfl⟩ : ∃ j, i = g.c.pre.length + j := ⟨i - g.c.pre.length, by omega⟩
          have := hθn j (by omega)
          rw [t1] at this
          rw [this, hnw j (by omega)]
      refine ⟨ρ', hag, ?_, ?_, ?_, ?_, ?_⟩
      · intro id a b
        obtain ⟨j, rfl⟩ : ∃ j, id = nx + j := ⟨id - nx, by omega⟩
        simp only at b
        rw [hnw j (by omega)]
        rcases h2 j (by omega) with hge | ⟨g', hg, he⟩
        · exact .inl hge
        · have hil : g' < ids.length := Nat.lt_of_lt_of_le (List.getElem?_eq_some_iff.1 hg).1 hpl
          obtain ⟨x, hx, hx', hxn⟩ := hid g' hil
          refine .inr ⟨x, lkH_once hnd hx hg hxn, by omega, ?_⟩
          rw [he]
          show (ρ _).1 = _
          rw [hθ g' hil, hx']
      · intro i j a b c d he
        obtain ⟨i, rfl⟩ : ∃ k, i = nx + k := ⟨i - nx, by omega⟩
        obtain ⟨j, rfl⟩ : ∃ k, j = nx + k := ⟨j - nx, by omega⟩
        simp only at b d
        rw [hnw i (by omega), hnw j (by omega)] at he
        rw [h3 i j (by omega) (by omega) he]
      · intro _
        rw [h4]
        unfold den
        rw [den_gmR, dl_agree (ρ := ρc) (n := g.c.pre.length + g.c.news.length) key hrb]
      · intro id bk hb
        rcases lkH_app hb with hb | hb
        · obtain ⟨i, b, hi, hpi, rfl⟩ := mem_upOld hb
          simp only at hi ⊢
          have hil : i < ids.length := (List.getElem?_eq_some_iff.1 hi).1
          obtain ⟨x, hx, hx', hxn⟩ := hid i hil
          rw [hi] at hx; cases hx
          rw [holds_gmB hE hO, Bk.holds_agree (ρ := ρc) (n := g.c.pre.length + g.c.news.length) key (obd_get hpb hpi), hag id (by omega)]
          have := h5 i b hpi
          simp only at this
          rwa [hθ i hil, hx'] at this
        · obtain ⟨j, b, hj, hid', rfl⟩ := mem_upNew hb
          simp only at hid' ⊢
          subst hid'
          have hjl : j < g.c.news.length := (List.getElem?_eq_some_iff.1 hj).1
          rw [holds_gmB hE hO, Bk.holds_agree (ρ := ρc) (n := g.c.pre.length + g.c.news.length) key (hnb b (List.mem_of_getElem? hj)), hnw j hjl]
          exact h6 j b hj
      · refine h7.mono ?_
        rintro x _ ⟨i, bk, hi, rfl⟩
        have hil : i < ids.length := Nat.lt_of_lt_of_le (List.getElem?_eq_some_iff.1 hi).1 hpl
        obtain ⟨y, hy, hy', hyn⟩ := hid i hil
        refine ⟨y, lkH_of_mem (x := (y, gmB g ids nx bk)) (List.mem_append_left _ (upOld_mem hy hi)), by omega, ?_⟩
        show (ρ y).1 = (ρ _).1
        rw [hθ i hil, hy']
    · intro id hu hnew
      cases hb : lkH (upOld (gmB g ids nx) ids g.c.post ++ upNew (gmB g ids nx) nx g.c.news) id with
      | none => exact absurd hb hu
      | some bk =>
        rcases lkH_app hb with hb | hb
        · obtain ⟨i, b, hi, _, _⟩ := mem_upOld hb
          exact t4 id (List.mem_of_getElem? hi)
        · obtain ⟨j, b, hj, hid', _⟩ := mem_upNew hb
          have hjl : j < g.c.news.length := (List.getElem?_eq_some_iff.1 hj).1
          simp only at hid'
          exact absurd ⟨by omega, by simp only; omega⟩ hnew
end
end RX
end Go.Proofs.Ytbmokmkaebfneaa
