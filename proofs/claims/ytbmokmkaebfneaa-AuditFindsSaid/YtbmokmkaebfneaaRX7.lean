/- Calls by contracts. -/
import Derived.Test.YtbmokmkaebfneaaRX6
namespace Go.Proofs.Ytbmokmkaebfneaa
open Go.RowKit
namespace RX
set_option linter.unnecessarySimpa false
set_option linter.unusedVariables false
set_option linter.unusedSimpArgs false

/-- A contract on paper: the arguments; the blocks it is told of (0 .. ), as they are ahead (pre) and behind (post: none: as they were); the blocks it makes (numbered on); the result. -/
structure Ct where
  args : SV
  pre : List Bk := []
  post : List (Option Bk) := []
  news : List Bk := []
  res : SV
def Ct.Post (V : Env) (c : Ct) (ρ : Nat → Nat × Nat) (w : World) (v : Value) (w' : World) : Prop :=
  ∃ ρ' : Nat → Nat × Nat, (∀ i, i < c.pre.length → ρ' i = ρ i) ∧ (∀ j, j < c.news.length → w.heap.size ≤ (ρ' (c.pre.length + j)).1 ∨ ∃ g, c.post[g]? = some (some .gone) ∧ (ρ' (c.pre.length + j)).1 = (ρ g).1) ∧
    (∀ i j, i < c.news.length → j < c.news.length → (ρ' (c.pre.length + i)).1 = (ρ' (c.pre.length + j)).1 → i = j) ∧ v = den V ρ' c.res ∧
    (∀ (i : Nat) (bk : Bk), c.post[i]? = some (some bk) → bk.holds V ρ' w'.heap[(ρ i).1]?) ∧ (∀ (j : Nat) (bk : Bk), c.news[j]? = some bk → bk.holds V ρ' w'.heap[(ρ' (c.pre.length + j)).1]?) ∧
    Fr w w' (fun b => ∃ i bk, c.post[i]? = some (some bk) ∧ (ρ i).1 = b)
/-- Is block i written? -/
def isWr (post : List (Option Bk)) (i : Nat) : Bool := match post[i]? with
  | some (some _) => true
  | _ => false
/-- The blocks that it is told of lie there (those that are written: each apart). -/
def Ct.Pre (V : Env) (c : Ct) (ρ : Nat → Nat × Nat) (w : World) : Prop :=
  (∀ i j, i < c.pre.length → j < c.pre.length → (isWr c.post i = true ∨ isWr c.post j = true) → (ρ i).1 = (ρ j).1 → i = j) ∧ ∀ (i : Nat) (bk : Bk), c.pre[i]? = some bk → bk.holds V ρ w.heap[(ρ i).1]?
def Ct.Valid (P : Program) (f : FuncId) (c : Ct) (V : Env) : Prop := ∀ ρ w, c.Pre V ρ w → growUpon P (c.Post V ρ w) ((callFunc f (dl V ρ c.args).toArray).run P w)
/-- The kind of an operation whose contract is given besides. -/
def tagOf (o : Oper) : Option (List Nat) :=
  match o.op with
  | .makeSlice t _ _ => some [1, t]
  | .makeMap t none => some [2, t]
  | .makeMap t (some _) => some [3, t]
  | .lookup t _ _ k => some [4, t, cond k 1 0]
  | .mapUpdate t _ _ _ => some [5, t]
  | .insert t _ _ _ => some [6, t]
  | .mapEntry t _ _ => some [7, t]
  | .entryStore t _ _ _ => some [8, t]
  | .range t _ => some [9, t]
  | .next _ k => some [10, cond k 1 0, o.type]
  | .buildSlice t n _ => some [11, t, n]
  | .convert s d _ => some [12, s, d]
  | .slice t _ l h m => some [13, t, cond l.isSome 1 0, cond h.isSome 1 0, cond m.isSome 1 0]
  | .load t _ => some [14, t]
  | .store t _ _ => some [15, t]
  | .indexAddr t _ _ => some [16, t]
  | .binOp .eql t _ _ _ => some [17, t]
  | .binOp .neq t _ _ _ => some [18, t]
  | .call { callee := .builtin .append, args := _, argTypes := ts } => some (19 :: o.type :: ts.toList)
  | .call { callee := .builtin .copy, args := _, argTypes := ts } => some (20 :: o.type :: ts.toList)
  | .call { callee := .builtin .delete, args := _, argTypes := ts } => some (21 :: o.type :: ts.toList)
  | .call { callee := .builtin .len, args := _, argTypes := ts } => some (22 :: o.type :: ts.toList)
  | _ => none
def Ct.ValidOp (P : Program) (g : List Nat) (c : Ct) (V : Env) : Prop := ∀ ρ w (o : Oper) (ev : Operand → Value), tagOf o = some g → o.op.operands.toList.map ev = dl V ρ c.args → c.Pre V ρ w → growUpon P (c.Post V ρ w) ((execOp ev o).run P w)

inductive Tg where
  | fn (f : FuncId)
  | op (g : List Nat)
/-- A contract as it is used: whose, with which of the known things. -/
structure Gm where
  tg : Tg
  c : Ct
  τ : List Nat
  υ : List Nat := []
def Gm.ok (P : Program) (V : Env) (g : Gm) : Prop := match g.tg with
  | .fn f => g.c.Valid P f (V.sub g.τ g.υ)
  | .op t => g.c.ValidOp P t (V.sub g.τ g.υ)
def allG (P : Program) (V : Env) : List Gm → Prop
  | [] => True
  | g :: r => g.ok P V ∧ allG P V r
theorem allG_get {P : Program} {V : Env} : ∀ {l : List Gm} {k : Nat} {g : Gm}, allG P V l → l[k]? = some g → g.ok P V
  | g :: r, 0, _, h, hk => by cases hk; exact h.1
  | g :: r, k + 1, _, h, hk => allG_get h.2 (by simpa using hk)

/-! Two values on paper that denote the same, up to what is owed. -/
def SV.scalar : SV → Bool
  | .ev _ _ => true
  | .lit _ _ => true
  | .bo _ => true
  | .str _ => true
  | _ => false
def mt : SV → SV → Option (List Obl)
  | .cons h t, .cons h' t' => match mt h h', mt t t' with
    | some a, some b => some (a ++ b)
    | _, _ => none
  | .agg l, .agg l' => mt l l'
  | .tup l, .tup l' => mt l l'
  | .fn f c, .fn f' c' => cond (Nat.beq f f') (mt c c') none
  | .ptr i b o, .ptr i' b' o' => cond (Nat.beq i i' && Nat.beq o o') (mt b b') none
  | .sli i b o l c, .sli i' b' o' l' c' => cond (Nat.beq i i' && Nat.beq o o') (match mt b b', mt l l', mt c c' with
    | some x, some y, some z => some (x ++ (y ++ z))
    | _, _, _ => none) none
  | a, b => cond (a.beq b) (some []) (cond (a.scalar && b.scalar) (some [.eq a b]) none)
theorem mt_rest {P : Program} {V : Env} {a b : SV} {os : List Obl} (h : cond (a.beq b) (some []) (cond (a.scalar && b.scalar) (some [.eq a b]) none) = some os) (ho : allO P V os) (ρ : Nat → Nat × Nat) : dl V ρ a = dl V ρ b := by
  cases hq : a.beq b with
  | true => rw [SV.eq_of_beq hq]
  | false =>
    rw [hq] at h
    simp only [cond_false] at h
    cases hs : (a.scalar && b.scalar) with
    | false => rw [hs] at h; cases h
    | true => rw [hs] at h; cases h; exact ho.1 ρ
theorem mt_spec {P : Program} {V : Env} : ∀ (a b : SV) (os : List Obl), mt a b = some os → allO P V os → ∀ ρ, dl V ρ a = dl V ρ b := by
  intro a
  induction a with
  | cons h t ih1 ih2 =>
    intro b os hm ho ρ
    cases b with
    | cons h' t' =>
      simp only [mt] at hm
      split at hm
      · rename_i x y hx hy
        cases hm
        rw [allO_app] at ho
        simp only [dl, ih1 _ _ hx ho.1 ρ, ih2 _ _ hy ho.2 ρ]
      · cases hm
    | _ => exact mt_rest hm ho ρ
  | agg l ih =>
    intro b os hm ho ρ
    cases b with
    | agg l' => simp only [dl, ih _ _ (by simpa only [mt] using hm) ho ρ]
    | _ => exact mt_rest hm ho ρ
  | tup l ih =>
    intro b os hm ho ρ
    cases b with
    | tup l' => simp only [dl, ih _ _ (by simpa only [mt] using hm) ho ρ]
    | _ => exact mt_rest hm ho ρ
  | fn f c ih =>
    intro b os hm ho ρ
    cases b with
    | fn f' c' =>
      simp only [mt] at hm
      cases hq : Nat.beq f f' with
      | false => rw [hq] at hm; cases hm
      | true =>
        rw [hq] at hm
        rw [Nat.eq_of_beq_eq_true hq]
        simp only [dl, ih _ _ hm ho ρ]
    | _ => exact mt_rest hm ho ρ
  | ptr i bs o ih =>
    intro b os hm ho ρ
    cases b with
    | ptr i' bs' o' =>
      simp only [mt] at hm
      cases hq : (Nat.beq i i' && Nat.beq o o') with
      | false => rw [hq] at hm; cases hm
      | true =>
        rw [hq] at hm
        simp only [Bool.and_eq_true] at hq
        rw [Nat.eq_of_beq_eq_true hq.1, Nat.eq_of_beq_eq_true hq.2]
        simp only [dl, ih _ _ hm ho ρ]
    | _ => exact mt_rest hm ho ρ
  | sli i bs o l c ih1 ih2 ih3 =>
    intro b os hm ho ρ
    cases b with
    | sli i' bs' o' l' c' =>
      simp only [mt] at hm
      cases hq : (Nat.beq i i' && Nat.beq o o') with
      | false => rw [hq] at hm; cases hm
      | true =>
        rw [hq] at hm
        simp only [Bool.and_eq_true] at hq
        rw [Nat.eq_of_beq_eq_true hq.1, Nat.eq_of_beq_eq_true hq.2]
        simp only [cond_true] at hm
        split at hm
        · rename_i x y z hx hy hz
          cases hm
          rw [allO_app, allO_app] at ho
          simp only [dl, ih1 _ _ hx ho.1 ρ, ih2 _ _ hy ho.2.1 ρ, ih3 _ _ hz ho.2.2 ρ]
        · cases hm
    | _ => exact mt_rest hm ho ρ
  | _ =>
    intro b os hm ho ρ
    exact mt_rest (by cases b <;> exact hm) ho ρ
/-- What is known of a block tells what is asked of it. -/
def mtB : Bk → Bk → Option (List Obl)
  | .cs t l, .cs t' l' => cond (Nat.beq t t') (mt l l') none
  | .row t i, .row t' i' => cond (Nat.beq t t' && Nat.beq i i') (some []) none
  | .cs t l, .row t' i' => cond (Nat.beq t t') (some [.row i' l]) none
  | .row t i, .cs t' l' => cond (Nat.beq t t') (some [.row i l']) none
  | .ob i, .ob i' => cond (Nat.beq i i') (some []) none
  | .own t i c z, .own t' i' c' z' => cond (Nat.beq t t' && (Nat.beq i i' && (Nat.beq c c' && z.beq z'))) (some []) none
  | .view i, .view i' => cond (Nat.beq i i') (some []) none
  | .row t i, .view i' => cond (Nat.beq i i') (some []) none
  | .own t i c z, .view i' => cond (Nat.beq i i') (some []) none
  | .cs t l, .view i' => some [.row i' l]
  | .gone, .gone => some []
  | _, _ => none
theorem view_of {V : Env} {ρ : Nat → Nat × Nat} {t i : Nat} {o : Option Obj} (h : o = some (.cells (V.E.getD i []).toArray t (0, 0))) : (Bk.view i).holds V ρ o := ⟨[], t, (0, 0), by rw [List.append_nil]; exact h⟩
theorem mtB_spec {P : Program} {V : Env} {a b : Bk} {os : List Obl} (h : mtB a b = some os) (ho : allO P V os) (ρ : Nat → Nat × Nat) {o : Option Obj} (hb : a.holds V ρ o) : b.holds V ρ o := by
  unfold mtB at h
  split at h
  · rename_i t l t' l'
    cases hq : Nat.beq t t' with
    | false => rw [hq] at h; cases h
    | true =>
      rw [hq] at h
      have e := Nat.eq_of_beq_eq_true hq
      subst e
      have hb : o = some (.cells (dl V ρ l).toArray t (0, 0)) := hb
      rw [mt_spec _ _ _ h ho ρ] at hb
      exact hb
  · rename_i t i t' i'
    cases hq : (Nat.beq t t' && Nat.beq i i') with
    | false => rw [hq] at h; cases h
    | true =>
      simp only [Bool.and_eq_true] at hq
      rw [← Nat.eq_of_beq_eq_true hq.1, ← Nat.eq_of_beq_eq_true hq.2]; exact hb
  · rename_i t l t' i'
    cases hq : Nat.beq t t' with
    | false => rw [hq] at h; cases h
    | true =>
      rw [hq] at h; cases h
      have e := Nat.eq_of_beq_eq_true hq
      subst e
      have hb : o = some (.cells (dl V ρ l).toArray t (0, 0)) := hb
      rw [← ho.1 ρ] at hb
      exact hb
  · rename_i t i t' l'
    cases hq : Nat.beq t t' with
    | false => rw [hq] at h; cases h
    | true =>
      rw [hq] at h; cases h
      have e := Nat.eq_of_beq_eq_true hq
      subst e
      have hb : o = some (.cells (V.E.getD i []).toArray t (0, 0)) := hb
      rw [ho.1 ρ] at hb
      exact hb
  · rename_i i i'
    cases hq : Nat.beq i i' with
    | false => rw [hq] at h; cases h
    | true => rw [← Nat.eq_of_beq_eq_true hq]; exact hb
  · rename_i t i c z t' i' c' z'
    cases hq : (Nat.beq t t' && (Nat.beq i i' && (Nat.beq c c' && z.beq z'))) with
    | false => rw [hq] at h; cases h
    | true =>
      simp only [Bool.and_eq_true] at hq
      rw [← Nat.eq_of_beq_eq_true hq.1, ← Nat.eq_of_beq_eq_true hq.2.1, ← Nat.eq_of_beq_eq_true hq.2.2.1, ← SV.eq_of_beq hq.2.2.2]; exact hb
  · rename_i i i'
    cases hq : Nat.beq i i' with
    | false => rw [hq] at h; cases h
    | true => rw [← Nat.eq_of_beq_eq_true hq]; exact hb
  · rename_i t i i'
    cases hq : Nat.beq i i' with
    | false => rw [hq] at h; cases h
    | true => rw [← Nat.eq_of_beq_eq_true hq]; exact view_of hb
  · rename_i t i c z i'
    cases hq : Nat.beq i i' with
    | false => rw [hq] at h; cases h
    | true => rw [← Nat.eq_of_beq_eq_true hq]; exact ⟨_, _, _, hb⟩
  · rename_i t l i'
    cases h
    have hb : o = some (.cells (dl V ρ l).toArray t (0, 0)) := hb
    rw [← ho.1 ρ] at hb
    exact view_of hb
  · trivial
  · cases h
theorem mtB_live {a b : Bk} {os : List Obl} (h : mtB a b = some os) : a.live = b.live := by
  unfold mtB at h
  split at h <;> first | rfl | cases h

theorem dl_agree {V : Env} {ρ ρ' : Nat → Nat × Nat} {n : Nat} (h : ∀ id, id < n → ρ' id = ρ id) : ∀ {x : SV}, x.bd n = true → dl V ρ' x = dl V ρ x := by
  intro x
  induction x <;> simp_all [SV.bd, dl, blt_iff]
theorem Bk.holds_agree {V : Env} {ρ ρ' : Nat → Nat × Nat} {n : Nat} (h : ∀ id, id < n → ρ' id = ρ id) {x : Bk} (hx : x.bd n = true) {o : Option Obj} : x.holds V ρ' o ↔ x.holds V ρ o := by
  cases x with
  | view i => exact Iff.rfl
  | gone => exact Iff.rfl
  | row ty i => exact Iff.rfl
  | ob i => exact Iff.rfl
  | cs ty l =>
    show o = some (.cells (dl V ρ' l).toArray ty (0, 0)) ↔ o = some (.cells (dl V ρ l).toArray ty (0, 0))
    rw [dl_agree h hx]
  | own ty i c z =>
    simp only [Bk.bd, Bool.and_eq_true, blt_iff] at hx
    show o = some (.cells (_ ++ spare (dl V ρ' z) ((ρ' c).2 * (dl V ρ' z).length - _)).toArray ty (0, 0)) ↔ o = some (.cells (_ ++ spare (dl V ρ z) ((ρ c).2 * (dl V ρ z).length - _)).toArray ty (0, 0))
    rw [dl_agree h hx.2, h c hx.1]
theorem getD_none {α : Type} (l : List α) (n : Nat) (d : α) (h : l.length ≤ n) : l.getD n d = d := by simp [List.getD_eq_getElem?_getD, List.getElem?_eq_none h]
theorem row_rnE {V : Env} {τ υ : List Nat} (hE : V.E.length ≤ 1000000) (i : Nat) : V.E.getD (τ.getD i 1000000) [] = (V.sub τ υ).E.getD i [] := by
  simp only [Env.sub, List.getD_eq_getElem?_getD, List.getElem?_map]
  cases hq : τ[i]? with
  | none => simp [List.getElem?_eq_none hE]
  | some j => simp
theorem Bk.holds_rnE {V : Env} {ρ : Nat → Nat × Nat} {τ υ : List Nat} {x : Bk} {o : Option Obj} (hE : V.E.length ≤ 1000000) (hO : V.O.length ≤ 1000000) : (x.rnE τ υ).holds V ρ o ↔ x.holds (V.sub τ υ) ρ o := by
  cases x with
  | cs ty l => show o = some (.cells (dl V ρ (l.rnE τ)).toArray ty (0, 0)) ↔ o = some (.cells (dl (V.sub τ υ) ρ l).toArray ty (0, 0)); rw [dl_rnE (υ := υ)]
  | row ty i => show o = some (.cells (V.E.getD (τ.getD i 1000000) []).toArray ty (0, 0)) ↔ o = some (.cells ((V.sub τ υ).E.getD i []).toArray ty (0, 0)); rw [row_rnE (υ := υ) hE]
  | view i => show (∃ (rest : List Value) (ty : TypeId) (z : Nat × Nat), o = some (.cells (V.E.getD (τ.getD i 1000000) [] ++ rest).toArray ty z)) ↔ (∃ (rest : List Value) (ty : TypeId) (z : Nat × Nat), o = some (.cells ((V.sub τ υ).E.getD i [] ++ rest).toArray ty z)); rw [row_rnE (υ := υ) hE]
  | own ty i c z =>
    show o = some (.cells (V.E.getD (τ.getD i 1000000) [] ++ spare (dl V ρ (z.rnE τ)) ((ρ c).2 * (dl V ρ (z.rnE τ)).length - (V.E.getD (τ.getD i 1000000) []).length)).toArray ty (0, 0)) ↔ o = some (.cells ((V.sub τ υ).E.getD i [] ++ spare (dl (V.sub τ υ) ρ z) ((ρ c).2 * (dl (V.sub τ υ) ρ z).length - ((V.sub τ υ).E.getD i []).length)).toArray ty (0, 0))
    rw [row_rnE (υ := υ) hE, dl_rnE (υ := υ)]
  | gone => exact Iff.rfl
  | ob i =>
    show o = some (V.O.getD (υ.getD i 1000000) noObj) ↔ o = some ((V.sub τ υ).O.getD i noObj)
    simp only [Env.sub, List.getD_eq_getElem?_getD, List.getElem?_map]
    cases hq : υ[i]? with
    | none => simp [List.getElem?_eq_none hO]
    | some j => simp
end RX
end Go.Proofs.Ytbmokmkaebfneaa
