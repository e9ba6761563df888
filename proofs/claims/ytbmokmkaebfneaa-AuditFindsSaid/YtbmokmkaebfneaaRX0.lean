/- Values on paper: what a walk knows of values and blocks, as closed data; what they denote, under numbers for the blocks. -/
import Derived.StillTail
import Derived.Below
import Derived.KernelRfl
import Derived.WalkKit
import Derived.Deep.Draws
import Derived.Deep.MidRow
namespace Go.Proofs.Ytbmokmkaebfneaa
open Go.RowKit
namespace RX
set_option linter.unnecessarySimpa false
set_option linter.unusedVariables false
set_option linter.unusedSimpArgs false

/-- A value on paper. 'any': whatever; 'ev i j': part j of known thing i; ids stand for blocks. nil, cons: lists of values. -/
inductive SV where
  | any | nil | nilp | nilsl | nilmap | nilf
  | ev (i j : Nat)
  | lit (ik : IntKind) (n : Int)
  | bo (x : Bool)
  | str (x : ByteArray)
  | ptr (id : Nat) (bs : SV) (off : Nat)
  | sli (id : Nat) (bs : SV) (off : Nat) (len cap : SV)
  | mp (id : Nat)
  | rc (id : Nat)
  | fn (f : FuncId) (caps : SV)
  | cons (h t : SV)
  | agg (l : SV)
  | tup (l : SV)

/-- The known things: rows of cells, objects. -/
structure Env where
  E : List (List Value)
  O : List Obj := []

def natV : Value → Nat
  | .int _ n => n.toNat
  | _ => 0
def Env.at (V : Env) (i j : Nat) : Value := (V.E.getD i []).getD j undef

def dl (V : Env) (ρ : Nat → Nat × Nat) : SV → List Value
  | .any => [undef]
  | .nil => []
  | .nilp => [.pointer none]
  | .nilsl => [.slice none 0 0]
  | .nilmap => [.map none]
  | .nilf => [.nilFunc]
  | .ev i j => [V.at i j]
  | .lit ik n => [.int ik n]
  | .bo x => [.bool x]
  | .str x => [.string x]
  | .ptr id bs off => [.pointer (some ⟨(ρ id).1, natV ((dl V ρ bs).headD undef) + off, none⟩)]
  | .sli id bs off len cap => [.slice (some ⟨(ρ id).1, natV ((dl V ρ bs).headD undef) + off, none⟩) (natV ((dl V ρ len).headD undef)) (natV ((dl V ρ cap).headD undef))]
  | .mp id => [.map (some (ρ id).1)]
  | .rc id => [.int .i64 (ρ id).2]
  | .fn f caps => [.func (.func f) #[] (dl V ρ caps).toArray]
  | .cons h t => dl V ρ h ++ dl V ρ t
  | .agg l => [.agg (dl V ρ l).toArray]
  | .tup l => [.tuple (dl V ρ l).toArray]
def den (V : Env) (ρ : Nat → Nat × Nat) (x : SV) : Value := (dl V ρ x).headD undef

def SV.beq : SV → SV → Bool
  | .any, .any => true
  | .nil, .nil => true
  | .nilp, .nilp => true
  | .nilsl, .nilsl => true
  | .nilmap, .nilmap => true
  | .nilf, .nilf => true
  | .ev i j, .ev i' j' => Nat.beq i i' && Nat.beq j j'
  | .lit a n, .lit a' n' => decide (a = a') && decide (n = n')
  | .bo x, .bo y => x == y
  | .str x, .str y => decide (x = y)
  | .ptr i b o, .ptr i' b' o' => Nat.beq i i' && (Nat.beq o o' && b.beq b')
  | .sli i b o l c, .sli i' b' o' l' c' => Nat.beq i i' && (Nat.beq o o' && (b.beq b' && (l.beq l' && c.beq c')))
  | .mp i, .mp i' => Nat.beq i i'
  | .rc i, .rc i' => Nat.beq i i'
  | .fn f c, .fn f' c' => Nat.beq f f' && c.beq c'
  | .cons h t, .cons h' t' => h.beq h' && t.beq t'
  | .agg l, .agg l' => l.beq l'
  | .tup l, .tup l' => l.beq l'
  | _, _ => false
theorem SV.eq_of_beq : ∀ {x y : SV}, x.beq y = true → x = y := by
  intro x
  induction x <;> intro y <;> cases y <;> simp_all [SV.beq, Nat.beq_eq]
  all_goals (intros; (repeat' constructor) <;> (first | assumption | (apply_assumption; assumption) | skip))

/-- Does it name none of the blocks lo.. < hi ? -/
def SV.out (lo hi : Nat) : SV → Bool
  | .ptr id bs _ => (Nat.blt id lo || Nat.ble hi id) && bs.out lo hi
  | .sli id bs _ l c => (Nat.blt id lo || Nat.ble hi id) && (bs.out lo hi && (l.out lo hi && c.out lo hi))
  | .mp id => Nat.blt id lo || Nat.ble hi id
  | .rc id => Nat.blt id lo || Nat.ble hi id
  | .fn _ c => c.out lo hi
  | .cons h t => h.out lo hi && t.out lo hi
  | .agg l => l.out lo hi
  | .tup l => l.out lo hi
  | _ => true
/-- Does it name blocks below n only? -/
def SV.bd (n : Nat) : SV → Bool
  | .ptr id bs _ => Nat.blt id n && bs.bd n
  | .sli id bs _ l c => Nat.blt id n && (bs.bd n && (l.bd n && c.bd n))
  | .mp id => Nat.blt id n
  | .rc id => Nat.blt id n
  | .fn _ c => c.bd n
  | .cons h t => h.bd n && t.bd n
  | .agg l => l.bd n
  | .tup l => l.bd n
  | _ => true
theorem blt_iff {a b : Nat} : Nat.blt a b = true ↔ a < b := by simp [Nat.blt, Nat.ble_eq]; omega
theorem SV.out_of_bd {n hi : Nat} : ∀ {x : SV}, x.bd n = true → x.out n hi = true := by
  intro x
  induction x <;> simp_all [SV.bd, SV.out]
theorem SV.bd_mono {n n' : Nat} (h : n ≤ n') : ∀ {x : SV}, x.bd n = true → x.bd n' = true := by
  intro x
  induction x <;> simp_all [SV.bd, blt_iff]
  all_goals omega
theorem dl_out {V : Env} {ρ ρ' : Nat → Nat × Nat} {lo hi : Nat} (h : ∀ id, ¬ (lo ≤ id ∧ id < hi) → ρ' id = ρ id) : ∀ {x : SV}, x.out lo hi = true → dl V ρ' x = dl V ρ x := by
  intro x
  induction x <;> simp_all [SV.out, dl, blt_iff]
  all_goals (intros; first | (refine congrArg Prod.fst (h _ ?_); omega) | (refine congrArg (fun x : Nat × Nat => (x.2 : Int)) (h _ ?_); omega))
theorem den_out {V : Env} {ρ ρ' : Nat → Nat × Nat} {lo hi : Nat} (h : ∀ id, ¬ (lo ≤ id ∧ id < hi) → ρ' id = ρ id) {x : SV} (hx : x.out lo hi = true) : den V ρ' x = den V ρ x := by
  unfold den; rw [dl_out h hx]

/-- Blocks renamed. -/
def SV.rnI (θ : List Nat) : SV → SV
  | .ptr id bs off => .ptr (θ.getD id 0) (bs.rnI θ) off
  | .sli id bs off l c => .sli (θ.getD id 0) (bs.rnI θ) off (l.rnI θ) (c.rnI θ)
  | .mp id => .mp (θ.getD id 0)
  | .rc id => .rc (θ.getD id 0)
  | .fn f c => .fn f (c.rnI θ)
  | .cons h t => .cons (h.rnI θ) (t.rnI θ)
  | .agg l => .agg (l.rnI θ)
  | .tup l => .tup (l.rnI θ)
  | x => x
theorem dl_rnI {V : Env} {ρ : Nat → Nat × Nat} {θ : List Nat} : ∀ {x : SV}, dl V ρ (x.rnI θ) = dl V (fun i => ρ (θ.getD i 0)) x := by
  intro x
  induction x <;> simp_all [SV.rnI, dl]
/-- Things renamed. -/
def SV.rnE (τ : List Nat) : SV → SV
  | .ev i j => match τ[i]? with | some i' => .ev i' j | none => .any
  | .ptr id bs off => .ptr id (bs.rnE τ) off
  | .sli id bs off l c => .sli id (bs.rnE τ) off (l.rnE τ) (c.rnE τ)
  | .fn f c => .fn f (c.rnE τ)
  | .cons h t => .cons (h.rnE τ) (t.rnE τ)
  | .agg l => .agg (l.rnE τ)
  | .tup l => .tup (l.rnE τ)
  | x => x
def noObj : Obj := .cells #[] 0 (0, 0)
def Env.sub (V : Env) (τ υ : List Nat) : Env := ⟨τ.map fun i => V.E.getD i [], υ.map fun i => V.O.getD i noObj⟩
theorem at_sub (V : Env) (τ υ : List Nat) (i j : Nat) : (V.sub τ υ).at i j = match τ[i]? with | some i' => V.at i' j | none => undef := by
  unfold Env.at Env.sub
  simp only [List.getD_eq_getElem?_getD, List.getElem?_map]
  cases τ[i]? <;> simp
theorem dl_rnE {V : Env} {ρ : Nat → Nat × Nat} {τ υ : List Nat} : ∀ {x : SV}, dl V ρ (x.rnE τ) = dl (V.sub τ υ) ρ x := by
  intro x
  induction x <;> simp_all [SV.rnE, dl]
  rw [at_sub]
  split <;> simp [dl]

/-- Spare room: m cells, zeros over and over. -/
def spare (z : List Value) (m : Nat) : List Value := (List.range m).map fun i => z.getD (i % z.length) undef
/-- Blocks on paper. own: a list's cells (thing i) and spare room, as much as ρ c tells (z: an element's zero); view: it begins with thing i; gone: nothing is known any more. -/
inductive Bk where
  | cs (ty : TypeId) (l : SV)
  | row (ty : TypeId) (i : Nat)
  | ob (i : Nat)
  | own (ty : TypeId) (i c : Nat) (z : SV)
  | view (i : Nat)
  | gone
def Bk.live : Bk → Bool
  | .gone => false
  | _ => true
def Bk.den (V : Env) (ρ : Nat → Nat × Nat) : Bk → Obj
  | .cs ty l => .cells (dl V ρ l).toArray ty (0, 0)
  | .row ty i => .cells (V.E.getD i []).toArray ty (0, 0)
  | .ob i => V.O.getD i noObj
  | .own ty i c z => .cells (V.E.getD i [] ++ spare (dl V ρ z) ((ρ c).2 * (dl V ρ z).length - (V.E.getD i []).length)).toArray ty (0, 0)
  | _ => noObj
def Bk.out (lo hi : Nat) : Bk → Bool
  | .cs _ l => l.out lo hi
  | .own _ _ c z => (Nat.blt c lo || Nat.ble hi c) && z.out lo hi
  | _ => true
def Bk.bd (n : Nat) : Bk → Bool
  | .cs _ l => l.bd n
  | .own _ _ c z => Nat.blt c n && z.bd n
  | _ => true
theorem Bk.out_of_bd {n hi : Nat} {x : Bk} (h : x.bd n = true) : x.out n hi = true := by
  cases x <;> simp_all [Bk.bd, Bk.out]
  · exact SV.out_of_bd h
  · exact SV.out_of_bd h.2
theorem Bk.bd_mono {n n' : Nat} (hn : n ≤ n') {x : Bk} (h : x.bd n = true) : x.bd n' = true := by
  cases x <;> simp_all [Bk.bd, blt_iff]
  · exact SV.bd_mono hn h
  · exact ⟨by omega, SV.bd_mono hn h.2⟩
theorem Bk.den_out {V : Env} {ρ ρ' : Nat → Nat × Nat} {lo hi : Nat} (h : ∀ id, ¬ (lo ≤ id ∧ id < hi) → ρ' id = ρ id) {x : Bk} (hx : x.out lo hi = true) : x.den V ρ' = x.den V ρ := by
  cases x with
  | cs ty l => show Obj.cells _ _ _ = _; rw [dl_out h hx]; rfl
  | own ty i c z =>
    simp only [Bk.out, Bool.and_eq_true, Bool.or_eq_true, blt_iff, Nat.ble_eq] at hx
    show Obj.cells _ _ _ = _
    rw [dl_out h hx.2, h c (by omega)]; rfl
  | _ => rfl
def Bk.rnI (θ : List Nat) : Bk → Bk
  | .cs ty l => .cs ty (l.rnI θ)
  | .own ty i c z => .own ty i (θ.getD c 0) (z.rnI θ)
  | x => x
def Bk.rnE (τ υ : List Nat) : Bk → Bk
  | .cs ty l => .cs ty (l.rnE τ)
  | .row ty i => .row ty (τ.getD i 1000000)
  | .ob i => .ob (υ.getD i 1000000)
  | .own ty i c z => .own ty (τ.getD i 1000000) c (z.rnE τ)
  | .view i => .view (τ.getD i 1000000)
  | .gone => .gone
theorem Bk.den_rnI {V : Env} {ρ : Nat → Nat × Nat} {θ : List Nat} {x : Bk} : (x.rnI θ).den V ρ = x.den V (fun i => ρ (θ.getD i 0)) := by
  cases x <;> simp [Bk.rnI, Bk.den, dl_rnI]
/-- What is said of a block. -/
def Bk.holds (V : Env) (ρ : Nat → Nat × Nat) (o : Option Obj) : Bk → Prop
  | .view i => ∃ (rest : List Value) (ty : TypeId) (z : Nat × Nat), o = some (.cells (V.E.getD i [] ++ rest).toArray ty z)
  | .gone => True
  | b => o = some (b.den V ρ)
theorem Bk.holds_out {V : Env} {ρ ρ' : Nat → Nat × Nat} {lo hi : Nat} (h : ∀ id, ¬ (lo ≤ id ∧ id < hi) → ρ' id = ρ id) {x : Bk} {o : Option Obj} (hx : x.out lo hi = true) (ho : x.holds V ρ o) : x.holds V ρ' o := by
  cases x with
  | view i => exact ho
  | gone => trivial
  | cs ty l => exact ho.trans (congrArg some (Bk.den_out h hx).symm)
  | row ty i => exact ho.trans (congrArg some (Bk.den_out h hx).symm)
  | ob i => exact ho.trans (congrArg some (Bk.den_out h hx).symm)
  | own ty i c z => exact ho.trans (congrArg some (Bk.den_out h hx).symm)
theorem Bk.holds_rnI {V : Env} {ρ : Nat → Nat × Nat} {θ : List Nat} {x : Bk} {o : Option Obj} : (x.rnI θ).holds V ρ o ↔ x.holds V (fun i => ρ (θ.getD i 0)) o := by
  cases x with
  | view i => exact Iff.rfl
  | gone => exact Iff.rfl
  | cs ty l => exact Eq.to_iff (congrArg (o = some ·) (Bk.den_rnI (x := .cs ty l)))
  | row ty i => exact Iff.rfl
  | ob i => exact Iff.rfl
  | own ty i c z => exact Eq.to_iff (congrArg (o = some ·) (Bk.den_rnI (x := .own ty i c z)))
theorem Bk.live_rnI {θ : List Nat} {x : Bk} : (x.rnI θ).live = x.live := by cases x <;> rfl
theorem Bk.live_rnE {τ υ : List Nat} {x : Bk} : (x.rnE τ υ).live = x.live := by cases x <;> rfl
end RX
end Go.Proofs.Ytbmokmkaebfneaa
