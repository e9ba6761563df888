/- Contracts on paper and those of calls. -/
import Derived.Test.YtbmokmkaebfneaaRXG
namespace Go.Proofs.Ytbmokmkaebfneaa
open Go.RowKit
namespace RX
set_option linter.unnecessarySimpa false
set_option linter.unusedVariables false
set_option linter.unusedSimpArgs false
def bodyOf (fn : Func) : Code := fn.body.getD .skip
/-- A function of the program. -/
structure FnIs (P : Program) (f : FuncId) (fn : Func) : Prop where
  at_ : P.funcs[f]? = some fn
  name : (fn.name == "runtime.NumGoroutine") = false
  body : fn.body = some (bodyOf fn)
  mixed : P.follows .mixedOrders = true
theorem vok_nil {O : List Obj} : VOK ⟨[], O⟩ [] := fun i j h => by simp at h
theorem vok_cons {l : List Value} {E : List (List Value)} {O : List Obj} {n : Nat} {ls : List Nat} (h : ∀ j, j < n → (l.getD j undef).oneCell' = true) (hv : VOK ⟨E, O⟩ ls) : VOK ⟨l :: E, O⟩ (n :: ls) := fun i j hj => by
  cases i with
  | zero => exact h j (by simpa using hj)
  | succ i => exact hv i j (by simpa using hj)
theorem one_int (k : IntKind) (n : Int) : ∀ j, j < 1 → ([Value.int k n].getD j undef).oneCell' = true := fun j hj => by
  match j, hj with
  | 0, _ => rfl
theorem one_bool (b : Bool) : ∀ j, j < 1 → ([Value.bool b].getD j undef).oneCell' = true := fun j hj => by
  match j, hj with
  | 0, _ => rfl
theorem one_str (b : ByteArray) : ∀ j, j < 1 → ([Value.string b].getD j undef).oneCell' = true := fun j hj => by
  match j, hj with
  | 0, _ => rfl
theorem one_none (l : List Value) : ∀ j, j < 0 → (l.getD j undef).oneCell' = true := fun j hj => by omega
theorem one_four (k : IntKind) (a b c d : Int) : ∀ j, j < 4 → ([Value.int k a, .int k b, .int k c, .int k d].getD j undef).oneCell' = true := fun j hj => by
  match j, hj with
  | 0, _ => rfl
  | 1, _ => rfl
  | 2, _ => rfl
  | 3, _ => rfl
theorem one_all {l : List Value} (h : ∀ v ∈ l, v.oneCell' = true) : ∀ j, j < l.length → (l.getD j undef).oneCell' = true := fun j hj => by
  rw [List.getD_eq_getElem?_getD, List.getElem?_eq_getElem hj]; exact h _ (List.getElem_mem hj)

section
variable {P : Program} {f : FuncId} {fn : Func} {V : Env} {args res : SV} {vs : Array Value} {v : Value}
theorem Ct.ofPlain (F : FnIs P f fn) (ha : ∀ ρ, dl V ρ args = vs.toList) (hr : ∀ ρ, den V ρ res = v) (h : ∀ w, Calls P f vs w fun e w' => e = .returned v ∧ Below w.heap.size w w') : Ct.Valid P f ⟨args, [], [], [], res⟩ V := by
  intro ρ w _
  rw [callFunc_enter F.at_ F.name F.body]
  show Calls P f (dl V ρ args).toArray w _
  rw [ha ρ, Array.toArray_toList]
  refine (h w).mono ?_
  rintro e w' ⟨rfl, hb⟩
  exact ⟨v, rfl, ρ, fun _ _ => rfl, fun j hj => by simp at hj, fun i j hi => by simp at hi, (hr ρ).symm, fun i bk hb => by simp at hb, fun j bk hb => by simp at hb, Fr.of_below hb _⟩
theorem Ct.Valid.calls (hv : Ct.Valid P f ⟨args, [], [], [], res⟩ V) (F : FnIs P f fn) (ha : ∀ ρ, dl V ρ args = vs.toList) (hr : ∀ ρ, den V ρ res = v) (w : World) : Calls P f vs w fun e w' => e = .returned v ∧ Below w.heap.size w w' := by
  have h := hv (fun _ => (0, 0)) w ⟨fun i j hi => by simp at hi, fun i bk hb => by simp at hb⟩
  rw [callFunc_enter F.at_ F.name F.body] at h
  replace h : Calls P f (dl V _ args).toArray w _ := h
  rw [ha, Array.toArray_toList] at h
  refine h.mono ?_
  rintro e w' ⟨u, rfl, ρ', _, _, _, hu, _, _, hfr⟩
  refine ⟨by rw [hu]; exact congrArg Ending.returned (hr ρ'), hfr.below fun b => ?_⟩
  rintro ⟨i, bk, hi, _⟩
  simp at hi
end

/-! The pieces of a way's proof. -/
/-- Parts j .. of thing i, ahead of a list. -/
def evs (i : Nat) : Nat → Nat → SV → SV
  | _, 0, r => r
  | j, n + 1, r => .cons (.ev i j) (evs i (j + 1) n r)
theorem gnil {P : Program} {V : Env} : allG P V [] := trivial
theorem gfn {P : Program} {V : Env} {f : FuncId} {c : Ct} {τ υ : List Nat} {r : List Gm} (h : c.Valid P f (V.sub τ υ)) (hr : allG P V r) : allG P V (⟨.fn f, c, τ, υ⟩ :: r) := ⟨h, hr⟩
theorem gop {P : Program} {V : Env} {g : List Nat} {c : Ct} {τ υ : List Nat} {r : List Gm} (h : c.ValidOp P g (V.sub τ υ)) (hr : allG P V r) : allG P V (⟨.op g, c, τ, υ⟩ :: r) := ⟨h, hr⟩
theorem onil {P : Program} {V : Env} : allO P V [] := trivial
theorem ocons {P : Program} {V : Env} {o : Obl} {r : List Obl} (h : o.holds P V) (hr : allO P V r) : allO P V (o :: r) := ⟨h, hr⟩
theorem cnil {P : Program} {N : Nat} {V : Env} {S : List Sm} : allC P N V S [] := trivial
theorem ccons {P : Program} {N : Nat} {V : Env} {S : List Sm} {c : Code} {k : Nat} {r : List (Code × Nat)} (m : Sm) (hk : S[k]? = some m) (h : m.g.Valid P N c (V.sub m.τ m.υ) (V.sub m.τ' m.υ')) (hr : allC P N V S r) : allC P N V S ((c, k) :: r) :=
  ⟨fun m' hm => by rw [hk] at hm; cases hm; exact h, hr⟩
theorem wayOK {P : Program} {f : FuncId} {fn : Func} (F : FnIs P f fn) {E : List (List Value)} {O : List Obj} {lens : List Nat} (hV : VOK ⟨E, O⟩ lens) (hE : E.length ≤ 1000000) (hO : O.length ≤ 1000000) {Γ : List Gm} {S : List Sm} {c : Ct} {τ υ : List Nat} {fuel : Nat} {hs : List Hint} {outs : List Nat} {os : List Obl} {cs : List (Code × Nat)}
    (h : ctCheck P Γ S lens fn (bodyOf fn) c τ υ fuel hs outs = some (os, cs)) (hΓ : allG P ⟨E, O⟩ Γ) (ho : allO P ⟨E, O⟩ os) (hc : allC P (c.args.len + (fn.ntmps - c.args.len)) ⟨E, O⟩ S cs) : c.Valid P f (Env.sub ⟨E, O⟩ τ υ) :=
  Ct.of_exec F.at_ F.name F.body F.mixed hV hE hO hΓ h ho hc
/-! What is owed: whole numbers. -/
section
variable {P : Program}
theorem bin_int (op : BinOp) (k : IntKind) (a b : Int) (t : TypeId) (w : World) (x y : Operand) : (do eqGuard op t x y (.int k a) (.int k b); binOp op t (.int k a) (.int k b) : Sem Value).run P w = (binOp op t (.int k a) (.int k b)).run P w := by cases op <;> rfl
section
variable {k : IntKind} {a b : Int} {t : TypeId}
abbrev BinIs (P : Program) (op : BinOp) (t : TypeId) (a b v : Value) : Prop := ∀ (_ : Nat → Nat × Nat) w x y, (do eqGuard op t x y a b; binOp op t a b : Sem Value).run P w = .ok v w
theorem ob_eql_t (h : a = b) : BinIs P .eql t (.int k a) (.int k b) (.bool true) := fun _ w x y => by rw [bin_int]; simp [binOp, Op.intCmp, h]
theorem ob_eql_f (h : ¬ a = b) : BinIs P .eql t (.int k a) (.int k b) (.bool false) := fun _ w x y => by rw [bin_int]; simp [binOp, Op.intCmp, h]
theorem ob_neq_t (h : a = b) : BinIs P .neq t (.int k a) (.int k b) (.bool false) := fun _ w x y => by rw [bin_int]; simp [binOp, Op.intCmp, h]
theorem ob_neq_f (h : ¬ a = b) : BinIs P .neq t (.int k a) (.int k b) (.bool true) := fun _ w x y => by rw [bin_int]; simp [binOp, Op.intCmp, h]
theorem ob_lss_t (h : a < b) : BinIs P .lss t (.int k a) (.int k b) (.bool true) := fun _ w x y => by rw [bin_int]; simp [binOp, Op.intCmp, h]
theorem ob_lss_f (h : ¬ a < b) : BinIs P .lss t (.int k a) (.int k b) (.bool false) := fun _ w x y => by rw [bin_int]; simp [binOp, Op.intCmp, h]
theorem ob_leq_t (h : a ≤ b) : BinIs P .leq t (.int k a) (.int k b) (.bool true) := fun _ w x y => by rw [bin_int]; simp [binOp, Op.intCmp, h]
theorem ob_leq_f (h : ¬ a ≤ b) : BinIs P .leq t (.int k a) (.int k b) (.bool false) := fun _ w x y => by rw [bin_int]; simp [binOp, Op.intCmp, h]
theorem ob_gtr_t (h : a > b) : BinIs P .gtr t (.int k a) (.int k b) (.bool true) := fun _ w x y => by rw [bin_int]; simp [binOp, Op.intCmp, h]
theorem ob_gtr_f (h : ¬ a > b) : BinIs P .gtr t (.int k a) (.int k b) (.bool false) := fun _ w x y => by rw [bin_int]; simp [binOp, Op.intCmp, h]
theorem ob_geq_t (h : a ≥ b) : BinIs P .geq t (.int k a) (.int k b) (.bool true) := fun _ w x y => by rw [bin_int]; simp [binOp, Op.intCmp, h]
theorem ob_geq_f (h : ¬ a ≥ b) : BinIs P .geq t (.int k a) (.int k b) (.bool false) := fun _ w x y => by rw [bin_int]; simp [binOp, Op.intCmp, h]
theorem ob_add {c : Int} (h : k.wrap (a + b) = c) : BinIs P .add t (.int k a) (.int k b) (.int k c) := fun _ w x y => by rw [bin_int]; simp [binOp, Op.intArith, h]
theorem ob_sub {c : Int} (h : k.wrap (a - b) = c) : BinIs P .sub t (.int k a) (.int k b) (.int k c) := fun _ w x y => by rw [bin_int]; simp [binOp, Op.intArith, h]
theorem ob_mul {c : Int} (h : k.wrap (a * b) = c) : BinIs P .mul t (.int k a) (.int k b) (.int k c) := fun _ w x y => by rw [bin_int]; simp [binOp, Op.intArith, h]
theorem ob_int (h : a = b) : ∀ (_ : Nat → Nat × Nat), [Value.int k a] = [Value.int k b] := fun _ => by rw [h]
theorem ob_bool {a b : Bool} (h : a = b) : ∀ (_ : Nat → Nat × Nat), [Value.bool a] = [Value.bool b] := fun _ => by rw [h]
end
theorem ob_agg {V : Env} {op : BinOp} {t : TypeId} {a b : SV} {A B : Value} {r : Bool} (h : BinIs P op t A B (.bool r)) (ha : ∀ ρ, den V ρ a = A) (hb : ∀ ρ, den V ρ b = B) : (Obl.bin op t a b (.bo r)).holds P V := fun ρ w x y => by
  rw [ha ρ, hb ρ]; exact h ρ w x y
end
end RX
end Go.Proofs.Ytbmokmkaebfneaa
