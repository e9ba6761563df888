/- A number's cells, on paper. Lists of numbers and whole numbers, on paper. A law's arguments: lists of numbers, of whole numbers; contracts that read lists. -/
import Derived.Test.YtieencpejpeenaaRY2
import Derived.Test.YtieencpejpeenaaN
import Derived.Test.YtieencpejpeenaaChecked
import Derived.Test.YtieencpejpeenaaRY3
section
namespace Go.Proofs.Ytieencpejpeenaa
set_option linter.unusedVariables false
set_option linter.unusedSimpArgs false
open Go.RowKit
open RX
noncomputable def lbs (n : Nat) : List Value := [.int .u64 (lb n 0), .int .u64 (lb n 1), .int .u64 (lb n 2), .int .u64 (lb n 3)]
/-- A number, a list's head. -/
def nS (i : Nat) : SV := .agg (.cons (.ev i 0) (.cons (.ev i 1) (.cons (.ev i 2) (.cons (.ev i 3) .nil))))
theorem one_lbs (n : Nat) : ∀ j, j < 4 → ((lbs n).getD j undef).oneCell' = true := one_four _ _ _ _ _
end Go.Proofs.Ytieencpejpeenaa
end
section
namespace Go.Proofs.Ytieencpejpeenaa
open Go.RowKit
open RX
set_option linter.unusedVariables false
/-- A whole number's cell. -/
def cI (n : Int) : List Value := [.int .i64 n]
theorem cI_len (n : Int) : (cI n).length = 1 := rfl
theorem ones_cI (n : Int) : ∀ u ∈ cI n, u.oneCell' = true := by
  intro u hu
  simp only [cI, List.mem_cons, List.not_mem_nil, or_false] at hu
  subst hu; rfl
def I64 (n : Int) : Prop := -9223372036854775808 ≤ n ∧ n < 9223372036854775808
theorem I64_zero : I64 0 := ⟨by decide, by decide⟩
abbrev IntSl := Sl Int cI 1 (fun x => I64 x)
/-- The first place of which something is so, if there is one. -/
theorem first_ex (Q : Nat → Prop) : ∀ n, (∀ k, k < n → ¬ Q k) ∨ ∃ v, v < n ∧ Q v ∧ ∀ k, k < v → ¬ Q k
  | 0 => .inl fun k hk => by omega
  | n + 1 => by
    rcases first_ex Q n with h | ⟨v, h1, h2, h3⟩
    · rcases Classical.em (Q n) with hq | hq
      · exact .inr ⟨n, by omega, hq, h⟩
      · refine .inl fun k hk => ?_
        rcases Nat.lt_succ_iff_lt_or_eq.1 hk with hk | rfl
        · exact h k hk
        · exact hq
    · exact .inr ⟨v, by omega, h2, h3⟩
theorem first_not (P : Nat → Prop) (n : Nat) : (∀ k, k < n → P k) ∨ ∃ v, v < n ∧ ¬ P v ∧ ∀ k, k < v → P k := by
  rcases first_ex (fun k => ¬ P k) n with h | ⟨v, h1, h2, h3⟩
  · exact .inl fun k hk => Classical.not_not.1 (h k hk)
  · exact .inr ⟨v, h1, h2, fun k hk => Classical.not_not.1 (h3 k hk)⟩
/-- The first place below n where P is not so; n: it is so at all. -/
noncomputable def firstOf (P : Nat → Prop) (n : Nat) : Nat := open Classical in if h : ∃ v, v < n ∧ ¬ P v ∧ ∀ k, k < v → P k then Classical.choose h else n
theorem firstOf_eq {P : Nat → Prop} {n v : Nat} (h1 : v < n) (h2 : ¬ P v) (h3 : ∀ k, k < v → P k) : firstOf P n = v := by
  have h : ∃ v, v < n ∧ ¬ P v ∧ ∀ k, k < v → P k := ⟨v, h1, h2, h3⟩
  unfold firstOf; rw [dif_pos h]
  obtain ⟨g1, g2, g3⟩ := Classical.choose_spec h
  rcases Nat.lt_trichotomy (Classical.choose h) v with hl | he | hg
  · exact absurd (h3 _ hl) g2
  · exact he
  · exact absurd (g3 _ hg) h2
theorem firstOf_all {P : Nat → Prop} {n : Nat} (h : ∀ k, k < n → P k) : firstOf P n = n := by
  unfold firstOf; rw [dif_neg]; rintro ⟨v, h1, h2, _⟩; exact h2 (h v h1)
theorem firstOf_spec {P : Nat → Prop} {n : Nat} (h : ¬ ∀ k, k < n → P k) : firstOf P n < n ∧ ¬ P (firstOf P n) ∧ ∀ k, k < firstOf P n → P k := by
  rcases first_not P n with ha | ⟨v, h1, h2, h3⟩
  · exact absurd ha h
  · rw [firstOf_eq h1 h2 h3]; exact ⟨h1, h2, h3⟩
/-- Known things by their kinds. -/
inductive EK where
  | num (n : Nat)
  | nat (n : Nat)
  | int (k : IntKind) (x : Int)
  | bool (b : Bool)
  | str (s : ByteArray)
  | raw (l : List Value)
  | rawn (l : List Value) (n : Nat) (h : ∀ j, j < n → (l.getD j undef).oneCell' = true)
noncomputable def EK.val : EK → List Value
  | .num n => lbs n
  | .nat n => nI n
  | .int k x => [.int k x]
  | .bool b => [.bool b]
  | .str s => [.string s]
  | .raw l => l
  | .rawn l _ _ => l
def EK.len : EK → Nat
  | .num _ => 4
  | .nat _ => 1
  | .int _ _ => 1
  | .bool _ => 1
  | .str _ => 1
  | .raw _ => 0
  | .rawn _ n _ => n
theorem EK.one : ∀ (e : EK) (j : Nat), j < e.len → (e.val.getD j undef).oneCell' = true
  | .num n => one_lbs n
  | .nat n => one_nI n
  | .int k x => one_int k x
  | .bool b => one_bool b
  | .str s => one_str s
  | .raw l => one_none l
  | .rawn _ _ h => h
theorem ek_vok (O : List Obj) : ∀ K : List EK, VOK ⟨K.map EK.val, O⟩ (K.map EK.len)
  | [] => vok_nil
  | e :: K => vok_cons e.one (ek_vok O K)
theorem wayK {f : FuncId} {fn : Func} (F : FnIs Try.prog f fn) (O : List Obj) (K : List EK) (lens : List Nat) (Γ : List Gm) (S : List Sm) {c : Ct} (τ υ : List Nat) (fuel : Nat) (hs : List Hint) (outs : List Nat) (os : List Obl) (cs : List (Code × Nat)) (hl : K.map EK.len = lens) (hK : Nat.ble K.length 1000000 = true) (hO : Nat.ble O.length 1000000 = true)
    (h : ctCheck Try.prog Γ S lens fn (bodyOf fn) c τ υ fuel hs outs = some (os, cs)) (hΓ : allG (fun _ => True) Try.prog ⟨K.map EK.val, O⟩ Γ) (ho : allO Try.prog ⟨K.map EK.val, O⟩ os) (hc : allC (fun _ => True) Try.prog (c.args.len + (fn.ntmps - c.args.len)) ⟨K.map EK.val, O⟩ S cs) : c.Valid Try.prog f (Env.sub ⟨K.map EK.val, O⟩ τ υ) := by
  subst hl
  exact wayOK F (ek_vok O K) (by rw [List.length_map]; exact Nat.le_of_ble_eq_true hK) (Nat.le_of_ble_eq_true hO) h hΓ ho hc
theorem segK {f : FuncId} {fn : Func} (F : FnIs Try.prog f fn) (N : Nat) (code : Code) (K : List EK) (lens : List Nat) (Γ : List Gm) (S : List Sm) (g : Sg) (τ τ' : List Nat) (fuel : Nat) (hs : List Hint) (outs : List Nat) (os : List Obl) (cs : List (Code × Nat)) (hl : K.map EK.len = lens) (hK : Nat.ble K.length 1000000 = true)
    (h : sgCheck Try.prog Γ S lens N code g τ [] τ' [] fuel hs outs = some (os, cs)) (hΓ : allG (fun _ => True) Try.prog ⟨K.map EK.val, []⟩ Γ) (ho : allO Try.prog ⟨K.map EK.val, []⟩ os) (hc : allC (fun _ => True) Try.prog N ⟨K.map EK.val, []⟩ S cs) : g.Valid Try.prog N code (Env.sub ⟨K.map EK.val, []⟩ τ []) (Env.sub ⟨K.map EK.val, []⟩ τ' []) := by
  subst hl
  exact segOK F (ek_vok [] K) (by rw [List.length_map]; exact Nat.le_of_ble_eq_true hK) (Nat.zero_le _) h hΓ ho hc
/-- Is it so? -/
noncomputable def tr (p : Prop) : Bool := @decide p (Classical.propDecidable p)
theorem tr_t {p : Prop} (h : p) : tr p = true := by unfold tr; exact @decide_eq_true p (Classical.propDecidable p) h
theorem tr_f {p : Prop} (h : ¬ p) : tr p = false := by unfold tr; exact @decide_eq_false p (Classical.propDecidable p) h
theorem tr_eq_true {p : Prop} : (tr p = true) = p := propext (Iff.intro (fun h => Classical.byContradiction fun n => Bool.noConfusion ((tr_f n).symm.trans h)) tr_t)
theorem tr_eq_false {p : Prop} : (tr p = false) = ¬ p := propext (Iff.intro (fun h n => Bool.noConfusion ((tr_t n).symm.trans h)) tr_f)
end Go.Proofs.Ytieencpejpeenaa
end
section
namespace Go.Proofs.Ytieencpejpeenaa
open Go.RowKit
open RX
set_option linter.unusedVariables false
/-- A law's list: empty, or in memory. -/
def IsSl {T : Type} (f : T → List Value) (size : Nat) (Ok : T → Prop) (w : World) (a : Option Addr) (n c : Nat) : Prop :=
  n = 0 ∨ ∃ (b o : Nat) (C : Array Value) (ty : TypeId) (z : Nat × Nat) (l : List T), a = some ⟨b, o, none⟩ ∧ w.heap[b]? = some (.cells C ty z) ∧ l.length = n ∧ (∀ t, t ∈ l → Ok t) ∧ (C.toList.drop o).take (n * size) = l.flatMap f ∧ n ≤ c ∧ c ≤ maxLen
theorem IsSl.cases {T : Type} {f : T → List Value} {size : Nat} {Ok : T → Prop} {w : World} {a : Option Addr} {n c : Nat} (h : IsSl f size Ok w a n c) :
    n = 0 ∨ ∃ (b : Nat) (s : Sl T f size Ok) (C : Array Value) (ty : TypeId) (z : Nat × Nat), a = some ⟨b, s.o, none⟩ ∧ w.heap[b]? = some (.cells C ty z) ∧ s.R = C.toList ∧ s.l.length = n ∧ n ≤ c ∧ c ≤ maxLen := by
  rcases h with h | ⟨b, o, C, ty, z, l, h1, h2, rfl, h4, h5, h6, h7⟩
  · exact .inl h
  · exact .inr ⟨b, ⟨C.toList, o, l, h5, h4, by unfold maxLen at h7; omega⟩, C, ty, z, h1, h2, rfl, rfl, h6, h7⟩
theorem view_holds {V : Env} {ρ : Nat → Nat × Nat} {i b : Nat} {w : World} {C : Array Value} {ty : TypeId} {z : Nat × Nat} (h : w.heap[b]? = some (.cells C ty z)) (hE : V.E.getD i [] = C.toList) : (Bk.view i).holds V ρ w.heap[b]? :=
  ⟨[], ty, z, by rw [hE]; simpa using h⟩
/-- A contract that only reads. -/
theorem RX.Ct.Valid.callsR {P : Program} {f : FuncId} {fn : Func} {V : Env} {args res : SV} {pre : List Bk} {vs : Array Value} {v : Value} (hv : RX.Ct.Valid P f ⟨args, pre, [], [], res⟩ V) (F : FnIs P f fn) (ρ : Nat → Nat × Nat) {w : World} (ha : dl V ρ args = vs.toList) (hr : ∀ ρ, den V ρ res = v) (hp : ∀ (i : Nat) (bk : Bk), pre[i]? = some bk → bk.holds V ρ w.heap[(ρ i).1]?) :
    Calls P f vs w fun e w' => e = .returned v ∧ Below w.heap.size w w' := by
  have h := hv ρ w ⟨fun i j hi hj hor _ => by
    rcases hor with h | h <;> simp [isWr] at h, hp⟩
  rw [callFunc_enter F.at_ F.name F.body] at h
  replace h : Calls P f (dl V _ args).toArray w _ := h
  rw [ha, Array.toArray_toList] at h
  refine h.mono ?_
  rintro e w' ⟨u, rfl, ρ', _, _, _, hu, _, _, hfr⟩
  refine ⟨by rw [hu]; exact congrArg Ending.returned (hr ρ'), hfr.below fun b => ?_⟩
  rintro ⟨i, bk, hi, _⟩
  simp at hi
theorem no_blocks {V : Env} {ρ : Nat → Nat × Nat} {w : World} : ∀ (i : Nat) (bk : Bk), ([] : List Bk)[i]? = some bk → bk.holds V ρ w.heap[(ρ i).1]? := fun i bk h => by simp at h
theorem one_block {V : Env} {ρ : Nat → Nat × Nat} {w : World} {b : Bk} (h : b.holds V ρ w.heap[(ρ 0).1]?) : ∀ (i : Nat) (bk : Bk), [b][i]? = some bk → bk.holds V ρ w.heap[(ρ i).1]?
  | 0, _, e => by cases e; exact h
  | i + 1, _, e => by simp at e
theorem two_blocks {V : Env} {ρ : Nat → Nat × Nat} {w : World} {b c : Bk} (h : b.holds V ρ w.heap[(ρ 0).1]?) (h' : c.holds V ρ w.heap[(ρ 1).1]?) : ∀ (i : Nat) (bk : Bk), [b, c][i]? = some bk → bk.holds V ρ w.heap[(ρ i).1]?
  | 0, _, e => by cases e; exact h
  | 1, _, e => by cases e; exact h'
  | i + 2, _, e => by simp at e
theorem i64_of_wf {x : Int} (h : (Lit.int .i64 x).wf = true) : I64 x := by
  simp [Lit.wf, IntKind.min, IntKind.max, IntKind.signed, IntKind.bits] at h
  exact ⟨by omega, by omega⟩
theorem plain_int1 : LeafIs Try.prog 3 [.i .i64] := ⟨by kernel_rfl, by kernel_rfl⟩
theorem read_int1 (cs : List Value) (h : fitsB [.i .i64] cs = true) (hw : cs.all wfV = true) : ∃ n : Int, (fun x => I64 x) n ∧ cs = cI n := by
  obtain ⟨n, ys, rfl, h1, f1, _⟩ := int_chunk h hw
  obtain rfl := nil_chunk f1
  exact ⟨n, i64_of_wf h1, rfl⟩
end Go.Proofs.Ytieencpejpeenaa
end
