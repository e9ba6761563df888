/- A number's cells, on paper. Lists of numbers and whole numbers, on paper. A law's arguments: lists of numbers, of whole numbers; contracts that read lists. Rounds that keep a list as it is, where others make it anew; append of a part. -/
import Derived.Test.YtieencpejpeenaaRY2
import Derived.Test.YtieencpejpeenaaN
import Derived.Test.YtieencpejpeenaaChecked
import Derived.Test.YtieencpejpeenaaRY3
section
namespace Go.Proofs.Ytieencpejpeenaa
set_option linter.unusedVariables false
set_option linter.unusedSimpArgs false
open Go.RowKit
open RX
noncomputable def lbs (n : Nat) : List Value := [.int .u64 (lb n 0), .int .u64 (lb n 1), .int .u64 (lb n 2), .int .u64 (lb n 3)]
/-- A number, a list's head. -/
def nS (i : Nat) : SV := .agg (.cons (.ev i 0) (.cons (.ev i 1) (.cons (.ev i 2) (.cons (.ev i 3) .nil))))
theorem one_lbs (n : Nat) : ∀ j, j < 4 → ((lbs n).getD j undef).oneCell' = true := one_four _ _ _ _ _
end Go.Proofs.Ytieencpejpeenaa
end
section
namespace Go.Proofs.Ytieencpejpeenaa
open Go.RowKit
open RX
set_option linter.unusedVariables false
/-- A whole number's cell. -/
def cI (n : Int) : List Value := [.int .i64 n]
theorem cI_len (n : Int) : (cI n).length = 1 := rfl
theorem ones_cI (n : Int) : ∀ u ∈ cI n, u.oneCell' = true := by
  intro u hu
  simp only [cI, List.mem_cons, List.not_mem_nil, or_false] at hu
  subst hu; rfl
def I64 (n : Int) : Prop := -9223372036854775808 ≤ n ∧ n < 9223372036854775808
theorem I64_zero : I64 0 := ⟨by decide, by decide⟩
abbrev IntSl := Sl Int cI 1 (fun x => I64 x)
/-- The first place of which something is so, if there is one. -/
theorem first_ex (Q : Nat → Prop) : ∀ n, (∀ k, k < n → ¬ Q k) ∨ ∃ v, v < n ∧ Q v ∧ ∀ k, k < v → ¬ Q k
  | 0 => .inl fun k hk => by omega
  | n + 1 => by
    rcases first_ex Q n with h | ⟨v, h1, h2, h3⟩
    · rcases Classical.em (Q n) with hq | hq
      · exact .inr ⟨n, by omega, hq, h⟩
      · refine .inl fun k hk => ?_
        rcases Nat.lt_succ_iff_lt_or_eq.1 hk with hk | rfl
        · exact h k hk
        · exact hq
    · exact .inr ⟨v, by omega, h2, h3⟩
theorem first_not (P : Nat → Prop) (n : Nat) : (∀ k, k < n → P k) ∨ ∃ v, v < n ∧ ¬ P v ∧ ∀ k, k < v → P k := by
  rcases first_ex (fun k => ¬ P k) n with h | ⟨v, h1, h2, h3⟩
  · exact .inl fun k hk => Classical.not_not.1 (h k hk)
  · exact .inr ⟨v, h1, h2, fun k hk => Classical.not_not.1 (h3 k hk)⟩
/-- The first place below n where P is not so; n: it is so at all. -/
noncomputable def firstOf (P : Nat → Prop) (n : Nat) : Nat := open Classical in if h : ∃ v, v < n ∧ ¬ P v ∧ ∀ k, k < v → P k then Classical.choose h else n
theorem firstOf_eq {P : Nat → Prop} {n v : Nat} (h1 : v < n) (h2 : ¬ P v) (h3 : ∀ k, k < v → P k) : firstOf P n = v := by
  have h : ∃ v, v < n ∧ ¬ P v ∧ ∀ k, k < v → P k := ⟨v, h1, h2, h3⟩
  unfold firstOf; rw [dif_pos h]
  obtain ⟨g1, g2, g3⟩ := Classical.choose_spec h
  rcases Nat.lt_trichotomy (Classical.choose h) v with hl | he | hg
  · exact absurd (h3 _ hl) g2
  · exact he
  · exact absurd (g3 _ hg) h2
theorem firstOf_all {P : Nat → Prop} {n : Nat} (h : ∀ k, k < n → P k) : firstOf P n = n := by
  unfold firstOf; rw [dif_neg]; rintro ⟨v, h1, h2, _⟩; exact h2 (h v h1)
theorem firstOf_spec {P : Nat → Prop} {n : Nat} (h : ¬ ∀ k, k < n → P k) : firstOf P n < n ∧ ¬ P (firstOf P n) ∧ ∀ k, k < firstOf P n → P k := by
  rcases first_not P n with ha | ⟨v, h1, h2, h3⟩
  · exact absurd ha h
  · rw [firstOf_eq h1 h2 h3]; exact ⟨h1, h2, h3⟩
/-- Known things by their kinds. -/
inductive EK where
  | num (n : Nat)
  | nat (n : Nat)
  | int (k : IntKind) (x : Int)
  | bool (b : Bool)
  | str (s : ByteArray)
  | raw (l : List Value)
  | rawn (l : List Value) (n : Nat) (h : ∀ j, j < n → (l.getD j undef).oneCell' = true)
noncomputable def EK.val : EK → List Value
  | .num n => lbs n
  | .nat n => nI n
  | .int k x => [.int k x]
  | .bool b => [.bool b]
  | .str s => [.string s]
  | .raw l => l
  | .rawn l _ _ => l
def EK.len : EK → Nat
  | .num _ => 4
  | .nat _ => 1
  | .int _ _ => 1
  | .bool _ => 1
  | .str _ => 1
  | .raw _ => 0
  | .rawn _ n _ => n
theorem EK.one : ∀ (e : EK) (j : Nat), j < e.len → (e.val.getD j undef).oneCell' = true
  | .num n => one_lbs n
  | .nat n => one_nI n
  | .int k x => one_int k x
  | .bool b => one_bool b
  | .str s => one_str s
  | .raw l => one_none l
  | .rawn _ _ h => h
theorem ek_vok (O : List Obj) : ∀ K : List EK, VOK ⟨K.map EK.val, O⟩ (K.map EK.len)
  | [] => vok_nil
  | e :: K => vok_cons e.one (ek_vok O K)
theorem wayK {f : FuncId} {fn : Func} (F : FnIs Try.prog f fn) (O : List Obj) (K : List EK) (lens : List Nat) (Γ : List Gm) (S : List Sm) {c : Ct} (τ υ : List Nat) (fuel : Nat) (hs : List Hint) (outs : List Nat) (os : List Obl) (cs : List (Code × Nat)) (hl : K.map EK.len = lens) (hK : Nat.ble K.length 1000000 = true) (hO : Nat.ble O.length 1000000 = true)
    (h : ctCheck Try.prog Γ S lens fn (bodyOf fn) c τ υ fuel hs outs = some (os, cs)) (hΓ : allG (fun _ => True) Try.prog ⟨K.map EK.val, O⟩ Γ) (ho : allO Try.prog ⟨K.map EK.val, O⟩ os) (hc : allC (fun _ => True) Try.prog (c.args.len + (fn.ntmps - c.args.len)) ⟨K.map EK.val, O⟩ S cs) : c.Valid Try.prog f (Env.sub ⟨K.map EK.val, O⟩ τ υ) := by
  subst hl
  exact wayOK F (ek_vok O K) (by rw [List.length_map]; exact Nat.le_of_ble_eq_true hK) (Nat.le_of_ble_eq_true hO) h hΓ ho hc
theorem segK {f : FuncId} {fn : Func} (F : FnIs Try.prog f fn) (N : Nat) (code : Code) (K : List EK) (lens : List Nat) (Γ : List Gm) (S : List Sm) (g : Sg) (τ τ' : List Nat) (fuel : Nat) (hs : List Hint) (outs : List Nat) (os : List Obl) (cs : List (Code × Nat)) (hl : K.map EK.len = lens) (hK : Nat.ble K.length 1000000 = true)
    (h : sgCheck Try.prog Γ S lens N code g τ [] τ' [] fuel hs outs = some (os, cs)) (hΓ : allG (fun _ => True) Try.prog ⟨K.map EK.val, []⟩ Γ) (ho : allO Try.prog ⟨K.map EK.val, []⟩ os) (hc : allC (fun _ => True) Try.prog N ⟨K.map EK.val, []⟩ S cs) : g.Valid Try.prog N code (Env.sub ⟨K.map EK.val, []⟩ τ []) (Env.sub ⟨K.map EK.val, []⟩ τ' []) := by
  subst hl
  exact segOK F (ek_vok [] K) (by rw [List.length_map]; exact Nat.le_of_ble_eq_true hK) (Nat.zero_le _) h hΓ ho hc
/-- Is it so? -/
noncomputable def tr (p : Prop) : Bool := @decide p (Classical.propDecidable p)
theorem tr_t {p : Prop} (h : p) : tr p = true := by unfold tr; exact @decide_eq_true p (Classical.propDecidable p) h
theorem tr_f {p : Prop} (h : ¬ p) : tr p = false := by unfold tr; exact @decide_eq_false p (Classical.propDecidable p) h
theorem tr_eq_true {p : Prop} : (tr p = true) = p := propext (Iff.intro (fun h => Classical.byContradiction fun n => Bool.noConfusion ((tr_f n).symm.trans h)) tr_t)
theorem tr_eq_false {p : Prop} : (tr p = false) = ¬ p := propext (Iff.intro (fun h n => Bool.noConfusion ((tr_t n).symm.trans h)) tr_f)
end Go.Proofs.Ytieencpejpeenaa
end
section
namespace Go.Proofs.Ytieencpejpeenaa
open Go.RowKit
open RX
set_option linter.unusedVariables false
/-- A law's list: empty, or in memory. -/
def IsSl {T : Type} (f : T → List Value) (size : Nat) (Ok : T → Prop) (w : World) (a : Option Addr) (n c : Nat) : Prop :=
  n = 0 ∨ ∃ (b o : Nat) (C : Array Value) (ty : TypeId) (z : Nat × Nat) (l : List T), a = some ⟨b, o, none⟩ ∧ w.heap[b]? = some (.cells C ty z) ∧ l.length = n ∧ (∀ t, t ∈ l → Ok t) ∧ (C.toList.drop o).take (n * size) = l.flatMap f ∧ n ≤ c ∧ c ≤ maxLen
theorem IsSl.cases {T : Type} {f : T → List Value} {size : Nat} {Ok : T → Prop} {w : World} {a : Option Addr} {n c : Nat} (h : IsSl f size Ok w a n c) :
    n = 0 ∨ ∃ (b : Nat) (s : Sl T f size Ok) (C : Array Value) (ty : TypeId) (z : Nat × Nat), a = some ⟨b, s.o, none⟩ ∧ w.heap[b]? = some (.cells C ty z) ∧ s.R = C.toList ∧ s.l.length = n ∧ n ≤ c ∧ c ≤ maxLen := by
  rcases h with h | ⟨b, o, C, ty, z, l, h1, h2, rfl, h4, h5, h6, h7⟩
  · exact .inl h
  · exact .inr ⟨b, ⟨C.toList, o, l, h5, h4, by unfold maxLen at h7; omega⟩, C, ty, z, h1, h2, rfl, rfl, h6, h7⟩
theorem view_holds {V : Env} {ρ : Nat → Nat × Nat} {i b : Nat} {w : World} {C : Array Value} {ty : TypeId} {z : Nat × Nat} (h : w.heap[b]? = some (.cells C ty z)) (hE : V.E.getD i [] = C.toList) : (Bk.view i).holds V ρ w.heap[b]? :=
  ⟨[], ty, z, by rw [hE]; simpa using h⟩
/-- A contract that only reads. -/
theorem RX.Ct.Valid.callsR {P : Program} {f : FuncId} {fn : Func} {V : Env} {args res : SV} {pre : List Bk} {vs : Array Value} {v : Value} (hv : RX.Ct.Valid P f ⟨args, pre, [], [], res⟩ V) (F : FnIs P f fn) (ρ : Nat → Nat × Nat) {w : World} (ha : dl V ρ args = vs.toList) (hr : ∀ ρ, den V ρ res = v) (hp : ∀ (i : Nat) (bk : Bk), pre[i]? = some bk → bk.holds V ρ w.heap[(ρ i).1]?) :
    Calls P f vs w fun e w' => e = .returned v ∧ Below w.heap.size w w' := by
  have h := hv ρ w ⟨fun i j hi hj hor _ => by
    rcases hor with h | h <;> simp [isWr] at h, hp⟩
  rw [callFunc_enter F.at_ F.name F.body] at h
  replace h : Calls P f (dl V _ args).toArray w _ := h
  rw [ha, Array.toArray_toList] at h
  refine h.mono ?_
  rintro e w' ⟨u, rfl, ρ', _, _, _, hu, _, _, hfr⟩
  refine ⟨by rw [hu]; exact congrArg Ending.returned (hr ρ'), hfr.below fun b => ?_⟩
  rintro ⟨i, bk, hi, _⟩
  simp at hi
theorem no_blocks {V : Env} {ρ : Nat → Nat × Nat} {w : World} : ∀ (i : Nat) (bk : Bk), ([] : List Bk)[i]? = some bk → bk.holds V ρ w.heap[(ρ i).1]? := fun i bk h => by simp at h
theorem one_block {V : Env} {ρ : Nat → Nat × Nat} {w : World} {b : Bk} (h : b.holds V ρ w.heap[(ρ 0).1]?) : ∀ (i : Nat) (bk : Bk), [b][i]? = some bk → bk.holds V ρ w.heap[(ρ i).1]?
  | 0, _, e => by cases e; exact h
  | i + 1, _, e => by simp at e
theorem two_blocks {V : Env} {ρ : Nat → Nat × Nat} {w : World} {b c : Bk} (h : b.holds V ρ w.heap[(ρ 0).1]?) (h' : c.holds V ρ w.heap[(ρ 1).1]?) : ∀ (i : Nat) (bk : Bk), [b, c][i]? = some bk → bk.holds V ρ w.heap[(ρ i).1]?
  | 0, _, e => by cases e; exact h
  | 1, _, e => by cases e; exact h'
  | i + 2, _, e => by simp at e
theorem i64_of_wf {x : Int} (h : (Lit.int .i64 x).wf = true) : I64 x := by
  simp [Lit.wf, IntKind.min, IntKind.max, IntKind.signed, IntKind.bits] at h
  exact ⟨by omega, by omega⟩
theorem plain_int1 : LeafIs Try.prog 3 [.i .i64] := ⟨by kernel_rfl, by kernel_rfl⟩
theorem read_int1 (cs : List Value) (h : fitsB [.i .i64] cs = true) (hw : cs.all wfV = true) : ∃ n : Int, (fun x => I64 x) n ∧ cs = cI n := by
  obtain ⟨n, ys, rfl, h1, f1, _⟩ := int_chunk h hw
  obtain rfl := nil_chunk f1
  exact ⟨n, i64_of_wf h1, rfl⟩
end Go.Proofs.Ytieencpejpeenaa
end
section
namespace Go.Proofs.Ytieencpejpeenaa
open Go.RowKit
namespace RX
set_option linter.unusedVariables false
set_option linter.unusedSimpArgs false
set_option linter.unnecessarySimpa false
def keepOK (pre : List Bk) (R W R' W' : List Nat) : Bool :=
  (List.range pre.length).all (fun i => (!(R'.any (Nat.beq i)) || R.any (Nat.beq i)) && ((!(R.any (Nat.beq i)) || (R'.any (Nat.beq i) || W'.any (Nat.beq i))) && ((R.any (Nat.beq i) || (!(W.any (Nat.beq i)) || W'.any (Nat.beq i))) && (!(W'.any (Nat.beq i)) || (R.any (Nat.beq i) || W.any (Nat.beq i))))))
   && (pre.all Bk.live && (nodupB R && R.all (fun i => Nat.blt i pre.length)))
theorem Sg.keep {P : Program} {N : Nat} {c : Code} {sl : List (Nat × SV)} {pre : List Bk} {R W R' W' : List Nat} {VA VB : Env} (h : keepOK pre R W R' W' = true) (H : Sg.Valid P N c (roundSg sl pre R' W') VA VB) : Sg.Valid P N c (roundSg sl pre R W) VA VB := by
  unfold keepOK at h
  simp only [Bool.and_eq_true, List.all_eq_true] at h
  obtain ⟨hA, hlive, hnd, hlt⟩ := h
  have lt : ∀ {j i : Nat}, R[j]? = some i → i < pre.length := fun {j i} hj => Nat.le_of_ble_eq_true (hlt i (List.mem_of_getElem? hj))
  have c1 : ∀ {i}, i < pre.length → R'.any (Nat.beq i) = true → R.any (Nat.beq i) = true := fun {i} hi x => by
    have := (hA i (List.mem_range.2 hi)).1; rw [x] at this; simpa using this
  have c2 : ∀ {i}, i < pre.length → R.any (Nat.beq i) = true → R'.any (Nat.beq i) = false → W'.any (Nat.beq i) = true := fun {i} hi x y => by
    have := (hA i (List.mem_range.2 hi)).2.1; rw [x, y] at this; simpa using this
  have c3 : ∀ {i}, i < pre.length → R.any (Nat.beq i) = false → W.any (Nat.beq i) = true → W'.any (Nat.beq i) = true := fun {i} hi x y => by
    have := (hA i (List.mem_range.2 hi)).2.2.1; rw [x, y] at this; simpa using this
  have c4 : ∀ {i}, i < pre.length → W'.any (Nat.beq i) = true → R.any (Nat.beq i) = true ∨ W.any (Nat.beq i) = true := fun {i} hi x => by
    have := (hA i (List.mem_range.2 hi)).2.2.2; rw [x] at this; simpa using this
  have post : ∀ (Q Y : List Nat) {i}, i < pre.length → (roundSg sl pre Q Y).post[i]? = some (cond (Q.any (Nat.beq i)) (some .gone) (cond (Y.any (Nat.beq i)) (some ((pre.getD i .gone).rnI (nextIds pre.length Q))) none)) := fun Q Y {i} hi => by
    simp only [roundSg, List.getElem?_map, List.getElem?_range hi, Option.map_some]
  have plt : ∀ (Q Y : List Nat) {i b}, (roundSg sl pre Q Y).post[i]? = some b → i < pre.length := fun Q Y {i b} hb => by
    have := (List.getElem?_eq_some_iff.1 hb).1; simpa [roundSg] using this
  have wr : ∀ {i}, isWr (roundSg sl pre R' W').post i = true → isWr (roundSg sl pre R W).post i = true := fun {i} hi => by
    obtain ⟨b, hb⟩ := isWr_some hi
    have hl := plt _ _ hb
    rw [post R' W' hl] at hb
    cases hR : R.any (Nat.beq i) with
    | true => exact isWr_of (b := .gone) (by rw [post R W hl, hR]; rfl)
    | false =>
      cases hR' : R'.any (Nat.beq i) with
      | true => rw [c1 hl hR'] at hR; cases hR
      | false =>
        rw [hR'] at hb
        cases hW' : W'.any (Nat.beq i) with
        | false => rw [hW'] at hb; cases hb
        | true =>
          rcases c4 hl hW' with x | x
          · rw [x] at hR; cases hR
          · exact isWr_of (b := (pre.getD i .gone).rnI (nextIds pre.length R)) (by rw [post R W hl, hR, x]; rfl)
  have wrR : ∀ {i}, i < pre.length → R.any (Nat.beq i) = true → isWr (roundSg sl pre R W).post i = true := fun {i} hl hR => isWr_of (b := .gone) (by rw [post R W hl, hR]; rfl)
  intro ρ a w hsz hdf hsl hpre
  have there : ∀ {i : Nat}, i < pre.length → (ρ i).1 < w.heap.size := fun {i} hi =>
    lt_of_holds (hpre.2 i _ (List.getElem?_eq_getElem hi)) (hlive _ (List.getElem_mem hi))
  refine wp_mono (H ρ a w hsz hdf hsl ⟨fun i j hi hj hor he => hpre.1 i j hi hj (hor.imp wr wr) he, hpre.2⟩) ?_
  rintro e a' w' ⟨he, hsz', hdf', ρ', hs, q1, q2, q3, q4, q5, q6⟩
  let p := pre.length
  let σ : Nat → Nat × Nat := fun i => if i < p ∨ p = 0 then ρ' i else ρ' (nextId p R' (R.getD (i - p) 0))
  have σo : ∀ {i}, i < p → σ i = ρ' i := fun {i} hi => if_pos (.inl hi)
  have σn : ∀ {j i}, R[j]? = some i → σ (p + j) = ρ' (nextId p R' i) := fun {j i} hj => by
    have hl := lt hj
    show (if p + j < p ∨ p = 0 then _ else _) = _
    rw [if_neg (by omega), Nat.add_sub_cancel_left, List.getD_eq_getElem?_getD, hj]; rfl
  have σθ : ∀ {i}, i < p → σ ((nextIds p R).getD i 0) = ρ' ((nextIds p R').getD i 0) := fun {i} hi => by
    rw [nextIds_get hi, nextIds_get hi]
    cases hR : R.any (Nat.beq i) with
    | true => obtain ⟨j, hj, _, hn⟩ := nextId_new (p := p) hR; rw [hn, σn hj]
    | false =>
      have hR' : R'.any (Nat.beq i) = false := by
        cases h' : R'.any (Nat.beq i) with
        | false => rfl
        | true => rw [c1 hi h'] at hR; cases hR
      rw [nextId_old hR, nextId_old hR', σo hi]
  have θ0 : ∀ (Q : List Nat) {i}, ¬ i < p → (nextIds p Q).getD i 0 = 0 := fun Q {i} hi => by
    unfold nextIds; rw [List.getD_eq_getElem?_getD, List.getElem?_eq_none (by simpa using hi)]; rfl
  have σA : (fun i => σ ((nextIds p R).getD i 0)) = fun i => ρ' ((nextIds p R').getD i 0) := by
    funext i
    by_cases hi : i < p
    · exact σθ hi
    · rw [θ0 R hi, θ0 R' hi]
      exact if_pos (by omega)
  have hnl : ∀ Q Y, (roundSg sl pre Q Y).news.length = Q.length := fun Q Y => by simp [roundSg]
  have goneR : ∀ {k : Nat}, (roundSg sl pre R' W').post[k]? = some (some .gone) → k < p ∧ R'.any (Nat.beq k) = true := fun {k} hg => by
    have hl := plt _ _ hg
    refine ⟨hl, ?_⟩
    rw [post R' W' hl] at hg
    cases hR' : R'.any (Nat.beq k) with
    | true => rfl
    | false =>
      rw [hR'] at hg
      cases hW' : W'.any (Nat.beq k) with
      | false => rw [hW'] at hg; cases hg
      | true =>
        rw [hW'] at hg
        have h1 := hlive _ (List.getElem_mem hl)
        have h2 : pre.getD k .gone = pre[k] := by simp [List.getD_eq_getElem?_getD, List.getElem?_eq_getElem hl]
        have h3 : (pre.getD k .gone).rnI (nextIds pre.length R') = .gone := by simpa using hg
        rw [h2] at h3
        rw [← Bk.live_rnI (θ := nextIds pre.length R'), h3] at h1
        cases h1
  -- a new block: one that the round made, or one that it kept
  have new : ∀ {j i}, R[j]? = some i → (∃ x, R'[x]? = some i ∧ x < R'.length ∧ σ (p + j) = ρ' (p + x)) ∨ (R'.any (Nat.beq i) = false ∧ σ (p + j) = ρ i) := fun {j i} hj => by
    rw [σn hj]
    cases hR' : R'.any (Nat.beq i) with
    | true => obtain ⟨x, hx, hxl, hn⟩ := nextId_new (p := p) hR'; exact .inl ⟨x, hx, hxl, by rw [hn]⟩
    | false => exact .inr ⟨rfl, by rw [nextId_old hR']; exact q1 i (lt hj)⟩
  have far : ∀ {x i : Nat}, x < R'.length → i < p → R'.any (Nat.beq i) = false → (ρ' (p + x)).1 ≠ (ρ i).1 := fun {x i} hx hi hR' he => by
    rcases q2 x (by rw [hnl]; exact hx) with hge | ⟨k, hg, hk⟩
    · have := there hi
      have e2 : (ρ' (p + x)).1 = (ρ' ((roundSg sl pre R' W').pre.length + x)).1 := rfl
      omega
    · obtain ⟨hl, hk'⟩ := goneR hg
      have := hpre.1 k i hl hi (.inl (wrR hl (c1 hl hk'))) (hk.symm.trans he)
      subst this; rw [hk'] at hR'; cases hR'
  refine ⟨he, hsz', hdf', σ, ?_, fun i hi => (σo hi).trans (q1 i hi), ?_, ?_, ?_, ?_, ?_⟩
  · have h1 := (slotsOK_rn (V' := VB) (ρ' := fun i => ρ' ((nextIds p R').getD i 0)) (r := fun x => x.rnI (nextIds p R')) (fun x => dl_rnI)).1 hs
    rw [← σA] at h1
    exact (slotsOK_rn (V := VB) (ρ := σ) (r := fun x => x.rnI (nextIds p R)) (fun x => dl_rnI)).2 h1
  · intro j hj
    rw [hnl] at hj
    have hj' := List.getElem?_eq_getElem hj
    rcases new hj' with ⟨x, hx, hxl, e⟩ | ⟨hR', e⟩
    · rcases q2 x (by rw [hnl]; exact hxl) with hge | ⟨k, hg, hk⟩
      · exact .inl (by show _ ≤ (σ (p + j)).1; rw [e]; exact hge)
      · obtain ⟨hl, hk'⟩ := goneR hg
        exact .inr ⟨k, by rw [post R W hl, c1 hl hk']; rfl, by show (σ (p + j)).1 = _; rw [e]; exact hk⟩
    · have hl := lt hj'
      exact .inr ⟨R[j], by rw [post R W hl, any_of_get hj']; rfl, by show (σ (p + j)).1 = _; rw [e]⟩
  · intro i j hi hj hE
    rw [hnl] at hi hj
    have hi' := List.getElem?_eq_getElem hi
    have hj' := List.getElem?_eq_getElem hj
    have hE' : (σ (p + i)).1 = (σ (p + j)).1 := hE
    rcases new hi' with ⟨x, hx, hxl, e⟩ | ⟨hR1, e⟩ <;> rcases new hj' with ⟨y, hy, hyl, e'⟩ | ⟨hR2, e'⟩ <;> rw [e, e'] at hE'
    · have := q3 x y (by rw [hnl]; exact hxl) (by rw [hnl]; exact hyl) hE'
      subst this
      rw [hx] at hy
      exact nodup_get hnd hi' (hj'.trans (by rw [Option.some.inj hy]))
    · exact absurd hE' (far hxl (lt hj') hR2)
    · exact absurd hE'.symm (far hyl (lt hi') hR1)
    · have := hpre.1 _ _ (lt hi') (lt hj') (.inl (wrR (lt hi') (any_of_get hi'))) hE'
      exact nodup_get hnd hi' (hj'.trans (by rw [this]))
  · intro i bk hb
    have hl := plt _ _ hb
    rw [post R W hl] at hb
    cases hR : R.any (Nat.beq i) with
    | true =>
      rw [hR] at hb
      have : bk = .gone := by simpa using hb.symm
      subst this; trivial
    | false =>
      rw [hR] at hb
      cases hW : W.any (Nat.beq i) with
      | false => rw [hW] at hb; cases hb
      | true =>
        rw [hW] at hb
        have : bk = (pre.getD i .gone).rnI (nextIds pre.length R) := by simpa using hb.symm
        subst this
        have hR' : R'.any (Nat.beq i) = false := by
          cases h' : R'.any (Nat.beq i) with
          | false => rfl
          | true => rw [c1 hl h'] at hR; cases hR
        have h1 := q4 i _ (by rw [post R' W' hl, hR', c3 hl hR hW]; rfl)
        have h2 := Bk.holds_rnI.1 h1
        exact Bk.holds_rnI.2 (by show (pre.getD i .gone).holds VB (fun i => σ ((nextIds p R).getD i 0)) _; rw [σA]; exact h2)
  · intro j bk hb
    have hjl : j < R.length := by have := (List.getElem?_eq_some_iff.1 hb).1; rwa [hnl] at this
    have hj' := List.getElem?_eq_getElem hjl
    have : bk = (pre.getD R[j] .gone).rnI (nextIds pre.length R) := by
      simp only [roundSg, List.getElem?_map, hj', Option.map_some] at hb
      exact (Option.some.inj hb).symm
    subst this
    refine Bk.holds_rnI.2 ?_
    show (pre.getD R[j] .gone).holds VB (fun i => σ ((nextIds p R).getD i 0)) (w'.heap[(σ (p + j)).1]?)
    rw [σA]
    rcases new hj' with ⟨x, hx, hxl, e⟩ | ⟨hR', e⟩
    · rw [e]
      exact Bk.holds_rnI.1 (q5 x _ (by simp only [roundSg, List.getElem?_map, hx, Option.map_some]; rfl))
    · rw [e]
      exact Bk.holds_rnI.1 (q4 R[j] _ (by rw [post R' W' (lt hj'), hR', c2 (lt hj') (any_of_get hj') hR']; rfl))
  · refine q6.mono ?_
    rintro x hx ⟨i, bk, hb, rfl⟩
    obtain ⟨b, hb'⟩ := isWr_some (wr (isWr_of hb))
    exact ⟨i, b, hb', rfl⟩
theorem addr_off' (b o j : Nat) : (Addr.mk b o none).add j = ⟨b, o + j, none⟩ := by
  unfold Addr.add
  split
  · rename_i h; rw [h]; rfl
  · simp
section
variable {P : Program} {t e : TypeId} {size bytes : Nat} {i : TypeInfo} {z : Value}
/-- append to none, of a part of a block. -/
theorem app_nil_at (T : ListIs P t e size bytes i z) (h0 : 0 < size) {n o0 : Nat} {R L : List Value} (hn : 0 < n) (hR : (R.drop o0).take (n * size) = L) (hL : L.length = n * size) (h1 : ∀ u ∈ L, u.oneCell' = true) (hmax : n ≤ maxLen) (hby : n * bytes ≤ 140737488355328) {zS capx : SV} {V : Env} (hE : V.E.getD 0 [] = nI n) (hE1 : V.E.getD 1 [] = R) (hE2 : V.E.getD 2 [] = L) (hE3 : V.E.getD 3 [] = nI o0) (hz : ∀ ρ, dl V ρ zS = z.cells.toList) {ty : TypeId} :
    Ct.ValidOp P [19, ty, t, t] ⟨.cons .nilsl (.cons (.sli 0 (.ev 3 0) 0 (.ev 0 0) capx) .nil), [.view 1], [], [.own e 2 1 zS], .sli 1 (.lit .i64 0) 0 (.ev 0 0) (.rc 1)⟩ V := by
  intro ρ w o ev htag hargs hpre
  have hev : natV (den V ρ (.ev 0 0)) = n := by
    show natV ((V.E.getD 0 []).getD 0 undef) = n
    rw [hE]; rfl
  have ho : natV (den V ρ (.ev 3 0)) = o0 := by
    show natV ((V.E.getD 3 []).getD 0 undef) = o0
    rw [hE3]; rfl
  have ha : o.op.operands.toList.map ev = [.slice none 0 0, .slice (some ⟨(ρ 0).1, o0, none⟩) n (natV (den V ρ capx))] := by
    rw [hargs]
    show [Value.slice none 0 0] ++ ([Value.slice (some ⟨(ρ 0).1, natV (den V ρ (.ev 3 0)), none⟩) (natV (den V ρ (.ev 0 0))) _] ++ []) = _
    rw [hev, ho]; rfl
  obtain ⟨rest, tyx, zx, hb⟩ := hpre.2 0 (.view 1) rfl
  rw [hE1] at hb
  have hsrc : Src P i.size t (.slice (some ⟨(ρ 0).1, o0, none⟩) n (natV (den V ρ capx))) n L w := by
    refine Src.ofSlice w T.at_ _ n _ L (by rw [T.sz]; exact hL) (fun j u hj => ?_) h1
    rw [addr_off', cells_at hb]
    rw [← hR, List.getElem?_take] at hj
    split at hj
    · rw [List.getElem?_drop] at hj
      rw [List.getElem?_append_left (List.getElem?_eq_some_iff.1 hj).1]; exact hj
    · cases hj
  have hrun := run_append_grow_src (P := P) w t t o.type e i z T.at_ T.info T.zero none 0 0 [] (by simp [Builtin.firstCells]) _ n L hsrc (by omega) (by unfold maxLen at hmax; omega) (by rw [T.byt]; exact growslice_fits (by omega) (by rw [Nat.zero_add]; exact hby))
  rw [exec_append htag ha]
  simp only [Nat.zero_add, List.nil_append, Nat.sub_zero] at hrun
  simp only [Sem.run_bind, hrun, Result.andThen, Sem.run_pure]
  let cap := grownCap w n 0 e
  have hge : n ≤ cap := grownCap_ge w n 0 e
  let ρ' : Nat → Nat × Nat := fun k => if k = 1 then (w.heap.size, cap) else ρ k
  refine ⟨ρ', fun k hk => ?_, fun j hj => .inl ?_, fun a b ha hb _ => ?_, ?_, fun k bk hk => by simp at hk, fun j bk hj => ?_, fr_alloc w _ _⟩
  · have : k = 0 := by simpa using hk
    subst this; rfl
  · have : j = 0 := by simpa using hj
    subst this; exact Nat.le_refl _
  · have h1 : a = 0 := by simpa using ha
    have h2 : b = 0 := by simpa using hb
    rw [h1, h2]
  · have hev' : natV (den V ρ' (.ev 0 0)) = n := hev
    show Value.slice _ n cap = Value.slice (some ⟨(ρ' 1).1, _, none⟩) (natV (den V ρ' (.ev 0 0))) _
    rw [hev']; rfl
  · match j with
    | 0 =>
      cases hj
      have hzl : z.cells.toList.length = size := by rw [Array.length_toList]; exact T.zs
      refine ⟨?_, by show _ ≤ cap * _; rw [hE2, hz, hzl, hL]; exact Nat.mul_le_mul_right _ hge⟩
      show (w.drew.heap.push _)[w.heap.size]? = some (Obj.cells (V.E.getD 2 [] ++ spare (dl V ρ' zS) (cap * (dl V ρ' zS).length - (V.E.getD 2 []).length)).toArray e (0, 0))
      have hsz : w.heap.size = w.drew.heap.size := rfl
      rw [hsz, Array.getElem?_push_size, hE2, hz, zero_spare T.zs h0]
      rw [hzl, hL, ← Nat.sub_mul]
      simp
      rfl
    | _ + 1 => simp at hj
end
end RX
end Go.Proofs.Ytieencpejpeenaa
end
