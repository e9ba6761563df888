/- Maps whose keys are plain, on paper. Loops over objects that change from round to round: maps. -/
import Derived.Test.YtbmokmkaebfneaaRY3
import Derived.Test.YtbmokmkaebfneaaRY2
import Derived.WideKeyRuns
import Derived.Test.YtbmokmkaebfneaaRY4
import Derived.Test.YtbmokmkaebfneaaRYE
section
namespace Go.Proofs.Ytbmokmkaebfneaa
open Go.RowKit
namespace RX
set_option linter.unnecessarySimpa false
set_option linter.unusedVariables false
set_option linter.unusedSimpArgs false
section
variable {P : Program}
mutual
theorem check_leafT (em : Bool) : ∀ (d : Nat) (t : TypeId) (ks : List LK), leafT P d t = some ks → ∀ (M : Nat) (xs : List Value) (w : World), d ≤ M → fitsB ks xs = true → (Instr.checkKey em M t (valT P t xs)).run P w = .ok () w
  | 0, _, _, h => by simp [leafT] at h
  | d + 1, t, ks, h => by
    intro M xs w hM hx
    obtain ⟨M, rfl⟩ : ∃ k, M = k + 1 := ⟨M - 1, by omega⟩
    have one : ∀ {k : LK}, fitsB [k] xs = true → ∃ a, xs = [a] ∧ k.fits a = true := by
      intro k hx
      have lx := fitsB_len hx
      match xs, lx with
      | [a], _ => simp only [fitsB, Bool.and_true] at hx; exact ⟨a, rfl, hx⟩
    unfold leafT at h
    split at h
    · rename_i k hu
      cases h
      obtain ⟨a, rfl, ha⟩ := one hx
      have hr : rowOf P t = some false := by unfold rowOf; rw [hu]
      unfold valT; rw [hr]
      cases a <;> simp [LK.fits] at ha
      simp [Instr.checkKey, run_underlying hu]
    · rename_i hu
      cases h
      obtain ⟨a, rfl, ha⟩ := one hx
      have hr : rowOf P t = some false := by unfold rowOf; rw [hu]
      unfold valT; rw [hr]
      cases a <;> simp [LK.fits] at ha
      simp [Instr.checkKey, run_underlying hu]
    · rename_i hu
      cases h
      obtain ⟨a, rfl, ha⟩ := one hx
      have hr : rowOf P t = some false := by unfold rowOf; rw [hu]
      unfold valT; rw [hr]
      cases a <;> simp [LK.fits] at ha
      simp [Instr.checkKey, run_underlying hu]
    · rename_i n e hu
      have hr : rowOf P t = some true := by unfold rowOf; rw [hu]
      split at h
      · rename_i l sz r hl hs hre
        obtain ⟨hq, he⟩ := cond_bind h
        cases he
        have hlen := Nat.eq_of_beq_eq_true hq
        unfold valT; rw [hr]
        show (Instr.checkKey em (M + 1) t (.agg xs.toArray)).run P w = _
        rw [Instr.checkKey]
        simp only [Sem.run_bind, run_underlying hu, Result.andThen_ok]
        simp only [Std.Legacy.Range.forIn_eq_forIn_range', Std.Legacy.Range.size, Nat.sub_zero, Nat.add_one_sub_one, Nat.div_one]
        have h1 : r = false → sz = 1 := fun hf => by rw [hf] at hre; rw [← hlen]; exact leafT_len hl hre
        have key : ∀ (n i : Nat), fitsB (repK l n) (xs.drop (i * sz)) = true → (forIn (List.range' i n) PUnit.unit (fun i _ => do
            Instr.checkKey em M e (← part e xs.toArray (i * (← sizeOf e)))
            pure (ForInStep.yield PUnit.unit)) : Sem PUnit).run P w = .ok PUnit.unit w := by
          intro n
          induction n with
          | zero => intro i _; simp
          | succ n ih =>
            intro i hx
            have fx := fitsB_app (ks := l) hx
            rw [hlen] at fx
            have lx := fitsB_len fx.1
            rw [hlen, List.length_take, List.length_drop] at lx
            rw [List.drop_drop, show i * sz + sz = (i + 1) * sz by rw [Nat.add_mul, Nat.one_mul]] at fx
            have px : (part e xs.toArray (i * sz)).run P w = .ok (valT P e ((xs.drop (i * sz)).take sz)) w := by
              by_cases h0 : sz = 0
              · subst h0
                have := part_valT (xs := xs) (off := i * 0) hre hs h1 (by simp) w
                simpa using this
              · exact part_valT hre hs h1 (by omega) w
            have hc := check_leafT em d e l hl M _ w (by omega) fx.1
            rw [List.range'_succ]
            simp only [List.forIn_cons, Sem.run_bind, sizeT_run hs, Result.andThen_ok, px, hc, Sem.run_pure]
            exact ih (i + 1) fx.2
        rw [key n 0 (by simpa using hx)]; rfl
      · cases h
    · rename_i fs hu
      have hr : rowOf P t = some true := by unfold rowOf; rw [hu]
      cases hst : P.stoodInHeld t with
      | true => rw [hst] at h; cases h
      | false =>
        rw [hst] at h
        simp only [cond_false] at h
        unfold valT; rw [hr]
        show (Instr.checkKey em (M + 1) t (.agg xs.toArray)).run P w = _
        rw [Instr.checkKey]
        simp only [Sem.run_bind, run_underlying hu, Result.andThen_ok]
        rw [← Array.forIn_toList]
        rw [check_leafF em d fs.toList 0 ks h M xs w (by omega) (by simpa using hx)]; rfl
    · cases h
theorem check_leafF (em : Bool) : ∀ (d : Nat) (fs : List Field) (off : Nat) (ks : List LK), leafF P d fs off = some ks → ∀ (M : Nat) (xs : List Value) (w : World), d ≤ M → fitsB ks (xs.drop off) = true →
    (forIn fs PUnit.unit (fun f _ => do
      if f.name ≠ "_" then (do
        Instr.checkKey em M f.type (← part f.type xs.toArray f.offset)
        pure (ForInStep.yield PUnit.unit)) else pure (ForInStep.yield PUnit.unit)) : Sem PUnit).run P w = .ok PUnit.unit w
  | d, [], off, ks, h => by intro M xs w hM hx; simp
  | 0, f :: r, off, ks, h => by simp [leafF] at h
  | d + 1, f :: r, off, ks, h => by
    intro M xs w hM hx
    unfold leafF at h
    obtain ⟨hq, h⟩ := cond_bind h
    simp only [Bool.and_eq_true] at hq
    have hoff := Nat.eq_of_beq_eq_true hq.1
    have hname : f.name ≠ "_" := by simpa using hq.2
    split at h
    · rename_i l sz rr hl hs hre
      obtain ⟨hq2, h⟩ := cond_bind h
      have hlen := Nat.eq_of_beq_eq_true hq2
      split at h
      · rename_i q hrest
        cases h
        have fx := fitsB_app (ks := l) hx
        rw [hlen] at fx
        have lx := fitsB_len fx.1
        rw [hlen, List.length_take, List.length_drop] at lx
        rw [List.drop_drop] at fx
        have h1 : rr = false → sz = 1 := fun hf => by rw [hf] at hre; rw [← hlen]; exact leafT_len hl hre
        have hrec := check_leafF em d r (off + sz) q hrest M xs w (by omega) fx.2
        have he := check_leafT em d f.type l hl M _ w (by omega) fx.1
        have px : (part f.type xs.toArray f.offset).run P w = .ok (valT P f.type ((xs.drop off).take sz)) w := by
          rw [hoff]
          by_cases h0 : sz = 0
          · subst h0
            have hrow : rr = true := by cases rr with | true => rfl | false => exact absurd (h1 rfl) (by omega)
            subst hrow
            have hagg : (isAgg f.type).run P w = .ok true w := by
              unfold rowOf at hre; unfold isAgg
              split at hre
              · rename_i fs hu; rw [Sem.run_bind, run_underlying hu w]; rfl
              · rename_i n' e' hu; rw [Sem.run_bind, run_underlying hu w]; rfl
              · cases hre
              · cases hre
            unfold part valT
            rw [Sem.run_bind, hagg, hre]
            simp only [Result.andThen, if_true, Sem.run_bind, sizeT_run hs, Sem.run_pure]
            congr 2
            apply Array.toList_inj.1
            simp
          · exact part_valT hre hs h1 (by omega) w
        simp only [List.forIn_cons, if_pos hname, Sem.run_bind, px, Result.andThen_ok, he, Sem.run_pure]
        exact hrec
      · cases h
    · cases h
end
end
/-! A map on paper: its entries in order, none taken out so far. -/
def entsOf : Nat → List (List Value × Value) → List MapEntry
  | _, [] => []
  | i, x :: r => ⟨.agg x.1.toArray, x.2, i⟩ :: entsOf (i + 1) r
def mapO (l : List (List Value × Value)) : Obj := .map (entsOf 0 l).toArray l.length
/-- Where a key is. -/
def atK (k : List Value) : List (List Value × Value) → Option Nat
  | [] => none
  | x :: r => cond (eqL k x.1) (some 0) ((atK k r).map (· + 1))
def putK (k : List Value) (v : Value) (l : List (List Value × Value)) : List (List Value × Value) := match atK k l with
  | some j => l.set j (k, v)
  | none => l ++ [(k, v)]
theorem ents_len : ∀ (i : Nat) (l : List (List Value × Value)), (entsOf i l).length = l.length
  | _, [] => rfl
  | i, x :: r => by simp [entsOf, ents_len (i + 1) r]
theorem ents_get : ∀ (l : List (List Value × Value)) (i j : Nat), (entsOf i l)[j]? = (l[j]?).map fun x => ⟨.agg x.1.toArray, x.2, i + j⟩
  | [], i, j => by simp [entsOf]
  | x :: r, i, 0 => by simp [entsOf]
  | x :: r, i, j + 1 => by
    simp only [entsOf, List.getElem?_cons_succ]
    rw [ents_get r (i + 1) j, show i + 1 + j = i + (j + 1) by omega]
theorem ents_app : ∀ (l : List (List Value × Value)) (i : Nat) (x : List Value × Value), entsOf i (l ++ [x]) = entsOf i l ++ [⟨.agg x.1.toArray, x.2, i + l.length⟩]
  | [], i, x => by simp [entsOf]
  | y :: r, i, x => by
    simp only [List.cons_append, entsOf, ents_app r (i + 1) x, List.length_cons, show i + 1 + r.length = i + (r.length + 1) by omega]
theorem atK_some {k : List Value} : ∀ {l : List (List Value × Value)} {j : Nat}, atK k l = some j → ∃ x, l[j]? = some x ∧ eqL k x.1 = true
  | [], _, h => by simp [atK] at h
  | x :: r, j, h => by
    simp only [atK] at h
    cases he : eqL k x.1 with
    | true => rw [he] at h; cases h; exact ⟨x, rfl, he⟩
    | false =>
      rw [he] at h
      obtain ⟨i, hi, rfl⟩ := Option.map_eq_some_iff.1 h
      obtain ⟨y, h1, h2⟩ := atK_some hi
      exact ⟨y, by simpa using h1, h2⟩
section
variable {P : Program} {t kt et : TypeId} {ks : List LK}
/-- A key's type. -/
structure KeyIs (P : Program) (kt : TypeId) (ks : List LK) : Prop where
  ks : leafT P 50 kt = some ks
  row : rowOf P kt = some true
  wide : (match P.underlying kt with | some (.array _ _) | some (.struct _) => true | _ => false) = true
theorem key_find (K : KeyIs P kt ks) {k : List Value} (fk : fitsB ks k = true) (w : World) : ∀ (l : List (List Value × Value)) (i j : Nat), (∀ x, x ∈ l → fitsB ks x.1 = true) →
    ∃ v : Nat → Value, (Instr.findAsking kt (.agg k.toArray) (entsOf i l) j).run P w = .ok ((atK k l).map fun n => (j + n, v n)) w
  | [], i, j, _ => ⟨fun _ => undef, by simp [entsOf, atK, Instr.findAsking]⟩
  | x :: r, i, j, h => by
    have he := eq_leafT 50 kt ks K.ks 10000 k x.1 w (by omega) fk (h x (List.mem_cons_self ..))
    unfold valT at he
    rw [K.row] at he
    have he' : (Op.equal kt (.agg k.toArray) (.agg x.1.toArray)).run P w = .ok (eqL k x.1) w := he
    obtain ⟨v, hv⟩ := key_find K fk w r (i + 1) (j + 1) (fun y hy => h y (List.mem_cons_of_mem _ hy))
    cases hq : eqL k x.1 with
    | true =>
      refine ⟨fun _ => x.2, ?_⟩
      simp [entsOf, atK, Instr.findAsking, he', hq]
    | false =>
      refine ⟨fun n => v (n - 1), ?_⟩
      simp only [entsOf, atK, Instr.findAsking, Sem.run_bind, he', hq, Result.andThen, Bool.false_eq_true, if_false, hv, cond_false]
      cases atK k r with
      | none => rfl
      | some n => simp; omega
theorem byte_self (x : ByteArray) : (x == x) = true := by
  obtain ⟨x⟩ := x
  show (x == x) = true
  simp
theorem same_one {k : LK} {v : Value} (h : k.fits v = true) (n : Nat) : Instr.sameBits n v v = true := by
  cases k <;> cases v <;> simp [LK.fits] at h <;> cases n <;> simp [Instr.sameBits] <;> exact byte_self _
theorem same_fits : ∀ {ks : List LK} {xs : List Value}, fitsB ks xs = true → ∀ n, ((xs.zip xs).all fun (x, y) => Instr.sameBits n x y) = true
  | [], [], _, _ => rfl
  | k :: ks, x :: xs, h, n => by
    simp only [fitsB, Bool.and_eq_true] at h
    simp only [List.zip_cons_cons, List.all_cons, Bool.and_eq_true]
    exact ⟨same_one h.1 n, same_fits h.2 n⟩
  | [], _ :: _, h, _ => by simp [fitsB] at h
  | _ :: _, [], h, _ => by simp [fitsB] at h
theorem key_stays {k : List Value} (fk : fitsB ks k = true) (w : World) : (Instr.keyThatStays (.agg k.toArray) (.agg k.toArray)).run P w = .ok (.agg k.toArray) w := by
  have : Instr.sameBits 10000 (.agg k.toArray) (.agg k.toArray) = true := by
    show ((k.toArray.size == k.toArray.size) && (k.toArray.toList.zip k.toArray.toList).all fun (x, y) => Instr.sameBits 9999 x y) = true
    rw [Bool.and_eq_true]
    exact ⟨by simp, same_fits fk 9999⟩
  unfold Instr.keyThatStays
  rw [if_pos this]; rfl
theorem mapO_put {k : List Value} {v : Value} {l : List (List Value × Value)} {j : Nat} (h : atK k l = some j) : (entsOf 0 l).toArray.modify j (fun e => { e with key := .agg k.toArray, val := v }) = (entsOf 0 (l.set j (k, v))).toArray := by
  obtain ⟨x, hx, _⟩ := atK_some h
  have hj := (List.getElem?_eq_some_iff.1 hx).1
  apply Array.ext'
  apply List.ext_getElem?
  intro n
  simp only [Array.toList_modify, ents_get, List.getElem?_modify, List.getElem?_set]
  by_cases hn : j = n
  · subst hn
    simp [hx, hj]
  · simp [hn]
theorem run_put (ht : P.underlying t = some (.map kt et)) (K : KeyIs P kt ks) {w : World} {b : Nat} {l : List (List Value × Value)} (hb : w.heap[b]? = some (mapO l)) {k : List Value} (fk : fitsB ks k = true) (fl : ∀ x, x ∈ l → fitsB ks x.1 = true) (v : Value) :
    (Instr.mapUpdate t (.map (some b)) (.agg k.toArray) v).run P w = .ok () { w with heap := w.heap.setIfInBounds b (mapO (putK k v l)) } := by
  have hb' : w.heap[b]? = some (.map (entsOf 0 l).toArray l.length) := hb
  have hc : (Instr.checkKey false 10000 kt (.agg k.toArray)).run P w = .ok () w := by
    have := check_leafT false 50 kt ks K.ks 10000 k w (by omega) fk
    unfold valT at this
    rwa [K.row] at this
  obtain ⟨f, hf⟩ := key_find K fk w l 0 0 fl
  have hf' : (Instr.findKey kt (.agg k.toArray) (entsOf 0 l)).run P w = .ok ((atK k l).map fun n => (0 + n, f n)) w := (run_findKey_eq w K.wide _ _).trans hf
  cases ha : atK k l with
  | none =>
    rw [ha] at hf'
    have e : mapO (putK k v l) = .map ((entsOf 0 l).toArray.push ⟨.agg k.toArray, v, l.length⟩) (l.length + 1) := by
      unfold putK mapO
      rw [ha]
      simp only [ents_app, List.length_append, List.length_singleton, Nat.zero_add, List.push_toArray]
    rw [e]
    simp [Instr.mapUpdate, run_underlying ht, MapKept.run_getObj_map hb', hc, hf', MapKept.run_setObj_map _ hb', Result.andThen]
  | some j =>
    rw [ha] at hf'
    obtain ⟨x, hx, hq⟩ := atK_some ha
    have hk : x.1 = k := ((eqL_iff fk (fl x (List.mem_of_getElem? hx))).1 hq).symm
    have hg : (entsOf 0 l)[j]? = some ⟨.agg k.toArray, x.2, j⟩ := by rw [ents_get, hx, Option.map_some, hk, Nat.zero_add]
    have e : mapO (putK k v l) = .map ((entsOf 0 l).toArray.modify j (fun e => { e with key := .agg k.toArray, val := v })) l.length := by
      unfold putK
      rw [ha]
      unfold mapO
      rw [mapO_put ha, List.length_set]
    rw [e]
    simp [Instr.mapUpdate, run_underlying ht, MapKept.run_getObj_map hb', hc, hf', hg, key_stays fk w, MapKept.run_setObj_map _ hb', Result.andThen]
theorem tag_new {o : Oper} {t : TypeId} (h : tagOf o = some [2, t]) : o.op = .makeMap t none := by
  unfold tagOf at h
  split at h <;> first
    | (simp at h; done)
    | (rename_i heq; simp only [Option.some.injEq, List.cons.injEq, and_true, true_and] at h; rw [heq, h])
    | (simp at h; omega)
/-- make of a map. -/
theorem map_new (ht : P.underlying t = some (.map kt et)) {V : Env} (hO : V.O.getD 0 noObj = mapO []) : Ct.ValidOp P [2, t] ⟨.nil, [], [], [.ob 0], .mp 0⟩ V := by
  intro ρ w o ev htag hargs hpre
  have hop := tag_new htag
  have hrun : (execOp ev o).run P w = .ok (.value (.map (some w.heap.size))) (w.alloc (.map #[] 0)) := by
    unfold execOp
    simp only [hop]
    rfl
  rw [hrun]
  refine ⟨fun _ => (w.heap.size, 0), fun i hi => absurd hi (Nat.not_lt_zero _), fun j hj => .inl (Nat.le_refl _), fun a b ha hb _ => ?_, rfl, fun k bk hk => by simp at hk, fun j bk hj => ?_, ?_⟩
  · have h1 : a = 0 := by simpa using ha
    have h2 : b = 0 := by simpa using hb
    rw [h1, h2]
  · match j with
    | 0 =>
      cases hj
      show (w.heap.push _)[w.heap.size]? = some (V.O.getD 0 noObj)
      rw [hO, Array.getElem?_push_size]; rfl
    | _ + 1 => simp at hj
  · exact Fr.of_below (Below.alloc (Below.refl _ _) (Nat.le_refl _) _) _
theorem tag_put {o : Oper} {t : TypeId} (h : tagOf o = some [5, t]) : ∃ m k v, o.op = .mapUpdate t m k v := by
  unfold tagOf at h
  split at h <;> first
    | (simp at h; done)
    | (rename_i heq; simp only [Option.some.injEq, List.cons.injEq, and_true, true_and] at h; subst h; exact ⟨_, _, _, heq⟩)
    | (simp at h; omega)
/-- m[k] = v. -/
theorem map_put (ht : P.underlying t = some (.map kt et)) (K : KeyIs P kt ks) {l : List (List Value × Value)} {k : List Value} {v : Value} (fk : fitsB ks k = true) (fl : ∀ x, x ∈ l → fitsB ks x.1 = true) {kS vS : SV} {V : Env}
    (hO : V.O.getD 0 noObj = mapO l) (hO1 : V.O.getD 1 noObj = mapO (putK k v l)) (hk : ∀ ρ, dl V ρ kS = [.agg k.toArray]) (hv : ∀ ρ, dl V ρ vS = [v]) : Ct.ValidOp P [5, t] ⟨.cons (.mp 0) (.cons kS (.cons vS .nil)), [.ob 0], [some (.ob 1)], [], .any⟩ V := by
  intro ρ w o ev htag hargs hpre
  obtain ⟨m, x, y, hop⟩ := tag_put htag
  have ha : [ev m, ev x, ev y] = [.map (some (ρ 0).1), .agg k.toArray, v] := by
    have : o.op.operands.toList.map ev = [ev m, ev x, ev y] := by rw [hop]; rfl
    rw [← this, hargs]
    show [Value.map (some (ρ 0).1)] ++ (dl V ρ kS ++ (dl V ρ vS ++ [])) = _
    rw [hk, hv]; rfl
  simp only [List.cons.injEq, and_true] at ha
  have hb : w.heap[(ρ 0).1]? = some (mapO l) := by rw [← hO]; exact hpre.2 0 (.ob 0) rfl
  have hrun : (execOp ev o).run P w = .ok .skip { w with heap := w.heap.setIfInBounds (ρ 0).1 (mapO (putK k v l)) } := by
    unfold execOp
    simp only [hop, ha.1, ha.2.1, ha.2.2]
    simp [run_put ht K hb fk fl v, Result.andThen]
  rw [hrun]
  have hlt := lt_of_heap hb
  refine ⟨ρ, fun _ _ => rfl, fun j hj => absurd hj (Nat.not_lt_zero _), fun i j hi => absurd hi (Nat.not_lt_zero _), rfl, fun i bk hi => ?_, fun j bk hj => by simp at hj, ⟨rfl, rfl, rfl, ?_, fun b hb' hn => ?_⟩⟩
  · match i with
    | 0 =>
      cases hi
      show (w.heap.setIfInBounds (ρ 0).1 _)[(ρ 0).1]? = some (V.O.getD 1 noObj)
      rw [hO1, Array.getElem?_setIfInBounds_self_of_lt hlt]
    | _ + 1 => simp at hi
  · show w.heap.size ≤ (w.heap.setIfInBounds _ _).size
    simp
  · show (w.heap.setIfInBounds _ _)[b]? = _
    rw [Array.getElem?_setIfInBounds_ne (fun e => hn ⟨0, .ob 1, rfl, e⟩)]
theorem tag_len {o : Oper} {ty t : TypeId} (h : tagOf o = some [22, ty, t]) : ∃ c : Call, o.op = .call c ∧ o.type = ty ∧ c.callee = .builtin .len ∧ c.argTypes = #[t] := by
  unfold tagOf at h
  split at h <;> first
    | (simp at h; done)
    | (rename_i args ts heq; simp only [Option.some.injEq, List.cons.injEq, true_and] at h; exact ⟨_, heq, h.1, rfl, by rw [← Array.toList_inj]; exact h.2⟩)
    | (simp at h; omega)
/-- len of a map. -/
theorem map_len (ht : P.underlying t = some (.map kt et)) {l : List (List Value × Value)} {V : Env} (hO : V.O.getD 0 noObj = mapO l) (hE : V.E.getD 0 [] = nI l.length) {ty : TypeId} : Ct.ValidOp P [22, ty, t] ⟨.cons (.mp 0) .nil, [.ob 0], [], [], .ev 0 0⟩ V := by
  intro ρ w o ev htag hargs hpre
  obtain ⟨c, hop, _, hc, hts⟩ := tag_len htag
  have hb : w.heap[(ρ 0).1]? = some (mapO l) := by rw [← hO]; exact hpre.2 0 (.ob 0) rfl
  have hb' : w.heap[(ρ 0).1]? = some (.map (entsOf 0 l).toArray l.length) := hb
  have ha : c.args.map ev = #[.map (some (ρ 0).1)] := by
    apply Array.toList_inj.1
    have : o.op.operands.toList.map ev = [Value.map (some (ρ 0).1)] := hargs
    rw [hop] at this
    rw [← this]
    simp [Op.operands, Call.operands, hc]
  have hrun : (execOp ev o).run P w = .ok (.value (.int .i64 (l.length : Int))) w := by
    unfold execOp
    simp only [hop]
    unfold resolve
    simp [hc, ha, hts, invoke, builtin, Builtin.len_, run_underlying ht, MapKept.run_getObj_map hb', goInt, ents_len, Result.andThen]
  rw [hrun]
  refine ⟨ρ, fun _ _ => rfl, fun j hj => absurd hj (Nat.not_lt_zero _), fun i j hi => absurd hi (Nat.not_lt_zero _), ?_, fun i bk hi => by simp at hi, fun j bk hj => by simp at hj, Fr.refl _ _⟩
  show _ = (V.E.getD 0 []).getD 0 undef
  rw [hE]; rfl
end
end RX
end Go.Proofs.Ytbmokmkaebfneaa
end
section
namespace Go.Proofs.Ytbmokmkaebfneaa
open Go.RowKit
open RX
set_option linter.unusedVariables false
namespace RX
def obsW (R W : List Nat) : Nat → List Bk → Bool
  | _, [] => true
  | i, b :: r => (R.any (Nat.beq i) || (W.any (Nat.beq i) || (match b with | .ob _ => false | _ => true))) && obsW R W (i + 1) r
theorem obsW_get {R W : List Nat} : ∀ {l : List Bk} {i k : Nat} {b : Bk}, obsW R W i l = true → l[k]? = some b → R.any (Nat.beq (i + k)) = false → W.any (Nat.beq (i + k)) = false → ∀ j, b ≠ .ob j
  | [], _, _, _, _, h, _, _ => by simp at h
  | c :: r, i, 0, b, h, hb, hR, hW => by
    simp at hb; subst hb
    rw [Nat.add_zero] at hR hW
    simp only [obsW, Bool.and_eq_true, hR, hW, Bool.false_or] at h
    intro j e
    subst e
    cases h.1
  | c :: r, i, k + 1, b, h, hb, hR, hW => by
    simp only [obsW, Bool.and_eq_true] at h
    exact obsW_get (i := i + 1) (k := k) h.2 (by simpa using hb) (by rwa [show i + 1 + k = i + (k + 1) by omega]) (by rwa [show i + 1 + k = i + (k + 1) by omega])
theorem sameE_E {A B : Env} : ∀ {K : List Nat}, sameE A B K → sameE ⟨A.E, B.O⟩ B K
  | [], _ => trivial
  | x :: r, h => ⟨h.1, sameE_E h.2⟩
theorem dl_E {A : Env} {O : List Obj} {ρ : Nat → Nat × Nat} {l : SV} : dl ⟨A.E, O⟩ ρ l = dl A ρ l := by
  induction l
  case ev i j => rfl
  all_goals simp_all [dl]
theorem staysO {g : Sg} {R W : List Nat} (K : List Nat) {V : Nat → Env} {m : Nat} (hB : stayAll (nextIds g.pre.length R) R W K 0 g.pre = true) (hN : obsW R W 0 g.pre = true) (hV : ∀ k, sameE (V k) (V (k + 1)) K) :
    ∀ k, k < m → ∀ (i : Nat) (b : Bk), g.pre[i]? = some b → R.any (Nat.beq i) = false → W.any (Nat.beq i) = false → b.rnI (nextIds g.pre.length R) = b ∧ ∀ ρ o, b.holds (V k) ρ o → b.holds (V (k + 1)) ρ o := fun k _ i b hb hR hW => by
  obtain ⟨h1, h2⟩ := stayAll_get hB hb (by rwa [Nat.zero_add]) (by rwa [Nat.zero_add])
  have h3 := obsW_get hN hb (by rwa [Nat.zero_add]) (by rwa [Nat.zero_add])
  refine ⟨stayB_spec h1, fun ρ o hh => ?_⟩
  have hs : sameE ⟨(V k).E, (V (k + 1)).O⟩ (V (k + 1)) K := by
    exact sameE_E (hV k)
  have hh' : b.holds ⟨(V k).E, (V (k + 1)).O⟩ ρ o := by
    have hd : ∀ l : SV, dl ⟨(V k).E, (V (k + 1)).O⟩ ρ l = dl (V k) ρ l := fun l => dl_E
    cases b with
    | ob i => exact absurd rfl (h3 i)
    | cs t l => exact (show o = some (.cells (dl (V k) ρ l).toArray t (0, 0)) from hh).trans (by rw [← hd]; rfl)
    | row t i => exact hh
    | view i => exact hh
    | gone => trivial
    | own t i c z =>
      have e : (o = some (.cells ((V k).E.getD i [] ++ spare (dl (V k) ρ z) ((ρ c).2 * (dl (V k) ρ z).length - ((V k).E.getD i []).length)).toArray t (0, 0)) ∧ ((V k).E.getD i []).length ≤ (ρ c).2 * (dl (V k) ρ z).length) := hh
      rw [← hd] at e; exact e
  exact holds_same hs rfl h2 hh'
end RX
theorem segKO {f : FuncId} {fn : Func} (F : FnIs Try.prog f fn) (N : Nat) (code : Code) (O : List Obj) (K : List EK) (lens : List Nat) (Γ : List Gm) (S : List Sm) (g : Sg) (τ υ τ' υ' : List Nat) (fuel : Nat) (hs : List Hint) (outs : List Nat) (os : List Obl) (cs : List (Code × Nat)) (hl : K.map EK.len = lens) (hK : Nat.ble K.length 1000000 = true) (hO : Nat.ble O.length 1000000 = true)
    (h : sgCheck Try.prog Γ S lens N code g τ υ τ' υ' fuel hs outs = some (os, cs)) (hΓ : allG Try.prog ⟨K.map EK.val, O⟩ Γ) (ho : allO Try.prog ⟨K.map EK.val, O⟩ os) (hc : allC Try.prog N ⟨K.map EK.val, O⟩ S cs) : g.Valid Try.prog N code (Env.sub ⟨K.map EK.val, O⟩ τ υ) (Env.sub ⟨K.map EK.val, O⟩ τ' υ') := by
  subst hl
  exact segOK F (ek_vok O K) (by rw [List.length_map]; exact Nat.le_of_ble_eq_true hK) (Nat.le_of_ble_eq_true hO) h hΓ ho hc
end Go.Proofs.Ytbmokmkaebfneaa
end
