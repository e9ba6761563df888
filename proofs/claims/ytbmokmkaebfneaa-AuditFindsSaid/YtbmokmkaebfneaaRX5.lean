/- What single operations do, proved of the model. -/
import Derived.Test.YtbmokmkaebfneaaRX4
namespace Go.Proofs.Ytbmokmkaebfneaa
open Go.RowKit
namespace RX
set_option linter.unnecessarySimpa false
set_option linter.unusedVariables false
set_option linter.unusedSimpArgs false
section
variable {P : Program} {V : Env} {av : Operand → SV} {o : Oper} {n0 : Nat}

/-! ### Memory -/
def fillA : Nat → List Value → Array Value → Array Value
  | _, [], cs => cs
  | i, y :: ys, cs => fillA (i + 1) ys (cs.setIfInBounds i y)
theorem fillA_list : ∀ (ys : List Value) (i : Nat) (cs : Array Value), i + ys.length ≤ cs.size → (fillA i ys cs).toList = cs.toList.take i ++ ys ++ cs.toList.drop (i + ys.length)
  | [], i, cs, _ => by simp [fillA]
  | y :: ys, i, cs, h => by
    have hl : i < cs.toList.length := by simp only [List.length_cons] at h; simpa using (by omega : i < cs.size)
    rw [fillA, fillA_list ys (i + 1) _ (by simpa using (by simp only [List.length_cons] at h; omega))]
    simp only [Array.toList_setIfInBounds, List.length_cons]
    rw [show (cs.toList.set i y).take (i + 1) = cs.toList.take i ++ [y] by
      rw [List.take_add_one, List.take_set_of_le (Nat.le_refl i), List.getElem?_set_self hl]; rfl]
    rw [List.drop_set_of_lt (by omega), show i + 1 + ys.length = i + (ys.length + 1) by omega]
    simp
theorem block_setCells : ∀ (vs : List Value) (w : World) (b o : Nat) (C : Array Value) (t : TypeId), w.heap[b]? = some (.cells C t (0, 0)) → (w.setCells b o vs).heap[b]? = some (.cells (fillA o vs C) t (0, 0))
  | [], _, _, _, _, _, h => h
  | v :: vs, w, b, o, C, t, h => by
    refine block_setCells vs (w.setCell ⟨b, o, none⟩ v) b (o + 1) _ t ?_
    simp only [World.setCell, Array.getElem?_modify, h]
    simp
theorem other_setCells : ∀ (vs : List Value) (w : World) (b o k : Nat), k ≠ b → (w.setCells b o vs).heap[k]? = w.heap[k]?
  | [], _, _, _, _, _ => rfl
  | v :: vs, w, b, o, k, h => by
    refine (other_setCells vs (w.setCell ⟨b, o, none⟩ v) b (o + 1) k h).trans ?_
    simp only [World.setCell, Array.getElem?_modify]
    rw [if_neg (by omega)]
theorem fr_setCells : ∀ (vs : List Value) (w : World) (b o : Nat), Fr w (w.setCells b o vs) (fun x => x = b)
  | [], w, _, _ => Fr.refl _ _
  | v :: vs, w, b, o => by
    have h1 : Fr w (w.setCell ⟨b, o, none⟩ v) (fun x => x = b) := ⟨rfl, rfl, rfl, by simp [World.setCell], fun k hk hn => by
      simp only [World.setCell, Array.getElem?_modify]; rw [if_neg (fun e => hn e.symm)]⟩
    exact h1.trans (fr_setCells vs _ b (o + 1)) (fun x _ h => h)
theorem fr_push (w : World) (ob : Obj) (A : Nat → Prop) : Fr w { w with heap := w.heap.push ob } A :=
  ⟨rfl, rfl, rfl, by simp, fun b hb _ => by show (w.heap.push ob)[b]? = _; rw [Array.getElem?_push, if_neg (by omega)]⟩
theorem range_of {w : World} {b : Nat} {C : Array Value} {t : TypeId} {z : Nat × Nat} (h : w.heap[b]? = some (.cells C t z)) (o : Nat) (l : List Value) (hl : (C.toList.drop o).take l.length = l) : w.rangeAt b o l := by
  intro j v hv
  have hj : j < l.length := (List.getElem?_eq_some_iff.1 hv).1
  rw [cell_of_row w b (o + j) C t z h, ← hv, ← hl, List.getElem?_take_of_lt (by simpa using hj), List.getElem?_drop, Array.getElem?_toList]
theorem there_of {w : World} {b : Nat} {C : Array Value} {t : TypeId} (h : w.heap[b]? = some (.cells C t (0, 0))) (o n : Nat) (hn : o + n ≤ C.size) : w.there b o n := fun j hj => by
  constructor
  · rw [cell_of_row w b (o + j) C t (0, 0) h, Array.getElem?_eq_getElem (by omega)]; rfl
  · simp [World.frozen?, h]

/-! ### The kinds of what is done -/
theorem post_pure {ρ : Nat → Nat × Nat} {w : World} {v : Value} {sv : SV} {rd : List (Nat × Bk)} (h : sv ≠ .any → v = den V ρ sv) : Post V n0 ρ w ⟨sv, rd, [], 0⟩ v w :=
  ⟨ρ, fun _ _ => rfl, fun id h1 h2 => by simp only at h2; omega, fun i j h1 h2 => by simp only at h2; omega, h, fun id bk hb => by simp [lkH] at hb, Fr.refl _ _⟩
theorem eff_pure {sv : SV} {rd : List (Nat × Bk)} (h : ∀ ρ (w : World) ev, (∀ x ∈ o.op.operands, av x ≠ .any → ev x = den V ρ (av x)) → (∀ id bk, lkH rd id = some bk → bk.holds V ρ w.heap[(ρ id).1]?) →
    ∃ v, (execOp ev o).run P w = .ok (.value v) w ∧ (sv ≠ .any → v = den V ρ sv)) : EffOK P V av o n0 ⟨sv, rd, [], 0⟩ := by
  intro ρ w ev hev hrd _
  obtain ⟨v, hv, hs⟩ := h ρ w ev hev hrd
  rw [hv]
  exact post_pure hs
/-- A new block of cells. -/
theorem eff_new {ty : TypeId} {l : SV} (h : ∀ ρ (w : World) ev, (∀ x ∈ o.op.operands, av x ≠ .any → ev x = den V ρ (av x)) →
    (execOp ev o).run P w = .ok (.value (.pointer (some ⟨w.heap.size, 0, none⟩))) { w with heap := w.heap.push (.cells (dl V ρ l).toArray ty (0, 0)) }) (hl : l.bd n0 = true) :
    EffOK P V av o n0 ⟨.ptr n0 .nil 0, [], [(n0, .cs ty l)], 1⟩ := by
  intro ρ w ev hev _ _
  rw [h ρ w ev hev]
  have hag : ∀ id, ¬ (n0 ≤ id ∧ id < n0 + 1) → (fun i => if i = n0 then (w.heap.size, 0) else ρ i) id = ρ id := fun id hid => if_neg (by omega)
  refine ⟨fun i => if i = n0 then (w.heap.size, 0) else ρ i, hag, ?_, ?_, ?_, ?_, ?_⟩
  · intro id h1 h2; simp only at h2; left; show w.heap.size ≤ (if id = n0 then (w.heap.size, 0) else ρ id).1; rw [if_pos (by omega)]; exact Nat.le_refl _
  · intro i j h1 h2 h3 h4; simp only at h2 h4; omega
  · intro _; show Value.pointer _ = .pointer _; simp [dl, natV, undef]
  · intro id bk hb
    simp only [lkH] at hb
    cases hq : Nat.beq n0 id with
    | false => rw [hq] at hb; cases hb
    | true =>
      rw [hq] at hb
      have e := Nat.eq_of_beq_eq_true hq
      subst e
      cases hb
      show (w.heap.push _)[(if n0 = n0 then (w.heap.size, 0) else ρ n0).1]? = _
      rw [if_pos rfl, Array.getElem?_push_size]
      show _ = some (Obj.cells _ _ _)
      rw [dl_out hag (SV.out_of_bd hl)]
  · exact fr_push _ _ _
/-- A block written. -/
theorem eff_store {id b0 : Nat} {bk bk' : Bk} {rd : List (Nat × Bk)} (hb0 : b0 = n0) (hrd0 : lkH rd id = some bk) (hid : id < n0) (h : ∀ ρ (w : World) ev, (∀ x ∈ o.op.operands, av x ≠ .any → ev x = den V ρ (av x)) → bk.holds V ρ w.heap[(ρ id).1]? →
    ∃ w', (execOp ev o).run P w = .ok .skip w' ∧ bk'.holds V ρ w'.heap[(ρ id).1]? ∧ Fr w w' (fun x => x = (ρ id).1)) : EffOK P V av o n0 ⟨.any, rd, [(id, bk')], 0⟩ := by
  intro ρ w ev hev hrd _
  obtain ⟨w', hw, hh, hf⟩ := h ρ w ev hev (hrd id bk hrd0)
  rw [hw]
  refine ⟨ρ, fun _ _ => rfl, fun i h1 h2 => by simp only at h2; omega, fun i j h1 h2 => by simp only at h2; omega, fun hc => absurd rfl hc, ?_, ?_⟩
  · intro i b hb
    simp only [lkH] at hb
    cases hq : Nat.beq id i with
    | false => rw [hq] at hb; cases hb
    | true =>
      rw [hq] at hb
      have e := Nat.eq_of_beq_eq_true hq
      subst e
      cases hb
      exact hh
  · refine hf.mono ?_
    rintro x _ rfl
    exact ⟨id, by simp [lkH, Nat.beq_refl], by simp only; omega, rfl⟩

/-! ### Runs of the model's operations -/
theorem run_load_row {w : World} {b off : Nat} {C : Array Value} {t ty : TypeId} {z : Nat × Nat} {l : List Value} (h : w.heap[b]? = some (.cells C t z)) (hr : rowOf P ty = some true) (hs : sizeT P ty = some l.length) (hl : (C.toList.drop off).take l.length = l) :
    (Instr.loadAt ty (.pointer (some ⟨b, off, none⟩))).run P w = .ok (.agg l.toArray) w := by
  unfold rowOf at hr
  split at hr
  · rename_i fs hu; exact run_loadAt_mid w b off ty l _ (range_of h off l hl) hu rfl hs
  · rename_i n e hu; exact run_loadAt_mid w b off ty l _ (range_of h off l hl) hu rfl hs
  · cases hr
  · cases hr
theorem run_load_one {w : World} {b off : Nat} {C : Array Value} {t ty : TypeId} {z : Nat × Nat} {v : Value} (h : w.heap[b]? = some (.cells C t z)) (hr : rowOf P ty = some false) (hv : C[off]? = some v) :
    (Instr.loadAt ty (.pointer (some ⟨b, off, none⟩))).run P w = .ok v w := by
  have hc := cell_of_row w b off C t z h
  rw [hv] at hc
  have hagg : (isAgg ty).run P w = .ok false w := by
    unfold rowOf at hr
    unfold isAgg
    split at hr
    · cases hr
    · cases hr
    · rename_i d h1 h2 hu
      rw [Sem.run_bind, run_underlying hu w]
      cases d <;> simp_all
    · cases hr
  simp [Instr.loadAt, Instr.sureAddr, loadVar, Sem.run_bind, hagg, hc]
theorem run_store_any {w : World} {b off : Nat} {C : Array Value} {t ty : TypeId} {v : Value} (h : w.heap[b]? = some (.cells C t (0, 0))) (hs : sizeT P ty = some v.cells.size) (ho : off + v.cells.size ≤ C.size) (h1 : ∀ x ∈ v.cells.toList, x.oneCell' = true) :
    (Instr.storeAt ty (.pointer (some ⟨b, off, none⟩)) v).run P w = .ok () (w.setCells b off v.cells.toList) := by
  have ht := there_of h off v.cells.size ho
  have hst := run_storeCells_cells (P := P) b off v.cells.toList 0 w (fun j hj => by simpa using (ht j (by simpa using hj)).1) (fun j hj => by simpa using (ht j (by simpa using hj)).2) (fun x hx => h1 x (by simpa using hx))
  unfold sizeT at hs
  cases hq : P.info? ty with
  | none => rw [hq] at hs; cases hs
  | some i =>
    rw [hq] at hs
    have hz : v.cells.size = i.size := by simpa using hs.symm
    simp only [Nat.add_zero] at hst
    simp [Instr.storeAt, Instr.sureAddr, storeVar, sizeOf, typeInfo, hq, hz, hst]
theorem run_alloc {w : World} {ty : TypeId} {z : Value} (hz : (zeroValue ty).run P w = .ok z w) :
    (Instr.alloc ty true (.tuple #[])).run P w = .ok (.pointer (some ⟨w.heap.size, 0, none⟩)) { w with heap := w.heap.push (.cells z.cells ty (0, 0)) } := by
  simp [Instr.alloc, Sem.run_bind, hz, newVar, newRow]
theorem run_box {w : World} {ty : TypeId} {z : Value} :
    (Instr.box ty z).run P w = .ok (.pointer (some ⟨w.heap.size, 0, none⟩)) { w with heap := w.heap.push (.cells z.cells ty (0, 0)) } := by
  simp [Instr.box, newVar, newRow]
theorem run_bindValue {w w' : World} {x : Sem Value} {v : Value} (h : x.run P w = .ok v w') : (do pure (Next.value (← x)) : Sem Next).run P w = .ok (.value v) w' := by
  simp [h]
end
end RX
end Go.Proofs.Ytbmokmkaebfneaa
