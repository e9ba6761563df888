/- A law's arguments: lists of plain structs. -/
import Derived.Test.YtbmokmkaebfneaaRXK
import Derived.Test.YtbmokmkaebfneaaRXN
import Derived.Deep.Slices
import Derived.Carry
namespace Go.Proofs.Ytbmokmkaebfneaa
open Go.ChangeShapes Go.WideShapes Go.ChangeAt Go.RowKit
namespace RX
set_option linter.unnecessarySimpa false
set_option linter.unusedVariables false
set_option linter.unusedSimpArgs false
theorem gather {T : Type} {Ok : T → Prop} {f : T → List Value} {size : Nat} {R : List Value} : ∀ (len o : Nat), (∀ i, i < len → ∃ x, Ok x ∧ (R.drop (o + i * size)).take size = f x) → ∃ l : List T, l.length = len ∧ (∀ t, t ∈ l → Ok t) ∧ (R.drop o).take (len * size) = l.flatMap f
  | 0, o, _ => ⟨[], rfl, fun t ht => by simp at ht, by simp⟩
  | n + 1, o, h => by
    obtain ⟨x, hx, hc⟩ := h 0 (by omega)
    obtain ⟨l, h1, h2, h3⟩ := gather (f := f) (Ok := Ok) n (o + size) (fun i hi => by
      obtain ⟨y, hy, hd⟩ := h (i + 1) (by omega)
      refine ⟨y, hy, ?_⟩
      rw [← hd, Nat.add_mul, Nat.one_mul, Nat.add_assoc, Nat.add_comm size])
    refine ⟨x :: l, by simp [h1], fun t ht => ?_, ?_⟩
    · rcases List.mem_cons.1 ht with rfl | ht
      · exact hx
      · exact h2 t ht
    · rw [List.flatMap_cons, ← h3, ← hc, show (n + 1) * size = size + n * size by rw [Nat.add_mul, Nat.one_mul, Nat.add_comm], List.take_add, List.drop_drop]
      simp
theorem mapM_cells {W : World} {a : Addr} : ∀ (k i : Nat) (cs : List Value), (List.range' i k).mapM (fun j => W.cell? (a.add j)) = some cs → cs.length = k ∧ ∀ j, j < k → W.cell? (a.add (i + j)) = cs[j]?
  | 0, i, cs, h => by simp at h; subst h; simp
  | k + 1, i, cs, h => by
    rw [List.range'_succ, List.mapM_cons] at h
    simp only [bind, Option.bind_eq_some_iff, pure, Option.some.injEq] at h
    obtain ⟨v, hv, r, hr, rfl⟩ := h
    obtain ⟨h1, h2⟩ := mapM_cells k (i + 1) r hr
    refine ⟨by simp [h1], fun j hj => ?_⟩
    cases j with
    | zero => simpa using hv
    | succ j => have := h2 j (by omega); rw [show i + (j + 1) = i + 1 + j by omega]; simpa using this
theorem cells_block {W : World} {base : Nat} {a : Addr} {n : Nat} {cs : List Value} (h : W.cells? base a n = some cs) (hn : 0 < n) : ∃ (C : Array Value) (t : TypeId) (z : Nat × Nat), W.heap[a.block]? = some (.cells C t z) ∧ a.spot = none ∧ (C.toList.drop a.off).take n = cs := by
  unfold World.cells? at h
  split at h
  case isFalse => cases h
  rw [List.range_eq_range'] at h
  obtain ⟨h1, h2⟩ := mapM_cells n 0 cs h
  have h0 := h2 0 hn
  rw [List.getElem?_eq_getElem (by omega)] at h0
  have ha0 : a.add (0 + 0) = a := by simp [Addr.add]
  rw [ha0] at h0
  unfold World.cell? at h0
  split at h0
  case h_2 => cases h0
  rename_i C t z hb
  split at h0
  case isTrue => cases h0
  rename_i hsp
  have hsp : a.spot = none := by cases hq : a.spot with | none => rfl | some x => rw [hq] at hsp; simp at hsp
  refine ⟨C, t, z, hb, hsp, ?_⟩
  have hcell : ∀ j, j < n → C[a.off + j]? = cs[j]? := fun j hj => by
    rw [← h2 j hj, Nat.zero_add]
    have hblk : (a.add j).block = a.block := by unfold Addr.add; split <;> rfl
    have hspj : (a.add j).spot = none := by unfold Addr.add; split <;> first | exact hsp | rfl
    have hoff : (a.add j).off = a.off + j := by unfold Addr.add; split <;> simp_all
    unfold World.cell?
    rw [hblk, hb]
    simp only [hspj, hoff]
    rfl
  apply List.ext_getElem?
  intro j
  rcases Nat.lt_or_ge j n with hj | hj
  · rw [List.getElem?_take_of_lt hj, List.getElem?_drop, ← hcell j hj, Array.getElem?_toList]
  · rw [List.getElem?_eq_none (by rw [List.length_take]; omega), List.getElem?_eq_none (by omega)]
section
variable {P : Program} {H : Type} {enc : TypeId × Value → H}
theorem open_recs {T : Type} {Ok : T → Prop} {f : T → List Value} {t e : TypeId} {size : Nat} {ks : List LK} (S : SliceIs P t e size) (E : PlainIs P e ks) (hks : ks.length = size) (h0 : 0 < size) (hread : ∀ cs : List Value, fitsB ks cs = true → cs.all wfV = true → ∃ x, Ok x ∧ cs = f x)
    {W : World} {base : Nat} {spare : Nat → Bool} {held : Bool} {a : Option Addr} {len cap : Nat} {d : DataW H} {p : List MemPlace} (h : DataW.Trod enc P W base spare held t (.slice a len cap) d p) :
    len = 0 ∨ ∃ (b o : Nat) (C : Array Value) (ty : TypeId) (z : Nat × Nat) (l : List T), a = some ⟨b, o, none⟩ ∧ W.heap[b]? = some (.cells C ty z) ∧ l.length = len ∧ (∀ t, t ∈ l → Ok t) ∧ (C.toList.drop o).take (len * size) = l.flatMap f ∧ len ≤ cap ∧ cap ≤ maxLen := by
  obtain ⟨fuel, hf⟩ := h
  rcases Deep.open_slice S.at_ hf with ⟨hcs, _⟩ | ⟨a', len', cap', m, n, D, Pl, hcs, hb, hl, hm, hmd, _, hel⟩
  · simp [Value.cells] at hcs
    exact .inl hcs.2.1
  · simp [Value.cells] at hcs
    obtain ⟨rfl, rfl, rfl⟩ := hcs
    rcases Nat.eq_zero_or_pos len with hz | hpos
    · exact .inl hz
    right
    have hle : len ≤ m := by rw [hmd]; split <;> omega
    have hsz := cellsOf_size S.size
    have el : ∀ i, i < len → ∃ cs', W.cells? base (a'.add (i * size)) size = some cs' ∧ fitsB ks cs' = true ∧ cs'.all wfV = true := fun i hi => by
      obtain ⟨cs', h1, h2⟩ := hel i (by omega)
      rw [hsz] at h1
      obtain ⟨k1, k2, _, _⟩ := trod_plain 50 e ks E.leaf E.size W base spare held n _ _ h2
      exact ⟨cs', h1, k1, k2⟩
    obtain ⟨cs0, c0, _, _⟩ := el 0 hpos
    have e0 : a'.add (0 * size) = a' := by simp [Addr.add]
    rw [e0] at c0
    obtain ⟨C, ty, z, hB, hsp, _⟩ := cells_block c0 h0
    obtain ⟨l, l1, l2, l3⟩ := gather (Ok := Ok) (f := f) (size := size) (R := C.toList) len a'.off (fun i hi => by
      obtain ⟨cs', h1, h2, h3⟩ := el i hi
      obtain ⟨x, hx, hxe⟩ := hread cs' h2 h3
      obtain ⟨C', ty', z', hB', _, hC'⟩ := cells_block h1 h0
      have hblk : (a'.add (i * size)).block = a'.block := by unfold Addr.add; split <;> rfl
      have hoff : (a'.add (i * size)).off = a'.off + i * size := by unfold Addr.add; split <;> simp_all
      rw [hblk, hB] at hB'
      cases hB'
      rw [hoff] at hC'
      exact ⟨x, hx, by rw [hC', hxe]⟩)
    refine ⟨a'.block, a'.off, C, ty, z, l, ?_, hB, l1, l2, l3, hl, hm⟩
    rw [← hsp]
end
/-- A contract that reads one block. -/
theorem Ct.Valid.calls1 {P : Program} {f : FuncId} {fn : Func} {V : Env} {args res : SV} {vs : Array Value} {v : Value} {i : Nat} (hv : Ct.Valid P f ⟨args, [.view i], [], [], res⟩ V) (F : FnIs P f fn) {b : Nat} (ha : ∀ ρ : Nat → Nat × Nat, (ρ 0).1 = b → dl V ρ args = vs.toList) (hr : ∀ ρ, den V ρ res = v) {w : World} {C : Array Value} {ty : TypeId} {z : Nat × Nat} (hb : w.heap[b]? = some (.cells C ty z)) (hC : V.E.getD i [] = C.toList) :
    Calls P f vs w fun e w' => e = .returned v ∧ Below w.heap.size w w' := by
  have h := hv (fun _ => (b, 0)) w ⟨fun i j hi hj _ _ => by simp at hi hj; omega, fun k bk hk => by
    match k with
    | 0 => cases hk; exact ⟨[], ty, z, by rw [hC]; simpa using hb⟩
    | _ + 1 => simp at hk⟩
  rw [callFunc_enter F.at_ F.name F.body] at h
  replace h : Calls P f (dl V _ args).toArray w _ := h
  rw [ha _ rfl, Array.toArray_toList] at h
  refine h.mono ?_
  rintro e w' ⟨u, rfl, ρ', _, _, _, hu, _, _, hfr⟩
  refine ⟨by rw [hu]; exact congrArg Ending.returned (hr ρ'), hfr.below fun b => ?_⟩
  rintro ⟨i, bk, hi, _⟩
  simp at hi
end RX
end Go.Proofs.Ytbmokmkaebfneaa
