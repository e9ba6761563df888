/- Lists of lists: the inner ones are plain values; a predicate on worlds tells what lies there. Rows that make() lays, stores into them. -/
import Derived.Test.YtbmokmkaebfneaaRY4
import Derived.Test.YtbmokmkaebfneaaRY2
import Derived.Laws.MakeOwn
namespace Go.Proofs.Ytbmokmkaebfneaa
open Go.RowKit
namespace RX
set_option linter.unnecessarySimpa false
set_option linter.unusedVariables false
set_option linter.unusedSimpArgs false
theorem roList_nil : ∀ {n i : Nat}, i < n → (roList [] n).any (Nat.beq i) = true
  | 0, _, h => by omega
  | n + 1, i, h => by
    have : roList [] (n + 1) = n :: roList [] n := by simp [roList, isWr]
    rw [this, List.any_cons]
    by_cases e : i = n
    · subst e; simp [Nat.beq_refl]
    · rw [roList_nil (n := n) (by omega), Bool.or_true]
theorem Ct.ValidSt.toJ {J : World → Prop} {P : Program} {f : FuncId} {c : Ct} {V : Env} (h : c.ValidSt J P f V) (hp : c.post = []) (hJ : ∀ w w', J w → Fr w w' (fun _ => False) → J w') : c.ValidJ J P f V := fun ρ w hj hpre => h ρ w (fun w' hfr => hJ w w' hj (hfr.mono (by
  rintro x _ ⟨i, hi, hro, _⟩
  rw [hp, roList_nil hi] at hro
  cases hro))) hpre
/-- An inner list. -/
structure In (T : Type) where
  a : Option Addr
  c : Nat
  l : List T
def inL {T : Type} (t : In T) : List Value := [.slice t.a t.l.length t.c]
theorem inL_len {T : Type} (t : In T) : (inL t).length = 1 := rfl
theorem one_in {T : Type} (t : In T) : ∀ j, j < 1 → ((inL t).getD j undef).oneCell' = true := one_slice _ _ _
section
variable {T : Type} {f : T → List Value} {size : Nat}
/-- It lies there. -/
def In.Lies (f : T → List Value) (size : Nat) (w : World) (t : In T) : Prop := t.l = [] ∨ ∃ (b o : Nat) (C : Array Value) (ty : TypeId) (z : Nat × Nat), t.a = some ⟨b, o, none⟩ ∧ w.heap[b]? = some (.cells C ty z) ∧ (C.toList.drop o).take (t.l.length * size) = t.l.flatMap f
def LieAll (f : T → List Value) (size : Nat) (L : List (In T)) (w : World) : Prop := ∀ t, t ∈ L → t.Lies f size w
theorem LieAll.keep {L : List (In T)} {w w' : World} (h : LieAll f size L w) (hf : Fr w w' (fun _ => False)) : LieAll f size L w' := fun t ht => by
  rcases h t ht with h | ⟨b, o, C, ty, z, h1, h2, h3⟩
  · exact .inl h
  · exact .inr ⟨b, o, C, ty, z, h1, by rw [hf.block b (lt_of_heap h2) (fun h => h)]; exact h2, h3⟩
theorem LieAll.at_ {L : List (In T)} {w : World} (h : LieAll f size L w) {t : In T} (ht : t ∈ L) (h0 : 0 < t.l.length) : ∃ (b o : Nat) (C : Array Value) (ty : TypeId) (z : Nat × Nat), t.a = some ⟨b, o, none⟩ ∧ w.heap[b]? = some (.cells C ty z) ∧ (C.toList.drop o).take (t.l.length * size) = t.l.flatMap f := by
  rcases h t ht with h | h
  · rw [h] at h0; simp at h0
  · exact h
theorem in_mem {L : List (In T)} {k : Nat} (hk : k < L.length) {d : In T} : L.getD k d ∈ L := by
  rw [List.getD_eq_getElem?_getD, List.getElem?_eq_getElem hk]; exact List.getElem_mem hk
/-- Its place of element k. -/
def In.at_ (t : In T) (d : Nat) : Option Addr := t.a.map fun a => ⟨a.block, a.off + d, a.spot⟩
def inP (t : In T) (d : Nat) : List Value := [.pointer (t.at_ d)]
theorem one_inP (t : In T) (d : Nat) : ∀ j, j < 1 → ((inP t d).getD j undef).oneCell' = true := fun j hj => by
  match j, hj with
  | 0, _ => rfl
section
variable {P : Program} {t e : TypeId}
theorem ob_len_in {x : In T} {ts : Array TypeId} {ty : TypeId} {cs : Array Bool} {sx v : SV} {V : Env} (h0 : ts[0]? = some t) (ht : P.underlying t = some (.slice e)) (hx : ∀ ρ, den V ρ sx = .slice x.a x.l.length x.c) (hs : sx.single = true) (hv : ∀ ρ, den V ρ v = .int .i64 (x.l.length : Int)) :
    (Obl.bi .len ts ty cs (.cons sx .nil) v).holds P V := ob_len (base := fun _ => x.a) (n := x.l.length) (c := fun _ => x.c) h0 ht hx hs hv
theorem tag_ia {o : Oper} {t : TypeId} (h : tagOf o = some [16, t]) : ∃ x y, o.op = .indexAddr t x y := by
  unfold tagOf at h
  split at h <;> first
    | (simp at h; done)
    | (rename_i heq; simp only [Option.some.injEq, List.cons.injEq] at h; obtain ⟨_, rfl, _⟩ := h; exact ⟨_, _, heq⟩)
    | (simp at h; omega)
theorem tag_ld {o : Oper} {t : TypeId} (h : tagOf o = some [14, t]) : ∃ x, o.op = .load t x := by
  unfold tagOf at h
  split at h <;> first
    | (simp at h; done)
    | (rename_i heq; simp only [Option.some.injEq, List.cons.injEq] at h; obtain ⟨_, rfl, _⟩ := h; exact ⟨_, heq⟩)
    | (simp at h; omega)
theorem tag_mk {o : Oper} {t : TypeId} (h : tagOf o = some [1, t]) : ∃ x y, o.op = .makeSlice t x y := by
  unfold tagOf at h
  split at h <;> first
    | (simp at h; done)
    | (rename_i heq; simp only [Option.some.injEq, List.cons.injEq] at h; obtain ⟨_, rfl, _⟩ := h; exact ⟨_, _, heq⟩)
    | (simp at h; omega)
theorem plain_post {V : Env} {args res : SV} {ρ : Nat → Nat × Nat} {w : World} {v : Value} (h : v = den V ρ res) : Ct.Post V ⟨args, [], [], [], res⟩ ρ w v w :=
  ⟨ρ, fun _ _ => rfl, fun j hj => by simp at hj, fun i j hi => by simp at hi, h, fun i bk hb => by simp at hb, fun j bk hb => by simp at hb, Fr.refl _ _⟩
/-- The place of an inner list's element. -/
theorem in_ia {L : List (In T)} {x : In T} (hx : x ∈ L) {k d : Nat} (hk : k < x.l.length) (ht : P.underlying t = some (.slice e)) (hs : sizeT P e = some size) (hd : d = k * size) {V : Env} (h0 : V.E.getD 0 [] = inL x) (h1 : V.E.getD 1 [] = nI k) (h2 : V.E.getD 2 [] = inP x d) :
    Ct.ValidOpJ (LieAll f size L) P [16, t] ⟨.cons (.ev 0 0) (.cons (.ev 1 0) .nil), [], [], [], .ev 2 0⟩ V := by
  intro ρ w o ev hJ htag hargs _
  obtain ⟨x', y', ho⟩ := tag_ia htag
  obtain ⟨b, off, C, ty, z, ha, _, _⟩ := hJ.at_ hx (by omega)
  have e0 : den V ρ (.ev 0 0) = .slice x.a x.l.length x.c := by show (V.E.getD 0 []).getD 0 undef = _; rw [h0]; rfl
  have e1 : den V ρ (.ev 1 0) = .int .i64 (k : Int) := by show (V.E.getD 1 []).getD 0 undef = _; rw [h1]; rfl
  have e2 : den V ρ (.ev 2 0) = .pointer (x.at_ d) := by show (V.E.getD 2 []).getD 0 undef = _; rw [h2]; rfl
  have hev : [ev x', ev y'] = [den V ρ (.ev 0 0), den V ρ (.ev 1 0)] := by
    rw [ho] at hargs
    exact hargs
  rw [e0, e1] at hev
  simp only [List.cons.injEq, and_true] at hev
  have hlt : (0 : Int) ≤ (k : Int) ∧ (k : Int) < (x.l.length : Int) := ⟨by omega, by omega⟩
  have hrun : (execOp ev o).run P w = .ok (.value (.pointer (x.at_ d))) w := by
    unfold In.at_
    rw [ha]
    simp [execOp, ho, hev.1, hev.2, Instr.indexAt, run_underlying ht, asIntOf, hlt.1, hlt.2, sizeT_run hs, ha, hk]
    unfold Addr.add
    split
    · rename_i h0; simp [h0, ← hd] <;> omega
    · simp; omega
  rw [hrun]
  exact plain_post e2.symm
/-- An inner list's element. -/
theorem in_ld {L : List (In T)} {x : In T} (hx : x ∈ L) {k d : Nat} {dflt : T} (hk : k < x.l.length) (hf : ∀ a, (f a).length = size) (hd : d = k * size) {res : SV} {V : Env} (h0 : V.E.getD 0 [] = inP x d) (hr : rowOf P e = some true) (hs : sizeT P e = some size) (hv : ∀ ρ, den V ρ res = .agg (f (x.l.getD k dflt)).toArray) :
    Ct.ValidOpJ (LieAll f size L) P [14, e] ⟨.cons (.ev 0 0) .nil, [], [], [], res⟩ V := by
  intro ρ w o ev hJ htag hargs _
  obtain ⟨x', ho⟩ := tag_ld htag
  obtain ⟨b, off, C, ty, z, ha, hb, hl⟩ := hJ.at_ hx (by omega)
  have e0 : den V ρ (.ev 0 0) = .pointer (some ⟨b, off + d, none⟩) := by
    show (V.E.getD 0 []).getD 0 undef = _
    rw [h0]
    show Value.pointer (x.at_ d) = _
    unfold In.at_; rw [ha]; rfl
  have hev : [ev x'] = [den V ρ (.ev 0 0)] := by
    rw [ho] at hargs
    exact hargs
  rw [e0] at hev
  simp only [List.cons.injEq, and_true] at hev
  have hcell := drop_part (d := dflt) hf hl hk
  have hrun : (execOp ev o).run P w = .ok (.value (.agg (f (x.l.getD k dflt)).toArray)) w := by
    have := run_load_row (P := P) (off := off + d) (ty := e) (l := f (x.l.getD k dflt)) hb hr (by rw [hf]; exact hs) (by rw [hf, hd]; exact hcell)
    rw [← hev] at this
    simp only [execOp, ho, Sem.run_bind]
    rw [this]
    rfl
  rw [hrun]
  exact plain_post (hv ρ).symm
end
/-- A contract of a list in memory, of an inner list. -/
theorem Ct.inJ {P : Program} {fn : FuncId} {J : World → Prop} {args' res' : SV} {V' : Env} (h : ∀ w, J w → ∃ (V : Env) (b c i : Nat) (args res : SV), Ct.Valid P fn ⟨args, [.view i], [], [], res⟩ V ∧ (∀ ρ, dl V (fun _ => (b, c)) args = dl V' ρ args') ∧ (∃ (C : Array Value) (ty : TypeId) (z : Nat × Nat), w.heap[b]? = some (.cells C ty z) ∧ V.E.getD i [] = C.toList) ∧ ∀ ρ ρ', den V ρ res = den V' ρ' res') :
    Ct.ValidJ J P fn ⟨args', [], [], [], res'⟩ V' := by
  intro ρ w hJ _
  obtain ⟨V, b, c, i, args, res, hv, ha, ⟨C, ty, z, hb, hC⟩, hr⟩ := h w hJ
  have := hv (fun _ => (b, c)) w ⟨fun i j hi hj hor _ => by rcases hor with h | h <;> simp [isWr] at h, one_block (view_holds hb hC)⟩
  simp only at this ⊢
  rw [ha ρ] at this
  refine growUpon_mono ?_ this
  rintro v w' ⟨ρ', _, _, _, hv, _, _, hfr⟩
  refine ⟨ρ, fun _ _ => rfl, fun j hj => by simp at hj, fun i j hi => by simp at hi, by rw [hv]; exact hr _ _, fun i bk hb => by simp at hb, fun j bk hb => by simp at hb, hfr.mono ?_⟩
  rintro x _ ⟨i, bk, hi, _⟩
  simp at hi
/-- A contract that only reads, in a world that J is true of. -/
theorem Ct.ValidJ.callsR {J : World → Prop} {P : Program} {f : FuncId} {fn : Func} {V : Env} {args res : SV} {pre : List Bk} {vs : Array Value} {v : Value} (hv : Ct.ValidJ J P f ⟨args, pre, [], [], res⟩ V) (F : FnIs P f fn) (ρ : Nat → Nat × Nat) {w : World} (hJ : J w) (ha : dl V ρ args = vs.toList) (hr : ∀ ρ, den V ρ res = v) (hp : ∀ (i : Nat) (bk : Bk), pre[i]? = some bk → bk.holds V ρ w.heap[(ρ i).1]?) :
    Calls P f vs w fun e w' => e = .returned v ∧ Below w.heap.size w w' := by
  have h := hv ρ w hJ ⟨fun i j hi hj hor _ => by
    rcases hor with h | h <;> simp [isWr] at h, hp⟩
  rw [callFunc_enter F.at_ F.name F.body] at h
  replace h : Calls P f (dl V _ args).toArray w _ := h
  rw [ha, Array.toArray_toList] at h
  refine h.mono ?_
  rintro e w' ⟨u, rfl, ρ', _, _, _, hu, _, _, hfr⟩
  refine ⟨by rw [hu]; exact congrArg Ending.returned (hr ρ'), hfr.below fun b => ?_⟩
  rintro ⟨i, bk, hi, _⟩
  simp at hi
/-- A law's list of lists. -/
def IsSl2 (f : T → List Value) (size : Nat) (Ok : T → Prop) (w : World) (a : Option Addr) (n c : Nat) : Prop :=
  n = 0 ∨ ∃ (b o : Nat) (C : Array Value) (ty : TypeId) (z : Nat × Nat) (l : List (In T)), a = some ⟨b, o, none⟩ ∧ w.heap[b]? = some (.cells C ty z) ∧ l.length = n ∧ (∀ t, t ∈ l → (∀ x, x ∈ t.l → Ok x) ∧ t.l.length < 9223372036854775808) ∧ (C.toList.drop o).take (n * 1) = l.flatMap inL ∧ n ≤ c ∧ c ≤ maxLen ∧ LieAll f size l w
open Go.ChangeShapes Go.WideShapes Go.ChangeAt in
theorem open_lists {P : Program} {H : Type} {enc : TypeId × Value → H} {Ok : T → Prop} {t ti e : TypeId} {ks : List LK} (S : SliceIs P t ti 1) (Si : SliceIs P ti e size) (E : LeafIs P e ks) (hks : ks.length = size) (h0 : 0 < size) (hread : ∀ cs : List Value, fitsB ks cs = true → cs.all wfV = true → ∃ x, Ok x ∧ cs = f x)
    {W : World} {base : Nat} {spare : Nat → Bool} {held : Bool} {a : Option Addr} {len cap : Nat} {d : DataW H} {p : List MemPlace} (h : DataW.Trod enc P W base spare held t (.slice a len cap) d p) : IsSl2 f size Ok W a len cap := by
  obtain ⟨fuel, hf⟩ := h
  rcases Deep.open_slice S.at_ hf with ⟨hcs, _⟩ | ⟨a', len', cap', m, n, D, Pl, hcs, hb, hl, hm, hmd, _, hel⟩
  · simp [Value.cells] at hcs
    exact .inl hcs.2.1
  · simp [Value.cells] at hcs
    obtain ⟨rfl, rfl, rfl⟩ := hcs
    rcases Nat.eq_zero_or_pos len with hz | hpos
    · exact .inl hz
    right
    have hle : len ≤ m := by rw [hmd]; split <;> omega
    have hsz := cellsOf_size S.size
    have el : ∀ i, i < len → ∃ cs' : List Value, W.cells? base (a'.add (i * 1)) 1 = some cs' ∧ ∃ x : In T, (((∀ y, y ∈ x.l → Ok y) ∧ x.l.length < 9223372036854775808) ∧ x.Lies f size W) ∧ cs' = inL x := fun i hi => by
      obtain ⟨cs', h1, h2⟩ := hel i (by omega)
      rw [hsz] at h1
      refine ⟨cs', h1, ?_⟩
      rcases Deep.open_slice Si.at_ h2 with ⟨hcs, _⟩ | ⟨a2, len2, cap2, _, _, _, _, hcs, _, _, _, _, _, _⟩
      · exact ⟨⟨none, 0, []⟩, ⟨⟨fun y hy => by simp at hy, (by show 0 < 9223372036854775808; decide)⟩, .inl rfl⟩, hcs⟩
      · have h3 : DataW.Trod enc P W base spare held ti (.slice (some a2) len2 cap2) (D i) (Pl i) := ⟨_, by rw [hcs] at h2; exact h2⟩
        rcases open_recs (Ok := Ok) (f := f) Si E hks h0 hread h3 with rfl | ⟨b, o, C, ty, z, l, e1, e2, rfl, e4, e5, e6, e7⟩
        · exact ⟨⟨some a2, cap2, []⟩, ⟨⟨fun y hy => by simp at hy, (by show 0 < 9223372036854775808; decide)⟩, .inl rfl⟩, hcs⟩
        · exact ⟨⟨some a2, cap2, l⟩, ⟨⟨e4, (by show l.length < 9223372036854775808; unfold maxLen at e7; omega)⟩, .inr ⟨b, o, C, ty, z, e1, e2, e5⟩⟩, hcs⟩
    obtain ⟨cs0, c0, _⟩ := el 0 hpos
    have e0 : a'.add (0 * 1) = a' := by simp [Addr.add]
    rw [e0] at c0
    obtain ⟨C, ty, z, hB, hsp, _⟩ := cells_block c0 (by decide)
    obtain ⟨l, l1, l2, l3⟩ := gather (Ok := fun x : In T => ((∀ y, y ∈ x.l → Ok y) ∧ x.l.length < 9223372036854775808) ∧ x.Lies f size W) (f := inL) (size := 1) (R := C.toList) len a'.off (fun i hi => by
      obtain ⟨cs', h1, x, hx, hxe⟩ := el i hi
      obtain ⟨C', ty', z', hB', _, hC'⟩ := cells_block h1 (by decide)
      have hblk : (a'.add (i * 1)).block = a'.block := by unfold Addr.add; split <;> rfl
      have hoff : (a'.add (i * 1)).off = a'.off + i * 1 := by unfold Addr.add; split <;> simp_all
      rw [hblk, hB] at hB'
      cases hB'
      rw [hoff] at hC'
      exact ⟨x, hx, by rw [hC', hxe]⟩)
    refine ⟨a'.block, a'.off, C, ty, z, l, ?_, hB, l1, fun t ht => (l2 t ht).1, l3, hl, hm, fun t ht => (l2 t ht).2⟩
    rw [← hsp]
end
/-! make([]T, n) -/
section
variable {P : Program} {t e : TypeId} {size bytes : Nat} {i : TypeInfo} {z : Value}
theorem made_spare {z : Value} {size : Nat} (hz : z.cells.size = size) (h0 : 0 < size) (m : Nat) : (madeCells z.cells (m * size)).toList = spare z.cells.toList (m * size) := by
  unfold madeCells spare
  rw [Array.toList_map, Array.toList_range, Array.length_toList, hz]
  refine List.map_congr_left fun i hi => ?_
  have hl : i % size < z.cells.size := by rw [hz]; exact Nat.mod_lt _ h0
  rw [List.getD_eq_getElem?_getD, Array.getElem?_toList, getElem!_pos z.cells (i % size) hl, Array.getElem?_eq_getElem hl]; rfl
/-- make([]T, n): a row of n zeros, all of it the list. -/
theorem make_row (T : ListIs P t e size bytes i z) (h0 : 0 < size) {n : Nat} {L : List Value} (hL : spare z.cells.toList (n * size) = L) (hby : n * bytes ≤ 281474976710656) (hn : n ≤ 9223372036854775807) {V : Env} (hE : V.E.getD 0 [] = nI n) (hE1 : V.E.getD 1 [] = L) :
    Ct.ValidOp P [1, t] ⟨.cons (.ev 0 0) (.cons (.ev 0 0) .nil), [], [], [.row e 1], .sli 0 (.lit .i64 0) 0 (.ev 0 0) (.ev 0 0)⟩ V := by
  intro ρ w o ev htag hargs _
  obtain ⟨x', y', ho⟩ := tag_mk htag
  have e0 : ∀ ρ, den V ρ (.ev 0 0) = .int .i64 (n : Int) := fun ρ => by show (V.E.getD 0 []).getD 0 undef = _; rw [hE]; rfl
  have hev : [ev x', ev y'] = [den V ρ (.ev 0 0), den V ρ (.ev 0 0)] := by
    rw [ho] at hargs
    exact hargs
  rw [e0] at hev
  simp only [List.cons.injEq, and_true] at hev
  have hbi : (bytes : Int) * (n : Int) ≤ 281474976710656 := by
    have h3 : ((bytes * n : Nat) : Int) ≤ 281474976710656 := by rw [Nat.mul_comm]; omega
    rwa [Int.natCast_mul] at h3
  have hr := run_make (P := P) (w := w) t e i z T.at_ T.info T.zero .i64 .i64 (n : Int) (n : Int) (by omega) (by omega) (by rw [T.byt]; exact hbi) (by omega)
  rw [Int.toNat_natCast, T.sz] at hr
  have hrun : (execOp ev o).run P w = .ok (.value (.slice (some ⟨w.heap.size, 0, none⟩) n n)) (w.alloc (.cells (madeCells z.cells (n * size)) e)) := by
    simp [execOp, ho, hev.1, hev.2, hr]
  rw [hrun]
  let ρ' : Nat → Nat × Nat := fun k => if k = 0 then (w.heap.size, n) else ρ k
  refine ⟨ρ', fun k hk => by simp at hk, fun j hj => .inl ?_, fun a b ha hb _ => ?_, ?_, fun k bk hk => by simp at hk, fun j bk hj => ?_, ?_⟩
  · have : j = 0 := by simpa using hj
    subst this; exact Nat.le_refl _
  · have h1 : a = 0 := by simpa using ha
    have h2 : b = 0 := by simpa using hb
    rw [h1, h2]
  · show Value.slice _ n n = Value.slice (some ⟨(ρ' 0).1, _, none⟩) (natV (den V ρ' (.ev 0 0))) (natV (den V ρ' (.ev 0 0)))
    rw [e0]; rfl
  · match j with
    | 0 =>
      cases hj
      show (w.heap.push _)[w.heap.size]? = some (Obj.cells (V.E.getD 1 []).toArray e (0, 0))
      rw [Array.getElem?_push_size, hE1, ← hL, ← made_spare T.zs h0, Array.toArray_toList]
    | _ + 1 => simp at hj
  · refine ⟨rfl, rfl, rfl, ?_, fun b hb _ => Below.heap_alloc w _ b hb⟩
    show w.heap.size ≤ (w.heap.push _).size
    simp
end
/-- A list's cells with one element set anew. -/
theorem set_flat {T : Type} {f : T → List Value} {size : Nat} (hf : ∀ t, (f t).length = size) : ∀ (l : List T) (k : Nat) (x : T), k < l.length → (l.flatMap f).take (k * size) ++ (f x ++ (l.flatMap f).drop (k * size + size)) = (l.set k x).flatMap f
  | [], k, x, h => by simp at h
  | a :: l, 0, x, _ => by simp [List.flatMap_cons, hf]
  | a :: l, k + 1, x, h => by
    have ih := set_flat hf l k x (by simpa using h)
    rw [List.flatMap_cons, List.set_cons_succ, List.flatMap_cons, ← ih]
    have e1 : (k + 1) * size = (f a).length + k * size := by rw [hf, Nat.add_mul]; omega
    rw [e1, List.take_append, List.take_of_length_le (by omega), show (f a).length + k * size - (f a).length = k * size by omega, show (f a).length + k * size + size = (f a).length + (k * size + size) by omega, List.drop_append, List.drop_eq_nil_of_le (by omega), show (f a).length + (k * size + size) - (f a).length = k * size + size by omega]
    simp
end RX
open RX
section
variable {J : World → Prop}
theorem wayKJ {f : FuncId} {fn : Func} (F : FnIs Try.prog f fn) (O : List Obj) (K : List EK) (lens : List Nat) (Γ : List Gm) (S : List Sm) {c : Ct} (τ υ : List Nat) (fuel : Nat) (hs : List Hint) (outs : List Nat) (os : List Obl) (cs : List (Code × Nat)) (hl : K.map EK.len = lens) (hK : Nat.ble K.length 1000000 = true) (hO : Nat.ble O.length 1000000 = true)
    (h : ctCheck Try.prog Γ S lens fn (bodyOf fn) c τ υ fuel hs outs = some (os, cs)) (hΓ : allG J Try.prog ⟨K.map EK.val, O⟩ Γ) (ho : allO Try.prog ⟨K.map EK.val, O⟩ os) (hc : allC J Try.prog (c.args.len + (fn.ntmps - c.args.len)) ⟨K.map EK.val, O⟩ S cs) (hp : c.post = []) (hJ : ∀ w w', J w → Fr w w' (fun _ => False) → J w') : c.ValidJ J Try.prog f (Env.sub ⟨K.map EK.val, O⟩ τ υ) := by
  subst hl
  exact (wayOKJ F (ek_vok O K) (by rw [List.length_map]; exact Nat.le_of_ble_eq_true hK) (Nat.le_of_ble_eq_true hO) h hΓ ho hc).toJ hp hJ
theorem segKJ {f : FuncId} {fn : Func} (F : FnIs Try.prog f fn) (N : Nat) (code : Code) (K : List EK) (lens : List Nat) (Γ : List Gm) (S : List Sm) (g : Sg) (τ τ' : List Nat) (fuel : Nat) (hs : List Hint) (outs : List Nat) (os : List Obl) (cs : List (Code × Nat)) (hl : K.map EK.len = lens) (hK : Nat.ble K.length 1000000 = true)
    (h : sgCheck Try.prog Γ S lens N code g τ [] τ' [] fuel hs outs = some (os, cs)) (hΓ : allG J Try.prog ⟨K.map EK.val, []⟩ Γ) (ho : allO Try.prog ⟨K.map EK.val, []⟩ os) (hc : allC J Try.prog N ⟨K.map EK.val, []⟩ S cs) : g.ValidSt J Try.prog N code (Env.sub ⟨K.map EK.val, []⟩ τ []) (Env.sub ⟨K.map EK.val, []⟩ τ' []) := by
  subst hl
  exact segOKJ F (ek_vok [] K) (by rw [List.length_map]; exact Nat.le_of_ble_eq_true hK) (Nat.zero_le _) h hΓ ho hc
end
end Go.Proofs.Ytbmokmkaebfneaa
