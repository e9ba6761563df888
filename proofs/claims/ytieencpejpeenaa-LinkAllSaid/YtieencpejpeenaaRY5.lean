/- Strings and lists of bytes, on paper. Lists' beginnings, clipped rests; min, max. Loops in two phases: rounds of one shape, then a law from the loop's head on. A law from a loop's head on, in a seat's words. Parts of lists with a known room: s[k:n:n]. -/
import Derived.Test.YtieencpejpeenaaRY2
import Derived.Laws.IdiomStrings
import Derived.Laws.MakeOwn
import Derived.WideShapes
import Derived.Test.YtieencpejpeenaaRY4
section
namespace Go.Proofs.Ytieencpejpeenaa
open Go.RowKit
namespace RX
set_option linter.unnecessarySimpa false
set_option linter.unusedVariables false
set_option linter.unusedSimpArgs false
/-- A text of these bytes. -/
def bs (l : List UInt8) : ByteArray := ⟨l.toArray⟩
theorem bs_size (l : List UInt8) : (bs l).size = l.length := by simp [bs, ByteArray.size]
theorem bs_all (s : ByteArray) : bs s.data.toList = s := by cases s; simp [bs]
theorem bs_data (l : List UInt8) : (bs l).data.toList = l := by simp [bs]
theorem bs_inj {l m : List UInt8} (h : bs l = bs m) : l = m := by rw [← bs_data l, h, bs_data]
theorem bs_append (l m : List UInt8) : bs l ++ bs m = bs (l ++ m) := by
  apply Go.WideShapes.bytes_inj
  rw [bs_data]
  first | done | simp [bs]
theorem bs_extract (l : List UInt8) (a b : Nat) : (bs l).extract a b = bs ((l.take b).drop a) := by
  apply Go.WideShapes.bytes_inj
  rw [bs_data]
  simp [bs, List.drop_take]
theorem bs_get (l : List UInt8) (k : Nat) (h : k < l.length) : (bs l)[k]? = some (l.getD k 0) := by
  rw [getElem?_pos (bs l) k (by rw [bs_size]; exact h)]
  rw [List.getD_eq_getElem?_getD, List.getElem?_eq_getElem h]
  rfl
/-- A byte's cell. -/
def cB (b : UInt8) : List Value := [.int .u8 ((b.toNat : Nat) : Int)]
theorem cB_len (b : UInt8) : (cB b).length = 1 := rfl
theorem ones_cB (b : UInt8) : ∀ u ∈ cB b, u.oneCell' = true := by
  intro u hu
  simp only [cB, List.mem_cons, List.not_mem_nil, or_false] at hu
  subst hu; rfl
theorem byte_lt (b : UInt8) : b.toNat < 256 := b.toNat_lt
theorem flat_cB (l : List UInt8) : byteCells (bs l) = l.flatMap cB := by
  unfold byteCells
  rw [bs_data]
  induction l with
  | nil => rfl
  | cons b l ih => rw [List.map_cons, ih, List.flatMap_cons]; rfl
/-- A text's cell. -/
def cS (l : List UInt8) : List Value := [.string (bs l)]
theorem cS_len (l : List UInt8) : (cS l).length = 1 := rfl
theorem ones_cS (l : List UInt8) : ∀ u ∈ cS l, u.oneCell' = true := by
  intro u hu
  simp only [cS, List.mem_cons, List.not_mem_nil, or_false] at hu
  subst hu; rfl
section
variable {P : Program} {V : Env} {t : TypeId}
theorem ob_str_eq {l m : List UInt8} (h : l = m) : ∀ (_ : Nat → Nat × Nat), [Value.string (bs l)] = [Value.string (bs m)] := fun _ => by rw [h]
theorem ob_len_str {ts : Array TypeId} {ty : TypeId} {cs : Array Bool} {x v : SV} {l : List UInt8} (h0 : ts[0]? = some t) (ht : P.underlying t = some .string) (hx : ∀ ρ, den V ρ x = .string (bs l)) (hs : x.single = true) (hv : ∀ ρ, den V ρ v = .int .i64 (l.length : Int)) :
    (Obl.bi .len ts ty cs (.cons x .nil) v).holds P V := fun ρ w => by
  have hd : dl V ρ (.cons x .nil) = [den V ρ x] := by simp only [dl, dl_single hs, List.append_nil]
  rw [hd, hx, hv]
  simp [builtin, Builtin.len_, h0, run_underlying ht, goInt, bs_size]
theorem ob_ix_str {x i v : SV} {l : List UInt8} {k : Nat} (ht : P.underlying t = some .string) (hx : ∀ ρ, den V ρ x = .string (bs l)) (hi : ∀ ρ, den V ρ i = .int .i64 (k : Int)) (hk : k < l.length) (hv : ∀ ρ, den V ρ v = .int .u8 (((l.getD k 0).toNat : Nat) : Int)) :
    (Obl.ix t x i v).holds P V := fun ρ w => by
  rw [hx, hi, hv]
  have h0 : (0 : Int) ≤ (k : Int) := by omega
  simp only [Instr.index, Sem.run_bind, asIntOf, Sem.run_pure, Result.andThen, run_underlying ht, h0, if_true, Int.toNat_natCast, bs_get l k hk]
theorem ob_sl_str {x v : SV} {l : List UInt8} {a b : Nat} {lo hi : SV} (ht : P.underlying t = some .string) (hx : ∀ ρ, den V ρ x = .string (bs l)) (ha : ∀ ρ, den V ρ lo = .int .i64 (a : Int)) (hb : ∀ ρ, den V ρ hi = .int .i64 (b : Int)) (hab : a ≤ b) (hbl : b ≤ l.length) (hv : ∀ ρ, den V ρ v = .string (bs ((l.take b).drop a))) :
    (Obl.sl t x (some lo) (some hi) none v).holds P V := fun ρ w => by
  simp only [Option.map_some, Option.map_none]
  rw [hx, ha, hb, hv]
  have h1 : (0 : Int) ≤ (a : Int) ∧ (a : Int) ≤ (b : Int) := ⟨by omega, by omega⟩
  have h2 : (0 : Int) ≤ (b : Int) ∧ (b : Int) ≤ (l.length : Int) := ⟨by omega, by omega⟩
  simp [Instr.sliceAt, Instr.slice, Instr.sliceBounds, Instr.sliceBound, run_underlying ht, asIntOf, bs_size, h1.1, h1.2, h2.1, h2.2, bs_extract, hab, hbl]
theorem ob_sl_str_lo {x v : SV} {l : List UInt8} {a : Nat} {lo : SV} (ht : P.underlying t = some .string) (hx : ∀ ρ, den V ρ x = .string (bs l)) (ha : ∀ ρ, den V ρ lo = .int .i64 (a : Int)) (hal : a ≤ l.length) (hv : ∀ ρ, den V ρ v = .string (bs (l.drop a))) :
    (Obl.sl t x (some lo) none none v).holds P V := fun ρ w => by
  simp only [Option.map_some, Option.map_none]
  rw [hx, ha, hv]
  have h1 : (0 : Int) ≤ (a : Int) ∧ (a : Int) ≤ (l.length : Int) := ⟨by omega, by omega⟩
  simp [Instr.sliceAt, Instr.slice, Instr.sliceBounds, Instr.sliceBound, run_underlying ht, asIntOf, bs_size, h1.1, h1.2, bs_extract, hal]
theorem ob_sl_str_hi {x v : SV} {l : List UInt8} {b : Nat} {hi : SV} (ht : P.underlying t = some .string) (hx : ∀ ρ, den V ρ x = .string (bs l)) (hb : ∀ ρ, den V ρ hi = .int .i64 (b : Int)) (hbl : b ≤ l.length) (hv : ∀ ρ, den V ρ v = .string (bs (l.take b))) :
    (Obl.sl t x none (some hi) none v).holds P V := fun ρ w => by
  simp only [Option.map_some, Option.map_none]
  rw [hx, hb, hv]
  have h1 : (0 : Int) ≤ (b : Int) ∧ (b : Int) ≤ (l.length : Int) := ⟨by omega, by omega⟩
  simp [Instr.sliceAt, Instr.slice, Instr.sliceBounds, Instr.sliceBound, run_underlying ht, asIntOf, bs_size, h1.1, h1.2, bs_extract, hbl]
theorem toList_bs (l : List UInt8) : (bs l).toList = l := by rw [ByteArray.toList_eq, bs_data]
theorem ob_cat {x y v : SV} {l m : List UInt8} (hx : ∀ ρ, den V ρ x = .string (bs l)) (hy : ∀ ρ, den V ρ y = .string (bs m)) (hn : l.length + m.length ≤ 9223372036854775807) (hv : ∀ ρ, den V ρ v = .string (bs (l ++ m))) :
    (Obl.bin .add t x y v).holds P V := fun ρ w u u' => by
  rw [hx, hy, hv]
  have h : ¬ (((bs l).size + (bs m).size : Nat) : Int) > IntKind.i64.max := by
    have : IntKind.i64.max = 9223372036854775807 := by decide
    rw [bs_size, bs_size, this]; omega
  simp [eqGuard, binOp, Op.stringOp, bs_append]
  rw [bs_size, bs_size]; omega
theorem ob_str_eql_t {x y v : SV} {l m : List UInt8} (hx : ∀ ρ, den V ρ x = .string (bs l)) (hy : ∀ ρ, den V ρ y = .string (bs m)) (h : l = m) : (Obl.bin .eql t x y (.bo true)).holds P V := fun ρ w u u' => by
  rw [hx, hy]
  simp [eqGuard, binOp, Op.stringOp, toList_bs, h, den, dl]
theorem ob_str_eql_f {x y v : SV} {l m : List UInt8} (hx : ∀ ρ, den V ρ x = .string (bs l)) (hy : ∀ ρ, den V ρ y = .string (bs m)) (h : ¬ l = m) : (Obl.bin .eql t x y (.bo false)).holds P V := fun ρ w u u' => by
  rw [hx, hy]
  simp [eqGuard, binOp, Op.stringOp, toList_bs, h, den, dl]
theorem ob_str_neq_t {x y v : SV} {l m : List UInt8} (hx : ∀ ρ, den V ρ x = .string (bs l)) (hy : ∀ ρ, den V ρ y = .string (bs m)) (h : l = m) : (Obl.bin .neq t x y (.bo false)).holds P V := fun ρ w u u' => by
  rw [hx, hy]
  simp [eqGuard, binOp, Op.stringOp, toList_bs, h, den, dl]
theorem ob_str_neq_f {x y v : SV} {l m : List UInt8} (hx : ∀ ρ, den V ρ x = .string (bs l)) (hy : ∀ ρ, den V ρ y = .string (bs m)) (h : ¬ l = m) : (Obl.bin .neq t x y (.bo true)).holds P V := fun ρ w u u' => by
  rw [hx, hy]
  simp [eqGuard, binOp, Op.stringOp, toList_bs, h, den, dl]
end
section
variable {P : Program} {t e : TypeId} {bytes : Nat} {i : TypeInfo} {z : Value}
theorem exec_append2 {o : Oper} {ev : Operand → Value} {ty ts : TypeId} {s x : Value} (h : tagOf o = some [19, ty, t, ts]) (ha : o.op.operands.toList.map ev = [s, x]) (w : World) : (execOp ev o).run P w = (do pure (.value (← Builtin.append_ #[t, ts] o.type #[s, x])) : Sem Next).run P w := by
  obtain ⟨c, hop, hc, hts⟩ := tag_append h
  have hargs : c.args.map ev = #[s, x] := by
    apply Array.toList_inj.1
    rw [← ha, hop]
    simp [Op.operands, Call.operands, hc]
  unfold execOp
  simp only [hop]
  unfold resolve
  simp [hc, hargs, hts, invoke, builtin]
/-- append of a text to bytes of one's own. -/
theorem app_own_str (T : ListIs P t e 1 bytes i z) {ts : TypeId} (hts : P.underlying ts = some .string) {len n : Nat} {L : List Value} {m : List UInt8} (hL : L.length = len) (hm : m.length = n) (hmax : len + n ≤ maxLen) (hby : (len + n) * bytes ≤ 140737488355328) {zS : SV} {V : Env}
    (hE0 : V.E.getD 0 [] = nI len) (hE1 : V.E.getD 1 [] = [.string (bs m)]) (hE2 : V.E.getD 2 [] = L) (hE4 : V.E.getD 3 [] = L ++ m.flatMap cB) (hE5 : V.E.getD 4 [] = nI (len + n)) (hz : ∀ ρ, dl V ρ zS = z.cells.toList) {ty : TypeId} :
    Ct.ValidOp P [19, ty, t, ts] ⟨.cons (.sli 0 (.lit .i64 0) 0 (.ev 0 0) (.rc 0)) (.cons (.ev 1 0) .nil), [.own e 2 0 zS], [some .gone], [.own e 3 1 zS], .sli 1 (.lit .i64 0) 0 (.ev 4 0) (.rc 1)⟩ V := by
  intro ρ w o ev htag hargs hpre
  have h0 : 0 < 1 := by decide
  let M : List Value := m.flatMap cB
  have hM : M.length = n * 1 := by show (m.flatMap cB).length = _; rw [← flat_cB, byteCells_length, bs_size, hm, Nat.mul_one]
  have hL : L.length = len * 1 := by rw [hL, Nat.mul_one]
  have e0 : ∀ ρ, natV (den V ρ (.ev 0 0)) = len := fun ρ => by show natV ((V.E.getD 0 []).getD 0 undef) = len; rw [hE0]; rfl
  have e1 : ∀ ρ, den V ρ (.ev 1 0) = .string (bs m) := fun ρ => by show (V.E.getD 1 []).getD 0 undef = _; rw [hE1]; rfl
  have e5 : ∀ ρ, natV (den V ρ (.ev 4 0)) = len + n := fun ρ => by show natV ((V.E.getD 4 []).getD 0 undef) = len + n; rw [hE5]; rfl
  let cp := (ρ 0).2
  have ha : o.op.operands.toList.map ev = [.slice (some ⟨(ρ 0).1, 0, none⟩) len cp, .string (bs m)] := by
    rw [hargs]
    show [Value.slice (some ⟨(ρ 0).1, _, none⟩) (natV (den V ρ (.ev 0 0))) (natV (den V ρ (.rc 0)))] ++ ([den V ρ (.ev 1 0)] ++ []) = _
    rw [e0, e1]; rfl
  have hzl : z.cells.toList.length = 1 := by rw [Array.length_toList]; exact T.zs
  have hown : w.heap[(ρ 0).1]? = some (Obj.cells (L ++ spare z.cells.toList ((cp - len) * 1)).toArray e (0, 0)) := by
    have := (hpre.2 0 (.own e 2 0 zS) rfl).1
    replace this : w.heap[(ρ 0).1]? = some (Obj.cells (V.E.getD 2 [] ++ spare (dl V ρ zS) (cp * (dl V ρ zS).length - (V.E.getD 2 []).length)).toArray e (0, 0)) := this
    rw [hE2, hz, hzl, hL, ← Nat.sub_mul] at this
    exact this
  have hsrc : Src P i.size ts (.string (bs m)) n M w := by
    have := Src.ofString (P := P) w hts (bs m)
    rw [bs_size, hm, flat_cB] at this
    rw [T.sz]; exact this
  rw [exec_append2 htag ha]
  rcases Nat.lt_or_ge cp (len + n) with hg | hroom
  · -- a new row
    have hold : (Builtin.firstCells i.size len (.slice (some ⟨(ρ 0).1, 0, none⟩) len cp)).run P w.drew = .ok L.toArray w.drew := by
      refine run_firstCells_some w.drew i.size len ⟨(ρ 0).1, 0, none⟩ len cp L (by rw [T.sz]; exact hL) (fun j u hj => ?_)
      have hd : w.drew.heap[(ρ 0).1]? = some (Obj.cells (L ++ spare z.cells.toList ((cp - len) * 1)).toArray e (0, 0)) := hown
      rw [addr_off, cells_at hd, List.getElem?_append_left (List.getElem?_eq_some_iff.1 hj).1]; exact hj
    have hrun := run_append_grow_src (P := P) w t ts o.type e i z T.at_ T.info T.zero (some ⟨(ρ 0).1, 0, none⟩) len cp L hold _ n M hsrc hg (by unfold maxLen at hmax; omega) (by rw [T.byt]; exact growslice_fits hg hby)
    simp only [Sem.run_bind, hrun, Result.andThen, Sem.run_pure]
    let cap := grownCap w (len + n) cp e
    have hge : len + n ≤ cap := grownCap_ge w _ _ e
    let ρ' : Nat → Nat × Nat := fun k => if k = 1 then (w.heap.size, cap) else ρ k
    refine ⟨ρ', fun k hk => ?_, fun j hj => .inl ?_, fun a b ha hb _ => ?_, ?_, fun k bk hk => ?_, fun j bk hj => ?_, fr_alloc w _ _⟩
    · exact if_neg (by simp at hk; omega)
    · have : j = 0 := by simpa using hj
      subst this; exact Nat.le_refl _
    · have h1 : a = 0 := by simpa using ha
      have h2 : b = 0 := by simpa using hb
      rw [h1, h2]
    · show Value.slice _ (len + n) cap = Value.slice (some ⟨(ρ' 1).1, _, none⟩) (natV (den V ρ' (.ev 4 0))) _
      rw [e5]; rfl
    · match k with
      | 0 => cases hk; trivial
      | _ + 1 => simp at hk
    · match j with
      | 0 =>
        cases hj
        refine ⟨?_, by show _ ≤ cap * _; rw [hE4, hz, hzl, List.length_append, hL, hM, ← Nat.add_mul]; exact Nat.mul_le_mul_right _ hge⟩
        show (w.drew.heap.push _)[w.heap.size]? = some (Obj.cells (V.E.getD 3 [] ++ spare (dl V ρ' zS) (cap * (dl V ρ' zS).length - (V.E.getD 3 []).length)).toArray e (0, 0))
        have hsz : w.heap.size = w.drew.heap.size := rfl
        rw [hsz, Array.getElem?_push_size, hE4, hz, zero_spare T.zs h0, hzl, List.length_append, hL, hM, ← Nat.add_mul, ← Nat.sub_mul]
        simp
        rfl
      | _ + 1 => simp at hj
  · -- in place
    have hsp : M.length ≤ (cp - len) * 1 := by rw [hM]; exact Nat.mul_le_mul_right _ (by omega)
    have hlenC : ∀ j, j < M.length → (len * 1 + j) < (L ++ spare z.cells.toList ((cp - len) * 1)).length := fun j hj => by rw [List.length_append, spare_len, hL]; omega
    have hrun := run_append_room_src (P := P) w t ts o.type e i T.at_ T.info (ρ 0).1 0 len cp _ n M hsrc hroom (fun j hj => by
        rw [T.sz, Nat.zero_add, cells_at hown, List.getElem?_eq_getElem (hlenC j hj)]; rfl)
      (fun j hj => by unfold World.frozen?; rw [hown]; simp)
    simp only [Sem.run_bind, hrun, Result.andThen, Sem.run_pure]
    let ρ' : Nat → Nat × Nat := fun k => if k = 1 then ρ 0 else ρ k
    refine ⟨ρ', fun k hk => ?_, fun j hj => .inr ⟨0, rfl, ?_⟩, fun a b ha hb _ => ?_, ?_, fun k bk hk => ?_, fun j bk hj => ?_, ?_⟩
    · exact if_neg (by simp at hk; omega)
    · have : j = 0 := by simpa using hj
      subst this; rfl
    · have h1 : a = 0 := by simpa using ha
      have h2 : b = 0 := by simpa using hb
      rw [h1, h2]
    · show Value.slice _ (len + n) cp = Value.slice (some ⟨(ρ' 1).1, _, none⟩) (natV (den V ρ' (.ev 4 0))) _
      rw [e5]; rfl
    · match k with
      | 0 => cases hk; trivial
      | _ + 1 => simp at hk
    · match j with
      | 0 =>
        cases hj
        refine ⟨?_, by show _ ≤ cp * _; rw [hE4, hz, hzl, List.length_append, hL, hM, ← Nat.add_mul]; exact Nat.mul_le_mul_right _ (by omega)⟩
        show (w.setCells (ρ 0).1 (0 + len * i.size) M).heap[(ρ 0).1]? = some (Obj.cells (V.E.getD 3 [] ++ spare (dl V ρ' zS) (cp * (dl V ρ' zS).length - (V.E.getD 3 []).length)).toArray e (0, 0))
        rw [block_setCells _ _ _ _ _ _ hown, hE4, hz, hzl, List.length_append, hL, hM, ← Nat.add_mul, ← Nat.sub_mul, T.sz, Nat.zero_add]
        congr 2
        apply Array.toList_inj.1
        rw [fillA_list _ _ _ (by simp only [List.size_toArray, List.length_append, spare_len, hL]; omega)]
        simp only [List.toList_toArray]
        rw [← hL, List.take_left, List.drop_append, show L.length + M.length - L.length = M.length by omega, List.drop_eq_nil_of_le (by omega), List.nil_append, hM]
        have := spare_drop z.cells.toList ((cp - len) * 1) n
        rw [hzl] at this
        rw [this, ← Nat.sub_mul, Nat.sub_sub]
      | _ + 1 => simp at hj
    · exact (fr_setCells _ _ _ _).mono fun b _ hb => ⟨0, .gone, rfl, hb.symm⟩
theorem tag_cv {o : Oper} {s d : TypeId} (h : tagOf o = some [12, s, d]) : ∃ x, o.op = .convert s d x := by
  unfold tagOf at h
  split at h <;> first
    | (simp at h; done)
    | (rename_i heq; simp only [Option.some.injEq, List.cons.injEq] at h; obtain ⟨_, rfl, rfl, _⟩ := h; exact ⟨_, heq⟩)
    | (simp at h; omega)
/-- string(b): what bytes in memory say. -/
theorem cv_bytes {s d e : TypeId} (hs : P.underlying s = some (.slice e)) (he : P.underlying e = some (.int .u8)) (hd : P.underlying d = some .string) {capx : SV} {l : List UInt8} {n : Nat} (hl : l.length = n) {R : List Value} {V : Env} (hR : R = l.flatMap cB) (hE0 : V.E.getD 0 [] = nI n) (hE1 : V.E.getD 1 [] = R) (hE2 : V.E.getD 2 [] = [.string (bs l)]) :
    Ct.ValidOp P [12, s, d] ⟨.cons (.sli 0 (.lit .i64 0) 0 (.ev 0 0) capx) .nil, [.view 1], [], [], .ev 2 0⟩ V := by
  intro ρ w o ev htag hargs hpre
  obtain ⟨x', ho⟩ := tag_cv htag
  have e0 : natV (den V ρ (.ev 0 0)) = n := by show natV ((V.E.getD 0 []).getD 0 undef) = n; rw [hE0]; rfl
  have e2 : den V ρ (.ev 2 0) = .string (bs l) := by show (V.E.getD 2 []).getD 0 undef = _; rw [hE2]; rfl
  have ha : [ev x'] = [.slice (some ⟨(ρ 0).1, 0, none⟩) n (natV (den V ρ capx))] := by
    rw [ho] at hargs
    refine hargs.trans ?_
    show [Value.slice (some ⟨(ρ 0).1, _, none⟩) (natV (den V ρ (.ev 0 0))) _] = _
    rw [e0]; rfl
  simp only [List.cons.injEq, and_true] at ha
  obtain ⟨rest, tyx, zx, hb⟩ := hpre.2 0 (.view 1) rfl
  rw [hE1, hR] at hb
  have hrun := run_convert_bytes_back (P := P) w s d e ⟨(ρ 0).1, 0, none⟩ (natV (den V ρ capx)) l hs he hd (fun j hj => by
    have hc : (byteCells (bs l))[j]? = some (.int .u8 (l[j].toNat : Int)) := by unfold byteCells; rw [bs_data, List.getElem?_map, List.getElem?_eq_getElem hj]; rfl
    rw [flat_cB] at hc
    rw [addr_off, cells_at hb, List.getElem?_append_left (List.getElem?_eq_some_iff.1 hc).1, hc])
  rw [hl] at hrun
  have hr : (execOp ev o).run P w = .ok (.value (.string (bs l))) w := by
    simp only [execOp, ho, ha, Sem.run_bind]
    rw [hrun]
    rfl
  rw [hr]
  exact ⟨ρ, fun _ _ => rfl, fun j hj => by simp at hj, fun i j hi => by simp at hi, e2.symm, fun i bk hb => by simp at hb, fun j bk hb => by simp at hb, Fr.refl _ _⟩
theorem tag_mk' {o : Oper} {t : TypeId} (h : tagOf o = some [1, t]) : ∃ x y, o.op = .makeSlice t x y := by
  unfold tagOf at h
  split at h <;> first
    | (simp at h; done)
    | (rename_i heq; simp only [Option.some.injEq, List.cons.injEq] at h; obtain ⟨_, rfl, _⟩ := h; exact ⟨_, _, heq⟩)
    | (simp at h; omega)
/-- make([]T, 0, n): none yet, with room. -/
theorem make_own {size : Nat} (T : ListIs P t e size bytes i z) (h0 : 0 < size) {n : Nat} (hby : n * bytes ≤ 281474976710656) (hn : n ≤ 9223372036854775807) {zS : SV} {V : Env} (hE : V.E.getD 0 [] = nI n) (hE1 : V.E.getD 1 [] = []) (hz : ∀ ρ, dl V ρ zS = z.cells.toList) :
    Ct.ValidOp P [1, t] ⟨.cons (.lit .i64 0) (.cons (.ev 0 0) .nil), [], [], [.own e 1 0 zS], .sli 0 (.lit .i64 0) 0 (.lit .i64 0) (.rc 0)⟩ V := by
  intro ρ w o ev htag hargs _
  obtain ⟨x', y', ho⟩ := tag_mk' htag
  have e0 : den V ρ (.ev 0 0) = .int .i64 (n : Int) := by show (V.E.getD 0 []).getD 0 undef = _; rw [hE]; rfl
  have hev : [ev x', ev y'] = [.int .i64 0, den V ρ (.ev 0 0)] := by
    rw [ho] at hargs
    exact hargs
  rw [e0] at hev
  simp only [List.cons.injEq, and_true] at hev
  have hbi : (bytes : Int) * (n : Int) ≤ 281474976710656 := by
    have h3 : ((bytes * n : Nat) : Int) ≤ 281474976710656 := by rw [Nat.mul_comm]; omega
    rwa [Int.natCast_mul] at h3
  have hr := run_make (P := P) (w := w) t e i z T.at_ T.info T.zero .i64 .i64 0 (n : Int) (by omega) (by omega) (by rw [T.byt]; exact hbi) (by omega)
  rw [Int.toNat_natCast, T.sz] at hr
  have hrun : (execOp ev o).run P w = .ok (.value (.slice (some ⟨w.heap.size, 0, none⟩) 0 n)) (w.alloc (.cells (madeCells z.cells (n * size)) e)) := by
    simp [execOp, ho, hev.1, hev.2, hr]
  rw [hrun]
  let ρ' : Nat → Nat × Nat := fun k => if k = 0 then (w.heap.size, n) else ρ k
  have hzl : z.cells.toList.length = size := by rw [Array.length_toList]; exact T.zs
  refine ⟨ρ', fun k hk => by simp at hk, fun j hj => .inl ?_, fun a b ha hb _ => ?_, rfl, fun k bk hk => by simp at hk, fun j bk hj => ?_, ?_⟩
  · have : j = 0 := by simpa using hj
    subst this; exact Nat.le_refl _
  · have h1 : a = 0 := by simpa using ha
    have h2 : b = 0 := by simpa using hb
    rw [h1, h2]
  · match j with
    | 0 =>
      cases hj
      refine ⟨?_, by show _ ≤ n * _; rw [hE1]; exact Nat.zero_le _⟩
      show (w.heap.push _)[w.heap.size]? = some (Obj.cells (V.E.getD 1 [] ++ spare (dl V ρ' zS) (n * (dl V ρ' zS).length - (V.E.getD 1 []).length)).toArray e (0, 0))
      rw [Array.getElem?_push_size, hE1, hz, hzl, List.length_nil, Nat.sub_zero, List.nil_append]
      congr 2
      apply Array.toList_inj.1
      unfold madeCells spare
      rw [Array.toList_map, Array.toList_range, Array.length_toList, T.zs]
      simp only [List.toList_toArray]
      refine List.map_congr_left fun i hi => ?_
      have hl : i % size < z.cells.size := by rw [T.zs]; exact Nat.mod_lt _ h0
      rw [List.getD_eq_getElem?_getD, Array.getElem?_toList, getElem!_pos z.cells (i % size) hl, Array.getElem?_eq_getElem hl]; rfl
    | _ + 1 => simp at hj
  · refine ⟨rfl, rfl, rfl, ?_, fun b hb _ => Below.heap_alloc w _ b hb⟩
    show w.heap.size ≤ (w.heap.push _).size
    simp
end
/-! Bytes and whole numbers. -/
section
variable {P : Program} {V : Env} {t : TypeId} {ky : IntKind}
theorem wrap_u8 (n : Nat) : IntKind.u8.wrap (n : Int) = ((n % 256 : Nat) : Int) := by
  simp [IntKind.wrap, IntKind.bits, IntKind.signed]
/-- int(b) -/
theorem ob_cv_b_int {n : Nat} (hn : n < 256) {s d : TypeId} {a v : SV} (hs : P.underlying s = some (.int .u8)) (hd : P.underlying d = some (.int .i64)) (ha : ∀ ρ, den V ρ a = .int .u8 (n : Int)) (hv : ∀ ρ, den V ρ v = .int .i64 (n : Int)) : (Obl.cv s d a v).holds P V := fun ρ w => by
  rw [ha, hv]
  unfold convert
  simp only [Sem.run_bind, run_underlying hs, run_underlying hd, Result.andThen]
  unfold Conv.intToInt
  rw [wrap_nat (by omega)]; rfl
/-- byte(n) -/
theorem ob_cv_int_b {n : Nat} {s d : TypeId} {a v : SV} (hs : P.underlying s = some (.int .i64)) (hd : P.underlying d = some (.int .u8)) (ha : ∀ ρ, den V ρ a = .int .i64 (n : Int)) (hv : ∀ ρ, den V ρ v = .int .u8 ((n % 256 : Nat) : Int)) : (Obl.cv s d a v).holds P V := fun ρ w => by
  rw [ha, hv]
  unfold convert
  simp only [Sem.run_bind, run_underlying hs, run_underlying hd, Result.andThen]
  unfold Conv.intToInt
  rw [wrap_u8]; rfl
theorem ob_add_b {a b : Nat} (h : a + b < 256) : BinIs P .add t (.int .u8 (a : Int)) (.int .u8 (b : Int)) (.int .u8 ((a + b : Nat) : Int)) := ob_add (by
  rw [← Int.natCast_add, wrap_u8, Nat.mod_eq_of_lt h])
theorem ob_muln {a b : Nat} (h : a * b < 9223372036854775808) : BinIs P .mul t (.int .i64 (a : Int)) (.int .i64 (b : Int)) (.int .i64 ((a * b : Nat) : Int)) := ob_mul (by rw [← Int.natCast_mul]; exact wrap_nat h)
theorem ob_shr_n {a s : Nat} (hs : s ≤ 64) : BinIs P .shr t (.int .i64 (a : Int)) (.int ky (s : Int)) (.int .i64 ((a / 2 ^ s : Nat) : Int)) := fun _ w x y => by
  have h0 : ¬ ((s : Int) < 0) := by omega
  have hm : min ((s : Int).toNat) IntKind.i64.bits = s := by rw [Int.toNat_natCast]; exact Nat.min_eq_left hs
  have hd : (a : Int).fdiv (2 ^ s) = ((a / 2 ^ s : Nat) : Int) := by
    rw [Int.natCast_ediv]
    rw [Int.fdiv_eq_ediv_of_nonneg _ (by exact Int.le_of_lt (Int.pow_pos (by decide)))]
    rw [Int.natCast_pow]; rfl
  simp [eqGuard, binOp, Op.shift, h0, hm, hd]
theorem ob_shl_n {a s : Nat} (hs : s ≤ 64) (h : a * 2 ^ s < 9223372036854775808) : BinIs P .shl t (.int .i64 (a : Int)) (.int ky (s : Int)) (.int .i64 ((a * 2 ^ s : Nat) : Int)) := fun _ w x y => by
  have h0 : ¬ ((s : Int) < 0) := by omega
  have hm : min ((s : Int).toNat) IntKind.i64.bits = s := by rw [Int.toNat_natCast]; exact Nat.min_eq_left hs
  have hd : (a : Int) * 2 ^ s = ((a * 2 ^ s : Nat) : Int) := by rw [Int.natCast_mul, Int.natCast_pow]; rfl
  simp only [eqGuard, binOp, Op.shift, h0, hm, hd, if_false, wrap_nat h]
  rfl
theorem or_add (a b : Nat) (h : b < 256) : a * 256 ||| b = a * 256 + b := by
  have := Nat.shiftLeft_add_eq_or_of_lt (i := 8) (b := b) h a
  rw [Nat.shiftLeft_eq] at this
  exact this.symm
/-- A number, wrapped. -/
theorem wr_is : ∃ f : Nat → Int, ∀ n, f n = IntKind.i64.wrap (n : Int) := ⟨fun n => IntKind.i64.wrap (n : Int), fun _ => rfl⟩
noncomputable def wr : Nat → Int := Classical.choose wr_is
theorem wr_eq (n : Nat) : wr n = IntKind.i64.wrap (n : Int) := Classical.choose_spec wr_is n
theorem wr_small {n : Nat} (h : n < 9223372036854775808) : wr n = (n : Int) := (wr_eq n).trans (wrap_nat h)
theorem wr_def (n : Nat) : wr n = ((n : Int) + 9223372036854775808) % 18446744073709551616 - 9223372036854775808 := by
  rw [wr_eq, IntKind.wrap_i64]
theorem ofInt_wr (n : Nat) : BitVec.ofInt 64 (wr n) = BitVec.ofNat 64 n := by
  apply BitVec.eq_of_toNat_eq
  rw [BitVec.toNat_ofInt, BitVec.toNat_ofNat, wr_def]
  omega
theorem ob_shl_w {a : Nat} : BinIs P .shl t (.int .i64 (wr a)) (.int ky 8) (.int .i64 (wr (a * 256))) := fun _ w x y => by
  have hd : IntKind.i64.wrap (wr a * 256) = wr (a * 256) := by
    rw [IntKind.wrap_i64, wr_def, wr_def]; omega
  simp [eqGuard, binOp, Op.shift, IntKind.bits, hd]
theorem ob_or_w {a b : Nat} (hb : b < 256) : BinIs P .or t (.int .i64 (wr (a * 256))) (.int .i64 (b : Int)) (.int .i64 (wr (a * 256 + b))) := fun _ w x y => by
  have hbv : (BitVec.ofInt 64 (b : Int)) = BitVec.ofNat 64 b := by rw [← wr_small (n := b) (by omega)]; exact ofInt_wr b
  have hor : (BitVec.ofNat 64 (a * 256) ||| BitVec.ofNat 64 b).toNat = (a * 256 + b) % 2 ^ 64 := by
    have : BitVec.ofNat 64 (a * 256) ||| BitVec.ofNat 64 b = BitVec.ofNat 64 (a * 256 ||| b) := by
      apply BitVec.eq_of_toNat_eq
      simp only [BitVec.toNat_or, BitVec.toNat_ofNat, Nat.or_mod_two_pow]
    rw [this, BitVec.toNat_ofNat, or_add a b hb]
  have hw : IntKind.i64.wrap (((a * 256 + b) % 2 ^ 64 : Nat) : Int) = wr (a * 256 + b) := by
    rw [IntKind.wrap_i64, wr_def]; omega
  have h64 : IntKind.i64.bits = 64 := rfl
  have hx := ofInt_wr (a * 256)
  simp only [eqGuard, binOp, Op.intBits]
  show (Sem.run P (pure (.int .i64 (IntKind.i64.wrap (((BitVec.ofInt 64 (wr (a * 256)) ||| BitVec.ofInt 64 (b : Int)).toNat : Nat) : Int))) : Sem Value) w) = _
  rw [hx, hbv, hor, hw]
  rfl
theorem ob_or_n {a b : Nat} (hb : b < 256) (h : a * 256 + b < 9223372036854775808) : BinIs P .or t (.int .i64 ((a * 256 : Nat) : Int)) (.int .i64 (b : Int)) (.int .i64 ((a * 256 + b : Nat) : Int)) := by
  have := ob_or_w (P := P) (t := t) (a := a) hb
  rw [wr_small h, wr_small (n := a * 256) (Nat.lt_of_le_of_lt (Nat.le_add_right _ b) h)] at this
  exact this
theorem ob_quo_n {a b : Nat} (hb : 0 < b) (h : a < 9223372036854775808) : BinIs P .quo t (.int .i64 (a : Int)) (.int .i64 (b : Int)) (.int .i64 ((a / b : Nat) : Int)) := fun _ w x y => by
  have h0 : ¬ (b = 0) := by omega
  have hd : IntKind.i64.wrap ((a : Int) / (b : Int)) = (a : Int) / (b : Int) := by
    rw [← Int.natCast_ediv]
    exact wrap_nat (Nat.lt_of_le_of_lt (Nat.div_le_self a b) h)
  simp [eqGuard, binOp, Op.intDiv, h0, hd]
theorem ob_rem_n {a b : Nat} (hb : 0 < b) : BinIs P .rem t (.int .i64 (a : Int)) (.int .i64 (b : Int)) (.int .i64 ((a % b : Nat) : Int)) := fun _ w x y => by
  have h0 : ¬ (b = 0) := by omega
  simp [eqGuard, binOp, Op.intDiv, h0]
  rfl
/-- byte(n) -/
theorem ob_cv_byte {n : Nat} {s d : TypeId} {a v : SV} (hs : P.underlying s = some (.int .i64)) (hd : P.underlying d = some (.int .u8)) (ha : ∀ ρ, den V ρ a = .int .i64 (n : Int)) (hv : ∀ ρ, den V ρ v = .int .u8 (((UInt8.ofNat n).toNat : Nat) : Int)) : (Obl.cv s d a v).holds P V :=
  ob_cv_int_b hs hd ha (fun ρ => by rw [hv]; simp)
theorem ob_mul_256 {b : Nat} (h : b * 256 < 9223372036854775808) : BinIs P .mul t (.int .i64 256) (.int .i64 (b : Int)) (.int .i64 ((b * 256 : Nat) : Int)) := by
  have := ob_muln (P := P) (t := t) (a := 256) (b := b) (by omega)
  rw [Nat.mul_comm 256 b] at this
  exact this
theorem ob_shr_i {x : Int} (hx : 0 ≤ x) {s : Nat} (hs : s ≤ 64) : BinIs P .shr t (.int .i64 x) (.int ky (s : Int)) (.int .i64 ((x.toNat / 2 ^ s : Nat) : Int)) := by
  have := ob_shr_n (P := P) (t := t) (ky := ky) (a := x.toNat) hs
  rw [Int.toNat_of_nonneg hx] at this
  exact this
/-- append of nothing. -/
theorem app_none {t e : TypeId} {size bytes : Nat} {i : TypeInfo} {z : Value} (T : ListIs P t e size bytes i z) (h0 : 0 < size) {len : Nat} {zS : SV} (hE0 : V.E.getD 0 [] = nI len) {L : List Value} (hE1 : V.E.getD 1 [] = L) (hL : L.length = len * size) (hz : ∀ ρ, dl V ρ zS = z.cells.toList) {ty : TypeId} :
    Ct.ValidOp P [19, ty, t, t] ⟨.cons (.sli 0 (.lit .i64 0) 0 (.ev 0 0) (.rc 0)) (.cons .nilsl .nil), [.own e 1 0 zS], [], [], .sli 0 (.lit .i64 0) 0 (.ev 0 0) (.rc 0)⟩ V := by
  intro ρ w o ev htag hargs hpre
  have e0 : natV (den V ρ (.ev 0 0)) = len := by show natV ((V.E.getD 0 []).getD 0 undef) = len; rw [hE0]; rfl
  have hown := (hpre.2 0 (.own e 1 0 zS) rfl).2
  replace hown : (V.E.getD 1 []).length ≤ (ρ 0).2 * (dl V ρ zS).length := hown
  have hzl : z.cells.toList.length = size := by rw [Array.length_toList]; exact T.zs
  rw [hE1, hz, hzl, hL] at hown
  have hcap : len ≤ (ρ 0).2 := Nat.le_of_mul_le_mul_right hown h0
  have ha : o.op.operands.toList.map ev = [.slice (some ⟨(ρ 0).1, 0, none⟩) len (ρ 0).2, .slice none 0 0] := by
    rw [hargs]
    show [Value.slice (some ⟨(ρ 0).1, _, none⟩) (natV (den V ρ (.ev 0 0))) (natV (den V ρ (.rc 0)))] ++ ([Value.slice none 0 0] ++ []) = _
    rw [e0]; rfl
  rw [exec_append2 htag ha]
  have hrun := run_append_room_src (P := P) w t t o.type e i T.at_ T.info (ρ 0).1 0 len (ρ 0).2 _ 0 [] (Src.ofNil (P := P) w T.at_ 0) hcap (fun j hj => by simp at hj) (fun j hj => by simp at hj)
  have hset : w.setCells (ρ 0).1 (0 + len * i.size) [] = w := by
    unfold World.setCells
    simp
  rw [hset] at hrun
  simp only [Sem.run_bind, hrun, Result.andThen, Sem.run_pure]
  refine ⟨ρ, fun _ _ => rfl, fun j hj => by simp at hj, fun a b ha => by simp at ha, ?_, fun k bk hk => by simp at hk, fun j bk hj => by simp at hj, Fr.refl _ _⟩
  show Value.slice _ (len + 0) _ = Value.slice (some ⟨(ρ 0).1, _, none⟩) (natV (den V ρ (.ev 0 0))) _
  rw [e0]; rfl
end
theorem app_len (l m : List UInt8) : (l ++ m).length = l.length + m.length := List.length_append
theorem drop_sum {l : List UInt8} {a : Nat} (h : a ≤ l.length) : (l.drop a).length + a = l.length := by rw [List.length_drop]; omega
theorem take_sum {l : List UInt8} {b : Nat} (h : b ≤ l.length) : (l.take b).length = b := by rw [List.length_take]; omega
theorem sub_sum {l : List UInt8} {a b : Nat} (h : a ≤ b) (h' : b ≤ l.length) : ((l.take b).drop a).length + a = b := by rw [List.length_drop, List.length_take]; omega
theorem ob_bs {l m : List UInt8} (h : l = m) : ∀ (_ : Nat → Nat × Nat), Value.string (bs m) = Value.string (bs l) := fun _ => by rw [h]
end RX
end Go.Proofs.Ytieencpejpeenaa
end
section
namespace Go.Proofs.Ytieencpejpeenaa
open Go.RowKit
namespace RX
set_option linter.unnecessarySimpa false
set_option linter.unusedVariables false
set_option linter.unusedSimpArgs false
section
variable {P : Program} {V : Env} {t : TypeId}
theorem ob_min_l {ts : Array TypeId} {ty : TypeId} {cs : Array Bool} {x y v : SV} {a b : Nat} (hx : ∀ ρ, den V ρ x = .int .i64 (a : Int)) (hy : ∀ ρ, den V ρ y = .int .i64 (b : Int)) (sx : x.single = true) (sy : y.single = true) (h : a ≤ b) (hv : ∀ ρ, den V ρ v = .int .i64 (a : Int)) : (Obl.bi .min ts ty cs (.cons x (.cons y .nil)) v).holds P V := fun ρ w => by
  have hd : dl V ρ (.cons x (.cons y .nil)) = [den V ρ x, den V ρ y] := by simp only [dl, dl_single sx, dl_single sy, List.append_nil]; rfl
  rw [hd, hx, hy, hv]
  have : ¬ ((b : Int) < (a : Int)) := by omega
  simp [builtin, Builtin.min_, Builtin.min2, this]
theorem ob_min_r {ts : Array TypeId} {ty : TypeId} {cs : Array Bool} {x y v : SV} {a b : Nat} (hx : ∀ ρ, den V ρ x = .int .i64 (a : Int)) (hy : ∀ ρ, den V ρ y = .int .i64 (b : Int)) (sx : x.single = true) (sy : y.single = true) (h : b < a) (hv : ∀ ρ, den V ρ v = .int .i64 (b : Int)) : (Obl.bi .min ts ty cs (.cons x (.cons y .nil)) v).holds P V := fun ρ w => by
  have hd : dl V ρ (.cons x (.cons y .nil)) = [den V ρ x, den V ρ y] := by simp only [dl, dl_single sx, dl_single sy, List.append_nil]; rfl
  rw [hd, hx, hy, hv]
  have : ((b : Int) < (a : Int)) := by omega
  simp [builtin, Builtin.min_, Builtin.min2, this]
theorem ob_max_r {ts : Array TypeId} {ty : TypeId} {cs : Array Bool} {x y v : SV} {a b : Nat} (hx : ∀ ρ, den V ρ x = .int .i64 (a : Int)) (hy : ∀ ρ, den V ρ y = .int .i64 (b : Int)) (sx : x.single = true) (sy : y.single = true) (h : a ≤ b) (hv : ∀ ρ, den V ρ v = .int .i64 (b : Int)) : (Obl.bi .max ts ty cs (.cons x (.cons y .nil)) v).holds P V := fun ρ w => by
  have hd : dl V ρ (.cons x (.cons y .nil)) = [den V ρ x, den V ρ y] := by simp only [dl, dl_single sx, dl_single sy, List.append_nil]; rfl
  rw [hd, hx, hy, hv]
  have : (if (b : Int) > (a : Int) then (b : Int) else (a : Int)) = (b : Int) := by split <;> omega
  simp [builtin, Builtin.max_, Builtin.max2]
  omega
end
section
variable {P : Program} {V : Env} {t : TypeId}
theorem eq_bool' (ht : P.underlying t = some .bool) (n : Nat) (b : Bool) (w : World) : (Op.equalIn (n + 1) t (.bool b) (.bool b)).run P w = .ok true w := by
  simp [Op.equalIn, run_underlying ht]
theorem eq_bool (ht : P.underlying t = some .bool) (b : Bool) (w : World) : (Op.equalIn Op.maxDepth t (.bool b) (.bool b)).run P w = .ok true w := eq_bool' ht 9999 b w
theorem ob_beql {x y : SV} {b : Bool} (ht : P.underlying t = some .bool) (hx : ∀ ρ, den V ρ x = .bool b) (hy : ∀ ρ, den V ρ y = .bool b) : (Obl.bin .eql t x y (.bo true)).holds P V := fun ρ w u u' => by
  rw [hx, hy]
  have hg : eqGuard .eql t u u' (.bool b) (.bool b) = pure () := rfl
  have h := eq_bool (P := P) ht b w
  rw [hg]
  show (do let c ← Op.equalIn Op.maxDepth t (.bool b) (.bool b); pure (.bool c) : Sem Value).run P w = _
  rw [Sem.run_bind, h]
  rfl
theorem ob_bneq {x y : SV} {b : Bool} (ht : P.underlying t = some .bool) (hx : ∀ ρ, den V ρ x = .bool b) (hy : ∀ ρ, den V ρ y = .bool b) : (Obl.bin .neq t x y (.bo false)).holds P V := fun ρ w u u' => by
  rw [hx, hy]
  have hg : eqGuard .neq t u u' (.bool b) (.bool b) = pure () := rfl
  have h := eq_bool (P := P) ht b w
  rw [hg]
  show (do let c ← Op.equalIn Op.maxDepth t (.bool b) (.bool b); pure (.bool !c) : Sem Value).run P w = _
  rw [Sem.run_bind, h]
  rfl
end
section
variable {P : Program} {t e : TypeId} {size : Nat}
theorem exec_slice_hi {o : Oper} {ev : Operand → Value} {s h : Value} (ht : tagOf o = some [13, t, 0, 1, 0]) (ha : o.op.operands.toList.map ev = [s, h]) (w : World) : (execOp ev o).run P w = (do pure (.value (← Instr.sliceAt t s none (some h) none)) : Sem Next).run P w := by
  unfold tagOf at ht
  split at ht <;> first
    | (simp at ht; done)
    | skip
  rename_i t' x l h' m hop
  simp only [Option.some.injEq, List.cons.injEq] at ht
  obtain ⟨_, rfl, h1, h2, h3, _⟩ := ht
  cases l <;> simp at h1
  cases h' <;> simp at h2
  cases m <;> simp at h3
  rename_i hh
  rw [hop] at ha
  have ha' : [ev x, ev hh] = [s, h] := ha
  simp only [List.cons.injEq, and_true] at ha'
  unfold execOp
  simp only [hop, Option.map_some, Option.map_none, ha'.1, ha'.2]
theorem exec_slice3 {o : Oper} {ev : Operand → Value} {s l h m : Value} (ht : tagOf o = some [13, t, 1, 1, 1]) (ha : o.op.operands.toList.map ev = [s, l, h, m]) (w : World) : (execOp ev o).run P w = (do pure (.value (← Instr.sliceAt t s (some l) (some h) (some m))) : Sem Next).run P w := by
  unfold tagOf at ht
  split at ht <;> first
    | (simp at ht; done)
    | skip
  rename_i t' x l' h' m' hop
  simp only [Option.some.injEq, List.cons.injEq] at ht
  obtain ⟨_, rfl, h1, h2, h3, _⟩ := ht
  cases l' <;> simp at h1
  cases h' <;> simp at h2
  cases m' <;> simp at h3
  rename_i ll hh mm
  rw [hop] at ha
  have ha' : [ev x, ev ll, ev hh, ev mm] = [s, l, h, m] := ha
  simp only [List.cons.injEq, and_true] at ha'
  unfold execOp
  simp only [hop, Option.map_some, ha'.1, ha'.2.1, ha'.2.2.1, ha'.2.2.2]
/-- The beginning of a list of one's own. -/
theorem sl_own_hi (S : SliceIs P t e size) (h0 : 0 < size) {len hi : Nat} {L : List Value} (hL : L.length = len * size) (hle : hi ≤ len) {zS : SV} {V : Env} (hE0 : V.E.getD 0 [] = nI len) (hE1 : V.E.getD 1 [] = nI hi) (hE2 : V.E.getD 2 [] = L) (hz : ∀ ρ, (dl V ρ zS).length = size) :
    Ct.ValidOp P [13, t, 0, 1, 0] ⟨.cons (.sli 0 (.lit .i64 0) 0 (.ev 0 0) (.rc 0)) (.cons (.ev 1 0) .nil), [.own e 2 0 zS], [], [], .sli 0 (.lit .i64 0) 0 (.ev 1 0) (.rc 0)⟩ V := by
  intro ρ w o ev htag hargs hpre
  have e0 : natV (den V ρ (.ev 0 0)) = len := by show natV ((V.E.getD 0 []).getD 0 undef) = len; rw [hE0]; rfl
  have e1 : natV (den V ρ (.ev 1 0)) = hi := by show natV ((V.E.getD 1 []).getD 0 undef) = hi; rw [hE1]; rfl
  have ha : o.op.operands.toList.map ev = [.slice (some ⟨(ρ 0).1, 0, none⟩) len (ρ 0).2, .int .i64 (hi : Int)] := by
    rw [hargs]
    show [Value.slice (some ⟨(ρ 0).1, _, none⟩) (natV (den V ρ (.ev 0 0))) _] ++ ([(V.E.getD 1 []).getD 0 undef] ++ []) = _
    rw [e0, hE1]; rfl
  obtain ⟨hb, hroom⟩ := hpre.2 0 (.own e 2 0 zS) rfl
  have hcap : len ≤ (ρ 0).2 := by
    have : L.length ≤ (ρ 0).2 * size := by
      have h1 : (V.E.getD 2 []).length ≤ (ρ 0).2 * (dl V ρ zS).length := hroom
      rwa [hE2, hz] at h1
    rw [hL] at this
    exact Nat.le_of_mul_le_mul_right this h0
  rw [exec_slice_hi htag ha]
  have hr : (Instr.sliceAt t (.slice (some ⟨(ρ 0).1, 0, none⟩) len (ρ 0).2) none (some (.int .i64 (hi : Int))) none).run P w = .ok (.slice (some ⟨(ρ 0).1, 0, none⟩) hi (ρ 0).2) w := by
    have h1 : (0 : Int) ≤ (hi : Int) ∧ (hi : Int) ≤ ((ρ 0).2 : Int) := ⟨by omega, by omega⟩
    simp [Instr.sliceAt, Instr.slice, Instr.sliceBounds, Instr.sliceBound, run_underlying S.at_, sizeT_run S.size, asIntOf, h1.1, h1.2, Nat.le_trans hle hcap]
    intro _
    simp [Addr.add]
  simp only [Sem.run_bind, hr, Result.andThen, Sem.run_pure]
  refine ⟨ρ, fun _ _ => rfl, fun j hj => by simp at hj, fun i j hi => by simp at hi, ?_, fun i bk hb => by simp at hb, fun j bk hb => by simp at hb, Fr.refl _ _⟩
  show Value.slice _ hi _ = Value.slice (some ⟨(ρ 0).1, _, none⟩) (natV (den V ρ (.ev 1 0))) _
  rw [e1]; rfl
theorem run_slice3 (S : SliceIs P t e size) {a : Option Addr} {len cap lo : Nat} (hl : lo ≤ len) (hc : len ≤ cap) (w : World) : (Instr.sliceAt t (.slice a len cap) (some (.int .i64 (lo : Int))) (some (.int .i64 (len : Int))) (some (.int .i64 (len : Int)))).run P w = .ok (.slice (if len = lo then a else a.map (·.add (lo * size))) (len - lo) (len - lo)) w := by
  have h1 : (0 : Int) ≤ (lo : Int) ∧ (lo : Int) ≤ (len : Int) := ⟨by omega, by omega⟩
  have h2 : (0 : Int) ≤ (len : Int) ∧ (len : Int) ≤ (cap : Int) := ⟨by omega, by omega⟩
  simp [Instr.sliceAt, Instr.slice, Instr.sliceBounds, Instr.sliceBound, run_underlying S.at_, sizeT_run S.size, asIntOf, h1.1, h1.2, h2.1, h2.2, hl, hc]
/-- All of a list of one's own let go: s[n:n:n]. -/
theorem sl3_own_end (S : SliceIs P t e size) (h0 : 0 < size) {len : Nat} {L : List Value} (hL : L.length = len * size) {zS : SV} {V : Env} (hE0 : V.E.getD 0 [] = nI len) (hE2 : V.E.getD 1 [] = L) (hz : ∀ ρ, (dl V ρ zS).length = size) :
    Ct.ValidOp P [13, t, 1, 1, 1] ⟨.cons (.sli 0 (.lit .i64 0) 0 (.ev 0 0) (.rc 0)) (.cons (.ev 0 0) (.cons (.ev 0 0) (.cons (.ev 0 0) .nil))), [.own e 1 0 zS], [some .gone], [.view 1], .sli 1 (.lit .i64 0) 0 (.lit .i64 0) (.lit .i64 0)⟩ V := by
  intro ρ w o ev htag hargs hpre
  have e0 : natV (den V ρ (.ev 0 0)) = len := by show natV ((V.E.getD 0 []).getD 0 undef) = len; rw [hE0]; rfl
  have ha : o.op.operands.toList.map ev = [.slice (some ⟨(ρ 0).1, 0, none⟩) len (ρ 0).2, .int .i64 (len : Int), .int .i64 (len : Int), .int .i64 (len : Int)] := by
    rw [hargs]
    show [Value.slice (some ⟨(ρ 0).1, _, none⟩) (natV (den V ρ (.ev 0 0))) _] ++ ([(V.E.getD 0 []).getD 0 undef] ++ ([(V.E.getD 0 []).getD 0 undef] ++ ([(V.E.getD 0 []).getD 0 undef] ++ []))) = _
    rw [e0, hE0]; rfl
  obtain ⟨hb, hroom⟩ := hpre.2 0 (.own e 1 0 zS) rfl
  have hcap : len ≤ (ρ 0).2 := by
    have : L.length ≤ (ρ 0).2 * size := by
      have h1 : (V.E.getD 1 []).length ≤ (ρ 0).2 * (dl V ρ zS).length := hroom
      rwa [hE2, hz] at h1
    rw [hL] at this
    exact Nat.le_of_mul_le_mul_right this h0
  rw [exec_slice3 htag ha]
  simp only [Sem.run_bind, run_slice3 S (Nat.le_refl len) hcap, Result.andThen, Sem.run_pure]
  let ρ' : Nat → Nat × Nat := fun k => if k = 1 then ((ρ 0).1, 0) else ρ k
  refine ⟨ρ', fun k hk => ?_, fun j hj => .inr ⟨0, rfl, ?_⟩, fun a b ha hb _ => ?_, ?_, fun k bk hk => ?_, fun j bk hj => ?_, Fr.refl _ _⟩
  · exact if_neg (by simp at hk; omega)
  · have : j = 0 := by simpa using hj
    subst this; rfl
  · have h1 : a = 0 := by simpa using ha
    have h2 : b = 0 := by simpa using hb
    rw [h1, h2]
  · rw [Nat.sub_self]; simp only [if_true]; rfl
  · match k with
    | 0 => cases hk; trivial
    | _ + 1 => simp at hk
  · match j with
    | 0 =>
      cases hj
      exact ⟨_, _, _, hb⟩
    | _ + 1 => simp at hj
/-- .. from its end on: another block's room tells where it lies. -/
theorem sl_own_end2 (S : SliceIs P t e size) {len : Nat} {L : List Value} {zS : SV} {V : Env} (hE0 : V.E.getD 0 [] = nI len) (hE1 : V.E.getD 1 [] = nI len) (hE2 : V.E.getD 2 [] = L) :
    Ct.ValidOp P [13, t, 1, 0, 0] ⟨.cons (.sli 0 (.lit .i64 0) 0 (.ev 0 0) (.rc 0)) (.cons (.ev 1 0) .nil), [.own e 2 0 zS, .view 3], [some .gone, some .gone], [.view 2, .view 3], .sli 2 (.rc 3) 0 (.lit .i64 0) (.rc 2)⟩ V := by
  intro ρ w o ev htag hargs hpre
  have e0 : ∀ ρ, natV (den V ρ (.ev 0 0)) = len := fun ρ => by show natV ((V.E.getD 0 []).getD 0 undef) = len; rw [hE0]; rfl
  have ha : o.op.operands.toList.map ev = [.slice (some ⟨(ρ 0).1, 0, none⟩) len (ρ 0).2, .int .i64 (len : Int)] := by
    rw [hargs]
    show [Value.slice (some ⟨(ρ 0).1, _, none⟩) (natV (den V ρ (.ev 0 0))) _] ++ ([(V.E.getD 1 []).getD 0 undef] ++ []) = _
    rw [e0, hE1]; rfl
  obtain ⟨hb, _⟩ := hpre.2 0 (.own e 2 0 zS) rfl
  obtain ⟨rest1, ty1, z1, hb1⟩ := hpre.2 1 (.view 3) rfl
  have hne : (ρ 0).1 ≠ (ρ 1).1 := fun he => by
    have := hpre.1 0 1 (by show 0 < 2; decide) (by show 1 < 2; decide) (.inl rfl) he
    omega
  rw [exec_slice htag ha]
  simp only [Sem.run_bind, run_slice_lo S (Nat.le_refl len), Result.andThen, Sem.run_pure]
  let ρ' : Nat → Nat × Nat := fun k => if k = 2 then ((ρ 0).1, (ρ 0).2 - len) else if k = 3 then ((ρ 1).1, if (ρ 0).2 = len then 0 else len * size) else ρ k
  refine ⟨ρ', fun k hk => ?_, fun j hj => ?_, fun a b ha hb' he => ?_, ?_, fun k bk hk => ?_, fun j bk hj => ?_, ?_⟩
  · have hk2 : k < 2 := by simpa using hk
    match k, hk2 with
    | 0, _ => rfl
    | 1, _ => rfl
  · have hj2 : j < 2 := by simpa using hj
    match j, hj2 with
    | 0, _ => exact .inr ⟨0, rfl, rfl⟩
    | 1, _ => exact .inr ⟨1, rfl, rfl⟩
  · have h1 : a < 2 := by simpa using ha
    have h2 : b < 2 := by simpa using hb'
    match a, h1, b, h2 with
    | 0, _, 0, _ => rfl
    | 1, _, 1, _ => rfl
    | 0, _, 1, _ => exact absurd he hne
    | 1, _, 0, _ => exact absurd he.symm hne
  · show Value.slice _ (len - len) _ = Value.slice (some ⟨(ρ' 2).1, (((ρ' 3).2 : Nat) : Int).toNat + 0, none⟩) ((0 : Int).toNat) (ρ' 2).2
    have hx : (ρ' 3).2 = if (ρ 0).2 = len then 0 else len * size := rfl
    rw [hx]
    by_cases hc : (ρ 0).2 = len
    · rw [if_pos hc, if_pos hc]; simp; exact ⟨rfl, rfl⟩
    · rw [if_neg hc, if_neg hc, Int.toNat_natCast]; simp [addr_off]; exact ⟨rfl, rfl⟩
  · match k with
    | 0 => cases hk; trivial
    | 1 => cases hk; trivial
    | _ + 2 => simp at hk
  · match j with
    | 0 => cases hj; exact ⟨_, _, _, hb⟩
    | 1 => cases hj; exact ⟨_, _, _, hb1⟩
    | _ + 2 => simp at hj
  · exact Fr.refl _ _
end
end RX
end Go.Proofs.Ytieencpejpeenaa
end
section
namespace Go.Proofs.Ytieencpejpeenaa
open Go.RowKit
namespace RX
set_option linter.unnecessarySimpa false
set_option linter.unusedVariables false
set_option linter.unusedSimpArgs false
/-- A law from a loop's head on, checked. -/
def sgCheckL (P : Program) (Γ : List Gm) (S : List Sm) (lens : List Nat) (N : Nat) (code : Code) (g : Sg) (τ υ τ' υ' : List Nat) (fuel : Nat) (hs : List Hint) (outs : List Nat) : Option (List Obl × List (Code × Nat)) :=
  (fun pre sl => cond (slB g.pre.length N sl && bksB g.pre.length pre)
    (match exec P Γ S lens (roList g.post g.pre.length) N fuel true code ⟨sl, startHp 0 pre, g.pre.length⟩ hs with
      | some (e, s', [], os, cs) => cond (e.beq g.ex) (match ownSl (smR τ' (List.range g.pre.length ++ outs)) s'.sl g.sl', finAt g.pre.length s'.hp (smB τ' υ' (List.range g.pre.length ++ outs)) g.post g.news outs with
        | some o1, some o2 => some (os ++ (o2 ++ o1), cs)
        | _, _ => none) none
      | _ => none) none) (rnEs τ υ g.pre) (mapSl (fun x => x.rnE τ) g.sl)
def Sg.ValidLSt (J : World → Prop) (P : Program) (N : Nat) (c : Code) (g : Sg) (VA VB : Env) : Prop :=
  ∀ ρ a w, (∀ w', Fr w w' (fun b => ∃ i, i < g.pre.length ∧ (roList g.post g.pre.length).any (Nat.beq i) = false ∧ (ρ i).1 = b) → J w') → a.tmps.size = N → a.defers = [] → slotsOK VA ρ a g.sl → preOK VA ρ w g.pre g.post → loopWp P c (g.Q VB N ρ w) a w
section
variable {J : World → Prop} {P : Program} {V : Env} {Γ : List Gm} {S : List Sm} {lens : List Nat}
theorem Sg.of_execL {code : Code} {N : Nat} (hm : P.follows .mixedOrders = true)
    (hV : VOK V lens) (hE : V.E.length ≤ 1000000) (hO : V.O.length ≤ 1000000) (hΓ : allG J P V Γ) {g : Sg} {τ υ τ' υ' : List Nat} {fuel : Nat} {hs : List Hint} {outs : List Nat} {os : List Obl} {cs : List (Code × Nat)}
    (h : sgCheckL P Γ S lens N code g τ υ τ' υ' fuel hs outs = some (os, cs)) (ho : allO P V os) (hc : allC J P N V S cs) : g.ValidLSt J P N code (V.sub τ υ) (V.sub τ' υ') := by
  unfold sgCheckL at h
  simp only at h
  obtain ⟨hq, h⟩ := cond_bind h
  simp only [Bool.and_eq_true] at hq
  obtain ⟨hab, hpb⟩ := hq
  intro ρ a w hst hsz hdf hsl hpre
  split at h
  case h_2 => cases h
  rename_i e s' os' cs' hx
  cases hbe : e.beq g.ex with
  | false => rw [hbe] at h; cases h
  | true =>
  rw [hbe] at h
  simp only [cond_true] at h
  have hex := Ex.eq_of_beq hbe
  split at h
  case h_2 => cases h
  rename_i o1 o2 hown hfin
  cases h
  rw [allO_app, allO_app] at ho
  have hprelen : (rnEs τ υ g.pre).length = g.pre.length := by
    have : ∀ l : List Bk, (rnEs τ υ l).length = l.length := fun l => by induction l <;> simp_all [rnEs]
    exact this _
  have hpre' : ∀ (i : Nat) (bk : Bk), (rnEs τ υ g.pre)[i]? = some bk → bk.holds V ρ w.heap[(ρ i).1]? := by
    intro i bk hb'
    rw [rnEs_get] at hb'
    obtain ⟨b, hb1, rfl⟩ := Option.map_eq_some_iff.1 hb'
    exact (Bk.holds_rnE hE hO).2 (hpre.2 i b hb1)
  have hWF : WF g.pre.length ⟨mapSl (fun x => x.rnE τ) g.sl, startHp 0 (rnEs τ υ g.pre), g.pre.length⟩ := by
    refine ⟨fun t => slB_lk hab t, fun id bk hb' => ?_, Nat.le_refl _⟩
    obtain ⟨h1, h2⟩ := startHp_get hb'
    have h3 := (List.getElem?_eq_some_iff.1 h2).1
    exact ⟨by rw [hprelen] at h3; simp only; omega, bksB_get hpb h2⟩
  obtain ⟨_, W⟩ := exec_ok (p0 := g.pre.length) hm hV hE hO hΓ _ _ _ _ _ _ _ _ _ _ hx ho.1 hc hWF
  have hI : Inv J V w ρ g.pre.length N (fun i => (roList g.post g.pre.length).any (Nat.beq i)) ρ (lkS (mapSl (fun x => x.rnE τ) g.sl)) (lkH (startHp 0 (rnEs τ υ g.pre))) a w := by
    refine ⟨hsz, hdf, ?_, ?_, ?_, Fr.refl _ _, fun _ _ => rfl, ?_, hst⟩
    · exact slotsOK_lk ((slotsOK_rn (V' := V.sub τ υ) (ρ' := ρ) (r := fun x => x.rnE τ) (fun x => dl_rnE)).2 hsl)
    · intro id bk hb'
      obtain ⟨_, h2⟩ := startHp_get hb'
      rw [Nat.sub_zero] at h2
      exact hpre' id bk h2
    · intro i j hi hj hor he
      have key : ∀ i, lvO (lkH (startHp 0 (rnEs τ υ g.pre)) i) = true → i < g.pre.length := fun i hi => by
        obtain ⟨b, hb', _⟩ := lvO_some hi
        obtain ⟨_, h2⟩ := startHp_get hb'
        have h3 := (List.getElem?_eq_some_iff.1 h2).1
        rw [hprelen] at h3; omega
      exact hpre.1 i j (key i hi) (key j hj) (hor.imp (roList_no (key i hi)) (roList_no (key j hj))) he
    · intro i hi hp
      obtain ⟨b, hb', _⟩ := lvO_some hi
      obtain ⟨_, h2⟩ := startHp_get hb'
      have h3 := (List.getElem?_eq_some_iff.1 h2).1
      rw [hprelen] at h3; omega
  have W1 : loopWp P code _ a w := W w ρ ρ a w hI
  refine loopWp_mono W1 ?_
  rintro x a' w' ⟨rfl, ρ', hI'⟩
  refine ⟨by rw [hex], hI'.size, hI'.defers, fun i => ρ' ((List.range g.pre.length ++ outs).getD i 0), ?_, ?_⟩
  · exact (slotsOK_rn (r := smR τ' (List.range g.pre.length ++ outs)) (fun x => den_smR (υ := υ'))).1 (ownSl_spec hI'.slots hown ho.2.2)
  · exact fin_ok hE hO hfin ho.2.1 (ro := fun i => (roList g.post g.pre.length).any (Nat.beq i)) (fun i hi => by
      rw [List.any_eq_false]; intro x hx hb'; have := roList_lt hx; have := Nat.eq_of_beq_eq_true hb'; omega) (fun i hi h0 => roList_no hi h0) hI'
end
section
variable {P : Program} {N : Nat} {c : Code} {g : Sg} {R W : List Nat}
/-- m rounds, then a law from the head on. -/
theorem Sg.loopTail {J : World → Prop} (V : Nat → Env) {VB : Env} (m : Nat) (hchk : loopB N g R W = true)
    (hk : ∀ k, k < m → ∀ (i : Nat) (b : Bk), g.pre[i]? = some b → R.any (Nat.beq i) = false → W.any (Nat.beq i) = false → b.rnI (nextIds g.pre.length R) = b ∧ ∀ ρ o, b.holds (V k) ρ o → b.holds (V (k + 1)) ρ o)
    (hr : ∀ k, k < m → Sg.ValidSt J P N c (roundSg g.sl g.pre R W) (V k) (V (k + 1))) (hl : g.ValidLSt J P N c (V m) VB) : (loopSg g R).ValidLJ J P N c (V 0) VB := by
  have C := loopB_ok hchk
  intro ρ0 a w0 hst hsz hdf hsl hpre
  have wrF : ∀ {k : Nat}, k < g.pre.length → isWr g.post k = true → isWr (loopSg g R).post k = true := fun {k} hk hw => by
    obtain ⟨b, hb⟩ := isWr_some hw
    cases hR : R.any (Nat.beq k) with
    | true => exact isWr_of (b := .gone) (by simp only [loopSg, List.getElem?_map, List.getElem?_range hk, Option.map_some, hR, cond_true])
    | false => exact isWr_of (b := b.rnI (lastIds g.pre.length R g.news.length)) (by simp only [loopSg, List.getElem?_map, List.getElem?_range hk, Option.map_some, hR, cond_false, List.getD_eq_getElem?_getD, hb, Option.getD_some])
  have hI : Lp (V 0) N g R ρ0 w0 ρ0 a w0 := ⟨hsz, hdf, hsl, hpre.2, fun i j hi hj hor he => hpre.1 i j hi hj (hor.imp (wrF hi) (wrF hj)) he, fun _ _ _ => rfl, fun i hi hR => .inr ⟨i, hi, hR, rfl⟩, Fr.refl _ _⟩
  have stab : ∀ {k : Nat} {ρ : Nat → Nat × Nat} {a : Act} {w : World} (h : Lp (V k) N g R ρ0 w0 ρ a w) {post : List (Option Bk)}, (∀ i, i < g.pre.length → (roList post g.pre.length).any (Nat.beq i) = false → isWr g.post i = true) →
      ∀ w', Fr w w' (fun b => ∃ i, i < g.pre.length ∧ (roList post g.pre.length).any (Nat.beq i) = false ∧ (ρ i).1 = b) → J w' := by
    intro k ρ a w h post hp w' hfr
    refine hst w' ((h.fr.trans hfr ?_).mono ?_)
    · rintro x hx ⟨i, hi, hro, rfl⟩
      cases hR : R.any (Nat.beq i) with
      | false => exact ⟨i, hi, hp i hi hro, by rw [h.same i hi hR]⟩
      | true =>
        rcases h.fresh i hi hR with hge | ⟨q, hq1, hq2, hq3⟩
        · omega
        · exact ⟨q, hq1, C.wr q (.inl hq2), hq3.symm⟩
    · rintro x _ ⟨i, hi, hw, rfl⟩
      exact ⟨i, hi, wrF hi hw, rfl⟩
  have run : ∀ (n k : Nat), k + n = m → ∀ (ρ : Nat → Nat × Nat) (a : Act) (w : World), Lp (V k) N g R ρ0 w0 ρ a w → loopWp P c ((loopSg g R).Q VB N ρ0 w0) a w := by
    intro n
    induction n with
    | zero =>
      intro k hkm ρ a w h
      obtain rfl : k = m := by omega
      exact loopWp_mono (hl ρ a w (stab h (fun i hi hn => roList_no hi hn)) h.size h.defers h.slots ⟨h.inj, h.heap⟩) (fun _ _ _ hq => h.lastQ C hq)
    | succ n ih =>
      intro k hkm ρ a w h
      refine loop_round (wp_mono (h.round C (hk k (by omega)) (hr k (by omega) ρ a w (stab h (fun i hi hn => by obtain ⟨b, hb⟩ := isWr_some (roList_no (post := (roundSg g.sl g.pre R W).post) hi hn); obtain ⟨_, hor⟩ := round_post hb; exact C.wr i (hor.imp (·.1) (·.2.1)))))) ?_)
      rintro e a' w' ⟨rfl, ρ', h'⟩
      exact ih (k + 1) (by omega) ρ' a' w' h'
  exact run m 0 (by omega) ρ0 a w0 hI
end
theorem Sg.Valid.st {P : Program} {N : Nat} {c : Code} {g : Sg} {VA VB : Env} (h : g.Valid P N c VA VB) : g.ValidSt (fun _ => True) P N c VA VB := fun ρ a w _ => h ρ a w
theorem Sg.ValidLJ.plain {P : Program} {N : Nat} {c : Code} {g : Sg} {VA VB : Env} (h : g.ValidLJ (fun _ => True) P N c VA VB) : g.ValidL P N c VA VB := fun ρ a w => h ρ a w (fun _ _ => trivial)
end RX
end Go.Proofs.Ytieencpejpeenaa
end
section
namespace Go.Proofs.Ytieencpejpeenaa
set_option linter.unusedVariables false
set_option linter.unusedSimpArgs false
open Go.RowKit
open RX
theorem segKL {J : World → Prop} {f : FuncId} {fn : Func} (F : FnIs Try.prog f fn) (N : Nat) (code : Code) (K : List EK) (lens : List Nat) (Γ : List Gm) (S : List Sm) (g : Sg) (τ τ' : List Nat) (fuel : Nat) (hs : List Hint) (outs : List Nat) (os : List Obl) (cs : List (Code × Nat)) (hl : K.map EK.len = lens) (hK : Nat.ble K.length 1000000 = true)
    (h : sgCheckL Try.prog Γ S lens N code g τ [] τ' [] fuel hs outs = some (os, cs)) (hΓ : allG J Try.prog ⟨K.map EK.val, []⟩ Γ) (ho : allO Try.prog ⟨K.map EK.val, []⟩ os) (hc : allC J Try.prog N ⟨K.map EK.val, []⟩ S cs) : g.ValidLSt J Try.prog N code (Env.sub ⟨K.map EK.val, []⟩ τ []) (Env.sub ⟨K.map EK.val, []⟩ τ' []) := by
  subst hl
  exact Sg.of_execL F.mixed (ek_vok [] K) (by rw [List.length_map]; exact Nat.le_of_ble_eq_true hK) (Nat.zero_le _) hΓ h ho hc
end Go.Proofs.Ytieencpejpeenaa
end
section
namespace Go.Proofs.Ytieencpejpeenaa
open Go.RowKit
namespace RX
set_option linter.unnecessarySimpa false
set_option linter.unusedVariables false
set_option linter.unusedSimpArgs false
section
variable {P : Program} {t e : TypeId} {size : Nat}
/-- The rest of a list of one's own, clipped: s[lo:n:n]. -/
theorem sl3_own_lo (S : SliceIs P t e size) (h0 : 0 < size) {len lo : Nat} {L : List Value} (hL : L.length = len * size) (hlt : lo < len) {zS : SV} {V : Env} (hE0 : V.E.getD 0 [] = nI len) (hE1 : V.E.getD 1 [] = nI lo) (hE2 : V.E.getD 2 [] = L) (hE3 : V.E.getD 3 [] = nI (lo * size)) (hE4 : V.E.getD 4 [] = nI (len - lo)) (hz : ∀ ρ, (dl V ρ zS).length = size) :
    Ct.ValidOp P [13, t, 1, 1, 1] ⟨.cons (.sli 0 (.lit .i64 0) 0 (.ev 0 0) (.rc 0)) (.cons (.ev 1 0) (.cons (.ev 0 0) (.cons (.ev 0 0) .nil))), [.own e 2 0 zS], [some .gone], [.view 2], .sli 1 (.ev 3 0) 0 (.ev 4 0) (.ev 4 0)⟩ V := by
  intro ρ w o ev htag hargs hpre
  have e0 : natV (den V ρ (.ev 0 0)) = len := by show natV ((V.E.getD 0 []).getD 0 undef) = len; rw [hE0]; rfl
  have e3 : ∀ ρ, natV (den V ρ (.ev 3 0)) = lo * size := fun ρ => by show natV ((V.E.getD 3 []).getD 0 undef) = _; rw [hE3]; rfl
  have e4 : ∀ ρ, natV (den V ρ (.ev 4 0)) = len - lo := fun ρ => by show natV ((V.E.getD 4 []).getD 0 undef) = _; rw [hE4]; rfl
  have ha : o.op.operands.toList.map ev = [.slice (some ⟨(ρ 0).1, 0, none⟩) len (ρ 0).2, .int .i64 (lo : Int), .int .i64 (len : Int), .int .i64 (len : Int)] := by
    rw [hargs]
    show [Value.slice (some ⟨(ρ 0).1, _, none⟩) (natV (den V ρ (.ev 0 0))) _] ++ ([(V.E.getD 1 []).getD 0 undef] ++ ([(V.E.getD 0 []).getD 0 undef] ++ ([(V.E.getD 0 []).getD 0 undef] ++ []))) = _
    rw [e0, hE0, hE1]; rfl
  obtain ⟨hb, hroom⟩ := hpre.2 0 (.own e 2 0 zS) rfl
  have hcap : len ≤ (ρ 0).2 := by
    have : L.length ≤ (ρ 0).2 * size := by
      have h1 : (V.E.getD 2 []).length ≤ (ρ 0).2 * (dl V ρ zS).length := hroom
      rwa [hE2, hz] at h1
    rw [hL] at this
    exact Nat.le_of_mul_le_mul_right this h0
  rw [exec_slice3 htag ha]
  simp only [Sem.run_bind, run_slice3 S (Nat.le_of_lt hlt) hcap, Result.andThen, Sem.run_pure]
  rw [if_neg (by omega)]
  let ρ' : Nat → Nat × Nat := fun k => if k = 1 then ((ρ 0).1, 0) else ρ k
  refine ⟨ρ', fun k hk => ?_, fun j hj => .inr ⟨0, rfl, ?_⟩, fun a b ha hb _ => ?_, ?_, fun k bk hk => ?_, fun j bk hj => ?_, Fr.refl _ _⟩
  · exact if_neg (by simp at hk; omega)
  · have : j = 0 := by simpa using hj
    subst this; rfl
  · have h1 : a = 0 := by simpa using ha
    have h2 : b = 0 := by simpa using hb
    rw [h1, h2]
  · show Value.slice _ (len - lo) _ = Value.slice (some ⟨(ρ' 1).1, natV (den V ρ' (.ev 3 0)) + 0, none⟩) (natV (den V ρ' (.ev 4 0))) (natV (den V ρ' (.ev 4 0)))
    rw [e3, e4]
    simp [addr_off]
    rfl
  · match k with
    | 0 => cases hk; trivial
    | _ + 1 => simp at hk
  · match j with
    | 0 =>
      cases hj
      exact ⟨_, _, _, hb⟩
    | _ + 1 => simp at hj
end
section
variable {P : Program} {V : Env} {t e : TypeId} {size : Nat}
/-- .. of a list with a known room. -/
theorem ob_sl3 (S : SliceIs P t e size) {id : Nat} {bs len cap lo hi bs' len' : SV} {o n c k : Nat} (ho : ∀ ρ, natV (den V ρ bs) = o) (hn : ∀ ρ, natV (den V ρ len) = n) (hc : ∀ ρ, natV (den V ρ cap) = c) (hlo : ∀ ρ, den V ρ lo = .int .i64 (k : Int)) (hhi : ∀ ρ, den V ρ hi = .int .i64 (n : Int)) (ho' : ∀ ρ, natV (den V ρ bs') = o + k * size) (hl' : ∀ ρ, natV (den V ρ len') = n - k) (hk : k < n) (hnc : n ≤ c) :
    (Obl.sl t (.sli id bs 0 len cap) (some lo) (some hi) (some hi) (.sli id bs' 0 len' len')).holds P V := fun ρ w => by
  have hx : den V ρ (.sli id bs 0 len cap) = .slice (some ⟨(ρ id).1, o, none⟩) n c := by rw [← hc ρ, ← hn ρ, ← ho ρ]; rfl
  have hv : den V ρ (.sli id bs' 0 len' len') = .slice (some ⟨(ρ id).1, o + k * size, none⟩) (n - k) (n - k) := by rw [← hl' ρ, ← ho' ρ]; rfl
  rw [hx, hv]
  simp only [Option.map_some, hlo, hhi]
  have h := run_slice3 S (a := some ⟨(ρ id).1, o, none⟩) (Nat.le_of_lt hk) hnc w
  rw [if_neg (by omega)] at h
  rw [h, Option.map_some, addr_off']
/-- .. nothing is left of it. -/
theorem ob_sl3_end (S : SliceIs P t e size) {id : Nat} {bs len cap lo hi : SV} {n c : Nat} (hn : ∀ ρ, natV (den V ρ len) = n) (hc : ∀ ρ, natV (den V ρ cap) = c) (hlo : ∀ ρ, den V ρ lo = .int .i64 (n : Int)) (hhi : ∀ ρ, den V ρ hi = .int .i64 (n : Int)) (hnc : n ≤ c) :
    (Obl.sl t (.sli id bs 0 len cap) (some lo) (some hi) (some hi) (.sli id bs 0 (.lit .i64 0) (.lit .i64 0))).holds P V := fun ρ w => by
  have hx : den V ρ (.sli id bs 0 len cap) = .slice (some ⟨(ρ id).1, natV (den V ρ bs), none⟩) n c := by rw [← hc ρ, ← hn ρ]; rfl
  have hv : den V ρ (.sli id bs 0 (.lit .i64 0) (.lit .i64 0)) = .slice (some ⟨(ρ id).1, natV (den V ρ bs), none⟩) 0 0 := rfl
  rw [hx, hv]
  simp only [Option.map_some, hlo, hhi]
  have h := run_slice3 S (a := some ⟨(ρ id).1, natV (den V ρ bs), none⟩) (Nat.le_refl n) hnc w
  rw [if_pos rfl, Nat.sub_self] at h
  rw [h]
end
/-- .. of no list. -/
theorem ob_sl_nil {P : Program} {V : Env} {t e : TypeId} {size : Nat} (S : SliceIs P t e size) {hi : SV} (hh : ∀ ρ, den V ρ hi = .int .i64 0) : (Obl.sl t .nilsl none (some hi) none .nilsl).holds P V := fun ρ w => by
  have hx : den V ρ .nilsl = .slice none 0 0 := rfl
  rw [hx]
  simp only [Option.map_some, Option.map_none, hh]
  simp [Instr.sliceAt, Instr.slice, Instr.sliceBounds, Instr.sliceBound, run_underlying S.at_, sizeT_run S.size, asIntOf]
theorem int_nat {k : IntKind} {a b : Nat} (h : a = b) : Value.int k (a : Int) = .int k (b : Int) := by rw [h]
section
variable {T : Type} {f : T → List Value} {size : Nat}
theorem part_drop (hf : ∀ t, (f t).length = size) {R : List Value} {o : Nat} {l : List T} (h : (R.drop o).take (l.length * size) = l.flatMap f) (k : Nat) : (R.drop (o + k * size)).take ((l.drop k).length * size) = (l.drop k).flatMap f := by
  have h2 := own_drop hf l k
  rw [← h, List.drop_take, List.drop_drop] at h2
  rw [← h2, List.take_take, List.length_drop, Nat.sub_mul, Nat.min_self]
end
end RX
end Go.Proofs.Ytieencpejpeenaa
end
