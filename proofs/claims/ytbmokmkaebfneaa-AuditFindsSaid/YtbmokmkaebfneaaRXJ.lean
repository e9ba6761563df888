/- '==' of structs and arrays of whole numbers, bools and texts: whether their cells are the same. -/
import Derived.Test.YtbmokmkaebfneaaRXH
import Derived.ChangeKeysEq
import Derived.Laws.StructEq
namespace Go.Proofs.Ytbmokmkaebfneaa
open Go.RowKit
namespace RX
set_option linter.unnecessarySimpa false
set_option linter.unusedVariables false
set_option linter.unusedSimpArgs false
inductive LK where
  | i (k : IntKind)
  | b
  | s
def LK.fits : LK → Value → Bool
  | .i k, .int k' _ => decide (k = k')
  | .b, .bool _ => true
  | .s, .string _ => true
  | _, _ => false
def fitsB : List LK → List Value → Bool
  | [], [] => true
  | k :: ks, v :: vs => k.fits v && fitsB ks vs
  | _, _ => false
def eqV : Value → Value → Bool
  | .int _ a, .int _ b => a == b
  | .bool a, .bool b => a == b
  | .string a, .string b => a == b
  | _, _ => false
def eqL : List Value → List Value → Bool
  | [], [] => true
  | a :: r, b :: q => eqV a b && eqL r q
  | _, _ => false
theorem eqV_iff {k : LK} {a b : Value} (ha : k.fits a = true) (hb : k.fits b = true) : eqV a b = true ↔ a = b := by
  cases k with
  | i k => cases a <;> simp [LK.fits] at ha; cases b <;> simp [LK.fits] at hb; subst ha; subst hb; simp [eqV]
  | b => cases a <;> simp [LK.fits] at ha; cases b <;> simp [LK.fits] at hb; simp [eqV]
  | s =>
    cases a <;> simp [LK.fits] at ha
    cases b <;> simp [LK.fits] at hb
    rename_i x y
    obtain ⟨x⟩ := x
    obtain ⟨y⟩ := y
    show ((x == y) = true) ↔ _
    simp
theorem eqL_iff : ∀ {ks : List LK} {xs ys : List Value}, fitsB ks xs = true → fitsB ks ys = true → (eqL xs ys = true ↔ xs = ys)
  | [], [], [], _, _ => by simp [eqL]
  | k :: ks, a :: xs, b :: ys, hx, hy => by
    simp only [fitsB, Bool.and_eq_true] at hx hy
    simp only [eqL, Bool.and_eq_true, List.cons.injEq, eqV_iff hx.1 hy.1, eqL_iff hx.2 hy.2]
  | [], [], _ :: _, _, h => by simp [fitsB] at h
  | [], _ :: _, _, h, _ => by simp [fitsB] at h
  | _ :: _, [], _, h, _ => by simp [fitsB] at h
  | _ :: _, _ :: _, [], _, h => by simp [fitsB] at h
theorem fitsB_app : ∀ {ks ls : List LK} {xs : List Value}, fitsB (ks ++ ls) xs = true → fitsB ks (xs.take ks.length) = true ∧ fitsB ls (xs.drop ks.length) = true
  | [], ls, xs, h => by simpa [fitsB] using h
  | k :: ks, ls, [], h => by simp [fitsB] at h
  | k :: ks, ls, x :: xs, h => by
    simp only [List.cons_append, fitsB, Bool.and_eq_true] at h
    have := fitsB_app h.2
    simp only [List.length_cons, List.take_succ_cons, fitsB, Bool.and_eq_true, List.drop_succ_cons]
    exact ⟨⟨h.1, this.1⟩, this.2⟩
theorem fitsB_len : ∀ {ks : List LK} {xs : List Value}, fitsB ks xs = true → xs.length = ks.length
  | [], [], _ => rfl
  | k :: ks, x :: xs, h => by simp only [fitsB, Bool.and_eq_true] at h; simp [fitsB_len h.2]
  | [], _ :: _, h => by simp [fitsB] at h
  | _ :: _, [], h => by simp [fitsB] at h
theorem eqL_app : ∀ {a b c d : List Value}, a.length = c.length → eqL (a ++ b) (c ++ d) = (eqL a c && eqL b d)
  | [], b, [], d, _ => by simp [eqL]
  | x :: a, b, y :: c, d, h => by simp only [List.cons_append, eqL, eqL_app (show a.length = c.length by simpa using h), Bool.and_assoc]
  | [], _, _ :: _, _, h => by simp at h
  | _ :: _, _, [], _, h => by simp at h
def repK (l : List LK) : Nat → List LK
  | 0 => []
  | n + 1 => l ++ repK l n
mutual
/-- The cells' kinds of a type: only whole numbers, bools, texts. -/
def leafT (P : Program) : Nat → TypeId → Option (List LK)
  | 0, _ => none
  | d + 1, t => match P.underlying t with
    | some (.int k) => some [.i k]
    | some .bool => some [.b]
    | some .string => some [.s]
    | some (.array n e) => match leafT P d e, sizeT P e, rowOf P e with
      | some l, some sz, some r => cond (Nat.beq l.length sz) (some (repK l n)) none
      | _, _, _ => none
    | some (.struct fs) => cond (P.stoodInHeld t) none (leafF P d fs.toList 0)
    | _ => none
def leafF (P : Program) : Nat → List Field → Nat → Option (List LK)
  | _, [], _ => some []
  | 0, _ :: _, _ => none
  | d + 1, f :: r, off => cond (Nat.beq f.offset off && f.name != "_") (match leafT P d f.type, sizeT P f.type, rowOf P f.type with
    | some l, some sz, some _ => cond (Nat.beq l.length sz) (match leafF P d r (off + sz) with
      | some q => some (l ++ q)
      | none => none) none
    | _, _, _ => none) none
end
def valT (P : Program) (t : TypeId) (xs : List Value) : Value := match rowOf P t with
  | some true => .agg xs.toArray
  | _ => xs.headD undef
section
variable {P : Program}
theorem cellsOf_size {e : TypeId} {n : Nat} (h : sizeT P e = some n) : P.cellsOf e = n := by
  unfold sizeT at h
  unfold Program.cellsOf
  cases hq : P.info? e with
  | none => rw [hq] at h; cases h
  | some i => rw [hq] at h; simpa using h
theorem part_valT {e : TypeId} {xs : List Value} {off n : Nat} {r : Bool} (hr : rowOf P e = some r) (hs : sizeT P e = some n) (h1 : r = false → n = 1) (hl : off + n ≤ xs.length) (w : World) : (part e xs.toArray off).run P w = .ok (valT P e ((xs.drop off).take n)) w := by
  have hagg : (isAgg e).run P w = .ok r w := by
    unfold rowOf at hr; unfold isAgg
    split at hr
    · rename_i fs hu; cases hr; rw [Sem.run_bind, run_underlying hu w]; rfl
    · rename_i n' e' hu; cases hr; rw [Sem.run_bind, run_underlying hu w]; rfl
    · rename_i d h1' h2' hu; cases hr; rw [Sem.run_bind, run_underlying hu w]; cases d <;> simp_all
    · cases hr
  unfold part valT
  rw [Sem.run_bind, hagg, hr]
  cases r with
  | true =>
    simp only [Result.andThen, if_true, Sem.run_bind, sizeT_run hs, Sem.run_pure]
    congr 2
    apply Array.toList_inj.1
    simp
  | false =>
    obtain rfl := h1 rfl
    have hlt : off < xs.length := by omega
    simp only [Result.andThen, Bool.false_eq_true, if_false, List.getElem?_toArray, List.getElem?_eq_getElem hlt, Sem.run_pure]
    congr 1
    rw [List.drop_eq_getElem_cons hlt]; rfl
/-- What leafT tells of sizes. -/
theorem leafT_len : ∀ {d : Nat} {t : TypeId} {ks : List LK}, leafT P d t = some ks → rowOf P t = some false → ks.length = 1
  | 0, _, _, h, _ => by simp [leafT] at h
  | d + 1, t, ks, h, hr => by
    unfold leafT at h
    split at h
    · cases h; rfl
    · cases h; rfl
    · cases h; rfl
    · rename_i n e hu; unfold rowOf at hr; rw [hu] at hr; cases hr
    · rename_i fs hu; unfold rowOf at hr; rw [hu] at hr; cases hr
    · cases h
theorem eq_items {e : TypeId} {l : List LK} {sz : Nat} {r : Bool} {M : Nat} (hr : rowOf P e = some r) (hs : sizeT P e = some sz) (hl : l.length = sz) (h1 : r = false → sz = 1)
    (ih : ∀ xs ys w, fitsB l xs = true → fitsB l ys = true → (Op.equalIn M e (valT P e xs) (valT P e ys)).run P w = .ok (eqL xs ys) w) (xs ys : List Value) (w : World) :
    ∀ (n i : Nat), fitsB (repK l n) (xs.drop (i * sz)) = true → fitsB (repK l n) (ys.drop (i * sz)) = true → (Op.eqItems M e sz xs.toArray ys.toArray (List.range' i n)).run P w = .ok (eqL (xs.drop (i * sz)) (ys.drop (i * sz))) w
  | 0, i, hx, hy => by
    have hx' := fitsB_len hx
    have hy' := fitsB_len hy
    simp only [repK, List.length_nil] at hx' hy'
    rw [List.length_eq_zero_iff.1 hx', List.length_eq_zero_iff.1 hy']
    simp [Op.eqItems, eqL]
  | n + 1, i, hx, hy => by
    have fx := fitsB_app (ks := l) hx
    have fy := fitsB_app (ks := l) hy
    rw [hl] at fx fy
    have lx := fitsB_len fx.1
    have ly := fitsB_len fy.1
    rw [hl, List.length_take, List.length_drop] at lx ly
    rw [List.drop_drop, show i * sz + sz = (i + 1) * sz by rw [Nat.add_mul, Nat.one_mul]] at fx fy
    rw [List.range'_succ]
    by_cases h0 : sz = 0
    · subst h0
      have lk : l = [] := List.length_eq_zero_iff.1 hl
      have hrow : r = true := by cases r with | true => rfl | false => exact absurd (h1 rfl) (by omega)
      have e0 := ih [] [] w (by rw [lk]; rfl) (by rw [lk]; rfl)
      have pe : ∀ zs : List Value, (part e zs.toArray (i * 0)).run P w = .ok (valT P e []) w := fun zs => by
        have := part_valT (xs := zs) (off := i * 0) hr hs h1 (by simp) w
        simpa using this
      simp only [Op.eqItems, Sem.run_bind, pe, Result.andThen, e0, eqL, Bool.not_true, Bool.false_eq_true, if_false]
      have := eq_items hr hs hl h1 ih xs ys w n (i + 1) fx.2 fy.2
      simpa using this
    · have px := part_valT (xs := xs) (off := i * sz) hr hs h1 (by omega) w
      have py := part_valT (xs := ys) (off := i * sz) hr hs h1 (by omega) w
      have he := ih _ _ w fx.1 fy.1
      simp only [Op.eqItems, Sem.run_bind, px, py, Result.andThen, he]
      have hrest := eq_items hr hs hl h1 ih xs ys w n (i + 1) fx.2 fy.2
      have hsplit : eqL (xs.drop (i * sz)) (ys.drop (i * sz)) = (eqL ((xs.drop (i * sz)).take sz) ((ys.drop (i * sz)).take sz) && eqL (xs.drop ((i + 1) * sz)) (ys.drop ((i + 1) * sz))) := by
        conv => lhs; rw [← List.take_append_drop sz (xs.drop (i * sz)), ← List.take_append_drop sz (ys.drop (i * sz))]
        rw [eqL_app (by rw [List.length_take, List.length_take, List.length_drop, List.length_drop]; omega), List.drop_drop, List.drop_drop, show i * sz + sz = (i + 1) * sz by rw [Nat.add_mul, Nat.one_mul]]
      rw [hsplit]
      cases eqL ((xs.drop (i * sz)).take sz) ((ys.drop (i * sz)).take sz) with
      | true => simpa using hrest
      | false => rfl
mutual
theorem eq_leafT : ∀ (d : Nat) (t : TypeId) (ks : List LK), leafT P d t = some ks → ∀ (M : Nat) (xs ys : List Value) (w : World), d ≤ M → fitsB ks xs = true → fitsB ks ys = true → (Op.equalIn M t (valT P t xs) (valT P t ys)).run P w = .ok (eqL xs ys) w
  | 0, _, _, h => by simp [leafT] at h
  | d + 1, t, ks, h => by
    intro M xs ys w hM hx hy
    obtain ⟨M, rfl⟩ : ∃ k, M = k + 1 := ⟨M - 1, by omega⟩
    have one : ∀ {k : LK}, fitsB [k] xs = true → fitsB [k] ys = true → ∃ a b, xs = [a] ∧ ys = [b] ∧ k.fits a = true ∧ k.fits b = true := by
      intro k hx hy
      have lx := fitsB_len hx
      have ly := fitsB_len hy
      match xs, ys, lx, ly with
      | [a], [b], _, _ => simp only [fitsB, Bool.and_true] at hx hy; exact ⟨a, b, rfl, rfl, hx, hy⟩
    unfold leafT at h
    split at h
    · rename_i k hu
      cases h
      obtain ⟨a, b, rfl, rfl, ha, hb⟩ := one hx hy
      have hr : rowOf P t = some false := by unfold rowOf; rw [hu]
      unfold valT; rw [hr]
      cases a <;> simp [LK.fits] at ha
      cases b <;> simp [LK.fits] at hb
      subst ha; subst hb
      show (Op.equalIn (M + 1) t (.int _ _) (.int _ _)).run P w = _
      rw [run_equalIn_int w M t _ _ _ _ hu]
      simp [eqL, eqV]
    · rename_i hu
      cases h
      obtain ⟨a, b, rfl, rfl, ha, hb⟩ := one hx hy
      have hr : rowOf P t = some false := by unfold rowOf; rw [hu]
      unfold valT; rw [hr]
      cases a <;> simp [LK.fits] at ha
      cases b <;> simp [LK.fits] at hb
      show (Op.equalIn (M + 1) t (.bool _) (.bool _)).run P w = _
      rw [run_equalIn_bool' w M t _ _ hu]
      simp [eqL, eqV]
    · rename_i hu
      cases h
      obtain ⟨a, b, rfl, rfl, ha, hb⟩ := one hx hy
      have hr : rowOf P t = some false := by unfold rowOf; rw [hu]
      unfold valT; rw [hr]
      cases a <;> simp [LK.fits] at ha
      cases b <;> simp [LK.fits] at hb
      rename_i x y
      show (Op.equalIn (M + 1) t (.string x) (.string y)).run P w = _
      rw [run_equalIn_string w M t _ _ hu, ← beq_toListBytes]
      simp [eqL, eqV]
    · rename_i n e hu
      have hr : rowOf P t = some true := by unfold rowOf; rw [hu]
      split at h
      · rename_i l sz r hl hs hre
        obtain ⟨hq, he⟩ := cond_bind h
        cases he
        have hlen := Nat.eq_of_beq_eq_true hq
        unfold valT; rw [hr]
        obtain ⟨i, hi⟩ : ∃ i, P.info? e = some i := by
          cases hq' : P.info? e with
          | none => unfold sizeT at hs; rw [hq'] at hs; cases hs
          | some i => exact ⟨i, rfl⟩
        show (Op.equalIn (M + 1) t (.agg xs.toArray) (.agg ys.toArray)).run P w = _
        rw [run_equalIn_array w M _ _ hu hi, cellsOf_size hs, List.range_eq_range']
        have := eq_items hre hs hlen (fun hf => by rw [hf] at hre; rw [← hlen]; exact leafT_len hl hre) (fun xs ys w fx fy => eq_leafT d e l hl M xs ys w (by omega) fx fy) xs ys w n 0 (by simpa using hx) (by simpa using hy)
        simpa using this
      · cases h
    · rename_i fs hu
      have hr : rowOf P t = some true := by unfold rowOf; rw [hu]
      cases hst : P.stoodInHeld t with
      | true => rw [hst] at h; cases h
      | false =>
        rw [hst] at h
        simp only [cond_false] at h
        unfold valT; rw [hr]
        have hfo : P.fieldsOf t = fs := by unfold Program.fieldsOf; rw [hu]
        show (Op.equalIn (M + 1) t (.agg xs.toArray) (.agg ys.toArray)).run P w = _
        rw [run_equalIn_struct w M t _ _ (by rw [hfo]; exact hu) hst, hfo]
        have := eq_leafF d fs.toList 0 ks h M xs ys w (by omega) (by simpa using hx) (by simpa using hy)
        simpa using this
    · cases h
theorem eq_leafF : ∀ (d : Nat) (fs : List Field) (off : Nat) (ks : List LK), leafF P d fs off = some ks → ∀ (M : Nat) (xs ys : List Value) (w : World), d ≤ M → fitsB ks (xs.drop off) = true → fitsB ks (ys.drop off) = true → (Op.eqFields M xs.toArray ys.toArray fs).run P w = .ok (eqL (xs.drop off) (ys.drop off)) w
  | d, [], off, ks, h => by
    intro M xs ys w hM hx hy
    have : ks = [] := by cases d <;> (simp [leafF] at h; exact h)
    subst this
    have hx' := fitsB_len hx
    have hy' := fitsB_len hy
    have ex : xs.drop off = [] := List.length_eq_zero_iff.1 hx'
    have ey : ys.drop off = [] := List.length_eq_zero_iff.1 hy'
    rw [ex, ey]
    simp [Op.eqFields, eqL]
  | 0, f :: r, off, ks, h => by simp [leafF] at h
  | d + 1, f :: r, off, ks, h => by
    intro M xs ys w hM hx hy
    unfold leafF at h
    obtain ⟨hq, h⟩ := cond_bind h
    simp only [Bool.and_eq_true] at hq
    have hoff := Nat.eq_of_beq_eq_true hq.1
    have hname : f.name ≠ "_" := by simpa using hq.2
    split at h
    · rename_i l sz rr hl hs hre
      obtain ⟨hq2, h⟩ := cond_bind h
      have hlen := Nat.eq_of_beq_eq_true hq2
      split at h
      · rename_i q hrest
        cases h
        have fx := fitsB_app (ks := l) hx
        have fy := fitsB_app (ks := l) hy
        rw [hlen] at fx fy
        have lx := fitsB_len fx.1
        have ly := fitsB_len fy.1
        rw [hlen, List.length_take, List.length_drop] at lx ly
        rw [List.drop_drop] at fx fy
        have h1 : rr = false → sz = 1 := fun hf => by rw [hf] at hre; rw [← hlen]; exact leafT_len hl hre
        have hrec := eq_leafF d r (off + sz) q hrest M xs ys w (by omega) fx.2 fy.2
        have he := eq_leafT d f.type l hl M _ _ w (by omega) fx.1 fy.1
        have px : (part f.type xs.toArray f.offset).run P w = .ok (valT P f.type ((xs.drop off).take sz)) w := by
          rw [hoff]
          by_cases h0 : sz = 0
          · subst h0
            have hrow : rr = true := by cases rr with | true => rfl | false => exact absurd (h1 rfl) (by omega)
            subst hrow
            have hagg : (isAgg f.type).run P w = .ok true w := by
              unfold rowOf at hre; unfold isAgg
              split at hre
              · rename_i fs hu; rw [Sem.run_bind, run_underlying hu w]; rfl
              · rename_i n' e' hu; rw [Sem.run_bind, run_underlying hu w]; rfl
              · cases hre
              · cases hre
            unfold part valT
            rw [Sem.run_bind, hagg, hre]
            simp only [Result.andThen, if_true, Sem.run_bind, sizeT_run hs, Sem.run_pure]
            congr 2
            apply Array.toList_inj.1
            simp
          · exact part_valT hre hs h1 (by omega) w
        have py : (part f.type ys.toArray f.offset).run P w = .ok (valT P f.type ((ys.drop off).take sz)) w := by
          rw [hoff]
          by_cases h0 : sz = 0
          · subst h0
            have hrow : rr = true := by cases rr with | true => rfl | false => exact absurd (h1 rfl) (by omega)
            subst hrow
            have hagg : (isAgg f.type).run P w = .ok true w := by
              unfold rowOf at hre; unfold isAgg
              split at hre
              · rename_i fs hu; rw [Sem.run_bind, run_underlying hu w]; rfl
              · rename_i n' e' hu; rw [Sem.run_bind, run_underlying hu w]; rfl
              · cases hre
              · cases hre
            unfold part valT
            rw [Sem.run_bind, hagg, hre]
            simp only [Result.andThen, if_true, Sem.run_bind, sizeT_run hs, Sem.run_pure]
            congr 2
            apply Array.toList_inj.1
            simp
          · exact part_valT hre hs h1 (by omega) w
        have hsplit : eqL (xs.drop off) (ys.drop off) = (eqL ((xs.drop off).take sz) ((ys.drop off).take sz) && eqL (xs.drop (off + sz)) (ys.drop (off + sz))) := by
          conv => lhs; rw [← List.take_append_drop sz (xs.drop off), ← List.take_append_drop sz (ys.drop off)]
          rw [eqL_app (by rw [List.length_take, List.length_take, List.length_drop, List.length_drop]; omega), List.drop_drop, List.drop_drop]
        simp only [Op.eqFields, if_pos hname, Sem.run_bind, px, py, Result.andThen, he]
        rw [hsplit]
        cases eqL ((xs.drop off).take sz) ((ys.drop off).take sz) with
        | true => simpa using hrec
        | false => rfl
      · cases h
    · cases h
end
/-- '==' of two structs or arrays, owed. -/
theorem bin_plain {t : TypeId} {ks : List LK} (hk : leafT P 50 t = some ks) (hr : rowOf P t = some true) (hg : P.eqGuardType P.depth t = false) {xs ys : List Value} (fx : fitsB ks xs = true) (fy : fitsB ks ys = true) :
    BinIs P .eql t (.agg xs.toArray) (.agg ys.toArray) (.bool (eqL xs ys)) ∧ BinIs P .neq t (.agg xs.toArray) (.agg ys.toArray) (.bool (!eqL xs ys)) := by
  have h := eq_leafT 50 t ks hk 10000
  unfold valT at h
  rw [hr] at h
  constructor
  · intro _ w x y
    rw [Sem.run_bind, run_eqGuard_agg w _ _ _ _ _ _ hg, Result.andThen_ok, run_eql_struct, h xs ys w (by omega) fx fy]; rfl
  · intro _ w x y
    rw [Sem.run_bind, run_eqGuard_agg w _ _ _ _ _ _ hg, Result.andThen_ok, run_neq_struct, h xs ys w (by omega) fx fy]; rfl
/-- A type whose '==' is that of its cells. -/
structure EqIs (P : Program) (t : TypeId) (ks : List LK) : Prop where
  ks : leafT P 50 t = some ks
  row : rowOf P t = some true
  guard : P.eqGuardType P.depth t = false
section
variable {V : Env} {t : TypeId} {ks : List LK} {a b : SV} {xs ys : List Value}
theorem ob_peql_t (E : EqIs P t ks) (xs ys : List Value) (ha : ∀ ρ, den V ρ a = .agg xs.toArray) (hb : ∀ ρ, den V ρ b = .agg ys.toArray) (fx : fitsB ks xs = true) (fy : fitsB ks ys = true) (h : xs = ys) : (Obl.bin .eql t a b (.bo true)).holds P V :=
  ob_agg (by have := (bin_plain E.ks E.row E.guard fx fy).1; rwa [(eqL_iff fx fy).2 h] at this) ha hb
theorem ob_peql_f (E : EqIs P t ks) (xs ys : List Value) (ha : ∀ ρ, den V ρ a = .agg xs.toArray) (hb : ∀ ρ, den V ρ b = .agg ys.toArray) (fx : fitsB ks xs = true) (fy : fitsB ks ys = true) (h : xs ≠ ys) : (Obl.bin .eql t a b (.bo false)).holds P V :=
  ob_agg (by have := (bin_plain E.ks E.row E.guard fx fy).1; rwa [Bool.eq_false_iff.2 (fun e => h ((eqL_iff fx fy).1 e))] at this) ha hb
theorem ob_pneq_t (E : EqIs P t ks) (xs ys : List Value) (ha : ∀ ρ, den V ρ a = .agg xs.toArray) (hb : ∀ ρ, den V ρ b = .agg ys.toArray) (fx : fitsB ks xs = true) (fy : fitsB ks ys = true) (h : xs = ys) : (Obl.bin .neq t a b (.bo false)).holds P V :=
  ob_agg (by have := (bin_plain E.ks E.row E.guard fx fy).2; rwa [(eqL_iff fx fy).2 h] at this) ha hb
theorem ob_pneq_f (E : EqIs P t ks) (xs ys : List Value) (ha : ∀ ρ, den V ρ a = .agg xs.toArray) (hb : ∀ ρ, den V ρ b = .agg ys.toArray) (fx : fitsB ks xs = true) (fy : fitsB ks ys = true) (h : xs ≠ ys) : (Obl.bin .neq t a b (.bo true)).holds P V :=
  ob_agg (by have := (bin_plain E.ks E.row E.guard fx fy).2; rwa [Bool.eq_false_iff.2 (fun e => h ((eqL_iff fx fy).1 e))] at this) ha hb
end
end
end RX
end Go.Proofs.Ytbmokmkaebfneaa
