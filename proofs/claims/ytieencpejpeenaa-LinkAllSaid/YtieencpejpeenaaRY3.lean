/- '==' of structs and arrays of whole numbers, bools and texts: whether their cells are the same. A law's arguments: structs and arrays of whole numbers, bools, texts: how they are read, and read again. A law's arguments: lists of plain structs. -/
import Derived.Test.YtieencpejpeenaaRY2
import Derived.ChangeKeysEq
import Derived.Laws.StructEq
import Derived.Test.YtieencpejpeenaaRows
import Derived.ProofKit
import Derived.OpenShut
import Derived.ShutString
import Derived.Deep.Slices
import Derived.Carry
section
namespace Go.Proofs.Ytieencpejpeenaa
open Go.RowKit
namespace RX
set_option linter.unnecessarySimpa false
set_option linter.unusedVariables false
set_option linter.unusedSimpArgs false
inductive LK where
  | i (k : IntKind)
  | b
  | s
def LK.fits : LK → Value → Bool
  | .i k, .int k' _ => decide (k = k')
  | .b, .bool _ => true
  | .s, .string _ => true
  | _, _ => false
def fitsB : List LK → List Value → Bool
  | [], [] => true
  | k :: ks, v :: vs => k.fits v && fitsB ks vs
  | _, _ => false
def eqV : Value → Value → Bool
  | .int _ a, .int _ b => a == b
  | .bool a, .bool b => a == b
  | .string a, .string b => a == b
  | _, _ => false
def eqL : List Value → List Value → Bool
  | [], [] => true
  | a :: r, b :: q => eqV a b && eqL r q
  | _, _ => false
theorem eqV_iff {k : LK} {a b : Value} (ha : k.fits a = true) (hb : k.fits b = true) : eqV a b = true ↔ a = b := by
  cases k with
  | i k => cases a <;> simp [LK.fits] at ha; cases b <;> simp [LK.fits] at hb; subst ha; subst hb; simp [eqV]
  | b => cases a <;> simp [LK.fits] at ha; cases b <;> simp [LK.fits] at hb; simp [eqV]
  | s =>
    cases a <;> simp [LK.fits] at ha
    cases b <;> simp [LK.fits] at hb
    rename_i x y
    obtain ⟨x⟩ := x
    obtain ⟨y⟩ := y
    show ((x == y) = true) ↔ _
    simp
theorem eqL_iff : ∀ {ks : List LK} {xs ys : List Value}, fitsB ks xs = true → fitsB ks ys = true → (eqL xs ys = true ↔ xs = ys)
  | [], [], [], _, _ => by simp [eqL]
  | k :: ks, a :: xs, b :: ys, hx, hy => by
    simp only [fitsB, Bool.and_eq_true] at hx hy
    simp only [eqL, Bool.and_eq_true, List.cons.injEq, eqV_iff hx.1 hy.1, eqL_iff hx.2 hy.2]
  | [], [], _ :: _, _, h => by simp [fitsB] at h
  | [], _ :: _, _, h, _ => by simp [fitsB] at h
  | _ :: _, [], _, h, _ => by simp [fitsB] at h
  | _ :: _, _ :: _, [], _, h => by simp [fitsB] at h
theorem fitsB_app : ∀ {ks ls : List LK} {xs : List Value}, fitsB (ks ++ ls) xs = true → fitsB ks (xs.take ks.length) = true ∧ fitsB ls (xs.drop ks.length) = true
  | [], ls, xs, h => by simpa [fitsB] using h
  | k :: ks, ls, [], h => by simp [fitsB] at h
  | k :: ks, ls, x :: xs, h => by
    simp only [List.cons_append, fitsB, Bool.and_eq_true] at h
    have := fitsB_app h.2
    simp only [List.length_cons, List.take_succ_cons, fitsB, Bool.and_eq_true, List.drop_succ_cons]
    exact ⟨⟨h.1, this.1⟩, this.2⟩
theorem fitsB_len : ∀ {ks : List LK} {xs : List Value}, fitsB ks xs = true → xs.length = ks.length
  | [], [], _ => rfl
  | k :: ks, x :: xs, h => by simp only [fitsB, Bool.and_eq_true] at h; simp [fitsB_len h.2]
  | [], _ :: _, h => by simp [fitsB] at h
  | _ :: _, [], h => by simp [fitsB] at h
theorem eqL_app : ∀ {a b c d : List Value}, a.length = c.length → eqL (a ++ b) (c ++ d) = (eqL a c && eqL b d)
  | [], b, [], d, _ => by simp [eqL]
  | x :: a, b, y :: c, d, h => by simp only [List.cons_append, eqL, eqL_app (show a.length = c.length by simpa using h), Bool.and_assoc]
  | [], _, _ :: _, _, h => by simp at h
  | _ :: _, _, [], _, h => by simp at h
def repK (l : List LK) : Nat → List LK
  | 0 => []
  | n + 1 => l ++ repK l n
mutual
/-- The cells' kinds of a type: only whole numbers, bools, texts. -/
def leafT (P : Program) : Nat → TypeId → Option (List LK)
  | 0, _ => none
  | d + 1, t => match P.underlying t with
    | some (.int k) => some [.i k]
    | some .bool => some [.b]
    | some .string => some [.s]
    | some (.array n e) => match leafT P d e, sizeT P e, rowOf P e with
      | some l, some sz, some r => cond (Nat.beq l.length sz) (some (repK l n)) none
      | _, _, _ => none
    | some (.struct fs) => cond (P.stoodInHeld t) none (leafF P d fs.toList 0)
    | _ => none
def leafF (P : Program) : Nat → List Field → Nat → Option (List LK)
  | _, [], _ => some []
  | 0, _ :: _, _ => none
  | d + 1, f :: r, off => cond (Nat.beq f.offset off && f.name != "_") (match leafT P d f.type, sizeT P f.type, rowOf P f.type with
    | some l, some sz, some _ => cond (Nat.beq l.length sz) (match leafF P d r (off + sz) with
      | some q => some (l ++ q)
      | none => none) none
    | _, _, _ => none) none
end
def valT (P : Program) (t : TypeId) (xs : List Value) : Value := match rowOf P t with
  | some true => .agg xs.toArray
  | _ => xs.headD undef
section
variable {P : Program}
theorem cellsOf_size {e : TypeId} {n : Nat} (h : sizeT P e = some n) : P.cellsOf e = n := by
  unfold sizeT at h
  unfold Program.cellsOf
  cases hq : P.info? e with
  | none => rw [hq] at h; cases h
  | some i => rw [hq] at h; simpa using h
theorem part_valT {e : TypeId} {xs : List Value} {off n : Nat} {r : Bool} (hr : rowOf P e = some r) (hs : sizeT P e = some n) (h1 : r = false → n = 1) (hl : off + n ≤ xs.length) (w : World) : (part e xs.toArray off).run P w = .ok (valT P e ((xs.drop off).take n)) w := by
  have hagg : (isAgg e).run P w = .ok r w := by
    unfold rowOf at hr; unfold isAgg
    split at hr
    · rename_i fs hu; cases hr; rw [Sem.run_bind, run_underlying hu w]; rfl
    · rename_i n' e' hu; cases hr; rw [Sem.run_bind, run_underlying hu w]; rfl
    · rename_i d h1' h2' hu; cases hr; rw [Sem.run_bind, run_underlying hu w]; cases d <;> simp_all
    · cases hr
  unfold part valT
  rw [Sem.run_bind, hagg, hr]
  cases r with
  | true =>
    simp only [Result.andThen, if_true, Sem.run_bind, sizeT_run hs, Sem.run_pure]
    congr 2
    apply Array.toList_inj.1
    simp
  | false =>
    obtain rfl := h1 rfl
    have hlt : off < xs.length := by omega
    simp only [Result.andThen, Bool.false_eq_true, if_false, List.getElem?_toArray, List.getElem?_eq_getElem hlt, Sem.run_pure]
    congr 1
    rw [List.drop_eq_getElem_cons hlt]; rfl
/-- What leafT tells of sizes. -/
theorem leafT_len : ∀ {d : Nat} {t : TypeId} {ks : List LK}, leafT P d t = some ks → rowOf P t = some false → ks.length = 1
  | 0, _, _, h, _ => by simp [leafT] at h
  | d + 1, t, ks, h, hr => by
    unfold leafT at h
    split at h
    · cases h; rfl
    · cases h; rfl
    · cases h; rfl
    · rename_i n e hu; unfold rowOf at hr; rw [hu] at hr; cases hr
    · rename_i fs hu; unfold rowOf at hr; rw [hu] at hr; cases hr
    · cases h
theorem eq_items {e : TypeId} {l : List LK} {sz : Nat} {r : Bool} {M : Nat} (hr : rowOf P e = some r) (hs : sizeT P e = some sz) (hl : l.length = sz) (h1 : r = false → sz = 1)
    (ih : ∀ xs ys w, fitsB l xs = true → fitsB l ys = true → (Op.equalIn M e (valT P e xs) (valT P e ys)).run P w = .ok (eqL xs ys) w) (xs ys : List Value) (w : World) :
    ∀ (n i : Nat), fitsB (repK l n) (xs.drop (i * sz)) = true → fitsB (repK l n) (ys.drop (i * sz)) = true → (Op.eqItems M e sz xs.toArray ys.toArray (List.range' i n)).run P w = .ok (eqL (xs.drop (i * sz)) (ys.drop (i * sz))) w
  | 0, i, hx, hy => by
    have hx' := fitsB_len hx
    have hy' := fitsB_len hy
    simp only [repK, List.length_nil] at hx' hy'
    rw [List.length_eq_zero_iff.1 hx', List.length_eq_zero_iff.1 hy']
    simp [Op.eqItems, eqL]
  | n + 1, i, hx, hy => by
    have fx := fitsB_app (ks := l) hx
    have fy := fitsB_app (ks := l) hy
    rw [hl] at fx fy
    have lx := fitsB_len fx.1
    have ly := fitsB_len fy.1
    rw [hl, List.length_take, List.length_drop] at lx ly
    rw [List.drop_drop, show i * sz + sz = (i + 1) * sz by rw [Nat.add_mul, Nat.one_mul]] at fx fy
    rw [List.range'_succ]
    by_cases h0 : sz = 0
    · subst h0
      have lk : l = [] := List.length_eq_zero_iff.1 hl
      have hrow : r = true := by cases r with | true => rfl | false => exact absurd (h1 rfl) (by omega)
      have e0 := ih [] [] w (by rw [lk]; rfl) (by rw [lk]; rfl)
      have pe : ∀ zs : List Value, (part e zs.toArray (i * 0)).run P w = .ok (valT P e []) w := fun zs => by
        have := part_valT (xs := zs) (off := i * 0) hr hs h1 (by simp) w
        simpa using this
      simp only [Op.eqItems, Sem.run_bind, pe, Result.andThen, e0, eqL, Bool.not_true, Bool.false_eq_true, if_false]
      have := eq_items hr hs hl h1 ih xs ys w n (i + 1) fx.2 fy.2
      simpa using this
    · have px := part_valT (xs := xs) (off := i * sz) hr hs h1 (by omega) w
      have py := part_valT (xs := ys) (off := i * sz) hr hs h1 (by omega) w
      have he := ih _ _ w fx.1 fy.1
      simp only [Op.eqItems, Sem.run_bind, px, py, Result.andThen, he]
      have hrest := eq_items hr hs hl h1 ih xs ys w n (i + 1) fx.2 fy.2
      have hsplit : eqL (xs.drop (i * sz)) (ys.drop (i * sz)) = (eqL ((xs.drop (i * sz)).take sz) ((ys.drop (i * sz)).take sz) && eqL (xs.drop ((i + 1) * sz)) (ys.drop ((i + 1) * sz))) := by
        conv => lhs; rw [← List.take_append_drop sz (xs.drop (i * sz)), ← List.take_append_drop sz (ys.drop (i * sz))]
        rw [eqL_app (by rw [List.length_take, List.length_take, List.length_drop, List.length_drop]; omega), List.drop_drop, List.drop_drop, show i * sz + sz = (i + 1) * sz by rw [Nat.add_mul, Nat.one_mul]]
      rw [hsplit]
      cases eqL ((xs.drop (i * sz)).take sz) ((ys.drop (i * sz)).take sz) with
      | true => simpa using hrest
      | false => rfl
mutual
theorem eq_leafT : ∀ (d : Nat) (t : TypeId) (ks : List LK), leafT P d t = some ks → ∀ (M : Nat) (xs ys : List Value) (w : World), d ≤ M → fitsB ks xs = true → fitsB ks ys = true → (Op.equalIn M t (valT P t xs) (valT P t ys)).run P w = .ok (eqL xs ys) w
  | 0, _, _, h => by simp [leafT] at h
  | d + 1, t, ks, h => by
    intro M xs ys w hM hx hy
    obtain ⟨M, rfl⟩ : ∃ k, M = k + 1 := ⟨M - 1, by omega⟩
    have one : ∀ {k : LK}, fitsB [k] xs = true → fitsB [k] ys = true → ∃ a b, xs = [a] ∧ ys = [b] ∧ k.fits a = true ∧ k.fits b = true := by
      intro k hx hy
      have lx := fitsB_len hx
      have ly := fitsB_len hy
      match xs, ys, lx, ly with
      | [a], [b], _, _ => simp only [fitsB, Bool.and_true] at hx hy; exact ⟨a, b, rfl, rfl, hx, hy⟩
    unfold leafT at h
    split at h
    · rename_i k hu
      cases h
      obtain ⟨a, b, rfl, rfl, ha, hb⟩ := one hx hy
      have hr : rowOf P t = some false := by unfold rowOf; rw [hu]
      unfold valT; rw [hr]
      cases a <;> simp [LK.fits] at ha
      cases b <;> simp [LK.fits] at hb
      subst ha; subst hb
      show (Op.equalIn (M + 1) t (.int _ _) (.int _ _)).run P w = _
      rw [run_equalIn_int w M t _ _ _ _ hu]
      simp [eqL, eqV]
    · rename_i hu
      cases h
      obtain ⟨a, b, rfl, rfl, ha, hb⟩ := one hx hy
      have hr : rowOf P t = some false := by unfold rowOf; rw [hu]
      unfold valT; rw [hr]
      cases a <;> simp [LK.fits] at ha
      cases b <;> simp [LK.fits] at hb
      show (Op.equalIn (M + 1) t (.bool _) (.bool _)).run P w = _
      rw [run_equalIn_bool' w M t _ _ hu]
      simp [eqL, eqV]
    · rename_i hu
      cases h
      obtain ⟨a, b, rfl, rfl, ha, hb⟩ := one hx hy
      have hr : rowOf P t = some false := by unfold rowOf; rw [hu]
      unfold valT; rw [hr]
      cases a <;> simp [LK.fits] at ha
      cases b <;> simp [LK.fits] at hb
      rename_i x y
      show (Op.equalIn (M + 1) t (.string x) (.string y)).run P w = _
      rw [run_equalIn_string w M t _ _ hu, ← beq_toListBytes]
      simp [eqL, eqV]
    · rename_i n e hu
      have hr : rowOf P t = some true := by unfold rowOf; rw [hu]
      split at h
      · rename_i l sz r hl hs hre
        obtain ⟨hq, he⟩ := cond_bind h
        cases he
        have hlen := Nat.eq_of_beq_eq_true hq
        unfold valT; rw [hr]
        obtain ⟨i, hi⟩ : ∃ i, P.info? e = some i := by
          cases hq' : P.info? e with
          | none => unfold sizeT at hs; rw [hq'] at hs; cases hs
          | some i => exact ⟨i, rfl⟩
        show (Op.equalIn (M + 1) t (.agg xs.toArray) (.agg ys.toArray)).run P w = _
        rw [run_equalIn_array w M _ _ hu hi, cellsOf_size hs, List.range_eq_range']
        have := eq_items hre hs hlen (fun hf => by rw [hf] at hre; rw [← hlen]; exact leafT_len hl hre) (fun xs ys w fx fy => eq_leafT d e l hl M xs ys w (by omega) fx fy) xs ys w n 0 (by simpa using hx) (by simpa using hy)
        simpa using this
      · cases h
    · rename_i fs hu
      have hr : rowOf P t = some true := by unfold rowOf; rw [hu]
      cases hst : P.stoodInHeld t with
      | true => rw [hst] at h; cases h
      | false =>
        rw [hst] at h
        simp only [cond_false] at h
        unfold valT; rw [hr]
        have hfo : P.fieldsOf t = fs := by unfold Program.fieldsOf; rw [hu]
        show (Op.equalIn (M + 1) t (.agg xs.toArray) (.agg ys.toArray)).run P w = _
        rw [run_equalIn_struct w M t _ _ (by rw [hfo]; exact hu) hst, hfo]
        have := eq_leafF d fs.toList 0 ks h M xs ys w (by omega) (by simpa using hx) (by simpa using hy)
        simpa using this
    · cases h
theorem eq_leafF : ∀ (d : Nat) (fs : List Field) (off : Nat) (ks : List LK), leafF P d fs off = some ks → ∀ (M : Nat) (xs ys : List Value) (w : World), d ≤ M → fitsB ks (xs.drop off) = true → fitsB ks (ys.drop off) = true → (Op.eqFields M xs.toArray ys.toArray fs).run P w = .ok (eqL (xs.drop off) (ys.drop off)) w
  | d, [], off, ks, h => by
    intro M xs ys w hM hx hy
    have : ks = [] := by cases d <;> (simp [leafF] at h; exact h)
    subst this
    have hx' := fitsB_len hx
    have hy' := fitsB_len hy
    have ex : xs.drop off = [] := List.length_eq_zero_iff.1 hx'
    have ey : ys.drop off = [] := List.length_eq_zero_iff.1 hy'
    rw [ex, ey]
    simp [Op.eqFields, eqL]
  | 0, f :: r, off, ks, h => by simp [leafF] at h
  | d + 1, f :: r, off, ks, h => by
    intro M xs ys w hM hx hy
    unfold leafF at h
    obtain ⟨hq, h⟩ := cond_bind h
    simp only [Bool.and_eq_true] at hq
    have hoff := Nat.eq_of_beq_eq_true hq.1
    have hname : f.name ≠ "_" := by simpa using hq.2
    split at h
    · rename_i l sz rr hl hs hre
      obtain ⟨hq2, h⟩ := cond_bind h
      have hlen := Nat.eq_of_beq_eq_true hq2
      split at h
      · rename_i q hrest
        cases h
        have fx := fitsB_app (ks := l) hx
        have fy := fitsB_app (ks := l) hy
        rw [hlen] at fx fy
        have lx := fitsB_len fx.1
        have ly := fitsB_len fy.1
        rw [hlen, List.length_take, List.length_drop] at lx ly
        rw [List.drop_drop] at fx fy
        have h1 : rr = false → sz = 1 := fun hf => by rw [hf] at hre; rw [← hlen]; exact leafT_len hl hre
        have hrec := eq_leafF d r (off + sz) q hrest M xs ys w (by omega) fx.2 fy.2
        have he := eq_leafT d f.type l hl M _ _ w (by omega) fx.1 fy.1
        have px : (part f.type xs.toArray f.offset).run P w = .ok (valT P f.type ((xs.drop off).take sz)) w := by
          rw [hoff]
          by_cases h0 : sz = 0
          · subst h0
            have hrow : rr = true := by cases rr with | true => rfl | false => exact absurd (h1 rfl) (by omega)
            subst hrow
            have hagg : (isAgg f.type).run P w = .ok true w := by
              unfold rowOf at hre; unfold isAgg
              split at hre
              · rename_i fs hu; rw [Sem.run_bind, run_underlying hu w]; rfl
              · rename_i n' e' hu; rw [Sem.run_bind, run_underlying hu w]; rfl
              · cases hre
              · cases hre
            unfold part valT
            rw [Sem.run_bind, hagg, hre]
            simp only [Result.andThen, if_true, Sem.run_bind, sizeT_run hs, Sem.run_pure]
            congr 2
            apply Array.toList_inj.1
            simp
          · exact part_valT hre hs h1 (by omega) w
        have py : (part f.type ys.toArray f.offset).run P w = .ok (valT P f.type ((ys.drop off).take sz)) w := by
          rw [hoff]
          by_cases h0 : sz = 0
          · subst h0
            have hrow : rr = true := by cases rr with | true => rfl | false => exact absurd (h1 rfl) (by omega)
            subst hrow
            have hagg : (isAgg f.type).run P w = .ok true w := by
              unfold rowOf at hre; unfold isAgg
              split at hre
              · rename_i fs hu; rw [Sem.run_bind, run_underlying hu w]; rfl
              · rename_i n' e' hu; rw [Sem.run_bind, run_underlying hu w]; rfl
              · cases hre
              · cases hre
            unfold part valT
            rw [Sem.run_bind, hagg, hre]
            simp only [Result.andThen, if_true, Sem.run_bind, sizeT_run hs, Sem.run_pure]
            congr 2
            apply Array.toList_inj.1
            simp
          · exact part_valT hre hs h1 (by omega) w
        have hsplit : eqL (xs.drop off) (ys.drop off) = (eqL ((xs.drop off).take sz) ((ys.drop off).take sz) && eqL (xs.drop (off + sz)) (ys.drop (off + sz))) := by
          conv => lhs; rw [← List.take_append_drop sz (xs.drop off), ← List.take_append_drop sz (ys.drop off)]
          rw [eqL_app (by rw [List.length_take, List.length_take, List.length_drop, List.length_drop]; omega), List.drop_drop, List.drop_drop]
        simp only [Op.eqFields, if_pos hname, Sem.run_bind, px, py, Result.andThen, he]
        rw [hsplit]
        cases eqL ((xs.drop off).take sz) ((ys.drop off).take sz) with
        | true => simpa using hrec
        | false => rfl
      · cases h
    · cases h
end
/-- '==' of two structs or arrays, owed. -/
theorem bin_plain {t : TypeId} {ks : List LK} (hk : leafT P 50 t = some ks) (hr : rowOf P t = some true) (hg : P.eqGuardType P.depth t = false) {xs ys : List Value} (fx : fitsB ks xs = true) (fy : fitsB ks ys = true) :
    BinIs P .eql t (.agg xs.toArray) (.agg ys.toArray) (.bool (eqL xs ys)) ∧ BinIs P .neq t (.agg xs.toArray) (.agg ys.toArray) (.bool (!eqL xs ys)) := by
  have h := eq_leafT 50 t ks hk 10000
  unfold valT at h
  rw [hr] at h
  constructor
  · intro _ w x y
    rw [Sem.run_bind, run_eqGuard_agg w _ _ _ _ _ _ hg, Result.andThen_ok, run_eql_struct, h xs ys w (by omega) fx fy]; rfl
  · intro _ w x y
    rw [Sem.run_bind, run_eqGuard_agg w _ _ _ _ _ _ hg, Result.andThen_ok, run_neq_struct, h xs ys w (by omega) fx fy]; rfl
/-- A type whose '==' is that of its cells. -/
structure EqIs (P : Program) (t : TypeId) (ks : List LK) : Prop where
  ks : leafT P 50 t = some ks
  row : rowOf P t = some true
  guard : P.eqGuardType P.depth t = false
section
variable {V : Env} {t : TypeId} {ks : List LK} {a b : SV} {xs ys : List Value}
theorem ob_peql_t (E : EqIs P t ks) (xs ys : List Value) (ha : ∀ ρ, den V ρ a = .agg xs.toArray) (hb : ∀ ρ, den V ρ b = .agg ys.toArray) (fx : fitsB ks xs = true) (fy : fitsB ks ys = true) (h : xs = ys) : (Obl.bin .eql t a b (.bo true)).holds P V :=
  ob_agg (by have := (bin_plain E.ks E.row E.guard fx fy).1; rwa [(eqL_iff fx fy).2 h] at this) ha hb
theorem ob_peql_f (E : EqIs P t ks) (xs ys : List Value) (ha : ∀ ρ, den V ρ a = .agg xs.toArray) (hb : ∀ ρ, den V ρ b = .agg ys.toArray) (fx : fitsB ks xs = true) (fy : fitsB ks ys = true) (h : xs ≠ ys) : (Obl.bin .eql t a b (.bo false)).holds P V :=
  ob_agg (by have := (bin_plain E.ks E.row E.guard fx fy).1; rwa [Bool.eq_false_iff.2 (fun e => h ((eqL_iff fx fy).1 e))] at this) ha hb
theorem ob_pneq_t (E : EqIs P t ks) (xs ys : List Value) (ha : ∀ ρ, den V ρ a = .agg xs.toArray) (hb : ∀ ρ, den V ρ b = .agg ys.toArray) (fx : fitsB ks xs = true) (fy : fitsB ks ys = true) (h : xs = ys) : (Obl.bin .neq t a b (.bo false)).holds P V :=
  ob_agg (by have := (bin_plain E.ks E.row E.guard fx fy).2; rwa [(eqL_iff fx fy).2 h] at this) ha hb
theorem ob_pneq_f (E : EqIs P t ks) (xs ys : List Value) (ha : ∀ ρ, den V ρ a = .agg xs.toArray) (hb : ∀ ρ, den V ρ b = .agg ys.toArray) (fx : fitsB ks xs = true) (fy : fitsB ks ys = true) (h : xs ≠ ys) : (Obl.bin .neq t a b (.bo true)).holds P V :=
  ob_agg (by have := (bin_plain E.ks E.row E.guard fx fy).2; rwa [Bool.eq_false_iff.2 (fun e => h ((eqL_iff fx fy).1 e))] at this) ha hb
end
end
end RX
end Go.Proofs.Ytieencpejpeenaa
end
section
namespace Go.Proofs.Ytieencpejpeenaa
open Go.ChangeShapes Go.WideShapes Go.ChangeAt Go.RowKit
namespace RX
set_option linter.unnecessarySimpa false
set_option linter.unusedVariables false
set_option linter.unusedSimpArgs false
def wfV : Value → Bool
  | .int k n => (Lit.int k n).wf
  | .string s => decide (s.size ≤ maxLen)
  | _ => true
theorem fitsB_join : ∀ {l q : List LK} {xs : List Value}, fitsB l (xs.take l.length) = true → fitsB q ((xs.drop l.length).take q.length) = true → fitsB (l ++ q) (xs.take (l.length + q.length)) = true
  | [], q, xs, _, h => by simpa using h
  | k :: l, q, [], h, _ => by simp [fitsB] at h
  | k :: l, q, x :: xs, h, h2 => by
    simp only [List.length_cons, List.take_succ_cons, fitsB, Bool.and_eq_true, List.drop_succ_cons] at h h2
    rw [show (k :: l).length + q.length = (l.length + q.length) + 1 by simp; omega]
    simp only [List.cons_append, List.take_succ_cons, fitsB, Bool.and_eq_true]
    exact ⟨h.1, fitsB_join h.2 h2⟩
theorem repK_len (l : List LK) : ∀ n, (repK l n).length = n * l.length
  | 0 => by simp [repK]
  | n + 1 => by simp only [repK, List.length_append, repK_len l n, Nat.add_mul, Nat.one_mul]; omega
section
variable {P : Program} {H : Type} {enc : TypeId × Value → H}
theorem wf_take_drop {xs : List Value} {a b : Nat} (h1 : (xs.take a).all wfV = true) (h2 : ((xs.drop a).take b).all wfV = true) : (xs.take (a + b)).all wfV = true := by
  rw [List.take_add, List.all_append, h1, h2]; rfl
mutual
theorem trod_plain : ∀ (d : Nat) (t : TypeId) (ks : List LK), leafT P d t = some ks → sizeT P t = some ks.length → ∀ (w : World) (base : Nat) (spare : Nat → Bool) (held : Bool) (m : Nat) (cs : List Value) (y : DataW H × List MemPlace), DataW.trod enc P w base spare held m t cs = some y →
    fitsB ks cs = true ∧ cs.all wfV = true ∧ y.2 = [] ∧ ∀ (w' : World) (base' : Nat) (spare' : Nat → Bool) (held' : Bool), DataW.trod enc P w' base' spare' held' m t cs = some y
  | 0, _, _, h => by simp [leafT] at h
  | d + 1, t, ks, h => by
    intro hz w base spare held m cs y hy
    cases m with
    | zero => simp [DataW.trod] at hy
    | succ m =>
      unfold leafT at h
      split at h
      · rename_i k hu
        cases h
        have e : ∀ (w : World) (base : Nat) (spare : Nat → Bool) (held : Bool), DataW.trod enc P w base spare held (m + 1) t cs = (match cs with | [.int k' n] => if k' = k ∧ (Lit.int k n).wf = true then some (.lit (.int k n), []) else none | _ => none) := by
          intro w base spare held
          unfold DataW.trod
          rw [hu]
          split <;> simp_all
        rw [e] at hy
        split at hy
        · rename_i k' n
          split at hy
          · rename_i hk
            obtain ⟨rfl, hwf⟩ := hk
            cases hy
            refine ⟨by simp [fitsB, LK.fits], by simp [wfV, hwf], rfl, fun w' base' spare' held' => ?_⟩
            rw [e]; simp [hwf]
          · cases hy
        · cases hy
      · rename_i hu
        cases h
        have e : ∀ (w : World) (base : Nat) (spare : Nat → Bool) (held : Bool), DataW.trod enc P w base spare held (m + 1) t cs = (match cs with | [.bool b] => some (.lit (.bool b), []) | _ => none) := by
          intro w base spare held
          unfold DataW.trod
          rw [hu]
          split <;> simp_all
        rw [e] at hy
        split at hy
        · cases hy
          refine ⟨by simp [fitsB, LK.fits], by simp [wfV], rfl, fun w' base' spare' held' => ?_⟩
          rw [e]
        · cases hy
      · rename_i hu
        cases h
        have e : ∀ (w : World) (base : Nat) (spare : Nat → Bool) (held : Bool), DataW.trod enc P w base spare held (m + 1) t cs = (match cs with | [.string s] => if s.size ≤ maxLen then some (.lit (.string s.data.toList), []) else none | _ => none) := by
          intro w base spare held
          unfold DataW.trod
          rw [hu]
          split <;> simp_all
        rw [e] at hy
        split at hy
        · split at hy
          · rename_i hs
            cases hy
            refine ⟨by simp [fitsB, LK.fits], by simp [wfV, hs], rfl, fun w' base' spare' held' => ?_⟩
            rw [e]; simp [hs]
          · cases hy
        · cases hy
      · rename_i n e' hu
        split at h
        · rename_i l sz r hl hs hre
          obtain ⟨hq, he⟩ := cond_bind h
          cases he
          have hlen := Nat.eq_of_beq_eq_true hq
          have hsz : P.cellsOf t = n * sz := by rw [cellsOf_size hz, repK_len, hlen]
          have hse := cellsOf_size hs
          have e : ∀ (w : World) (base : Nat) (spare : Nat → Bool) (held : Bool), DataW.trod enc P w base spare held (m + 1) t cs =
              if cs.length = P.cellsOf t then ((List.range n).mapM fun i => DataW.trod enc P w base spare held m e' ((cs.drop (i * P.cellsOf e')).take (P.cellsOf e'))).map fun xs => (.agg (xs.map (·.1)), xs.flatMap (·.2)) else none := by
            intro w base spare held
            conv => lhs; unfold DataW.trod
            rw [hu]
          rw [e] at hy
          split at hy
          · rename_i hcl
            obtain ⟨xs, hxs, rfl⟩ := Option.map_eq_some_iff.1 hy
            have key : ∀ (k i : Nat) (xs : List (DataW H × List MemPlace)), (List.range' i k).mapM (fun i => DataW.trod enc P w base spare held m e' ((cs.drop (i * P.cellsOf e')).take (P.cellsOf e'))) = some xs →
                fitsB (repK l k) ((cs.drop (i * sz)).take (k * sz)) = true ∧ ((cs.drop (i * sz)).take (k * sz)).all wfV = true ∧ xs.flatMap (·.2) = [] ∧ ∀ (w' : World) (base' : Nat) (spare' : Nat → Bool) (held' : Bool), (List.range' i k).mapM (fun i => DataW.trod enc P w' base' spare' held' m e' ((cs.drop (i * P.cellsOf e')).take (P.cellsOf e'))) = some xs := by
              intro k
              induction k with
              | zero =>
                intro i xs hx
                simp at hx
                subst hx
                simp [repK, fitsB]
              | succ k ih =>
                intro i xs hx
                rw [List.range'_succ, List.mapM_cons] at hx
                simp only [bind, Option.bind_eq_some_iff, pure, Option.some.injEq] at hx
                obtain ⟨a, ha, zs, has, rfl⟩ := hx
                rw [hse] at ha
                obtain ⟨i1, i2, i3, i4⟩ := trod_plain d e' l hl (by rw [hs, hlen]) w base spare held m _ a ha
                obtain ⟨j1, j2, j3, j4⟩ := ih (i + 1) zs has
                have hk : (k + 1) * sz = sz + k * sz := by rw [Nat.add_mul, Nat.one_mul]; omega
                have hdd : (cs.drop (i * sz)).drop sz = cs.drop ((i + 1) * sz) := by rw [List.drop_drop, show i * sz + sz = (i + 1) * sz by rw [Nat.add_mul, Nat.one_mul]]
                refine ⟨?_, ?_, ?_, ?_⟩
                · have := fitsB_join (l := l) (q := repK l k) (xs := cs.drop (i * sz)) (by rw [hlen]; exact i1) (by rw [hlen, hdd, repK_len, hlen]; exact j1)
                  rw [repK_len, hlen] at this
                  rw [hk]; exact this
                · rw [hk]; exact wf_take_drop i2 (by rw [hdd]; exact j2)
                · simp only [List.flatMap_cons, i3, j3, List.append_nil]
                · intro w' base' spare' held'
                  rw [List.range'_succ, List.mapM_cons]
                  have a1 := i4 w' base' spare' held'
                  have a2 := j4 w' base' spare' held'
                  rw [hse] at a2 ⊢
                  simp only [bind, pure, a1, a2, Option.bind_some]
            rw [List.range_eq_range'] at hxs
            obtain ⟨k1, k2, k3, k4⟩ := key n 0 xs hxs
            have hfull : (cs.drop (0 * sz)).take (n * sz) = cs := by rw [Nat.zero_mul, List.drop_zero, List.take_of_length_le (by omega)]
            rw [hfull] at k1 k2
            refine ⟨k1, k2, k3, fun w' base' spare' held' => ?_⟩
            rw [e, if_pos hcl, List.range_eq_range', k4 w' base' spare' held']; rfl
          · cases hy
        · cases h
      · rename_i fs hu
        cases hst : P.stoodInHeld t with
        | true => rw [hst] at h; cases h
        | false =>
          rw [hst] at h
          simp only [cond_false] at h
          have e : ∀ (w : World) (base : Nat) (spare : Nat → Bool) (held : Bool), DataW.trod enc P w base spare held (m + 1) t cs =
              if cs.length = P.cellsOf t then (fs.toList.mapM fun f => DataW.trod enc P w base spare held m f.type ((cs.drop f.offset).take (P.cellsOf f.type))).map fun xs => (.agg (xs.map (·.1)), xs.flatMap (·.2)) else none := by
            intro w base spare held
            conv => lhs; unfold DataW.trod
            rw [hu]
          rw [e] at hy
          split at hy
          · rename_i hcl
            obtain ⟨xs, hxs, rfl⟩ := Option.map_eq_some_iff.1 hy
            obtain ⟨k1, k2, k3, k4⟩ := trod_plainF d fs.toList 0 ks h w base spare held m cs xs hxs
            have hfull : (cs.drop 0).take ks.length = cs := by rw [List.drop_zero, List.take_of_length_le (by rw [hcl, cellsOf_size hz]; omega)]
            rw [hfull] at k1 k2
            refine ⟨k1, k2, k3, fun w' base' spare' held' => ?_⟩
            rw [e, if_pos hcl, k4 w' base' spare' held']; rfl
          · cases hy
      · cases h
theorem trod_plainF : ∀ (d : Nat) (fs : List Field) (off : Nat) (ks : List LK), leafF P d fs off = some ks → ∀ (w : World) (base : Nat) (spare : Nat → Bool) (held : Bool) (m : Nat) (cs : List Value) (xs : List (DataW H × List MemPlace)), fs.mapM (fun f => DataW.trod enc P w base spare held m f.type ((cs.drop f.offset).take (P.cellsOf f.type))) = some xs →
    fitsB ks ((cs.drop off).take ks.length) = true ∧ ((cs.drop off).take ks.length).all wfV = true ∧ xs.flatMap (·.2) = [] ∧ ∀ (w' : World) (base' : Nat) (spare' : Nat → Bool) (held' : Bool), fs.mapM (fun f => DataW.trod enc P w' base' spare' held' m f.type ((cs.drop f.offset).take (P.cellsOf f.type))) = some xs
  | d, [], off, ks, h => by
    intro w base spare held m cs xs hx
    have : ks = [] := by cases d <;> (simp [leafF] at h; exact h)
    subst this
    simp at hx
    subst hx
    simp [fitsB]
  | 0, f :: r, off, ks, h => by simp [leafF] at h
  | d + 1, f :: r, off, ks, h => by
    intro w base spare held m cs xs hx
    unfold leafF at h
    obtain ⟨hq, h⟩ := cond_bind h
    simp only [Bool.and_eq_true] at hq
    have hoff := Nat.eq_of_beq_eq_true hq.1
    split at h
    · rename_i l sz rr hl hs hre
      obtain ⟨hq2, h⟩ := cond_bind h
      have hlen := Nat.eq_of_beq_eq_true hq2
      have hse := cellsOf_size hs
      split at h
      · rename_i q hrest
        cases h
        rw [List.mapM_cons] at hx
        simp only [bind, Option.bind_eq_some_iff, pure, Option.some.injEq] at hx
        obtain ⟨a, ha, zs, has, rfl⟩ := hx
        rw [hse, hoff] at ha
        obtain ⟨i1, i2, i3, i4⟩ := trod_plain d f.type l hl (by rw [hs, hlen]) w base spare held m _ a ha
        obtain ⟨j1, j2, j3, j4⟩ := trod_plainF d r (off + sz) q hrest w base spare held m cs zs has
        refine ⟨?_, ?_, ?_, ?_⟩
        · rw [List.length_append]
          exact fitsB_join (by rw [hlen]; exact i1) (by rw [hlen, List.drop_drop]; exact j1)
        · rw [List.length_append, hlen]; exact wf_take_drop i2 (by rw [List.drop_drop]; exact j2)
        · simp only [List.flatMap_cons, i3, j3, List.append_nil]
        · intro w' base' spare' held'
          rw [List.mapM_cons]
          have a1 := i4 w' base' spare' held'
          have a2 := j4 w' base' spare' held'
          simp only [hse, hoff, bind, pure, a1, a2, Option.bind_some]
      · cases h
    · cases h
end
/-- A struct or an array of plain parts. -/
structure PlainIs (P : Program) (t : TypeId) (ks : List LK) : Prop where
  leaf : leafT P 50 t = some ks
  size : sizeT P t = some ks.length
  row : rowOf P t = some true
/-- .. of any kind. -/
structure LeafIs (P : Program) (t : TypeId) (ks : List LK) : Prop where
  leaf : leafT P 50 t = some ks
  size : sizeT P t = some ks.length
theorem PlainIs.toLeaf {P : Program} {t : TypeId} {ks : List LK} (h : PlainIs P t ks) : LeafIs P t ks := ⟨h.leaf, h.size⟩
theorem open_plain {t : TypeId} {ks : List LK} (E : PlainIs P t ks) {W : World} {base : Nat} {spare : Nat → Bool} {held : Bool} {r : Reach} {b0 : Nat} {v : Value} {d : DataW H} {p : List MemPlace} (hv : Value.okWide P W r b0 t v) (h : DataW.Trod enc P W base spare held t v d p) :
    ∃ xs : List Value, fitsB ks xs = true ∧ xs.all wfV = true ∧ v = .agg xs.toArray ∧ p = [] ∧ ∀ (W' : World) (base' : Nat) (spare' : Nat → Bool) (held' : Bool), DataW.Trod enc P W' base' spare' held' t v d [] := by
  have hagg : ∃ cs, v = .agg cs := by
    have hr := E.row
    unfold rowOf at hr
    unfold Value.okWide at hv
    split at hr
    · rename_i fs hu; rw [hu] at hv; obtain ⟨cs, rfl, _⟩ := hv; exact ⟨cs, rfl⟩
    · rename_i n e hu; rw [hu] at hv; obtain ⟨cs, rfl, _⟩ := hv; exact ⟨cs, rfl⟩
    · cases hr
    · cases hr
  obtain ⟨cs, rfl⟩ := hagg
  obtain ⟨m, hm⟩ := h
  obtain ⟨h1, h2, h3, h4⟩ := trod_plain 50 t ks E.leaf E.size W base spare held m _ _ hm
  refine ⟨cs.toList, h1, h2, by simp, h3, fun W' base' spare' held' => ⟨m, ?_⟩⟩
  rw [h4 W' base' spare' held', ← h3]
theorem int_chunk {k : IntKind} {ks : List LK} {xs : List Value} (h : fitsB (.i k :: ks) xs = true) (hw : xs.all wfV = true) : ∃ (n : Int) (ys : List Value), xs = .int k n :: ys ∧ (Lit.int k n).wf = true ∧ fitsB ks ys = true ∧ ys.all wfV = true := by
  cases xs with
  | nil => simp [fitsB] at h
  | cons v ys =>
    simp only [fitsB, Bool.and_eq_true, List.all_cons] at h hw
    cases v <;> simp [LK.fits] at h
    obtain ⟨rfl, h2⟩ := h
    exact ⟨_, ys, rfl, hw.1, h2, hw.2⟩
theorem bool_chunk {ks : List LK} {xs : List Value} (h : fitsB (.b :: ks) xs = true) (hw : xs.all wfV = true) : ∃ (b : Bool) (ys : List Value), xs = .bool b :: ys ∧ fitsB ks ys = true ∧ ys.all wfV = true := by
  cases xs with
  | nil => simp [fitsB] at h
  | cons v ys =>
    simp only [fitsB, Bool.and_eq_true, List.all_cons] at h hw
    cases v <;> simp [LK.fits] at h
    exact ⟨_, ys, rfl, h, hw.2⟩
theorem str_chunk {ks : List LK} {xs : List Value} (h : fitsB (.s :: ks) xs = true) (hw : xs.all wfV = true) : ∃ (s : ByteArray) (ys : List Value), xs = .string s :: ys ∧ s.size ≤ maxLen ∧ fitsB ks ys = true ∧ ys.all wfV = true := by
  cases xs with
  | nil => simp [fitsB] at h
  | cons v ys =>
    simp only [fitsB, Bool.and_eq_true, List.all_cons] at h hw
    cases v <;> simp [LK.fits] at h
    exact ⟨_, ys, rfl, by simpa [wfV] using hw.1, h, hw.2⟩
theorem nil_chunk {xs : List Value} (h : fitsB [] xs = true) : xs = [] := by
  cases xs with
  | nil => rfl
  | cons v ys => simp [fitsB] at h
end
end RX
end Go.Proofs.Ytieencpejpeenaa
end
section
namespace Go.Proofs.Ytieencpejpeenaa
open Go.ChangeShapes Go.WideShapes Go.ChangeAt Go.RowKit
namespace RX
set_option linter.unnecessarySimpa false
set_option linter.unusedVariables false
set_option linter.unusedSimpArgs false
theorem gather {T : Type} {Ok : T → Prop} {f : T → List Value} {size : Nat} {R : List Value} : ∀ (len o : Nat), (∀ i, i < len → ∃ x, Ok x ∧ (R.drop (o + i * size)).take size = f x) → ∃ l : List T, l.length = len ∧ (∀ t, t ∈ l → Ok t) ∧ (R.drop o).take (len * size) = l.flatMap f
  | 0, o, _ => ⟨[], rfl, fun t ht => by simp at ht, by simp⟩
  | n + 1, o, h => by
    obtain ⟨x, hx, hc⟩ := h 0 (by omega)
    obtain ⟨l, h1, h2, h3⟩ := gather (f := f) (Ok := Ok) n (o + size) (fun i hi => by
      obtain ⟨y, hy, hd⟩ := h (i + 1) (by omega)
      refine ⟨y, hy, ?_⟩
      rw [← hd, Nat.add_mul, Nat.one_mul, Nat.add_assoc, Nat.add_comm size])
    refine ⟨x :: l, by simp [h1], fun t ht => ?_, ?_⟩
    · rcases List.mem_cons.1 ht with rfl | ht
      · exact hx
      · exact h2 t ht
    · rw [List.flatMap_cons, ← h3, ← hc, show (n + 1) * size = size + n * size by rw [Nat.add_mul, Nat.one_mul, Nat.add_comm], List.take_add, List.drop_drop]
      simp
theorem mapM_cells {W : World} {a : Addr} : ∀ (k i : Nat) (cs : List Value), (List.range' i k).mapM (fun j => W.cell? (a.add j)) = some cs → cs.length = k ∧ ∀ j, j < k → W.cell? (a.add (i + j)) = cs[j]?
  | 0, i, cs, h => by simp at h; subst h; simp
  | k + 1, i, cs, h => by
    rw [List.range'_succ, List.mapM_cons] at h
    simp only [bind, Option.bind_eq_some_iff, pure, Option.some.injEq] at h
    obtain ⟨v, hv, r, hr, rfl⟩ := h
    obtain ⟨h1, h2⟩ := mapM_cells k (i + 1) r hr
    refine ⟨by simp [h1], fun j hj => ?_⟩
    cases j with
    | zero => simpa using hv
    | succ j => have := h2 j (by omega); rw [show i + (j + 1) = i + 1 + j by omega]; simpa using this
theorem cells_block {W : World} {base : Nat} {a : Addr} {n : Nat} {cs : List Value} (h : W.cells? base a n = some cs) (hn : 0 < n) : ∃ (C : Array Value) (t : TypeId) (z : Nat × Nat), W.heap[a.block]? = some (.cells C t z) ∧ a.spot = none ∧ (C.toList.drop a.off).take n = cs := by
  unfold World.cells? at h
  split at h
  case isFalse => cases h
  rw [List.range_eq_range'] at h
  obtain ⟨h1, h2⟩ := mapM_cells n 0 cs h
  have h0 := h2 0 hn
  rw [List.getElem?_eq_getElem (by omega)] at h0
  have ha0 : a.add (0 + 0) = a := by simp [Addr.add]
  rw [ha0] at h0
  unfold World.cell? at h0
  split at h0
  case h_2 => cases h0
  rename_i C t z hb
  split at h0
  case isTrue => cases h0
  rename_i hsp
  have hsp : a.spot = none := by cases hq : a.spot with | none => rfl | some x => rw [hq] at hsp; simp at hsp
  refine ⟨C, t, z, hb, hsp, ?_⟩
  have hcell : ∀ j, j < n → C[a.off + j]? = cs[j]? := fun j hj => by
    rw [← h2 j hj, Nat.zero_add]
    have hblk : (a.add j).block = a.block := by unfold Addr.add; split <;> rfl
    have hspj : (a.add j).spot = none := by unfold Addr.add; split <;> first | exact hsp | rfl
    have hoff : (a.add j).off = a.off + j := by unfold Addr.add; split <;> simp_all
    unfold World.cell?
    rw [hblk, hb]
    simp only [hspj, hoff]
    rfl
  apply List.ext_getElem?
  intro j
  rcases Nat.lt_or_ge j n with hj | hj
  · rw [List.getElem?_take_of_lt hj, List.getElem?_drop, ← hcell j hj, Array.getElem?_toList]
  · rw [List.getElem?_eq_none (by rw [List.length_take]; omega), List.getElem?_eq_none (by omega)]
section
variable {P : Program} {H : Type} {enc : TypeId × Value → H}
theorem open_recs {T : Type} {Ok : T → Prop} {f : T → List Value} {t e : TypeId} {size : Nat} {ks : List LK} (S : SliceIs P t e size) (E : LeafIs P e ks) (hks : ks.length = size) (h0 : 0 < size) (hread : ∀ cs : List Value, fitsB ks cs = true → cs.all wfV = true → ∃ x, Ok x ∧ cs = f x)
    {W : World} {base : Nat} {spare : Nat → Bool} {held : Bool} {a : Option Addr} {len cap : Nat} {d : DataW H} {p : List MemPlace} (h : DataW.Trod enc P W base spare held t (.slice a len cap) d p) :
    len = 0 ∨ ∃ (b o : Nat) (C : Array Value) (ty : TypeId) (z : Nat × Nat) (l : List T), a = some ⟨b, o, none⟩ ∧ W.heap[b]? = some (.cells C ty z) ∧ l.length = len ∧ (∀ t, t ∈ l → Ok t) ∧ (C.toList.drop o).take (len * size) = l.flatMap f ∧ len ≤ cap ∧ cap ≤ maxLen := by
  obtain ⟨fuel, hf⟩ := h
  rcases Deep.open_slice S.at_ hf with ⟨hcs, _⟩ | ⟨a', len', cap', m, n, D, Pl, hcs, hb, hl, hm, hmd, _, hel⟩
  · simp [Value.cells] at hcs
    exact .inl hcs.2.1
  · simp [Value.cells] at hcs
    obtain ⟨rfl, rfl, rfl⟩ := hcs
    rcases Nat.eq_zero_or_pos len with hz | hpos
    · exact .inl hz
    right
    have hle : len ≤ m := by rw [hmd]; split <;> omega
    have hsz := cellsOf_size S.size
    have el : ∀ i, i < len → ∃ cs', W.cells? base (a'.add (i * size)) size = some cs' ∧ fitsB ks cs' = true ∧ cs'.all wfV = true := fun i hi => by
      obtain ⟨cs', h1, h2⟩ := hel i (by omega)
      rw [hsz] at h1
      obtain ⟨k1, k2, _, _⟩ := trod_plain 50 e ks E.leaf E.size W base spare held n _ _ h2
      exact ⟨cs', h1, k1, k2⟩
    obtain ⟨cs0, c0, _, _⟩ := el 0 hpos
    have e0 : a'.add (0 * size) = a' := by simp [Addr.add]
    rw [e0] at c0
    obtain ⟨C, ty, z, hB, hsp, _⟩ := cells_block c0 h0
    obtain ⟨l, l1, l2, l3⟩ := gather (Ok := Ok) (f := f) (size := size) (R := C.toList) len a'.off (fun i hi => by
      obtain ⟨cs', h1, h2, h3⟩ := el i hi
      obtain ⟨x, hx, hxe⟩ := hread cs' h2 h3
      obtain ⟨C', ty', z', hB', _, hC'⟩ := cells_block h1 h0
      have hblk : (a'.add (i * size)).block = a'.block := by unfold Addr.add; split <;> rfl
      have hoff : (a'.add (i * size)).off = a'.off + i * size := by unfold Addr.add; split <;> simp_all
      rw [hblk, hB] at hB'
      cases hB'
      rw [hoff] at hC'
      exact ⟨x, hx, by rw [hC', hxe]⟩)
    refine ⟨a'.block, a'.off, C, ty, z, l, ?_, hB, l1, l2, l3, hl, hm⟩
    rw [← hsp]
end
/-- A contract that reads one block. -/
theorem Ct.Valid.calls1 {P : Program} {f : FuncId} {fn : Func} {V : Env} {args res : SV} {vs : Array Value} {v : Value} {i : Nat} (hv : Ct.Valid P f ⟨args, [.view i], [], [], res⟩ V) (F : FnIs P f fn) {b : Nat} (ha : ∀ ρ : Nat → Nat × Nat, (ρ 0).1 = b → dl V ρ args = vs.toList) (hr : ∀ ρ, den V ρ res = v) {w : World} {C : Array Value} {ty : TypeId} {z : Nat × Nat} (hb : w.heap[b]? = some (.cells C ty z)) (hC : V.E.getD i [] = C.toList) :
    Calls P f vs w fun e w' => e = .returned v ∧ Below w.heap.size w w' := by
  have h := hv (fun _ => (b, 0)) w ⟨fun i j hi hj _ _ => by simp at hi hj; omega, fun k bk hk => by
    match k with
    | 0 => cases hk; exact ⟨[], ty, z, by rw [hC]; simpa using hb⟩
    | _ + 1 => simp at hk⟩
  rw [callFunc_enter F.at_ F.name F.body] at h
  replace h : Calls P f (dl V _ args).toArray w _ := h
  rw [ha _ rfl, Array.toArray_toList] at h
  refine h.mono ?_
  rintro e w' ⟨u, rfl, ρ', _, _, _, hu, _, _, hfr⟩
  refine ⟨by rw [hu]; exact congrArg Ending.returned (hr ρ'), hfr.below fun b => ?_⟩
  rintro ⟨i, bk, hi, _⟩
  simp at hi
end RX
end Go.Proofs.Ytieencpejpeenaa
end
