/- A law's arguments: structs and arrays of whole numbers, bools, texts: how they are read, and read again. -/
import Derived.Test.YtbmokmkaebfneaaRXJ
import Derived.Test.YtbmokmkaebfneaaRows
import Derived.ProofKit
import Derived.OpenShut
import Derived.ShutString
namespace Go.Proofs.Ytbmokmkaebfneaa
open Go.ChangeShapes Go.WideShapes Go.ChangeAt Go.RowKit
namespace RX
set_option linter.unnecessarySimpa false
set_option linter.unusedVariables false
set_option linter.unusedSimpArgs false
def wfV : Value → Bool
  | .int k n => (Lit.int k n).wf
  | .string s => decide (s.size ≤ maxLen)
  | _ => true
theorem fitsB_join : ∀ {l q : List LK} {xs : List Value}, fitsB l (xs.take l.length) = true → fitsB q ((xs.drop l.length).take q.length) = true → fitsB (l ++ q) (xs.take (l.length + q.length)) = true
  | [], q, xs, _, h => by simpa using h
  | k :: l, q, [], h, _ => by simp [fitsB] at h
  | k :: l, q, x :: xs, h, h2 => by
    simp only [List.length_cons, List.take_succ_cons, fitsB, Bool.and_eq_true, List.drop_succ_cons] at h h2
    rw [show (k :: l).length + q.length = (l.length + q.length) + 1 by simp; omega]
    simp only [List.cons_append, List.take_succ_cons, fitsB, Bool.and_eq_true]
    exact ⟨h.1, fitsB_join h.2 h2⟩
theorem repK_len (l : List LK) : ∀ n, (repK l n).length = n * l.length
  | 0 => by simp [repK]
  | n + 1 => by simp only [repK, List.length_append, repK_len l n, Nat.add_mul, Nat.one_mul]; omega
section
variable {P : Program} {H : Type} {enc : TypeId × Value → H}
theorem wf_take_drop {xs : List Value} {a b : Nat} (h1 : (xs.take a).all wfV = true) (h2 : ((xs.drop a).take b).all wfV = true) : (xs.take (a + b)).all wfV = true := by
  rw [List.take_add, List.all_append, h1, h2]; rfl
mutual
theorem trod_plain : ∀ (d : Nat) (t : TypeId) (ks : List LK), leafT P d t = some ks → sizeT P t = some ks.length → ∀ (w : World) (base : Nat) (spare : Nat → Bool) (held : Bool) (m : Nat) (cs : List Value) (y : DataW H × List MemPlace), DataW.trod enc P w base spare held m t cs = some y →
    fitsB ks cs = true ∧ cs.all wfV = true ∧ y.2 = [] ∧ ∀ (w' : World) (base' : Nat) (spare' : Nat → Bool) (held' : Bool), DataW.trod enc P w' base' spare' held' m t cs = some y
  | 0, _, _, h => by simp [leafT] at h
  | d + 1, t, ks, h => by
    intro hz w base spare held m cs y hy
    cases m with
    | zero => simp [DataW.trod] at hy
    | succ m =>
      unfold leafT at h
      split at h
      · rename_i k hu
        cases h
        have e : ∀ (w : World) (base : Nat) (spare : Nat → Bool) (held : Bool), DataW.trod enc P w base spare held (m + 1) t cs = (match cs with | [.int k' n] => if k' = k ∧ (Lit.int k n).wf = true then some (.lit (.int k n), []) else none | _ => none) := by
          intro w base spare held
          unfold DataW.trod
          rw [hu]
          split <;> simp_all
        rw [e] at hy
        split at hy
        · rename_i k' n
          split at hy
          · rename_i hk
            obtain ⟨rfl, hwf⟩ := hk
            cases hy
            refine ⟨by simp [fitsB, LK.fits], by simp [wfV, hwf], rfl, fun w' base' spare' held' => ?_⟩
            rw [e]; simp [hwf]
          · cases hy
        · cases hy
      · rename_i hu
        cases h
        have e : ∀ (w : World) (base : Nat) (spare : Nat → Bool) (held : Bool), DataW.trod enc P w base spare held (m + 1) t cs = (match cs with | [.bool b] => some (.lit (.bool b), []) | _ => none) := by
          intro w base spare held
          unfold DataW.trod
          rw [hu]
          split <;> simp_all
        rw [e] at hy
        split at hy
        · cases hy
          refine ⟨by simp [fitsB, LK.fits], by simp [wfV], rfl, fun w' base' spare' held' => ?_⟩
          rw [e]
        · cases hy
      · rename_i hu
        cases h
        have e : ∀ (w : World) (base : Nat) (spare : Nat → Bool) (held : Bool), DataW.trod enc P w base spare held (m + 1) t cs = (match cs with | [.string s] => if s.size ≤ maxLen then some (.lit (.string s.data.toList), []) else none | _ => none) := by
          intro w base spare held
          unfold DataW.trod
          rw [hu]
          split <;> simp_all
        rw [e] at hy
        split at hy
        · split at hy
          · rename_i hs
            cases hy
            refine ⟨by simp [fitsB, LK.fits], by simp [wfV, hs], rfl, fun w' base' spare' held' => ?_⟩
            rw [e]; simp [hs]
          · cases hy
        · cases hy
      · rename_i n e' hu
        split at h
        · rename_i l sz r hl hs hre
          obtain ⟨hq, he⟩ := cond_bind h
          cases he
          have hlen := Nat.eq_of_beq_eq_true hq
          have hsz : P.cellsOf t = n * sz := by rw [cellsOf_size hz, repK_len, hlen]
          have hse := cellsOf_size hs
          have e : ∀ (w : World) (base : Nat) (spare : Nat → Bool) (held : Bool), DataW.trod enc P w base spare held (m + 1) t cs =
              if cs.length = P.cellsOf t then ((List.range n).mapM fun i => DataW.trod enc P w base spare held m e' ((cs.drop (i * P.cellsOf e')).take (P.cellsOf e'))).map fun xs => (.agg (xs.map (·.1)), xs.flatMap (·.2)) else none := by
            intro w base spare held
            conv => lhs; unfold DataW.trod
            rw [hu]
          rw [e] at hy
          split at hy
          · rename_i hcl
            obtain ⟨xs, hxs, rfl⟩ := Option.map_eq_some_iff.1 hy
            have key : ∀ (k i : Nat) (xs : List (DataW H × List MemPlace)), (List.range' i k).mapM (fun i => DataW.trod enc P w base spare held m e' ((cs.drop (i * P.cellsOf e')).take (P.cellsOf e'))) = some xs →
                fitsB (repK l k) ((cs.drop (i * sz)).take (k * sz)) = true ∧ ((cs.drop (i * sz)).take (k * sz)).all wfV = true ∧ xs.flatMap (·.2) = [] ∧ ∀ (w' : World) (base' : Nat) (spare' : Nat → Bool) (held' : Bool), (List.range' i k).mapM (fun i => DataW.trod enc P w' base' spare' held' m e' ((cs.drop (i * P.cellsOf e')).take (P.cellsOf e'))) = some xs := by
              intro k
              induction k with
              | zero =>
                intro i xs hx
                simp at hx
                subst hx
                simp [repK, fitsB]
              | succ k ih =>
                intro i xs hx
                rw [List.range'_succ, List.mapM_cons] at hx
                simp only [bind, Option.bind_eq_some_iff, pure, Option.some.injEq] at hx
                obtain ⟨a, ha, zs, has, rfl⟩ := hx
                rw [hse] at ha
                obtain ⟨i1, i2, i3, i4⟩ := trod_plain d e' l hl (by rw [hs, hlen]) w base spare held m _ a ha
                obtain ⟨j1, j2, j3, j4⟩ := ih (i + 1) zs has
                have hk : (k + 1) * sz = sz + k * sz := by rw [Nat.add_mul, Nat.one_mul]; omega
                have hdd : (cs.drop (i * sz)).drop sz = cs.drop ((i + 1) * sz) := by rw [List.drop_drop, show i * sz + sz = (i + 1) * sz by rw [Nat.add_mul, Nat.one_mul]]
                refine ⟨?_, ?_, ?_, ?_⟩
                · have := fitsB_join (l := l) (q := repK l k) (xs := cs.drop (i * sz)) (by rw [hlen]; exact i1) (by rw [hlen, hdd, repK_len, hlen]; exact j1)
                  rw [repK_len, hlen] at this
                  rw [hk]; exact this
                · rw [hk]; exact wf_take_drop i2 (by rw [hdd]; exact j2)
                · simp only [List.flatMap_cons, i3, j3, List.append_nil]
                · intro w' base' spare' held'
                  rw [List.range'_succ, List.mapM_cons]
                  have a1 := i4 w' base' spare' held'
                  have a2 := j4 w' base' spare' held'
                  rw [hse] at a2 ⊢
                  simp only [bind, pure, a1, a2, Option.bind_some]
            rw [List.range_eq_range'] at hxs
            obtain ⟨k1, k2, k3, k4⟩ := key n 0 xs hxs
            have hfull : (cs.drop (0 * sz)).take (n * sz) = cs := by rw [Nat.zero_mul, List.drop_zero, List.take_of_length_le (by omega)]
            rw [hfull] at k1 k2
            refine ⟨k1, k2, k3, fun w' base' spare' held' => ?_⟩
            rw [e, if_pos hcl, List.range_eq_range', k4 w' base' spare' held']; rfl
          · cases hy
        · cases h
      · rename_i fs hu
        cases hst : P.stoodInHeld t with
        | true => rw [hst] at h; cases h
        | false =>
          rw [hst] at h
          simp only [cond_false] at h
          have e : ∀ (w : World) (base : Nat) (spare : Nat → Bool) (held : Bool), DataW.trod enc P w base spare held (m + 1) t cs =
              if cs.length = P.cellsOf t then (fs.toList.mapM fun f => DataW.trod enc P w base spare held m f.type ((cs.drop f.offset).take (P.cellsOf f.type))).map fun xs => (.agg (xs.map (·.1)), xs.flatMap (·.2)) else none := by
            intro w base spare held
            conv => lhs; unfold DataW.trod
            rw [hu]
          rw [e] at hy
          split at hy
          · rename_i hcl
            obtain ⟨xs, hxs, rfl⟩ := Option.map_eq_some_iff.1 hy
            obtain ⟨k1, k2, k3, k4⟩ := trod_plainF d fs.toList 0 ks h w base spare held m cs xs hxs
            have hfull : (cs.drop 0).take ks.length = cs := by rw [List.drop_zero, List.take_of_length_le (by rw [hcl, cellsOf_size hz]; omega)]
            rw [hfull] at k1 k2
            refine ⟨k1, k2, k3, fun w' base' spare' held' => ?_⟩
            rw [e, if_pos hcl, k4 w' base' spare' held']; rfl
          · cases hy
      · cases h
theorem trod_plainF : ∀ (d : Nat) (fs : List Field) (off : Nat) (ks : List LK), leafF P d fs off = some ks → ∀ (w : World) (base : Nat) (spare : Nat → Bool) (held : Bool) (m : Nat) (cs : List Value) (xs : List (DataW H × List MemPlace)), fs.mapM (fun f => DataW.trod enc P w base spare held m f.type ((cs.drop f.offset).take (P.cellsOf f.type))) = some xs →
    fitsB ks ((cs.drop off).take ks.length) = true ∧ ((cs.drop off).take ks.length).all wfV = true ∧ xs.flatMap (·.2) = [] ∧ ∀ (w' : World) (base' : Nat) (spare' : Nat → Bool) (held' : Bool), fs.mapM (fun f => DataW.trod enc P w' base' spare' held' m f.type ((cs.drop f.offset).take (P.cellsOf f.type))) = some xs
  | d, [], off, ks, h => by
    intro w base spare held m cs xs hx
    have : ks = [] := by cases d <;> (simp [leafF] at h; exact h)
    subst this
    simp at hx
    subst hx
    simp [fitsB]
  | 0, f :: r, off, ks, h => by simp [leafF] at h
  | d + 1, f :: r, off, ks, h => by
    intro w base spare held m cs xs hx
    unfold leafF at h
    obtain ⟨hq, h⟩ := cond_bind h
    simp only [Bool.and_eq_true] at hq
    have hoff := Nat.eq_of_beq_eq_true hq.1
    split at h
    · rename_i l sz rr hl hs hre
      obtain ⟨hq2, h⟩ := cond_bind h
      have hlen := Nat.eq_of_beq_eq_true hq2
      have hse := cellsOf_size hs
      split at h
      · rename_i q hrest
        cases h
        rw [List.mapM_cons] at hx
        simp only [bind, Option.bind_eq_some_iff, pure, Option.some.injEq] at hx
        obtain ⟨a, ha, zs, has, rfl⟩ := hx
        rw [hse, hoff] at ha
        obtain ⟨i1, i2, i3, i4⟩ := trod_plain d f.type l hl (by rw [hs, hlen]) w base spare held m _ a ha
        obtain ⟨j1, j2, j3, j4⟩ := trod_plainF d r (off + sz) q hrest w base spare held m cs zs has
        refine ⟨?_, ?_, ?_, ?_⟩
        · rw [List.length_append]
          exact fitsB_join (by rw [hlen]; exact i1) (by rw [hlen, List.drop_drop]; exact j1)
        · rw [List.length_append, hlen]; exact wf_take_drop i2 (by rw [List.drop_drop]; exact j2)
        · simp only [List.flatMap_cons, i3, j3, List.append_nil]
        · intro w' base' spare' held'
          rw [List.mapM_cons]
          have a1 := i4 w' base' spare' held'
          have a2 := j4 w' base' spare' held'
          simp only [hse, hoff, bind, pure, a1, a2, Option.bind_some]
      · cases h
    · cases h
end
/-- A struct or an array of plain parts. -/
structure PlainIs (P : Program) (t : TypeId) (ks : List LK) : Prop where
  leaf : leafT P 50 t = some ks
  size : sizeT P t = some ks.length
  row : rowOf P t = some true
theorem open_plain {t : TypeId} {ks : List LK} (E : PlainIs P t ks) {W : World} {base : Nat} {spare : Nat → Bool} {held : Bool} {r : Reach} {b0 : Nat} {v : Value} {d : DataW H} {p : List MemPlace} (hv : Value.okWide P W r b0 t v) (h : DataW.Trod enc P W base spare held t v d p) :
    ∃ xs : List Value, fitsB ks xs = true ∧ xs.all wfV = true ∧ v = .agg xs.toArray ∧ p = [] ∧ ∀ (W' : World) (base' : Nat) (spare' : Nat → Bool) (held' : Bool), DataW.Trod enc P W' base' spare' held' t v d [] := by
  have hagg : ∃ cs, v = .agg cs := by
    have hr := E.row
    unfold rowOf at hr
    unfold Value.okWide at hv
    split at hr
    · rename_i fs hu; rw [hu] at hv; obtain ⟨cs, rfl, _⟩ := hv; exact ⟨cs, rfl⟩
    · rename_i n e hu; rw [hu] at hv; obtain ⟨cs, rfl, _⟩ := hv; exact ⟨cs, rfl⟩
    · cases hr
    · cases hr
  obtain ⟨cs, rfl⟩ := hagg
  obtain ⟨m, hm⟩ := h
  obtain ⟨h1, h2, h3, h4⟩ := trod_plain 50 t ks E.leaf E.size W base spare held m _ _ hm
  refine ⟨cs.toList, h1, h2, by simp, h3, fun W' base' spare' held' => ⟨m, ?_⟩⟩
  rw [h4 W' base' spare' held', ← h3]
theorem int_chunk {k : IntKind} {ks : List LK} {xs : List Value} (h : fitsB (.i k :: ks) xs = true) (hw : xs.all wfV = true) : ∃ (n : Int) (ys : List Value), xs = .int k n :: ys ∧ (Lit.int k n).wf = true ∧ fitsB ks ys = true ∧ ys.all wfV = true := by
  cases xs with
  | nil => simp [fitsB] at h
  | cons v ys =>
    simp only [fitsB, Bool.and_eq_true, List.all_cons] at h hw
    cases v <;> simp [LK.fits] at h
    obtain ⟨rfl, h2⟩ := h
    exact ⟨_, ys, rfl, hw.1, h2, hw.2⟩
theorem bool_chunk {ks : List LK} {xs : List Value} (h : fitsB (.b :: ks) xs = true) (hw : xs.all wfV = true) : ∃ (b : Bool) (ys : List Value), xs = .bool b :: ys ∧ fitsB ks ys = true ∧ ys.all wfV = true := by
  cases xs with
  | nil => simp [fitsB] at h
  | cons v ys =>
    simp only [fitsB, Bool.and_eq_true, List.all_cons] at h hw
    cases v <;> simp [LK.fits] at h
    exact ⟨_, ys, rfl, h, hw.2⟩
theorem str_chunk {ks : List LK} {xs : List Value} (h : fitsB (.s :: ks) xs = true) (hw : xs.all wfV = true) : ∃ (s : ByteArray) (ys : List Value), xs = .string s :: ys ∧ s.size ≤ maxLen ∧ fitsB ks ys = true ∧ ys.all wfV = true := by
  cases xs with
  | nil => simp [fitsB] at h
  | cons v ys =>
    simp only [fitsB, Bool.and_eq_true, List.all_cons] at h hw
    cases v <;> simp [LK.fits] at h
    exact ⟨_, ys, rfl, by simpa [wfV] using hw.1, h, hw.2⟩
theorem nil_chunk {xs : List Value} (h : fitsB [] xs = true) : xs = [] := by
  cases xs with
  | nil => rfl
  | cons v ys => simp [fitsB] at h
end
end RX
end Go.Proofs.Ytbmokmkaebfneaa
