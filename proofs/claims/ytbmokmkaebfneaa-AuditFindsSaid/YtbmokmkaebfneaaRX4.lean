/- Lists of values on paper; what single operations do: moves, blocks made, built, read, written. -/
import Derived.Test.YtbmokmkaebfneaaRX3
namespace Go.Proofs.Ytbmokmkaebfneaa
open Go.RowKit
namespace RX
set_option linter.unnecessarySimpa false
set_option linter.unusedVariables false
set_option linter.unusedSimpArgs false

/-! ### Lists on paper -/
def SV.single : SV → Bool
  | .nil => false
  | .cons _ _ => false
  | _ => true
def SV.isL : SV → Bool
  | .nil => true
  | .cons h t => h.single && t.isL
  | _ => false
def SV.len : SV → Nat
  | .cons _ t => t.len + 1
  | _ => 0
def SV.dropL : Nat → SV → SV
  | 0, l => l
  | n + 1, .cons _ t => SV.dropL n t
  | _ + 1, _ => .nil
def SV.takeL : Nat → SV → SV
  | 0, _ => .nil
  | n + 1, .cons h t => .cons h (SV.takeL n t)
  | _ + 1, _ => .nil
def SV.nthL : Nat → SV → SV
  | 0, .cons h _ => h
  | n + 1, .cons _ t => SV.nthL n t
  | _, _ => .any
def SV.ovr : SV → SV → SV
  | .cons v vs, .cons _ t => .cons v (SV.ovr vs t)
  | _, l => l
def SV.setL : Nat → SV → SV → SV
  | 0, vs, l => SV.ovr vs l
  | n + 1, vs, .cons h t => .cons h (SV.setL n vs t)
  | _ + 1, _, l => l
section
variable {V : Env} {ρ : Nat → Nat × Nat}
theorem dl_single {x : SV} (h : x.single = true) : dl V ρ x = [den V ρ x] := by
  unfold den
  cases x <;> first | rfl | (simp [SV.single] at h)
theorem dl_len : ∀ {l : SV}, l.isL = true → (dl V ρ l).length = l.len
  | .nil, _ => rfl
  | .cons h t, hl => by
    simp only [SV.isL, Bool.and_eq_true] at hl
    simp only [dl, List.length_append, dl_single hl.1, dl_len hl.2, SV.len, List.length_singleton]
    omega
theorem isL_drop : ∀ {n : Nat} {l : SV}, l.isL = true → (SV.dropL n l).isL = true
  | 0, _, h => h
  | n + 1, .nil, _ => rfl
  | n + 1, .cons h t, hl => by simp only [SV.isL, Bool.and_eq_true] at hl; exact isL_drop (n := n) hl.2
theorem isL_take : ∀ {n : Nat} {l : SV}, l.isL = true → (SV.takeL n l).isL = true
  | 0, _, _ => by simp only [SV.takeL, SV.isL]
  | n + 1, .nil, _ => rfl
  | n + 1, .cons h t, hl => by simp only [SV.isL, SV.takeL, Bool.and_eq_true] at hl ⊢; exact ⟨hl.1, isL_take (n := n) hl.2⟩
theorem dl_drop : ∀ {n : Nat} {l : SV}, l.isL = true → dl V ρ (SV.dropL n l) = (dl V ρ l).drop n
  | 0, _, _ => by simp [SV.dropL]
  | n + 1, .nil, _ => rfl
  | n + 1, .cons h t, hl => by
    simp only [SV.isL, Bool.and_eq_true] at hl
    show dl V ρ (SV.dropL n t) = List.drop (n + 1) (dl V ρ h ++ dl V ρ t)
    rw [dl_single hl.1, dl_drop hl.2]; rfl
theorem dl_take : ∀ {n : Nat} {l : SV}, l.isL = true → dl V ρ (SV.takeL n l) = (dl V ρ l).take n
  | 0, _, _ => by simp [SV.takeL, dl]
  | n + 1, .nil, _ => rfl
  | n + 1, .cons h t, hl => by
    simp only [SV.isL, Bool.and_eq_true] at hl
    show dl V ρ h ++ dl V ρ (SV.takeL n t) = List.take (n + 1) (dl V ρ h ++ dl V ρ t)
    rw [dl_single hl.1, dl_take hl.2]; rfl
theorem dl_nth : ∀ {n : Nat} {l : SV}, l.isL = true → n < l.len → (dl V ρ l)[n]? = some (den V ρ (SV.nthL n l)) ∧ (SV.nthL n l).single = true
  | _, .nil, _, h => by simp [SV.len] at h
  | 0, .cons h t, hl, _ => by
    simp only [SV.isL, Bool.and_eq_true] at hl
    exact ⟨by show (dl V ρ h ++ dl V ρ t)[0]? = some (den V ρ h); rw [dl_single hl.1]; rfl, hl.1⟩
  | n + 1, .cons h t, hl, hn => by
    simp only [SV.isL, Bool.and_eq_true] at hl
    have := dl_nth (n := n) hl.2 (by simp only [SV.len] at hn; omega)
    exact ⟨by show (dl V ρ h ++ dl V ρ t)[n + 1]? = some (den V ρ (SV.nthL n t)); rw [dl_single hl.1]; exact this.1, this.2⟩
theorem dl_ovr : ∀ {vs l : SV}, vs.isL = true → l.isL = true → vs.len ≤ l.len → dl V ρ (SV.ovr vs l) = dl V ρ vs ++ (dl V ρ l).drop vs.len ∧ (SV.ovr vs l).isL = true ∧ (SV.ovr vs l).len = l.len
  | .nil, l, _, hl, _ => by cases l <;> simp_all [SV.ovr, dl, SV.len, SV.isL]
  | .cons v vs, .nil, _, _, h => by simp [SV.len] at h
  | .cons v vs, .cons x t, hv, hl, h => by
    simp only [SV.isL, Bool.and_eq_true] at hv hl
    have := dl_ovr hv.2 hl.2 (by simp only [SV.len] at h; omega)
    refine ⟨?_, by simp only [SV.ovr, SV.isL, hv.1, this.2.1, Bool.and_self], by simp only [SV.ovr, SV.len, this.2.2]⟩
    show dl V ρ v ++ dl V ρ (SV.ovr vs t) = (dl V ρ v ++ dl V ρ vs) ++ (dl V ρ x ++ dl V ρ t).drop (vs.len + 1)
    rw [this.1, dl_single hl.1, List.append_assoc]; rfl
theorem dl_set : ∀ {o : Nat} {vs l : SV}, vs.isL = true → l.isL = true → o + vs.len ≤ l.len → dl V ρ (SV.setL o vs l) = (dl V ρ l).take o ++ dl V ρ vs ++ (dl V ρ l).drop (o + vs.len) ∧ (SV.setL o vs l).isL = true ∧ (SV.setL o vs l).len = l.len
  | 0, vs, l, hv, hl, h => by
    have := dl_ovr (V := V) (ρ := ρ) hv hl (by omega)
    refine ⟨?_, this.2⟩
    show dl V ρ (SV.ovr vs l) = _
    rw [this.1, Nat.zero_add]; simp
  | o + 1, vs, .nil, hv, hl, h => by simp only [SV.len] at h; omega
  | o + 1, vs, .cons x t, hv, hl, h => by
    simp only [SV.isL, Bool.and_eq_true] at hl
    have := dl_set (o := o) (vs := vs) (l := t) hv hl.2 (by simp only [SV.len] at h; omega)
    refine ⟨?_, by simp only [SV.setL, SV.isL, hl.1, this.2.1, Bool.and_self], by simp only [SV.setL, SV.len, this.2.2]⟩
    show dl V ρ x ++ dl V ρ (SV.setL o vs t) = _
    rw [this.1]
    simp only [dl, dl_single hl.1, show o + 1 + vs.len = (o + vs.len) + 1 by omega]
    simp
end

/-! ### Obligations -/
inductive Obl where
  | eq (a b : SV)
  | bin (op : BinOp) (t : TypeId) (a b v : SV)
  | un (op : UnOp) (a v : SV)
  | cv (src dst : TypeId) (a v : SV)
  | ix (t : TypeId) (x i v : SV)
  | ia (t : TypeId) (x i v : SV)
  | sl (t : TypeId) (x : SV) (lo hi mx : Option SV) (v : SV)
  | bi (b : Builtin) (ts : Array TypeId) (ty : TypeId) (cs : Array Bool) (args v : SV)
  | ld (i : Nat) (bs : SV) (off : Nat) (l : SV)
  | st (i : Nat) (bs : SV) (off : Nat) (l : SV) (i' : Nat)
  | row (i : Nat) (l : SV)
def Obl.holds (P : Program) (V : Env) : Obl → Prop
  | .eq a b => ∀ ρ, dl V ρ a = dl V ρ b
  | .bin op t a b v => ∀ ρ w x y, (do eqGuard op t x y (den V ρ a) (den V ρ b); binOp op t (den V ρ a) (den V ρ b)).run P w = .ok (den V ρ v) w
  | .un op a v => ∀ ρ w, (Op.unary op (den V ρ a)).run P w = .ok (den V ρ v) w
  | .cv s d a v => ∀ ρ w, (convert s d (den V ρ a)).run P w = .ok (den V ρ v) w
  | .ix t x i v => ∀ ρ w, (Instr.index t (den V ρ x) (den V ρ i)).run P w = .ok (den V ρ v) w
  | .ia t x i v => ∀ ρ w, (Instr.indexAt t (den V ρ x) (den V ρ i)).run P w = .ok (den V ρ v) w
  | .sl t x lo hi mx v => ∀ ρ w, (Instr.sliceAt t (den V ρ x) (lo.map (den V ρ)) (hi.map (den V ρ)) (mx.map (den V ρ))).run P w = .ok (den V ρ v) w
  | .bi b ts ty cs args v => ∀ ρ w, (builtin b ts ty cs (dl V ρ args).toArray).run P w = .ok (.value (den V ρ v)) w
  | .ld i bs off l => ∀ ρ, ((V.E.getD i []).drop (natV (den V ρ bs) + off)).take l.len = dl V ρ l
  | .st i bs off l i' => ∀ ρ, natV (den V ρ bs) + off + l.len ≤ (V.E.getD i []).length ∧ V.E.getD i' [] = (V.E.getD i []).take (natV (den V ρ bs) + off) ++ dl V ρ l ++ (V.E.getD i []).drop (natV (den V ρ bs) + off + l.len)
  | .row i l => ∀ ρ, V.E.getD i [] = dl V ρ l
def allO (P : Program) (V : Env) : List Obl → Prop
  | [] => True
  | o :: r => o.holds P V ∧ allO P V r
theorem allO_app {P : Program} {V : Env} : ∀ {a b : List Obl}, allO P V (a ++ b) ↔ allO P V a ∧ allO P V b
  | [], _ => by simp [allO]
  | o :: r, b => by simp only [List.cons_append, allO, allO_app, and_assoc]

/-- The known things' parts are single cells: as many as lens tells. -/
def VOK (V : Env) (lens : List Nat) : Prop := ∀ i j, j < lens.getD i 0 → (V.at i j).oneCell' = true
def SV.cell (lens : List Nat) : SV → Bool
  | .ev i j => Nat.blt j (lens.getD i 0)
  | .any => false
  | .nil => false
  | .cons _ _ => false
  | .tup _ => false
  | .agg _ => false
  | _ => true
def SV.cells (lens : List Nat) : SV → Bool
  | .nil => true
  | .cons h t => h.cell lens && t.cells lens
  | _ => false
theorem cell_one {V : Env} {lens : List Nat} (hV : VOK V lens) {x : SV} (h : x.cell lens = true) (ρ : Nat → Nat × Nat) : x.single = true ∧ (den V ρ x).oneCell' = true := by
  cases x <;> first
    | (simp [SV.cell] at h; done)
    | (exact ⟨rfl, rfl⟩)
    | (exact ⟨rfl, hV _ _ (blt_iff.1 h)⟩)
theorem cells_isL {lens : List Nat} : ∀ {l : SV}, l.cells lens = true → l.isL = true
  | .nil, _ => rfl
  | .cons h t, hl => by
    simp only [SV.cells, Bool.and_eq_true] at hl
    simp only [SV.isL, Bool.and_eq_true]
    refine ⟨?_, cells_isL hl.2⟩
    have := hl.1
    cases h <;> first | rfl | (simp [SV.cell] at this)
theorem cells_one {V : Env} {lens : List Nat} (hV : VOK V lens) (ρ : Nat → Nat × Nat) : ∀ {l : SV}, l.cells lens = true → ∀ v ∈ dl V ρ l, v.oneCell' = true
  | .nil, _, v, hv => by simp [dl] at hv
  | .cons h t, hl, v, hv => by
    simp only [SV.cells, Bool.and_eq_true] at hl
    obtain ⟨h1, h2⟩ := cell_one hV hl.1 ρ
    simp only [dl, dl_single h1, List.singleton_append, List.mem_cons] at hv
    rcases hv with rfl | hv
    · exact h2
    · exact cells_one hV ρ hl.2 v hv
/-- The cells of a value. -/
def cellsOf (lens : List Nat) : SV → Option SV
  | .agg l => cond (l.cells lens) (some l) none
  | x => cond (x.cell lens) (some (.cons x .nil)) none
theorem cellsOf_spec {V : Env} {lens : List Nat} (hV : VOK V lens) {x l : SV} (h : cellsOf lens x = some l) (ρ : Nat → Nat × Nat) : (den V ρ x).cells = (dl V ρ l).toArray ∧ l.isL = true ∧ ∀ v ∈ dl V ρ l, v.oneCell' = true := by
  unfold cellsOf at h
  split at h
  · rename_i l'
    cases hq : l'.cells lens with
    | true => rw [hq] at h; cases h; exact ⟨rfl, cells_isL hq, cells_one hV ρ hq⟩
    | false => rw [hq] at h; cases h
  · cases hq : x.cell lens with
    | false => rw [hq] at h; cases h
    | true =>
      rw [hq] at h; cases h
      have hc : (SV.cons x .nil).cells lens = true := by simp only [SV.cells, hq, Bool.and_self]
      obtain ⟨h1, h2⟩ := cell_one hV hq ρ
      refine ⟨?_, cells_isL hc, cells_one hV ρ hc⟩
      simp only [dl, dl_single h1, List.append_nil]
      cases hv : den V ρ x <;> first | rfl | (rw [hv] at h2; simp [Value.oneCell'] at h2)

/-! ### Types -/
def rowOf (P : Program) (t : TypeId) : Option Bool := match P.underlying t with
  | some (.struct _) => some true
  | some (.array _ _) => some true
  | some _ => some false
  | none => none
def sizeT (P : Program) (t : TypeId) : Option Nat := (P.info? t).map (·.size)
def zeroT (P : Program) (t : TypeId) : Option SV := match (P.info? t).bind (·.zero) with
  | some v => cond (ofCells ofConst1 v.cells.toList).noAny (some (ofCells ofConst1 v.cells.toList)) none
  | none => none
theorem isL_ofCells : ∀ (l : List Value), (ofCells ofConst1 l).isL = true
  | [] => rfl
  | v :: r => by
    show ((ofConst1 v).single && (ofCells ofConst1 r).isL) = true
    rw [isL_ofCells r, Bool.and_true]
    unfold ofConst1
    split <;> rfl
theorem zeroT_spec {P : Program} {V : Env} {t : TypeId} {l : SV} (h : zeroT P t = some l) (ρ : Nat → Nat × Nat) (w : World) : l.isL = true ∧ ∃ z, (zeroValue t).run P w = .ok z w ∧ z.cells = (dl V ρ l).toArray := by
  unfold zeroT at h
  cases hi : P.info? t with
  | none => rw [hi] at h; cases h
  | some i =>
    rw [hi] at h
    simp only [Option.bind_some] at h
    cases hz : i.zero with
    | none => rw [hz] at h; cases h
    | some v =>
      rw [hz] at h
      simp only at h
      cases hn : (ofCells ofConst1 v.cells.toList).noAny with
      | false => rw [hn] at h; cases h
      | true =>
        rw [hn] at h; cases h
        refine ⟨isL_ofCells _, v, ?_, by rw [dl_ofCells V ρ _ hn]⟩
        simp [zeroValue, typeInfo, hi, hz]
end RX
end Go.Proofs.Ytbmokmkaebfneaa
