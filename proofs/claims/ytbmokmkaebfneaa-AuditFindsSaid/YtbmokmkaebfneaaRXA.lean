/- The effect of any operation. -/
import Derived.Test.YtbmokmkaebfneaaRX9
namespace Go.Proofs.Ytbmokmkaebfneaa
open Go.RowKit
namespace RX
set_option linter.unnecessarySimpa false
set_option linter.unusedVariables false
set_option linter.unusedSimpArgs false
def pureV (hs : List Hint) (mk : SV → Obl) : R3 := match hs with
  | .val v :: hs' => cond (okVal v) (some (⟨v, [], [], 0⟩, hs', [mk v])) none
  | _ => none
def one (v : SV) (hs : List Hint) : R3 := some (⟨v, [], [], 0⟩, hs, [])
def fieldsT (P : Program) (t : TypeId) : Option (List Field) := match P.underlying t with | some (.struct fs) => some fs.toList | _ => none
def arrayT (P : Program) (t : TypeId) : Option (Nat × TypeId) := match P.underlying t with | some (.array n e) => some (n, e) | _ => none
def sliceT (P : Program) (t : TypeId) : Option TypeId := match P.underlying t with | some (.slice e) => some e | _ => none
def intT (P : Program) (t : TypeId) : Option IntKind := match P.underlying t with | some (.int k) => some k | _ => none
theorem fieldsT_spec {P : Program} {t : TypeId} {fs : List Field} (h : fieldsT P t = some fs) : P.underlying t = some (.struct fs.toArray) := by unfold fieldsT at h; split at h <;> simp_all; rename_i f hu; rw [← h]
theorem arrayT_spec {P : Program} {t e : TypeId} {n : Nat} (h : arrayT P t = some (n, e)) : P.underlying t = some (.array n e) := by unfold arrayT at h; split at h <;> simp_all
theorem sliceT_spec {P : Program} {t e : TypeId} (h : sliceT P t = some e) : P.underlying t = some (.slice e) := by unfold sliceT at h; split at h <;> simp_all
theorem intT_spec {P : Program} {t : TypeId} {k : IntKind} (h : intT P t = some k) : P.underlying t = some (.int k) := by unfold intT at h; split at h <;> simp_all

/-- A part of a struct or an array. -/
def partS (P : Program) (t : TypeId) (l : SV) (off : Nat) : Option SV := match rowOf P t, sizeT P t with
  | some true, some n => cond (Nat.ble (off + n) l.len && l.isL) (some (.agg (SV.takeL n (SV.dropL off l)))) none
  | some false, _ => cond (Nat.blt off l.len && l.isL) (some (SV.nthL off l)) none
  | _, _ => none
def buildS (P : Program) (lens : List Nat) (av : Operand → SV) (t : TypeId) (parts : List (Nat × Operand)) : Option SV :=
  match zeroT P t with
  | none => none
  | some z => match fieldsT P t with
    | some fs => match places P fs with
      | some l => (fillS lens (fun i => l[i]?) z (parts.map fun x => (x.1, av x.2))).map SV.agg
      | none => none
    | none => match arrayT P t with
      | some (_, e) => match sizeT P e with
        | some n => (fillS lens (fun i => some (i * n, n)) z (parts.map fun x => (x.1, av x.2))).map SV.agg
        | none => none
      | none => none
def newBlk (nx : Nat) (ty : TypeId) (l : SV) (hs : List Hint) : R3 := cond (l.bd nx) (some (⟨.ptr nx .nil 0, [], [(nx, .cs ty l)], 1⟩, hs, [])) none
def optSV (av : Operand → SV) : Option Operand → Option (Option SV)
  | none => some none
  | some x => cond (okVal (av x)) (some (some (av x))) none
def callOf (Γ : List Gm) (hp : List (Nat × Bk)) (nx : Nat) (f : SV) (args : SV) (hs : List Hint) : R3 :=
  match f, hs with
  | .fn fid caps, .call k ids :: hs' => match Γ[k]? with
    | some g => match g.tg with
      | .fn fid' => cond (Nat.beq fid fid') (match callEff hp nx g ids (appSV args caps) with
        | some (f, os) => some (f, hs', os)
        | none => none) none
      | .op _ => none
    | none => none
  | _, _ => none
def opEff1 (P : Program) (Γ : List Gm) (lens : List Nat) (av : Operand → SV) (hp : List (Nat × Bk)) (nx : Nat) (o : Oper) (hs : List Hint) : R3 :=
  match o.op with
  | .move x => one (av x) hs
  | .assign x => one (av x) hs
  | .pick c a b => match av c with
    | .bo t => one (cond t (av a) (av b)) hs
    | _ => none
  | .alloc t => match zeroT P t with
    | some l => newBlk nx t l hs
    | none => none
  | .box t x => match cellsOf lens (av x) with
    | some l => newBlk nx t l hs
    | none => none
  | .build t parts => match buildS P lens av t parts.toList with
    | some v => one v hs
    | none => none
  | .load t x => ldEff P hp t (av x) hs
  | .store t x y => stEff P lens hp nx t (av x) (av y) hs
  | .nilCheck x => match av x with
    | .ptr id bs off => one (.ptr id bs off) hs
    | .fn f c => one (.fn f c) hs
    | _ => none
  | .binOp op t x y _ => cond (okVal (av x) && okVal (av y)) (match autoBin P op t (av x) (av y) with
    | some v => one v hs
    | none => pureV hs fun v => .bin op t (av x) (av y) v) none
  | .unOp op _ x => match op, av x with
    | .not, .bo b => one (.bo (!b)) hs
    | op, a => cond (okVal a) (pureV hs fun v => .un op a v) none
  | .convert s d x => match av x, intT P d, P.underlying s with
    | .lit _ n, some k, some _ => one (.lit k (k.wrap n)) hs
    | a, _, _ => cond (okVal a) (pureV hs fun v => .cv s d a v) none
  | .makeFunc fn first caps => match fn with
    | .func f => cond (decide (first = #[]) && okArgs av caps.toList) (one (.fn f (argsSV av caps.toList)) hs) none
    | _ => none
  | .fieldAddr s x i => match av x, fieldsT P s with
    | .ptr id bs off, some fs => match fs[i]? with
      | some f => match sizeT P f.type with
        | some n => cond (Nat.blt 0 n) (one (.ptr id bs (off + f.offset)) hs) none
        | none => none
      | none => none
    | _, _ => none
  | .field t x i => match av x, fieldsT P t with
    | .agg l, some fs => match fs[i]? with
      | some f => match partS P f.type l f.offset with
        | some v => one v hs
        | none => none
      | none => none
    | _, _ => none
  | .indexAddr t x i => match av x, av i, arrayT P t with
    | .ptr id bs off, .lit _ n, some (len, e) => match sizeT P e with
      | some sz => cond (decide (0 ≤ n) && decide (n < (len : Int))) (one (.ptr id bs (off + n.toNat * sz)) hs) none
      | none => none
    | a, b, _ => cond (okVal a && okVal b) (pureV hs fun v => .ia t a b v) none
  | .index t x i => match av x, av i, arrayT P t with
    | .agg l, .lit _ n, some (len, e) => match sizeT P e with
      | some sz => cond (decide (0 ≤ n) && decide (n < (len : Int))) (match partS P e l (n.toNat * sz) with
        | some v => one v hs
        | none => none) none
      | none => none
    | a, b, _ => cond (okVal a && okVal b) (pureV hs fun v => .ix t a b v) none
  | .slice t x lo hi mx => match optSV av lo, optSV av hi, optSV av mx with
    | some l, some h, some m => cond (okVal (av x)) (pureV hs fun v => .sl t (av x) l h m v) none
    | _, _, _ => none
  | .extract x i => match av x with
    | .tup l => cond (Nat.blt i l.len && l.isL) (one (SV.nthL i l) hs) none
    | _ => none
  | .call c => match c.callee with
    | .value f => cond (okArgs av c.args.toList) (callOf Γ hp nx (av f) (argsSV av c.args.toList) hs) none
    | .builtin b => cond (okArgs av c.args.toList) (pureV hs fun v => .bi b c.argTypes o.type (c.args.map fun | .const _ => true | _ => false) (argsSV av c.args.toList) v) none
    | .invoke _ _ => none
  | _ => none
def natsB : List Nat → List Nat → Bool
  | [], [] => true
  | x :: a, y :: b => Nat.beq x y && natsB a b
  | _, _ => false
theorem natsB_eq : ∀ {a b : List Nat}, natsB a b = true → a = b
  | [], [], _ => rfl
  | x :: a, y :: b, h => by simp only [natsB, Bool.and_eq_true] at h; rw [Nat.eq_of_beq_eq_true h.1, natsB_eq h.2]
  | [], _ :: _, h => by simp [natsB] at h
  | _ :: _, [], h => by simp [natsB] at h
/-- An operation whose contract is given besides. -/
def opEff2 (Γ : List Gm) (av : Operand → SV) (hp : List (Nat × Bk)) (nx : Nat) (o : Oper) (hs : List Hint) : R3 :=
  match hs with
  | .call k ids :: hs' => match Γ[k]? with
    | some g => match g.tg, tagOf o with
      | .op t, some t' => cond (natsB t t' && okArgs av o.op.operands.toList) (match callEff hp nx g ids (argsSV av o.op.operands.toList) with
        | some (f, os) => some (f, hs', os)
        | none => none) none
      | _, _ => none
    | none => none
  | _ => none
def opEff (P : Program) (Γ : List Gm) (lens : List Nat) (av : Operand → SV) (hp : List (Nat × Bk)) (nx : Nat) (o : Oper) (hs : List Hint) : R3 :=
  match opEff2 Γ av hp nx o hs with
  | some r => some r
  | none => opEff1 P Γ lens av hp nx o hs

section
variable {P : Program} {V : Env} {av : Operand → SV} {hp : List (Nat × Bk)} {nx : Nat} {o : Oper} {lens : List Nat} {Γ : List Gm} {hs hs' : List Hint} {f : Eff} {os : List Obl}
theorem one_good {sv : SV} (h : one sv hs = some (f, hs', os)) (hr : ∀ ρ (w : World) ev, (∀ x ∈ o.op.operands, av x ≠ .any → ev x = den V ρ (av x)) → ∃ v, (execOp ev o).run P w = .ok (.value v) w ∧ (sv ≠ .any → v = den V ρ sv)) : Good P V av hp nx o f := by
  cases h; exact Good.pure hr
theorem pureV_good {mk : SV → Obl} (h : pureV hs mk = some (f, hs', os)) (ho : allO P V os) (hr : ∀ v, (mk v).holds P V → ∀ ρ (w : World) ev, (∀ x ∈ o.op.operands, av x ≠ .any → ev x = den V ρ (av x)) → (execOp ev o).run P w = .ok (.value (den V ρ v)) w) : Good P V av hp nx o f := by
  unfold pureV at h
  split at h
  · rename_i v hs''
    cases hq : okVal v with
    | false => rw [hq] at h; cases h
    | true => rw [hq] at h; cases h; exact Good.pure fun ρ w ev hev => ⟨_, hr v ho.1 ρ w ev hev, fun _ => rfl⟩
  · cases h
theorem newBlk_good {ty : TypeId} {l : SV} (h : newBlk nx ty l hs = some (f, hs', os)) (hr : ∀ ρ (w : World) ev, (∀ x ∈ o.op.operands, av x ≠ .any → ev x = den V ρ (av x)) →
    (execOp ev o).run P w = .ok (.value (.pointer (some ⟨w.heap.size, 0, none⟩))) { w with heap := w.heap.push (.cells (dl V ρ l).toArray ty (0, 0)) }) : Good P V av hp nx o f := by
  unfold newBlk at h
  cases hq : l.bd nx with
  | false => rw [hq] at h; cases h
  | true =>
    rw [hq] at h; cases h
    refine ⟨eff_new hr hq, fun id bk hb => by simp [lkH] at hb, fun id hu hn => ?_⟩
    cases hb : lkH [(nx, Bk.cs ty l)] id with
    | none => exact absurd hb hu
    | some b => obtain ⟨rfl, _⟩ := lkH_single hb; exact absurd ⟨Nat.le_refl _, by simp only; omega⟩ hn
theorem cond_bind {b : Bool} {α : Type} {x : Option α} {r : α} (h : cond b x none = some r) : b = true ∧ x = some r := by cases b <;> simp_all
theorem partS_run {t : TypeId} {l v : SV} {off : Nat} (h : partS P t l off = some v) (ρ : Nat → Nat × Nat) (w : World) : (part t (dl V ρ l).toArray off).run P w = .ok (den V ρ v) w := by
  unfold partS at h
  split at h
  · rename_i n hr hn
    obtain ⟨hq, he⟩ := cond_bind h
    cases he
    simp only [Bool.and_eq_true, Nat.ble_eq] at hq
    have hagg : (isAgg t).run P w = .ok true w := by
      unfold rowOf at hr; unfold isAgg
      split at hr
      · rename_i fs hu; rw [Sem.run_bind, run_underlying hu w]; rfl
      · rename_i n' e hu; rw [Sem.run_bind, run_underlying hu w]; rfl
      · cases hr
      · cases hr
    unfold part
    rw [Sem.run_bind, hagg]
    simp only [Result.andThen, if_true, Sem.run_bind, sizeT_run hn, Sem.run_pure]
    show Result.ok (Value.agg _) w = .ok (Value.agg _) w
    congr 2
    apply Array.toList_inj.1
    rw [dl_take (isL_drop hq.2), dl_drop hq.2]
    simp
  · rename_i hr
    obtain ⟨hq, he⟩ := cond_bind h
    cases he
    simp only [Bool.and_eq_true, blt_iff] at hq
    have hagg : (isAgg t).run P w = .ok false w := by
      unfold rowOf at hr; unfold isAgg
      split at hr
      · cases hr
      · cases hr
      · rename_i d h1 h2 hu; rw [Sem.run_bind, run_underlying hu w]; cases d <;> simp_all
      · cases hr
    unfold part
    rw [Sem.run_bind, hagg]
    have := (dl_nth (V := V) (ρ := ρ) hq.2 hq.1).1
    simp only [Result.andThen, Bool.false_eq_true, if_false, List.getElem?_toArray, this, Sem.run_pure]
  · cases h
theorem okVal_ev {x : Operand} {ρ : Nat → Nat × Nat} {ev : Operand → Value} (hx : okVal (av x) = true) (hm : x ∈ o.op.operands) (hev : ∀ x ∈ o.op.operands, av x ≠ .any → ev x = den V ρ (av x)) : ev x = den V ρ (av x) := hev x hm (okVal_spec hx).1
theorem mapM_places (fs : List Field) (l : List (Nat × Nat)) (w : World) (h : places P fs = some l) : (fs.toArray.mapM fun f => (do pure (f.offset, ← sizeOf f.type) : Sem (Nat × Nat))).run P w = .ok l.toArray w := by
  rw [Array.mapM_eq_mapM_toList, Sem.run_map, List.toList_toArray, places_run fs l w h]; rfl
theorem buildS_run (hV : VOK V lens) {t : TypeId} {parts : Array (Nat × Operand)} {v : SV} (h : buildS P lens av t parts.toList = some v) (ρ : Nat → Nat × Nat) (w : World) (ev : Operand → Value) (hev : ∀ x ∈ parts.toList, ev x.2 = den V ρ (av x.2)) :
    (Instr.build t (parts.map fun (i, x) => (i, ev x))).run P w = .ok (den V ρ v) w := by
  have hp : (parts.map fun (i, x) => (i, ev x)).toList = (parts.toList.map fun x => (x.1, av x.2)).map fun x => (x.1, den V ρ x.2) := by
    rw [Array.toList_map, List.map_map]
    exact List.map_congr_left fun x hx => by show (x.1, ev x.2) = (x.1, den V ρ (av x.2)); rw [hev x hx]
  unfold buildS at h
  split at h
  · cases h
  rename_i z hz
  obtain ⟨hzl, z', hzr, hzc⟩ := zeroT_spec (V := V) hz ρ w
  split at h
  · rename_i fs hfs
    split at h
    · rename_i l hl
      cases hq : fillS lens (fun i => l[i]?) z (parts.toList.map fun x => (x.1, av x.2)) with
      | none => rw [hq] at h; cases h
      | some r =>
        rw [hq] at h; cases h
        obtain ⟨hf, _⟩ := fillS_spec hV (fun i => l[i]?) ρ _ z r hzl hq
        unfold Instr.build
        simp only [Sem.run_bind, hzr, Result.andThen, run_underlying (fieldsT_spec hfs), hzc, mapM_places fs l w hl, hp]
        have e : (fun (x : Nat) => l.toArray[x]?) = fun i => l[i]? := by funext i; simp
        rw [e, hf]; rfl
    · cases h
  · split at h
    · rename_i n e he
      split at h
      · rename_i sz hsz
        cases hq : fillS lens (fun i => some (i * sz, sz)) z (parts.toList.map fun x => (x.1, av x.2)) with
        | none => rw [hq] at h; cases h
        | some r =>
          rw [hq] at h; cases h
          obtain ⟨hf, _⟩ := fillS_spec hV (fun i => some (i * sz, sz)) ρ _ z r hzl hq
          unfold Instr.build
          simp only [Sem.run_bind, hzr, Result.andThen, run_underlying (arrayT_spec he), hzc, sizeT_run hsz, hp, hf, Sem.run_pure]
          rfl
      · cases h
    · cases h
theorem run_callValue {c : Call} {fo : Operand} {fid : FuncId} {caps : Array Value} {ev : Operand → Value} {w : World} (hop : o.op = .call c) (hc : c.callee = .value fo) (hf : ev fo = .func (.func fid) #[] caps) :
    (execOp ev o).run P w = (callFunc fid ((c.args.map ev) ++ caps)).run P w := by
  unfold execOp
  simp only [hop]
  simp [resolve, hc, hf, Deferred.ofValue, invoke]
end
end RX
end Go.Proofs.Ytbmokmkaebfneaa
