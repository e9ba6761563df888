/- The effect of any operation. The effect of any operation is right. A region on paper. A region on paper is right. Code on paper: one way through it; loops round by round, or by a law of their own. The whole way on paper, and that it is right: contracts of functions, laws of stretches. Contracts of functions and laws of stretches, out of a way on paper. Contracts on paper and those of calls. Stretches of code on paper: their laws out of a way; loops. Loops' things that stay; lists in memory: what is owed. Rooms of lists that are only read may be any; lists as arguments; words. Lists that grow: append, on paper. Slices of lists of one's own, on paper: from a place on. -/
import Derived.Test.YtieencpejpeenaaRY1
import Derived.Scope
import Derived.Laws.Slices
import Derived.Deep.AppendSrc
import Derived.Deep.Upon
import Derived.Laws.AppendOwn
section
namespace Go.Proofs.Ytieencpejpeenaa
open Go.RowKit
namespace RX
set_option linter.unnecessarySimpa false
set_option linter.unusedVariables false
set_option linter.unusedSimpArgs false
def pureV (hs : List Hint) (mk : SV → Obl) : R3 := match hs with
  | .val v :: hs' => cond (okVal v) (some (⟨v, [], [], 0⟩, hs', [mk v])) none
  | _ => none
def one (v : SV) (hs : List Hint) : R3 := some (⟨v, [], [], 0⟩, hs, [])
def fieldsT (P : Program) (t : TypeId) : Option (List Field) := match P.underlying t with | some (.struct fs) => some fs.toList | _ => none
def arrayT (P : Program) (t : TypeId) : Option (Nat × TypeId) := match P.underlying t with | some (.array n e) => some (n, e) | _ => none
def sliceT (P : Program) (t : TypeId) : Option TypeId := match P.underlying t with | some (.slice e) => some e | _ => none
def intT (P : Program) (t : TypeId) : Option IntKind := match P.underlying t with | some (.int k) => some k | _ => none
theorem fieldsT_spec {P : Program} {t : TypeId} {fs : List Field} (h : fieldsT P t = some fs) : P.underlying t = some (.struct fs.toArray) := by unfold fieldsT at h; split at h <;> simp_all; rename_i f hu; rw [← h]
theorem arrayT_spec {P : Program} {t e : TypeId} {n : Nat} (h : arrayT P t = some (n, e)) : P.underlying t = some (.array n e) := by unfold arrayT at h; split at h <;> simp_all
theorem sliceT_spec {P : Program} {t e : TypeId} (h : sliceT P t = some e) : P.underlying t = some (.slice e) := by unfold sliceT at h; split at h <;> simp_all
theorem intT_spec {P : Program} {t : TypeId} {k : IntKind} (h : intT P t = some k) : P.underlying t = some (.int k) := by unfold intT at h; split at h <;> simp_all

/-- A part of a struct or an array. -/
def partS (P : Program) (t : TypeId) (l : SV) (off : Nat) : Option SV := match rowOf P t, sizeT P t with
  | some true, some n => cond (Nat.ble (off + n) l.len && l.isL) (some (.agg (SV.takeL n (SV.dropL off l)))) none
  | some false, _ => cond (Nat.blt off l.len && l.isL) (some (SV.nthL off l)) none
  | _, _ => none
def buildS (P : Program) (lens : List Nat) (av : Operand → SV) (t : TypeId) (parts : List (Nat × Operand)) : Option SV :=
  match zeroT P t with
  | none => none
  | some z => match fieldsT P t with
    | some fs => match places P fs with
      | some l => (fillS lens (fun i => l[i]?) z (parts.map fun x => (x.1, av x.2))).map SV.agg
      | none => none
    | none => match arrayT P t with
      | some (_, e) => match sizeT P e with
        | some n => (fillS lens (fun i => some (i * n, n)) z (parts.map fun x => (x.1, av x.2))).map SV.agg
        | none => none
      | none => none
def newBlk (nx : Nat) (ty : TypeId) (l : SV) (hs : List Hint) : R3 := cond (l.bd nx) (some (⟨.ptr nx .nil 0, [], [(nx, .cs ty l)], 1⟩, hs, [])) none
def appL : SV → SV → SV
  | .cons h t, r => .cons h (appL t r)
  | _, r => r
def repL (z : SV) : Nat → SV
  | 0 => .nil
  | n + 1 => appL z (repL z n)
theorem appL_spec {V : Env} {ρ : Nat → Nat × Nat} {r : SV} (hr : r.isL = true) : ∀ {l : SV}, l.isL = true → dl V ρ (appL l r) = dl V ρ l ++ dl V ρ r ∧ (appL l r).isL = true
  | .nil, _ => ⟨rfl, hr⟩
  | .cons h t, hl => by
    simp only [SV.isL, Bool.and_eq_true] at hl
    obtain ⟨h1, h2⟩ := appL_spec (V := V) (ρ := ρ) hr hl.2
    refine ⟨?_, by simp only [appL, SV.isL, hl.1, h2, Bool.and_self]⟩
    show dl V ρ h ++ dl V ρ (appL t r) = (dl V ρ h ++ dl V ρ t) ++ dl V ρ r
    rw [h1, List.append_assoc]
theorem repL_spec {V : Env} {ρ : Nat → Nat × Nat} {z : SV} (hz : z.isL = true) : ∀ n, dl V ρ (repL z n) = spare (dl V ρ z) (n * (dl V ρ z).length) ∧ (repL z n).isL = true
  | 0 => ⟨by rw [Nat.zero_mul]; rfl, rfl⟩
  | n + 1 => by
    obtain ⟨h1, h2⟩ := repL_spec (V := V) (ρ := ρ) hz n
    obtain ⟨h3, h4⟩ := appL_spec (V := V) (ρ := ρ) h2 hz
    exact ⟨by rw [repL, h3, h1, ← spare_succ], h4⟩
def buildSlS (P : Program) (lens : List Nat) (av : Operand → SV) (nx : Nat) (t : TypeId) (n : Nat) (parts : List (Nat × Operand)) (hs : List Hint) : R3 := match sliceT P t with
  | some e => match zeroT P e, sizeT P e with
    | some z, some sz => match fillS lens (fun i => some (i * sz, sz)) (repL z n) (parts.map fun x => (x.1, av x.2)) with
      | some l => cond (Nat.blt 0 (n * sz) && (Nat.ble (n * sz) 16777216 && (Nat.beq z.len sz && l.bd nx))) (some (⟨.sli nx (.lit .i64 0) 0 (.lit .i64 n) (.lit .i64 n), [], [(nx, .cs e l)], 1⟩, hs, [])) none
      | none => none
    | _, _ => none
  | none => none
def optSV (av : Operand → SV) : Option Operand → Option (Option SV)
  | none => some none
  | some x => cond (okVal (av x)) (some (some (av x))) none
def callOf (Γ : List Gm) (hp : List (Nat × Bk)) (nx : Nat) (f : SV) (args : SV) (hs : List Hint) : R3 :=
  match f, hs with
  | .fn fid caps, .call k ids :: hs' => match Γ[k]? with
    | some g => match g.tg with
      | .fn fid' => cond (Nat.beq fid fid') (match callEff hp nx g ids (appSV args caps) with
        | some (f, os) => some (f, hs', os)
        | none => none) none
      | .op _ => none
    | none => none
  | .bf fid a caps, .call k ids :: hs' => match Γ[k]? with
    | some g => match g.tg with
      | .fn fid' => cond (Nat.beq fid fid' && a.isL) (match callEff hp nx g ids (appSV a (appSV args caps)) with
        | some (f, os) => some (f, hs', os)
        | none => none) none
      | .op _ => none
    | none => none
  | _, _ => none
/-- A move: the value as it stands, or as another one that is the same. -/
def mvEff (d : Option Nat) (x : SV) (hs : List Hint) : R3 := match hs, d with
  | .as d1 v :: hs', some d2 => cond (Nat.beq d1 d2) (cond (okVal x && okVal v) (some (⟨v, [], [], 0⟩, hs', [.eq x v])) none) (one x hs)
  | _, _ => one x hs
def opEff1 (P : Program) (Γ : List Gm) (lens : List Nat) (av : Operand → SV) (hp : List (Nat × Bk)) (nx : Nat) (o : Oper) (hs : List Hint) : R3 :=
  match o.op with
  | .move x => mvEff o.dst (av x) hs
  | .assign x => one (av x) hs
  | .pick c a b => match av c with
    | .bo t => one (cond t (av a) (av b)) hs
    | _ => none
  | .alloc t => match zeroT P t with
    | some l => newBlk nx t l hs
    | none => none
  | .box t x => match cellsOf lens (av x) with
    | some l => newBlk nx t l hs
    | none => none
  | .build t parts => match buildS P lens av t parts.toList with
    | some v => one v hs
    | none => none
  | .buildSlice t n parts => buildSlS P lens av nx t n parts.toList hs
  | .load t x => ldEff P hp t (av x) hs
  | .store t x y => stEff P lens hp nx t (av x) (av y) hs
  | .nilCheck x => match av x with
    | .ptr id bs off => one (.ptr id bs off) hs
    | .fn f c => one (.fn f c) hs
    | .bf f a c => one (.bf f a c) hs
    | _ => none
  | .binOp op t x y _ => cond (okVal (av x) && okVal (av y)) (match autoBin P op t (av x) (av y) with
    | some v => one v hs
    | none => pureV hs fun v => .bin op t (av x) (av y) v) none
  | .unOp op _ x => match op, av x with
    | .not, .bo b => one (.bo (!b)) hs
    | op, a => cond (okVal a) (pureV hs fun v => .un op a v) none
  | .convert s d x => match av x, intT P d, P.underlying s with
    | .lit _ n, some k, some _ => one (.lit k (k.wrap n)) hs
    | a, _, _ => cond (okVal a) (pureV hs fun v => .cv s d a v) none
  | .makeFunc fn first caps => match fn with
    | .func f => cond (decide (first = #[]) && okArgs av caps.toList) (one (.fn f (argsSV av caps.toList)) hs) (cond (okArgs av first.toList && okArgs av caps.toList) (one (.bf f (argsSV av first.toList) (argsSV av caps.toList)) hs) none)
    | _ => none
  | .fieldAddr s x i => match av x, fieldsT P s with
    | .ptr id bs off, some fs => match fs[i]? with
      | some f => match sizeT P f.type with
        | some n => cond (Nat.blt 0 n) (one (.ptr id bs (off + f.offset)) hs) none
        | none => none
      | none => none
    | _, _ => none
  | .field t x i => match av x, fieldsT P t with
    | .agg l, some fs => match fs[i]? with
      | some f => match partS P f.type l f.offset with
        | some v => one v hs
        | none => none
      | none => none
    | _, _ => none
  | .indexAddr t x i => match av x, av i, arrayT P t with
    | .ptr id bs off, .lit _ n, some (len, e) => match sizeT P e with
      | some sz => cond (decide (0 ≤ n) && decide (n < (len : Int))) (one (.ptr id bs (off + n.toNat * sz)) hs) none
      | none => none
    | a, b, _ => cond (okVal a && okVal b) (pureV hs fun v => .ia t a b v) none
  | .index t x i => match av x, av i, arrayT P t with
    | .agg l, .lit _ n, some (len, e) => match sizeT P e with
      | some sz => cond (decide (0 ≤ n) && decide (n < (len : Int))) (match partS P e l (n.toNat * sz) with
        | some v => one v hs
        | none => none) none
      | none => none
    | a, b, _ => cond (okVal a && okVal b) (pureV hs fun v => .ix t a b v) none
  | .slice t x lo hi mx => match optSV av lo, optSV av hi, optSV av mx with
    | some l, some h, some m => cond (okVal (av x)) (pureV hs fun v => .sl t (av x) l h m v) none
    | _, _, _ => none
  | .extract x i => match av x with
    | .tup l => cond (Nat.blt i l.len && l.isL) (one (SV.nthL i l) hs) none
    | _ => none
  | .call c => match c.callee with
    | .value f => cond (okArgs av c.args.toList) (callOf Γ hp nx (av f) (argsSV av c.args.toList) hs) none
    | .builtin b => cond (okArgs av c.args.toList) (pureV hs fun v => .bi b c.argTypes o.type (c.args.map fun | .const _ => true | _ => false) (argsSV av c.args.toList) v) none
    | .invoke _ _ => none
  | _ => none
def natsB : List Nat → List Nat → Bool
  | [], [] => true
  | x :: a, y :: b => Nat.beq x y && natsB a b
  | _, _ => false
theorem natsB_eq : ∀ {a b : List Nat}, natsB a b = true → a = b
  | [], [], _ => rfl
  | x :: a, y :: b, h => by simp only [natsB, Bool.and_eq_true] at h; rw [Nat.eq_of_beq_eq_true h.1, natsB_eq h.2]
  | [], _ :: _, h => by simp [natsB] at h
  | _ :: _, [], h => by simp [natsB] at h
/-- An operation whose contract is given besides. -/
def opEff2 (Γ : List Gm) (av : Operand → SV) (hp : List (Nat × Bk)) (nx : Nat) (o : Oper) (hs : List Hint) : R3 :=
  match hs with
  | .call k ids :: hs' => match Γ[k]? with
    | some g => match g.tg, tagOf o with
      | .op t, some t' => cond (natsB t t' && okArgs av o.op.operands.toList) (match callEff hp nx g ids (argsSV av o.op.operands.toList) with
        | some (f, os) => some (f, hs', os)
        | none => none) none
      | _, _ => none
    | none => none
  | _ => none
def opEff (P : Program) (Γ : List Gm) (lens : List Nat) (av : Operand → SV) (hp : List (Nat × Bk)) (nx : Nat) (o : Oper) (hs : List Hint) : R3 :=
  match opEff2 Γ av hp nx o hs with
  | some r => some r
  | none => opEff1 P Γ lens av hp nx o hs

section
variable {J : World → Prop} {P : Program} {V : Env} {av : Operand → SV} {hp : List (Nat × Bk)} {nx : Nat} {o : Oper} {lens : List Nat} {Γ : List Gm} {hs hs' : List Hint} {f : Eff} {os : List Obl}
theorem one_good {sv : SV} (h : one sv hs = some (f, hs', os)) (hr : ∀ ρ (w : World) ev, (∀ x ∈ o.op.operands, av x ≠ .any → ev x = den V ρ (av x)) → ∃ v, (execOp ev o).run P w = .ok (.value v) w ∧ (sv ≠ .any → v = den V ρ sv)) : Good J P V av hp nx o f := by
  cases h; exact Good.pure hr
theorem pureV_good {mk : SV → Obl} (h : pureV hs mk = some (f, hs', os)) (ho : allO P V os) (hr : ∀ v, (mk v).holds P V → ∀ ρ (w : World) ev, (∀ x ∈ o.op.operands, av x ≠ .any → ev x = den V ρ (av x)) → (execOp ev o).run P w = .ok (.value (den V ρ v)) w) : Good J P V av hp nx o f := by
  unfold pureV at h
  split at h
  · rename_i v hs''
    cases hq : okVal v with
    | false => rw [hq] at h; cases h
    | true => rw [hq] at h; cases h; exact Good.pure fun ρ w ev hev => ⟨_, hr v ho.1 ρ w ev hev, fun _ => rfl⟩
  · cases h
theorem newBlk_good {ty : TypeId} {l : SV} (h : newBlk nx ty l hs = some (f, hs', os)) (hr : ∀ ρ (w : World) ev, (∀ x ∈ o.op.operands, av x ≠ .any → ev x = den V ρ (av x)) →
    (execOp ev o).run P w = .ok (.value (.pointer (some ⟨w.heap.size, 0, none⟩))) { w with heap := w.heap.push (.cells (dl V ρ l).toArray ty (0, 0)) }) : Good J P V av hp nx o f := by
  unfold newBlk at h
  cases hq : l.bd nx with
  | false => rw [hq] at h; cases h
  | true =>
    rw [hq] at h; cases h
    refine ⟨eff_new hr hq, fun id bk hb => by simp [lkH] at hb, fun id hu hn => ?_⟩
    cases hb : lkH [(nx, Bk.cs ty l)] id with
    | none => exact absurd hb hu
    | some b => obtain ⟨rfl, _⟩ := lkH_single hb; exact absurd ⟨Nat.le_refl _, by simp only; omega⟩ hn
theorem cond_bind {b : Bool} {α : Type} {x : Option α} {r : α} (h : cond b x none = some r) : b = true ∧ x = some r := by cases b <;> simp_all
theorem partS_run {t : TypeId} {l v : SV} {off : Nat} (h : partS P t l off = some v) (ρ : Nat → Nat × Nat) (w : World) : (part t (dl V ρ l).toArray off).run P w = .ok (den V ρ v) w := by
  unfold partS at h
  split at h
  · rename_i n hr hn
    obtain ⟨hq, he⟩ := cond_bind h
    cases he
    simp only [Bool.and_eq_true, Nat.ble_eq] at hq
    have hagg : (isAgg t).run P w = .ok true w := by
      unfold rowOf at hr; unfold isAgg
      split at hr
      · rename_i fs hu; rw [Sem.run_bind, run_underlying hu w]; rfl
      · rename_i n' e hu; rw [Sem.run_bind, run_underlying hu w]; rfl
      · cases hr
      · cases hr
    unfold part
    rw [Sem.run_bind, hagg]
    simp only [Result.andThen, if_true, Sem.run_bind, sizeT_run hn, Sem.run_pure]
    show Result.ok (Value.agg _) w = .ok (Value.agg _) w
    congr 2
    apply Array.toList_inj.1
    rw [dl_take (isL_drop hq.2), dl_drop hq.2]
    simp
  · rename_i hr
    obtain ⟨hq, he⟩ := cond_bind h
    cases he
    simp only [Bool.and_eq_true, blt_iff] at hq
    have hagg : (isAgg t).run P w = .ok false w := by
      unfold rowOf at hr; unfold isAgg
      split at hr
      · cases hr
      · cases hr
      · rename_i d h1 h2 hu; rw [Sem.run_bind, run_underlying hu w]; cases d <;> simp_all
      · cases hr
    unfold part
    rw [Sem.run_bind, hagg]
    have := (dl_nth (V := V) (ρ := ρ) hq.2 hq.1).1
    simp only [Result.andThen, Bool.false_eq_true, if_false, List.getElem?_toArray, this, Sem.run_pure]
  · cases h
theorem okVal_ev {x : Operand} {ρ : Nat → Nat × Nat} {ev : Operand → Value} (hx : okVal (av x) = true) (hm : x ∈ o.op.operands) (hev : ∀ x ∈ o.op.operands, av x ≠ .any → ev x = den V ρ (av x)) : ev x = den V ρ (av x) := hev x hm (okVal_spec hx).1
theorem mapM_places (fs : List Field) (l : List (Nat × Nat)) (w : World) (h : places P fs = some l) : (fs.toArray.mapM fun f => (do pure (f.offset, ← sizeOf f.type) : Sem (Nat × Nat))).run P w = .ok l.toArray w := by
  rw [Array.mapM_eq_mapM_toList, Sem.run_map, List.toList_toArray, places_run fs l w h]; rfl
theorem buildS_run (hV : VOK V lens) {t : TypeId} {parts : Array (Nat × Operand)} {v : SV} (h : buildS P lens av t parts.toList = some v) (ρ : Nat → Nat × Nat) (w : World) (ev : Operand → Value) (hev : ∀ x ∈ parts.toList, ev x.2 = den V ρ (av x.2)) :
    (Instr.build t (parts.map fun (i, x) => (i, ev x))).run P w = .ok (den V ρ v) w := by
  have hp : (parts.map fun (i, x) => (i, ev x)).toList = (parts.toList.map fun x => (x.1, av x.2)).map fun x => (x.1, den V ρ x.2) := by
    rw [Array.toList_map, List.map_map]
    exact List.map_congr_left fun x hx => by show (x.1, ev x.2) = (x.1, den V ρ (av x.2)); rw [hev x hx]
  unfold buildS at h
  split at h
  · cases h
  rename_i z hz
  obtain ⟨hzl, z', hzr, hzc⟩ := zeroT_spec (V := V) hz ρ w
  split at h
  · rename_i fs hfs
    split at h
    · rename_i l hl
      cases hq : fillS lens (fun i => l[i]?) z (parts.toList.map fun x => (x.1, av x.2)) with
      | none => rw [hq] at h; cases h
      | some r =>
        rw [hq] at h; cases h
        obtain ⟨hf, _⟩ := fillS_spec hV (fun i => l[i]?) ρ _ z r hzl hq
        unfold Instr.build
        simp only [Sem.run_bind, hzr, Result.andThen, run_underlying (fieldsT_spec hfs), hzc, mapM_places fs l w hl, hp]
        have e : (fun (x : Nat) => l.toArray[x]?) = fun i => l[i]? := by funext i; simp
        rw [e, hf]; rfl
    · cases h
  · split at h
    · rename_i n e he
      split at h
      · rename_i sz hsz
        cases hq : fillS lens (fun i => some (i * sz, sz)) z (parts.toList.map fun x => (x.1, av x.2)) with
        | none => rw [hq] at h; cases h
        | some r =>
          rw [hq] at h; cases h
          obtain ⟨hf, _⟩ := fillS_spec hV (fun i => some (i * sz, sz)) ρ _ z r hzl hq
          unfold Instr.build
          simp only [Sem.run_bind, hzr, Result.andThen, run_underlying (arrayT_spec he), hzc, sizeT_run hsz, hp, hf, Sem.run_pure]
          rfl
      · cases h
    · cases h
theorem run_callBound {c : Call} {fo : Operand} {fid : FuncId} {first caps : Array Value} {ev : Operand → Value} {w : World} (hop : o.op = .call c) (hc : c.callee = .value fo) (hf : ev fo = .func (.func fid) first caps) :
    (execOp ev o).run P w = (callFunc fid (first ++ (c.args.map ev) ++ caps)).run P w := by
  unfold execOp
  simp only [hop]
  simp [resolve, hc, hf, Deferred.ofValue, invoke]
theorem run_callValue {c : Call} {fo : Operand} {fid : FuncId} {caps : Array Value} {ev : Operand → Value} {w : World} (hop : o.op = .call c) (hc : c.callee = .value fo) (hf : ev fo = .func (.func fid) #[] caps) :
    (execOp ev o).run P w = (callFunc fid ((c.args.map ev) ++ caps)).run P w := by
  unfold execOp
  simp only [hop]
  simp [resolve, hc, hf, Deferred.ofValue, invoke]
end
end RX
end Go.Proofs.Ytieencpejpeenaa
end
section
namespace Go.Proofs.Ytieencpejpeenaa
open Go.RowKit
namespace RX
set_option linter.unnecessarySimpa false
set_option linter.unusedVariables false
set_option linter.unusedSimpArgs false
section
variable {J : World → Prop} {P : Program} {V : Env} {av : Operand → SV} {hp : List (Nat × Bk)} {nx : Nat} {o : Oper} {lens : List Nat} {Γ : List Gm} {hs hs' : List Hint} {f : Eff} {os : List Obl}
theorem addr_add (b o n : Nat) : (⟨b, o, none⟩ : Addr).add n = ⟨b, o + n, none⟩ := Addr.add_mid b o n
theorem fieldAt_run {s : TypeId} {fs : List Field} {fl : Field} {i n b off : Nat} (hfs : fieldsT P s = some fs) (hi : fs[i]? = some fl) (hn : sizeT P fl.type = some n) (h0 : 0 < n) (w : World) :
    (Instr.fieldAt s (.pointer (some ⟨b, off, none⟩)) i).run P w = .ok (.pointer (some ⟨b, off + fl.offset, none⟩)) w := by
  unfold Instr.fieldAt
  simp only [Sem.run_bind, run_underlying (fieldsT_spec hfs), Result.andThen, List.getElem?_toArray, hi, Instr.sureAddr, Sem.run_pure, fieldPlace, sizeT_run hn, Sem.run_ite]
  rw [if_neg (by omega)]
  simp only [addr_add, Sem.run_pure]
theorem indexAt_run {t e : TypeId} {len sz b off : Nat} {k : IntKind} {n : Int} (ht : arrayT P t = some (len, e)) (hs : sizeT P e = some sz) (h0 : 0 ≤ n) (h1 : n < (len : Int)) (w : World) :
    (Instr.indexAt t (.pointer (some ⟨b, off, none⟩)) (.int k n)).run P w = .ok (.pointer (some ⟨b, off + n.toNat * sz, none⟩)) w := by
  unfold Instr.indexAt
  simp only [asIntOf, Sem.run_bind, Sem.run_pure, Result.andThen, run_underlying (arrayT_spec ht), Instr.sureAddr, Sem.run_ite]
  rw [if_pos ⟨h0, h1⟩]
  simp only [sizeT_run hs, addr_add, Sem.run_bind, Result.andThen, Sem.run_pure]
theorem callOf_good (hE : V.E.length ≤ 1000000) (hO : V.O.length ≤ 1000000) (hΓ : allG J P V Γ) {c : Call} {fo : Operand} (hop : o.op = .call c) (hc : c.callee = .value fo) (hok : okArgs av c.args.toList = true)
    (h : callOf Γ hp nx (av fo) (argsSV av c.args.toList) hs = some (f, hs', os)) (ho : allO P V os) : Good J P V av hp nx o f := by
  unfold callOf at h
  split at h
  case h_3 => cases h
  · rename_i fid caps k ids hs'' hfo
    split at h
    case h_2 => cases h
    rename_i g hg
    split at h
    case h_2 => cases h
    rename_i fid' htg
    have hcb := cond_bind h
    clear h
    obtain ⟨hq, h⟩ := hcb
    have := Nat.eq_of_beq_eq_true hq
    subst this
    split at h
    case h_2 => cases h
    rename_i f' os' hce
    cases h
    have hgo : g.c.ValidJ J P fid (V.sub g.τ g.υ) := by
      have := allG_get hΓ hg
      unfold Gm.ok at this
      rw [htg] at this
      exact this
    refine callEff_good hE hO hce ho fun ρ ρc w ev hJw hev hargs hpre => ?_
    have hmem : ∀ x ∈ c.args.toList, x ∈ o.op.operands := fun x hx => by rw [hop]; simp only [Op.operands, Call.operands, hc]; exact Array.mem_append.2 (.inr (by simpa using hx))
    have hef : ev fo = .func (.func fid) #[] (dl V ρ caps).toArray := by
      rw [hev fo (by rw [hop]; simp [Op.operands, Call.operands, hc]) (by rw [hfo]; simp), hfo]; rfl
    obtain ⟨ha, hl⟩ := argsSV_spec (V := V) (ρ := ρ) (ev := ev) c.args.toList hok (fun x hx => hev x (hmem x hx))
    rw [run_callValue hop hc hef]
    have e : c.args.map ev ++ (dl V ρ caps).toArray = (dl (V.sub g.τ g.υ) ρc g.c.args).toArray := by
      rw [← hargs, dl_app hl, ← ha]
      apply Array.toList_inj.1
      simp
    rw [e]
    exact hgo ρc w hJw hpre
  · rename_i fid a caps k ids hs'' hfo
    split at h
    case h_2 => cases h
    rename_i g hg
    split at h
    case h_2 => cases h
    rename_i fid' htg
    have hcb := cond_bind h
    clear h
    obtain ⟨hq, h⟩ := hcb
    simp only [Bool.and_eq_true] at hq
    obtain ⟨hq, hal⟩ := hq
    have := Nat.eq_of_beq_eq_true hq
    subst this
    split at h
    case h_2 => cases h
    rename_i f' os' hce
    cases h
    have hgo : g.c.ValidJ J P fid (V.sub g.τ g.υ) := by
      have := allG_get hΓ hg
      unfold Gm.ok at this
      rw [htg] at this
      exact this
    refine callEff_good hE hO hce ho fun ρ ρc w ev hJw hev hargs hpre => ?_
    have hmem : ∀ x ∈ c.args.toList, x ∈ o.op.operands := fun x hx => by rw [hop]; simp only [Op.operands, Call.operands, hc]; exact Array.mem_append.2 (.inr (by simpa using hx))
    have hef : ev fo = .func (.func fid) (dl V ρ a).toArray (dl V ρ caps).toArray := by
      rw [hev fo (by rw [hop]; simp [Op.operands, Call.operands, hc]) (by rw [hfo]; simp), hfo]; rfl
    obtain ⟨ha, hl⟩ := argsSV_spec (V := V) (ρ := ρ) (ev := ev) c.args.toList hok (fun x hx => hev x (hmem x hx))
    rw [run_callBound hop hc hef]
    have e : (dl V ρ a).toArray ++ c.args.map ev ++ (dl V ρ caps).toArray = (dl (V.sub g.τ g.υ) ρc g.c.args).toArray := by
      rw [← hargs, dl_app hal, dl_app hl, ← ha]
      apply Array.toList_inj.1
      simp
    rw [e]
    exact hgo ρc w hJw hpre
theorem opEff2_good (hE : V.E.length ≤ 1000000) (hO : V.O.length ≤ 1000000) (hΓ : allG J P V Γ) (h : opEff2 Γ av hp nx o hs = some (f, hs', os)) (ho : allO P V os) : Good J P V av hp nx o f := by
  unfold opEff2 at h
  split at h
  case h_2 => cases h
  rename_i k ids hs''
  split at h
  case h_2 => cases h
  rename_i g hg
  split at h
  case h_2 => cases h
  rename_i t t' htg htag
  have hcb := cond_bind h
  clear h
  obtain ⟨hq, h⟩ := hcb
  simp only [Bool.and_eq_true] at hq
  have := natsB_eq hq.1
  subst this
  split at h
  case h_2 => cases h
  rename_i f' os' hce
  cases h
  have hgo : g.c.ValidOpJ J P t (V.sub g.τ g.υ) := by
    have := allG_get hΓ hg
    unfold Gm.ok at this
    rw [htg] at this
    exact this
  refine callEff_good hE hO hce ho fun ρ ρc w ev hJw hev hargs hpre => ?_
  obtain ⟨ha, hl⟩ := argsSV_spec (V := V) (ρ := ρ) (ev := ev) o.op.operands.toList hq.2 (fun x hx => hev x (by simpa using hx))
  exact hgo ρc w o ev hJw htag (ha.trans hargs) hpre
theorem optSV_spec {lo : Option Operand} {l : Option SV} (h : optSV av lo = some l) {ρ : Nat → Nat × Nat} {ev : Operand → Value} (hev : ∀ x, lo = some x → av x ≠ .any → ev x = den V ρ (av x)) : lo.map ev = l.map (den V ρ) := by
  cases lo with
  | none => cases h; rfl
  | some x =>
    obtain ⟨h1, h2⟩ := cond_bind h
    cases h2
    simp only [Option.map_some]
    rw [hev x rfl (okVal_spec h1).1]
theorem opEff1_good (hV : VOK V lens) (hE : V.E.length ≤ 1000000) (hO : V.O.length ≤ 1000000) (hΓ : allG J P V Γ) (h : opEff1 P Γ lens av hp nx o hs = some (f, hs', os)) (ho : allO P V os) : Good J P V av hp nx o f := by
  unfold opEff1 at h
  split at h
  -- move
  · rename_i x hop
    unfold mvEff at h
    split at h
    · rename_i d1 v hs1 d2 hd
      cases hb : Nat.beq d1 d2 with
      | false =>
        rw [hb] at h
        refine one_good h fun ρ w ev hev => ⟨ev x, by unfold execOp; simp only [hop]; rfl, hev x (by rw [hop]; simp [Op.operands])⟩
      | true =>
        rw [hb] at h
        obtain ⟨hq, h⟩ := cond_bind h
        cases h
        simp only [Bool.and_eq_true] at hq
        refine Good.pure fun ρ w ev hev => ⟨ev x, by unfold execOp; simp only [hop]; rfl, fun _ => ?_⟩
        rw [hev x (by rw [hop]; simp [Op.operands]) (okVal_spec hq.1).1]
        unfold den; rw [ho.1 ρ]
    · refine one_good h fun ρ w ev hev => ⟨ev x, by unfold execOp; simp only [hop]; rfl, hev x (by rw [hop]; simp [Op.operands])⟩
  · rename_i x hop
    refine one_good h fun ρ w ev hev => ⟨ev x, by unfold execOp; simp only [hop]; rfl, hev x (by rw [hop]; simp [Op.operands])⟩
  -- pick
  · rename_i c a b hop
    split at h
    case h_2 => cases h
    rename_i t hc
    refine one_good h fun ρ w ev hev => ⟨if t then ev a else ev b, ?_, ?_⟩
    · have : ev c = .bool t := by rw [hev c (by rw [hop]; simp [Op.operands]) (by rw [hc]; simp), hc]; rfl
      unfold execOp; simp only [hop, this, asBool]; cases t <;> rfl
    · cases t
      · exact hev b (by rw [hop]; simp [Op.operands])
      · exact hev a (by rw [hop]; simp [Op.operands])
  -- alloc
  · rename_i t hop
    split at h
    case h_2 => cases h
    rename_i l hz
    refine newBlk_good h fun ρ w ev hev => ?_
    obtain ⟨_, z, hzr, hzc⟩ := zeroT_spec (V := V) hz ρ w
    unfold execOp; simp only [hop]
    refine run_bindValue ?_
    rw [run_alloc hzr, hzc]
  -- box
  · rename_i t x hop
    split at h
    case h_2 => cases h
    rename_i l hl
    refine newBlk_good h fun ρ w ev hev => ?_
    have hne : av x ≠ .any := by intro hc; rw [hc] at hl; simp [cellsOf, SV.cell] at hl
    have hx := hev x (by rw [hop]; simp [Op.operands]) hne
    unfold execOp; simp only [hop]
    refine run_bindValue ?_
    rw [run_box, hx, (cellsOf_spec hV hl ρ).1]
  -- build
  · rename_i t parts hop
    split at h
    case h_2 => cases h
    rename_i v hv
    refine one_good h fun ρ w ev hev => ⟨den V ρ v, ?_, fun _ => rfl⟩
    unfold execOp; simp only [hop]
    refine run_bindValue (buildS_run hV hv ρ w ev fun x hx => ?_)
    refine hev x.2 (by rw [hop]; simp only [Op.operands]; simpa using ⟨x.1, (by simpa using hx : x ∈ parts)⟩) ?_
    -- a part that is whatever is not laid
    intro hc
    have : ∀ (place : Nat → Option (Nat × Nat)) (ps : List (Nat × Operand)) (l l' : SV), x ∈ ps → fillS lens place l (ps.map fun x => (x.1, av x.2)) = some l' → False := by
      intro place ps
      induction ps with
      | nil => intro l l' hm; cases hm
      | cons p ps ih =>
        intro l l' hm hf
        simp only [List.map_cons] at hf
        unfold fillS at hf
        split at hf
        · rename_i off size vs hp' hvs
          obtain ⟨_, hf⟩ := cond_bind hf
          rcases List.mem_cons.1 hm with rfl | hm
          · rw [hc] at hvs; simp [cellsOf, SV.cell] at hvs
          · exact ih _ _ hm hf
        · cases hf
    unfold buildS at hv
    split at hv
    · cases hv
    split at hv
    · split at hv
      · obtain ⟨r, hq, _⟩ := Option.map_eq_some_iff.1 hv; exact this _ _ _ _ hx hq
      · cases hv
    · split at hv
      · split at hv
        · obtain ⟨r, hq, _⟩ := Option.map_eq_some_iff.1 hv; exact this _ _ _ _ hx hq
        · cases hv
      · cases hv
  -- buildSlice
  · rename_i t n parts hop
    unfold buildSlS at h
    split at h
    case h_2 => cases h
    rename_i e he
    split at h
    case h_2 => cases h
    rename_i z sz hz hsz
    split at h
    case h_2 => cases h
    rename_i l hf
    obtain ⟨hq, h⟩ := cond_bind h
    cases h
    simp only [Bool.and_eq_true, blt_iff, Nat.ble_eq] at hq
    obtain ⟨hpos, hle, hzn, hbd⟩ := hq
    have hzn := Nat.eq_of_beq_eq_true hzn
    refine ⟨eff_newV (val := fun w => .slice (some ⟨w.heap.size, 0, none⟩) n n) (fun ρ w ev hev => ?_) (fun ρ w hw => ?_) hbd, fun id bk hb => by simp [lkH] at hb, fun id hu hn => ?_⟩
    · have hall : ∀ x ∈ parts.toList, ev x.2 = den V ρ (av x.2) := fun x hx => by
        refine hev x.2 (by rw [hop]; simp only [Op.operands]; simpa using ⟨x.1, (by simpa using hx : x ∈ parts)⟩) ?_
        intro hc
        have : ∀ (place : Nat → Option (Nat × Nat)) (ps : List (Nat × Operand)) (l l' : SV), x ∈ ps → fillS lens place l (ps.map fun x => (x.1, av x.2)) = some l' → False := by
          intro place ps
          induction ps with
          | nil => intro l l' hm; cases hm
          | cons p ps ih =>
            intro l l' hm hf
            simp only [List.map_cons] at hf
            unfold fillS at hf
            split at hf
            · rename_i off size vs hp' hvs
              obtain ⟨_, hf⟩ := cond_bind hf
              rcases List.mem_cons.1 hm with rfl | hm
              · rw [hc] at hvs; simp [cellsOf, SV.cell] at hvs
              · exact ih _ _ hm hf
            · cases hf
        exact this _ _ _ _ hx hf
      have hp : (parts.toList.map fun x => (x.1, ev x.2)) = (parts.toList.map fun x => (x.1, av x.2)).map fun x => (x.1, den V ρ x.2) := by
        rw [List.map_map]
        exact List.map_congr_left fun x hx => by show (x.1, ev x.2) = (x.1, den V ρ (av x.2)); rw [hall x hx]
      obtain ⟨hzl, z', hzr, hzc⟩ := zeroT_spec (V := V) hz ρ w
      obtain ⟨hr1, hr2⟩ := repL_spec (V := V) (ρ := ρ) hzl n
      obtain ⟨hfl, _⟩ := fillS_spec hV (fun i => some (i * sz, sz)) ρ _ (repL z n) l hr2 hf
      have hlz : (dl V ρ z).length = sz := by rw [dl_len hzl]; exact hzn
      have hzeros : (Array.range (n * sz)).map (fun i => z'.cells[i % z'.cells.size]!) = (dl V ρ (repL z n)).toArray := by
        rw [hr1, hlz, hzc]
        apply Array.toList_inj.1
        unfold spare
        rw [Array.toList_map, Array.toList_range]
        simp only [List.toList_toArray, List.size_toArray]
        refine List.map_congr_left fun i hi => ?_
        have h0 : 0 < (dl V ρ z).length := by rw [hlz]; exact Nat.pos_of_ne_zero fun e => by rw [e] at hpos; simp at hpos
        have hl : i % (dl V ρ z).length < (dl V ρ z).toArray.size := by simpa using Nat.mod_lt _ h0
        rw [getElem!_pos (dl V ρ z).toArray (i % (dl V ρ z).length) hl, List.getD_eq_getElem?_getD, List.getElem?_eq_getElem (by simpa using hl)]; rfl
      unfold execOp; simp only [hop]
      refine run_bindValue ?_
      rw [← hzeros, ← hp] at hfl
      have n1 : ¬ n * sz > 16777216 := by omega
      have n2 : ¬ n * sz = 0 := by omega
      simp [Instr.buildSlice, run_underlying (sliceT_spec he), sizeT_run hsz, n1, n2, hzr, hfl, newRow]
      first | done | rfl
    · show Value.slice _ n n = Value.slice (some ⟨(ρ nx).1, _, none⟩) _ _
      rw [hw]; rfl
    · cases hb : lkH [(nx, Bk.cs e l)] id with
      | none => exact absurd hb hu
      | some b => obtain ⟨rfl, _⟩ := lkH_single hb; exact absurd ⟨Nat.le_refl _, by simp only; omega⟩ hn
  -- load, store
  · rename_i t x hop; exact ldEff_good hop h ho
  · rename_i t x y hop; exact stEff_good hV hop h ho
  -- nilCheck
  · rename_i x hop
    split at h
    · rename_i id bs off hx
      refine one_good h fun ρ w ev hev => ⟨ev x, ?_, fun _ => ?_⟩
      · have : ev x = den V ρ (.ptr id bs off) := by rw [hev x (by rw [hop]; simp [Op.operands]) (by rw [hx]; simp), hx]
        unfold execOp; simp only [hop, this]; rfl
      · rw [hev x (by rw [hop]; simp [Op.operands]) (by rw [hx]; simp), hx]
    · rename_i fi c hx
      refine one_good h fun ρ w ev hev => ⟨ev x, ?_, fun _ => ?_⟩
      · have : ev x = den V ρ (.fn fi c) := by rw [hev x (by rw [hop]; simp [Op.operands]) (by rw [hx]; simp), hx]
        unfold execOp; simp only [hop, this]; rfl
      · rw [hev x (by rw [hop]; simp [Op.operands]) (by rw [hx]; simp), hx]
    · rename_i fi fa c hx
      refine one_good h fun ρ w ev hev => ⟨ev x, ?_, fun _ => ?_⟩
      · have : ev x = den V ρ (.bf fi fa c) := by rw [hev x (by rw [hop]; simp [Op.operands]) (by rw [hx]; simp), hx]
        unfold execOp; simp only [hop, this]; rfl
      · rw [hev x (by rw [hop]; simp [Op.operands]) (by rw [hx]; simp), hx]
    · cases h
  -- binOp
  · rename_i op t x y yt hop
    obtain ⟨hq, h⟩ := cond_bind h
    simp only [Bool.and_eq_true] at hq
    have hxy : ∀ {ρ : Nat → Nat × Nat} {ev : Operand → Value}, (∀ x ∈ o.op.operands, av x ≠ .any → ev x = den V ρ (av x)) → ev x = den V ρ (av x) ∧ ev y = den V ρ (av y) := fun hev =>
      ⟨okVal_ev hq.1 (by rw [hop]; simp [Op.operands]) hev, okVal_ev hq.2 (by rw [hop]; simp [Op.operands]) hev⟩
    split at h
    · rename_i v hv
      refine one_good h fun ρ w ev hev => ⟨den V ρ v, ?_, fun _ => rfl⟩
      unfold execOp; simp only [hop, (hxy hev).1, (hxy hev).2]
      exact run_bindValue (autoBin_spec hv ρ w x y)
    · refine pureV_good h ho fun v hv ρ w ev hev => ?_
      unfold execOp; simp only [hop, (hxy hev).1, (hxy hev).2]
      exact run_bindValue (hv ρ w x y)
  -- unOp
  · rename_i op t x hop
    split at h
    · rename_i b hx
      refine one_good h fun ρ w ev hev => ⟨.bool (!b), ?_, fun _ => rfl⟩
      have : ev x = .bool b := by rw [hev x (by rw [hop]; simp [Op.operands]) (by rw [hx]; simp), hx]; rfl
      unfold execOp; simp only [hop, this]; rfl
    · obtain ⟨hq, h⟩ := cond_bind h
      refine pureV_good h ho fun v hv ρ w ev hev => ?_
      unfold execOp; simp only [hop, okVal_ev hq (by rw [hop]; simp [Op.operands]) hev]
      exact run_bindValue (hv ρ w)
  -- convert
  · rename_i s d x hop
    split at h
    · rename_i k n k' u hx hk hs'
      refine one_good h fun ρ w ev hev => ⟨.int k' (k'.wrap n), ?_, fun _ => rfl⟩
      have : ev x = .int k n := by rw [hev x (by rw [hop]; simp [Op.operands]) (by rw [hx]; simp), hx]; rfl
      unfold execOp; simp only [hop, this]
      refine run_bindValue ?_
      unfold convert
      simp only [Sem.run_bind, run_underlying hs', run_underlying (intT_spec hk), Result.andThen]
      cases u <;> rfl
    · obtain ⟨hq, h⟩ := cond_bind h
      refine pureV_good h ho fun v hv ρ w ev hev => ?_
      unfold execOp; simp only [hop, okVal_ev hq (by rw [hop]; simp [Op.operands]) hev]
      exact run_bindValue (hv ρ w)
  -- makeFunc
  · rename_i fn first caps hop
    split at h
    case h_2 => cases h
    rename_i fid
    cases hcs : (decide (first = #[]) && okArgs av caps.toList) with
    | false =>
      rw [hcs] at h
      simp only [cond_false] at h
      obtain ⟨hq, h⟩ := cond_bind h
      simp only [Bool.and_eq_true] at hq
      refine one_good h fun ρ w ev hev => ⟨.func (.func fid) (first.map ev) (caps.map ev), ?_, fun _ => ?_⟩
      · unfold execOp; simp [hop, Instr.makeFunc]
      · obtain ⟨ha, _⟩ := argsSV_spec (V := V) (ρ := ρ) (ev := ev) caps.toList hq.2 (fun x hx => hev x (by rw [hop]; simp only [Op.operands]; exact Array.mem_append.2 (.inr (by simpa using hx))))
        obtain ⟨hb, _⟩ := argsSV_spec (V := V) (ρ := ρ) (ev := ev) first.toList hq.1 (fun x hx => hev x (by rw [hop]; simp only [Op.operands]; exact Array.mem_append.2 (.inl (by simpa using hx))))
        show _ = Value.func (.func fid) (dl V ρ (argsSV av first.toList)).toArray (dl V ρ (argsSV av caps.toList)).toArray
        rw [← ha, ← hb, ← Array.toList_map, ← Array.toList_map, Array.toArray_toList, Array.toArray_toList]
    | true =>
    rw [hcs] at h
    simp only [cond_true] at h
    have hq := hcs
    simp only [Bool.and_eq_true, decide_eq_true_eq] at hq
    refine one_good h fun ρ w ev hev => ⟨.func (.func fid) #[] (caps.map ev), ?_, fun _ => ?_⟩
    · unfold execOp; simp [hop, hq.1, Instr.makeFunc]
    · obtain ⟨ha, _⟩ := argsSV_spec (V := V) (ρ := ρ) (ev := ev) caps.toList hq.2 (fun x hx => hev x (by rw [hop]; simp only [Op.operands]; exact Array.mem_append.2 (.inr (by simpa using hx))))
      show _ = Value.func (.func fid) #[] (dl V ρ (argsSV av caps.toList)).toArray
      rw [← ha, ← Array.toList_map, Array.toArray_toList]
  -- fieldAddr
  · rename_i s x i hop
    split at h
    case h_2 => cases h
    rename_i id bs off fs hx hfs
    split at h
    case h_2 => cases h
    rename_i fl hi
    split at h
    case h_2 => cases h
    rename_i n hn
    obtain ⟨hq, h⟩ := cond_bind h
    refine one_good h fun ρ w ev hev => ⟨.pointer (some ⟨(ρ id).1, natV (den V ρ bs) + off + fl.offset, none⟩), ?_, fun _ => ?_⟩
    · have : ev x = .pointer (some ⟨(ρ id).1, natV (den V ρ bs) + off, none⟩) := by rw [hev x (by rw [hop]; simp [Op.operands]) (by rw [hx]; simp), hx]; rfl
      unfold execOp; simp only [hop, this]
      exact run_bindValue (fieldAt_run hfs hi hn (blt_iff.1 hq) w)
    · simp [den, dl, Nat.add_assoc]
  -- field
  · rename_i t x i hop
    split at h
    case h_2 => cases h
    rename_i l fs hx hfs
    split at h
    case h_2 => cases h
    rename_i fl hi
    split at h
    case h_2 => cases h
    rename_i v hv
    refine one_good h fun ρ w ev hev => ⟨den V ρ v, ?_, fun _ => rfl⟩
    have : ev x = .agg (dl V ρ l).toArray := by rw [hev x (by rw [hop]; simp [Op.operands]) (by rw [hx]; simp), hx]; rfl
    unfold execOp; simp only [hop, this]
    refine run_bindValue ?_
    unfold Instr.field
    simp only [Sem.run_bind, run_underlying (fieldsT_spec hfs), Result.andThen, List.getElem?_toArray, hi, asAgg, Sem.run_pure]
    exact partS_run hv ρ w
  -- indexAddr
  · rename_i t x i hop
    split at h
    · rename_i id bs off k n len e hx hi ht
      split at h
      case h_2 => cases h
      rename_i sz hsz
      obtain ⟨hq, h⟩ := cond_bind h
      simp only [Bool.and_eq_true, decide_eq_true_eq] at hq
      refine one_good h fun ρ w ev hev => ⟨.pointer (some ⟨(ρ id).1, natV (den V ρ bs) + off + n.toNat * sz, none⟩), ?_, fun _ => ?_⟩
      · have h1 : ev x = .pointer (some ⟨(ρ id).1, natV (den V ρ bs) + off, none⟩) := by rw [hev x (by rw [hop]; simp [Op.operands]) (by rw [hx]; simp), hx]; rfl
        have h2 : ev i = .int k n := by rw [hev i (by rw [hop]; simp [Op.operands]) (by rw [hi]; simp), hi]; rfl
        unfold execOp; simp only [hop, h1, h2]
        exact run_bindValue (indexAt_run ht hsz hq.1 hq.2 w)
      · simp [den, dl, Nat.add_assoc]
    · obtain ⟨hq, h⟩ := cond_bind h
      simp only [Bool.and_eq_true] at hq
      refine pureV_good h ho fun v hv ρ w ev hev => ?_
      unfold execOp; simp only [hop, okVal_ev hq.1 (by rw [hop]; simp [Op.operands]) hev, okVal_ev hq.2 (by rw [hop]; simp [Op.operands]) hev]
      exact run_bindValue (hv ρ w)
  -- index
  · rename_i t x i hop
    split at h
    · rename_i l k n len e hx hi ht
      split at h
      case h_2 => cases h
      rename_i sz hsz
      obtain ⟨hq, h⟩ := cond_bind h
      simp only [Bool.and_eq_true, decide_eq_true_eq] at hq
      split at h
      case h_2 => cases h
      rename_i v hv
      refine one_good h fun ρ w ev hev => ⟨den V ρ v, ?_, fun _ => rfl⟩
      have h1 : ev x = .agg (dl V ρ l).toArray := by rw [hev x (by rw [hop]; simp [Op.operands]) (by rw [hx]; simp), hx]; rfl
      have h2 : ev i = .int k n := by rw [hev i (by rw [hop]; simp [Op.operands]) (by rw [hi]; simp), hi]; rfl
      unfold execOp; simp only [hop, h1, h2]
      refine run_bindValue ?_
      unfold Instr.index
      simp only [asIntOf, Sem.run_bind, Sem.run_pure, Result.andThen, run_underlying (arrayT_spec ht), Sem.run_ite]
      rw [if_pos hq]
      simp only [sizeT_run hsz, Sem.run_bind, Result.andThen]
      exact partS_run hv ρ w
    · obtain ⟨hq, h⟩ := cond_bind h
      simp only [Bool.and_eq_true] at hq
      refine pureV_good h ho fun v hv ρ w ev hev => ?_
      unfold execOp; simp only [hop, okVal_ev hq.1 (by rw [hop]; simp [Op.operands]) hev, okVal_ev hq.2 (by rw [hop]; simp [Op.operands]) hev]
      exact run_bindValue (hv ρ w)
  -- slice
  · rename_i t x lo hi mx hop
    split at h
    case h_2 => cases h
    rename_i l h' m hl hh hm
    obtain ⟨hq, h⟩ := cond_bind h
    refine pureV_good h ho fun v hv ρ w ev hev => ?_
    unfold execOp; simp only [hop, okVal_ev hq (by rw [hop]; simp [Op.operands]) hev]
    rw [optSV_spec hl (fun x hx => hev x (by rw [hop]; simp [Op.operands, hx])), optSV_spec hh (fun x hx => hev x (by rw [hop]; simp [Op.operands, hx])), optSV_spec hm (fun x hx => hev x (by rw [hop]; simp [Op.operands, hx]))]
    exact run_bindValue (hv ρ w)
  -- extract
  · rename_i x i hop
    split at h
    case h_2 => cases h
    rename_i l hx
    obtain ⟨hq, h⟩ := cond_bind h
    simp only [Bool.and_eq_true, blt_iff] at hq
    refine one_good h fun ρ w ev hev => ⟨den V ρ (SV.nthL i l), ?_, fun _ => rfl⟩
    have h1 : ev x = .tuple (dl V ρ l).toArray := by rw [hev x (by rw [hop]; simp [Op.operands]) (by rw [hx]; simp), hx]; rfl
    unfold execOp; simp only [hop, h1]
    refine run_bindValue ?_
    unfold Instr.extract
    simp only [List.getElem?_toArray, (dl_nth (V := V) (ρ := ρ) hq.2 hq.1).1, Sem.run_pure]
  -- call
  · rename_i c hop
    split at h
    · rename_i fo hc
      obtain ⟨hq, h⟩ := cond_bind h
      exact callOf_good hE hO hΓ hop hc hq h ho
    · rename_i b hc
      obtain ⟨hq, h⟩ := cond_bind h
      refine pureV_good h ho fun v hv ρ w ev hev => ?_
      have hmem : ∀ x ∈ c.args.toList, x ∈ o.op.operands := fun x hx => by rw [hop]; simp only [Op.operands, Call.operands, hc]; exact Array.mem_append.2 (.inr (by simpa using hx))
      obtain ⟨ha, hl⟩ := argsSV_spec (V := V) (ρ := ρ) (ev := ev) c.args.toList hq (fun x hx => hev x (hmem x hx))
      have := hv ρ w
      unfold execOp; simp only [hop]
      simp only [resolve, hc, Sem.run_bind, Sem.run_pure, Result.andThen, invoke]
      have e : c.args.map ev = (dl V ρ (argsSV av c.args.toList)).toArray := by rw [← ha, ← Array.toList_map, Array.toArray_toList]
      rw [e]; exact this
    · cases h
  · cases h
theorem opEff_good (hV : VOK V lens) (hE : V.E.length ≤ 1000000) (hO : V.O.length ≤ 1000000) (hΓ : allG J P V Γ) (h : opEff P Γ lens av hp nx o hs = some (f, hs', os)) (ho : allO P V os) : Good J P V av hp nx o f := by
  unfold opEff at h
  split at h
  · rename_i r hr; cases h; exact opEff2_good hE hO hΓ hr ho
  · exact opEff1_good hV hE hO hΓ h ho
end
end RX
end Go.Proofs.Ytieencpejpeenaa
end
section
namespace Go.Proofs.Ytieencpejpeenaa
open Go.RowKit
namespace RX
set_option linter.unnecessarySimpa false
set_option linter.unusedVariables false
set_option linter.unusedSimpArgs false
/-- What is known at a point of the code: slots, blocks, the next block's number. -/
structure St where
  sl : List (Nat × SV)
  hp : List (Nat × Bk)
  nx : Nat
def guardS (ops : Array Oper) (sl : List (Nat × SV)) (o : Oper) : Option Bool := match o.guard with
  | none => some true
  | some (g, w) => match (ops[g]?).bind (·.dst) with
    | some d => match lkS sl d with
      | .bo t => some (t == w)
      | .nil => some false
      | _ => none
    | none => none
def Eff.bd (f : Eff) (n : Nat) : Bool := f.v.bd n && f.up.all fun x => Nat.blt x.1 n && x.2.bd n
def dstB (N : Nat) : Option Nat → Bool
  | none => true
  | some d => Nat.blt d N
def putL (sl : List (Nat × SV)) : Option Nat → SV → List (Nat × SV)
  | none, _ => sl
  | some d, v => (d, v) :: sl
def noEff : Eff := ⟨.nil, [], [], 0⟩
abbrev R5 := Option (List (Option Nat × Eff) × List Nat × St × List Hint × List Obl)
/-- Does it leave alone what is read only? -/
def roB (ro : List Nat) (f : Eff) : Bool := f.up.all fun x => !ro.any (Nat.beq x.1)
def opStep (P : Program) (Γ : List Gm) (lens ro : List Nat) (N : Nat) (ops : Array Oper) (s : St) (o : Oper) (hs : List Hint) : R3 :=
  match guardS ops s.sl o with
  | none => none
  | some false => cond (dstB N o.dst) (some (noEff, hs, [])) none
  | some true => match opEff P Γ lens (avOf (lkS s.sl)) s.hp s.nx o hs with
    | some (f, hs', os) => cond (dstB N o.dst && (f.bd (s.nx + f.nw) && roB ro f)) (some (f, hs', os)) none
    | none => none
def St.ap (s : St) (d : Option Nat) (f : Eff) : St := ⟨putL s.sl d f.v, f.up ++ s.hp, s.nx + f.nw⟩
def runOps (P : Program) (Γ : List Gm) (lens ro : List Nat) (N : Nat) (ops : Array Oper) : List Oper → St → List Hint → R5
  | [], s, hs => some ([], [], s, hs, [])
  | o :: r, s, hs => match opStep P Γ lens ro N ops s o hs with
    | some (f, hs', os) => match runOps P Γ lens ro N ops r (s.ap o.dst f) hs' with
      | some (L, ns, s', hs'', os') => some ((o.dst, f) :: L, s.nx :: ns, s', hs'', os ++ os')
      | none => none
    | none => none

def allT : Nat → Bool := fun _ => true
theorem foldS_all {F : Nat → Bool} : ∀ (l : List (Option Nat × Eff)) (i : Nat) (σ : Nat → SV), (∀ k, k < l.length → F (i + k) = true) → foldS F i l σ = foldS allT 0 l σ := by
  intro l i σ h
  funext t
  have : ∀ (l : List (Option Nat × Eff)) (i j : Nat) (σ : Nat → SV), (∀ k, k < l.length → F (i + k) = true) → foldS F i l σ = foldS allT j l σ := by
    intro l
    induction l with
    | nil => intros; rfl
    | cons x l ih =>
      intro i j σ h
      obtain ⟨d, f⟩ := x
      show foldS F (i + 1) l _ = foldS allT (j + 1) l _
      rw [if_pos (by simpa using h 0 (by simp)), if_pos (show allT j = true from rfl)]
      exact ih (i + 1) (j + 1) _ (fun k hk => by have := h (k + 1) (by simpa using hk); rwa [show i + (k + 1) = i + 1 + k by omega] at this)
  rw [this l i 0 σ h]
theorem foldH_all {F : Nat → Bool} : ∀ (l : List (Option Nat × Eff)) (i : Nat) (σ : Nat → Option Bk), (∀ k, k < l.length → F (i + k) = true) → foldH F i l σ = foldH allT 0 l σ := by
  have : ∀ (l : List (Option Nat × Eff)) (i j : Nat) (σ : Nat → Option Bk), (∀ k, k < l.length → F (i + k) = true) → foldH F i l σ = foldH allT j l σ := by
    intro l
    induction l with
    | nil => intros; rfl
    | cons x l ih =>
      intro i j σ h
      obtain ⟨d, f⟩ := x
      show foldH F (i + 1) l _ = foldH allT (j + 1) l _
      rw [if_pos (by simpa using h 0 (by simp)), if_pos (show allT j = true from rfl)]
      exact ih (i + 1) (j + 1) _ (fun k hk => by have := h (k + 1) (by simpa using hk); rwa [show i + (k + 1) = i + 1 + k by omega] at this)
  intro l i σ h
  rw [this l i 0 σ h]
theorem foldS_shift {F : Nat → Bool} : ∀ (l : List (Option Nat × Eff)) (i : Nat) (σ : Nat → SV), (∀ k, k < l.length → F (i + k) = false) → foldS F i l σ = σ := by
  intro l i σ h
  funext t
  exact foldS_none l i σ (fun k d f hk hF => by rw [h k (List.getElem?_eq_some_iff.1 hk).1] at hF; cases hF)
theorem foldH_shift {F : Nat → Bool} : ∀ (l : List (Option Nat × Eff)) (i : Nat) (σ : Nat → Option Bk), (∀ k, k < l.length → F (i + k) = false) → foldH F i l σ = σ := by
  intro l i σ h
  funext t
  exact foldH_none l i σ (fun k d f hk hF => by rw [h k (List.getElem?_eq_some_iff.1 hk).1] at hF; cases hF)
theorem foldS_app {F : Nat → Bool} : ∀ (a b : List (Option Nat × Eff)) (i : Nat) (σ : Nat → SV), foldS F i (a ++ b) σ = foldS F (i + a.length) b (foldS F i a σ)
  | [], b, i, σ => rfl
  | (d, f) :: a, b, i, σ => by
    show foldS F (i + 1) (a ++ b) _ = _
    rw [foldS_app a b (i + 1)]
    show foldS F (i + 1 + a.length) b _ = foldS F (i + (a.length + 1)) b _
    rw [show i + 1 + a.length = i + (a.length + 1) by omega]; rfl
theorem foldH_app {F : Nat → Bool} : ∀ (a b : List (Option Nat × Eff)) (i : Nat) (σ : Nat → Option Bk), foldH F i (a ++ b) σ = foldH F (i + a.length) b (foldH F i a σ)
  | [], b, i, σ => rfl
  | (d, f) :: a, b, i, σ => by
    show foldH F (i + 1) (a ++ b) _ = _
    rw [foldH_app a b (i + 1)]
    show foldH F (i + 1 + a.length) b _ = foldH F (i + (a.length + 1)) b _
    rw [show i + 1 + a.length = i + (a.length + 1) by omega]; rfl
theorem foldS_take (L : List (Option Nat × Eff)) (i : Nat) (hi : i ≤ L.length) (σ : Nat → SV) : foldS (fun j => Nat.blt j i) 0 L σ = foldS allT 0 (L.take i) σ := by
  conv => lhs; rw [← List.take_append_drop i L]
  rw [foldS_app, foldS_shift (L.drop i), foldS_all]
  · intro k hk; rw [Nat.zero_add]; exact blt_iff.2 (by rw [List.length_take] at hk; omega)
  · intro k hk
    cases hq : Nat.blt (0 + (L.take i).length + k) i with
    | false => rfl
    | true => have := blt_iff.1 hq; rw [List.length_take] at this; omega
theorem foldH_take (L : List (Option Nat × Eff)) (i : Nat) (hi : i ≤ L.length) (σ : Nat → Option Bk) : foldH (fun j => Nat.blt j i) 0 L σ = foldH allT 0 (L.take i) σ := by
  conv => lhs; rw [← List.take_append_drop i L]
  rw [foldH_app, foldH_shift (L.drop i), foldH_all]
  · intro k hk; rw [Nat.zero_add]; exact blt_iff.2 (by rw [List.length_take] at hk; omega)
  · intro k hk
    cases hq : Nat.blt (0 + (L.take i).length + k) i with
    | false => rfl
    | true => have := blt_iff.1 hq; rw [List.length_take] at this; omega
theorem lkS_putL (sl : List (Nat × SV)) (d : Option Nat) (v : SV) : lkS (putL sl d v) = putS (lkS sl) d v := by
  funext t
  cases d with
  | none => simp [putL, putS]
  | some d =>
    simp only [putL, lkS, putS]
    cases hq : Nat.beq d t with
    | true => rw [Nat.eq_of_beq_eq_true hq, if_pos rfl]; rfl
    | false => rw [if_neg (fun e => by have e := Option.some.inj e; rw [e, Nat.beq_refl] at hq; cases hq)]; rfl
theorem lkH_append : ∀ (a b : List (Nat × Bk)) (t : Nat), lkH (a ++ b) t = match lkH a t with | some x => some x | none => lkH b t
  | [], _, _ => rfl
  | (i, v) :: a, b, t => by
    simp only [List.cons_append, lkH]
    cases hq : Nat.beq i t with
    | true => rfl
    | false => simp only [cond_false]; exact lkH_append a b t
theorem lkH_putH (hp up : List (Nat × Bk)) : lkH (up ++ hp) = putH (lkH hp) up := by
  funext t; rw [lkH_append]; rfl

/-- What an operation of a region was reckoned from. -/
structure Fact (P : Program) (V : Env) (Γ : List Gm) (lens ro : List Nat) (N : Nat) (ops : Array Oper) (σs : Nat → SV) (σh : Nat → Option Bk) (pre : List (Option Nat × Eff)) (o : Oper) (f : Eff) (n : Nat) : Prop where
  ok : ∃ (sk : St), sk.nx = n ∧ lkS sk.sl = foldS allT 0 pre σs ∧ lkH sk.hp = foldH allT 0 pre σh ∧
    ((guardS ops sk.sl o = some true ∧ ∃ h h' os, opEff P Γ lens (avOf (lkS sk.sl)) sk.hp n o h = some (f, h', os) ∧ allO P V os) ∨ (guardS ops sk.sl o = some false ∧ f = noEff))
  bd : f.bd (n + f.nw) = true
  dN : dstB N o.dst = true
  ro : roB ro f = true
theorem noEff_bd (n : Nat) : noEff.bd n = true := by simp [noEff, Eff.bd, SV.bd]
theorem opStep_fact {P : Program} {V : Env} {Γ : List Gm} {lens ro : List Nat} {N : Nat} {ops : Array Oper} {σs : Nat → SV} {σh : Nat → Option Bk} {pre : List (Option Nat × Eff)} {s : St} {o : Oper} {hs hs' : List Hint} {f : Eff} {os : List Obl}
    (h : opStep P Γ lens ro N ops s o hs = some (f, hs', os)) (ho : allO P V os) (h1 : lkS s.sl = foldS allT 0 pre σs) (h2 : lkH s.hp = foldH allT 0 pre σh) : Fact P V Γ lens ro N ops σs σh pre o f s.nx := by
  unfold opStep at h
  split at h
  · cases h
  · rename_i hg
    obtain ⟨hq, he⟩ := cond_bind h
    cases he
    exact ⟨⟨s, rfl, h1, h2, .inr ⟨hg, rfl⟩⟩, noEff_bd _, hq, rfl⟩
  · rename_i hg
    split at h
    · rename_i f' h' os' he
      obtain ⟨hq, hh⟩ := cond_bind h
      cases hh
      simp only [Bool.and_eq_true] at hq
      exact ⟨⟨s, rfl, h1, h2, .inl ⟨hg, _, _, _, he, ho⟩⟩, hq.2.1, hq.1, hq.2.2⟩
    · cases h
theorem runOps_spec {P : Program} {V : Env} {Γ : List Gm} {lens ro : List Nat} {N : Nat} {ops : Array Oper} {σs : Nat → SV} {σh : Nat → Option Bk} :
    ∀ (l : List Oper) (pre : List (Option Nat × Eff)) (s s' : St) (hs hs' : List Hint) (L : List (Option Nat × Eff)) (ns : List Nat) (os : List Obl), runOps P Γ lens ro N ops l s hs = some (L, ns, s', hs', os) → allO P V os →
      lkS s.sl = foldS allT 0 pre σs → lkH s.hp = foldH allT 0 pre σh →
      L.length = l.length ∧ ns.length = l.length ∧ (∀ (k : Nat) (o : Oper), l[k]? = some o → ∃ f n, L[k]? = some (o.dst, f) ∧ ns[k]? = some n ∧ s.nx ≤ n ∧ n + f.nw ≤ s'.nx ∧ Fact P V Γ lens ro N ops σs σh (pre ++ L.take k) o f n) ∧
      (∀ (j k n m : Nat) (d : Option Nat) (f : Eff), j < k → ns[j]? = some n → L[j]? = some (d, f) → ns[k]? = some m → n + f.nw ≤ m) ∧ s.nx ≤ s'.nx ∧ lkS s'.sl = foldS allT 0 (pre ++ L) σs ∧ lkH s'.hp = foldH allT 0 (pre ++ L) σh
  | [], pre, s, s', hs, hs', L, ns, os, h, _, h1, h2 => by
    cases h
    exact ⟨rfl, rfl, fun k o hk => by simp at hk, fun j k n m d f _ hj => by simp at hj, Nat.le_refl _, by simpa using h1, by simpa using h2⟩
  | o :: r, pre, s, s', hs, hs', L, ns, os, h, ho, h1, h2 => by
    unfold runOps at h
    split at h
    case h_2 => cases h
    rename_i f hs1 os1 hst
    split at h
    case h_2 => cases h
    rename_i L' ns' s2 hs2 os2 hrest
    cases h
    rw [allO_app] at ho
    have hf := opStep_fact (σs := σs) (σh := σh) hst ho.1 h1 h2
    have e1 : lkS (s.ap o.dst f).sl = foldS allT 0 (pre ++ [(o.dst, f)]) σs := by
      rw [foldS_app, ← h1]; exact lkS_putL _ _ _
    have e2 : lkH (s.ap o.dst f).hp = foldH allT 0 (pre ++ [(o.dst, f)]) σh := by
      rw [foldH_app, ← h2]; exact lkH_putH _ _
    obtain ⟨i1, i2, i3, i4, i5, i6, i7⟩ := runOps_spec r (pre ++ [(o.dst, f)]) _ _ _ _ _ _ _ hrest ho.2 e1 e2
    have hnx : (s.ap o.dst f).nx = s.nx + f.nw := rfl
    refine ⟨by simp [i1], by simp [i2], ?_, ?_, by omega, ?_, ?_⟩
    · intro k o' hk
      cases k with
      | zero =>
        simp at hk; subst hk
        exact ⟨f, s.nx, rfl, rfl, Nat.le_refl _, by omega, by simpa using hf⟩
      | succ k =>
        obtain ⟨f', n', a, b, c, d, e⟩ := i3 k o' (by simpa using hk)
        exact ⟨f', n', by simpa using a, by simpa using b, by omega, d, by simpa using e⟩
    · intro j k n m d f' hjk hj hL hk
      cases k with
      | zero => omega
      | succ k =>
        cases j with
        | zero =>
          simp at hj hL hk
          obtain ⟨_, rfl⟩ := hL
          subst hj
          have hkl : k < r.length := by rw [← i2]; exact (List.getElem?_eq_some_iff.1 hk).1
          obtain ⟨f'', n'', a, b, c, _, _⟩ := i3 k _ (List.getElem?_eq_getElem hkl)
          rw [hk] at b; cases b
          omega
        | succ j => exact i4 j k n m d f' (by omega) (by simpa using hj) (by simpa using hL) (by simpa using hk)
    · rw [i6]; simp
    · rw [i7]; simp
end RX
end Go.Proofs.Ytieencpejpeenaa
end
section
namespace Go.Proofs.Ytieencpejpeenaa
open Go.RowKit
namespace RX
set_option linter.unnecessarySimpa false
set_option linter.unusedVariables false
set_option linter.unusedSimpArgs false
/-- Who must stand ahead of whom: bits. -/
def edgeMask (ms : List Nat) : List Edge → Nat
  | [] => 0
  | e :: r => cond (Region.binds .any e) (2 ^ e.on ||| ms.getD e.on 0) 0 ||| edgeMask ms r
def mkMasks : List Oper → List Nat → List Nat
  | [], acc => acc
  | o :: r, acc => mkMasks r (acc ++ [edgeMask acc o.after.toList])
def masksB (ms : List Nat) : Nat → List Oper → Bool
  | _, [] => true
  | i, o :: r => Nat.beq (ms.getD i 0) (edgeMask ms o.after.toList) && ((o.after.toList.all fun e => !Region.binds .any e || Nat.blt e.on i) && masksB ms (i + 1) r)
def anc (ms : List Nat) (i j : Nat) : Bool := (ms.getD i 0).testBit j
theorem edgeMask_bit {ms : List Nat} {j : Nat} : ∀ {es : List Edge}, (edgeMask ms es).testBit j = true → ∃ e ∈ es, Region.binds .any e = true ∧ (e.on = j ∨ anc ms e.on j = true)
  | [], h => by simp [edgeMask] at h
  | e :: r, h => by
    simp only [edgeMask, Nat.testBit_or, Bool.or_eq_true] at h
    rcases h with h | h
    · cases hb : Region.binds .any e with
      | false => rw [hb] at h; simp at h
      | true =>
        rw [hb] at h
        simp only [cond_true, Nat.testBit_or, Bool.or_eq_true] at h
        refine ⟨e, List.mem_cons_self, hb, ?_⟩
        rcases h with h | h
        · left; rw [Nat.testBit_two_pow] at h; simpa using h
        · right; exact h
    · obtain ⟨e', hm, h1⟩ := edgeMask_bit h; exact ⟨e', List.mem_cons_of_mem _ hm, h1⟩
theorem masksB_spec {ms : List Nat} : ∀ {l : List Oper} {i : Nat}, masksB ms i l = true → ∀ (k : Nat) (o : Oper), l[k]? = some o → ms.getD (i + k) 0 = edgeMask ms o.after.toList ∧ ∀ e ∈ o.after, Region.binds .any e = true → e.on < i + k
  | [], _, _, k, o, hk => by simp at hk
  | o :: r, i, h, k, o', hk => by
    simp only [masksB, Bool.and_eq_true, List.all_eq_true, Bool.or_eq_true, Bool.not_eq_true'] at h
    obtain ⟨h1, h2, h3⟩ := h
    cases k with
    | zero =>
      simp at hk; subst hk
      refine ⟨by simpa using Nat.eq_of_beq_eq_true h1, fun e he hb => ?_⟩
      rcases h2 e (by simpa using he) with h | h
      · rw [hb] at h; cases h
      · simpa using blt_iff.1 h
    | succ k =>
      have := masksB_spec h3 k o' (by simpa using hk)
      rwa [show i + 1 + k = i + (k + 1) by omega] at this
def memK (i : Nat) (l : List (Nat × Bk)) : Bool := l.any fun x => Nat.beq x.1 i
theorem memK_of {i : Nat} {l : List (Nat × Bk)} (h : lkH l i ≠ none) : memK i l = true := by
  cases hq : lkH l i with
  | none => exact absurd hq h
  | some b => exact List.any_eq_true.2 ⟨(i, b), lkH_mem hq, Nat.beq_refl _⟩
/-- Have operations i and j to do with one another? (how i is struck by j) -/
def conflB (ops : Array Oper) (oi : Oper) (fi : Eff) (dj : Option Nat) (fj : Eff) (nj : Nat) : Bool :=
  (match dj with
    | some t => (oi.looksAt ops).contains t || (match oi.dst with | some d => Nat.beq d t | none => false)
    | none => false) || (fj.up.any (fun x => memK x.1 fi.rd || memK x.1 fi.up) || !fi.outs nj (nj + fj.nw))
theorem conflB_of {ops : Array Oper} {oi : Oper} {fi : Eff} {dj : Option Nat} {fj : Eff} {nj : Nat} (h : Confl ops oi fi dj fj nj) : conflB ops oi fi dj fj nj = true := by
  unfold conflB
  rcases h with ⟨t, rfl, h⟩ | ⟨id, hu, h⟩ | h
  · rw [Bool.or_eq_true]; left
    rcases h with h | h
    · simp [h]
    · rw [h]; simp [Nat.beq_refl]
  · rw [Bool.or_eq_true]; right
    rw [Bool.or_eq_true]; left
    cases hq : lkH fj.up id with
    | none => exact absurd hq hu
    | some b =>
      refine List.any_eq_true.2 ⟨(id, b), lkH_mem hq, ?_⟩
      rw [Bool.or_eq_true]
      rcases h with h | h
      · left; exact memK_of h
      · right; exact memK_of h
  · rw [Bool.or_eq_true]; right
    rw [Bool.or_eq_true]; right
    rw [h]; rfl
def pairB (ops : Array Oper) (ms : List Nat) (i : Nat) (oi : Oper) (fi : Eff) : Nat → List (Option Nat × Eff) → List Nat → Bool
  | j, (dj, fj) :: r, n :: ns => (Nat.beq i j || (anc ms i j || (anc ms j i || !conflB ops oi fi dj fj n))) && pairB ops ms i oi fi (j + 1) r ns
  | _, _, _ => true
def pairsB (ops : Array Oper) (ms : List Nat) (L : List (Option Nat × Eff)) (ns : List Nat) : Nat → List Oper → List (Option Nat × Eff) → Bool
  | i, o :: r, (_, f) :: l => pairB ops ms i o f 0 L ns && pairsB ops ms L ns (i + 1) r l
  | _, _, _ => true
theorem pairB_spec {ops : Array Oper} {ms : List Nat} {i : Nat} {oi : Oper} {fi : Eff} : ∀ {L : List (Option Nat × Eff)} {ns : List Nat} {j : Nat}, pairB ops ms i oi fi j L ns = true → ∀ (k : Nat) (d : Option Nat) (f : Eff) (n : Nat), L[k]? = some (d, f) → ns[k]? = some n →
    i = j + k ∨ anc ms i (j + k) = true ∨ anc ms (j + k) i = true ∨ conflB ops oi fi d f n = false
  | [], _, _, _, k, _, _, _, hk, _ => by simp at hk
  | _ :: _, [], _, _, k, _, _, _, _, hk => by simp at hk
  | (d0, f0) :: r, n0 :: ns, j, h, k, d, f, n, hL, hn => by
    simp only [pairB, Bool.and_eq_true, Bool.or_eq_true, Bool.not_eq_true'] at h
    cases k with
    | zero =>
      simp at hL hn
      obtain ⟨rfl, rfl⟩ := hL
      subst hn
      rcases h.1 with h | h | h | h
      · exact .inl (by simpa using Nat.eq_of_beq_eq_true h)
      · exact .inr (.inl h)
      · exact .inr (.inr (.inl h))
      · exact .inr (.inr (.inr h))
    | succ k =>
      have := pairB_spec h.2 k d f n (by simpa using hL) (by simpa using hn)
      rwa [show j + 1 + k = j + (k + 1) by omega] at this
theorem pairsB_spec {ops : Array Oper} {ms : List Nat} {L : List (Option Nat × Eff)} {ns : List Nat} : ∀ {l : List Oper} {M : List (Option Nat × Eff)} {i : Nat}, pairsB ops ms L ns i l M = true → ∀ (k : Nat) (o : Oper) (d : Option Nat) (f : Eff), l[k]? = some o → M[k]? = some (d, f) → pairB ops ms (i + k) o f 0 L ns = true
  | [], _, _, _, k, _, _, _, hk, _ => by simp at hk
  | _ :: _, [], _, _, k, _, _, _, _, hk => by simp at hk
  | o :: r, (d0, f0) :: M, i, h, k, o', d, f, hl, hM => by
    simp only [pairsB, Bool.and_eq_true] at h
    cases k with
    | zero =>
      simp at hl hM
      obtain ⟨rfl, rfl⟩ := hM
      subst hl
      exact h.1
    | succ k =>
      have := pairsB_spec h.2 k o' d f (by simpa using hl) (by simpa using hM)
      rwa [show i + 1 + k = i + (k + 1) by omega] at this
def indep (ops : Array Oper) (L : List (Option Nat × Eff)) (ns : List Nat) : Bool :=
  (fun ms => masksB ms 0 ops.toList && pairsB ops ms L ns 0 ops.toList L) (mkMasks ops.toList [])

/-- What is known names known blocks only. -/
structure WF (p0 : Nat) (s : St) : Prop where
  sl : ∀ t, (lkS s.sl t).bd s.nx = true
  hp : ∀ id bk, lkH s.hp id = some bk → id < s.nx ∧ bk.bd s.nx = true
  p0 : p0 ≤ s.nx
section
variable {J : World → Prop} {P : Program} {V : Env} {Γ : List Gm} {lens rl : List Nat} {N p0 : Nat} {ops : Array Oper} {s s' : St} {hs hs' : List Hint} {L : List (Option Nat × Eff)} {ns : List Nat} {os : List Obl}
theorem eff_outs_of_bd {f : Eff} {n hi : Nat} (h : f.bd n = true) : f.outs n hi = true := by
  simp only [Eff.bd, Bool.and_eq_true, List.all_eq_true, blt_iff] at h
  simp only [Eff.outs, Bool.and_eq_true, List.all_eq_true, Bool.or_eq_true, blt_iff]
  exact ⟨SV.out_of_bd h.1, fun x hx => ⟨.inl (h.2 x hx).1, Bk.out_of_bd (h.2 x hx).2⟩⟩
theorem eff_bd_mono {f : Eff} {n n' : Nat} (hn : n ≤ n') (h : f.bd n = true) : f.bd n' = true := by
  simp only [Eff.bd, Bool.and_eq_true, List.all_eq_true, blt_iff] at h ⊢
  exact ⟨SV.bd_mono hn h.1, fun x hx => ⟨by have := (h.2 x hx).1; omega, Bk.bd_mono hn (h.2 x hx).2⟩⟩
theorem guardS_yes {sl : List (Nat × SV)} {o : Oper} (h : guardS ops sl o = some true) : WantedOK ops (lkS sl) o := by
  unfold guardS at h
  split at h
  · rename_i hg; exact .inl hg
  · rename_i g w hg
    split at h
    · rename_i d hd
      split at h
      · rename_i t ht
        have : t = w := by simpa using h
        exact .inr ⟨g, w, d, hg, hd, by rw [ht, this]⟩
      · cases h
      · cases h
    · cases h
theorem guardS_no {sl : List (Nat × SV)} {o : Oper} (h : guardS ops sl o = some false) : UnwantedOK ops (lkS sl) o := by
  unfold guardS at h
  split at h
  · cases h
  · rename_i g w hg
    split at h
    · rename_i d hd
      split at h
      · rename_i t ht
        have : (t == w) = false := by simpa using h
        exact ⟨g, w, d, hg, hd, .inr ⟨t, ht, by intro e; rw [e] at this; simp at this⟩⟩
      · rename_i ht
        exact ⟨g, w, d, hg, hd, .inl ht⟩
      · cases h
    · cases h
theorem runOps_sq (hV : VOK V lens) (hE : V.E.length ≤ 1000000) (hO : V.O.length ≤ 1000000) (hΓ : allG J P V Γ) (h : runOps P Γ lens rl N ops ops.toList s hs = some (L, ns, s', hs', os)) (ho : allO P V os) (hw : WF p0 s) :
    Sq J P V p0 N (fun i => rl.any (Nat.beq i)) ops L (fun i => ns.getD i 0) (lkS s.sl) (lkH s.hp) ∧ WF p0 s' ∧ (∀ σ, foldS (fun j => Nat.blt j ops.size) 0 L σ = foldS allT 0 L σ) ∧ (∀ σ, foldH (fun j => Nat.blt j ops.size) 0 L σ = foldH allT 0 L σ) ∧ lkS s'.sl = foldS allT 0 L (lkS s.sl) ∧ lkH s'.hp = foldH allT 0 L (lkH s.hp) ∧
      ns.length = L.length := by
  obtain ⟨h1, h2, h3, h4, h5, h6, h7⟩ := runOps_spec (V := V) (σs := lkS s.sl) (σh := lkH s.hp) _ [] _ _ _ _ _ _ _ h ho rfl rfl
  simp only [List.nil_append] at h3 h6 h7
  have hlen : L.length = ops.size := by rw [h1]; simp
  have toL : ∀ {i : Nat} {o : Oper}, ops[i]? = some o → ops.toList[i]? = some o := fun h => by simpa using h
  have ofL : ∀ {i : Nat} {d : Option Nat} {f : Eff}, L[i]? = some (d, f) → ∃ o n, ops[i]? = some o ∧ d = o.dst ∧ ns[i]? = some n ∧ ns.getD i 0 = n ∧ s.nx ≤ n ∧ n + f.nw ≤ s'.nx ∧ Fact P V Γ lens rl N ops (lkS s.sl) (lkH s.hp) (L.take i) o f n := by
    intro i d f hi
    have hil : i < ops.toList.length := by rw [← h1]; exact (List.getElem?_eq_some_iff.1 hi).1
    obtain ⟨f', n, a, b, c, e, g⟩ := h3 i _ (List.getElem?_eq_getElem hil)
    rw [hi] at a
    obtain ⟨rfl, rfl⟩ : d = ops.toList[i].dst ∧ f = f' := by simpa using a
    exact ⟨_, n, by simpa using List.getElem?_eq_getElem hil, rfl, b, by simp [List.getD_eq_getElem?_getD, b], c, e, g⟩
  have good : ∀ {i : Nat} {d : Option Nat} {f : Eff} {o : Oper} {n : Nat}, L[i]? = some (d, f) → Fact P V Γ lens rl N ops (lkS s.sl) (lkH s.hp) (L.take i) o f n →
      ((WantedOK ops (foldS (fun j => Nat.blt j i) 0 L (lkS s.sl)) o ∧ EffOK J P V (avOf (foldS (fun j => Nat.blt j i) 0 L (lkS s.sl))) o n f) ∨ (UnwantedOK ops (foldS (fun j => Nat.blt j i) 0 L (lkS s.sl)) o ∧ f = noEff)) ∧
      (∀ id bk, lkH f.rd id = some bk → foldH (fun j => Nat.blt j i) 0 L (lkH s.hp) id = some bk ∧ bk.live = true) ∧ (∀ id, lkH f.up id ≠ none → ¬ (n ≤ id ∧ id < n + f.nw) → lkH f.rd id ≠ none) := by
    intro i d f o n hi hf
    obtain ⟨sk, hn, hsl, hhp, hor⟩ := hf.ok
    have hil : i ≤ L.length := Nat.le_of_lt (List.getElem?_eq_some_iff.1 hi).1
    rw [foldS_take L i hil, foldH_take L i hil, ← hsl, ← hhp]
    rcases hor with ⟨hg, hh, hh', os', he, ho'⟩ | ⟨hg, rfl⟩
    · have G := opEff_good hV hE hO hΓ he ho'
      exact ⟨.inl ⟨guardS_yes hg, G.ok⟩, G.rd, G.up⟩
    · exact ⟨.inr ⟨guardS_no hg, rfl⟩, fun id bk hb => by simp [noEff, lkH] at hb, fun id hu => absurd rfl hu⟩
  refine ⟨⟨hlen, ?_, ?_, ?_, ?_, ?_, ?_, ?_, ?_⟩, ?_, ?_, ?_, h6, h7, by rw [h2, h1]⟩
  · intro i o hi
    obtain ⟨f, n, a, _⟩ := h3 i o (toL hi)
    exact ⟨f, a⟩
  · intro i o f hi hL
    obtain ⟨o', n, ho', _, _, hn, _, _, hf⟩ := ofL hL
    rw [hi] at ho'; cases ho'
    simp only [hn]
    exact (good hL hf).1
  · intro i d f id bk hL hb
    obtain ⟨o', n, ho', _, _, hn, _, _, hf⟩ := ofL hL
    exact (good hL hf).2.1 id bk hb
  · intro i d f id hL hu hnew
    obtain ⟨o', n, ho', _, _, hn, _, _, hf⟩ := ofL hL
    simp only [hn] at hnew
    exact (good hL hf).2.2 id hu hnew
  · intro i d f hL
    obtain ⟨o', n, ho', _, _, hn, hle, _, hf⟩ := ofL hL
    simp only [hn]
    refine ⟨fun t => SV.out_of_bd (SV.bd_mono hle (hw.sl t)), fun id bk hb => ?_, Nat.le_trans hw.p0 hle⟩
    obtain ⟨a, b⟩ := hw.hp id bk hb
    exact ⟨.inl (by omega), Bk.out_of_bd (Bk.bd_mono hle b)⟩
  · intro i j di fi dj fj hji hi hj
    obtain ⟨_, n, _, _, hni, hn, _, _, _⟩ := ofL hi
    obtain ⟨_, m, _, _, hmj, hm, _, _, hf⟩ := ofL hj
    simp only [hn]
    have := h4 j i m n dj fj hji hmj hj hni
    exact eff_outs_of_bd (eff_bd_mono this hf.bd)
  · intro i t f hL
    obtain ⟨o', n, _, hd, _, _, _, _, hf⟩ := ofL hL
    have := hf.dN
    rw [← hd] at this
    exact blt_iff.1 this
  · intro i d f id hL hu
    obtain ⟨o', n, _, _, _, _, _, _, hf⟩ := ofL hL
    have := hf.ro
    simp only [roB, List.all_eq_true, Bool.not_eq_true'] at this
    cases hq : lkH f.up id with
    | none => exact absurd hq hu
    | some b => exact this _ (lkH_mem hq)
  · refine ⟨?_, ?_, Nat.le_trans hw.p0 h5⟩
    · intro t
      rw [h6]
      rcases foldS_or (F := allT) (t := t) L 0 (lkS s.sl) with e | ⟨k, d, fk, hk, _, e⟩
      · rw [e]; exact SV.bd_mono h5 (hw.sl t)
      · rw [e]
        obtain ⟨_, n, _, _, _, _, _, hle, hf⟩ := ofL hk
        have := eff_bd_mono hle hf.bd
        simp only [Eff.bd, Bool.and_eq_true] at this
        exact this.1
    · intro id bk hb
      rw [h7] at hb
      rcases foldH_or (F := allT) (t := id) L 0 (lkH s.hp) with e | ⟨k, d, fk, hk, _, _, e⟩
      · rw [e] at hb; obtain ⟨a, b⟩ := hw.hp id bk hb; exact ⟨by omega, Bk.bd_mono h5 b⟩
      · rw [e] at hb
        obtain ⟨_, n, _, _, _, _, _, hle, hf⟩ := ofL hk
        have := eff_bd_mono hle hf.bd
        simp only [Eff.bd, Bool.and_eq_true, List.all_eq_true, blt_iff] at this
        exact this.2 _ (lkH_mem hb)
  · intro σ; exact foldS_all L 0 σ (fun k hk => by rw [Nat.zero_add]; exact blt_iff.2 (by omega))
  · intro σ; exact foldH_all L 0 σ (fun k hk => by rw [Nat.zero_add]; exact blt_iff.2 (by omega))
theorem runOps_reg (R : Sq J P V p0 N (fun i => rl.any (Nat.beq i)) ops L (fun i => ns.getD i 0) (lkS s.sl) (lkH s.hp)) (hl : ns.length = L.length) (hi : indep ops L ns = true) : Reg J P V p0 N (fun i => rl.any (Nat.beq i)) ops L (fun i => ns.getD i 0) (anc (mkMasks ops.toList [])) (lkS s.sl) (lkH s.hp) := by
  unfold indep at hi
  simp only [Bool.and_eq_true] at hi
  obtain ⟨hm, hp⟩ := hi
  have hms := masksB_spec hm
  simp only [Nat.zero_add] at hms
  have toL : ∀ {i : Nat} {o : Oper}, ops[i]? = some o → ops.toList[i]? = some o := fun h => by simpa using h
  have ancE : ∀ (i : Nat) (o : Oper) (j : Nat), ops[i]? = some o → anc (mkMasks ops.toList []) i j = true → ∃ e ∈ o.after, Region.binds .any e = true ∧ (e.on = j ∨ anc (mkMasks ops.toList []) e.on j = true) := by
    intro i o j ho ha
    unfold anc at ha
    rw [(hms i o (toL ho)).1] at ha
    obtain ⟨e, he, hb⟩ := edgeMask_bit ha
    exact ⟨e, by simpa using he, hb⟩
  refine ⟨R, fun i o ho e he hb => (hms i o (toL ho)).2 e he hb, ancE, ?_, ?_⟩
  · intro i
    induction i using Nat.strongRecOn with
    | _ i ih =>
      intro o j ho ha
      obtain ⟨e, he, hb, hor⟩ := ancE i o j ho ha
      have hlt := (hms i o (toL ho)).2 e he hb
      rcases hor with rfl | hor
      · exact hlt
      · have his : e.on < ops.size := Nat.lt_trans hlt (Array.getElem?_eq_some_iff.1 ho).1
        have := ih e.on hlt _ j (Array.getElem?_eq_getElem his) hor
        omega
  · intro i j oi fi dj fj hij hoi hLi hLj hc
    have h1 := pairsB_spec hp i oi _ fi (toL hoi) hLi
    rw [Nat.zero_add] at h1
    have hjl : j < ns.length := by rw [hl]; exact (List.getElem?_eq_some_iff.1 hLj).1
    have hn : ns[j]? = some (ns.getD j 0) := by simp [List.getD_eq_getElem?_getD, List.getElem?_eq_getElem hjl]
    rcases pairB_spec h1 j dj fj _ hLj hn with h | h | h | h
    · exact absurd (by simpa using h) hij
    · rw [Nat.zero_add] at h; exact .inl h
    · rw [Nat.zero_add] at h; exact .inr h
    · rw [conflB_of hc] at h; cases h
end
end RX
end Go.Proofs.Ytieencpejpeenaa
end
section
namespace Go.Proofs.Ytieencpejpeenaa
open Go.RowKit
namespace RX
set_option linter.unnecessarySimpa false
set_option linter.unusedVariables false
set_option linter.unusedSimpArgs false
/-- The run from a loop's head on. -/
def loopWp (P : Program) (c : Code) (Q : Exit → Act → World → Prop) (a : Act) (w : World) : Prop :=
  ∀ (b : Frame) (k : List Item) (cs : List Frame), ∃ e a' w', Q e a' w' ∧ Arrives P (lone (b.at a (.code c :: .inLoop c :: k)) cs w) b k cs e a' w'
theorem loopWp_mono {P : Program} {c : Code} {Q Q' : Exit → Act → World → Prop} {a : Act} {w : World} (h : loopWp P c Q a w) (hq : ∀ e a w, Q e a w → Q' e a w) : loopWp P c Q' a w :=
  fun b k cs => let ⟨e, a', w', q, r⟩ := h b k cs; ⟨e, a', w', hq _ _ _ q, r⟩
theorem loop_of {P : Program} {c : Code} {Q : Exit → Act → World → Prop} {a : Act} {w : World} (h : loopWp P c Q a w) : (Code.loop c).wp P Q a w :=
  fun b k cs => let ⟨e, a', w', q, r⟩ := h b k cs; ⟨e, a', w', q, .of_steps (.one step_loop) r⟩
theorem loop_round {P : Program} {c : Code} {Q : Exit → Act → World → Prop} {a : Act} {w : World} (h : c.wp P (Exit.then (loopWp P c Q) Q) a w) : loopWp P c Q a w := by
  intro b k cs
  obtain ⟨e, a₁, w₁, hq, harr⟩ := h b (.inLoop c :: k) cs
  cases e with
  | normal =>
    obtain ⟨e₂, a₂, w₂, hq₂, harr₂⟩ := hq b k cs
    exact ⟨e₂, a₂, w₂, hq₂, .of_steps (Steps.trans harr (.one step_inLoop)) harr₂⟩
  | exit id => exact ⟨_, a₁, w₁, hq, .pass (x := .inLoop c) rfl (fun _ _ => .inl (by simp)) harr⟩
  | goto l => exact ⟨_, a₁, w₁, hq, .pass (x := .inLoop c) rfl (fun _ _ => .inl (by simp)) harr⟩
  | ret => exact ⟨_, a₁, w₁, hq, .pass (x := .inLoop c) rfl (fun _ _ => .inl (by simp)) harr⟩
  | panic ch => exact ⟨_, a₁, w₁, hq, .pass (x := .inLoop c) rfl (fun _ _ => .inl (by simp)) harr⟩
  | outgrown => exact ⟨_, a₁, w₁, hq, .pass (x := .inLoop c) rfl (fun _ _ => .inl (by simp)) harr⟩

inductive Ex where
  | normal
  | exit (id : Nat)
  | ret
def Ex.to : Ex → Exit
  | .normal => .normal
  | .exit id => .exit id
  | .ret => .ret
def Ex.beq : Ex → Ex → Bool
  | .normal, .normal => true
  | .exit i, .exit j => Nat.beq i j
  | .ret, .ret => true
  | _, _ => false
theorem Ex.eq_of_beq : ∀ {a b : Ex}, a.beq b = true → a = b := by
  intro a b h
  cases a <;> cases b <;> simp_all [Ex.beq, Nat.beq_eq]

/-- A law of a stretch of code, on paper: what is known ahead (slots, blocks 0 ..), how it ends, what is known behind. -/
structure Sg where
  sl : List (Nat × SV)
  pre : List Bk := []
  ex : Ex
  sl' : List (Nat × SV)
  post : List (Option Bk) := []
  news : List Bk := []
def slotsOK (V : Env) (ρ : Nat → Nat × Nat) (a : Act) : List (Nat × SV) → Prop
  | [] => True
  | (t, v) :: r => a.tmps.getD t undef = den V ρ v ∧ slotsOK V ρ a r
def preOK (V : Env) (ρ : Nat → Nat × Nat) (w : World) (pre : List Bk) (post : List (Option Bk)) : Prop := (∀ i j, i < pre.length → j < pre.length → (isWr post i = true ∨ isWr post j = true) → (ρ i).1 = (ρ j).1 → i = j) ∧ ∀ (i : Nat) (bk : Bk), pre[i]? = some bk → bk.holds V ρ w.heap[(ρ i).1]?
/-- What is so of the blocks behind: p of them known ahead. -/
def postOK (V : Env) (p : Nat) (post : List (Option Bk)) (news : List Bk) (ρ ρ' : Nat → Nat × Nat) (w w' : World) : Prop :=
  (∀ i, i < p → ρ' i = ρ i) ∧ (∀ j, j < news.length → w.heap.size ≤ (ρ' (p + j)).1 ∨ ∃ g, post[g]? = some (some .gone) ∧ (ρ' (p + j)).1 = (ρ g).1) ∧ (∀ i j, i < news.length → j < news.length → (ρ' (p + i)).1 = (ρ' (p + j)).1 → i = j) ∧
    (∀ (i : Nat) (bk : Bk), post[i]? = some (some bk) → bk.holds V ρ' w'.heap[(ρ i).1]?) ∧ (∀ (j : Nat) (bk : Bk), news[j]? = some bk → bk.holds V ρ' w'.heap[(ρ' (p + j)).1]?) ∧
    Fr w w' (fun b => ∃ i bk, post[i]? = some (some bk) ∧ (ρ i).1 = b)
def Sg.Q (V : Env) (N : Nat) (g : Sg) (ρ : Nat → Nat × Nat) (w : World) : Exit → Act → World → Prop := fun e a' w' =>
  e = g.ex.to ∧ a'.tmps.size = N ∧ a'.defers = [] ∧ ∃ ρ', slotsOK V ρ' a' g.sl' ∧ postOK V g.pre.length g.post g.news ρ ρ' w w'
def Sg.Valid (P : Program) (N : Nat) (c : Code) (g : Sg) (VA VB : Env) : Prop :=
  ∀ ρ a w, a.tmps.size = N → a.defers = [] → slotsOK VA ρ a g.sl → preOK VA ρ w g.pre g.post → c.wp P (g.Q VB N ρ w) a w
/-- .. of a loop, from its head on. -/
def Sg.ValidL (P : Program) (N : Nat) (c : Code) (g : Sg) (VA VB : Env) : Prop :=
  ∀ ρ a w, a.tmps.size = N → a.defers = [] → slotsOK VA ρ a g.sl → preOK VA ρ w g.pre g.post → loopWp P c (g.Q VB N ρ w) a w
/-- .. in worlds that J is true of. -/
def Sg.ValidJ (J : World → Prop) (P : Program) (N : Nat) (c : Code) (g : Sg) (VA VB : Env) : Prop :=
  ∀ ρ a w, J w → a.tmps.size = N → a.defers = [] → slotsOK VA ρ a g.sl → preOK VA ρ w g.pre g.post → c.wp P (g.Q VB N ρ w) a w
def Sg.ValidLJ (J : World → Prop) (P : Program) (N : Nat) (c : Code) (g : Sg) (VA VB : Env) : Prop :=
  ∀ ρ a w, (∀ w', Fr w w' (fun b => ∃ i, i < g.pre.length ∧ isWr g.post i = true ∧ (ρ i).1 = b) → J w') → a.tmps.size = N → a.defers = [] → slotsOK VA ρ a g.sl → preOK VA ρ w g.pre g.post → loopWp P c (g.Q VB N ρ w) a w
/-- .. as it is used. -/
structure Sm where
  g : Sg
  τ : List Nat
  υ : List Nat := []
  τ' : List Nat
  υ' : List Nat := []

def ownSl (r : SV → SV) (sl : List (Nat × SV)) : List (Nat × SV) → Option (List Obl)
  | [] => some []
  | (t, v) :: q => match lkS sl t with
    | .any => none
    | x => match mt x (r v), ownSl r sl q with
      | some o, some os => some (o ++ os)
      | _, _ => none
def mapSl (r : SV → SV) : List (Nat × SV) → List (Nat × SV)
  | [] => []
  | (t, v) :: q => (t, r v) :: mapSl r q
def slB (n N : Nat) : List (Nat × SV) → Bool
  | [] => true
  | (t, v) :: q => v.bd n && (Nat.blt t N && slB n N q)
theorem ownSl_spec {P : Program} {V : Env} {r : SV → SV} {sl : List (Nat × SV)} {ρ : Nat → Nat × Nat} {a : Act} (h : ∀ t, lkS sl t ≠ .any → a.tmps.getD t undef = den V ρ (lkS sl t)) : ∀ {q : List (Nat × SV)} {os : List Obl}, ownSl r sl q = some os → allO P V os → slotsOK V ρ a (mapSl r q)
  | [], _, _, _ => trivial
  | (t, v) :: q, os, hq, ho => by
    unfold ownSl at hq
    split at hq
    · cases hq
    · rename_i hx
      split at hq
      · rename_i o os' hm hr
        cases hq
        rw [allO_app] at ho
        refine ⟨?_, ownSl_spec h hr ho.2⟩
        rw [h t hx]
        unfold den; rw [mt_spec _ _ _ hm ho.1 ρ]
      · cases hq
theorem slotsOK_rn {V V' : Env} {ρ ρ' : Nat → Nat × Nat} {a : Act} {r : SV → SV} (h : ∀ x, dl V ρ (r x) = dl V' ρ' x) : ∀ {q : List (Nat × SV)}, slotsOK V ρ a (mapSl r q) ↔ slotsOK V' ρ' a q
  | [] => Iff.rfl
  | (t, v) :: q => by
    simp only [mapSl, slotsOK, slotsOK_rn h (q := q)]
    unfold den; rw [h]
theorem slotsOK_bd {V : Env} {ρ ρ' : Nat → Nat × Nat} {a : Act} {n N : Nat} (h : ∀ i, i < n → ρ' i = ρ i) : ∀ {q : List (Nat × SV)}, slB n N q = true → (slotsOK V ρ' a q ↔ slotsOK V ρ a q)
  | [], _ => Iff.rfl
  | (t, v) :: q, hq => by
    simp only [slB, Bool.and_eq_true] at hq
    simp only [slotsOK, slotsOK_bd h hq.2.2]
    unfold den; rw [dl_agree h hq.1]
theorem slotsOK_lk {V : Env} {ρ : Nat → Nat × Nat} {a : Act} : ∀ {q : List (Nat × SV)}, slotsOK V ρ a q → ∀ t, lkS q t ≠ .any → a.tmps.getD t undef = den V ρ (lkS q t)
  | [], _, t, ht => absurd rfl ht
  | (i, v) :: q, h, t, ht => by
    simp only [lkS] at ht ⊢
    cases hq : Nat.beq i t with
    | true => rw [Nat.eq_of_beq_eq_true hq] at h; exact h.1
    | false => rw [hq] at ht; exact slotsOK_lk h.2 t ht

/-! A stretch's law used at a point. -/
def smR (τ θ : List Nat) (x : SV) : SV := (x.rnE τ).rnI θ
def smB (τ υ θ : List Nat) (x : Bk) : Bk := (x.rnE τ υ).rnI θ
theorem den_smR {V : Env} {τ υ θ : List Nat} {ρ : Nat → Nat × Nat} {x : SV} : dl V ρ (smR τ θ x) = dl (V.sub τ υ) (fun i => ρ (θ.getD i 0)) x := by
  unfold smR; rw [dl_rnI, dl_rnE (υ := υ)]
theorem holds_smB {V : Env} (hE : V.E.length ≤ 1000000) (hO : V.O.length ≤ 1000000) {τ υ θ : List Nat} {ρ : Nat → Nat × Nat} {x : Bk} {o : Option Obj} : (smB τ υ θ x).holds V ρ o ↔ x.holds (V.sub τ υ) (fun i => ρ (θ.getD i 0)) o := by
  unfold smB; rw [Bk.holds_rnI, Bk.holds_rnE hE hO]
/-- The written blocks are none of those that are read only. -/
def roIds (ro : List Nat) : List Nat → List (Option Bk) → Bool
  | i :: is, some _ :: ps => !ro.any (Nat.beq i) && roIds ro is ps
  | _ :: is, none :: ps => roIds ro is ps
  | _, _ => true
theorem roIds_get {ro : List Nat} : ∀ {is : List Nat} {ps : List (Option Bk)} {i id : Nat} {b : Bk}, roIds ro is ps = true → is[i]? = some id → ps[i]? = some (some b) → ro.any (Nat.beq id) = false
  | [], _, _, _, _, _, h, _ => by simp at h
  | _ :: _, [], _, _, _, _, _, h => by simp at h
  | j :: is, some c :: ps, 0, id, b, h, h1, h2 => by simp only [roIds, Bool.and_eq_true, Bool.not_eq_true'] at h; simp at h1; subst h1; exact h.1
  | j :: is, none :: ps, 0, id, b, h, h1, h2 => by simp at h2
  | j :: is, some c :: ps, k + 1, id, b, h, h1, h2 => by simp only [roIds, Bool.and_eq_true] at h; exact roIds_get (i := k) h.2 (by simpa using h1) (by simpa using h2)
  | j :: is, none :: ps, k + 1, id, b, h, h1, h2 => roIds_get (is := is) (ps := ps) (i := k) h (by simpa using h1) (by simpa using h2)
def segAt (ro : List Nat) (N : Nat) (s : St) (m : Sm) (ids : List Nat) : Option (St × List Obl) :=
  (fun θ => match ownSl (smR m.τ θ) s.sl m.g.sl, told s.hp (smB m.τ m.υ θ) ids m.g.pre with
  | some o1, some (_, o2) =>
    cond (nodupB ids && (roIds ro ids m.g.post && (Nat.ble s.nx s.nx && (ro.all (fun i => Nat.blt i s.nx) && (ids.all (fun i => Nat.blt i s.nx) && (Nat.ble m.g.post.length ids.length && (slB (m.g.pre.length + m.g.news.length) N m.g.sl' && (obd (m.g.pre.length + m.g.news.length) m.g.post && (m.g.news.all fun b => b.bd (m.g.pre.length + m.g.news.length))))))))))
      (some (⟨mapSl (smR m.τ' θ) m.g.sl', upOld (smB m.τ' m.υ' θ) ids m.g.post ++ upNew (smB m.τ' m.υ' θ) s.nx m.g.news ++ s.hp, s.nx + m.g.news.length⟩, o1 ++ o2)) none
  | _, _ => none) (ids ++ List.range' s.nx m.g.news.length)
theorem bd_rnI_lt {θ : List Nat} {n M : Nat} (h : ∀ i, i < n → θ.getD i 0 < M) : ∀ {x : SV}, x.bd n = true → (x.rnI θ).bd M = true := by
  intro x
  induction x <;> simp_all [SV.bd, SV.rnI, blt_iff]
theorem bd_rnE {τ : List Nat} {n : Nat} : ∀ {x : SV}, x.bd n = true → (x.rnE τ).bd n = true := by
  intro x
  induction x <;> simp_all [SV.bd, SV.rnE]
  split <;> rfl
theorem bk_bd_rn {τ υ θ : List Nat} {n M : Nat} (h : ∀ i, i < n → θ.getD i 0 < M) {x : Bk} (hx : x.bd n = true) : (smB τ υ θ x).bd M = true := by
  cases x with
  | cs ty l => exact bd_rnI_lt h (bd_rnE hx)
  | own ty i c z =>
    simp only [Bk.bd, Bool.and_eq_true, blt_iff] at hx
    simp only [smB, Bk.rnE, Bk.rnI, Bk.bd, Bool.and_eq_true, blt_iff]
    exact ⟨h c hx.1, bd_rnI_lt h (bd_rnE hx.2)⟩
  | _ => rfl
theorem segAt_ok {J : World → Prop} {P : Program} {V : Env} {N p0 : Nat} {rl : List Nat} (hE : V.E.length ≤ 1000000) (hO : V.O.length ≤ 1000000) {s s' : St} {m : Sm} {ids : List Nat} {os : List Obl} {c : Code} (h : segAt rl N s m ids = some (s', os)) (ho : allO P V os) (hw : WF p0 s)
    (hg : m.g.ValidLJ J P N c (V.sub m.τ m.υ) (V.sub m.τ' m.υ')) : WF p0 s' ∧ ∀ {w0 : World} {ρ0 ρ : Nat → Nat × Nat} {a : Act} {w : World}, Inv J V w0 ρ0 p0 N (fun i => rl.any (Nat.beq i)) ρ (lkS s.sl) (lkH s.hp) a w →
      loopWp P c (fun e a' w' => e = m.g.ex.to ∧ ∃ ρ', Inv J V w0 ρ0 p0 N (fun i => rl.any (Nat.beq i)) ρ' (lkS s'.sl) (lkH s'.hp) a' w') a w := by
  unfold segAt at h
  simp only at h
  split at h
  case h_2 => cases h
  rename_i o1 rd o2 hsl ht
  obtain ⟨hq, he⟩ := cond_bind h
  clear h
  cases he
  rw [allO_app] at ho
  simp only [Bool.and_eq_true, List.all_eq_true, Nat.ble_eq, blt_iff] at hq
  obtain ⟨hnd, hroi, _, hrol, hlt, hpl, hsb, hpb, hnb⟩ := hq
  obtain ⟨t1, t2, t3, t4⟩ := told_spec ht ho.2
  have hroF : ∀ id, s.nx ≤ id → rl.any (Nat.beq id) = false := fun id hid => by
    rw [List.any_eq_false]; intro x hx hb; have := hrol x hx; have := Nat.eq_of_beq_eq_true hb; omega
  have hθ : ∀ i, i < ids.length → (ids ++ List.range' s.nx m.g.news.length).getD i 0 = ids.getD i 0 := fun i hi => by
    simp [List.getD_eq_getElem?_getD, List.getElem?_append_left hi]
  have hθn : ∀ j, j < m.g.news.length → (ids ++ List.range' s.nx m.g.news.length).getD (ids.length + j) 0 = s.nx + j := fun j hj => by
    rw [List.getD_eq_getElem?_getD, List.getElem?_append_right (by omega)]
    simp [List.getElem?_range', hj]
  have hid : ∀ i, i < ids.length → ∃ id, ids[i]? = some id ∧ ids.getD i 0 = id ∧ id < s.nx := fun i hi => by
    refine ⟨ids[i], List.getElem?_eq_getElem hi, by simp [List.getD_eq_getElem?_getD, List.getElem?_eq_getElem hi], hlt _ (List.getElem_mem hi)⟩
  have hθb : ∀ i, i < m.g.pre.length + m.g.news.length → (ids ++ List.range' s.nx m.g.news.length).getD i 0 < s.nx + m.g.news.length := fun i hi => by
    rcases Nat.lt_or_ge i ids.length with hl | hge
    · obtain ⟨x, hx, hx', hxn⟩ := hid i hl
      rw [hθ i hl, hx']; omega
    · obtain ⟨j, rfl⟩ : ∃ j, i = ids.length + j := ⟨i - ids.length, by omega⟩
      rw [hθn j (by omega)]; omega
  have upMem : ∀ {id : Nat} {bk : Bk}, lkH (upOld (smB m.τ' m.υ' (ids ++ List.range' s.nx m.g.news.length)) ids m.g.post ++ upNew (smB m.τ' m.υ' (ids ++ List.range' s.nx m.g.news.length)) s.nx m.g.news) id = some bk →
      (∃ (i : Nat) (b : Bk), ids[i]? = some id ∧ m.g.post[i]? = some (some b) ∧ bk = smB m.τ' m.υ' (ids ++ List.range' s.nx m.g.news.length) b) ∨ (∃ (j : Nat) (b : Bk), m.g.news[j]? = some b ∧ id = s.nx + j ∧ bk = smB m.τ' m.υ' (ids ++ List.range' s.nx m.g.news.length) b) := by
    intro id bk hb
    rcases lkH_app hb with hb | hb
    · obtain ⟨i, b, hi, hpi, he⟩ := mem_upOld hb; exact .inl ⟨i, b, hi, hpi, he⟩
    · obtain ⟨j, b, hj, hid', he⟩ := mem_upNew hb; exact .inr ⟨j, b, hj, hid', he⟩
  refine ⟨⟨?_, ?_, Nat.le_trans hw.p0 (Nat.le_add_right _ _)⟩, ?_⟩
  · intro t
    have : ∀ (q : List (Nat × SV)), slB (m.g.pre.length + m.g.news.length) N q = true → ∀ t, (lkS (mapSl (smR m.τ' (ids ++ List.range' s.nx m.g.news.length)) q) t).bd (s.nx + m.g.news.length) = true := by
      intro q
      induction q with
      | nil => intro _ t; rfl
      | cons x q ih =>
        intro hq t
        obtain ⟨i, v⟩ := x
        simp only [slB, Bool.and_eq_true] at hq
        simp only [mapSl, lkS]
        cases Nat.beq i t with
        | true => exact bd_rnI_lt hθb (bd_rnE hq.1)
        | false => exact ih hq.2.2 t
    exact this _ hsb t
  · intro id bk hb
    simp only at hb ⊢
    rw [lkH_append] at hb
    cases hu : lkH (upOld (smB m.τ' m.υ' (ids ++ List.range' s.nx m.g.news.length)) ids m.g.post ++ upNew (smB m.τ' m.υ' (ids ++ List.range' s.nx m.g.news.length)) s.nx m.g.news) id with
    | none =>
      rw [hu] at hb
      obtain ⟨x, y⟩ := hw.hp id bk hb
      exact ⟨by omega, Bk.bd_mono (Nat.le_add_right _ _) y⟩
    | some b' =>
      rw [hu] at hb
      cases hb
      rcases upMem hu with ⟨i, b, hi, hpi, rfl⟩ | ⟨j, b, hj, rfl, rfl⟩
      · exact ⟨by have := hlt id (List.mem_of_getElem? hi); omega, bk_bd_rn hθb (obd_get hpb hpi)⟩
      · exact ⟨by have := (List.getElem?_eq_some_iff.1 hj).1; omega, bk_bd_rn hθb (hnb b (List.mem_of_getElem? hj))⟩
  · intro w0 ρ0 ρ a w hI
    let θ := ids ++ List.range' s.nx m.g.news.length
    have hs : slotsOK (V.sub m.τ m.υ) (fun i => ρ (θ.getD i 0)) a m.g.sl := (slotsOK_rn (r := smR m.τ θ) (fun x => den_smR)).1 (ownSl_spec hI.slots hsl ho.1)
    have hpre : preOK (V.sub m.τ m.υ) (fun i => ρ (θ.getD i 0)) w m.g.pre m.g.post := by
      constructor
      · intro i j hi hj hor he
        simp only [θ] at he
        rw [hθ i (by omega), hθ j (by omega)] at he
        obtain ⟨x, hx, hx', _⟩ := hid i (by omega)
        obtain ⟨y, hy, hy', _⟩ := hid j (by omega)
        rw [hx', hy'] at he
        have kx : lvO (lkH s.hp x) = true := by
          cases hb : lkH rd x with
          | none => exact absurd hb (t4 x (List.mem_of_getElem? hx))
          | some bk => rw [(t2 _ (lkH_mem hb)).1]; exact (t2 _ (lkH_mem hb)).2
        have ky : lvO (lkH s.hp y) = true := by
          cases hb : lkH rd y with
          | none => exact absurd hb (t4 y (List.mem_of_getElem? hy))
          | some bk => rw [(t2 _ (lkH_mem hb)).1]; exact (t2 _ (lkH_mem hb)).2
        have wrR : ∀ {k z : Nat}, ids[k]? = some z → isWr m.g.post k = true → rl.any (Nat.beq z) = false := by
          intro k z hk hwr
          unfold isWr at hwr
          split at hwr
          · rename_i b hb; exact roIds_get hroi hk hb
          · cases hwr
        have hxy := hI.inj x y kx ky (hor.imp (wrR hx) (wrR hy)) he
        subst hxy
        exact nodup_get hnd hx hy
      · intro i bk hb
        have hi : i < ids.length := by rw [t1]; exact (List.getElem?_eq_some_iff.1 hb).1
        obtain ⟨x, hx, hx', _⟩ := hid i hi
        obtain ⟨k, hk, hd⟩ := t3 i x bk hx hb
        show bk.holds _ _ w.heap[(ρ _).1]?
        simp only [θ]
        rw [hθ i hi, hx']
        exact (holds_smB hE hO).1 (hd ρ _ (hI.heap x k (t2 _ (lkH_mem hk)).1))
    have hst : ∀ w', Fr w w' (fun b => ∃ i, i < m.g.pre.length ∧ isWr m.g.post i = true ∧ (ρ (θ.getD i 0)).1 = b) → J w' := by
      intro w' hfr
      refine hI.jst w' (hI.fr.trans hfr ?_)
      rintro x hx ⟨i, hi, hwr, rfl⟩
      have hil : i < ids.length := by omega
      obtain ⟨y, hy, hy', hyn⟩ := hid i hil
      simp only [θ] at hx ⊢
      rw [hθ i hil, hy'] at hx ⊢
      have hro : rl.any (Nat.beq y) = false := by
        unfold isWr at hwr
        split at hwr
        · rename_i b hb; exact roIds_get hroi hy hb
        · cases hwr
      have hl : lvO (lkH s.hp y) = true := by
        cases hb : lkH rd y with
        | none => exact absurd hb (t4 y (List.mem_of_getElem? hy))
        | some bk => rw [(t2 _ (lkH_mem hb)).1]; exact (t2 _ (lkH_mem hb)).2
      by_cases hp : y < p0
      · exact ⟨y, hp, hro, by rw [hI.old y hp]⟩
      · rcases hI.new y hl (by omega) with hge | ⟨k, hk, hk0, _, hk2⟩
        · omega
        · exact ⟨k, hk, hk0, hk2.symm⟩
    refine loopWp_mono (hg _ a w hst hI.size hI.defers hs hpre) ?_
    rintro e a' w' ⟨rfl, hsz, hdf, ρc, hsl', h1, h2, h3, h5, h6, h7⟩
    refine ⟨rfl, ?_⟩
    let ρ' : Nat → Nat × Nat := fun id => if s.nx ≤ id ∧ id < s.nx + m.g.news.length then ρc (m.g.pre.length + (id - s.nx)) else ρ id
    have hag : ∀ id, ¬ (s.nx ≤ id ∧ id < s.nx + m.g.news.length) → ρ' id = ρ id := fun id hid => if_neg hid
    have hnw : ∀ j, j < m.g.news.length → ρ' (s.nx + j) = ρc (m.g.pre.length + j) := fun j hj => by
      show (if _ then _ else _) = _
      rw [if_pos ⟨by omega, by omega⟩, show s.nx + j - s.nx = j by omega]
    have key : ∀ i, i < m.g.pre.length + m.g.news.length → ρ' (θ.getD i 0) = ρc i := fun i hi => by
      rcases Nat.lt_or_ge i m.g.pre.length with hlt' | hge
      · obtain ⟨x, hx, hx', hxn⟩ := hid i (by omega)
        rw [h1 i hlt']
        show ρ' _ = ρ _
        simp only [θ]
        rw [hθ i (by omega), hx', hag x (by omega)]
      · obtain ⟨j, rfl⟩ : ∃ j, i = m.g.pre.length + j := ⟨i - m.g.pre.length, by omega⟩
        have := hθn j (by omega)
        rw [t1] at this
        simp only [θ]
        rw [this, hnw j (by omega)]
    have hP : PostAt V s.nx ρ w ⟨.any, rd, upOld (smB m.τ' m.υ' θ) ids m.g.post ++ upNew (smB m.τ' m.υ' θ) s.nx m.g.news, m.g.news.length⟩ undef w' ρ' := by
      refine ⟨hag, ?_, ?_, fun hc => absurd rfl hc, ?_, ?_⟩
      · intro id a b
        obtain ⟨j, rfl⟩ : ∃ j, id = s.nx + j := ⟨id - s.nx, by omega⟩
        simp only at b
        rw [hnw j (by omega)]
        rcases h2 j (by omega) with hge | ⟨g', hg, he⟩
        · exact .inl hge
        · have hil : g' < ids.length := Nat.lt_of_lt_of_le (List.getElem?_eq_some_iff.1 hg).1 hpl
          obtain ⟨x, hx, hx', hxn⟩ := hid g' hil
          refine .inr ⟨x, by rw [lkH_append', upOld_gone (r := smB m.τ' m.υ' θ) rfl hnd hx hg], by omega, ?_⟩
          rw [he]
          show (ρ _).1 = _
          simp only [θ]
          rw [hθ g' hil, hx']
      · intro i j a b c d he
        obtain ⟨i, rfl⟩ : ∃ k, i = s.nx + k := ⟨i - s.nx, by omega⟩
        obtain ⟨j, rfl⟩ : ∃ k, j = s.nx + k := ⟨j - s.nx, by omega⟩
        simp only at b d
        rw [hnw i (by omega), hnw j (by omega)] at he
        rw [h3 i j (by omega) (by omega) he]
      · intro id bk hb
        rcases upMem hb with ⟨i, b, hi, hpi, rfl⟩ | ⟨j, b, hj, rfl, rfl⟩
        · have hil : i < ids.length := (List.getElem?_eq_some_iff.1 hi).1
          obtain ⟨x, hx, hx', hxn⟩ := hid i hil
          rw [hi] at hx; cases hx
          rw [holds_smB hE hO, Bk.holds_agree (ρ := ρc) (n := m.g.pre.length + m.g.news.length) key (obd_get hpb hpi), hag id (by omega)]
          have := h5 i b hpi
          simp only [θ] at this
          rwa [hθ i hil, hx'] at this
        · have hjl : j < m.g.news.length := (List.getElem?_eq_some_iff.1 hj).1
          rw [holds_smB hE hO, Bk.holds_agree (ρ := ρc) (n := m.g.pre.length + m.g.news.length) key (hnb b (List.mem_of_getElem? hj)), hnw j hjl]
          exact h6 j b hj
      · refine h7.mono ?_
        rintro x _ ⟨i, bk, hi, rfl⟩
        have hil : i < ids.length := Nat.lt_of_lt_of_le (List.getElem?_eq_some_iff.1 hi).1 hpl
        obtain ⟨y, hy, hy', hyn⟩ := hid i hil
        refine ⟨y, lkH_of_mem (x := (y, smB m.τ' m.υ' θ bk)) (List.mem_append_left _ (upOld_mem hy hi)), by omega, ?_⟩
        show (ρ y).1 = (ρ _).1
        simp only [θ]
        rw [hθ i hil, hy']
    have hI0 : Inv J V w0 ρ0 p0 N (fun i => rl.any (Nat.beq i)) ρ (fun _ => .any) (lkH s.hp) a' w := ⟨hsz, hdf, fun t ht => absurd rfl ht, hI.heap, hI.inj, hI.fr, hI.old, hI.new, hI.jst⟩
    have hI1 := hI0.stepAt (d := none) hP (fun id hu hnew => by
        cases hb : lkH (upOld (smB m.τ' m.υ' θ) ids m.g.post ++ upNew (smB m.τ' m.υ' θ) s.nx m.g.news) id with
        | none => exact absurd hb hu
        | some bk =>
          rcases upMem hb with ⟨i, b, hi, hpi, rfl⟩ | ⟨j, b, hj, rfl, rfl⟩
          · cases hq : lkH rd id with
            | none => exact absurd hq (t4 id (List.mem_of_getElem? hi))
            | some bk' => rw [(t2 _ (lkH_mem hq)).1]; exact (t2 _ (lkH_mem hq)).2
          · have hjl : j < m.g.news.length := (List.getElem?_eq_some_iff.1 hj).1
            exact absurd ⟨by omega, by simp only; omega⟩ hnew)
      (fun id hu => by
        cases hb : lkH (upOld (smB m.τ' m.υ' θ) ids m.g.post ++ upNew (smB m.τ' m.υ' θ) s.nx m.g.news) id with
        | none => exact absurd hb hu
        | some bk =>
          rcases upMem hb with ⟨i, b, hi, hpi, rfl⟩ | ⟨j, b, hj, rfl, rfl⟩
          · exact roIds_get hroi hi hpi
          · exact hroF _ (by omega))
      (fun id a b => ⟨by
        cases hb : lkH s.hp id with
        | none => rfl
        | some bk => have := (hw.hp id bk hb).1; omega, Nat.le_trans hw.p0 a⟩)
      (fun _ => rfl) (fun id bk hb => Bk.out_of_bd (hw.hp id bk hb).2) (fun t ht => by cases ht)
    refine ⟨ρ', hI1.size, hI1.defers, ?_, ?_, ?_, hI1.fr, hI1.old, ?_, hI1.jst⟩
    · refine slotsOK_lk ((slotsOK_rn (V' := V.sub m.τ' m.υ') (ρ' := fun i => ρ' (θ.getD i 0)) (r := smR m.τ' θ) (fun x => den_smR)).2 ?_)
      exact (slotsOK_bd (n := m.g.pre.length + m.g.news.length) key hsb).2 hsl'
    · intro id bk hb
      rw [lkH_putH] at hb
      exact hI1.heap id bk hb
    · intro i j hi hj
      rw [lkH_putH] at hi hj
      exact hI1.inj i j hi hj
    · intro i hi
      rw [lkH_putH] at hi ⊢
      exact hI1.new i hi
end RX
end Go.Proofs.Ytieencpejpeenaa
end
section
namespace Go.Proofs.Ytieencpejpeenaa
open Go.RowKit
namespace RX
set_option linter.unnecessarySimpa false
set_option linter.unusedVariables false
set_option linter.unusedSimpArgs false
abbrev R6 := Option (Ex × St × List Hint × List Obl × List (Code × Nat))
def exec (P : Program) (Γ : List Gm) (S : List Sm) (lens ro : List Nat) (N : Nat) : Nat → Bool → Code → St → List Hint → R6
  | 0, _, _, _, _ => none
  | n + 1, true, c, s, hs => match hs with
    | .rest k ids :: hs' => match S[k]? with
      | some m => match segAt ro N s m ids with
        | some (s', os) => some (m.g.ex, s', hs', os, [(c, k)])
        | none => none
      | none => none
    | hs => match exec P Γ S lens ro N n false c s hs with
      | some (.normal, s1, h1, o1, c1) => match exec P Γ S lens ro N n true c s1 h1 with
        | some (e, s2, h2, o2, c2) => some (e, s2, h2, o1 ++ o2, c1 ++ c2)
        | none => none
      | r => r
  | n + 1, false, c, s, hs => match c with
    | .skip => some (.normal, s, hs, [], [])
    | .label _ => some (.normal, s, hs, [], [])
    | .region _ ops draw => match runOps P Γ lens ro N ops ops.toList s hs with
      | some (L, ns, s', hs', os) => cond (!draw || indep ops L ns) (some (.normal, s', hs', os, [])) none
      | none => none
    | .seq x y => match exec P Γ S lens ro N n false x s hs with
      | some (.normal, s1, h1, o1, c1) => match exec P Γ S lens ro N n false y s1 h1 with
        | some (e, s2, h2, o2, c2) => some (e, s2, h2, o1 ++ o2, c1 ++ c2)
        | none => none
      | r => r
    | .cond v x y => match avOf (lkS s.sl) v with
      | .bo true => exec P Γ S lens ro N n false x s hs
      | .bo false => exec P Γ S lens ro N n false y s hs
      | sv => match hs with
        | .br t :: hs' => match exec P Γ S lens ro N n false (cond t x y) s hs' with
          | some (e, s2, h2, o2, c2) => cond (okVal sv) (some (e, s2, h2, .eq sv (.bo t) :: o2, c2)) none
          | none => none
        | _ => none
    | .block id b => match exec P Γ S lens ro N n false b s hs with
      | some (.exit j, s2, h2, o2, c2) => some (cond (Nat.beq j id) .normal (.exit j), s2, h2, o2, c2)
      | r => r
    | .loop b => match hs with
      | .seg k ids :: hs' => match S[k]? with
        | some m => match segAt ro N s m ids with
          | some (s', os) => some (m.g.ex, s', hs', os, [(b, k)])
          | none => none
        | none => none
      | hs => exec P Γ S lens ro N n true b s hs
    | .scope b => exec P Γ S lens ro N n false b s hs
    | .exit id => some (.exit id, s, hs, [], [])
    | .ret => some (.ret, s, hs, [], [])
    | _ => none
/-- The laws of stretches that a way leans on. -/
def allC (J : World → Prop) (P : Program) (N : Nat) (V : Env) (S : List Sm) : List (Code × Nat) → Prop
  | [] => True
  | (c, k) :: r => (∀ m, S[k]? = some m → m.g.ValidLJ J P N c (V.sub m.τ m.υ) (V.sub m.τ' m.υ')) ∧ allC J P N V S r
theorem allC_app {J : World → Prop} {P : Program} {N : Nat} {V : Env} {S : List Sm} : ∀ {a b : List (Code × Nat)}, allC J P N V S (a ++ b) ↔ allC J P N V S a ∧ allC J P N V S b
  | [], _ => by simp [allC]
  | (c, k) :: r, b => by simp only [List.cons_append, allC, allC_app, and_assoc]

section
variable {J : World → Prop} {P : Program} {V : Env} {Γ : List Gm} {S : List Sm} {lens ro : List Nat} {N p0 : Nat}
def Way (J : World → Prop) (P : Program) (V : Env) (p0 N : Nat) (ro : List Nat) (lp : Bool) (c : Code) (s : St) (e : Ex) (s' : St) : Prop :=
  ∀ (w0 : World) (ρ0 ρ : Nat → Nat × Nat) (a : Act) (w : World), Inv J V w0 ρ0 p0 N (fun i => ro.any (Nat.beq i)) ρ (lkS s.sl) (lkH s.hp) a w →
    cond lp (loopWp P c (fun x a' w' => x = e.to ∧ ∃ ρ', Inv J V w0 ρ0 p0 N (fun i => ro.any (Nat.beq i)) ρ' (lkS s'.sl) (lkH s'.hp) a' w') a w) (c.wp P (fun x a' w' => x = e.to ∧ ∃ ρ', Inv J V w0 ρ0 p0 N (fun i => ro.any (Nat.beq i)) ρ' (lkS s'.sl) (lkH s'.hp) a' w') a w)
theorem exec_ok (hm : P.follows .mixedOrders = true) (hV : VOK V lens) (hE : V.E.length ≤ 1000000) (hO : V.O.length ≤ 1000000) (hΓ : allG J P V Γ) :
    ∀ (n : Nat) (lp : Bool) (c : Code) (s : St) (hs : List Hint) (e : Ex) (s' : St) (hs' : List Hint) (os : List Obl) (cs : List (Code × Nat)), exec P Γ S lens ro N n lp c s hs = some (e, s', hs', os, cs) → allO P V os → allC J P N V S cs → WF p0 s → WF p0 s' ∧ Way J P V p0 N ro lp c s e s' := by
  intro n
  induction n with
  | zero => intro lp c s hs e s' hs' os cs h; cases lp <;> simp [exec] at h
  | succ n ih =>
    intro lp c s hs e s' hs' os cs h ho hc hw
    cases lp with
    | true =>
      unfold exec at h
      split at h
      · rename_i k ids hs1
        split at h
        · rename_i m hmm
          split at h
          · rename_i s2 o2 hsg
            cases h
            obtain ⟨hw1, W1⟩ := segAt_ok hE hO hsg ho hw (hc.1 m hmm)
            exact ⟨hw1, fun w0 ρ0 ρ a w hI => W1 hI⟩
          · cases h
        · cases h
      split at h
      · rename_i s1 h1 o1 c1 hx
        split at h
        · rename_i e2 s2 h2 o2 c2 hy
          cases h
          rw [allO_app] at ho
          rw [allC_app] at hc
          obtain ⟨hw1, W1⟩ := ih _ _ _ _ _ _ _ _ _ hx ho.1 hc.1 hw
          obtain ⟨hw2, W2⟩ := ih _ _ _ _ _ _ _ _ _ hy ho.2 hc.2 hw1
          refine ⟨hw2, fun w0 ρ0 ρ a w hI => ?_⟩
          refine loop_round (wp_mono (W1 w0 ρ0 ρ a w hI) ?_)
          rintro x a' w' ⟨rfl, ρ', hI'⟩
          exact W2 w0 ρ0 ρ' a' w' hI'
        · cases h
      · rename_i hne
        obtain ⟨hw1, W1⟩ := ih _ _ _ _ _ _ _ _ _ h ho hc hw
        refine ⟨hw1, fun w0 ρ0 ρ a w hI => loop_round (wp_mono (W1 w0 ρ0 ρ a w hI) ?_)⟩
        rintro x a' w' ⟨rfl, hq⟩
        cases e with
        | normal => exact absurd h (hne _ _ _ _)
        | exit id => exact ⟨rfl, hq⟩
        | ret => exact ⟨rfl, hq⟩
    | false =>
      unfold exec at h
      split at h
      -- skip, label
      · cases h; exact ⟨hw, fun w0 ρ0 ρ a w hI => wp_skip ⟨rfl, ρ, hI⟩⟩
      · cases h; exact ⟨hw, fun w0 ρ0 ρ a w hI => wp_label ⟨rfl, ρ, hI⟩⟩
      -- region
      · rename_i id ops draw
        split at h
        case h_2 => cases h
        rename_i L ns s2 h2 o2 hr
        obtain ⟨hq, h⟩ := cond_bind h
        cases h
        obtain ⟨R, hw', f1, f2, e1, e2, hlen⟩ := runOps_sq (N := N) (p0 := p0) hV hE hO hΓ hr ho hw
        refine ⟨hw', fun w0 ρ0 ρ a w hI => ?_⟩
        cases draw with
        | false =>
          refine R.wp hI fun ρ' a' w' hI' => ⟨rfl, ρ', ?_⟩
          rw [f1, f2, ← e1, ← e2] at hI'; exact hI'
        | true =>
          refine (runOps_reg R hlen (by simpa using hq)).wp hm hI fun ρ' a' w' hI' => ⟨rfl, ρ', ?_⟩
          rw [f1, f2, ← e1, ← e2] at hI'; exact hI'
      -- seq
      · rename_i x y
        split at h
        · rename_i s1 h1 o1 c1 hx
          split at h
          · rename_i e2 s2 h2 o2 c2 hy
            cases h
            rw [allO_app] at ho
            rw [allC_app] at hc
            obtain ⟨hw1, W1⟩ := ih _ _ _ _ _ _ _ _ _ hx ho.1 hc.1 hw
            obtain ⟨hw2, W2⟩ := ih _ _ _ _ _ _ _ _ _ hy ho.2 hc.2 hw1
            refine ⟨hw2, fun w0 ρ0 ρ a w hI => wp_seq (wp_mono (W1 w0 ρ0 ρ a w hI) ?_)⟩
            rintro x a' w' ⟨rfl, ρ', hI'⟩
            exact W2 w0 ρ0 ρ' a' w' hI'
          · cases h
        · rename_i hne
          obtain ⟨hw1, W1⟩ := ih _ _ _ _ _ _ _ _ _ h ho hc hw
          refine ⟨hw1, fun w0 ρ0 ρ a w hI => wp_seq (wp_mono (W1 w0 ρ0 ρ a w hI) ?_)⟩
          rintro x a' w' ⟨rfl, hq⟩
          cases e with
          | normal => exact absurd h (hne _ _ _ _)
          | exit id => exact ⟨rfl, hq⟩
          | ret => exact ⟨rfl, hq⟩
      -- cond
      · rename_i v x y
        split at h
        · rename_i hv
          obtain ⟨hw1, W1⟩ := ih _ _ _ _ _ _ _ _ _ h ho hc hw
          exact ⟨hw1, fun w0 ρ0 ρ a w hI => wp_cond_true (by rw [hI.eval v (by rw [hv]; simp), hv]; rfl) (W1 w0 ρ0 ρ a w hI)⟩
        · rename_i hv
          obtain ⟨hw1, W1⟩ := ih _ _ _ _ _ _ _ _ _ h ho hc hw
          exact ⟨hw1, fun w0 ρ0 ρ a w hI => wp_cond_false (by rw [hI.eval v (by rw [hv]; simp), hv]; rfl) (W1 w0 ρ0 ρ a w hI)⟩
        · split at h
          · rename_i t hs1
            split at h
            · rename_i e2 s2 h2 o2 c2 hx
              obtain ⟨hq, h⟩ := cond_bind h
              cases h
              obtain ⟨hw1, W1⟩ := ih _ _ _ _ _ _ _ _ _ hx ho.2 hc hw
              refine ⟨hw1, fun w0 ρ0 ρ a w hI => wp_cond (t := t) ?_ ?_⟩
              · rw [hI.eval v (okVal_spec hq).1]
                have := ho.1 ρ
                unfold den; rw [this]; rfl
              · have := W1 w0 ρ0 ρ a w hI
                cases t <;> exact this
            · cases h
          · cases h
      -- block
      · rename_i id b
        split at h
        · rename_i j s2 h2 o2 c2 hx
          cases h
          obtain ⟨hw1, W1⟩ := ih _ _ _ _ _ _ _ _ _ hx ho hc hw
          refine ⟨hw1, fun w0 ρ0 ρ a w hI => wp_block (wp_mono (W1 w0 ρ0 ρ a w hI) ?_)⟩
          rintro x a' w' ⟨rfl, hq⟩
          cases hj : Nat.beq j id with
          | true =>
            rw [Nat.eq_of_beq_eq_true hj]
            show (if id = id then _ else _)
            rw [if_pos rfl]; exact ⟨rfl, hq⟩
          | false =>
            show (if j = id then _ else _)
            rw [if_neg (fun e => by rw [e, Nat.beq_refl] at hj; cases hj)]; exact ⟨rfl, hq⟩
        · rename_i hne
          obtain ⟨hw1, W1⟩ := ih _ _ _ _ _ _ _ _ _ h ho hc hw
          refine ⟨hw1, fun w0 ρ0 ρ a w hI => wp_block (wp_mono (W1 w0 ρ0 ρ a w hI) ?_)⟩
          rintro x a' w' ⟨rfl, hq⟩
          cases e with
          | normal => exact ⟨rfl, hq⟩
          | exit id => exact absurd h (hne _ _ _ _ _)
          | ret => exact ⟨rfl, hq⟩
      -- loop
      · rename_i b
        split at h
        · rename_i k ids hs1
          split at h
          · rename_i m hmm
            split at h
            · rename_i s2 o2 hsg
              cases h
              obtain ⟨hw1, W1⟩ := segAt_ok hE hO hsg ho hw (hc.1 m hmm)
              exact ⟨hw1, fun w0 ρ0 ρ a w hI => loop_of (W1 hI)⟩
            · cases h
          · cases h
        · obtain ⟨hw1, W1⟩ := ih _ _ _ _ _ _ _ _ _ h ho hc hw
          exact ⟨hw1, fun w0 ρ0 ρ a w hI => loop_of (W1 w0 ρ0 ρ a w hI)⟩
      -- scope
      · obtain ⟨hw1, W1⟩ := ih _ _ _ _ _ _ _ _ _ h ho hc hw
        refine ⟨hw1, fun w0 ρ0 ρ a w hI => wp_scope_straight (wp_mono (W1 w0 ρ0 ρ a w hI) ?_)⟩
        rintro x a' w' ⟨rfl, hq⟩
        cases e <;> exact ⟨rfl, hq⟩
      · cases h; exact ⟨hw, fun w0 ρ0 ρ a w hI => wp_exit ⟨rfl, ρ, hI⟩⟩
      · cases h; exact ⟨hw, fun w0 ρ0 ρ a w hI => wp_ret ⟨rfl, ρ, hI⟩⟩
      · cases h
end
end RX
end Go.Proofs.Ytieencpejpeenaa
end
section
namespace Go.Proofs.Ytieencpejpeenaa
open Go.RowKit
namespace RX
set_option linter.unnecessarySimpa false
set_option linter.unusedVariables false
set_option linter.unusedSimpArgs false
def startSl : Nat → SV → List (Nat × SV)
  | i, .cons h t => (i, h) :: startSl (i + 1) t
  | _, _ => []
def startHp : Nat → List Bk → List (Nat × Bk)
  | i, b :: r => (i, b) :: startHp (i + 1) r
  | _, [] => []
def rnEs (τ υ : List Nat) : List Bk → List Bk
  | [] => []
  | b :: r => b.rnE τ υ :: rnEs τ υ r
theorem rnEs_get {τ υ : List Nat} : ∀ {l : List Bk} {i : Nat}, (rnEs τ υ l)[i]? = (l[i]?).map (Bk.rnE τ υ)
  | [], i => by simp [rnEs]
  | b :: r, 0 => by simp [rnEs]
  | b :: r, i + 1 => by simpa [rnEs] using rnEs_get (l := r) (i := i)
theorem startHp_get : ∀ {l : List Bk} {i id : Nat} {b : Bk}, lkH (startHp i l) id = some b → i ≤ id ∧ l[id - i]? = some b
  | [], _, _, _, h => by simp [startHp, lkH] at h
  | c :: r, i, id, b, h => by
    simp only [startHp, lkH] at h
    cases hq : Nat.beq i id with
    | true => rw [hq] at h; cases h; rw [Nat.eq_of_beq_eq_true hq]; exact ⟨Nat.le_refl _, by simp⟩
    | false =>
      rw [hq] at h
      obtain ⟨h1, h2⟩ := startHp_get h
      refine ⟨by omega, ?_⟩
      rw [show id - i = (id - (i + 1)) + 1 by omega]
      simpa using h2
theorem startSl_get {V : Env} {ρ : Nat → Nat × Nat} : ∀ {l : SV} {i t : Nat}, l.isL = true → lkS (startSl i l) t ≠ .any → i ≤ t ∧ (dl V ρ l)[t - i]? = some (den V ρ (lkS (startSl i l) t)) ∧ t < i + l.len
  | .nil, _, _, _, h => absurd rfl h
  | .cons x r, i, t, hl, h => by
    simp only [SV.isL, Bool.and_eq_true] at hl
    simp only [startSl, lkS] at h ⊢
    simp only [dl, dl_single hl.1]
    cases hq : Nat.beq i t with
    | true => rw [Nat.eq_of_beq_eq_true hq]; exact ⟨Nat.le_refl _, by simp, by simp only [SV.len]; omega⟩
    | false =>
      rw [hq] at h
      simp only [cond_false] at h ⊢
      obtain ⟨h1, h2, h3⟩ := startSl_get (V := V) (ρ := ρ) hl.2 h
      refine ⟨by omega, ?_, by simp only [SV.len]; omega⟩
      rw [show t - i = (t - (i + 1)) + 1 by omega]
      simpa using h2

/-- The blocks behind, as they are told. -/
def finB (hp : List (Nat × Bk)) (r : Bk → Bk) : Nat → List (Option Bk) → Option (List Obl)
  | _, [] => some []
  | i, none :: ps => finB hp r (i + 1) ps
  | i, some b' :: ps => match lkH hp i, finB hp r (i + 1) ps with
    | some b, some os => (mtB b (r b')).map (· ++ os)
    | _, _ => none
def newB (hp : List (Nat × Bk)) (r : Bk → Bk) : List Nat → List Bk → Option (List Obl)
  | [], [] => some []
  | id :: ids, b' :: bs => match lkH hp id, newB hp r ids bs with
    | some b, some os => (mtB b (r b')).map (· ++ os)
    | _, _ => none
  | _, _ => none
theorem finB_spec {P : Program} {V : Env} {hp : List (Nat × Bk)} {r : Bk → Bk} : ∀ {ps : List (Option Bk)} {i : Nat} {os : List Obl}, finB hp r i ps = some os → allO P V os →
    ∀ (k : Nat) (b' : Bk), ps[k]? = some (some b') → ∃ b, lkH hp (i + k) = some b ∧ b.live = (r b').live ∧ ∀ ρ o, b.holds V ρ o → (r b').holds V ρ o
  | [], _, _, _, _, k, _, hk => by simp at hk
  | none :: ps, i, os, h, ho, k, b1, hk => by
    cases k with
    | zero => simp at hk
    | succ k =>
      have := finB_spec (ps := ps) h ho k b1 (by simpa using hk)
      rwa [show i + 1 + k = i + (k + 1) by omega] at this
  | some b0 :: ps, i, os, h, ho, k, b1, hk => by
    unfold finB at h
    split at h
    case h_2 => cases h
    rename_i b os' hb hr
    obtain ⟨o, hm, rfl⟩ := Option.map_eq_some_iff.1 h
    rw [allO_app] at ho
    cases k with
    | zero => simp at hk; subst hk; exact ⟨b, hb, mtB_live hm, fun ρ o => mtB_spec hm ho.1 ρ⟩
    | succ k =>
      have := finB_spec hr ho.2 k b1 (by simpa using hk)
      rwa [show i + 1 + k = i + (k + 1) by omega] at this
theorem newB_spec {P : Program} {V : Env} {hp : List (Nat × Bk)} {r : Bk → Bk} : ∀ {ids : List Nat} {bs : List Bk} {os : List Obl}, newB hp r ids bs = some os → allO P V os →
    ids.length = bs.length ∧ ∀ (k : Nat) (b' : Bk), bs[k]? = some b' → ∃ id b, ids[k]? = some id ∧ lkH hp id = some b ∧ b.live = (r b').live ∧ ∀ ρ o, b.holds V ρ o → (r b').holds V ρ o
  | [], [], _, _, _ => ⟨rfl, fun k b' hk => by simp at hk⟩
  | id :: ids, b0 :: bs, os, h, ho => by
    unfold newB at h
    split at h
    case h_2 => cases h
    rename_i b os' hb hr
    obtain ⟨o, hm, rfl⟩ := Option.map_eq_some_iff.1 h
    rw [allO_app] at ho
    obtain ⟨h1, h2⟩ := newB_spec hr ho.2
    refine ⟨by simp [h1], fun k b' hk => ?_⟩
    cases k with
    | zero => simp at hk; subst hk; exact ⟨id, b, rfl, hb, mtB_live hm, fun ρ o => mtB_spec hm ho.1 ρ⟩
    | succ k => obtain ⟨id', b2, x, y, z⟩ := h2 k b' (by simpa using hk); exact ⟨id', b2, by simpa using x, y, z⟩
  | [], _ :: _, _, h, _ => by simp [newB] at h
  | _ :: _, [], _, h, _ => by simp [newB] at h
def finAt (p : Nat) (hp : List (Nat × Bk)) (r : Bk → Bk) (post : List (Option Bk)) (news : List Bk) (outs : List Nat) : Option (List Obl) :=
  match finB hp r 0 post, newB hp r outs news with
  | some o1, some o2 => cond (nodupB outs && (outs.all (fun i => Nat.ble p i) && (Nat.ble post.length p && news.all Bk.live))) (some (o1 ++ o2)) none
  | _, _ => none
section
variable {J : World → Prop} {P : Program} {V : Env} {p N : Nat} {ρ ρ' : Nat → Nat × Nat} {w w' : World} {σs : Nat → SV} {a' : Act}
theorem live_smB {τ υ θ : List Nat} {b : Bk} : (smB τ υ θ b).live = b.live := by unfold smB; rw [Bk.live_rnI, Bk.live_rnE]
theorem fin_ok (hE : V.E.length ≤ 1000000) (hO : V.O.length ≤ 1000000) {hp : List (Nat × Bk)} {τ υ : List Nat} {post : List (Option Bk)} {news : List Bk} {outs : List Nat} {os : List Obl}
    (h : finAt p hp (smB τ υ (List.range p ++ outs)) post news outs = some os) (ho : allO P V os) {ro : Nat → Bool} (hro : ∀ i, p ≤ i → ro i = false) (hwr : ∀ i, i < p → ro i = false → isWr post i = true) (hI : Inv J V w ρ p N ro ρ' σs (lkH hp) a' w') :
    postOK (V.sub τ υ) p post news ρ (fun i => ρ' ((List.range p ++ outs).getD i 0)) w w' := by
  unfold finAt at h
  split at h
  case h_2 => cases h
  rename_i o1 o2 hf hn
  obtain ⟨hq, he⟩ := cond_bind h
  cases he
  rw [allO_app] at ho
  simp only [Bool.and_eq_true, List.all_eq_true, Nat.ble_eq] at hq
  obtain ⟨hnd, hge, hpl, hlv⟩ := hq
  obtain ⟨hlen, hnew⟩ := newB_spec hn ho.2
  have hfin := finB_spec hf ho.1
  have hθ : ∀ i, i < p → (List.range p ++ outs).getD i 0 = i := fun i hi => by
    rw [List.getD_eq_getElem?_getD, List.getElem?_append_left (by simpa using hi)]; simp [hi]
  have hθn : ∀ (j id : Nat), outs[j]? = some id → (List.range p ++ outs).getD (p + j) 0 = id := fun j id hj => by
    rw [List.getD_eq_getElem?_getD, List.getElem?_append_right (by simp)]; simp [hj]
  have get : ∀ j, j < news.length → ∃ id b bk, outs[j]? = some id ∧ news[j]? = some bk ∧ lkH hp id = some b ∧ lvO (lkH hp id) = true ∧ (∀ ρ o, b.holds V ρ o → (smB τ υ (List.range p ++ outs) bk).holds V ρ o) ∧ p ≤ id := fun j hj => by
    obtain ⟨id, b, h1, h2, h3, h4⟩ := hnew j _ (List.getElem?_eq_getElem hj)
    refine ⟨id, b, _, h1, List.getElem?_eq_getElem hj, h2, ?_, h4, hge id (List.mem_of_getElem? h1)⟩
    rw [h2]
    show b.live = true
    rw [h3, live_smB]; exact hlv _ (List.getElem_mem hj)
  refine ⟨fun i hi => by simp only; rw [hθ i hi]; exact hI.old i hi, ?_, ?_, ?_, ?_, ?_⟩
  · intro j hj
    obtain ⟨id, b, bk, h1, _, h2, h5, _, h4⟩ := get j hj
    simp only
    rw [hθn j id h1]
    rcases hI.new id h5 h4 with hge | ⟨k, hk, hk0, hk1, hk2⟩
    · exact .inl hge
    · refine .inr ⟨k, ?_, hk2⟩
      have hw := hwr k hk hk0
      unfold isWr at hw
      split at hw
      · rename_i b' hb'
        obtain ⟨b'', x, y, _⟩ := hfin k b' hb'
        rw [Nat.zero_add, hk1] at x
        cases x
        rw [live_smB] at y
        rw [hb', gone_of y.symm]
      · cases hw
  · intro i j hi hj he
    obtain ⟨x, bx, _, h1, _, h2, h5, _, hpx⟩ := get i hi
    obtain ⟨y, bY, _, k1, _, k2, k5, _, _⟩ := get j hj
    simp only at he
    rw [hθn i x h1, hθn j y k1] at he
    have := hI.inj x y h5 k5 (.inl (hro x (by assumption))) he
    subst this
    exact nodup_get hnd h1 k1
  · intro i bk hb
    have hi : i < p := Nat.lt_of_lt_of_le (List.getElem?_eq_some_iff.1 hb).1 hpl
    obtain ⟨b, hl, _, hh⟩ := hfin i bk hb
    rw [Nat.zero_add] at hl
    have := hh ρ' _ (hI.heap i b hl)
    rw [hI.old i hi] at this
    exact (holds_smB hE hO).1 this
  · intro j bk hb
    have hj : j < news.length := (List.getElem?_eq_some_iff.1 hb).1
    obtain ⟨id, b, bk', h1, h0, h2, _, h3, _⟩ := get j hj
    rw [hb] at h0; cases h0
    simp only
    rw [hθn j id h1]
    exact (holds_smB hE hO).1 (h3 ρ' _ (hI.heap id b h2))
  · refine hI.fr.mono ?_
    rintro b hb ⟨i, hi, hi0, rfl⟩
    have hw := hwr i hi hi0
    unfold isWr at hw
    split at hw
    · rename_i b' hb'; exact ⟨i, b', hb', rfl⟩
    · cases hw
end

/-! Results -/
def resCell (P : Program) (hp : List (Nat × Bk)) (ty : TypeId) : SV → Option SV
  | .ptr id .nil off => match lkH hp id, rowOf P ty, sizeT P ty with
    | some (.cs _ l), some true, some n => cond (l.isL && Nat.ble (off + n) l.len) (some (.agg (SV.takeL n (SV.dropL off l)))) none
    | some (.cs _ l), some false, some _ => cond (l.isL && Nat.ble (off + 1) l.len) (some (SV.nthL off l)) none
    | _, _, _ => none
  | _ => none
theorem resCell_run {P : Program} {V : Env} {hp : List (Nat × Bk)} {ty : TypeId} {x v : SV} (h : resCell P hp ty x = some v) {ρ : Nat → Nat × Nat} {w : World} (hh : ∀ id bk, lkH hp id = some bk → bk.holds V ρ w.heap[(ρ id).1]?) :
    (do loadVar ty (← asAddr (den V ρ x)) : Sem Value).run P w = .ok (den V ρ v) w := by
  unfold resCell at h
  split at h
  case h_2 => cases h
  rename_i id off
  have hx : den V ρ (.ptr id .nil off) = .pointer (some ⟨(ρ id).1, off, none⟩) := by simp [den, dl, natV, undef]
  rw [hx]
  show (Instr.loadAt ty (.pointer (some ⟨(ρ id).1, off, none⟩))).run P w = _
  split at h
  · rename_i t l n hb hr hn
    obtain ⟨hq, he⟩ := cond_bind h
    cases he
    simp only [Bool.and_eq_true, Nat.ble_eq] at hq
    have hl := take_len (V := V) hq.1 hq.2 ρ
    refine run_load_row (hh id _ hb) hr (by rw [hl]; exact hn) ?_
    rw [hl, dl_take (isL_drop hq.1), dl_drop hq.1]
  · rename_i t l n hb hr hn
    obtain ⟨hq, he⟩ := cond_bind h
    cases he
    simp only [Bool.and_eq_true, Nat.ble_eq] at hq
    refine run_load_one (hh id _ hb) hr ?_
    rw [List.getElem?_toArray]
    exact (dl_nth hq.1 (by omega)).1
  · cases h
def resVars (P : Program) (s : St) : List ResultVar → Option SV
  | [] => some .nil
  | .tmp t :: r => match resVars P s r with
    | some l => cond (okVal (lkS s.sl t)) (some (.cons (lkS s.sl t) l)) none
    | none => none
  | .cell a ty :: r => match resCell P s.hp ty (lkS s.sl a), resVars P s r with
    | some v, some l => cond (okVal v) (some (.cons v l)) none
    | _, _ => none
def resS (P : Program) (fn : Func) (s : St) : Option SV := match resVars P s fn.results.toList with
  | some (.cons v .nil) => some v
  | some l => some (.tup l)
  | none => none
def resFn (tmps : Array Value) : ResultVar → Sem Value
  | .tmp t => pure (tmps.getD t undef)
  | .cell a t => do loadVar t (← asAddr (tmps.getD a undef))
theorem results_eq (fn : Func) (tmps : Array Value) : results fn tmps = (do let vs ← fn.results.mapM (resFn tmps); pure (if h : vs.size = 1 then vs[0] else .tuple vs)) := by
  unfold results
  first | rfl | (congr 1; done) | (congr 1; congr 1; funext r; cases r <;> rfl)
theorem resVars_run {P : Program} {V : Env} {s : St} {ρ : Nat → Nat × Nat} {a : Act} {w : World} (hs : ∀ t, lkS s.sl t ≠ .any → a.tmps.getD t undef = den V ρ (lkS s.sl t)) (hh : ∀ id bk, lkH s.hp id = some bk → bk.holds V ρ w.heap[(ρ id).1]?) :
    ∀ {rs : List ResultVar} {l : SV}, resVars P s rs = some l → (rs.mapM (resFn a.tmps)).run P w = .ok (dl V ρ l) w ∧ l.isL = true
  | [], l, h => by cases h; exact ⟨rfl, rfl⟩
  | .tmp t :: r, l, h => by
    unfold resVars at h
    split at h
    · rename_i l' hl
      obtain ⟨hq, he⟩ := cond_bind h
      cases he
      obtain ⟨h1, h2⟩ := okVal_spec hq
      obtain ⟨i1, i2⟩ := resVars_run hs hh hl
      refine ⟨?_, by simp only [SV.isL, h2, i2, Bool.and_self]⟩
      simp only [List.mapM_cons, Sem.run_bind, resFn, Sem.run_pure, Result.andThen, i1, dl, dl_single h2]
      rw [hs t h1]; rfl
    · cases h
  | .cell x ty :: r, l, h => by
    unfold resVars at h
    split at h
    · rename_i v l' hv hl
      obtain ⟨hq, he⟩ := cond_bind h
      cases he
      obtain ⟨h1, h2⟩ := okVal_spec hq
      obtain ⟨i1, i2⟩ := resVars_run hs hh hl
      refine ⟨?_, by simp only [SV.isL, h2, i2, Bool.and_self]⟩
      have hx : lkS s.sl x ≠ .any := by intro e; rw [e] at hv; simp [resCell] at hv
      have := resCell_run (V := V) hv (ρ := ρ) hh
      rw [← hs x hx] at this
      rw [List.mapM_cons, Sem.run_bind]
      show ((do loadVar ty (← asAddr (a.tmps.getD x undef)) : Sem Value).run P w).andThen _ = _
      rw [this]
      simp only [Result.andThen, Sem.run_bind, Sem.run_pure, i1, dl, dl_single h2]
      rfl
    · cases h
theorem resS_run {P : Program} {V : Env} {fn : Func} {s : St} {v : SV} (h : resS P fn s = some v) {ρ : Nat → Nat × Nat} {a : Act} {w : World} (hs : ∀ t, lkS s.sl t ≠ .any → a.tmps.getD t undef = den V ρ (lkS s.sl t)) (hh : ∀ id bk, lkH s.hp id = some bk → bk.holds V ρ w.heap[(ρ id).1]?) :
    (results fn a.tmps).run P w = .ok (den V ρ v) w := by
  unfold resS at h
  have run : ∀ {l : SV}, resVars P s fn.results.toList = some l → (results fn a.tmps).run P w = .ok (if h : (dl V ρ l).toArray.size = 1 then (dl V ρ l).toArray[0] else .tuple (dl V ρ l).toArray) w ∧ l.isL = true := by
    intro l hl
    obtain ⟨h1, h2⟩ := resVars_run (V := V) hs hh hl
    refine ⟨?_, h2⟩
    rw [results_eq, Sem.run_bind, Array.mapM_eq_mapM_toList, Sem.run_map, h1]
    rfl
  split at h
  · rename_i x hl
    cases h
    obtain ⟨h1, h2⟩ := run hl
    rw [h1]
    have : dl V ρ (.cons v .nil) = [den V ρ v] := by
      simp only [SV.isL, Bool.and_true] at h2
      simp only [dl, dl_single h2, List.append_nil]
    simp only [this]
    rfl
  · rename_i l hne hl
    cases h
    obtain ⟨h1, h2⟩ := run hl
    rw [h1, dif_neg]
    · rfl
    · intro hsz
      have hlen := dl_len (V := V) (ρ := ρ) h2
      simp only [List.size_toArray] at hsz
      cases l with
      | cons x t =>
        simp only [SV.len] at hlen
        have ht : t.len = 0 := by omega
        simp only [SV.isL, Bool.and_eq_true] at h2
        cases t with
        | nil => exact hne _ rfl
        | cons _ _ => simp [SV.len] at ht
        | _ => simp [SV.isL] at h2
      | nil => rw [hsz] at hlen; simp [SV.len] at hlen
      | _ => simp [SV.isL] at h2
  · cases h

/-! ### Contracts and laws -/
def bksB (n : Nat) : List Bk → Bool
  | [] => true
  | b :: r => b.bd n && bksB n r
theorem bksB_get {n : Nat} : ∀ {l : List Bk} {i : Nat} {b : Bk}, bksB n l = true → l[i]? = some b → b.bd n = true
  | [], _, _, _, h => by simp at h
  | c :: r, 0, b, h, hi => by simp only [bksB, Bool.and_eq_true] at h; simp at hi; subst hi; exact h.1
  | c :: r, i + 1, b, h, hi => by simp only [bksB, Bool.and_eq_true] at h; exact bksB_get h.2 (by simpa using hi)
def noAnyL : SV → Bool
  | .cons h t => okVal h && noAnyL t
  | _ => true
/-- The blocks that are read only. -/
def roList (post : List (Option Bk)) : Nat → List Nat
  | 0 => []
  | n + 1 => cond (isWr post n) (roList post n) (n :: roList post n)
theorem roList_lt {post : List (Option Bk)} : ∀ {n i : Nat}, i ∈ roList post n → i < n
  | 0, _, h => by cases h
  | n + 1, i, h => by
    simp only [roList] at h
    cases hq : isWr post n with
    | true => rw [hq] at h; have := roList_lt (n := n) h; omega
    | false =>
      rw [hq] at h
      rcases List.mem_cons.1 h with rfl | h
      · omega
      · have := roList_lt (n := n) h; omega
theorem roList_no {post : List (Option Bk)} : ∀ {n i : Nat}, i < n → (roList post n).any (Nat.beq i) = false → isWr post i = true
  | 0, _, h, _ => by omega
  | n + 1, i, h, hr => by
    simp only [roList] at hr
    by_cases e : i = n
    · subst e
      cases hq : isWr post i with
      | true => rfl
      | false => rw [hq] at hr; simp [Nat.beq_refl] at hr
    · refine roList_no (n := n) (by omega) ?_
      cases hq : isWr post n with
      | true => rw [hq] at hr; exact hr
      | false => rw [hq] at hr; simp only [cond_false, List.any_cons, Bool.or_eq_false_iff] at hr; exact hr.2
/-- A function's way, checked: what is owed. -/
def ctCheck (P : Program) (Γ : List Gm) (S : List Sm) (lens : List Nat) (fn : Func) (code : Code) (c : Ct) (τ υ : List Nat) (fuel : Nat) (hs : List Hint) (outs : List Nat) : Option (List Obl × List (Code × Nat)) :=
  (fun pre => cond ((c.args.rnE τ).isL && ((c.args.rnE τ).bd c.pre.length && bksB c.pre.length pre))
    (match exec P Γ S lens (roList c.post c.pre.length) (c.args.len + (fn.ntmps - c.args.len)) fuel false code ⟨startSl 0 (c.args.rnE τ), startHp 0 pre, c.pre.length⟩ hs with
      | some (.exit _, _, _, _, _) => none
      | some (_, s', [], os, cs) => match resS P fn s', finAt c.pre.length s'.hp (smB τ υ (List.range c.pre.length ++ outs)) c.post c.news outs with
        | some v, some o2 => match mt v (smR τ (List.range c.pre.length ++ outs) c.res) with
          | some o3 => some (os ++ (o2 ++ o3), cs)
          | none => none
        | _, _ => none
      | _ => none) none) (rnEs τ υ c.pre)
theorem len_rnE {τ : List Nat} : ∀ {l : SV}, (l.rnE τ).len = l.len := by
  intro l
  induction l <;> simp_all [SV.rnE, SV.len]
  split <;> rfl
theorem callFunc_enter {P : Program} {f : FuncId} {fn : Func} {c : Code} (hf : P.funcs[f]? = some fn) (hname : (fn.name == "runtime.NumGoroutine") = false) (hb : fn.body = some c) (args : Array Value) (w : World) : (callFunc f args).run P w = .ok (.enter f args) w := by
  have hn : ¬ fn.name = "runtime.NumGoroutine" := fun e => by rw [e] at hname; simp at hname
  simp [callFunc, hf, hn, hb]
/-- .. where J stays true while the written blocks change. -/
def Ct.ValidSt (J : World → Prop) (P : Program) (f : FuncId) (c : Ct) (V : Env) : Prop := ∀ ρ w, (∀ w', Fr w w' (fun b => ∃ i, i < c.pre.length ∧ (roList c.post c.pre.length).any (Nat.beq i) = false ∧ (ρ i).1 = b) → J w') →
  c.Pre V ρ w → growUpon P (c.Post V ρ w) ((callFunc f (dl V ρ c.args).toArray).run P w)
theorem Ct.ValidSt.plain {P : Program} {f : FuncId} {c : Ct} {V : Env} (h : c.ValidSt (fun _ => True) P f V) : c.Valid P f V := fun ρ w hp => h ρ w (fun _ _ => trivial) hp
section
variable {J : World → Prop} {P : Program} {V : Env} {Γ : List Gm} {S : List Sm} {lens : List Nat}
theorem Ct.of_exec {f : FuncId} {fn : Func} {code : Code} (hf : P.funcs[f]? = some fn) (hname : (fn.name == "runtime.NumGoroutine") = false) (hb : fn.body = some code) (hm : P.follows .mixedOrders = true)
    (hV : VOK V lens) (hE : V.E.length ≤ 1000000) (hO : V.O.length ≤ 1000000) (hΓ : allG J P V Γ) {c : Ct} {τ υ : List Nat} {fuel : Nat} {hs : List Hint} {outs : List Nat} {os : List Obl} {cs : List (Code × Nat)}
    (h : ctCheck P Γ S lens fn code c τ υ fuel hs outs = some (os, cs)) (ho : allO P V os) (hc : allC J P (c.args.len + (fn.ntmps - c.args.len)) V S cs) : c.ValidSt J P f (V.sub τ υ) := by
  unfold ctCheck at h
  simp only at h
  obtain ⟨hq, h⟩ := cond_bind h
  simp only [Bool.and_eq_true] at hq
  obtain ⟨hL, hab, hpb⟩ := hq
  intro ρ w hst hpre
  rw [callFunc_enter hf hname hb]
  show Calls P f _ w _
  split at h
  · cases h
  case h_3 => cases h
  rename_i e s' os' cs' hne hx
  split at h
  case h_2 => cases h
  rename_i v o2 hv hfin
  split at h
  case h_2 => cases h
  rename_i o3 hm3
  cases h
  rw [allO_app, allO_app] at ho
  have hprelen : (rnEs τ υ c.pre).length = c.pre.length := by
    have : ∀ l : List Bk, (rnEs τ υ l).length = l.length := fun l => by induction l <;> simp_all [rnEs]
    exact this _
  have hargs : dl V ρ (c.args.rnE τ) = dl (V.sub τ υ) ρ c.args := dl_rnE
  have hpre' : ∀ (i : Nat) (bk : Bk), (rnEs τ υ c.pre)[i]? = some bk → bk.holds V ρ w.heap[(ρ i).1]? := by
    intro i bk hb'
    rw [rnEs_get] at hb'
    obtain ⟨b, hb1, rfl⟩ := Option.map_eq_some_iff.1 hb'
    exact (Bk.holds_rnE hE hO).2 (hpre.2 i b hb1)
  have hlenA : (dl (V.sub τ υ) ρ c.args).length = c.args.len := by rw [← hargs, dl_len hL, len_rnE]
  have hWF : WF c.pre.length ⟨startSl 0 (c.args.rnE τ), startHp 0 (rnEs τ υ c.pre), c.pre.length⟩ := by
    refine ⟨fun t => ?_, fun id bk hb' => ?_, Nat.le_refl _⟩
    · have : ∀ (l : SV) (i t : Nat), l.bd c.pre.length = true → (lkS (startSl i l) t).bd c.pre.length = true := by
        intro l
        induction l with
        | cons x r ih1 ih2 =>
          intro i t hl
          simp only [SV.bd, Bool.and_eq_true] at hl
          simp only [startSl, lkS]
          cases Nat.beq i t with
          | true => exact hl.1
          | false => exact ih2 _ _ hl.2
        | _ => intro i t _; rfl
      exact this _ _ _ hab
    · obtain ⟨h1, h2⟩ := startHp_get hb'
      have h3 := (List.getElem?_eq_some_iff.1 h2).1
      exact ⟨by rw [hprelen] at h3; simp only; omega, bksB_get hpb h2⟩
  obtain ⟨_, W⟩ := exec_ok (p0 := c.pre.length) hm hV hE hO hΓ _ _ _ _ _ _ _ _ _ _ hx ho.1 hc hWF
  refine calls_of_wp hf hb ?_
  let a : Act := { tmps := (dl (V.sub τ υ) ρ c.args).toArray ++ Array.replicate (fn.ntmps - (dl (V.sub τ υ) ρ c.args).toArray.size) undef, defers := [] }
  have hI : Inv J V w ρ c.pre.length (c.args.len + (fn.ntmps - c.args.len)) (fun i => (roList c.post c.pre.length).any (Nat.beq i)) ρ (lkS (startSl 0 (c.args.rnE τ))) (lkH (startHp 0 (rnEs τ υ c.pre))) a w := by
    refine ⟨by simp [a, hlenA], rfl, ?_, ?_, ?_, Fr.refl _ _, fun _ _ => rfl, ?_, hst⟩
    · intro t ht
      obtain ⟨_, h2, h3⟩ := startSl_get (V := V) (ρ := ρ) hL ht
      rw [Nat.sub_zero] at h2
      rw [hargs] at h2
      show a.tmps.getD t undef = _
      have hlt := (List.getElem?_eq_some_iff.1 h2).1
      rw [Array.getD_eq_getD_getElem?]
      show (((dl (V.sub τ υ) ρ c.args).toArray ++ Array.replicate _ undef)[t]?).getD undef = _
      rw [Array.getElem?_append_left (by simpa using hlt), List.getElem?_toArray, h2]
      rfl
    · intro id bk hb'
      obtain ⟨_, h2⟩ := startHp_get hb'
      rw [Nat.sub_zero] at h2
      exact hpre' id bk h2
    · intro i j hi hj hor he
      have key : ∀ i, lvO (lkH (startHp 0 (rnEs τ υ c.pre)) i) = true → i < c.pre.length := fun i hi => by
        obtain ⟨b, hb', _⟩ := lvO_some hi
        obtain ⟨_, h2⟩ := startHp_get hb'
        have h3 := (List.getElem?_eq_some_iff.1 h2).1
        rw [hprelen] at h3; omega
      exact hpre.1 i j (key i hi) (key j hj) (hor.imp (roList_no (key i hi)) (roList_no (key j hj))) he
    · intro i hi hp
      obtain ⟨b, hb', _⟩ := lvO_some hi
      obtain ⟨_, h2⟩ := startHp_get hb'
      have h3 := (List.getElem?_eq_some_iff.1 h2).1
      rw [hprelen] at h3; omega
  have W1 := W w ρ ρ a w hI
  refine wp_mono W1 ?_
  rintro x a' w' ⟨rfl, ρ', hI'⟩
  have hpost := fin_ok hE hO hfin ho.2.1 (ro := fun i => (roList c.post c.pre.length).any (Nat.beq i)) (fun i hi => by
    rw [List.any_eq_false]; intro x hx hb'; have := roList_lt hx; have := Nat.eq_of_beq_eq_true hb'; omega) (fun i hi h0 => roList_no hi h0) hI'
  have hres := resS_run hv hI'.slots hI'.heap
  have fin : c.Post (V.sub τ υ) ρ w (den V ρ' v) w' := by
    obtain ⟨q1, q2, q3, q4, q5, q6⟩ := hpost
    refine ⟨_, q1, q2, q3, ?_, q4, q5, q6⟩
    unfold den
    rw [mt_spec _ _ _ hm3 ho.2.2 ρ', den_smR (υ := υ)]
  have done : a'.defers = [] ∧ ∃ u, (results fn a'.tmps).run P w' = .ok u w' ∧ ∃ v, Ending.returned u = .returned v ∧ c.Post (V.sub τ υ) ρ w v w' := ⟨hI'.defers, _, hres, _, rfl, fin⟩
  cases e with
  | normal => exact done
  | ret => exact done
  | exit id => exact (hne id rfl).elim
end
end RX
end Go.Proofs.Ytieencpejpeenaa
end
section
namespace Go.Proofs.Ytieencpejpeenaa
open Go.RowKit
namespace RX
set_option linter.unnecessarySimpa false
set_option linter.unusedVariables false
set_option linter.unusedSimpArgs false
def bodyOf (fn : Func) : Code := fn.body.getD .skip
/-- A function of the program. -/
structure FnIs (P : Program) (f : FuncId) (fn : Func) : Prop where
  at_ : P.funcs[f]? = some fn
  name : (fn.name == "runtime.NumGoroutine") = false
  body : fn.body = some (bodyOf fn)
  mixed : P.follows .mixedOrders = true
theorem vok_nil {O : List Obj} : VOK ⟨[], O⟩ [] := fun i j h => by simp at h
theorem vok_cons {l : List Value} {E : List (List Value)} {O : List Obj} {n : Nat} {ls : List Nat} (h : ∀ j, j < n → (l.getD j undef).oneCell' = true) (hv : VOK ⟨E, O⟩ ls) : VOK ⟨l :: E, O⟩ (n :: ls) := fun i j hj => by
  cases i with
  | zero => exact h j (by simpa using hj)
  | succ i => exact hv i j (by simpa using hj)
theorem one_int (k : IntKind) (n : Int) : ∀ j, j < 1 → ([Value.int k n].getD j undef).oneCell' = true := fun j hj => by
  match j, hj with
  | 0, _ => rfl
theorem one_bool (b : Bool) : ∀ j, j < 1 → ([Value.bool b].getD j undef).oneCell' = true := fun j hj => by
  match j, hj with
  | 0, _ => rfl
theorem one_str (b : ByteArray) : ∀ j, j < 1 → ([Value.string b].getD j undef).oneCell' = true := fun j hj => by
  match j, hj with
  | 0, _ => rfl
theorem one_none (l : List Value) : ∀ j, j < 0 → (l.getD j undef).oneCell' = true := fun j hj => by omega
theorem one_four (k : IntKind) (a b c d : Int) : ∀ j, j < 4 → ([Value.int k a, .int k b, .int k c, .int k d].getD j undef).oneCell' = true := fun j hj => by
  match j, hj with
  | 0, _ => rfl
  | 1, _ => rfl
  | 2, _ => rfl
  | 3, _ => rfl
theorem one_all {l : List Value} (h : ∀ v ∈ l, v.oneCell' = true) : ∀ j, j < l.length → (l.getD j undef).oneCell' = true := fun j hj => by
  rw [List.getD_eq_getElem?_getD, List.getElem?_eq_getElem hj]; exact h _ (List.getElem_mem hj)

section
variable {P : Program} {f : FuncId} {fn : Func} {V : Env} {args res : SV} {vs : Array Value} {v : Value}
theorem Ct.ofPlain (F : FnIs P f fn) (ha : ∀ ρ, dl V ρ args = vs.toList) (hr : ∀ ρ, den V ρ res = v) (h : ∀ w, Calls P f vs w fun e w' => e = .returned v ∧ Below w.heap.size w w') : Ct.Valid P f ⟨args, [], [], [], res⟩ V := by
  intro ρ w _
  rw [callFunc_enter F.at_ F.name F.body]
  show Calls P f (dl V ρ args).toArray w _
  rw [ha ρ, Array.toArray_toList]
  refine (h w).mono ?_
  rintro e w' ⟨rfl, hb⟩
  exact ⟨v, rfl, ρ, fun _ _ => rfl, fun j hj => by simp at hj, fun i j hi => by simp at hi, (hr ρ).symm, fun i bk hb => by simp at hb, fun j bk hb => by simp at hb, Fr.of_below hb _⟩
theorem Ct.Valid.calls (hv : Ct.Valid P f ⟨args, [], [], [], res⟩ V) (F : FnIs P f fn) (ha : ∀ ρ, dl V ρ args = vs.toList) (hr : ∀ ρ, den V ρ res = v) (w : World) : Calls P f vs w fun e w' => e = .returned v ∧ Below w.heap.size w w' := by
  have h := hv (fun _ => (0, 0)) w ⟨fun i j hi => by simp at hi, fun i bk hb => by simp at hb⟩
  rw [callFunc_enter F.at_ F.name F.body] at h
  replace h : Calls P f (dl V _ args).toArray w _ := h
  rw [ha, Array.toArray_toList] at h
  refine h.mono ?_
  rintro e w' ⟨u, rfl, ρ', _, _, _, hu, _, _, hfr⟩
  refine ⟨by rw [hu]; exact congrArg Ending.returned (hr ρ'), hfr.below fun b => ?_⟩
  rintro ⟨i, bk, hi, _⟩
  simp at hi
end

/-! The pieces of a way's proof. -/
/-- Parts j .. of thing i, ahead of a list. -/
def evs (i : Nat) : Nat → Nat → SV → SV
  | _, 0, r => r
  | j, n + 1, r => .cons (.ev i j) (evs i (j + 1) n r)
theorem gnil {J : World → Prop} {P : Program} {V : Env} : allG J P V [] := trivial
theorem gfn {J : World → Prop} {P : Program} {V : Env} {f : FuncId} {c : Ct} {τ υ : List Nat} {r : List Gm} (h : c.Valid P f (V.sub τ υ)) (hr : allG J P V r) : allG J P V (⟨.fn f, c, τ, υ⟩ :: r) := ⟨fun ρ w _ hp => h ρ w hp, hr⟩
theorem gfnJ {J : World → Prop} {P : Program} {V : Env} {f : FuncId} {c : Ct} {τ υ : List Nat} {r : List Gm} (h : c.ValidJ J P f (V.sub τ υ)) (hr : allG J P V r) : allG J P V (⟨.fn f, c, τ, υ⟩ :: r) := ⟨h, hr⟩
theorem gop {J : World → Prop} {P : Program} {V : Env} {g : List Nat} {c : Ct} {τ υ : List Nat} {r : List Gm} (h : c.ValidOp P g (V.sub τ υ)) (hr : allG J P V r) : allG J P V (⟨.op g, c, τ, υ⟩ :: r) := ⟨fun ρ w o ev _ ht ha hp => h ρ w o ev ht ha hp, hr⟩
theorem gopJ {J : World → Prop} {P : Program} {V : Env} {g : List Nat} {c : Ct} {τ υ : List Nat} {r : List Gm} (h : c.ValidOpJ J P g (V.sub τ υ)) (hr : allG J P V r) : allG J P V (⟨.op g, c, τ, υ⟩ :: r) := ⟨h, hr⟩
theorem onil {P : Program} {V : Env} : allO P V [] := trivial
theorem ocons {P : Program} {V : Env} {o : Obl} {r : List Obl} (h : o.holds P V) (hr : allO P V r) : allO P V (o :: r) := ⟨h, hr⟩
theorem cnil {J : World → Prop} {P : Program} {N : Nat} {V : Env} {S : List Sm} : allC J P N V S [] := trivial
theorem ccons {J : World → Prop} {P : Program} {N : Nat} {V : Env} {S : List Sm} {c : Code} {k : Nat} {r : List (Code × Nat)} (m : Sm) (hk : S[k]? = some m) (h : m.g.ValidL P N c (V.sub m.τ m.υ) (V.sub m.τ' m.υ')) (hr : allC J P N V S r) : allC J P N V S ((c, k) :: r) :=
  ⟨fun m' hm => by rw [hk] at hm; cases hm; exact fun ρ a w _ => h ρ a w, hr⟩
theorem cconsJ {J : World → Prop} {P : Program} {N : Nat} {V : Env} {S : List Sm} {c : Code} {k : Nat} {r : List (Code × Nat)} (m : Sm) (hk : S[k]? = some m) (h : m.g.ValidLJ J P N c (V.sub m.τ m.υ) (V.sub m.τ' m.υ')) (hr : allC J P N V S r) : allC J P N V S ((c, k) :: r) :=
  ⟨fun m' hm => by rw [hk] at hm; cases hm; exact h, hr⟩
theorem wayOK {P : Program} {f : FuncId} {fn : Func} (F : FnIs P f fn) {E : List (List Value)} {O : List Obj} {lens : List Nat} (hV : VOK ⟨E, O⟩ lens) (hE : E.length ≤ 1000000) (hO : O.length ≤ 1000000) {Γ : List Gm} {S : List Sm} {c : Ct} {τ υ : List Nat} {fuel : Nat} {hs : List Hint} {outs : List Nat} {os : List Obl} {cs : List (Code × Nat)}
    (h : ctCheck P Γ S lens fn (bodyOf fn) c τ υ fuel hs outs = some (os, cs)) (hΓ : allG (fun _ => True) P ⟨E, O⟩ Γ) (ho : allO P ⟨E, O⟩ os) (hc : allC (fun _ => True) P (c.args.len + (fn.ntmps - c.args.len)) ⟨E, O⟩ S cs) : c.Valid P f (Env.sub ⟨E, O⟩ τ υ) :=
  (Ct.of_exec F.at_ F.name F.body F.mixed hV hE hO hΓ h ho hc).plain
theorem wayOKJ {J : World → Prop} {P : Program} {f : FuncId} {fn : Func} (F : FnIs P f fn) {E : List (List Value)} {O : List Obj} {lens : List Nat} (hV : VOK ⟨E, O⟩ lens) (hE : E.length ≤ 1000000) (hO : O.length ≤ 1000000) {Γ : List Gm} {S : List Sm} {c : Ct} {τ υ : List Nat} {fuel : Nat} {hs : List Hint} {outs : List Nat} {os : List Obl} {cs : List (Code × Nat)}
    (h : ctCheck P Γ S lens fn (bodyOf fn) c τ υ fuel hs outs = some (os, cs)) (hΓ : allG J P ⟨E, O⟩ Γ) (ho : allO P ⟨E, O⟩ os) (hc : allC J P (c.args.len + (fn.ntmps - c.args.len)) ⟨E, O⟩ S cs) : c.ValidSt J P f (Env.sub ⟨E, O⟩ τ υ) :=
  Ct.of_exec F.at_ F.name F.body F.mixed hV hE hO hΓ h ho hc
/-! What is owed: whole numbers. -/
section
variable {P : Program}
theorem bin_int (op : BinOp) (k : IntKind) (a b : Int) (t : TypeId) (w : World) (x y : Operand) : (do eqGuard op t x y (.int k a) (.int k b); binOp op t (.int k a) (.int k b) : Sem Value).run P w = (binOp op t (.int k a) (.int k b)).run P w := by cases op <;> rfl
section
variable {k : IntKind} {a b : Int} {t : TypeId}
abbrev BinIs (P : Program) (op : BinOp) (t : TypeId) (a b v : Value) : Prop := ∀ (_ : Nat → Nat × Nat) w x y, (do eqGuard op t x y a b; binOp op t a b : Sem Value).run P w = .ok v w
theorem ob_eql_t (h : a = b) : BinIs P .eql t (.int k a) (.int k b) (.bool true) := fun _ w x y => by rw [bin_int]; simp [binOp, Op.intCmp, h]
theorem ob_eql_f (h : ¬ a = b) : BinIs P .eql t (.int k a) (.int k b) (.bool false) := fun _ w x y => by rw [bin_int]; simp [binOp, Op.intCmp, h]
theorem ob_neq_t (h : a = b) : BinIs P .neq t (.int k a) (.int k b) (.bool false) := fun _ w x y => by rw [bin_int]; simp [binOp, Op.intCmp, h]
theorem ob_neq_f (h : ¬ a = b) : BinIs P .neq t (.int k a) (.int k b) (.bool true) := fun _ w x y => by rw [bin_int]; simp [binOp, Op.intCmp, h]
theorem ob_lss_t (h : a < b) : BinIs P .lss t (.int k a) (.int k b) (.bool true) := fun _ w x y => by rw [bin_int]; simp [binOp, Op.intCmp, h]
theorem ob_lss_f (h : ¬ a < b) : BinIs P .lss t (.int k a) (.int k b) (.bool false) := fun _ w x y => by rw [bin_int]; simp [binOp, Op.intCmp, h]
theorem ob_leq_t (h : a ≤ b) : BinIs P .leq t (.int k a) (.int k b) (.bool true) := fun _ w x y => by rw [bin_int]; simp [binOp, Op.intCmp, h]
theorem ob_leq_f (h : ¬ a ≤ b) : BinIs P .leq t (.int k a) (.int k b) (.bool false) := fun _ w x y => by rw [bin_int]; simp [binOp, Op.intCmp, h]
theorem ob_gtr_t (h : a > b) : BinIs P .gtr t (.int k a) (.int k b) (.bool true) := fun _ w x y => by rw [bin_int]; simp [binOp, Op.intCmp, h]
theorem ob_gtr_f (h : ¬ a > b) : BinIs P .gtr t (.int k a) (.int k b) (.bool false) := fun _ w x y => by rw [bin_int]; simp [binOp, Op.intCmp, h]
theorem ob_geq_t (h : a ≥ b) : BinIs P .geq t (.int k a) (.int k b) (.bool true) := fun _ w x y => by rw [bin_int]; simp [binOp, Op.intCmp, h]
theorem ob_geq_f (h : ¬ a ≥ b) : BinIs P .geq t (.int k a) (.int k b) (.bool false) := fun _ w x y => by rw [bin_int]; simp [binOp, Op.intCmp, h]
theorem ob_add {c : Int} (h : k.wrap (a + b) = c) : BinIs P .add t (.int k a) (.int k b) (.int k c) := fun _ w x y => by rw [bin_int]; simp [binOp, Op.intArith, h]
theorem ob_sub {c : Int} (h : k.wrap (a - b) = c) : BinIs P .sub t (.int k a) (.int k b) (.int k c) := fun _ w x y => by rw [bin_int]; simp [binOp, Op.intArith, h]
theorem ob_mul {c : Int} (h : k.wrap (a * b) = c) : BinIs P .mul t (.int k a) (.int k b) (.int k c) := fun _ w x y => by rw [bin_int]; simp [binOp, Op.intArith, h]
theorem ob_int (h : a = b) : ∀ (_ : Nat → Nat × Nat), [Value.int k a] = [Value.int k b] := fun _ => by rw [h]
theorem ob_bool {a b : Bool} (h : a = b) : ∀ (_ : Nat → Nat × Nat), [Value.bool a] = [Value.bool b] := fun _ => by rw [h]
end
theorem ob_agg {V : Env} {op : BinOp} {t : TypeId} {a b : SV} {A B : Value} {r : Bool} (h : BinIs P op t A B (.bool r)) (ha : ∀ ρ, den V ρ a = A) (hb : ∀ ρ, den V ρ b = B) : (Obl.bin op t a b (.bo r)).holds P V := fun ρ w x y => by
  rw [ha ρ, hb ρ]; exact h ρ w x y
end
end RX
end Go.Proofs.Ytieencpejpeenaa
end
section
namespace Go.Proofs.Ytieencpejpeenaa
open Go.RowKit
namespace RX
set_option linter.unnecessarySimpa false
set_option linter.unusedVariables false
set_option linter.unusedSimpArgs false
/-- A stretch's way, checked: what is owed. -/
def sgCheck (P : Program) (Γ : List Gm) (S : List Sm) (lens : List Nat) (N : Nat) (code : Code) (g : Sg) (τ υ τ' υ' : List Nat) (fuel : Nat) (hs : List Hint) (outs : List Nat) : Option (List Obl × List (Code × Nat)) :=
  (fun pre sl => cond (slB g.pre.length N sl && bksB g.pre.length pre)
    (match exec P Γ S lens (roList g.post g.pre.length) N fuel false code ⟨sl, startHp 0 pre, g.pre.length⟩ hs with
      | some (e, s', [], os, cs) => cond (e.beq g.ex) (match ownSl (smR τ' (List.range g.pre.length ++ outs)) s'.sl g.sl', finAt g.pre.length s'.hp (smB τ' υ' (List.range g.pre.length ++ outs)) g.post g.news outs with
        | some o1, some o2 => some (os ++ (o2 ++ o1), cs)
        | _, _ => none) none
      | _ => none) none) (rnEs τ υ g.pre) (mapSl (fun x => x.rnE τ) g.sl)
theorem slB_lk {n N : Nat} : ∀ {q : List (Nat × SV)}, slB n N q = true → ∀ t, (lkS q t).bd n = true
  | [], _, _ => rfl
  | (i, v) :: q, h, t => by
    simp only [slB, Bool.and_eq_true] at h
    simp only [lkS]
    cases Nat.beq i t with
    | true => exact h.1
    | false => exact slB_lk h.2.2 t
/-- A stretch's law where J stays true while the written blocks change. -/
def Sg.ValidSt (J : World → Prop) (P : Program) (N : Nat) (c : Code) (g : Sg) (VA VB : Env) : Prop :=
  ∀ ρ a w, (∀ w', Fr w w' (fun b => ∃ i, i < g.pre.length ∧ (roList g.post g.pre.length).any (Nat.beq i) = false ∧ (ρ i).1 = b) → J w') → a.tmps.size = N → a.defers = [] → slotsOK VA ρ a g.sl → preOK VA ρ w g.pre g.post → c.wp P (g.Q VB N ρ w) a w
theorem Sg.ValidSt.plain {P : Program} {N : Nat} {c : Code} {g : Sg} {VA VB : Env} (h : g.ValidSt (fun _ => True) P N c VA VB) : g.Valid P N c VA VB := fun ρ a w => h ρ a w (fun _ _ => trivial)
section
variable {J : World → Prop} {P : Program} {V : Env} {Γ : List Gm} {S : List Sm} {lens : List Nat}
theorem Sg.of_exec {code : Code} {N : Nat} (hm : P.follows .mixedOrders = true)
    (hV : VOK V lens) (hE : V.E.length ≤ 1000000) (hO : V.O.length ≤ 1000000) (hΓ : allG J P V Γ) {g : Sg} {τ υ τ' υ' : List Nat} {fuel : Nat} {hs : List Hint} {outs : List Nat} {os : List Obl} {cs : List (Code × Nat)}
    (h : sgCheck P Γ S lens N code g τ υ τ' υ' fuel hs outs = some (os, cs)) (ho : allO P V os) (hc : allC J P N V S cs) : g.ValidSt J P N code (V.sub τ υ) (V.sub τ' υ') := by
  unfold sgCheck at h
  simp only at h
  obtain ⟨hq, h⟩ := cond_bind h
  simp only [Bool.and_eq_true] at hq
  obtain ⟨hab, hpb⟩ := hq
  intro ρ a w hst hsz hdf hsl hpre
  split at h
  case h_2 => cases h
  rename_i e s' os' cs' hx
  cases hbe : e.beq g.ex with
  | false => rw [hbe] at h; cases h
  | true =>
  rw [hbe] at h
  simp only [cond_true] at h
  have hex := Ex.eq_of_beq hbe
  split at h
  case h_2 => cases h
  rename_i o1 o2 hown hfin
  cases h
  rw [allO_app, allO_app] at ho
  have hprelen : (rnEs τ υ g.pre).length = g.pre.length := by
    have : ∀ l : List Bk, (rnEs τ υ l).length = l.length := fun l => by induction l <;> simp_all [rnEs]
    exact this _
  have hpre' : ∀ (i : Nat) (bk : Bk), (rnEs τ υ g.pre)[i]? = some bk → bk.holds V ρ w.heap[(ρ i).1]? := by
    intro i bk hb'
    rw [rnEs_get] at hb'
    obtain ⟨b, hb1, rfl⟩ := Option.map_eq_some_iff.1 hb'
    exact (Bk.holds_rnE hE hO).2 (hpre.2 i b hb1)
  have hWF : WF g.pre.length ⟨mapSl (fun x => x.rnE τ) g.sl, startHp 0 (rnEs τ υ g.pre), g.pre.length⟩ := by
    refine ⟨fun t => slB_lk hab t, fun id bk hb' => ?_, Nat.le_refl _⟩
    obtain ⟨h1, h2⟩ := startHp_get hb'
    have h3 := (List.getElem?_eq_some_iff.1 h2).1
    exact ⟨by rw [hprelen] at h3; simp only; omega, bksB_get hpb h2⟩
  obtain ⟨_, W⟩ := exec_ok (p0 := g.pre.length) hm hV hE hO hΓ _ _ _ _ _ _ _ _ _ _ hx ho.1 hc hWF
  have hI : Inv J V w ρ g.pre.length N (fun i => (roList g.post g.pre.length).any (Nat.beq i)) ρ (lkS (mapSl (fun x => x.rnE τ) g.sl)) (lkH (startHp 0 (rnEs τ υ g.pre))) a w := by
    refine ⟨hsz, hdf, ?_, ?_, ?_, Fr.refl _ _, fun _ _ => rfl, ?_, hst⟩
    · exact slotsOK_lk ((slotsOK_rn (V' := V.sub τ υ) (ρ' := ρ) (r := fun x => x.rnE τ) (fun x => dl_rnE)).2 hsl)
    · intro id bk hb'
      obtain ⟨_, h2⟩ := startHp_get hb'
      rw [Nat.sub_zero] at h2
      exact hpre' id bk h2
    · intro i j hi hj hor he
      have key : ∀ i, lvO (lkH (startHp 0 (rnEs τ υ g.pre)) i) = true → i < g.pre.length := fun i hi => by
        obtain ⟨b, hb', _⟩ := lvO_some hi
        obtain ⟨_, h2⟩ := startHp_get hb'
        have h3 := (List.getElem?_eq_some_iff.1 h2).1
        rw [hprelen] at h3; omega
      exact hpre.1 i j (key i hi) (key j hj) (hor.imp (roList_no (key i hi)) (roList_no (key j hj))) he
    · intro i hi hp
      obtain ⟨b, hb', _⟩ := lvO_some hi
      obtain ⟨_, h2⟩ := startHp_get hb'
      have h3 := (List.getElem?_eq_some_iff.1 h2).1
      rw [hprelen] at h3; omega
  refine wp_mono (W w ρ ρ a w hI) ?_
  rintro x a' w' ⟨rfl, ρ', hI'⟩
  refine ⟨by rw [hex], hI'.size, hI'.defers, fun i => ρ' ((List.range g.pre.length ++ outs).getD i 0), ?_, ?_⟩
  · exact (slotsOK_rn (r := smR τ' (List.range g.pre.length ++ outs)) (fun x => den_smR (υ := υ'))).1 (ownSl_spec hI'.slots hown ho.2.2)
  · exact fin_ok hE hO hfin ho.2.1 (ro := fun i => (roList g.post g.pre.length).any (Nat.beq i)) (fun i hi => by
      rw [List.any_eq_false]; intro x hx hb'; have := roList_lt hx; have := Nat.eq_of_beq_eq_true hb'; omega) (fun i hi h0 => roList_no hi h0) hI'
end
theorem segOK {P : Program} {f : FuncId} {fn : Func} (F : FnIs P f fn) {N : Nat} {code : Code} {E : List (List Value)} {O : List Obj} {lens : List Nat} (hV : VOK ⟨E, O⟩ lens) (hE : E.length ≤ 1000000) (hO : O.length ≤ 1000000) {Γ : List Gm} {S : List Sm} {g : Sg} {τ υ τ' υ' : List Nat} {fuel : Nat} {hs : List Hint} {outs : List Nat} {os : List Obl} {cs : List (Code × Nat)}
    (h : sgCheck P Γ S lens N code g τ υ τ' υ' fuel hs outs = some (os, cs)) (hΓ : allG (fun _ => True) P ⟨E, O⟩ Γ) (ho : allO P ⟨E, O⟩ os) (hc : allC (fun _ => True) P N ⟨E, O⟩ S cs) : g.Valid P N code (Env.sub ⟨E, O⟩ τ υ) (Env.sub ⟨E, O⟩ τ' υ') :=
  (Sg.of_exec F.mixed hV hE hO hΓ h ho hc).plain

/-! ### Loops -/
theorem segOKJ {J : World → Prop} {P : Program} {f : FuncId} {fn : Func} (F : FnIs P f fn) {N : Nat} {code : Code} {E : List (List Value)} {O : List Obj} {lens : List Nat} (hV : VOK ⟨E, O⟩ lens) (hE : E.length ≤ 1000000) (hO : O.length ≤ 1000000) {Γ : List Gm} {S : List Sm} {g : Sg} {τ υ τ' υ' : List Nat} {fuel : Nat} {hs : List Hint} {outs : List Nat} {os : List Obl} {cs : List (Code × Nat)}
    (h : sgCheck P Γ S lens N code g τ υ τ' υ' fuel hs outs = some (os, cs)) (hΓ : allG J P ⟨E, O⟩ Γ) (ho : allO P ⟨E, O⟩ os) (hc : allC J P N ⟨E, O⟩ S cs) : g.ValidSt J P N code (Env.sub ⟨E, O⟩ τ υ) (Env.sub ⟨E, O⟩ τ' υ') :=
  Sg.of_exec F.mixed hV hE hO hΓ h ho hc

/-! ### Loops -/
/-- The loops of a code, as they stand in the text. -/
def loopsOf : Code → List Code
  | .seq x y => loopsOf x ++ loopsOf y
  | .cond _ x y => loopsOf x ++ loopsOf y
  | .block _ b => loopsOf b
  | .scope b => loopsOf b
  | .loop b => .loop b :: loopsOf b
  | _ => []
def loopAt (c : Code) (n : Nat) : Code := (loopsOf c).getD n .skip
def bodyAt (c : Code) (n : Nat) : Code := match loopAt c n with
  | .loop b => b
  | _ => .skip
/-- Block i in the next round: itself, or, where it is used up (R tells which), a new one. -/
def nextId (p : Nat) (R : List Nat) (i : Nat) : Nat := match R.findIdx? (Nat.beq i) with
  | some j => p + j
  | none => i
def nextIds (p : Nat) (R : List Nat) : List Nat := (List.range p).map (nextId p R)
/-- A round: slots and blocks as before, of the next things; R: blocks used up and made anew, W: written. -/
def roundSg (sl : List (Nat × SV)) (pre : List Bk) (R W : List Nat) : Sg :=
  { sl := sl, pre := pre, ex := .normal, sl' := mapSl (fun x => x.rnI (nextIds pre.length R)) sl,
    post := (List.range pre.length).map (fun i => cond (R.any (Nat.beq i)) (some .gone) (cond (W.any (Nat.beq i)) (some ((pre.getD i .gone).rnI (nextIds pre.length R))) none)),
    news := R.map fun i => (pre.getD i .gone).rnI (nextIds pre.length R) }
/-- The last round's blocks, as the loop has them: first those made anew, then the last round's own. -/
def lastIds (p : Nat) (R : List Nat) (q : Nat) : List Nat := nextIds p R ++ List.range' (p + R.length) q
/-- A loop, by its last round's law. -/
def loopSg (g : Sg) (R : List Nat) : Sg :=
  { sl := g.sl, pre := g.pre, ex := g.ex, sl' := mapSl (fun x => x.rnI (lastIds g.pre.length R g.news.length)) g.sl',
    post := (List.range g.pre.length).map (fun i => cond (R.any (Nat.beq i)) (some .gone) ((g.post.getD i none).map fun b => b.rnI (lastIds g.pre.length R g.news.length))),
    news := (R.map fun i => ((g.post.getD i none).getD .gone).rnI (lastIds g.pre.length R g.news.length)) ++ g.news.map fun b => b.rnI (lastIds g.pre.length R g.news.length) }
/-- Does a block name none of those that are used up? -/
def stayB (θ : List Nat) : Bk → Bool
  | .cs _ l => (l.rnI θ).beq l
  | .own _ _ c z => Nat.beq (θ.getD c 0) c && (z.rnI θ).beq z
  | _ => true
theorem stayB_spec {θ : List Nat} {b : Bk} (h : stayB θ b = true) : b.rnI θ = b := by
  cases b with
  | cs t l => simp only [Bk.rnI]; rw [SV.eq_of_beq h]
  | own t i c z =>
    simp only [stayB, Bool.and_eq_true] at h
    simp only [Bk.rnI]; rw [SV.eq_of_beq h.2, Nat.eq_of_beq_eq_true h.1]
  | _ => rfl
def loopB (N : Nat) (g : Sg) (R W : List Nat) : Bool :=
  nodupB R && (R.all (fun i => Nat.blt i g.pre.length) && (R.all (isWr g.post) && (W.all (isWr g.post) && (Nat.ble g.post.length g.pre.length && (g.pre.all Bk.live && (bksB g.pre.length g.pre &&
    (slB (g.pre.length + g.news.length) N g.sl' && (obd (g.pre.length + g.news.length) g.post && (bksB (g.pre.length + g.news.length) g.news &&
      (R.all (fun i => ((g.post.getD i none).getD .gone).live) && g.pre.all (fun b => stayB (nextIds g.pre.length R) b || true)))))))))))
theorem any_of_get {R : List Nat} {j i : Nat} (h : R[j]? = some i) : R.any (Nat.beq i) = true := List.any_eq_true.2 ⟨i, List.mem_of_getElem? h, Nat.beq_refl i⟩
theorem findIdx_some {R : List Nat} {i j : Nat} (h : R.findIdx? (Nat.beq i) = some j) : R[j]? = some i ∧ j < R.length := by
  obtain ⟨hj, he, _⟩ := List.findIdx?_eq_some_iff_getElem.1 h
  exact ⟨by rw [List.getElem?_eq_getElem hj, ← Nat.eq_of_beq_eq_true he], hj⟩
theorem findIdx_none {R : List Nat} {i : Nat} : R.findIdx? (Nat.beq i) = none ↔ R.any (Nat.beq i) = false := by
  rw [List.findIdx?_eq_none_iff, List.any_eq_false]
  exact ⟨fun h x hx => by rw [h x hx]; simp, fun h x hx => by
    have := h x hx
    cases hq : Nat.beq i x with
    | false => rfl
    | true => exact absurd hq this⟩
theorem nextId_old {p : Nat} {R : List Nat} {i : Nat} (h : R.any (Nat.beq i) = false) : nextId p R i = i := by unfold nextId; rw [findIdx_none.2 h]
theorem nextId_new {p : Nat} {R : List Nat} {i : Nat} (h : R.any (Nat.beq i) = true) : ∃ j, R[j]? = some i ∧ j < R.length ∧ nextId p R i = p + j := by
  unfold nextId
  cases hq : R.findIdx? (Nat.beq i) with
  | none => rw [findIdx_none.1 hq] at h; cases h
  | some j => obtain ⟨a, b⟩ := findIdx_some hq; exact ⟨j, a, b, rfl⟩
theorem nextIds_get {p : Nat} {R : List Nat} {i : Nat} (hi : i < p) : (nextIds p R).getD i 0 = nextId p R i := by
  unfold nextIds; rw [List.getD_eq_getElem?_getD, List.getElem?_map, List.getElem?_range hi]; rfl
theorem lastIds_get {p q : Nat} {R : List Nat} {i : Nat} (hi : i < p) : (lastIds p R q).getD i 0 = nextId p R i := by
  unfold lastIds
  rw [List.getD_eq_getElem?_getD, List.getElem?_append_left (by unfold nextIds; simpa using hi), ← List.getD_eq_getElem?_getD, nextIds_get hi]
theorem lastIds_new {p q : Nat} {R : List Nat} {j : Nat} (hj : j < q) : (lastIds p R q).getD (p + j) 0 = p + R.length + j := by
  unfold lastIds
  have hl : (nextIds p R).length = p := by unfold nextIds; simp
  rw [List.getD_eq_getElem?_getD, List.getElem?_append_right (by rw [hl]; omega), hl]
  simp [List.getElem?_range', hj]
theorem isWr_some {post : List (Option Bk)} {i : Nat} (h : isWr post i = true) : ∃ b, post[i]? = some (some b) := by
  unfold isWr at h
  split at h
  · rename_i b hb; exact ⟨b, hb⟩
  · cases h
theorem isWr_of {post : List (Option Bk)} {i : Nat} {b : Bk} (h : post[i]? = some (some b)) : isWr post i = true := by unfold isWr; rw [h]
/-- What holds ahead of a round. -/
structure Lp (V : Env) (N : Nat) (g : Sg) (R : List Nat) (ρ0 : Nat → Nat × Nat) (w0 : World) (ρ : Nat → Nat × Nat) (a : Act) (w : World) : Prop where
  size : a.tmps.size = N
  defers : a.defers = []
  slots : slotsOK V ρ a g.sl
  heap : ∀ (i : Nat) (b : Bk), g.pre[i]? = some b → b.holds V ρ w.heap[(ρ i).1]?
  inj : ∀ i j, i < g.pre.length → j < g.pre.length → (isWr g.post i = true ∨ isWr g.post j = true) → (ρ i).1 = (ρ j).1 → i = j
  same : ∀ i, i < g.pre.length → R.any (Nat.beq i) = false → ρ i = ρ0 i
  fresh : ∀ i, i < g.pre.length → R.any (Nat.beq i) = true → w0.heap.size ≤ (ρ i).1 ∨ ∃ k, k < g.pre.length ∧ R.any (Nat.beq k) = true ∧ (ρ i).1 = (ρ0 k).1
  fr : Fr w0 w (fun b => ∃ i, i < g.pre.length ∧ isWr g.post i = true ∧ (ρ0 i).1 = b)
structure LoopOK (N : Nat) (g : Sg) (R W : List Nat) : Prop where
  nd : nodupB R = true
  lt : ∀ i, R.any (Nat.beq i) = true → i < g.pre.length
  wr : ∀ i, R.any (Nat.beq i) = true ∨ W.any (Nat.beq i) = true → isWr g.post i = true
  len : g.post.length ≤ g.pre.length
  live : ∀ (i : Nat) (b : Bk), g.pre[i]? = some b → b.live = true
  bd : ∀ (i : Nat) (b : Bk), g.pre[i]? = some b → b.bd g.pre.length = true
  slB' : slB (g.pre.length + g.news.length) N g.sl' = true
  pB : obd (g.pre.length + g.news.length) g.post = true
  nB : ∀ (i : Nat) (b : Bk), g.news[i]? = some b → b.bd (g.pre.length + g.news.length) = true
  rl : ∀ (i : Nat) (b : Bk), R.any (Nat.beq i) = true → g.post[i]? = some (some b) → b.live = true
theorem loopB_ok {N : Nat} {g : Sg} {R W : List Nat} (h : loopB N g R W = true) : LoopOK N g R W := by
  simp only [loopB, Bool.and_eq_true, List.all_eq_true, blt_iff, Nat.ble_eq] at h
  obtain ⟨h1, h2, h3, h4, h5, h6, h7, h8, h9, h10, h11, _⟩ := h
  have mem : ∀ {L : List Nat} {i : Nat}, L.any (Nat.beq i) = true → i ∈ L := fun h => by
    obtain ⟨x, hx, he⟩ := List.any_eq_true.1 h
    rw [Nat.eq_of_beq_eq_true he]; exact hx
  refine ⟨h1, fun i hi => h2 i (mem hi), fun i hi => hi.elim (fun h => h3 i (mem h)) (fun h => h4 i (mem h)), h5, fun i b hb => h6 b (List.mem_of_getElem? hb), fun i b hb => bksB_get h7 hb, h8, h9, fun i b hb => bksB_get h10 hb, fun i b hi hb => ?_⟩
  have := h11 i (mem hi)
  rw [List.getD_eq_getElem?_getD, hb] at this
  exact this
section
variable {P : Program} {N : Nat} {c : Code} {g : Sg} {R W : List Nat} {ρ0 : Nat → Nat × Nat} {w0 : World}
/-- A stretch's law at one place. -/
def _root_.Go.Proofs.Ytieencpejpeenaa.RX.Sg.ValidAt (P : Program) (N : Nat) (c : Code) (g : Sg) (VA VB : Env) (ρ : Nat → Nat × Nat) (a : Act) (w : World) : Prop :=
  a.tmps.size = N → a.defers = [] → slotsOK VA ρ a g.sl → preOK VA ρ w g.pre g.post → c.wp P (g.Q VB N ρ w) a w
theorem round_post {i : Nat} {b : Bk} (h : (roundSg g.sl g.pre R W).post[i]? = some (some b)) : i < g.pre.length ∧ ((R.any (Nat.beq i) = true ∧ b = .gone) ∨ (R.any (Nat.beq i) = false ∧ W.any (Nat.beq i) = true ∧ b = (g.pre.getD i .gone).rnI (nextIds g.pre.length R))) := by
  simp only [roundSg, List.getElem?_map] at h
  cases hi : (List.range g.pre.length)[i]? with
  | none => rw [hi] at h; cases h
  | some x =>
    have hl : i < g.pre.length := by simpa using (List.getElem?_eq_some_iff.1 hi).1
    rw [List.getElem?_range hl] at hi
    cases hi
    rw [List.getElem?_range hl] at h
    simp only [Option.map_some, Option.some.injEq] at h
    refine ⟨hl, ?_⟩
    cases hR : R.any (Nat.beq i) with
    | true => rw [hR] at h; exact .inl ⟨rfl, by cases h; rfl⟩
    | false =>
      rw [hR] at h
      cases hW : W.any (Nat.beq i) with
      | true => rw [hW] at h; exact .inr ⟨rfl, rfl, by cases h; rfl⟩
      | false => rw [hW] at h; cases h
theorem Lp.round (C : LoopOK N g R W) {VA VB : Env} {ρ : Nat → Nat × Nat} {a : Act} {w : World} (h : Lp VA N g R ρ0 w0 ρ a w)
    (hk : ∀ (i : Nat) (b : Bk), g.pre[i]? = some b → R.any (Nat.beq i) = false → W.any (Nat.beq i) = false → b.rnI (nextIds g.pre.length R) = b ∧ ∀ ρ o, b.holds VA ρ o → b.holds VB ρ o)
    (hr : Sg.ValidAt P N c (roundSg g.sl g.pre R W) VA VB ρ a w) : c.wp P (fun e a' w' => e = .normal ∧ ∃ ρ', Lp VB N g R ρ0 w0 ρ' a' w') a w := by
  let θ := nextIds g.pre.length R
  have wrOf : ∀ {i : Nat}, isWr (roundSg g.sl g.pre R W).post i = true → isWr g.post i = true := fun {i} hi => by
    obtain ⟨b, hb⟩ := isWr_some hi
    obtain ⟨_, hor⟩ := round_post hb
    exact C.wr i (hor.imp (·.1) (·.2.1))
  have hpre : preOK VA ρ w (roundSg g.sl g.pre R W).pre (roundSg g.sl g.pre R W).post := ⟨fun i j hi hj hor he => h.inj i j hi hj (hor.imp wrOf wrOf) he, h.heap⟩
  refine wp_mono (hr h.size h.defers h.slots hpre) ?_
  rintro e a' w' ⟨rfl, hsz, hdf, ρ', hsl, q1, q2, q3, q4, q5, q6⟩
  have getB : ∀ {i : Nat}, i < g.pre.length → ∃ b, g.pre[i]? = some b ∧ g.pre.getD i .gone = b := fun {i} hi => ⟨_, List.getElem?_eq_getElem hi, by simp [List.getD_eq_getElem?_getD, List.getElem?_eq_getElem hi]⟩
  have hnl : (roundSg g.sl g.pre R W).news.length = R.length := by simp [roundSg]
  have hold : ∀ {i : Nat}, i < g.pre.length → R.any (Nat.beq i) = false → ρ' (θ.getD i 0) = ρ i := fun {i} hi hR => by
    rw [nextIds_get hi, nextId_old hR]; exact q1 i hi
  have there : ∀ {i : Nat}, i < g.pre.length → (ρ i).1 < w.heap.size := fun {i} hi => by
    obtain ⟨b, hb, _⟩ := getB hi
    exact lt_of_holds (h.heap i b hb) (C.live i b hb)
  have goneR : ∀ {k : Nat}, (roundSg g.sl g.pre R W).post[k]? = some (some .gone) → k < g.pre.length ∧ R.any (Nat.beq k) = true := fun {k} hg => by
    obtain ⟨hl, hor⟩ := round_post hg
    refine ⟨hl, ?_⟩
    rcases hor with ⟨hR, _⟩ | ⟨_, _, he⟩
    · exact hR
    · obtain ⟨b, hb, hgd⟩ := getB hl
      rw [hgd] at he
      have h1 := C.live k b hb
      rw [← Bk.live_rnI (θ := nextIds g.pre.length R), ← he] at h1
      cases h1
  have hnew : ∀ {j : Nat}, j < R.length → w.heap.size ≤ (ρ' (g.pre.length + j)).1 ∨ ∃ k, k < g.pre.length ∧ R.any (Nat.beq k) = true ∧ (ρ' (g.pre.length + j)).1 = (ρ k).1 := fun {j} hj => by
    rcases q2 j (by rw [hnl]; exact hj) with hge | ⟨k, hg, he⟩
    · exact .inl hge
    · obtain ⟨hl, hR⟩ := goneR hg
      exact .inr ⟨k, hl, hR, he⟩
  refine ⟨rfl, fun i => ρ' (θ.getD i 0), hsz, hdf, ?_, ?_, ?_, ?_, ?_, ?_⟩
  · exact (slotsOK_rn (r := fun x => x.rnI θ) (fun x => dl_rnI)).1 hsl
  · intro i b hb
    have hi : i < g.pre.length := (List.getElem?_eq_some_iff.1 hb).1
    have hgd : g.pre.getD i .gone = b := by simp [List.getD_eq_getElem?_getD, hb]
    show b.holds VB _ w'.heap[(ρ' (θ.getD i 0)).1]?
    cases hR : R.any (Nat.beq i) with
    | true =>
      obtain ⟨j, hj, hjl, hn⟩ := nextId_new (p := g.pre.length) hR
      rw [nextIds_get hi, hn]
      refine Bk.holds_rnI.1 (q5 j (b.rnI θ) ?_)
      simp only [roundSg, List.getElem?_map, hj, Option.map_some, hgd]; rfl
    | false =>
      rw [hold hi hR]
      cases hW : W.any (Nat.beq i) with
      | true =>
        refine Bk.holds_rnI.1 (q4 i (b.rnI θ) ?_)
        simp only [roundSg, List.getElem?_map, List.getElem?_range hi, Option.map_some, hR, hW, cond_false, cond_true, hgd]; rfl
      | false =>
        obtain ⟨hst, hc⟩ := hk i b hb hR hW
        have he : w'.heap[(ρ i).1]? = w.heap[(ρ i).1]? := by
          refine q6.block _ (there hi) ?_
          rintro ⟨i', bk, hb', he⟩
          obtain ⟨hl, hor⟩ := round_post hb'
          have := h.inj i' i hl hi (.inl (C.wr i' (hor.imp (·.1) (·.2.1)))) he
          subst this
          rcases hor with ⟨x, _⟩ | ⟨_, x, _⟩
          · rw [hR] at x; cases x
          · rw [hW] at x; cases x
        rw [he]
        refine Bk.holds_rnI.1 ?_
        rw [hst]
        exact (Bk.holds_agree (ρ := ρ) (ρ' := ρ') q1 (C.bd i b hb)).2 (hc ρ _ (h.heap i b hb))
  · intro i j hi hj hor he
    cases hRi : R.any (Nat.beq i) with
    | true =>
      obtain ⟨x, hx, hxl, hnx⟩ := nextId_new (p := g.pre.length) hRi
      cases hRj : R.any (Nat.beq j) with
      | true =>
        obtain ⟨y, hy, hyl, hny⟩ := nextId_new (p := g.pre.length) hRj
        rw [nextIds_get hi, nextIds_get hj, hnx, hny] at he
        have := q3 x y (by rw [hnl]; exact hxl) (by rw [hnl]; exact hyl) he
        subst this
        rw [hx] at hy; exact Option.some.inj hy
      | false =>
        rw [hold hj hRj, nextIds_get hi, hnx] at he
        rcases hnew hxl with hge | ⟨k, hk1, hk2, hk3⟩
        · have := there hj; omega
        · have := h.inj k j hk1 hj (.inl (C.wr k (.inl hk2))) (hk3.symm.trans he)
          subst this; rw [hRj] at hk2; cases hk2
    | false =>
      cases hRj : R.any (Nat.beq j) with
      | true =>
        obtain ⟨y, hy, hyl, hny⟩ := nextId_new (p := g.pre.length) hRj
        rw [hold hi hRi, nextIds_get hj, hny] at he
        rcases hnew hyl with hge | ⟨k, hk1, hk2, hk3⟩
        · have := there hi; omega
        · have := h.inj k i hk1 hi (.inl (C.wr k (.inl hk2))) (hk3.symm.trans he.symm)
          subst this; rw [hRi] at hk2; cases hk2
      | false =>
        rw [hold hi hRi, hold hj hRj] at he
        exact h.inj i j hi hj hor he
  · intro i hi hR
    rw [hold hi hR]; exact h.same i hi hR
  · intro i hi hR
    obtain ⟨x, hx, hxl, hnx⟩ := nextId_new (p := g.pre.length) hR
    rw [nextIds_get hi, hnx]
    rcases hnew hxl with hge | ⟨k, hk1, hk2, hk3⟩
    · exact .inl (Nat.le_trans h.fr.size hge)
    · rw [hk3]; exact h.fresh k hk1 hk2
  · refine h.fr.trans q6 ?_
    rintro x hx ⟨i, bk, hb, rfl⟩
    obtain ⟨hl, hor⟩ := round_post hb
    cases hR : R.any (Nat.beq i) with
    | false => exact ⟨i, hl, C.wr i (hor.imp (·.1) (·.2.1)), by rw [h.same i hl hR]⟩
    | true =>
      rcases h.fresh i hl hR with hge | ⟨k, hk1, hk2, hk3⟩
      · omega
      · exact ⟨k, hk1, C.wr k (.inl hk2), hk3.symm⟩
theorem loop_post {k : Nat} (hk : k < g.pre.length) : (loopSg g R).post[k]? = some (cond (R.any (Nat.beq k)) (some .gone) ((g.post.getD k none).map fun b => b.rnI (lastIds g.pre.length R g.news.length))) := by
  simp only [loopSg, List.getElem?_map, List.getElem?_range hk, Option.map_some]
theorem Lp.lastQ (C : LoopOK N g R W) {VA VB : Env} {ρ : Nat → Nat × Nat} {a : Act} {w : World} (h : Lp VA N g R ρ0 w0 ρ a w)
    {e : Exit} {a' : Act} {w' : World} (hq : g.Q VB N ρ w e a' w') : (loopSg g R).Q VB N ρ0 w0 e a' w' := by
  obtain ⟨rfl, hsz, hdf, ρ', hsl, q1, q2, q3, q4, q5, q6⟩ := hq
  let p := g.pre.length
  let q := g.news.length
  let ρF : Nat → Nat × Nat := fun i => if i < p then ρ0 i else if i < p + R.length then ρ (R.getD (i - p) 0) else ρ' (i - R.length)
  have F1 : ∀ i, i < p → ρF i = ρ0 i := fun i hi => if_pos hi
  have F2 : ∀ (j i : Nat), R[j]? = some i → ρF (p + j) = ρ i := fun j i hj => by
    have hjl := (List.getElem?_eq_some_iff.1 hj).1
    show (if _ then _ else _) = _
    rw [if_neg (by omega), if_pos (by omega), show p + j - p = j by omega, List.getD_eq_getElem?_getD, hj]; rfl
  have F3 : ∀ j, ρF (p + R.length + j) = ρ' (p + j) := fun j => by
    show (if _ then _ else _) = _
    rw [if_neg (by omega), if_neg (by omega), show p + R.length + j - R.length = p + j by omega]
  have key : ∀ i, i < p + q → ρF ((lastIds p R q).getD i 0) = ρ' i := fun i hi => by
    rcases Nat.lt_or_ge i p with hlt | hge
    · rw [lastIds_get hlt]
      cases hR : R.any (Nat.beq i) with
      | false => rw [nextId_old hR, F1 i hlt, q1 i hlt, h.same i hlt hR]
      | true =>
        obtain ⟨x, hx, hxl, hnx⟩ := nextId_new (p := p) hR
        rw [hnx, F2 x i hx, q1 i hlt]
    · obtain ⟨j, rfl⟩ : ∃ j, i = p + j := ⟨i - p, by omega⟩
      rw [lastIds_new (by omega), F3]
  have there : ∀ {i : Nat}, i < p → (ρ i).1 < w.heap.size := fun {i} hi =>
    lt_of_holds (h.heap i _ (List.getElem?_eq_getElem hi)) (C.live i _ (List.getElem?_eq_getElem hi))
  have fresh0 : ∀ {i : Nat}, i < p → (w0.heap.size ≤ (ρ i).1 ∧ R.any (Nat.beq i) = true) ∨ ∃ k, k < p ∧ (R.any (Nat.beq k) = true ∨ k = i) ∧ (ρ i).1 = (ρ0 k).1 := fun {i} hi => by
    cases hR : R.any (Nat.beq i) with
    | false => exact .inr ⟨i, hi, .inr rfl, by rw [h.same i hi hR]⟩
    | true =>
      rcases h.fresh i hi hR with hge | ⟨k, hk1, hk2, hk3⟩
      · exact .inl ⟨hge, rfl⟩
      · exact .inr ⟨k, hk1, .inl hk2, hk3⟩
  have postR : ∀ {k : Nat}, k < p → R.any (Nat.beq k) = true → (loopSg g R).post[k]? = some (some .gone) := fun {k} hk hR => by
    rw [loop_post hk, hR]; rfl
  have postN : ∀ {k : Nat} {b : Bk}, k < p → R.any (Nat.beq k) = false → g.post[k]? = some (some b) → (loopSg g R).post[k]? = some (some (b.rnI (lastIds p R q))) := fun {k b} hk hR hb => by
    rw [loop_post hk, hR, List.getD_eq_getElem?_getD, hb]; rfl
  have ltPost : ∀ {k : Nat} {b : Bk}, g.post[k]? = some (some b) → k < p := fun {k b} hb => Nat.lt_of_lt_of_le (List.getElem?_eq_some_iff.1 hb).1 C.len
  have hnl : (loopSg g R).news.length = R.length + q := by simp [loopSg]; rfl
  have newsR : ∀ {j : Nat}, j < R.length → ∃ i b, R[j]? = some i ∧ i < p ∧ R.any (Nat.beq i) = true ∧ g.post[i]? = some (some b) ∧ (loopSg g R).news[j]? = some (b.rnI (lastIds p R q)) := fun {j} hj => by
    have hg := List.getElem?_eq_getElem hj
    have hR := any_of_get hg
    obtain ⟨b, hb⟩ := isWr_some (C.wr _ (.inl hR))
    refine ⟨_, b, hg, C.lt _ hR, hR, hb, ?_⟩
    simp only [loopSg]
    rw [List.getElem?_append_left (by simpa using hj)]
    simp only [List.getElem?_map, hg, Option.map_some, List.getD_eq_getElem?_getD, hb, Option.getD_some]; rfl
  have newsL : ∀ {j : Nat}, (loopSg g R).news[R.length + j]? = (g.news[j]?).map (Bk.rnI (lastIds p R q)) := fun {j} => by
    simp only [loopSg]
    rw [List.getElem?_append_right (by simp)]
    simp only [List.length_map, Nat.add_sub_cancel_left, List.getElem?_map]; rfl
  -- a new block of the last round's
  have lastNew : ∀ {j : Nat}, j < q → w.heap.size ≤ (ρ' (p + j)).1 ∨ ∃ k, k < p ∧ g.post[k]? = some (some .gone) ∧ R.any (Nat.beq k) = false ∧ (ρ' (p + j)).1 = (ρ k).1 := fun {j} hj => by
    rcases q2 j hj with hge | ⟨k, hg, he⟩
    · exact .inl hge
    · refine .inr ⟨k, ltPost hg, hg, ?_, he⟩
      cases hR : R.any (Nat.beq k) with
      | false => rfl
      | true => have := C.rl k _ hR hg; cases this
  have apart : ∀ {j x i : Nat}, j < q → R[x]? = some i → (ρ' (p + j)).1 ≠ (ρ i).1 := fun {j x i} hj hx he => by
    have hR := any_of_get hx
    have hi := C.lt i hR
    rcases lastNew hj with hge | ⟨k, hk1, hk2, hk3, hk4⟩
    · have := there hi; omega
    · have := h.inj k i hk1 hi (.inl (isWr_of hk2)) (hk4.symm.trans he)
      subst this; rw [hR] at hk3; cases hk3
  refine ⟨rfl, hsz, hdf, ρF, ?_, F1, ?_, ?_, ?_, ?_, ?_⟩
  · show slotsOK VB ρF a' (mapSl (fun x => x.rnI (lastIds p R q)) g.sl')
    refine (slotsOK_rn (V' := VB) (ρ' := fun i => ρF ((lastIds p R q).getD i 0)) (r := fun x => x.rnI (lastIds p R q)) (fun x => dl_rnI)).2 ?_
    exact (slotsOK_bd (n := p + q) key C.slB').2 hsl
  · intro j hj
    rw [hnl] at hj
    rcases Nat.lt_or_ge j R.length with hlt | hge
    · obtain ⟨i, b, hg, hi, hR, _, _⟩ := newsR hlt
      show _ ≤ (ρF (p + j)).1 ∨ ∃ k, _ ∧ (ρF (p + j)).1 = _
      rw [F2 j i hg]
      rcases h.fresh i hi hR with hge | ⟨k, hk1, hk2, hk3⟩
      · exact .inl hge
      · exact .inr ⟨k, postR hk1 hk2, hk3⟩
    · obtain ⟨j, rfl⟩ : ∃ k, j = R.length + k := ⟨j - R.length, by omega⟩
      show _ ≤ (ρF (p + (R.length + j))).1 ∨ ∃ k, _ ∧ (ρF (p + (R.length + j))).1 = _
      rw [← Nat.add_assoc, F3]
      rcases lastNew (show j < q by omega) with hge | ⟨k, hk1, hk2, hk3, hk4⟩
      · exact .inl (Nat.le_trans h.fr.size hge)
      · exact .inr ⟨k, postN hk1 hk3 hk2, by rw [hk4, h.same k hk1 hk3]⟩
  · intro i j hi hj he
    rw [hnl] at hi hj
    replace he : (ρF (p + i)).1 = (ρF (p + j)).1 := he
    rcases Nat.lt_or_ge i R.length with hi1 | hi1 <;> rcases Nat.lt_or_ge j R.length with hj1 | hj1
    · obtain ⟨x, b, hx, hxp, hxR, hxb, _⟩ := newsR hi1
      obtain ⟨y, b', hy, hyp, hyR, _, _⟩ := newsR hj1
      rw [F2 i x hx, F2 j y hy] at he
      have := h.inj x y hxp hyp (.inl (isWr_of hxb)) he
      subst this
      exact nodup_get C.nd hx hy
    · obtain ⟨x, b, hx, hxp, hxR, hxb, _⟩ := newsR hi1
      obtain ⟨j, rfl⟩ : ∃ k, j = R.length + k := ⟨j - R.length, by omega⟩
      rw [F2 i x hx, ← Nat.add_assoc, F3] at he
      exact absurd he.symm (apart (by omega) hx)
    · obtain ⟨y, b', hy, hyp, hyR, _, _⟩ := newsR hj1
      obtain ⟨i, rfl⟩ : ∃ k, i = R.length + k := ⟨i - R.length, by omega⟩
      rw [F2 j y hy, ← Nat.add_assoc, F3] at he
      exact absurd he (apart (by omega) hy)
    · obtain ⟨i, rfl⟩ : ∃ k, i = R.length + k := ⟨i - R.length, by omega⟩
      obtain ⟨j, rfl⟩ : ∃ k, j = R.length + k := ⟨j - R.length, by omega⟩
      rw [← Nat.add_assoc, ← Nat.add_assoc, F3, F3] at he
      have := q3 i j (by omega) (by omega) he
      omega
  · intro i bk hb
    have hi : i < p := by
      have := (List.getElem?_eq_some_iff.1 hb).1
      simpa [loopSg] using this
    cases hR : R.any (Nat.beq i) with
    | true => rw [postR hi hR] at hb; cases hb; trivial
    | false =>
      cases hg : g.post[i]? with
      | none => rw [loop_post hi, hR, List.getD_eq_getElem?_getD, hg] at hb; cases hb
      | some ob =>
        cases ob with
        | none => rw [loop_post hi, hR, List.getD_eq_getElem?_getD, hg] at hb; cases hb
        | some b =>
          rw [postN hi hR hg] at hb
          cases hb
          rw [← h.same i hi hR]
          exact Bk.holds_rnI.2 ((Bk.holds_agree (ρ := ρ') (n := p + q) key (obd_get C.pB hg)).2 (q4 i b hg))
  · intro j bk hb
    have hj := (List.getElem?_eq_some_iff.1 hb).1
    rw [hnl] at hj
    rcases Nat.lt_or_ge j R.length with hlt | hge
    · obtain ⟨i, b, hg, hi, hR, hgb, hn⟩ := newsR hlt
      rw [hn] at hb; cases hb
      show Bk.holds VB ρF w'.heap[(ρF (p + j)).1]? _
      rw [F2 j i hg]
      exact Bk.holds_rnI.2 ((Bk.holds_agree (ρ := ρ') (n := p + q) key (obd_get C.pB hgb)).2 (q4 i b hgb))
    · obtain ⟨j, rfl⟩ : ∃ k, j = R.length + k := ⟨j - R.length, by omega⟩
      rw [newsL] at hb
      obtain ⟨b, hgb, rfl⟩ := Option.map_eq_some_iff.1 hb
      show Bk.holds VB ρF w'.heap[(ρF (p + (R.length + j))).1]? _
      rw [← Nat.add_assoc, F3]
      exact Bk.holds_rnI.2 ((Bk.holds_agree (ρ := ρ') (n := p + q) key (C.nB j b hgb)).2 (q5 j b hgb))
  · have wrF : ∀ {k : Nat}, k < p → isWr g.post k = true → ∃ bk, (loopSg g R).post[k]? = some (some bk) := fun {k} hk hw => by
      cases hR : R.any (Nat.beq k) with
      | true => exact ⟨_, postR hk hR⟩
      | false => obtain ⟨b, hb⟩ := isWr_some hw; exact ⟨_, postN hk hR hb⟩
    refine (h.fr.trans q6 ?_).mono ?_
    · rintro x hx ⟨i, bk, hb, rfl⟩
      have hi := ltPost hb
      rcases fresh0 hi with ⟨hge, _⟩ | ⟨k, hk1, hk2, hk3⟩
      · omega
      · refine ⟨k, hk1, ?_, hk3.symm⟩
        rcases hk2 with hk2 | rfl
        · exact C.wr k (.inl hk2)
        · exact isWr_of hb
    · rintro x hx ⟨i, hi, hw, rfl⟩
      obtain ⟨bk, hb⟩ := wrF hi hw
      exact ⟨i, bk, hb, rfl⟩
theorem Lp.last (C : LoopOK N g R W) {VA VB : Env} {ρ : Nat → Nat × Nat} {a : Act} {w : World} (h : Lp VA N g R ρ0 w0 ρ a w)
    (hl : Sg.ValidAt P N c g VA VB ρ a w) : c.wp P ((loopSg g R).Q VB N ρ0 w0) a w := wp_mono (hl h.size h.defers h.slots ⟨h.inj, h.heap⟩) (fun _ _ _ hq => h.lastQ C hq)
/-- A LOOP: m rounds that go on, and one that ends it. -/
theorem Sg.loop (V : Nat → Env) {VB : Env} (m : Nat) (hchk : loopB N g R W = true) (hex : g.ex.beq .normal = false)
    (hk : ∀ k, k < m → ∀ (i : Nat) (b : Bk), g.pre[i]? = some b → R.any (Nat.beq i) = false → W.any (Nat.beq i) = false → b.rnI (nextIds g.pre.length R) = b ∧ ∀ ρ o, b.holds (V k) ρ o → b.holds (V (k + 1)) ρ o)
    (hr : ∀ k, k < m → Sg.Valid P N c (roundSg g.sl g.pre R W) (V k) (V (k + 1))) (hl : g.Valid P N c (V m) VB) : (loopSg g R).ValidL P N c (V 0) VB := by
  have C := loopB_ok hchk
  intro ρ0 a w0 hsz hdf hsl hpre
  have wrF : ∀ {k : Nat}, k < g.pre.length → isWr g.post k = true → isWr (loopSg g R).post k = true := fun {k} hk hw => by
    obtain ⟨b, hb⟩ := isWr_some hw
    cases hR : R.any (Nat.beq k) with
    | true => exact isWr_of (b := .gone) (by simp only [loopSg, List.getElem?_map, List.getElem?_range hk, Option.map_some, hR, cond_true])
    | false => exact isWr_of (b := b.rnI (lastIds g.pre.length R g.news.length)) (by simp only [loopSg, List.getElem?_map, List.getElem?_range hk, Option.map_some, hR, cond_false, List.getD_eq_getElem?_getD, hb, Option.getD_some])
  have hI : Lp (V 0) N g R ρ0 w0 ρ0 a w0 := ⟨hsz, hdf, hsl, hpre.2, fun i j hi hj hor he => hpre.1 i j hi hj (hor.imp (wrF hi) (wrF hj)) he, fun _ _ _ => rfl, fun i hi hR => .inr ⟨i, hi, hR, rfl⟩, Fr.refl _ _⟩
  have run : ∀ (n k : Nat), k + n = m → ∀ (ρ : Nat → Nat × Nat) (a : Act) (w : World), Lp (V k) N g R ρ0 w0 ρ a w → loopWp P c ((loopSg g R).Q VB N ρ0 w0) a w := by
    intro n
    induction n with
    | zero =>
      intro k hkm ρ a w h
      obtain rfl : k = m := by omega
      refine loop_round (wp_mono (h.last C (hl ρ a w)) ?_)
      intro e a' w' hq
      have he : e = g.ex.to := hq.1
      subst he
      cases hx : g.ex with
      | normal => rw [hx] at hex; cases hex
      | exit id => rw [hx] at hq; exact hq
      | ret => rw [hx] at hq; exact hq
    | succ n ih =>
      intro k hkm ρ a w h
      refine loop_round (wp_mono (h.round C (hk k (by omega)) (hr k (by omega) ρ a w)) ?_)
      rintro e a' w' ⟨rfl, ρ', h'⟩
      exact ih (k + 1) (by omega) ρ' a' w' h'
  exact run m 0 (by omega) ρ0 a w0 hI
theorem Sg.loopJ {J : World → Prop} (V : Nat → Env) {VB : Env} (m : Nat) (hchk : loopB N g R W = true) (hex : g.ex.beq .normal = false)
    (hk : ∀ k, k < m → ∀ (i : Nat) (b : Bk), g.pre[i]? = some b → R.any (Nat.beq i) = false → W.any (Nat.beq i) = false → b.rnI (nextIds g.pre.length R) = b ∧ ∀ ρ o, b.holds (V k) ρ o → b.holds (V (k + 1)) ρ o)
    (hr : ∀ k, k < m → Sg.ValidSt J P N c (roundSg g.sl g.pre R W) (V k) (V (k + 1))) (hl : g.ValidSt J P N c (V m) VB) : (loopSg g R).ValidLJ J P N c (V 0) VB := by
  have C := loopB_ok hchk
  intro ρ0 a w0 hst hsz hdf hsl hpre
  have wrF : ∀ {k : Nat}, k < g.pre.length → isWr g.post k = true → isWr (loopSg g R).post k = true := fun {k} hk hw => by
    obtain ⟨b, hb⟩ := isWr_some hw
    cases hR : R.any (Nat.beq k) with
    | true => exact isWr_of (b := .gone) (by simp only [loopSg, List.getElem?_map, List.getElem?_range hk, Option.map_some, hR, cond_true])
    | false => exact isWr_of (b := b.rnI (lastIds g.pre.length R g.news.length)) (by simp only [loopSg, List.getElem?_map, List.getElem?_range hk, Option.map_some, hR, cond_false, List.getD_eq_getElem?_getD, hb, Option.getD_some])
  have hI : Lp (V 0) N g R ρ0 w0 ρ0 a w0 := ⟨hsz, hdf, hsl, hpre.2, fun i j hi hj hor he => hpre.1 i j hi hj (hor.imp (wrF hi) (wrF hj)) he, fun _ _ _ => rfl, fun i hi hR => .inr ⟨i, hi, hR, rfl⟩, Fr.refl _ _⟩
  -- J stays, from each round's head on
  have stab : ∀ {k : Nat} {ρ : Nat → Nat × Nat} {a : Act} {w : World} (h : Lp (V k) N g R ρ0 w0 ρ a w) {post : List (Option Bk)}, (∀ i, i < g.pre.length → (roList post g.pre.length).any (Nat.beq i) = false → isWr g.post i = true) →
      ∀ w', Fr w w' (fun b => ∃ i, i < g.pre.length ∧ (roList post g.pre.length).any (Nat.beq i) = false ∧ (ρ i).1 = b) → J w' := by
    intro k ρ a w h post hp w' hfr
    refine hst w' ((h.fr.trans hfr ?_).mono ?_)
    · rintro x hx ⟨i, hi, hro, rfl⟩
      cases hR : R.any (Nat.beq i) with
      | false => exact ⟨i, hi, hp i hi hro, by rw [h.same i hi hR]⟩
      | true =>
        rcases h.fresh i hi hR with hge | ⟨q, hq1, hq2, hq3⟩
        · omega
        · exact ⟨q, hq1, C.wr q (.inl hq2), hq3.symm⟩
    · rintro x _ ⟨i, hi, hw, rfl⟩
      exact ⟨i, hi, wrF hi hw, rfl⟩
  have run : ∀ (n k : Nat), k + n = m → ∀ (ρ : Nat → Nat × Nat) (a : Act) (w : World), Lp (V k) N g R ρ0 w0 ρ a w → loopWp P c ((loopSg g R).Q VB N ρ0 w0) a w := by
    intro n
    induction n with
    | zero =>
      intro k hkm ρ a w h
      obtain rfl : k = m := by omega
      refine loop_round (wp_mono (h.last C (hl ρ a w (stab h (fun i hi hn => roList_no hi hn)))) ?_)
      intro e a' w' hq
      have he : e = g.ex.to := hq.1
      subst he
      cases hx : g.ex with
      | normal => rw [hx] at hex; cases hex
      | exit id => rw [hx] at hq; exact hq
      | ret => rw [hx] at hq; exact hq
    | succ n ih =>
      intro k hkm ρ a w h
      refine loop_round (wp_mono (h.round C (hk k (by omega)) (hr k (by omega) ρ a w (stab h (fun i hi hn => by obtain ⟨b, hb⟩ := isWr_some (roList_no (post := (roundSg g.sl g.pre R W).post) hi hn); obtain ⟨_, hor⟩ := round_post hb; exact C.wr i (hor.imp (·.1) (·.2.1)))))) ?_)
      rintro e a' w' ⟨rfl, ρ', h'⟩
      exact ih (k + 1) (by omega) ρ' a' w' h'
  exact run m 0 (by omega) ρ0 a w0 hI
end
end RX
end Go.Proofs.Ytieencpejpeenaa
end
section
namespace Go.Proofs.Ytieencpejpeenaa
open Go.RowKit
namespace RX
set_option linter.unnecessarySimpa false
set_option linter.unusedVariables false
set_option linter.unusedSimpArgs false
/-- Does a value name things of K only? -/
def SV.inE (K : List Nat) : SV → Bool
  | .ev i _ => K.any (Nat.beq i)
  | .ptr _ bs _ => bs.inE K
  | .sli _ bs _ l c => bs.inE K && (l.inE K && c.inE K)
  | .fn _ c => c.inE K
  | .bf _ a c => a.inE K && c.inE K
  | .cons h t => h.inE K && t.inE K
  | .agg l => l.inE K
  | .tup l => l.inE K
  | _ => true
def Bk.inE (K : List Nat) : Bk → Bool
  | .cs _ l => l.inE K
  | .row _ i => K.any (Nat.beq i)
  | .own _ i _ z => K.any (Nat.beq i) && z.inE K
  | .view i => K.any (Nat.beq i)
  | .ob _ => true
  | .gone => true
/-- The things of K are the same. -/
def sameE (V V' : Env) : List Nat → Prop
  | [] => True
  | i :: r => V.E.getD i [] = V'.E.getD i [] ∧ sameE V V' r
theorem sameE_get {V V' : Env} : ∀ {K : List Nat} {i : Nat}, sameE V V' K → K.any (Nat.beq i) = true → V.E.getD i [] = V'.E.getD i []
  | j :: r, i, h, hi => by
    simp only [List.any_cons, Bool.or_eq_true] at hi
    rcases hi with hi | hi
    · rw [Nat.eq_of_beq_eq_true hi]; exact h.1
    · exact sameE_get h.2 hi
theorem dl_same {V V' : Env} {K : List Nat} {ρ : Nat → Nat × Nat} (h : sameE V V' K) : ∀ {x : SV}, x.inE K = true → dl V ρ x = dl V' ρ x := by
  intro x
  induction x
  case ev i j => intro hx; show [(V.E.getD i []).getD j undef] = [(V'.E.getD i []).getD j undef]; rw [sameE_get h hx]
  all_goals simp_all [SV.inE, dl]
theorem holds_same {V V' : Env} {K : List Nat} {ρ : Nat → Nat × Nat} (h : sameE V V' K) (hO : V.O = V'.O) {b : Bk} {o : Option Obj} (hb : b.inE K = true) (hh : b.holds V ρ o) : b.holds V' ρ o := by
  cases b with
  | cs t l => exact (show o = some (.cells (dl V ρ l).toArray t (0, 0)) from hh).trans (by rw [dl_same h hb]; rfl)
  | row t i => exact (show o = some (.cells (V.E.getD i []).toArray t (0, 0)) from hh).trans (by rw [sameE_get h hb]; rfl)
  | view i => obtain ⟨r, t, z, hr⟩ := hh; exact ⟨r, t, z, by rw [hr, sameE_get h hb]⟩
  | own t i c z =>
    simp only [Bk.inE, Bool.and_eq_true] at hb
    have e : (o = some (.cells (V.E.getD i [] ++ spare (dl V ρ z) ((ρ c).2 * (dl V ρ z).length - (V.E.getD i []).length)).toArray t (0, 0)) ∧ (V.E.getD i []).length ≤ (ρ c).2 * (dl V ρ z).length) := hh
    rw [dl_same h hb.2, sameE_get h hb.1] at e; exact e
  | ob i => exact (show o = some (V.O.getD i noObj) from hh).trans (by rw [hO]; rfl)
  | gone => trivial
def stayAll (θ R W K : List Nat) : Nat → List Bk → Bool
  | _, [] => true
  | i, b :: r => (R.any (Nat.beq i) || (W.any (Nat.beq i) || (stayB θ b && b.inE K))) && stayAll θ R W K (i + 1) r
theorem stayAll_get {θ R W K : List Nat} : ∀ {l : List Bk} {i k : Nat} {b : Bk}, stayAll θ R W K i l = true → l[k]? = some b → R.any (Nat.beq (i + k)) = false → W.any (Nat.beq (i + k)) = false → stayB θ b = true ∧ b.inE K = true
  | [], _, _, _, _, h, _, _ => by simp at h
  | c :: r, i, 0, b, h, hb, hR, hW => by
    simp at hb; subst hb
    rw [Nat.add_zero] at hR hW
    simp only [stayAll, Bool.and_eq_true, Bool.or_eq_true, hR, hW] at h
    simpa using h.1
  | c :: r, i, k + 1, b, h, hb, hR, hW => by
    simp only [stayAll, Bool.and_eq_true] at h
    exact stayAll_get (i := i + 1) (k := k) h.2 (by simpa using hb) (by rwa [show i + 1 + k = i + (k + 1) by omega]) (by rwa [show i + 1 + k = i + (k + 1) by omega])
theorem stays {g : Sg} {R W : List Nat} (K : List Nat) {V : Nat → Env} {m : Nat} (hB : stayAll (nextIds g.pre.length R) R W K 0 g.pre = true) (hV : ∀ k, sameE (V k) (V (k + 1)) K) (hO : ∀ k, (V k).O = (V (k + 1)).O) :
    ∀ k, k < m → ∀ (i : Nat) (b : Bk), g.pre[i]? = some b → R.any (Nat.beq i) = false → W.any (Nat.beq i) = false → b.rnI (nextIds g.pre.length R) = b ∧ ∀ ρ o, b.holds (V k) ρ o → b.holds (V (k + 1)) ρ o := fun k _ i b hb hR hW => by
  obtain ⟨h1, h2⟩ := stayAll_get hB hb (by rwa [Nat.zero_add]) (by rwa [Nat.zero_add])
  exact ⟨stayB_spec h1, fun ρ o hh => holds_same (hV k) (hO k) h2 hh⟩

/-! ### Whole numbers that are natural -/
def nI (n : Nat) : List Value := [.int .i64 (n : Int)]
theorem one_nI (n : Nat) : ∀ j, j < 1 → ((nI n).getD j undef).oneCell' = true := one_int _ _
section
variable {P : Program} {V : Env} {t : TypeId} {a b : Nat} {k : IntKind}
theorem ob_nat (h : a = b) : ∀ (_ : Nat → Nat × Nat), [Value.int k (a : Int)] = [Value.int k (b : Int)] := fun _ => by rw [h]
theorem ob_lss_nt (h : a < b) : BinIs P .lss t (.int k (a : Int)) (.int k (b : Int)) (.bool true) := ob_lss_t (by omega)
theorem ob_lss_nf (h : ¬ a < b) : BinIs P .lss t (.int k (a : Int)) (.int k (b : Int)) (.bool false) := ob_lss_f (by omega)
theorem ob_leq_nt (h : a ≤ b) : BinIs P .leq t (.int k (a : Int)) (.int k (b : Int)) (.bool true) := ob_leq_t (by omega)
theorem ob_leq_nf (h : ¬ a ≤ b) : BinIs P .leq t (.int k (a : Int)) (.int k (b : Int)) (.bool false) := ob_leq_f (by omega)
theorem ob_gtr_nt (h : b < a) : BinIs P .gtr t (.int k (a : Int)) (.int k (b : Int)) (.bool true) := ob_gtr_t (by omega)
theorem ob_gtr_nf (h : ¬ b < a) : BinIs P .gtr t (.int k (a : Int)) (.int k (b : Int)) (.bool false) := ob_gtr_f (by omega)
theorem ob_geq_nt (h : b ≤ a) : BinIs P .geq t (.int k (a : Int)) (.int k (b : Int)) (.bool true) := ob_geq_t (by omega)
theorem ob_geq_nf (h : ¬ b ≤ a) : BinIs P .geq t (.int k (a : Int)) (.int k (b : Int)) (.bool false) := ob_geq_f (by omega)
theorem ob_eql_nt (h : a = b) : BinIs P .eql t (.int k (a : Int)) (.int k (b : Int)) (.bool true) := ob_eql_t (by omega)
theorem ob_eql_nf (h : ¬ a = b) : BinIs P .eql t (.int k (a : Int)) (.int k (b : Int)) (.bool false) := ob_eql_f (by omega)
theorem ob_neq_nt (h : a = b) : BinIs P .neq t (.int k (a : Int)) (.int k (b : Int)) (.bool false) := ob_neq_t (by omega)
theorem ob_neq_nf (h : ¬ a = b) : BinIs P .neq t (.int k (a : Int)) (.int k (b : Int)) (.bool true) := ob_neq_f (by omega)
theorem wrap_nat {n : Nat} (h : n < 9223372036854775808) : IntKind.i64.wrap (n : Int) = (n : Int) := by
  simp only [IntKind.wrap, IntKind.bits, IntKind.signed]
  simp
  omega
theorem ob_addn (h : a + b < 9223372036854775808) : BinIs P .add t (.int .i64 (a : Int)) (.int .i64 (b : Int)) (.int .i64 ((a + b : Nat) : Int)) := ob_add (by rw [← Int.natCast_add]; exact wrap_nat h)
theorem ob_subn (h : b ≤ a) (h' : a < 9223372036854775808) : BinIs P .sub t (.int .i64 (a : Int)) (.int .i64 (b : Int)) (.int .i64 ((a - b : Nat) : Int)) := ob_sub (by rw [← Int.natCast_sub h]; exact wrap_nat (by omega))

theorem one_slice (b : Option Addr) (n c : Nat) : ∀ j, j < 1 → ([Value.slice b n c].getD j undef).oneCell' = true := fun j hj => by
  match j, hj with
  | 0, _ => rfl
/-! ### Lists -/
/-- A list's type. -/
structure SliceIs (P : Program) (t e : TypeId) (size : Nat) : Prop where
  at_ : P.underlying t = some (.slice e)
  size : sizeT P e = some size
variable {e : TypeId} {size : Nat}
/-- len of a list. -/
theorem ob_len {ts : Array TypeId} {ty : TypeId} {cs : Array Bool} {x : SV} {v : SV} {base : (Nat → Nat × Nat) → Option Addr} {n : Nat} {c : (Nat → Nat × Nat) → Nat} (h0 : ts[0]? = some t) (ht : P.underlying t = some (.slice e)) (hx : ∀ ρ, den V ρ x = .slice (base ρ) n (c ρ)) (hs : x.single = true) (hv : ∀ ρ, den V ρ v = .int .i64 (n : Int)) :
    (Obl.bi .len ts ty cs (.cons x .nil) v).holds P V := fun ρ w => by
  have hd : dl V ρ (.cons x .nil) = [den V ρ x] := by simp only [dl, dl_single hs, List.append_nil]
  rw [hd, hx, hv]
  simp [builtin, Builtin.len_, h0, run_underlying ht, goInt]
/-- The place of a list's element. -/
theorem ob_ia {id off : Nat} {bs0 len cap i bs : SV} {o k n : Nat} (ht : P.underlying t = some (.slice e)) (hs : sizeT P e = some size) (h0 : ∀ ρ, natV (den V ρ bs0) = o) (hn : ∀ ρ, natV (den V ρ len) = n) (hi : ∀ ρ, den V ρ i = .int .i64 (k : Int)) (hd : ∀ ρ, natV (den V ρ bs) = o + k * size) (hk : k < n) :
    (Obl.ia t (.sli id bs0 off len cap) i (.ptr id bs off)).holds P V := fun ρ w => by
  have hx : den V ρ (.sli id bs0 off len cap) = .slice (some ⟨(ρ id).1, o + off, none⟩) n (natV (den V ρ cap)) := by
    show Value.slice (some ⟨(ρ id).1, natV (den V ρ bs0) + off, none⟩) (natV (den V ρ len)) _ = _
    rw [hn, h0]; rfl
  have hv : den V ρ (.ptr id bs off) = .pointer (some ⟨(ρ id).1, natV (den V ρ bs) + off, none⟩) := rfl
  rw [hx, hv, hi, hd]
  have hlt : (0 : Int) ≤ (k : Int) ∧ (k : Int) < (n : Int) := ⟨by omega, by omega⟩
  simp [Instr.indexAt, run_underlying ht, asIntOf, hlt.1, hlt.2, sizeT_run hs, hk]
  try unfold Addr.add
  split
  · rename_i h0; simp [h0]
  · simp; omega
/-- Cells of a list: f a, one behind another. -/
theorem drop_flat {α : Type} (f : α → List Value) (d : α) (hf : ∀ a, (f a).length = size) : ∀ (l : List α) (k : Nat), k < l.length → ((l.flatMap f).drop (k * size)).take size = f (l.getD k d)
  | [], k, h => by simp at h
  | a :: l, 0, _ => by simp [List.flatMap_cons, hf]
  | a :: l, k + 1, h => by
    have := drop_flat f d hf l k (by simpa using h)
    rw [List.flatMap_cons, show (k + 1) * size = (f a).length + k * size by rw [hf, Nat.add_mul]; omega, List.drop_append, show (f a).length + k * size - (f a).length = k * size by omega, List.drop_eq_nil_of_le (by omega), List.nil_append, this]
    rfl
theorem drop_part {α : Type} {f : α → List Value} {d : α} (hf : ∀ a, (f a).length = size) {R : List Value} {o : Nat} {l : List α} (h : (R.drop o).take (l.length * size) = l.flatMap f) {k : Nat} (hk : k < l.length) : (R.drop (o + k * size)).take size = f (l.getD k d) := by
  rw [← drop_flat f d hf l k hk, ← h, List.drop_take, List.drop_drop, List.take_take]
  congr 1
  have : (k + 1) * size ≤ l.length * size := Nat.mul_le_mul_right _ hk
  rw [Nat.add_mul, Nat.one_mul] at this
  omega
theorem drop_sub {R X : List Value} {d off n : Nat} (h : (R.drop d).take size = X) (hn : off + n ≤ size) : (R.drop (d + off)).take n = (X.drop off).take n := by
  rw [← h, List.drop_take, List.drop_drop, List.take_take, show min n (size - off) = n by omega]
theorem ob_ld {i off : Nat} {bs l : SV} {L : List Value} {d : Nat} {R : List Value} (hR : V.E.getD i [] = R) (hd : ∀ ρ, natV (den V ρ bs) = d) (hL : ∀ ρ, dl V ρ l = L) (h : (R.drop (d + off)).take l.len = L) : (Obl.ld i bs off l).holds P V := fun ρ => by
  rw [hR, hd, hL]; exact h
/-- The beginning of a list. -/
theorem ob_sl_hi {id off : Nat} {bs len cap hi len' : SV} {n c : Nat} (ht : P.underlying t = some (.slice e)) (hs : sizeT P e = some size) (hc : ∀ ρ, natV (den V ρ cap) = c) (hh : ∀ ρ, den V ρ hi = .int .i64 (n : Int)) (hl : ∀ ρ, natV (den V ρ len') = n) (hn : n ≤ c) :
    (Obl.sl t (.sli id bs off len cap) none (some hi) none (.sli id bs off len' cap)).holds P V := fun ρ w => by
  have hx : den V ρ (.sli id bs off len cap) = .slice (some ⟨(ρ id).1, natV (den V ρ bs) + off, none⟩) (natV (den V ρ len)) c := by rw [← hc ρ]; rfl
  have hv : den V ρ (.sli id bs off len' cap) = .slice (some ⟨(ρ id).1, natV (den V ρ bs) + off, none⟩) n c := by rw [← hc ρ, ← hl ρ]; rfl
  rw [hx, hv]
  simp only [Option.map_some, Option.map_none, hh]
  have h1 : (0 : Int) ≤ (n : Int) ∧ (n : Int) ≤ (c : Int) := ⟨by omega, by omega⟩
  simp [Instr.sliceAt, Instr.slice, Instr.sliceBounds, Instr.sliceBound, run_underlying ht, sizeT_run hs, asIntOf, h1.1, h1.2, hn]
  intro h0
  simp [Addr.add]
end
/-- A contract with no blocks, said otherwise. -/
theorem Ct.Valid.said {P : Program} {f : FuncId} {V V' : Env} {a r a' r' : SV} (h : Ct.Valid P f ⟨a, [], [], [], r⟩ V) (ha : ∀ ρ, dl V' ρ a' = dl V ρ a) (hr : ∀ ρ, den V ρ r = den V' ρ r') : Ct.Valid P f ⟨a', [], [], [], r'⟩ V' := by
  intro ρ w hp
  have := h ρ w ⟨fun i j hi => by simp at hi, fun i bk hb => by simp at hb⟩
  simp only at this ⊢
  rw [← ha] at this
  refine growUpon_mono ?_ this
  rintro v w' ⟨ρ', h1, h2, h3, h4, h5, h6, h7⟩
  exact ⟨ρ', h1, h2, h3, h4.trans (hr ρ'), fun i bk hb => by simp at hb, fun j bk hb => by simp at hb, h7⟩
end RX
end Go.Proofs.Ytieencpejpeenaa
end
section
namespace Go.Proofs.Ytieencpejpeenaa
open Go.RowKit
namespace RX
set_option linter.unnecessarySimpa false
set_option linter.unusedVariables false
set_option linter.unusedSimpArgs false
def SV.isRc : SV → Bool
  | .rc _ => true
  | _ => false
/-- A list's room: r's, where it tells one. -/
def SV.roomC (r : List (Nat × SV)) (y : SV) : SV → SV
  | .rc j => (match lkS r j with
    | .any => .rc j
    | v => v)
  | _ => y
/-- Another room in place of a block's own. -/
def SV.room (r : List (Nat × SV)) : SV → SV
  | .ptr id bs off => .ptr id (bs.room r) off
  | .sli id bs off len cap => .sli id (bs.room r) off (len.room r) (SV.roomC r (cap.room r) cap)
  | .fn f c => .fn f (c.room r)
  | .bf f a c => .bf f (a.room r) (c.room r)
  | .cons h t => .cons (h.room r) (t.room r)
  | .agg l => .agg (l.room r)
  | .tup l => .tup (l.room r)
  | x => x
/-- Things below n only, no room of r's blocks. -/
def SV.free (n : Nat) (r : List (Nat × SV)) : SV → Bool
  | .ev i _ => Nat.blt i n
  | .ptr _ bs _ => bs.free n r
  | .sli _ bs _ len cap => bs.free n r && (len.free n r && cap.free n r)
  | .rc j => (match lkS r j with
    | .any => true
    | _ => false)
  | .fn _ c => c.free n r
  | .bf _ a c => a.free n r && c.free n r
  | .cons h t => h.free n r && t.free n r
  | .agg l => l.free n r
  | .tup l => l.free n r
  | _ => true
/-- .. but where it is a list's room. -/
def SV.freeA (n : Nat) (r : List (Nat × SV)) : SV → Bool
  | .ev i _ => Nat.blt i n
  | .ptr _ bs _ => bs.freeA n r
  | .sli _ bs _ len cap => bs.freeA n r && (len.freeA n r && (cap.isRc || cap.freeA n r))
  | .rc j => (match lkS r j with
    | .any => true
    | _ => false)
  | .fn _ c => c.freeA n r
  | .bf _ a c => a.freeA n r && c.freeA n r
  | .cons h t => h.freeA n r && t.freeA n r
  | .agg l => l.freeA n r
  | .tup l => l.freeA n r
  | _ => true
def Bk.free (n : Nat) (r : List (Nat × SV)) : Bk → Bool
  | .cs _ l => l.free n r
  | .row _ i => Nat.blt i n
  | .own _ i c z => Nat.blt i n && ((match lkS r c with
    | .any => true
    | _ => false) && z.free n r)
  | .view i => Nat.blt i n
  | _ => true
def SV.plain : SV → Bool
  | .ev _ _ => true
  | .lit _ _ => true
  | _ => false
def roomCt (c : Ct) (r : List (Nat × SV)) : Ct := { c with args := c.args.room r }
def roomB (c : Ct) (n : Nat) (r : List (Nat × SV)) : Bool :=
  c.args.freeA n r && (c.res.free n r && ((c.pre.all fun b => b.free n r) && ((c.news.all fun b => b.free n r) && ((c.post.all fun b => match b with
    | some b => b.free n r
    | none => true) && (r.all fun x => x.2.plain && Nat.blt x.1 c.pre.length)))))
section
variable {E X : List (List Value)} {O : List Obj} {r : List (Nat × SV)}
/-- The rooms as r tells. -/
def roomed (V : Env) (r : List (Nat × SV)) (ρ : Nat → Nat × Nat) : Nat → Nat × Nat := fun i => match lkS r i with
  | .any => ρ i
  | v => ((ρ i).1, natV (den V ρ v))
theorem roomed_fst (V : Env) (ρ : Nat → Nat × Nat) (i : Nat) : (roomed V r ρ i).1 = (ρ i).1 := by unfold roomed; split <;> rfl
theorem at_app {i : Nat} (h : i < E.length) (j : Nat) : (Env.mk (E ++ X) O).at i j = (Env.mk E O).at i j := by
  unfold Env.at
  simp only [List.getD_eq_getElem?_getD, List.getElem?_append_left h]
theorem getD_app {i : Nat} (h : i < E.length) : (E ++ X).getD i [] = E.getD i [] := by
  simp only [List.getD_eq_getElem?_getD, List.getElem?_append_left h]
theorem dl_free {ρ1 ρ2 : Nat → Nat × Nat} (h1 : ∀ i, (ρ1 i).1 = (ρ2 i).1) (h2 : ∀ i, lkS r i = .any → ρ1 i = ρ2 i) : ∀ {x : SV}, x.free E.length r = true → dl ⟨E ++ X, O⟩ ρ1 x = dl ⟨E, O⟩ ρ2 x := by
  intro x
  induction x with
  | rc j =>
    intro h
    unfold SV.free at h
    split at h
    · rename_i hj; simp only [dl, h2 j hj]
    · cases h
  | ev i j => intro h; simp only [SV.free, blt_iff] at h; simp only [dl, at_app h]
  | _ => intro h; simp_all [SV.free, dl]
theorem holds_free {ρ1 ρ2 : Nat → Nat × Nat} (h1 : ∀ i, (ρ1 i).1 = (ρ2 i).1) (h2 : ∀ i, lkS r i = .any → ρ1 i = ρ2 i) {b : Bk} (hb : b.free E.length r = true) {o : Option Obj} : b.holds ⟨E ++ X, O⟩ ρ1 o ↔ b.holds ⟨E, O⟩ ρ2 o := by
  cases b with
  | gone => exact Iff.rfl
  | ob i => exact Iff.rfl
  | cs ty l =>
    refine Eq.to_iff (congrArg (o = some ·) ?_)
    show Obj.cells _ _ _ = Obj.cells _ _ _
    rw [dl_free h1 h2 hb]
  | row ty i =>
    simp only [Bk.free, blt_iff] at hb
    refine Eq.to_iff (congrArg (o = some ·) ?_)
    show Obj.cells _ _ _ = Obj.cells _ _ _
    rw [show ((Env.mk (E ++ X) O).E.getD i []) = E.getD i [] from getD_app hb]
  | view i =>
    simp only [Bk.free, blt_iff] at hb
    show (∃ _ _ _, _) ↔ (∃ _ _ _, _)
    rw [show ((Env.mk (E ++ X) O).E.getD i []) = E.getD i [] from getD_app hb]
  | own ty i c z =>
    simp only [Bk.free, Bool.and_eq_true, blt_iff] at hb
    obtain ⟨hi, hc, hz⟩ := hb
    have hc : lkS r c = .any := by split at hc <;> simp_all
    show (o = some (.cells ((E ++ X).getD i [] ++ spare (dl ⟨E ++ X, O⟩ ρ1 z) ((ρ1 c).2 * (dl ⟨E ++ X, O⟩ ρ1 z).length - ((E ++ X).getD i []).length)).toArray ty (0, 0)) ∧ ((E ++ X).getD i []).length ≤ (ρ1 c).2 * (dl ⟨E ++ X, O⟩ ρ1 z).length) ↔ (o = some (.cells (E.getD i [] ++ spare (dl ⟨E, O⟩ ρ2 z) ((ρ2 c).2 * (dl ⟨E, O⟩ ρ2 z).length - (E.getD i []).length)).toArray ty (0, 0)) ∧ (E.getD i []).length ≤ (ρ2 c).2 * (dl ⟨E, O⟩ ρ2 z).length)
    rw [getD_app hi, dl_free h1 h2 hz, h2 c hc]
theorem dl_room (ρ : Nat → Nat × Nat) : ∀ {x : SV}, x.freeA E.length r = true → dl ⟨E ++ X, O⟩ ρ (x.room r) = dl ⟨E, O⟩ (roomed ⟨E ++ X, O⟩ r ρ) x := by
  intro x
  induction x with
  | rc j =>
    intro h
    unfold SV.freeA at h
    split at h
    · rename_i hj; simp only [SV.room, dl, roomed, hj]
    · cases h
  | ev i j => intro h; simp only [SV.freeA, blt_iff] at h; simp only [SV.room, dl, at_app h]
  | sli id bs off len cap ih1 ih2 ih3 =>
    intro h
    simp only [SV.freeA, Bool.and_eq_true] at h
    obtain ⟨ha, hb, hc⟩ := h
    have key : ∀ c' : SV, natV ((dl ⟨E ++ X, O⟩ ρ c').headD undef) = natV ((dl ⟨E, O⟩ (roomed ⟨E ++ X, O⟩ r ρ) cap).headD undef) → dl ⟨E ++ X, O⟩ ρ (.sli id (bs.room r) off (len.room r) c') = dl ⟨E, O⟩ (roomed ⟨E ++ X, O⟩ r ρ) (.sli id bs off len cap) := by
      intro c' hc'
      show [Value.slice (some ⟨(ρ id).1, natV ((dl ⟨E ++ X, O⟩ ρ (bs.room r)).headD undef) + off, none⟩) (natV ((dl ⟨E ++ X, O⟩ ρ (len.room r)).headD undef)) (natV ((dl ⟨E ++ X, O⟩ ρ c').headD undef))] = [Value.slice (some ⟨(roomed ⟨E ++ X, O⟩ r ρ id).1, natV ((dl ⟨E, O⟩ (roomed ⟨E ++ X, O⟩ r ρ) bs).headD undef) + off, none⟩) (natV ((dl ⟨E, O⟩ (roomed ⟨E ++ X, O⟩ r ρ) len).headD undef)) (natV ((dl ⟨E, O⟩ (roomed ⟨E ++ X, O⟩ r ρ) cap).headD undef))]
      rw [ih1 ha, ih2 hb, hc', roomed_fst]
    cases cap with
    | rc j =>
      refine key _ ?_
      unfold SV.roomC
      cases hj : lkS r j <;> simp only [dl, roomed, hj, List.headD_cons, natV, Int.toNat_natCast, den]
    | _ => exact key _ (congrArg (fun l => natV (l.headD undef)) (ih3 (by simpa [SV.isRc] using hc)))
  | _ => intro h; simp_all [SV.freeA, SV.room, dl, roomed_fst]
theorem lkS_mem : ∀ {l : List (Nat × SV)} {i : Nat}, lkS l i ≠ .any → (i, lkS l i) ∈ l
  | [], i, h => absurd rfl h
  | (j, v) :: l, i, h => by
    simp only [lkS] at h ⊢
    cases hq : Nat.beq j i with
    | true => rw [Nat.eq_of_beq_eq_true hq]; simp
    | false => rw [hq] at h; simp only [cond_false] at h ⊢; exact List.mem_cons_of_mem _ (lkS_mem h)
/-- A CONTRACT WHATEVER THE ROOMS ARE. -/
theorem Ct.Valid.room {P : Program} {f : FuncId} {c : Ct} (h : c.Valid P f ⟨E, O⟩) (r : List (Nat × SV)) (X : List (List Value)) (hc : roomB c E.length r = true) : (roomCt c r).Valid P f ⟨E ++ X, O⟩ := by
  simp only [roomB, Bool.and_eq_true, List.all_eq_true] at hc
  obtain ⟨hA, hR, hP, hN, hQ, hr⟩ := hc
  intro ρ w hpre
  let ρs := roomed ⟨E ++ X, O⟩ r ρ
  have f1 : ∀ i, (ρ i).1 = (ρs i).1 := fun i => (roomed_fst _ _ i).symm
  have f2 : ∀ i, lkS r i = .any → ρ i = ρs i := fun i hi => by show ρ i = roomed _ r ρ i; unfold roomed; rw [hi]
  have hp : c.Pre ⟨E, O⟩ ρs w := by
    refine ⟨fun i j hi hj hor he => hpre.1 i j hi hj hor (by rw [f1 i, f1 j]; exact he), fun i bk hb => ?_⟩
    rw [← f1 i]
    exact (holds_free f1 f2 (hP bk (List.mem_of_getElem? hb))).1 (hpre.2 i bk hb)
  have hrun := h ρs w hp
  show growUpon P _ ((callFunc f (dl _ ρ (c.args.room r)).toArray).run P w)
  rw [dl_room ρ hA]
  refine growUpon_mono (fun v w' hp' => ?_) hrun
  obtain ⟨ρc, h1, h2, h3, h4, h5, h6, h7⟩ := hp'
  let ρ' : Nat → Nat × Nat := fun i => if i < c.pre.length then ρ i else ρc i
  have g1 : ∀ i, (ρ' i).1 = (ρc i).1 := fun i => by
    show (if _ then _ else _ : Nat × Nat).1 = _
    split
    · rename_i hi; rw [h1 i hi]; exact f1 i
    · rfl
  have g2 : ∀ i, lkS r i = .any → ρ' i = ρc i := fun i hi => by
    show (if _ then _ else _) = _
    split
    · rename_i hlt; rw [h1 i hlt]; exact f2 i hi
    · rfl
  have gn : ∀ j, ρ' (c.pre.length + j) = ρc (c.pre.length + j) := fun j => if_neg (by omega)
  refine ⟨ρ', fun i hi => if_pos hi, fun j hj => ?_, fun i j hi hj he => ?_, ?_, fun i bk hb => ?_, fun j bk hb => ?_, ?_⟩
  · rcases h2 j hj with hge | ⟨g, hg, he⟩
    · exact .inl (by rw [show ρ' ((roomCt c r).pre.length + j) = _ from gn j]; exact hge)
    · exact .inr ⟨g, hg, by rw [show ρ' ((roomCt c r).pre.length + j) = _ from gn j, he]; exact (f1 g).symm⟩
  · have he' : (ρ' (c.pre.length + i)).1 = (ρ' (c.pre.length + j)).1 := he
    rw [gn i, gn j] at he'
    exact h3 i j hi hj he'
  · rw [h4]; unfold den
    rw [show dl ⟨E ++ X, O⟩ ρ' (roomCt c r).res = dl ⟨E, O⟩ ρc c.res from dl_free g1 g2 hR]
  · have hq := hQ (some bk) (List.mem_of_getElem? hb)
    rw [f1 i]
    exact (holds_free g1 g2 hq).2 (h5 i bk hb)
  · show bk.holds _ _ w'.heap[(ρ' (c.pre.length + j)).1]?
    rw [gn j]
    exact (holds_free g1 g2 (hN bk (List.mem_of_getElem? hb))).2 (h6 j bk hb)
  · refine h7.mono ?_
    rintro x _ ⟨i, bk, hi, rfl⟩
    exact ⟨i, bk, hi, f1 i⟩
end
/-! ### Lists as arguments -/
/-- A list in memory: from place o of a block's row R on lie the cells of l's members. -/
structure Sl (T : Type) (f : T → List Value) (size : Nat) (Ok : T → Prop) where
  R : List Value
  o : Nat
  l : List T
  h : (R.drop o).take (l.length * size) = l.flatMap f
  ok : ∀ t, t ∈ l → Ok t
  hn : l.length < 9223372036854775808
section
variable {T : Type} {f : T → List Value} {size : Nat} {Ok : T → Prop}
theorem flat_len (hf : ∀ t, (f t).length = size) : ∀ (l : List T), (l.flatMap f).length = l.length * size
  | [] => by simp
  | t :: l => by rw [List.flatMap_cons, List.length_append, flat_len hf l, hf, List.length_cons, Nat.add_mul]; omega
theorem flat_len' (hf : ∀ t, (f t).length = size) (l : List T) {n : Nat} (h : l.length = n) : (l.flatMap f).length = n * size := by rw [flat_len hf, h]
theorem own_h (hf : ∀ t, (f t).length = size) (l : List T) : ((l.flatMap f).drop 0).take (l.length * size) = l.flatMap f := by
  rw [List.drop_zero, ← flat_len hf l, List.take_length]
theorem drop_one_more (hf : ∀ t, (f t).length = size) (t : T) {lo : Nat} {m : List Value} : (f t ++ m).drop ((lo + 1) * size) = m.drop (lo * size) := by
  rw [List.drop_append, hf, List.drop_eq_nil_of_le (by rw [hf, Nat.add_mul]; omega), List.nil_append, Nat.add_mul, Nat.one_mul, Nat.add_sub_cancel]
theorem drop_length' {l : List T} {n lo : Nat} (h : l.length = n) : (l.drop lo).length = n - lo := by rw [List.length_drop, h]
theorem own_drop (hf : ∀ t, (f t).length = size) (l : List T) (lo : Nat) : ((l.flatMap f).drop (lo * size)).take ((l.drop lo).length * size) = (l.drop lo).flatMap f := by
  rw [← flat_len hf (l.drop lo)]
  have e : (l.flatMap f).drop (lo * size) = (l.drop lo).flatMap f := by
    induction lo generalizing l with
    | zero => simp
    | succ lo ih =>
      cases l with
      | nil => simp
      | cons t l =>
        rw [List.flatMap_cons, List.drop_succ_cons, ← ih l, drop_one_more hf t]
  rw [e, List.take_length]
def Sl.own (hf : ∀ t, (f t).length = size) (l : List T) (ok : ∀ t, t ∈ l → Ok t) (hn : l.length < 9223372036854775808) : Sl T f size Ok := ⟨l.flatMap f, 0, l, own_h hf l, ok, hn⟩
theorem all_at {l : List T} (h : ∀ t, t ∈ l → Ok t) {d : T} (hd : Ok d) (k : Nat) : Ok (l.getD k d) := by
  rw [List.getD_eq_getElem?_getD]
  cases hq : l[k]? with
  | none => exact hd
  | some t => exact h t (List.mem_of_getElem? hq)
theorem flat_app (l m : List T) : (l ++ m).flatMap f = l.flatMap f ++ m.flatMap f := by rw [List.flatMap_append]
theorem flat_app' {l m n : List T} (h : l ++ m = n) : n.flatMap f = l.flatMap f ++ m.flatMap f := by rw [← h, List.flatMap_append]
theorem flat_eq {l m : List T} (h : m = l) : l.flatMap f = m.flatMap f := by rw [h]
theorem all_nil : ∀ t, t ∈ ([] : List T) → Ok t := fun t ht => absurd ht (by simp)
theorem all_cons {x : T} {l : List T} (h : Ok x) (hl : ∀ t, t ∈ l → Ok t) : ∀ t, t ∈ x :: l → Ok t := fun t ht => by
  rcases List.mem_cons.1 ht with rfl | ht
  · exact h
  · exact hl t ht
theorem flat_all (h : ∀ (t : T), ∀ u ∈ f t, u.oneCell' = true) (l : List T) : ∀ u ∈ l.flatMap f, u.oneCell' = true := by
  intro u hu
  obtain ⟨t, _, ht⟩ := List.mem_flatMap.1 hu
  exact h t u ht
end
/-! ### What is owed -/
section
variable {P : Program} {V : Env}
theorem ob_not {a : SV} {b r : Bool} (ha : ∀ ρ, den V ρ a = .bool b) (h : b = !r) : (Obl.un .not a (.bo r)).holds P V := fun ρ w => by
  rw [ha ρ, h]; cases r <;> rfl
theorem wrap_in {x : Int} (h : -9223372036854775808 ≤ x) (h' : x < 9223372036854775808) : IntKind.i64.wrap x = x := by
  unfold IntKind.wrap
  simp [IntKind.bits, IntKind.signed]
  omega
theorem toNat_u64 {x : Int} (h : 0 ≤ x) (h' : x < 9223372036854775808) : x.toNat < 18446744073709551616 := by omega
theorem int_toNat {k : IntKind} {x : Int} (h : 0 ≤ x) : Value.int k x = .int k (x.toNat : Int) := by rw [Int.toNat_of_nonneg h]
theorem ob_ia_arr {t e : TypeId} {id off : Nat} {i bs : SV} {len sz : Nat} {k : IntKind} {n : Int} (ht : arrayT P t = some (len, e)) (hs : sizeT P e = some sz) (h0 : 0 ≤ n) (h1 : n < len) (hi : ∀ ρ, den V ρ i = .int k n) (hd : ∀ ρ, natV (den V ρ bs) = n.toNat * sz) :
    (Obl.ia t (.ptr id .nil off) i (.ptr id bs off)).holds P V := fun ρ w => by
  have hx : den V ρ (.ptr id .nil off) = .pointer (some ⟨(ρ id).1, off, none⟩) := by
    show Value.pointer (some ⟨(ρ id).1, natV ((dl V ρ .nil).headD undef) + off, none⟩) = _
    simp [dl, natV, undef]
  have hv : den V ρ (.ptr id bs off) = .pointer (some ⟨(ρ id).1, natV (den V ρ bs) + off, none⟩) := rfl
  rw [hx, hv, hi, hd, indexAt_run ht hs h0 h1]
  simp only [Nat.add_comm]
theorem ob_str {a b : ByteArray} (h : a = b) : ∀ (_ : Nat → Nat × Nat), [Value.string a] = [Value.string b] := fun _ => by rw [h]
end
end RX
end Go.Proofs.Ytieencpejpeenaa
end
section
namespace Go.Proofs.Ytieencpejpeenaa
open Go.RowKit
namespace RX
set_option linter.unnecessarySimpa false
set_option linter.unusedVariables false
set_option linter.unusedSimpArgs false
/-- A list's type, all of it: an element's cells, bytes, zero. -/
structure ListIs (P : Program) (t e : TypeId) (size bytes : Nat) (i : TypeInfo) (z : Value) : Prop where
  at_ : P.underlying t = some (.slice e)
  info : P.info? e = some i
  sz : i.size = size
  byt : i.bytes = bytes
  zero : i.zero = some z
  zs : z.cells.size = size
theorem zero_spare {z : Value} {size : Nat} (hz : z.cells.size = size) (h0 : 0 < size) (m : Nat) : Builtin.zeroCells z.cells m = (spare z.cells.toList (m * size)).toArray := by
  apply Array.toList_inj.1
  unfold Builtin.zeroCells spare
  rw [Array.toList_map, Array.toList_range, hz]
  simp only [List.toList_toArray, Array.length_toList, hz]
  refine List.map_congr_left fun i hi => ?_
  have hl : i % size < z.cells.size := by rw [hz]; exact Nat.mod_lt _ h0
  rw [List.getD_eq_getElem?_getD, Array.getElem?_toList, getElem!_pos z.cells (i % size) hl, Array.getElem?_eq_getElem hl]; rfl
theorem tag_append {o : Oper} {ty t tx : TypeId} (h : tagOf o = some [19, ty, t, tx]) : ∃ c : Call, o.op = .call c ∧ c.callee = .builtin .append ∧ c.argTypes = #[t, tx] := by
  unfold tagOf at h
  split at h <;> first
    | (simp at h; done)
    | (rename_i args ts heq; simp only [Option.some.injEq, List.cons.injEq] at h; exact ⟨_, heq, rfl, by rw [← Array.toList_inj]; exact h.2.2⟩)
    | (simp at h; omega)
theorem fr_alloc (w : World) (x : Obj) (A : Nat → Prop) : Fr w (w.drew.alloc x) A := by
  refine ⟨rfl, rfl, rfl, ?_, fun b hb _ => Below.heap_alloc w.drew x b hb⟩
  show w.heap.size ≤ (w.heap.push x).size
  simp
section
variable {P : Program} {t e : TypeId} {size bytes : Nat} {i : TypeInfo} {z : Value}
theorem exec_append {o : Oper} {ev : Operand → Value} {ty : TypeId} {s x : Value} (h : tagOf o = some [19, ty, t, t]) (ha : o.op.operands.toList.map ev = [s, x]) (w : World) : (execOp ev o).run P w = (do pure (.value (← Builtin.append_ #[t, t] o.type #[s, x])) : Sem Next).run P w := by
  obtain ⟨c, hop, hc, hts⟩ := tag_append h
  have hargs : c.args.map ev = #[s, x] := by
    apply Array.toList_inj.1
    rw [← ha, hop]
    simp [Op.operands, Call.operands, hc]
  unfold execOp
  simp only [hop]
  unfold resolve
  simp [hc, hargs, hts, invoke, builtin]
theorem cells_at {w : World} {b : Nat} {C : List Value} {ty : TypeId} {zz : Nat × Nat} (h : w.heap[b]? = some (.cells C.toArray ty zz)) (j : Nat) : w.cell? ⟨b, j, none⟩ = C[j]? := by
  unfold World.cell?; rw [h]; simp
theorem addr_off (b j : Nat) : (Addr.mk b 0 none).add j = ⟨b, j, none⟩ := by
  unfold Addr.add
  split
  · rename_i h; rw [h]
  · simp
/-- append to none. -/
theorem app_nil (T : ListIs P t e size bytes i z) (h0 : 0 < size) {n : Nat} {L : List Value} (hn : 0 < n) (hL : L.length = n * size) (h1 : ∀ u ∈ L, u.oneCell' = true) (hmax : n ≤ maxLen) (hby : n * bytes ≤ 140737488355328) {zS capx : SV} {V : Env} (hE : V.E.getD 0 [] = nI n) (hE1 : V.E.getD 1 [] = L) (hE2 : V.E.getD 2 [] = L) (hz : ∀ ρ, dl V ρ zS = z.cells.toList) {ty : TypeId} :
    Ct.ValidOp P [19, ty, t, t] ⟨.cons .nilsl (.cons (.sli 0 (.lit .i64 0) 0 (.ev 0 0) capx) .nil), [.view 1], [], [.own e 2 1 zS], .sli 1 (.lit .i64 0) 0 (.ev 0 0) (.rc 1)⟩ V := by
  intro ρ w o ev htag hargs hpre
  have hev : natV (den V ρ (.ev 0 0)) = n := by
    show natV ((V.E.getD 0 []).getD 0 undef) = n
    rw [hE]; rfl
  have ha : o.op.operands.toList.map ev = [.slice none 0 0, .slice (some ⟨(ρ 0).1, 0, none⟩) n (natV (den V ρ capx))] := by
    rw [hargs]
    show [Value.slice none 0 0] ++ ([Value.slice (some ⟨(ρ 0).1, _, none⟩) (natV (den V ρ (.ev 0 0))) _] ++ []) = _
    rw [hev]; rfl
  obtain ⟨rest, tyx, zx, hb⟩ := hpre.2 0 (.view 1) rfl
  rw [hE1] at hb
  have hsrc : Src P i.size t (.slice (some ⟨(ρ 0).1, 0, none⟩) n (natV (den V ρ capx))) n L w := by
    refine Src.ofSlice w T.at_ _ n _ L (by rw [T.sz]; exact hL) (fun j u hj => ?_) h1
    rw [addr_off, cells_at hb, List.getElem?_append_left (List.getElem?_eq_some_iff.1 hj).1]; exact hj
  have hrun := run_append_grow_src (P := P) w t t o.type e i z T.at_ T.info T.zero none 0 0 [] (by simp [Builtin.firstCells]) _ n L hsrc (by omega) (by unfold maxLen at hmax; omega) (by rw [T.byt]; exact growslice_fits (by omega) (by rw [Nat.zero_add]; exact hby))
  rw [exec_append htag ha]
  simp only [Nat.zero_add, List.nil_append, Nat.sub_zero] at hrun
  simp only [Sem.run_bind, hrun, Result.andThen, Sem.run_pure]
  let cap := grownCap w n 0 e
  have hge : n ≤ cap := grownCap_ge w n 0 e
  let ρ' : Nat → Nat × Nat := fun k => if k = 1 then (w.heap.size, cap) else ρ k
  refine ⟨ρ', fun k hk => ?_, fun j hj => .inl ?_, fun a b ha hb _ => ?_, ?_, fun k bk hk => by simp at hk, fun j bk hj => ?_, fr_alloc w _ _⟩
  · have : k = 0 := by simpa using hk
    subst this; rfl
  · have : j = 0 := by simpa using hj
    subst this; exact Nat.le_refl _
  · have h1 : a = 0 := by simpa using ha
    have h2 : b = 0 := by simpa using hb
    rw [h1, h2]
  · have hev' : natV (den V ρ' (.ev 0 0)) = n := hev
    show Value.slice _ n cap = Value.slice (some ⟨(ρ' 1).1, _, none⟩) (natV (den V ρ' (.ev 0 0))) _
    rw [hev']; rfl
  · match j with
    | 0 =>
      cases hj
      have hzl : z.cells.toList.length = size := by rw [Array.length_toList]; exact T.zs
      refine ⟨?_, by show _ ≤ cap * _; rw [hE2, hz, hzl, hL]; exact Nat.mul_le_mul_right _ hge⟩
      show (w.drew.heap.push _)[w.heap.size]? = some (Obj.cells (V.E.getD 2 [] ++ spare (dl V ρ' zS) (cap * (dl V ρ' zS).length - (V.E.getD 2 []).length)).toArray e (0, 0))
      have hsz : w.heap.size = w.drew.heap.size := rfl
      rw [hsz, Array.getElem?_push_size, hE2, hz, zero_spare T.zs h0]
      rw [hzl, hL, ← Nat.sub_mul]
      simp
      rfl
    | _ + 1 => simp at hj
/-- append to a list of one's own: in place, or a new row. -/
theorem app_own (T : ListIs P t e size bytes i z) (h0 : 0 < size) {len n : Nat} {L M : List Value} (hL : L.length = len * size) (hM : M.length = n * size) (h1 : ∀ u ∈ M, u.oneCell' = true) (hmax : len + n ≤ maxLen) (hby : (len + n) * bytes ≤ 140737488355328) {zS capx : SV} {V : Env}
    (hE0 : V.E.getD 0 [] = nI len) (hE1 : V.E.getD 1 [] = nI n) (hE2 : V.E.getD 2 [] = L) (hE3 : V.E.getD 3 [] = M) (hE4 : V.E.getD 4 [] = L ++ M) (hE5 : V.E.getD 5 [] = nI (len + n)) (hz : ∀ ρ, dl V ρ zS = z.cells.toList) {ty : TypeId} :
    Ct.ValidOp P [19, ty, t, t] ⟨.cons (.sli 0 (.lit .i64 0) 0 (.ev 0 0) (.rc 0)) (.cons (.sli 1 (.lit .i64 0) 0 (.ev 1 0) capx) .nil), [.own e 2 0 zS, .view 3], [some .gone], [.own e 4 2 zS], .sli 2 (.lit .i64 0) 0 (.ev 5 0) (.rc 2)⟩ V := by
  intro ρ w o ev htag hargs hpre
  have e0 : ∀ ρ, natV (den V ρ (.ev 0 0)) = len := fun ρ => by show natV ((V.E.getD 0 []).getD 0 undef) = len; rw [hE0]; rfl
  have e1 : ∀ ρ, natV (den V ρ (.ev 1 0)) = n := fun ρ => by show natV ((V.E.getD 1 []).getD 0 undef) = n; rw [hE1]; rfl
  have e5 : ∀ ρ, natV (den V ρ (.ev 5 0)) = len + n := fun ρ => by show natV ((V.E.getD 5 []).getD 0 undef) = len + n; rw [hE5]; rfl
  let cp := (ρ 0).2
  have ha : o.op.operands.toList.map ev = [.slice (some ⟨(ρ 0).1, 0, none⟩) len cp, .slice (some ⟨(ρ 1).1, 0, none⟩) n (natV (den V ρ capx))] := by
    rw [hargs]
    show [Value.slice (some ⟨(ρ 0).1, _, none⟩) (natV (den V ρ (.ev 0 0))) (natV (den V ρ (.rc 0)))] ++ ([Value.slice (some ⟨(ρ 1).1, _, none⟩) (natV (den V ρ (.ev 1 0))) _] ++ []) = _
    rw [e0, e1]; rfl
  have hzl : z.cells.toList.length = size := by rw [Array.length_toList]; exact T.zs
  have hown : w.heap[(ρ 0).1]? = some (Obj.cells (L ++ spare z.cells.toList ((cp - len) * size)).toArray e (0, 0)) := by
    have := (hpre.2 0 (.own e 2 0 zS) rfl).1
    replace this : w.heap[(ρ 0).1]? = some (Obj.cells (V.E.getD 2 [] ++ spare (dl V ρ zS) (cp * (dl V ρ zS).length - (V.E.getD 2 []).length)).toArray e (0, 0)) := this
    rw [hE2, hz, hzl, hL, ← Nat.sub_mul] at this
    exact this
  obtain ⟨rest, tyx, zx, hb⟩ := hpre.2 1 (.view 3) rfl
  rw [hE3] at hb
  have hsrc : Src P i.size t (.slice (some ⟨(ρ 1).1, 0, none⟩) n (natV (den V ρ capx))) n M w := by
    refine Src.ofSlice w T.at_ _ n _ M (by rw [T.sz]; exact hM) (fun j u hj => ?_) h1
    rw [addr_off, cells_at hb, List.getElem?_append_left (List.getElem?_eq_some_iff.1 hj).1]; exact hj
  rw [exec_append htag ha]
  rcases Nat.lt_or_ge cp (len + n) with hg | hroom
  · -- a new row
    have hold : (Builtin.firstCells i.size len (.slice (some ⟨(ρ 0).1, 0, none⟩) len cp)).run P w.drew = .ok L.toArray w.drew := by
      refine run_firstCells_some w.drew i.size len ⟨(ρ 0).1, 0, none⟩ len cp L (by rw [T.sz]; exact hL) (fun j u hj => ?_)
      have hd : w.drew.heap[(ρ 0).1]? = some (Obj.cells (L ++ spare z.cells.toList ((cp - len) * size)).toArray e (0, 0)) := hown
      rw [addr_off, cells_at hd, List.getElem?_append_left (List.getElem?_eq_some_iff.1 hj).1]; exact hj
    have hrun := run_append_grow_src (P := P) w t t o.type e i z T.at_ T.info T.zero (some ⟨(ρ 0).1, 0, none⟩) len cp L hold _ n M hsrc hg (by unfold maxLen at hmax; omega) (by rw [T.byt]; exact growslice_fits hg hby)
    simp only [Sem.run_bind, hrun, Result.andThen, Sem.run_pure]
    let cap := grownCap w (len + n) cp e
    have hge : len + n ≤ cap := grownCap_ge w _ _ e
    let ρ' : Nat → Nat × Nat := fun k => if k = 2 then (w.heap.size, cap) else ρ k
    refine ⟨ρ', fun k hk => ?_, fun j hj => .inl ?_, fun a b ha hb _ => ?_, ?_, fun k bk hk => ?_, fun j bk hj => ?_, fr_alloc w _ _⟩
    · exact if_neg (by simp at hk; omega)
    · have : j = 0 := by simpa using hj
      subst this; exact Nat.le_refl _
    · have h1 : a = 0 := by simpa using ha
      have h2 : b = 0 := by simpa using hb
      rw [h1, h2]
    · show Value.slice _ (len + n) cap = Value.slice (some ⟨(ρ' 2).1, _, none⟩) (natV (den V ρ' (.ev 5 0))) _
      rw [e5]; rfl
    · match k with
      | 0 => cases hk; trivial
      | _ + 1 => simp at hk
    · match j with
      | 0 =>
        cases hj
        refine ⟨?_, by show _ ≤ cap * _; rw [hE4, hz, hzl, List.length_append, hL, hM, ← Nat.add_mul]; exact Nat.mul_le_mul_right _ hge⟩
        show (w.drew.heap.push _)[w.heap.size]? = some (Obj.cells (V.E.getD 4 [] ++ spare (dl V ρ' zS) (cap * (dl V ρ' zS).length - (V.E.getD 4 []).length)).toArray e (0, 0))
        have hsz : w.heap.size = w.drew.heap.size := rfl
        rw [hsz, Array.getElem?_push_size, hE4, hz, zero_spare T.zs h0, hzl, List.length_append, hL, hM, ← Nat.add_mul, ← Nat.sub_mul]
        simp
        rfl
      | _ + 1 => simp at hj
  · -- in place
    have hsp : M.length ≤ (cp - len) * size := by rw [hM]; exact Nat.mul_le_mul_right _ (by omega)
    have hlenC : ∀ j, j < M.length → (len * size + j) < (L ++ spare z.cells.toList ((cp - len) * size)).length := fun j hj => by rw [List.length_append, spare_len, hL]; omega
    have hrun := run_append_room_src (P := P) w t t o.type e i T.at_ T.info (ρ 0).1 0 len cp _ n M hsrc hroom (fun j hj => by
        rw [T.sz, Nat.zero_add, cells_at hown, List.getElem?_eq_getElem (hlenC j hj)]; rfl)
      (fun j hj => by unfold World.frozen?; rw [hown]; simp)
    simp only [Sem.run_bind, hrun, Result.andThen, Sem.run_pure]
    let ρ' : Nat → Nat × Nat := fun k => if k = 2 then ρ 0 else ρ k
    refine ⟨ρ', fun k hk => ?_, fun j hj => .inr ⟨0, rfl, ?_⟩, fun a b ha hb _ => ?_, ?_, fun k bk hk => ?_, fun j bk hj => ?_, ?_⟩
    · exact if_neg (by simp at hk; omega)
    · have : j = 0 := by simpa using hj
      subst this; rfl
    · have h1 : a = 0 := by simpa using ha
      have h2 : b = 0 := by simpa using hb
      rw [h1, h2]
    · show Value.slice _ (len + n) cp = Value.slice (some ⟨(ρ' 2).1, _, none⟩) (natV (den V ρ' (.ev 5 0))) _
      rw [e5]; rfl
    · match k with
      | 0 => cases hk; trivial
      | _ + 1 => simp at hk
    · match j with
      | 0 =>
        cases hj
        refine ⟨?_, by show _ ≤ cp * _; rw [hE4, hz, hzl, List.length_append, hL, hM, ← Nat.add_mul]; exact Nat.mul_le_mul_right _ (by omega)⟩
        show (w.setCells (ρ 0).1 (0 + len * i.size) M).heap[(ρ 0).1]? = some (Obj.cells (V.E.getD 4 [] ++ spare (dl V ρ' zS) (cp * (dl V ρ' zS).length - (V.E.getD 4 []).length)).toArray e (0, 0))
        rw [block_setCells _ _ _ _ _ _ hown, hE4, hz, hzl, List.length_append, hL, hM, ← Nat.add_mul, ← Nat.sub_mul, T.sz, Nat.zero_add]
        congr 2
        apply Array.toList_inj.1
        rw [fillA_list _ _ _ (by simp only [List.size_toArray, List.length_append, spare_len, hL]; omega)]
        simp only [List.toList_toArray]
        rw [← hL, List.take_left, List.drop_append, show L.length + M.length - L.length = M.length by omega, List.drop_eq_nil_of_le (by omega), List.nil_append, hM]
        have := spare_drop z.cells.toList ((cp - len) * size) n
        rw [hzl] at this
        rw [this, ← Nat.sub_mul, Nat.sub_sub]
      | _ + 1 => simp at hj
    · exact (fr_setCells _ _ _ _).mono fun b _ hb => ⟨0, .gone, rfl, hb.symm⟩
/-- A type's row in the table. -/
noncomputable def infoT (P : Program) (t : TypeId) : TypeInfo := (P.info? t).getD default
end
end RX
end Go.Proofs.Ytieencpejpeenaa
end
section
namespace Go.Proofs.Ytieencpejpeenaa
open Go.RowKit
namespace RX
set_option linter.unnecessarySimpa false
set_option linter.unusedVariables false
set_option linter.unusedSimpArgs false
theorem tag_slice {o : Oper} {t : TypeId} (h : tagOf o = some [13, t, 1, 0, 0]) : ∃ x l, o.op = .slice t x (some l) none none := by
  unfold tagOf at h
  split at h <;> first
    | (simp at h; done)
    | (rename_i t' x l hh m heq
       simp only [Option.some.injEq, List.cons.injEq] at h
       obtain ⟨_, h1, h2, h3, h4, _⟩ := h
       subst h1
       cases l <;> cases hh <;> cases m <;> simp at h2 h3 h4
       exact ⟨_, _, heq⟩)
    | (simp at h; omega)
section
variable {P : Program} {t e : TypeId} {size : Nat}
theorem exec_slice {o : Oper} {ev : Operand → Value} {s x : Value} (h : tagOf o = some [13, t, 1, 0, 0]) (ha : o.op.operands.toList.map ev = [s, x]) (w : World) : (execOp ev o).run P w = (do pure (.value (← Instr.sliceAt t s (some x) none none)) : Sem Next).run P w := by
  obtain ⟨a, l, hop⟩ := tag_slice h
  have hargs : ev a = s ∧ ev l = x := by
    rw [hop] at ha
    simpa [Op.operands] using ha
  unfold execOp
  simp only [hop, Option.map_some, Option.map_none, hargs.1, hargs.2]
theorem run_slice_lo (S : SliceIs P t e size) {a : Option Addr} {len cap lo : Nat} (hl : lo ≤ len) (w : World) : (Instr.sliceAt t (.slice a len cap) (some (.int .i64 (lo : Int))) none none).run P w = .ok (.slice (if cap = lo then a else a.map (·.add (lo * size))) (len - lo) (cap - lo)) w := by
  have h1 : (0 : Int) ≤ (lo : Int) ∧ (lo : Int) ≤ (len : Int) := ⟨by omega, by omega⟩
  simp [Instr.sliceAt, Instr.slice, Instr.sliceBounds, Instr.sliceBound, run_underlying S.at_, sizeT_run S.size, asIntOf, h1.1, h1.2, hl]
/-- A list of one's own from place lo on. -/
theorem sl_own_lo (S : SliceIs P t e size) (h0 : 0 < size) {len lo : Nat} {L : List Value} (hL : L.length = len * size) (hlt : lo < len) {zS : SV} {V : Env} (hE0 : V.E.getD 0 [] = nI len) (hE1 : V.E.getD 1 [] = nI lo) (hE2 : V.E.getD 2 [] = L) (hE3 : V.E.getD 3 [] = nI (lo * size)) (hE4 : V.E.getD 4 [] = nI (len - lo)) (hz : ∀ ρ, (dl V ρ zS).length = size) :
    Ct.ValidOp P [13, t, 1, 0, 0] ⟨.cons (.sli 0 (.lit .i64 0) 0 (.ev 0 0) (.rc 0)) (.cons (.ev 1 0) .nil), [.own e 2 0 zS], [some .gone], [.view 2], .sli 1 (.ev 3 0) 0 (.ev 4 0) (.rc 1)⟩ V := by
  intro ρ w o ev htag hargs hpre
  have e0 : ∀ ρ, natV (den V ρ (.ev 0 0)) = len := fun ρ => by show natV ((V.E.getD 0 []).getD 0 undef) = len; rw [hE0]; rfl
  have e3 : ∀ ρ, natV (den V ρ (.ev 3 0)) = lo * size := fun ρ => by show natV ((V.E.getD 3 []).getD 0 undef) = _; rw [hE3]; rfl
  have e4 : ∀ ρ, natV (den V ρ (.ev 4 0)) = len - lo := fun ρ => by show natV ((V.E.getD 4 []).getD 0 undef) = _; rw [hE4]; rfl
  have ha : o.op.operands.toList.map ev = [.slice (some ⟨(ρ 0).1, 0, none⟩) len (ρ 0).2, .int .i64 (lo : Int)] := by
    rw [hargs]
    show [Value.slice (some ⟨(ρ 0).1, _, none⟩) (natV (den V ρ (.ev 0 0))) _] ++ ([(V.E.getD 1 []).getD 0 undef] ++ []) = _
    rw [e0, hE1]; rfl
  obtain ⟨hb, hroom⟩ := hpre.2 0 (.own e 2 0 zS) rfl
  have hcap : len ≤ (ρ 0).2 := by
    have : L.length ≤ (ρ 0).2 * size := by
      have h1 : (V.E.getD 2 []).length ≤ (ρ 0).2 * (dl V ρ zS).length := hroom
      rwa [hE2, hz] at h1
    rw [hL] at this
    exact Nat.le_of_mul_le_mul_right this h0
  rw [exec_slice htag ha]
  simp only [Sem.run_bind, run_slice_lo S (Nat.le_of_lt hlt), Result.andThen, Sem.run_pure]
  rw [if_neg (by omega)]
  let ρ' : Nat → Nat × Nat := fun k => if k = 1 then ((ρ 0).1, (ρ 0).2 - lo) else ρ k
  refine ⟨ρ', fun k hk => ?_, fun j hj => .inr ⟨0, rfl, ?_⟩, fun a b ha hb _ => ?_, ?_, fun k bk hk => ?_, fun j bk hj => ?_, ?_⟩
  · exact if_neg (by simp at hk; omega)
  · have : j = 0 := by simpa using hj
    subst this; rfl
  · have h1 : a = 0 := by simpa using ha
    have h2 : b = 0 := by simpa using hb
    rw [h1, h2]
  · show Value.slice _ (len - lo) _ = Value.slice (some ⟨(ρ' 1).1, natV (den V ρ' (.ev 3 0)) + 0, none⟩) (natV (den V ρ' (.ev 4 0))) (ρ' 1).2
    rw [e3, e4]
    simp [addr_off]
    exact ⟨rfl, rfl⟩
  · match k with
    | 0 => cases hk; trivial
    | _ + 1 => simp at hk
  · match j with
    | 0 =>
      cases hj
      exact ⟨_, _, _, hb⟩
    | _ + 1 => simp at hj
  · exact Fr.refl _ _
/-- .. from its end on: no member is left, and where it lies nobody asks. -/
theorem sl_own_end (S : SliceIs P t e size) {len : Nat} {L : List Value} {zS : SV} {V : Env} (hE0 : V.E.getD 0 [] = nI len) (hE1 : V.E.getD 1 [] = nI len) (hE2 : V.E.getD 2 [] = L) :
    Ct.ValidOp P [13, t, 1, 0, 0] ⟨.cons (.sli 0 (.lit .i64 0) 0 (.ev 0 0) (.rc 0)) (.cons (.ev 1 0) .nil), [.own e 2 0 zS], [some .gone], [.view 2, .gone], .sli 1 (.rc 2) 0 (.lit .i64 0) (.rc 1)⟩ V := by
  intro ρ w o ev htag hargs hpre
  have e0 : ∀ ρ, natV (den V ρ (.ev 0 0)) = len := fun ρ => by show natV ((V.E.getD 0 []).getD 0 undef) = len; rw [hE0]; rfl
  have ha : o.op.operands.toList.map ev = [.slice (some ⟨(ρ 0).1, 0, none⟩) len (ρ 0).2, .int .i64 (len : Int)] := by
    rw [hargs]
    show [Value.slice (some ⟨(ρ 0).1, _, none⟩) (natV (den V ρ (.ev 0 0))) _] ++ ([(V.E.getD 1 []).getD 0 undef] ++ []) = _
    rw [e0, hE1]; rfl
  obtain ⟨hb, _⟩ := hpre.2 0 (.own e 2 0 zS) rfl
  rw [exec_slice htag ha]
  simp only [Sem.run_bind, run_slice_lo S (Nat.le_refl len), Result.andThen, Sem.run_pure]
  let ρ' : Nat → Nat × Nat := fun k => if k = 1 then ((ρ 0).1, (ρ 0).2 - len) else if k = 2 then (w.heap.size, if (ρ 0).2 = len then 0 else len * size) else ρ k
  refine ⟨ρ', fun k hk => ?_, fun j hj => ?_, fun a b ha hb' he => ?_, ?_, fun k bk hk => ?_, fun j bk hj => ?_, ?_⟩
  · have : k = 0 := by simpa using hk
    subst this; rfl
  · have hj2 : j < 2 := by simpa using hj
    match j, hj2 with
    | 0, _ => exact .inr ⟨0, rfl, rfl⟩
    | 1, _ => exact .inl (Nat.le_refl _)
  · have hlt : (ρ 0).1 < w.heap.size := lt_of_heap hb
    have h1 : a < 2 := by simpa using ha
    have h2 : b < 2 := by simpa using hb'
    match a, h1, b, h2 with
    | 0, _, 0, _ => rfl
    | 1, _, 1, _ => rfl
    | 0, _, 1, _ => exact absurd he (Nat.ne_of_lt hlt)
    | 1, _, 0, _ => exact absurd he.symm (Nat.ne_of_lt hlt)
  · show Value.slice _ (len - len) _ = Value.slice (some ⟨(ρ' 1).1, (((ρ' 2).2 : Nat) : Int).toNat + 0, none⟩) ((0 : Int).toNat) (ρ' 1).2
    have hx : (ρ' 2).2 = if (ρ 0).2 = len then 0 else len * size := rfl
    rw [hx]
    by_cases hc : (ρ 0).2 = len
    · rw [if_pos hc, if_pos hc]; simp; exact ⟨rfl, rfl⟩
    · rw [if_neg hc, if_neg hc, Int.toNat_natCast]; simp [addr_off]; exact ⟨rfl, rfl⟩
  · match k with
    | 0 => cases hk; trivial
    | _ + 1 => simp at hk
  · match j with
    | 0 => cases hj; exact ⟨_, _, _, hb⟩
    | 1 => cases hj; trivial
    | _ + 2 => simp at hj
  · exact Fr.refl _ _
end
end RX
end Go.Proofs.Ytieencpejpeenaa
end
