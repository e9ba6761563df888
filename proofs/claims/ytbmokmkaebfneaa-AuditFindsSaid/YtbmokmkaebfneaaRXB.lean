/- The effect of any operation is right. -/
import Derived.Test.YtbmokmkaebfneaaRXA
namespace Go.Proofs.Ytbmokmkaebfneaa
open Go.RowKit
namespace RX
set_option linter.unnecessarySimpa false
set_option linter.unusedVariables false
set_option linter.unusedSimpArgs false
section
variable {P : Program} {V : Env} {av : Operand → SV} {hp : List (Nat × Bk)} {nx : Nat} {o : Oper} {lens : List Nat} {Γ : List Gm} {hs hs' : List Hint} {f : Eff} {os : List Obl}
theorem addr_add (b o n : Nat) : (⟨b, o, none⟩ : Addr).add n = ⟨b, o + n, none⟩ := Addr.add_mid b o n
theorem fieldAt_run {s : TypeId} {fs : List Field} {fl : Field} {i n b off : Nat} (hfs : fieldsT P s = some fs) (hi : fs[i]? = some fl) (hn : sizeT P fl.type = some n) (h0 : 0 < n) (w : World) :
    (Instr.fieldAt s (.pointer (some ⟨b, off, none⟩)) i).run P w = .ok (.pointer (some ⟨b, off + fl.offset, none⟩)) w := by
  unfold Instr.fieldAt
  simp only [Sem.run_bind, run_underlying (fieldsT_spec hfs), Result.andThen, List.getElem?_toArray, hi, Instr.sureAddr, Sem.run_pure, fieldPlace, sizeT_run hn, Sem.run_ite]
  rw [if_neg (by omega)]
  simp only [addr_add, Sem.run_pure]
theorem indexAt_run {t e : TypeId} {len sz b off : Nat} {k : IntKind} {n : Int} (ht : arrayT P t = some (len, e)) (hs : sizeT P e = some sz) (h0 : 0 ≤ n) (h1 : n < (len : Int)) (w : World) :
    (Instr.indexAt t (.pointer (some ⟨b, off, none⟩)) (.int k n)).run P w = .ok (.pointer (some ⟨b, off + n.toNat * sz, none⟩)) w := by
  unfold Instr.indexAt
  simp only [asIntOf, Sem.run_bind, Sem.run_pure, Result.andThen, run_underlying (arrayT_spec ht), Instr.sureAddr, Sem.run_ite]
  rw [if_pos ⟨h0, h1⟩]
  simp only [sizeT_run hs, addr_add, Sem.run_bind, Result.andThen, Sem.run_pure]
theorem callOf_good (hE : V.E.length ≤ 1000000) (hO : V.O.length ≤ 1000000) (hΓ : allG P V Γ) {c : Call} {fo : Operand} (hop : o.op = .call c) (hc : c.callee = .value fo) (hok : okArgs av c.args.toList = true)
    (h : callOf Γ hp nx (av fo) (argsSV av c.args.toList) hs = some (f, hs', os)) (ho : allO P V os) : Good P V av hp nx o f := by
  unfold callOf at h
  split at h
  case h_2 => cases h
  rename_i fid caps k ids hs'' hfo
  split at h
  case h_2 => cases h
  rename_i g hg
  split at h
  case h_2 => cases h
  rename_i fid' htg
  have hcb := cond_bind h
  clear h
  obtain ⟨hq, h⟩ := hcb
  have := Nat.eq_of_beq_eq_true hq
  subst this
  split at h
  case h_2 => cases h
  rename_i f' os' hce
  cases h
  have hgo : g.c.Valid P fid (V.sub g.τ g.υ) := by
    have := allG_get hΓ hg
    unfold Gm.ok at this
    rw [htg] at this
    exact this
  refine callEff_good hE hO hce ho fun ρ ρc w ev hev hargs hpre => ?_
  have hmem : ∀ x ∈ c.args.toList, x ∈ o.op.operands := fun x hx => by rw [hop]; simp only [Op.operands, Call.operands, hc]; exact Array.mem_append.2 (.inr (by simpa using hx))
  have hef : ev fo = .func (.func fid) #[] (dl V ρ caps).toArray := by
    rw [hev fo (by rw [hop]; simp [Op.operands, Call.operands, hc]) (by rw [hfo]; simp), hfo]; rfl
  obtain ⟨ha, hl⟩ := argsSV_spec (V := V) (ρ := ρ) (ev := ev) c.args.toList hok (fun x hx => hev x (hmem x hx))
  rw [run_callValue hop hc hef]
  have e : c.args.map ev ++ (dl V ρ caps).toArray = (dl (V.sub g.τ g.υ) ρc g.c.args).toArray := by
    rw [← hargs, dl_app hl, ← ha]
    apply Array.toList_inj.1
    simp
  rw [e]
  exact hgo ρc w hpre
theorem opEff2_good (hE : V.E.length ≤ 1000000) (hO : V.O.length ≤ 1000000) (hΓ : allG P V Γ) (h : opEff2 Γ av hp nx o hs = some (f, hs', os)) (ho : allO P V os) : Good P V av hp nx o f := by
  unfold opEff2 at h
  split at h
  case h_2 => cases h
  rename_i k ids hs''
  split at h
  case h_2 => cases h
  rename_i g hg
  split at h
  case h_2 => cases h
  rename_i t t' htg htag
  have hcb := cond_bind h
  clear h
  obtain ⟨hq, h⟩ := hcb
  simp only [Bool.and_eq_true] at hq
  have := natsB_eq hq.1
  subst this
  split at h
  case h_2 => cases h
  rename_i f' os' hce
  cases h
  have hgo : g.c.ValidOp P t (V.sub g.τ g.υ) := by
    have := allG_get hΓ hg
    unfold Gm.ok at this
    rw [htg] at this
    exact this
  refine callEff_good hE hO hce ho fun ρ ρc w ev hev hargs hpre => ?_
  obtain ⟨ha, hl⟩ := argsSV_spec (V := V) (ρ := ρ) (ev := ev) o.op.operands.toList hq.2 (fun x hx => hev x (by simpa using hx))
  exact hgo ρc w o ev htag (ha.trans hargs) hpre
theorem optSV_spec {lo : Option Operand} {l : Option SV} (h : optSV av lo = some l) {ρ : Nat → Nat × Nat} {ev : Operand → Value} (hev : ∀ x, lo = some x → av x ≠ .any → ev x = den V ρ (av x)) : lo.map ev = l.map (den V ρ) := by
  cases lo with
  | none => cases h; rfl
  | some x =>
    obtain ⟨h1, h2⟩ := cond_bind h
    cases h2
    simp only [Option.map_some]
    rw [hev x rfl (okVal_spec h1).1]
theorem opEff1_good (hV : VOK V lens) (hE : V.E.length ≤ 1000000) (hO : V.O.length ≤ 1000000) (hΓ : allG P V Γ) (h : opEff1 P Γ lens av hp nx o hs = some (f, hs', os)) (ho : allO P V os) : Good P V av hp nx o f := by
  unfold opEff1 at h
  split at h
  -- move
  · rename_i x hop
    refine one_good h fun ρ w ev hev => ⟨ev x, by unfold execOp; simp only [hop]; rfl, hev x (by rw [hop]; simp [Op.operands])⟩
  · rename_i x hop
    refine one_good h fun ρ w ev hev => ⟨ev x, by unfold execOp; simp only [hop]; rfl, hev x (by rw [hop]; simp [Op.operands])⟩
  -- pick
  · rename_i c a b hop
    split at h
    case h_2 => cases h
    rename_i t hc
    refine one_good h fun ρ w ev hev => ⟨if t then ev a else ev b, ?_, ?_⟩
    · have : ev c = .bool t := by rw [hev c (by rw [hop]; simp [Op.operands]) (by rw [hc]; simp), hc]; rfl
      unfold execOp; simp only [hop, this, asBool]; cases t <;> rfl
    · cases t
      · exact hev b (by rw [hop]; simp [Op.operands])
      · exact hev a (by rw [hop]; simp [Op.operands])
  -- alloc
  · rename_i t hop
    split at h
    case h_2 => cases h
    rename_i l hz
    refine newBlk_good h fun ρ w ev hev => ?_
    obtain ⟨_, z, hzr, hzc⟩ := zeroT_spec (V := V) hz ρ w
    unfold execOp; simp only [hop]
    refine run_bindValue ?_
    rw [run_alloc hzr, hzc]
  -- box
  · rename_i t x hop
    split at h
    case h_2 => cases h
    rename_i l hl
    refine newBlk_good h fun ρ w ev hev => ?_
    have hne : av x ≠ .any := by intro hc; rw [hc] at hl; simp [cellsOf, SV.cell] at hl
    have hx := hev x (by rw [hop]; simp [Op.operands]) hne
    unfold execOp; simp only [hop]
    refine run_bindValue ?_
    rw [run_box, hx, (cellsOf_spec hV hl ρ).1]
  -- build
  · rename_i t parts hop
    split at h
    case h_2 => cases h
    rename_i v hv
    refine one_good h fun ρ w ev hev => ⟨den V ρ v, ?_, fun _ => rfl⟩
    unfold execOp; simp only [hop]
    refine run_bindValue (buildS_run hV hv ρ w ev fun x hx => ?_)
    refine hev x.2 (by rw [hop]; simp only [Op.operands]; simpa using ⟨x.1, (by simpa using hx : x ∈ parts)⟩) ?_
    -- a part that is whatever is not laid
    intro hc
    have : ∀ (place : Nat → Option (Nat × Nat)) (ps : List (Nat × Operand)) (l l' : SV), x ∈ ps → fillS lens place l (ps.map fun x => (x.1, av x.2)) = some l' → False := by
      intro place ps
      induction ps with
      | nil => intro l l' hm; cases hm
      | cons p ps ih =>
        intro l l' hm hf
        simp only [List.map_cons] at hf
        unfold fillS at hf
        split at hf
        · rename_i off size vs hp' hvs
          obtain ⟨_, hf⟩ := cond_bind hf
          rcases List.mem_cons.1 hm with rfl | hm
          · rw [hc] at hvs; simp [cellsOf, SV.cell] at hvs
          · exact ih _ _ hm hf
        · cases hf
    unfold buildS at hv
    split at hv
    · cases hv
    split at hv
    · split at hv
      · obtain ⟨r, hq, _⟩ := Option.map_eq_some_iff.1 hv; exact this _ _ _ _ hx hq
      · cases hv
    · split at hv
      · split at hv
        · obtain ⟨r, hq, _⟩ := Option.map_eq_some_iff.1 hv; exact this _ _ _ _ hx hq
        · cases hv
      · cases hv
  -- load, store
  · rename_i t x hop; exact ldEff_good hop h ho
  · rename_i t x y hop; exact stEff_good hV hop h ho
  -- nilCheck
  · rename_i x hop
    split at h
    · rename_i id bs off hx
      refine one_good h fun ρ w ev hev => ⟨ev x, ?_, fun _ => ?_⟩
      · have : ev x = den V ρ (.ptr id bs off) := by rw [hev x (by rw [hop]; simp [Op.operands]) (by rw [hx]; simp), hx]
        unfold execOp; simp only [hop, this]; rfl
      · rw [hev x (by rw [hop]; simp [Op.operands]) (by rw [hx]; simp), hx]
    · rename_i fi c hx
      refine one_good h fun ρ w ev hev => ⟨ev x, ?_, fun _ => ?_⟩
      · have : ev x = den V ρ (.fn fi c) := by rw [hev x (by rw [hop]; simp [Op.operands]) (by rw [hx]; simp), hx]
        unfold execOp; simp only [hop, this]; rfl
      · rw [hev x (by rw [hop]; simp [Op.operands]) (by rw [hx]; simp), hx]
    · cases h
  -- binOp
  · rename_i op t x y yt hop
    obtain ⟨hq, h⟩ := cond_bind h
    simp only [Bool.and_eq_true] at hq
    have hxy : ∀ {ρ : Nat → Nat × Nat} {ev : Operand → Value}, (∀ x ∈ o.op.operands, av x ≠ .any → ev x = den V ρ (av x)) → ev x = den V ρ (av x) ∧ ev y = den V ρ (av y) := fun hev =>
      ⟨okVal_ev hq.1 (by rw [hop]; simp [Op.operands]) hev, okVal_ev hq.2 (by rw [hop]; simp [Op.operands]) hev⟩
    split at h
    · rename_i v hv
      refine one_good h fun ρ w ev hev => ⟨den V ρ v, ?_, fun _ => rfl⟩
      unfold execOp; simp only [hop, (hxy hev).1, (hxy hev).2]
      exact run_bindValue (autoBin_spec hv ρ w x y)
    · refine pureV_good h ho fun v hv ρ w ev hev => ?_
      unfold execOp; simp only [hop, (hxy hev).1, (hxy hev).2]
      exact run_bindValue (hv ρ w x y)
  -- unOp
  · rename_i op t x hop
    split at h
    · rename_i b hx
      refine one_good h fun ρ w ev hev => ⟨.bool (!b), ?_, fun _ => rfl⟩
      have : ev x = .bool b := by rw [hev x (by rw [hop]; simp [Op.operands]) (by rw [hx]; simp), hx]; rfl
      unfold execOp; simp only [hop, this]; rfl
    · obtain ⟨hq, h⟩ := cond_bind h
      refine pureV_good h ho fun v hv ρ w ev hev => ?_
      unfold execOp; simp only [hop, okVal_ev hq (by rw [hop]; simp [Op.operands]) hev]
      exact run_bindValue (hv ρ w)
  -- convert
  · rename_i s d x hop
    split at h
    · rename_i k n k' u hx hk hs'
      refine one_good h fun ρ w ev hev => ⟨.int k' (k'.wrap n), ?_, fun _ => rfl⟩
      have : ev x = .int k n := by rw [hev x (by rw [hop]; simp [Op.operands]) (by rw [hx]; simp), hx]; rfl
      unfold execOp; simp only [hop, this]
      refine run_bindValue ?_
      unfold convert
      simp only [Sem.run_bind, run_underlying hs', run_underlying (intT_spec hk), Result.andThen]
      cases u <;> rfl
    · obtain ⟨hq, h⟩ := cond_bind h
      refine pureV_good h ho fun v hv ρ w ev hev => ?_
      unfold execOp; simp only [hop, okVal_ev hq (by rw [hop]; simp [Op.operands]) hev]
      exact run_bindValue (hv ρ w)
  -- makeFunc
  · rename_i fn first caps hop
    split at h
    case h_2 => cases h
    rename_i fid
    obtain ⟨hq, h⟩ := cond_bind h
    simp only [Bool.and_eq_true, decide_eq_true_eq] at hq
    refine one_good h fun ρ w ev hev => ⟨.func (.func fid) #[] (caps.map ev), ?_, fun _ => ?_⟩
    · unfold execOp; simp [hop, hq.1, Instr.makeFunc]
    · obtain ⟨ha, _⟩ := argsSV_spec (V := V) (ρ := ρ) (ev := ev) caps.toList hq.2 (fun x hx => hev x (by rw [hop]; simp only [Op.operands]; exact Array.mem_append.2 (.inr (by simpa using hx))))
      show _ = Value.func (.func fid) #[] (dl V ρ (argsSV av caps.toList)).toArray
      rw [← ha, ← Array.toList_map, Array.toArray_toList]
  -- fieldAddr
  · rename_i s x i hop
    split at h
    case h_2 => cases h
    rename_i id bs off fs hx hfs
    split at h
    case h_2 => cases h
    rename_i fl hi
    split at h
    case h_2 => cases h
    rename_i n hn
    obtain ⟨hq, h⟩ := cond_bind h
    refine one_good h fun ρ w ev hev => ⟨.pointer (some ⟨(ρ id).1, natV (den V ρ bs) + off + fl.offset, none⟩), ?_, fun _ => ?_⟩
    · have : ev x = .pointer (some ⟨(ρ id).1, natV (den V ρ bs) + off, none⟩) := by rw [hev x (by rw [hop]; simp [Op.operands]) (by rw [hx]; simp), hx]; rfl
      unfold execOp; simp only [hop, this]
      exact run_bindValue (fieldAt_run hfs hi hn (blt_iff.1 hq) w)
    · simp [den, dl, Nat.add_assoc]
  -- field
  · rename_i t x i hop
    split at h
    case h_2 => cases h
    rename_i l fs hx hfs
    split at h
    case h_2 => cases h
    rename_i fl hi
    split at h
    case h_2 => cases h
    rename_i v hv
    refine one_good h fun ρ w ev hev => ⟨den V ρ v, ?_, fun _ => rfl⟩
    have : ev x = .agg (dl V ρ l).toArray := by rw [hev x (by rw [hop]; simp [Op.operands]) (by rw [hx]; simp), hx]; rfl
    unfold execOp; simp only [hop, this]
    refine run_bindValue ?_
    unfold Instr.field
    simp only [Sem.run_bind, run_underlying (fieldsT_spec hfs), Result.andThen, List.getElem?_toArray, hi, asAgg, Sem.run_pure]
    exact partS_run hv ρ w
  -- indexAddr
  · rename_i t x i hop
    split at h
    · rename_i id bs off k n len e hx hi ht
      split at h
      case h_2 => cases h
      rename_i sz hsz
      obtain ⟨hq, h⟩ := cond_bind h
      simp only [Bool.and_eq_true, decide_eq_true_eq] at hq
      refine one_good h fun ρ w ev hev => ⟨.pointer (some ⟨(ρ id).1, natV (den V ρ bs) + off + n.toNat * sz, none⟩), ?_, fun _ => ?_⟩
      · have h1 : ev x = .pointer (some ⟨(ρ id).1, natV (den V ρ bs) + off, none⟩) := by rw [hev x (by rw [hop]; simp [Op.operands]) (by rw [hx]; simp), hx]; rfl
        have h2 : ev i = .int k n := by rw [hev i (by rw [hop]; simp [Op.operands]) (by rw [hi]; simp), hi]; rfl
        unfold execOp; simp only [hop, h1, h2]
        exact run_bindValue (indexAt_run ht hsz hq.1 hq.2 w)
      · simp [den, dl, Nat.add_assoc]
    · obtain ⟨hq, h⟩ := cond_bind h
      simp only [Bool.and_eq_true] at hq
      refine pureV_good h ho fun v hv ρ w ev hev => ?_
      unfold execOp; simp only [hop, okVal_ev hq.1 (by rw [hop]; simp [Op.operands]) hev, okVal_ev hq.2 (by rw [hop]; simp [Op.operands]) hev]
      exact run_bindValue (hv ρ w)
  -- index
  · rename_i t x i hop
    split at h
    · rename_i l k n len e hx hi ht
      split at h
      case h_2 => cases h
      rename_i sz hsz
      obtain ⟨hq, h⟩ := cond_bind h
      simp only [Bool.and_eq_true, decide_eq_true_eq] at hq
      split at h
      case h_2 => cases h
      rename_i v hv
      refine one_good h fun ρ w ev hev => ⟨den V ρ v, ?_, fun _ => rfl⟩
      have h1 : ev x = .agg (dl V ρ l).toArray := by rw [hev x (by rw [hop]; simp [Op.operands]) (by rw [hx]; simp), hx]; rfl
      have h2 : ev i = .int k n := by rw [hev i (by rw [hop]; simp [Op.operands]) (by rw [hi]; simp), hi]; rfl
      unfold execOp; simp only [hop, h1, h2]
      refine run_bindValue ?_
      unfold Instr.index
      simp only [asIntOf, Sem.run_bind, Sem.run_pure, Result.andThen, run_underlying (arrayT_spec ht), Sem.run_ite]
      rw [if_pos hq]
      simp only [sizeT_run hsz, Sem.run_bind, Result.andThen]
      exact partS_run hv ρ w
    · obtain ⟨hq, h⟩ := cond_bind h
      simp only [Bool.and_eq_true] at hq
      refine pureV_good h ho fun v hv ρ w ev hev => ?_
      unfold execOp; simp only [hop, okVal_ev hq.1 (by rw [hop]; simp [Op.operands]) hev, okVal_ev hq.2 (by rw [hop]; simp [Op.operands]) hev]
      exact run_bindValue (hv ρ w)
  -- slice
  · rename_i t x lo hi mx hop
    split at h
    case h_2 => cases h
    rename_i l h' m hl hh hm
    obtain ⟨hq, h⟩ := cond_bind h
    refine pureV_good h ho fun v hv ρ w ev hev => ?_
    unfold execOp; simp only [hop, okVal_ev hq (by rw [hop]; simp [Op.operands]) hev]
    rw [optSV_spec hl (fun x hx => hev x (by rw [hop]; simp [Op.operands, hx])), optSV_spec hh (fun x hx => hev x (by rw [hop]; simp [Op.operands, hx])), optSV_spec hm (fun x hx => hev x (by rw [hop]; simp [Op.operands, hx]))]
    exact run_bindValue (hv ρ w)
  -- extract
  · rename_i x i hop
    split at h
    case h_2 => cases h
    rename_i l hx
    obtain ⟨hq, h⟩ := cond_bind h
    simp only [Bool.and_eq_true, blt_iff] at hq
    refine one_good h fun ρ w ev hev => ⟨den V ρ (SV.nthL i l), ?_, fun _ => rfl⟩
    have h1 : ev x = .tuple (dl V ρ l).toArray := by rw [hev x (by rw [hop]; simp [Op.operands]) (by rw [hx]; simp), hx]; rfl
    unfold execOp; simp only [hop, h1]
    refine run_bindValue ?_
    unfold Instr.extract
    simp only [List.getElem?_toArray, (dl_nth (V := V) (ρ := ρ) hq.2 hq.1).1, Sem.run_pure]
  -- call
  · rename_i c hop
    split at h
    · rename_i fo hc
      obtain ⟨hq, h⟩ := cond_bind h
      exact callOf_good hE hO hΓ hop hc hq h ho
    · rename_i b hc
      obtain ⟨hq, h⟩ := cond_bind h
      refine pureV_good h ho fun v hv ρ w ev hev => ?_
      have hmem : ∀ x ∈ c.args.toList, x ∈ o.op.operands := fun x hx => by rw [hop]; simp only [Op.operands, Call.operands, hc]; exact Array.mem_append.2 (.inr (by simpa using hx))
      obtain ⟨ha, hl⟩ := argsSV_spec (V := V) (ρ := ρ) (ev := ev) c.args.toList hq (fun x hx => hev x (hmem x hx))
      have := hv ρ w
      unfold execOp; simp only [hop]
      simp only [resolve, hc, Sem.run_bind, Sem.run_pure, Result.andThen, invoke]
      have e : c.args.map ev = (dl V ρ (argsSV av c.args.toList)).toArray := by rw [← ha, ← Array.toList_map, Array.toArray_toList]
      rw [e]; exact this
    · cases h
  · cases h
theorem opEff_good (hV : VOK V lens) (hE : V.E.length ≤ 1000000) (hO : V.O.length ≤ 1000000) (hΓ : allG P V Γ) (h : opEff P Γ lens av hp nx o hs = some (f, hs', os)) (ho : allO P V os) : Good P V av hp nx o f := by
  unfold opEff at h
  split at h
  · rename_i r hr; cases h; exact opEff2_good hE hO hΓ hr ho
  · exact opEff1_good hV hE hO hΓ h ho
end
end RX
end Go.Proofs.Ytbmokmkaebfneaa
