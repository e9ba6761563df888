/- Reads, stores, structs built: the reckoning on paper, and that it is right. -/
import Derived.Test.YtbmokmkaebfneaaRX5
namespace Go.Proofs.Ytbmokmkaebfneaa
open Go.RowKit
namespace RX
set_option linter.unnecessarySimpa false
set_option linter.unusedVariables false
set_option linter.unusedSimpArgs false
inductive Hint where
  | call (k : Nat) (ids : List Nat)
  | val (v : SV)
  | row (i : Nat)
  | br (t : Bool)
  | seg (k : Nat) (ids : List Nat)
abbrev R3 := Option (Eff × List Hint × List Obl)

theorem lkH_single {i : Nat} {b : Bk} {id : Nat} {bk : Bk} (h : lkH [(i, b)] id = some bk) : id = i ∧ bk = b := by
  simp only [lkH] at h
  cases hq : Nat.beq i id with
  | false => rw [hq] at h; cases h
  | true => rw [hq] at h; exact ⟨(Nat.eq_of_beq_eq_true hq).symm, (Option.some.inj h).symm⟩
theorem lkH_self (i : Nat) (b : Bk) (r : List (Nat × Bk)) : lkH ((i, b) :: r) i = some b := by simp [lkH, Nat.beq_refl]
theorem lkH_nil (i : Nat) : lkH [] i = none := rfl

/-- What is asked of an operation's effect. -/
structure Good (P : Program) (V : Env) (av : Operand → SV) (hp : List (Nat × Bk)) (nx : Nat) (o : Oper) (f : Eff) : Prop where
  ok : EffOK P V av o nx f
  rd : ∀ id bk, lkH f.rd id = some bk → lkH hp id = some bk ∧ bk.live = true
  up : ∀ id, lkH f.up id ≠ none → ¬ (nx ≤ id ∧ id < nx + f.nw) → lkH f.rd id ≠ none

section
variable {P : Program} {V : Env} {av : Operand → SV} {hp : List (Nat × Bk)} {nx : Nat} {o : Oper} {lens : List Nat}
theorem Good.pure {sv : SV} (h : ∀ ρ (w : World) ev, (∀ x ∈ o.op.operands, av x ≠ .any → ev x = den V ρ (av x)) → ∃ v, (execOp ev o).run P w = .ok (.value v) w ∧ (sv ≠ .any → v = den V ρ sv)) : Good P V av hp nx o ⟨sv, [], [], 0⟩ :=
  ⟨eff_pure fun ρ w ev hev _ => h ρ w ev hev, fun id bk hb => by simp [lkH] at hb, fun id hu => absurd rfl hu⟩

/-- A read. -/
def ldEff (P : Program) (hp : List (Nat × Bk)) (ty : TypeId) (x : SV) (hs : List Hint) : R3 :=
  match x with
  | .ptr id bs off =>
    match lkH hp id, rowOf P ty, sizeT P ty with
    | some (.cs t l), some true, some n =>
      match bs with
      | .nil => cond (l.isL && Nat.ble (off + n) l.len) (some (⟨.agg (SV.takeL n (SV.dropL off l)), [(id, .cs t l)], [], 0⟩, hs, [])) none
      | _ => none
    | some (.cs t l), some false, some n =>
      match bs with
      | .nil => cond (l.isL && (Nat.ble (off + 1) l.len && Nat.beq n 1)) (some (⟨SV.nthL off l, [(id, .cs t l)], [], 0⟩, hs, [])) none
      | _ => none
    | some (.row t i), some true, some n =>
      match hs with
      | .val (.agg l) :: hs' => cond (l.isL && Nat.beq l.len n) (some (⟨.agg l, [(id, .row t i)], [], 0⟩, hs', [.ld i bs off l])) none
      | _ => none
    | some (.row t i), some false, some n =>
      match hs with
      | .val v :: hs' => cond (v.single && Nat.beq n 1) (some (⟨v, [(id, .row t i)], [], 0⟩, hs', [.ld i bs off (.cons v .nil)])) none
      | _ => none
    | some (.own t i c z), some true, some n =>
      match hs with
      | .val (.agg l) :: hs' => cond (l.isL && Nat.beq l.len n) (some (⟨.agg l, [(id, .own t i c z)], [], 0⟩, hs', [.ld i bs off l])) none
      | _ => none
    | some (.own t i c z), some false, some n =>
      match hs with
      | .val v :: hs' => cond (v.single && Nat.beq n 1) (some (⟨v, [(id, .own t i c z)], [], 0⟩, hs', [.ld i bs off (.cons v .nil)])) none
      | _ => none
    | some (.view i), some true, some n =>
      match hs with
      | .val (.agg l) :: hs' => cond (l.isL && Nat.beq l.len n) (some (⟨.agg l, [(id, .view i)], [], 0⟩, hs', [.ld i bs off l])) none
      | _ => none
    | some (.view i), some false, some n =>
      match hs with
      | .val v :: hs' => cond (v.single && Nat.beq n 1) (some (⟨v, [(id, .view i)], [], 0⟩, hs', [.ld i bs off (.cons v .nil)])) none
      | _ => none
    | _, _, _ => none
  | _ => none
theorem ld_spare {l m : List Value} {k n : Nat} {s : List Value} (h : (l.drop k).take n = m) (hn : m.length = n) : ((l ++ s).drop k).take n = m := by
  rcases Nat.eq_zero_or_pos n with rfl | h0
  · simpa using h
  · have hl : n ≤ (l.drop k).length := by
      have := congrArg List.length h
      rw [List.length_take, hn] at this; omega
    have hk : k ≤ l.length := by rw [List.length_drop] at hl; omega
    rw [List.drop_append_of_le_length hk, List.take_append_of_le_length hl, h]
theorem take_len {l : SV} {off n : Nat} (h : l.isL = true) (hn : off + n ≤ l.len) (ρ : Nat → Nat × Nat) : (dl V ρ (SV.takeL n (SV.dropL off l))).length = n := by
  rw [dl_take (isL_drop h), dl_drop h, List.length_take, List.length_drop, dl_len h]; omega
theorem ldEff_good {ty : TypeId} {x : Operand} (hop : o.op = .load ty x) {hs hs' : List Hint} {f : Eff} {os : List Obl} (h : ldEff P hp ty (av x) hs = some (f, hs', os)) (ho : allO P V os) : Good P V av hp nx o f := by
  unfold ldEff at h
  split at h
  case h_2 => cases h
  rename_i id bs off hx
  have hex : ∀ (ρ : Nat → Nat × Nat) (ev : Operand → Value), (∀ y ∈ o.op.operands, av y ≠ .any → ev y = den V ρ (av y)) → ev x = .pointer (some ⟨(ρ id).1, natV (den V ρ bs) + off, none⟩) := by
    intro ρ ev hev
    rw [hev x (by rw [hop]; simp [Op.operands]) (by rw [hx]; simp), hx]
    simp [den, dl]
  have gen : ∀ (bk : Bk) (sv : SV) (hb : lkH hp id = some bk) (hl : bk.live = true) (hrun : ∀ (ρ : Nat → Nat × Nat) (w : World), bk.holds V ρ w.heap[(ρ id).1]? → (Instr.loadAt ty (.pointer (some ⟨(ρ id).1, natV (den V ρ bs) + off, none⟩))).run P w = .ok (den V ρ sv) w), Good P V av hp nx o ⟨sv, [(id, bk)], [], 0⟩ := by
    intro bk sv hb hl hrun
    refine ⟨eff_pure fun ρ w ev hev hrd => ⟨den V ρ sv, ?_, fun _ => rfl⟩, ?_, fun i hu => absurd rfl hu⟩
    · unfold execOp
      simp only [hop, hex ρ ev hev]
      exact run_bindValue (hrun ρ w (hrd id bk (lkH_self _ _ _)))
    · intro i b hi
      obtain ⟨rfl, rfl⟩ := lkH_single hi
      exact ⟨hb, hl⟩
  split at h
  · rename_i t l n hb hr hn
    split at h
    case h_2 => cases h
    cases hq : (l.isL && Nat.ble (off + n) l.len) with
    | false => rw [hq] at h; cases h
    | true =>
      rw [hq] at h; cases h
      simp only [Bool.and_eq_true, Nat.ble_eq] at hq
      refine gen _ _ hb rfl fun ρ w hw => ?_
      have hz : natV (den V ρ .nil) + off = off := by simp [den, dl, natV, undef]
      rw [hz]
      have hl := take_len (V := V) hq.1 hq.2 ρ
      refine run_load_row hw hr (by rw [hl]; exact hn) ?_
      rw [hl, dl_take (isL_drop hq.1), dl_drop hq.1]
  · rename_i t l n hb hr hn
    split at h
    case h_2 => cases h
    cases hq : (l.isL && (Nat.ble (off + 1) l.len && Nat.beq n 1)) with
    | false => rw [hq] at h; cases h
    | true =>
      rw [hq] at h; cases h
      simp only [Bool.and_eq_true, Nat.ble_eq] at hq
      refine gen _ _ hb rfl fun ρ w hw => ?_
      have hz : natV (den V ρ .nil) + off = off := by simp [den, dl, natV, undef]
      rw [hz]
      refine run_load_one hw hr ?_
      rw [List.getElem?_toArray]
      exact (dl_nth hq.1 (by omega)).1
  · rename_i t i n hb hr hn
    split at h
    case h_2 => cases h
    rename_i l hs''
    cases hq : (l.isL && Nat.beq l.len n) with
    | false => rw [hq] at h; cases h
    | true =>
      rw [hq] at h; cases h
      simp only [Bool.and_eq_true] at hq
      have hln := Nat.eq_of_beq_eq_true hq.2
      refine gen _ _ hb rfl fun ρ w hw => ?_
      have := ho.1 ρ
      refine run_load_row hw hr (by rw [dl_len hq.1, hln]; exact hn) ?_
      rw [dl_len hq.1]; exact this
  · rename_i t i n hb hr hn
    split at h
    case h_2 => cases h
    rename_i v hs''
    cases hq : (v.single && Nat.beq n 1) with
    | false => rw [hq] at h; cases h
    | true =>
      rw [hq] at h; cases h
      simp only [Bool.and_eq_true] at hq
      refine gen _ _ hb rfl fun ρ w hw => ?_
      have := ho.1 ρ
      refine run_load_one hw hr ?_
      simp only [dl, dl_single hq.1, SV.len, List.append_nil] at this
      have h0 : (((V.E.getD i []).drop (natV (den V ρ bs) + off)).take (0 + 1))[0]? = some (den V ρ v) := by rw [this]; rfl
      rw [List.getElem?_take_of_lt (by omega), List.getElem?_drop] at h0
      simpa using h0
  · rename_i t i c z n hb hr hn
    split at h
    case h_2 => cases h
    rename_i l hs''
    cases hq : (l.isL && Nat.beq l.len n) with
    | false => rw [hq] at h; cases h
    | true =>
      rw [hq] at h; cases h
      simp only [Bool.and_eq_true] at hq
      have hln := Nat.eq_of_beq_eq_true hq.2
      refine gen _ _ hb rfl fun ρ w hw => ?_
      have := ho.1 ρ
      refine run_load_row hw hr (by rw [dl_len hq.1, hln]; exact hn) ?_
      rw [dl_len hq.1]; exact ld_spare this (dl_len hq.1)
  · rename_i t i c z n hb hr hn
    split at h
    case h_2 => cases h
    rename_i v hs''
    cases hq : (v.single && Nat.beq n 1) with
    | false => rw [hq] at h; cases h
    | true =>
      rw [hq] at h; cases h
      simp only [Bool.and_eq_true] at hq
      refine gen _ _ hb rfl fun ρ w hw => ?_
      have := ho.1 ρ
      refine run_load_one hw hr ?_
      simp only [dl, dl_single hq.1, SV.len, List.append_nil] at this
      have h0 : ((V.E.getD i [] ++ spare (dl V ρ z) ((ρ c).2 * (dl V ρ z).length - (V.E.getD i []).length)).drop (natV (den V ρ bs) + off)).take (0 + 1) = [den V ρ v] := ld_spare this rfl
      have h1 : (((V.E.getD i [] ++ spare (dl V ρ z) ((ρ c).2 * (dl V ρ z).length - (V.E.getD i []).length)).drop (natV (den V ρ bs) + off)).take (0 + 1))[0]? = some (den V ρ v) := by rw [h0]; rfl
      rw [List.getElem?_take_of_lt (by omega), List.getElem?_drop] at h1
      simpa using h1
  · rename_i i n hb hr hn
    split at h
    case h_2 => cases h
    rename_i l hs''
    cases hq : (l.isL && Nat.beq l.len n) with
    | false => rw [hq] at h; cases h
    | true =>
      rw [hq] at h; cases h
      simp only [Bool.and_eq_true] at hq
      have hln := Nat.eq_of_beq_eq_true hq.2
      refine gen _ _ hb rfl fun ρ w hw => ?_
      obtain ⟨rest, t', z', hw⟩ := hw
      have := ho.1 ρ
      refine run_load_row hw hr (by rw [dl_len hq.1, hln]; exact hn) ?_
      rw [dl_len hq.1]; exact ld_spare this (dl_len hq.1)
  · rename_i i n hb hr hn
    split at h
    case h_2 => cases h
    rename_i v hs''
    cases hq : (v.single && Nat.beq n 1) with
    | false => rw [hq] at h; cases h
    | true =>
      rw [hq] at h; cases h
      simp only [Bool.and_eq_true] at hq
      refine gen _ _ hb rfl fun ρ w hw => ?_
      obtain ⟨rest, t', z', hw⟩ := hw
      have := ho.1 ρ
      refine run_load_one hw hr ?_
      simp only [dl, dl_single hq.1, SV.len, List.append_nil] at this
      have h0 : ((V.E.getD i [] ++ rest).drop (natV (den V ρ bs) + off)).take (0 + 1) = [den V ρ v] := ld_spare this rfl
      have h1 : (((V.E.getD i [] ++ rest).drop (natV (den V ρ bs) + off)).take (0 + 1))[0]? = some (den V ρ v) := by rw [h0]; rfl
      rw [List.getElem?_take_of_lt (by omega), List.getElem?_drop] at h1
      simpa using h1
  · cases h

/-- A store. -/
def stEff (P : Program) (lens : List Nat) (hp : List (Nat × Bk)) (nx : Nat) (ty : TypeId) (x y : SV) (hs : List Hint) : R3 :=
  match x with
  | .ptr id bs off =>
    match lkH hp id, cellsOf lens y, sizeT P ty with
    | some (.cs t l), some vs, some n =>
      match bs with
      | .nil => cond (Nat.blt id nx && (Nat.beq vs.len n && (l.isL && Nat.ble (off + n) l.len))) (some (⟨.any, [(id, .cs t l)], [(id, .cs t (SV.setL off vs l))], 0⟩, hs, [])) none
      | _ => none
    | some (.row t i), some vs, some n =>
      match hs with
      | .row i' :: hs' => cond (Nat.blt id nx && Nat.beq vs.len n) (some (⟨.any, [(id, .row t i)], [(id, .row t i')], 0⟩, hs', [.st i bs off vs i'])) none
      | _ => none
    | _, _, _ => none
  | _ => none
theorem stEff_good (hV : VOK V lens) {ty : TypeId} {x y : Operand} (hop : o.op = .store ty x y) {hs hs' : List Hint} {f : Eff} {os : List Obl} (h : stEff P lens hp nx ty (av x) (av y) hs = some (f, hs', os)) (ho : allO P V os) : Good P V av hp nx o f := by
  unfold stEff at h
  split at h
  case h_2 => cases h
  rename_i id bs off hx
  have hex : ∀ (ρ : Nat → Nat × Nat) (ev : Operand → Value), (∀ y ∈ o.op.operands, av y ≠ .any → ev y = den V ρ (av y)) → ev x = .pointer (some ⟨(ρ id).1, natV (den V ρ bs) + off, none⟩) := by
    intro ρ ev hev
    rw [hev x (by rw [hop]; simp [Op.operands]) (by rw [hx]; simp), hx]
    simp [den, dl]
  have gen : ∀ (bk bk' : Bk) (vs : SV) (hb : lkH hp id = some bk) (hl : bk.live = true) (hid : id < nx) (hvs : cellsOf lens (av y) = some vs) (hrun : ∀ (ρ : Nat → Nat × Nat) (w : World) (v : Value), v.cells = (dl V ρ vs).toArray → (∀ u ∈ dl V ρ vs, u.oneCell' = true) → bk.holds V ρ w.heap[(ρ id).1]? →
      ∃ w', (Instr.storeAt ty (.pointer (some ⟨(ρ id).1, natV (den V ρ bs) + off, none⟩)) v).run P w = .ok () w' ∧ bk'.holds V ρ w'.heap[(ρ id).1]? ∧ Fr w w' (fun b => b = (ρ id).1)), Good P V av hp nx o ⟨.any, [(id, bk)], [(id, bk')], 0⟩ := by
    intro bk bk' vs hb hl hid hvs hrun
    refine ⟨eff_store rfl (lkH_self _ _ _) hid fun ρ w ev hev hw => ?_, ?_, ?_⟩
    · have hy : av y ≠ .any := by intro hc; rw [hc] at hvs; simp [cellsOf, SV.cell] at hvs
      obtain ⟨h1, _, h3⟩ := cellsOf_spec hV hvs ρ
      have hey : (ev y).cells = (dl V ρ vs).toArray := by rw [hev y (by rw [hop]; simp [Op.operands]) hy]; exact h1
      obtain ⟨w', hr, hh⟩ := hrun ρ w (ev y) hey h3 hw
      refine ⟨w', ?_, hh⟩
      unfold execOp
      simp only [hop, hex ρ ev hev]
      simp [hr]
    · intro i b hi
      obtain ⟨rfl, rfl⟩ := lkH_single hi
      exact ⟨hb, hl⟩
    · intro i hi _
      cases hq : lkH [(id, bk')] i with
      | none => exact absurd hq hi
      | some b =>
        obtain ⟨rfl, _⟩ := lkH_single hq
        show lkH [(i, bk)] i ≠ none
        rw [lkH_self]; simp
  split at h
  · rename_i t l vs n hb hvs hn
    split at h
    case h_2 => cases h
    cases hq : (Nat.blt id nx && (Nat.beq vs.len n && (l.isL && Nat.ble (off + n) l.len))) with
    | false => rw [hq] at h; cases h
    | true =>
      rw [hq] at h; cases h
      simp only [Bool.and_eq_true, Nat.ble_eq, blt_iff] at hq
      have hln := Nat.eq_of_beq_eq_true hq.2.1
      refine gen _ _ vs hb rfl hq.1 hvs fun ρ w v hv h1 hw => ?_
      have hvl : vs.isL = true := (cellsOf_spec hV hvs ρ).2.1
      have hz : natV (den V ρ .nil) + off = off := by simp [den, dl, natV, undef]
      rw [hz]
      have hlv : v.cells.size = n := by rw [hv, List.size_toArray, dl_len hvl, hln]
      have hll := dl_len (V := V) (ρ := ρ) hq.2.2.1
      refine ⟨_, run_store_any hw (by rw [hlv]; exact hn) (by rw [hlv, List.size_toArray, hll]; exact hq.2.2.2) (by rw [hv]; exact h1), ?_, fr_setCells _ _ _ _⟩
      rw [block_setCells _ _ _ _ _ _ hw]
      show some (Obj.cells _ _ _) = some (Obj.cells _ _ _)
      have hd := (dl_set (V := V) (ρ := ρ) (o := off) hvl hq.2.2.1 (by omega)).1
      congr 2
      apply Array.toList_inj.1
      rw [hv, fillA_list _ _ _ (by simp only [List.toList_toArray, List.size_toArray]; rw [dl_len hvl, hll]; omega)]
      simp only [List.toList_toArray]
      rw [hd, dl_len hvl]
  · rename_i t i vs n hb hvs hn
    split at h
    case h_2 => cases h
    rename_i i' hs''
    cases hq : (Nat.blt id nx && Nat.beq vs.len n) with
    | false => rw [hq] at h; cases h
    | true =>
      rw [hq] at h; cases h
      simp only [Bool.and_eq_true, blt_iff] at hq
      have hln := Nat.eq_of_beq_eq_true hq.2
      refine gen _ _ vs hb rfl hq.1 hvs fun ρ w v hv h1 hw => ?_
      have hvl : vs.isL = true := (cellsOf_spec hV hvs ρ).2.1
      obtain ⟨hle, hE⟩ := ho.1 ρ
      have hlv : v.cells.size = vs.len := by rw [hv, List.size_toArray, dl_len hvl]
      refine ⟨_, run_store_any hw (by rw [hlv, hln]; exact hn) (by rw [hlv, List.size_toArray]; exact hle) (by rw [hv]; exact h1), ?_, fr_setCells _ _ _ _⟩
      rw [block_setCells _ _ _ _ _ _ hw]
      show some (Obj.cells _ _ _) = some (Obj.cells _ _ _)
      congr 2
      apply Array.toList_inj.1
      rw [hv, fillA_list _ _ _ (by simp only [List.toList_toArray, List.size_toArray]; rw [dl_len hvl]; omega)]
      simp only [List.toList_toArray]
      rw [hE, dl_len hvl]
  · cases h

/-! Structs and arrays built. -/
def places (P : Program) : List Field → Option (List (Nat × Nat))
  | [] => some []
  | f :: r => match sizeT P f.type, places P r with
    | some n, some l => some ((f.offset, n) :: l)
    | _, _ => none
theorem sizeT_run {t : TypeId} {n : Nat} (h : sizeT P t = some n) (w : World) : (sizeOf t).run P w = .ok n w := by
  unfold sizeT at h
  cases hq : P.info? t with
  | none => rw [hq] at h; cases h
  | some i => rw [hq] at h; simp at h; simp [sizeOf, typeInfo, hq, h]
theorem places_run : ∀ (fs : List Field) (l : List (Nat × Nat)) (w : World), places P fs = some l → (fs.mapM fun f => (do pure (f.offset, ← sizeOf f.type) : Sem (Nat × Nat))).run P w = .ok l w
  | [], l, w, h => by cases h; rfl
  | f :: r, l, w, h => by
    unfold places at h
    split at h
    · rename_i n l' hn hl
      cases h
      simp only [List.mapM_cons, Sem.run_bind, sizeT_run hn, Result.andThen, Sem.run_pure, places_run r l' w hl]
    · cases h
def fillS (lens : List Nat) (place : Nat → Option (Nat × Nat)) : SV → List (Nat × SV) → Option SV
  | l, [] => some l
  | l, (i, v) :: r => match place i, cellsOf lens v with
    | some (off, size), some vs => cond (Nat.beq vs.len size && Nat.ble (off + vs.len) l.len) (fillS lens place (SV.setL off vs l) r) none
    | _, _ => none
theorem zip_fold : ∀ (xs : List Value) (k off : Nat) (cells : Array Value), (xs.zipIdx k).foldl (fun cs x => cs.setIfInBounds (off + x.2) x.1) cells = fillA (off + k) xs cells
  | [], _, _, _ => rfl
  | x :: xs, k, off, cells => by
    simp only [List.zipIdx_cons, List.foldl_cons, fillA]
    rw [zip_fold xs (k + 1) off]; rfl
theorem fillS_spec (hV : VOK V lens) (place : Nat → Option (Nat × Nat)) (ρ : Nat → Nat × Nat) : ∀ (ps : List (Nat × SV)) (l l' : SV), l.isL = true → fillS lens place l ps = some l' →
    Instr.fill place (dl V ρ l).toArray (ps.map fun x => (x.1, den V ρ x.2)) = some (dl V ρ l').toArray ∧ l'.isL = true
  | [], l, l', hl, h => by cases h; exact ⟨rfl, hl⟩
  | (i, v) :: r, l, l', hl, h => by
    unfold fillS at h
    split at h
    · rename_i off size vs hp hvs
      cases hq : (Nat.beq vs.len size && Nat.ble (off + vs.len) l.len) with
      | false => rw [hq] at h; cases h
      | true =>
        rw [hq] at h
        simp only [Bool.and_eq_true, Nat.ble_eq] at hq
        have hsz := Nat.eq_of_beq_eq_true hq.1
        obtain ⟨h1, hvl, _⟩ := cellsOf_spec hV hvs ρ
        obtain ⟨hd, hil, _⟩ := dl_set (V := V) (ρ := ρ) (o := off) hvl hl hq.2
        have hrec := fillS_spec hV place ρ r _ l' hil h
        refine ⟨?_, hrec.2⟩
        simp only [List.map_cons]
        unfold Instr.fill
        simp only [hp]
        have hcs : (den V ρ v).cells.size = vs.len := by rw [h1, List.size_toArray, dl_len hvl]
        rw [if_neg (by rw [hcs, hsz]; simp only [List.size_toArray, dl_len hl, ne_eq, not_true, false_or, decide_false, Bool.false_or, Bool.or_eq_true, decide_eq_true_eq]; omega)]
        rw [← hrec.1]
        congr 1
        rw [← Array.foldl_toList, Array.toList_zipIdx, h1]
        simp only [List.toList_toArray]
        have := zip_fold (dl V ρ vs) 0 off (dl V ρ l).toArray
        rw [this, Nat.add_zero]
        apply Array.toList_inj.1
        rw [fillA_list _ _ _ (by simp only [List.size_toArray]; rw [dl_len hvl, dl_len hl]; exact hq.2)]
        simp only [List.toList_toArray]
        rw [hd, dl_len hvl]
    · cases h
end
end RX
end Go.Proofs.Ytbmokmkaebfneaa
