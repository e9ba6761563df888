/- Every operation: the effect, and that it is right. -/
import Derived.Test.YtbmokmkaebfneaaRX8
namespace Go.Proofs.Ytbmokmkaebfneaa
open Go.RowKit
namespace RX
set_option linter.unnecessarySimpa false
set_option linter.unusedVariables false
set_option linter.unusedSimpArgs false
def argsSV (av : Operand → SV) : List Operand → SV
  | [] => .nil
  | x :: r => .cons (av x) (argsSV av r)
def okVal (x : SV) : Bool := match x with
  | .any => false
  | .nil => false
  | .cons _ _ => false
  | _ => true
def okArgs (av : Operand → SV) : List Operand → Bool
  | [] => true
  | x :: r => okVal (av x) && okArgs av r
def appSV : SV → SV → SV
  | .cons h t, b => .cons h (appSV t b)
  | _, b => b
theorem okVal_spec {x : SV} (h : okVal x = true) : x ≠ .any ∧ x.single = true := by
  cases x <;> simp_all [okVal, SV.single]
theorem argsSV_spec {V : Env} {av : Operand → SV} {ρ : Nat → Nat × Nat} {ev : Operand → Value} : ∀ (l : List Operand), okArgs av l = true → (∀ x ∈ l, av x ≠ .any → ev x = den V ρ (av x)) → l.map ev = dl V ρ (argsSV av l) ∧ (argsSV av l).isL = true
  | [], _, _ => ⟨rfl, rfl⟩
  | x :: r, h, he => by
    simp only [okArgs, Bool.and_eq_true] at h
    obtain ⟨h1, h2⟩ := okVal_spec h.1
    obtain ⟨h3, h4⟩ := argsSV_spec r h.2 (fun y hy => he y (List.mem_cons_of_mem _ hy))
    refine ⟨?_, by simp only [argsSV, SV.isL, h2, h4, Bool.and_self]⟩
    simp only [List.map_cons, argsSV, dl, dl_single h2, h3, he x List.mem_cons_self h1, List.singleton_append]
theorem dl_app {V : Env} {ρ : Nat → Nat × Nat} : ∀ {a b : SV}, a.isL = true → dl V ρ (appSV a b) = dl V ρ a ++ dl V ρ b
  | .nil, _, _ => rfl
  | .cons h t, b, hl => by
    simp only [SV.isL, Bool.and_eq_true] at hl
    simp only [appSV, dl, dl_app hl.2, List.append_assoc]

def litBin (op : BinOp) (k : IntKind) (x y : Int) : Option SV := match op with
  | .add => some (.lit k (k.wrap (x + y)))
  | .sub => some (.lit k (k.wrap (x - y)))
  | .mul => some (.lit k (k.wrap (x * y)))
  | .eql => some (.bo (x == y))
  | .neq => some (.bo (x != y))
  | .lss => some (.bo (decide (x < y)))
  | .leq => some (.bo (decide (x ≤ y)))
  | .gtr => some (.bo (decide (x > y)))
  | .geq => some (.bo (decide (x ≥ y)))
  | _ => none
def isPtrT (P : Program) (t : TypeId) : Bool := match P.underlying t with | some (.pointer _) => true | _ => false
def isSliT (P : Program) (t : TypeId) : Bool := match P.underlying t with | some (.slice _) => true | _ => false
def isMapT (P : Program) (t : TypeId) : Bool := match P.underlying t with | some (.map _ _) => true | _ => false
def isFunT (P : Program) (t : TypeId) : Bool := match P.underlying t with | some (.func _ _ _) => true | _ => false
def isBoolT (P : Program) (t : TypeId) : Bool := match P.underlying t with | some .bool => true | _ => false
def nilTest (P : Program) (t : TypeId) : SV → SV → Option Bool
  | .nilp, .nilp => cond (isPtrT P t) (some true) none
  | .nilp, .ptr _ _ _ => cond (isPtrT P t) (some false) none
  | .ptr _ _ _, .nilp => cond (isPtrT P t) (some false) none
  | .nilsl, .nilsl => cond (isSliT P t) (some true) none
  | .nilsl, .sli _ _ _ _ _ => cond (isSliT P t) (some false) none
  | .sli _ _ _ _ _, .nilsl => cond (isSliT P t) (some false) none
  | .nilmap, .nilmap => cond (isMapT P t) (some true) none
  | .nilmap, .mp _ => cond (isMapT P t) (some false) none
  | .mp _, .nilmap => cond (isMapT P t) (some false) none
  | .nilf, .nilf => cond (isFunT P t) (some true) none
  | .nilf, .fn _ _ => cond (isFunT P t) (some false) none
  | .fn _ _, .nilf => cond (isFunT P t) (some false) none
  | .bo x, .bo y => cond (isBoolT P t) (some (x == y)) none
  | _, _ => none
def autoBin2 (P : Program) (op : BinOp) (t : TypeId) (a b : SV) : Option SV :=
  match a, b with
  | .lit k x, .lit k' y => cond (decide (k = k')) (litBin op k x y) none
  | a, b => match nilTest P t a b with
    | some r => match op with
      | .eql => some (.bo r)
      | .neq => some (.bo (!r))
      | _ => none
    | none => none
def autoBin (P : Program) (op : BinOp) (t : TypeId) (a b : SV) : Option SV :=
  match op with
  | .shl => none
  | .shr => none
  | op => autoBin2 P op t a b
theorem isPtrT_spec {P : Program} {t : TypeId} (h : isPtrT P t = true) : ∃ e, P.underlying t = some (.pointer e) := by unfold isPtrT at h; split at h <;> simp_all
theorem isSliT_spec {P : Program} {t : TypeId} (h : isSliT P t = true) : ∃ e, P.underlying t = some (.slice e) := by unfold isSliT at h; split at h <;> simp_all
theorem isMapT_spec {P : Program} {t : TypeId} (h : isMapT P t = true) : ∃ k e, P.underlying t = some (.map k e) := by unfold isMapT at h; split at h <;> simp_all
theorem isFunT_spec {P : Program} {t : TypeId} (h : isFunT P t = true) : ∃ a b c, P.underlying t = some (.func a b c) := by unfold isFunT at h; split at h <;> simp_all
theorem isBoolT_spec {P : Program} {t : TypeId} (h : isBoolT P t = true) : P.underlying t = some .bool := by unfold isBoolT at h; split at h <;> simp_all
theorem nil_fin {P : Program} {t : TypeId} {w : World} {x y : Value} {r : Bool} (u v : Operand) (hg : ∀ op, eqGuard op t u v x y = pure ()) (hb : binOp .eql t x y = do pure (.bool (← Op.equal t x y))) (hb' : binOp .neq t x y = do pure (.bool (!(← Op.equal t x y))))
    (he : (Op.equalIn (9999 + 1) t x y).run P w = .ok r w) :
    (eqGuard .eql t u v x y).run P w = .ok () w ∧ (eqGuard .neq t u v x y).run P w = .ok () w ∧ (binOp .eql t x y).run P w = .ok (.bool r) w ∧ (binOp .neq t x y).run P w = .ok (.bool (!r)) w := by
  have e : Op.equal t x y = Op.equalIn (9999 + 1) t x y := rfl
  refine ⟨by rw [hg]; rfl, by rw [hg]; rfl, ?_, ?_⟩
  · rw [hb, e, Sem.run_bind, he]; rfl
  · rw [hb', e, Sem.run_bind, he]; rfl
theorem eqp1 {P : Program} {t e : TypeId} {w : World} (hd : P.underlying t = some (.pointer e)) (n : Nat) (b : Option Addr) : (Op.equalIn (n + 1) t (.pointer none) (.pointer b)).run P w = .ok b.isNone w := by
  unfold Op.equalIn; rw [Sem.run_bind, run_underlying hd]; rfl
theorem eqp2 {P : Program} {t e : TypeId} {w : World} (hd : P.underlying t = some (.pointer e)) (n : Nat) (b : Addr) : (Op.equalIn (n + 1) t (.pointer (some b)) (.pointer none)).run P w = .ok false w := by
  unfold Op.equalIn; rw [Sem.run_bind, run_underlying hd]; rfl
theorem eqs1 {P : Program} {t e : TypeId} {w : World} (hd : P.underlying t = some (.slice e)) (n : Nat) (b : Option Addr) (l c l' c' : Nat) : (Op.equalIn (n + 1) t (.slice none l c) (.slice b l' c')).run P w = .ok b.isNone w := by
  unfold Op.equalIn; rw [Sem.run_bind, run_underlying hd]; rfl
theorem eqs2 {P : Program} {t e : TypeId} {w : World} (hd : P.underlying t = some (.slice e)) (n : Nat) (b : Addr) (l c l' c' : Nat) : (Op.equalIn (n + 1) t (.slice (some b) l c) (.slice none l' c')).run P w = .ok false w := by
  unfold Op.equalIn; rw [Sem.run_bind, run_underlying hd]; rfl
theorem eqm1 {P : Program} {t k e : TypeId} {w : World} (hd : P.underlying t = some (.map k e)) (n : Nat) (b : Option Nat) : (Op.equalIn (n + 1) t (.map none) (.map b)).run P w = .ok b.isNone w := by
  unfold Op.equalIn; rw [Sem.run_bind, run_underlying hd]; rfl
theorem eqm2 {P : Program} {t k e : TypeId} {w : World} (hd : P.underlying t = some (.map k e)) (n : Nat) (b : Nat) : (Op.equalIn (n + 1) t (.map (some b)) (.map none)).run P w = .ok false w := by
  unfold Op.equalIn; rw [Sem.run_bind, run_underlying hd]; rfl
theorem eqf0 {P : Program} {t : TypeId} {a b : Array TypeId} {c : Bool} {w : World} (hd : P.underlying t = some (.func a b c)) (n : Nat) : (Op.equalIn (n + 1) t .nilFunc .nilFunc).run P w = .ok true w := by
  unfold Op.equalIn; rw [Sem.run_bind, run_underlying hd]; rfl
theorem eqf1 {P : Program} {t : TypeId} {a b : Array TypeId} {c : Bool} {w : World} (hd : P.underlying t = some (.func a b c)) (n : Nat) (f : Fn) (x y : Array Value) : (Op.equalIn (n + 1) t .nilFunc (.func f x y)).run P w = .ok false w := by
  unfold Op.equalIn; rw [Sem.run_bind, run_underlying hd]; rfl
theorem eqf2 {P : Program} {t : TypeId} {a b : Array TypeId} {c : Bool} {w : World} (hd : P.underlying t = some (.func a b c)) (n : Nat) (f : Fn) (x y : Array Value) : (Op.equalIn (n + 1) t (.func f x y) .nilFunc).run P w = .ok false w := by
  unfold Op.equalIn; rw [Sem.run_bind, run_underlying hd]; rfl
theorem eqb {P : Program} {t : TypeId} {w : World} (hd : P.underlying t = some .bool) (n : Nat) (x y : Bool) : (Op.equalIn (n + 1) t (.bool x) (.bool y)).run P w = .ok (x == y) w := by
  unfold Op.equalIn; rw [Sem.run_bind, run_underlying hd]; rfl
theorem guard_ptr (op : BinOp) (t : TypeId) (u v : Operand) (a b : Option Addr) : eqGuard op t u v (.pointer a) (.pointer b) = pure () := by cases op <;> rfl
theorem guard_sli (op : BinOp) (t : TypeId) (u v : Operand) (a b : Option Addr) (l c l' c' : Nat) : eqGuard op t u v (.slice a l c) (.slice b l' c') = pure () := by cases op <;> rfl
theorem guard_map (op : BinOp) (t : TypeId) (u v : Operand) (a b : Option Nat) : eqGuard op t u v (.map a) (.map b) = pure () := by cases op <;> rfl
theorem guard_bool (op : BinOp) (t : TypeId) (u v : Operand) (a b : Bool) : eqGuard op t u v (.bool a) (.bool b) = pure () := by cases op <;> rfl
theorem guard_f0 (op : BinOp) (t : TypeId) (u v : Operand) : eqGuard op t u v .nilFunc .nilFunc = pure () := by cases op <;> rfl
theorem guard_f1 (op : BinOp) (t : TypeId) (u v : Operand) (f : Fn) (x y : Array Value) : eqGuard op t u v .nilFunc (.func f x y) = pure () := by cases op <;> rfl
theorem guard_f2 (op : BinOp) (t : TypeId) (u v : Operand) (f : Fn) (x y : Array Value) : eqGuard op t u v (.func f x y) .nilFunc = pure () := by cases op <;> rfl
theorem cond_some {b : Bool} {x r : Bool} (h : cond b (some x) none = some r) : b = true ∧ x = r := by cases b <;> simp_all
theorem nilTest_spec {P : Program} {V : Env} {t : TypeId} {a b : SV} {r : Bool} (h : nilTest P t a b = some r) (ρ : Nat → Nat × Nat) (w : World) (x y : Operand) :
    (eqGuard .eql t x y (den V ρ a) (den V ρ b)).run P w = .ok () w ∧ (eqGuard .neq t x y (den V ρ a) (den V ρ b)).run P w = .ok () w ∧ (binOp .eql t (den V ρ a) (den V ρ b)).run P w = .ok (.bool r) w ∧ (binOp .neq t (den V ρ a) (den V ρ b)).run P w = .ok (.bool (!r)) w := by
  unfold nilTest at h
  split at h
  case h_14 => cases h
  all_goals (obtain ⟨h1, rfl⟩ := cond_some h)
  · obtain ⟨d, hd⟩ := isPtrT_spec h1; exact nil_fin x y (fun op => guard_ptr op t x y _ _) rfl rfl (eqp1 hd _ none)
  · obtain ⟨d, hd⟩ := isPtrT_spec h1; exact nil_fin x y (fun op => guard_ptr op t x y _ _) rfl rfl (eqp1 hd _ (some _))
  · obtain ⟨d, hd⟩ := isPtrT_spec h1; exact nil_fin x y (fun op => guard_ptr op t x y _ _) rfl rfl (eqp2 hd _ _)
  · obtain ⟨d, hd⟩ := isSliT_spec h1; exact nil_fin x y (fun op => guard_sli op t x y _ _ _ _ _ _) rfl rfl (eqs1 hd _ none _ _ _ _)
  · obtain ⟨d, hd⟩ := isSliT_spec h1; exact nil_fin x y (fun op => guard_sli op t x y _ _ _ _ _ _) rfl rfl (eqs1 hd _ (some _) _ _ _ _)
  · obtain ⟨d, hd⟩ := isSliT_spec h1; exact nil_fin x y (fun op => guard_sli op t x y _ _ _ _ _ _) rfl rfl (eqs2 hd _ _ _ _ _ _)
  · obtain ⟨d, d', hd⟩ := isMapT_spec h1; exact nil_fin x y (fun op => guard_map op t x y _ _) rfl rfl (eqm1 hd _ none)
  · obtain ⟨d, d', hd⟩ := isMapT_spec h1; exact nil_fin x y (fun op => guard_map op t x y _ _) rfl rfl (eqm1 hd _ (some _))
  · obtain ⟨d, d', hd⟩ := isMapT_spec h1; exact nil_fin x y (fun op => guard_map op t x y _ _) rfl rfl (eqm2 hd _ _)
  · obtain ⟨d, d', d'', hd⟩ := isFunT_spec h1; exact nil_fin x y (fun op => guard_f0 op t x y) rfl rfl (eqf0 hd _)
  · obtain ⟨d, d', d'', hd⟩ := isFunT_spec h1; exact nil_fin x y (fun op => guard_f1 op t x y _ _ _) rfl rfl (eqf1 hd _ _ _ _)
  · obtain ⟨d, d', d'', hd⟩ := isFunT_spec h1; exact nil_fin x y (fun op => guard_f2 op t x y _ _ _) rfl rfl (eqf2 hd _ _ _ _)
  · have hd := isBoolT_spec h1; exact nil_fin x y (fun op => guard_bool op t x y _ _) rfl rfl (eqb hd _ _ _)
theorem autoBin_spec {P : Program} {V : Env} {op : BinOp} {t : TypeId} {a b v : SV} (h : autoBin P op t a b = some v) (ρ : Nat → Nat × Nat) (w : World) (x y : Operand) :
    (do eqGuard op t x y (den V ρ a) (den V ρ b); binOp op t (den V ρ a) (den V ρ b)).run P w = .ok (den V ρ v) w := by
  have main : autoBin2 P op t a b = some v := by cases op <;> first | exact h | cases h
  unfold autoBin2 at main
  split at main
  · rename_i k x' k' y'
    cases hq : decide (k = k') with
    | false => rw [hq] at main; cases main
    | true =>
      rw [hq] at main
      have hk := of_decide_eq_true hq
      subst hk
      simp only [cond_true] at main
      have hg : ∀ op, (eqGuard op t x y (den V ρ (.lit k x')) (den V ρ (.lit k y'))).run P w = .ok () w := fun op => by cases op <;> rfl
      rw [Sem.run_bind, hg]
      show (binOp op t (.int k x') (.int k y')).run P w = _
      unfold litBin at main
      split at main <;> first | cases main; done | (cases main; simp [binOp, Op.intArith, Op.intCmp, den, dl])
  · split at main
    · rename_i r hr
      obtain ⟨h1, h2, h3, h4⟩ := nilTest_spec (V := V) hr ρ w x y
      split at main
      · cases main
        rw [Sem.run_bind, h1]; exact h3
      · cases main
        rw [Sem.run_bind, h2]; exact h4
      · cases main
    · cases main
end RX
end Go.Proofs.Ytbmokmkaebfneaa
