/- The fields' contracts, on paper. -/
import Derived.Test.YtbmokmkaebfneaaRXH
import Derived.Test.YtbmokmkaebfneaaFE
import Derived.Test.YtbmokmkaebfneaaRE
import Derived.Test.YtbmokmkaebfneaaLF0
import Derived.Test.YtbmokmkaebfneaaLF2
namespace Go.Proofs.Ytbmokmkaebfneaa
set_option linter.unusedVariables false
set_option linter.unusedSimpArgs false
open Go.RowKit
open RX
noncomputable def lbs (n : Nat) : List Value := [.int .u64 (lb n 0), .int .u64 (lb n 1), .int .u64 (lb n 2), .int .u64 (lb n 3)]
noncomputable def mtL (b : Bool) : List Value := [.int .u64 (lb (pN b) 0), .int .u64 (lb (pN b) 1), .int .u64 (lb (pN b) 2), .int .u64 (lb (pN b) 3), .int .u64 (lb (r2N (pN b)) 0), .int .u64 (lb (r2N (pN b)) 1), .int .u64 (lb (r2N (pN b)) 2), .int .u64 (lb (r2N (pN b)) 3), .int .u64 (lb (ivN (pN b)) 0)]
/-- A number, a list's head. -/
def nS (i : Nat) : SV := .agg (.cons (.ev i 0) (.cons (.ev i 1) (.cons (.ev i 2) (.cons (.ev i 3) .nil))))
theorem one_lbs (n : Nat) : ∀ j, j < 4 → ((lbs n).getD j undef).oneCell' = true := one_four _ _ _ _ _
def fldPre : List Bk := [.cs 121 (evs 0 0 4 (.cons (.ptr 1 .nil 0) (evs 1 0 4 .nil))), .row 136 2]
theorem one_mtL (b : Bool) : ∀ j, j < 9 → ((mtL b).getD j undef).oneCell' = true := fun j hj => one_all (l := mtL b) (by intro v hv; simp only [mtL, List.mem_cons, List.not_mem_nil, or_false] at hv; rcases hv with rfl | rfl | rfl | rfl | rfl | rfl | rfl | rfl | rfl <;> rfl) j hj
theorem ofField {f : FuncId} {fn : Func} (F : FnIs Try.prog f fn) {base : Bool} {args res : SV} {E : List (List Value)} {vs : List Value} {v : Value}
    (ha : ∀ ρ, dl ⟨lbs (pN base) :: lbs (rtN base) :: mtL base :: E, []⟩ ρ args = .pointer (some ⟨(ρ 0).1, 0, none⟩) :: vs) (hr : ∀ ρ, den ⟨lbs (pN base) :: lbs (rtN base) :: mtL base :: E, []⟩ ρ res = v)
    (h : ∀ w f' g, FieldB w f' g base → Calls Try.prog f (Value.pointer (some ⟨f', 0, none⟩) :: vs).toArray w fun e w' => e = .returned v ∧ Below w.heap.size w w') :
    Ct.Valid Try.prog f ⟨args, fldPre, [], [], res⟩ ⟨lbs (pN base) :: lbs (rtN base) :: mtL base :: E, []⟩ := by
  intro ρ w hpre
  have h0 := hpre.2 0 _ rfl
  have h1 := hpre.2 1 _ rfl
  have hF : FieldB w (ρ 0).1 (ρ 1).1 base := by
    refine ⟨?_, h1⟩
    have e : Bk.den ⟨lbs (pN base) :: lbs (rtN base) :: mtL base :: E, []⟩ ρ (.cs 121 (.cons (.ev 0 0) (.cons (.ev 0 1) (.cons (.ev 0 2) (.cons (.ev 0 3) (.cons (.ptr 1 .nil 0) (.cons (.ev 1 0) (.cons (.ev 1 1) (.cons (.ev 1 2) (.cons (.ev 1 3) .nil)))))))))) =
      .cells #[.int .u64 (lb (pN base) 0), .int .u64 (lb (pN base) 1), .int .u64 (lb (pN base) 2), .int .u64 (lb (pN base) 3), .pointer (some ⟨(ρ 1).1, 0, none⟩), .int .u64 (lb (rtN base) 0), .int .u64 (lb (rtN base) 1), .int .u64 (lb (rtN base) 2), .int .u64 (lb (rtN base) 3)] 121 (0, 0) := rfl
    exact h0.trans (congrArg some e)
  rw [callFunc_enter F.at_ F.name F.body]
  show Calls Try.prog f (dl _ ρ args).toArray w _
  rw [ha ρ]
  refine (h w _ _ hF).mono ?_
  rintro e w' ⟨rfl, hb⟩
  exact ⟨v, rfl, ρ, fun _ _ => rfl, fun j hj => by simp at hj, fun i j hi => by simp at hi, (hr ρ).symm, fun i bk hb => by simp at hb, fun j bk hb => by simp at hb, Fr.of_below hb _⟩
/-- A field that is made. -/
theorem ofMade {f : FuncId} {fn : Func} (F : FnIs Try.prog f fn) {base : Bool}
    (h : ∀ w, Calls Try.prog f #[] w fun e w' => ∃ f' g, e = .returned (.pointer (some ⟨f', 0, none⟩)) ∧ FieldB w' f' g base ∧ Below w.heap.size w w' ∧ w.heap.size ≤ f' ∧ w.heap.size ≤ g ∧ f' ≠ g) :
    Ct.Valid Try.prog f ⟨.nil, [], [], fldPre, .ptr 0 .nil 0⟩ ⟨[lbs (pN base), lbs (rtN base), mtL base], []⟩ := by
  intro ρ w _
  rw [callFunc_enter F.at_ F.name F.body]
  refine (h w).mono ?_
  rintro e w' ⟨f', g, rfl, ⟨h0, h1⟩, hb, hf, hg, hne⟩
  refine ⟨_, rfl, fun i => if i = 0 then (f', 0) else (g, 0), fun i hi => by simp at hi, ?_, ?_, rfl, fun i bk hb => by simp at hb, ?_, Fr.of_below hb _⟩
  · intro j hj
    match j, hj with
    | 0, _ => exact .inl hf
    | 1, _ => exact .inl hg
  · intro i j hi hj he
    match i, hi, j, hj with
    | 0, _, 0, _ => rfl
    | 1, _, 1, _ => rfl
    | 0, _, 1, _ => exact absurd he hne
    | 1, _, 0, _ => exact absurd he.symm hne
  · intro j bk hb
    match j with
    | 0 => cases hb; exact h0
    | 1 => cases hb; exact h1
    | _ + 2 => simp [fldPre] at hb
theorem new_scalars2 (w : World) : Calls Try.prog 68 #[.agg #[.int .u64 13822214165235122497, .int .u64 13451932020343611451, .int .u64 18446744073709551614, .int .u64 18446744073709551615]] w fun e w' => ∃ g, e = .returned (.tuple #[.pointer (some ⟨g, 0, none⟩), .int .i64 0]) ∧ MontB w' g (pN false) (r2N (pN false)) (ivN (pN false)) ∧ Below w.heap.size w w' ∧ w.heap.size ≤ g := by
  have h := newmont_new (pN false) (pN_lt _) (pN_odd _) (by have := pN_one false; omega) w
  unfold num at h
  rw [(lb_p false).1, (lb_p false).2.1, (lb_p false).2.2.1, (lb_p false).2.2.2] at h
  exact h
set_option maxHeartbeats 2000000 in
theorem scalars_made (w : World) : Calls Try.prog 46 #[] w fun e w' => ∃ f' g, e = .returned (.pointer (some ⟨f', 0, none⟩)) ∧ FieldB w' f' g false ∧ Below w.heap.size w w' ∧ w.heap.size ≤ f' ∧ w.heap.size ≤ g ∧ f' ≠ g := by
  go_enter Try.func46, Try.ntmps46
  go_wp2_with fail; (with_reducible refine (new_scalars2 _).mono ?_); rintro e w1 ⟨g, rfl, hM, h1, hg⟩; have km := (Blk.newAt (n := w.heap.size) _ _ _ (by first | rfl | simp)).after h1; have bw := below_call h1 (w := w) (by go_grown); obtain ⟨km_c, km_f, km_l, km_m, _⟩ := km.knows
  go_wp2
  go_ret
  refine ⟨_, g, rfl, ⟨?_, Blk.alloc hM _⟩, by go_grown, ?_, (by have := hg; simp at this; omega), ?_⟩
  · rw [(lb_p false).1, (lb_p false).2.1, (lb_p false).2.2.1, (lb_p false).2.2.2, (lb_rt false).1, (lb_rt false).2.1, (lb_rt false).2.2.1, (lb_rt false).2.2.2]
    exact Blk.new _ _ _
  · have := h1.size; simp at this; omega
  · exact fun e => Nat.lt_irrefl _ (e ▸ hM.lt)
/-! What is owed: numbers. -/
theorem ob_lb (n j v : Nat) (h : lbN n j = v) : ∀ (_ : Nat → Nat × Nat), [Value.int .u64 (v : Int)] = [Value.int .u64 (lb n j)] := fun _ => by rw [lb_def, h]
theorem num_lit (n a b c d : Nat) (h : lbN n 0 = a ∧ lbN n 1 = b ∧ lbN n 2 = c ∧ lbN n 3 = d) : Value.agg #[.int .u64 (a : Int), .int .u64 (b : Int), .int .u64 (c : Int), .int .u64 (d : Int)] = num n := by
  unfold num; rw [lb_def, lb_def, lb_def, lb_def, h.1, h.2.1, h.2.2.1, h.2.2.2]
theorem ob_bl (n j v : Nat) (h : lbN n j = v) : ∀ (_ : Nat → Nat × Nat), [Value.int .u64 (lb n j)] = [Value.int .u64 (v : Int)] := fun _ => by rw [lb_def, h]
theorem ob_nn {a b : Nat} (j : Nat) (h : a = b) : ∀ (_ : Nat → Nat × Nat), [Value.int .u64 (lb a j)] = [Value.int .u64 (lb b j)] := fun _ => by rw [h]
theorem guard_num (op : BinOp) (x y : Operand) (m n : Nat) (w : World) : (eqGuard op 24 x y (num m) (num n)).run Try.prog w = .ok () w := run_eqGuard_agg w op _ x y _ _ (by kernel_rfl)
theorem bin_num {m n : Nat} {r : Bool} (h : ∀ w, (Op.equalIn 10000 24 (num m) (num n)).run Try.prog w = .ok r w) : BinIs Try.prog .eql 24 (num m) (num n) (.bool r) ∧ BinIs Try.prog .neq 24 (num m) (num n) (.bool (!r)) := by
  constructor
  · intro _ w x y
    rw [Sem.run_bind, guard_num]
    rw [Result.andThen_ok, run_eql_struct, h]; rfl
  · intro _ w x y
    rw [Sem.run_bind, guard_num]
    rw [Result.andThen_ok, run_neq_struct, h]; rfl
theorem ob_numeql_t (a b : Nat) (h : a = b) : BinIs Try.prog .eql 24 (num a) (num b) (.bool true) := (bin_num (m := a) (n := b) (r := true) fun w => by rw [h]; exact eqin_same b w).1
theorem ob_numneq_t (a b : Nat) (h : a = b) : BinIs Try.prog .neq 24 (num a) (num b) (.bool false) := (bin_num (m := a) (n := b) (r := true) fun w => by rw [h]; exact eqin_same b w).2
theorem ob_numeql_f (a b : Nat) (h : a ≠ b) (ha : a < RR) (hb : b < RR) : BinIs Try.prog .eql 24 (num a) (num b) (.bool false) := (bin_num (m := a) (n := b) (r := false) fun w => eqin_other ha hb h w).1
theorem ob_numneq_f (a b : Nat) (h : a ≠ b) (ha : a < RR) (hb : b < RR) : BinIs Try.prog .neq 24 (num a) (num b) (.bool true) := (bin_num (m := a) (n := b) (r := false) fun w => eqin_other ha hb h w).2

theorem fn___field_Field__Add : FnIs Try.prog 47 Try.f47 := ⟨Try.func47, by kernel_rfl, by kernel_rfl, by kernel_rfl⟩
def C_fadd : Ct := ⟨(.cons (.ptr 0 .nil 0) (.cons (nS 3) (.cons (nS 4) .nil))), [.cs 121 (evs 0 0 4 (.cons (.ptr 1 .nil 0) (evs 1 0 4 .nil))), .row 136 2], [], [], (.tup (.cons (nS 5) (.cons (.lit .i64 0) .nil)))⟩
theorem c_fadd {base : Bool} (a b : Nat) (h : a < pN base) (h' : b < pN base) : Ct.Valid Try.prog 47 C_fadd ⟨[lbs (pN base), lbs (rtN base), mtL base, lbs (a), lbs (b), lbs (fadN base a b)], []⟩ := ofField fn___field_Field__Add (fun _ => rfl) (fun _ => rfl) (fun _ _ _ hF => fadd_yes hF a b h h')
theorem fn___field_Field__Sub : FnIs Try.prog 50 Try.f50 := ⟨Try.func50, by kernel_rfl, by kernel_rfl, by kernel_rfl⟩
def C_fsub : Ct := ⟨(.cons (.ptr 0 .nil 0) (.cons (nS 3) (.cons (nS 4) .nil))), [.cs 121 (evs 0 0 4 (.cons (.ptr 1 .nil 0) (evs 1 0 4 .nil))), .row 136 2], [], [], (.tup (.cons (nS 5) (.cons (.lit .i64 0) .nil)))⟩
theorem c_fsub {base : Bool} (a b : Nat) (h : a < pN base) (h' : b < pN base) : Ct.Valid Try.prog 50 C_fsub ⟨[lbs (pN base), lbs (rtN base), mtL base, lbs (a), lbs (b), lbs (fsbN base a b)], []⟩ := ofField fn___field_Field__Sub (fun _ => rfl) (fun _ => rfl) (fun _ _ _ hF => fsub_yes hF a b h h')
theorem fn___field_Field__Mul : FnIs Try.prog 52 Try.f52 := ⟨Try.func52, by kernel_rfl, by kernel_rfl, by kernel_rfl⟩
def C_fmul : Ct := ⟨(.cons (.ptr 0 .nil 0) (.cons (nS 3) (.cons (nS 4) .nil))), [.cs 121 (evs 0 0 4 (.cons (.ptr 1 .nil 0) (evs 1 0 4 .nil))), .row 136 2], [], [], (.tup (.cons (nS 5) (.cons (.lit .i64 0) .nil)))⟩
theorem c_fmul {base : Bool} (a b : Nat) (h : a < pN base) (h' : b < pN base) : Ct.Valid Try.prog 52 C_fmul ⟨[lbs (pN base), lbs (rtN base), mtL base, lbs (a), lbs (b), lbs (fmlN base a b)], []⟩ := ofField fn___field_Field__Mul (fun _ => rfl) (fun _ => rfl) (fun _ _ _ hF => fmul_yes hF a b h h')
theorem fn___field_Field__Inv : FnIs Try.prog 51 Try.f51 := ⟨Try.func51, by kernel_rfl, by kernel_rfl, by kernel_rfl⟩
def C_finv : Ct := ⟨(.cons (.ptr 0 .nil 0) (.cons (nS 3) .nil)), [.cs 121 (evs 0 0 4 (.cons (.ptr 1 .nil 0) (evs 1 0 4 .nil))), .row 136 2], [], [], (.tup (.cons (nS 4) (.cons (.lit .i64 0) .nil)))⟩
theorem c_finv {base : Bool} (a : Nat) (h : a < pN base) (h' : a ≠ 0) : Ct.Valid Try.prog 51 C_finv ⟨[lbs (pN base), lbs (rtN base), mtL base, lbs (a), lbs (fpwN base a (ieN base))], []⟩ := ofField fn___field_Field__Inv (fun _ => rfl) (fun _ => rfl) (fun _ _ _ hF => finv_yes hF a h h')
theorem fn___field_Field__Check : FnIs Try.prog 71 Try.f71 := ⟨Try.func71, by kernel_rfl, by kernel_rfl, by kernel_rfl⟩
def C_fin : Ct := ⟨(.cons (.ptr 0 .nil 0) (.cons (nS 3) .nil)), [.cs 121 (evs 0 0 4 (.cons (.ptr 1 .nil 0) (evs 1 0 4 .nil))), .row 136 2], [], [], (.lit .i64 0)⟩
theorem c_fin {base : Bool} (a : Nat) (h : a < pN base) : Ct.Valid Try.prog 71 C_fin ⟨[lbs (pN base), lbs (rtN base), mtL base, lbs (a)], []⟩ := ofField fn___field_Field__Check (fun _ => rfl) (fun _ => rfl) (fun _ _ _ hF => check_in hF a h)
def C_fout : Ct := ⟨(.cons (.ptr 0 .nil 0) (.cons (nS 3) .nil)), [.cs 121 (evs 0 0 4 (.cons (.ptr 1 .nil 0) (evs 1 0 4 .nil))), .row 136 2], [], [], (.lit .i64 20)⟩
theorem c_fout {base : Bool} (a : Nat) (ha : a < RR) (h : ¬ a < pN base) : Ct.Valid Try.prog 71 C_fout ⟨[lbs (pN base), lbs (rtN base), mtL base, lbs (a)], []⟩ := ofField fn___field_Field__Check (fun _ => rfl) (fun _ => rfl) (fun _ _ _ hF => check_out hF a ha h)
theorem fn_field_Scalars : FnIs Try.prog 46 Try.f46 := ⟨Try.func46, by kernel_rfl, by kernel_rfl, by kernel_rfl⟩
def C_scalars : Ct := ⟨.nil, [], [], [.cs 121 (evs 0 0 4 (.cons (.ptr 1 .nil 0) (evs 1 0 4 .nil))), .row 136 2], (.ptr 0 .nil 0)⟩
theorem c_scalars : Ct.Valid Try.prog 46 C_scalars ⟨[lbs (pN false), lbs (rtN false), mtL false], []⟩ := ofMade fn_field_Scalars scalars_made
theorem fn__wardmoteref02_Field__Add : FnIs Try.prog 19 Try.f19 := ⟨Try.func19, by kernel_rfl, by kernel_rfl, by kernel_rfl⟩
def C_radd : Ct := ⟨(.cons (.agg (evs 0 0 4 (evs 1 0 4 .nil))) (.cons (nS 2) (.cons (nS 3) .nil))), [], [], [], (nS 4)⟩
theorem c_radd {base : Bool} (a b : Nat) (h : a < pN base) (h' : b < pN base) : Ct.Valid Try.prog 19 C_radd ⟨[lbs (pN base), lbs (cN base), lbs (a), lbs (b), lbs (fadN base a b)], []⟩ := Ct.ofPlain (vs := #[rfV base, num a, num b]) fn__wardmoteref02_Field__Add (fun _ => rfl) (fun _ => rfl) (fun w => rfadd a b h h' w)
theorem fn__wardmoteref02_Field__Sub : FnIs Try.prog 39 Try.f39 := ⟨Try.func39, by kernel_rfl, by kernel_rfl, by kernel_rfl⟩
def C_rsub : Ct := ⟨(.cons (.agg (evs 0 0 4 (evs 1 0 4 .nil))) (.cons (nS 2) (.cons (nS 3) .nil))), [], [], [], (nS 4)⟩
theorem c_rsub {base : Bool} (a b : Nat) (h : a < pN base) (h' : b < pN base) : Ct.Valid Try.prog 39 C_rsub ⟨[lbs (pN base), lbs (cN base), lbs (a), lbs (b), lbs (fsbN base a b)], []⟩ := Ct.ofPlain (vs := #[rfV base, num a, num b]) fn__wardmoteref02_Field__Sub (fun _ => rfl) (fun _ => rfl) (fun w => rfsub a b h h' w)
theorem fn__wardmoteref02_Field__Mul : FnIs Try.prog 21 Try.f21 := ⟨Try.func21, by kernel_rfl, by kernel_rfl, by kernel_rfl⟩
def C_rmul : Ct := ⟨(.cons (.agg (evs 0 0 4 (evs 1 0 4 .nil))) (.cons (nS 2) (.cons (nS 3) .nil))), [], [], [], (nS 4)⟩
theorem c_rmul {base : Bool} (a b : Nat) (h : a < RR) (h' : b < RR) : Ct.Valid Try.prog 21 C_rmul ⟨[lbs (pN base), lbs (cN base), lbs (a), lbs (b), lbs (fmlN base a b)], []⟩ := Ct.ofPlain (vs := #[rfV base, num a, num b]) fn__wardmoteref02_Field__Mul (fun _ => rfl) (fun _ => rfl) (fun w => rfmul a b h h' w)
theorem fn__wardmoteref02_Field__Inv : FnIs Try.prog 40 Try.f40 := ⟨Try.func40, by kernel_rfl, by kernel_rfl, by kernel_rfl⟩
def C_rinv : Ct := ⟨(.cons (.agg (evs 0 0 4 (evs 1 0 4 .nil))) (.cons (nS 2) .nil)), [], [], [], (nS 3)⟩
theorem c_rinv {base : Bool} (a : Nat) (h : a < RR) : Ct.Valid Try.prog 40 C_rinv ⟨[lbs (pN base), lbs (cN base), lbs (a), lbs (fpwN base a (ieN base))], []⟩ := Ct.ofPlain (vs := #[rfV base, num a]) fn__wardmoteref02_Field__Inv (fun _ => rfl) (fun _ => rfl) (fun w => rinv a h w)
theorem fn__wardmoteref02_Field__Has : FnIs Try.prog 63 Try.f63 := ⟨Try.func63, by kernel_rfl, by kernel_rfl, by kernel_rfl⟩
def C_rin : Ct := ⟨(.cons (.agg (evs 0 0 4 (evs 1 0 4 .nil))) (.cons (nS 2) .nil)), [], [], [], (.bo true)⟩
theorem c_rin {base : Bool} (a : Nat) (h : a < pN base) : Ct.Valid Try.prog 63 C_rin ⟨[lbs (pN base), lbs (cN base), lbs (a)], []⟩ := Ct.ofPlain (vs := #[rfV base, num a]) fn__wardmoteref02_Field__Has (fun _ => rfl) (fun _ => rfl) (fun w => rhas_yes a h w)
def C_rout : Ct := ⟨(.cons (.agg (evs 0 0 4 (evs 1 0 4 .nil))) (.cons (nS 2) .nil)), [], [], [], (.bo false)⟩
theorem c_rout {base : Bool} (a : Nat) (ha : a < RR) (h : ¬ a < pN base) : Ct.Valid Try.prog 63 C_rout ⟨[lbs (pN base), lbs (cN base), lbs (a)], []⟩ := Ct.ofPlain (vs := #[rfV base, num a]) fn__wardmoteref02_Field__Has (fun _ => rfl) (fun _ => rfl) (fun w => rhas_no a ha h w)
theorem fn_wardmoteref02_Scalars : FnIs Try.prog 18 Try.f18 := ⟨Try.func18, by kernel_rfl, by kernel_rfl, by kernel_rfl⟩
def C_rscalars : Ct := ⟨.nil, [], [], [], (.agg (evs 0 0 4 (evs 1 0 4 .nil)))⟩
theorem c_rscalars : Ct.Valid Try.prog 18 C_rscalars ⟨[lbs (pN false), lbs (cN false)], []⟩ := Ct.ofPlain (vs := #[]) fn_wardmoteref02_Scalars (fun _ => rfl) (fun _ => rfl) (fun w => rscalars_any w)
theorem fn_wardmoteref02_Zero : FnIs Try.prog 54 Try.f54 := ⟨Try.func54, by kernel_rfl, by kernel_rfl, by kernel_rfl⟩
def C_zero_t : Ct := ⟨(.cons (nS 0) .nil), [], [], [], (.bo true)⟩
def C_zero_f : Ct := ⟨(.cons (nS 0) .nil), [], [], [], (.bo false)⟩
theorem c_zero_t (a : Nat) (h : a = 0) : Ct.Valid Try.prog 54 C_zero_t ⟨[lbs a], []⟩ := Ct.ofPlain (vs := #[num a]) fn_wardmoteref02_Zero (fun _ => rfl) (fun _ => rfl) (fun w => zero_any a (by rw [h]; unfold RR; decide) true (decide_eq_true h) w)
theorem c_zero_f (a : Nat) (h : a < RR) (h' : a ≠ 0) : Ct.Valid Try.prog 54 C_zero_f ⟨[lbs a], []⟩ := Ct.ofPlain (vs := #[num a]) fn_wardmoteref02_Zero (fun _ => rfl) (fun _ => rfl) (fun w => zero_any a h false (decide_eq_false h') w)
end Go.Proofs.Ytbmokmkaebfneaa
