/- The fields' contracts, on paper. Numbers among a struct's cells. Lists of numbers and whole numbers, on paper. A law's arguments: lists of numbers, of whole numbers; contracts that read lists. -/
import Derived.Test.YtbmokmkaebfneaaRY2
import Derived.Test.YtbmokmkaebfneaaFE
import Derived.Test.YtbmokmkaebfneaaRE
import Derived.Test.YtbmokmkaebfneaaLF0
import Derived.Test.YtbmokmkaebfneaaLF2
import Derived.Test.YtbmokmkaebfneaaRY3
section
namespace Go.Proofs.Ytbmokmkaebfneaa
set_option linter.unusedVariables false
set_option linter.unusedSimpArgs false
open Go.RowKit
open RX
noncomputable def lbs (n : Nat) : List Value := [.int .u64 (lb n 0), .int .u64 (lb n 1), .int .u64 (lb n 2), .int .u64 (lb n 3)]
noncomputable def mtL (b : Bool) : List Value := [.int .u64 (lb (pN b) 0), .int .u64 (lb (pN b) 1), .int .u64 (lb (pN b) 2), .int .u64 (lb (pN b) 3), .int .u64 (lb (r2N (pN b)) 0), .int .u64 (lb (r2N (pN b)) 1), .int .u64 (lb (r2N (pN b)) 2), .int .u64 (lb (r2N (pN b)) 3), .int .u64 (lb (ivN (pN b)) 0)]
/-- A number, a list's head. -/
def nS (i : Nat) : SV := .agg (.cons (.ev i 0) (.cons (.ev i 1) (.cons (.ev i 2) (.cons (.ev i 3) .nil))))
theorem one_lbs (n : Nat) : ∀ j, j < 4 → ((lbs n).getD j undef).oneCell' = true := one_four _ _ _ _ _
def fldPre : List Bk := [.cs 121 (evs 0 0 4 (.cons (.ptr 1 .nil 0) (evs 1 0 4 .nil))), .row 136 2]
theorem one_mtL (b : Bool) : ∀ j, j < 9 → ((mtL b).getD j undef).oneCell' = true := fun j hj => one_all (l := mtL b) (by intro v hv; simp only [mtL, List.mem_cons, List.not_mem_nil, or_false] at hv; rcases hv with rfl | rfl | rfl | rfl | rfl | rfl | rfl | rfl | rfl <;> rfl) j hj
theorem ofField {f : FuncId} {fn : Func} (F : FnIs Try.prog f fn) {base : Bool} {args res : SV} {E : List (List Value)} {vs : List Value} {v : Value}
    (ha : ∀ ρ, dl ⟨lbs (pN base) :: lbs (rtN base) :: mtL base :: E, []⟩ ρ args = .pointer (some ⟨(ρ 0).1, 0, none⟩) :: vs) (hr : ∀ ρ, den ⟨lbs (pN base) :: lbs (rtN base) :: mtL base :: E, []⟩ ρ res = v)
    (h : ∀ w f' g, FieldB w f' g base → Calls Try.prog f (Value.pointer (some ⟨f', 0, none⟩) :: vs).toArray w fun e w' => e = .returned v ∧ Below w.heap.size w w') :
    Ct.Valid Try.prog f ⟨args, fldPre, [], [], res⟩ ⟨lbs (pN base) :: lbs (rtN base) :: mtL base :: E, []⟩ := by
  intro ρ w hpre
  have h0 := hpre.2 0 _ rfl
  have h1 := hpre.2 1 _ rfl
  have hF : FieldB w (ρ 0).1 (ρ 1).1 base := by
    refine ⟨?_, h1⟩
    have e : Bk.den ⟨lbs (pN base) :: lbs (rtN base) :: mtL base :: E, []⟩ ρ (.cs 121 (.cons (.ev 0 0) (.cons (.ev 0 1) (.cons (.ev 0 2) (.cons (.ev 0 3) (.cons (.ptr 1 .nil 0) (.cons (.ev 1 0) (.cons (.ev 1 1) (.cons (.ev 1 2) (.cons (.ev 1 3) .nil)))))))))) =
      .cells #[.int .u64 (lb (pN base) 0), .int .u64 (lb (pN base) 1), .int .u64 (lb (pN base) 2), .int .u64 (lb (pN base) 3), .pointer (some ⟨(ρ 1).1, 0, none⟩), .int .u64 (lb (rtN base) 0), .int .u64 (lb (rtN base) 1), .int .u64 (lb (rtN base) 2), .int .u64 (lb (rtN base) 3)] 121 (0, 0) := rfl
    exact h0.trans (congrArg some e)
  rw [callFunc_enter F.at_ F.name F.body]
  show Calls Try.prog f (dl _ ρ args).toArray w _
  rw [ha ρ]
  refine (h w _ _ hF).mono ?_
  rintro e w' ⟨rfl, hb⟩
  exact ⟨v, rfl, ρ, fun _ _ => rfl, fun j hj => by simp at hj, fun i j hi => by simp at hi, (hr ρ).symm, fun i bk hb => by simp at hb, fun j bk hb => by simp at hb, Fr.of_below hb _⟩
/-- A field that is made. -/
theorem ofMade {f : FuncId} {fn : Func} (F : FnIs Try.prog f fn) {base : Bool}
    (h : ∀ w, Calls Try.prog f #[] w fun e w' => ∃ f' g, e = .returned (.pointer (some ⟨f', 0, none⟩)) ∧ FieldB w' f' g base ∧ Below w.heap.size w w' ∧ w.heap.size ≤ f' ∧ w.heap.size ≤ g ∧ f' ≠ g) :
    Ct.Valid Try.prog f ⟨.nil, [], [], fldPre, .ptr 0 .nil 0⟩ ⟨[lbs (pN base), lbs (rtN base), mtL base], []⟩ := by
  intro ρ w _
  rw [callFunc_enter F.at_ F.name F.body]
  refine (h w).mono ?_
  rintro e w' ⟨f', g, rfl, ⟨h0, h1⟩, hb, hf, hg, hne⟩
  refine ⟨_, rfl, fun i => if i = 0 then (f', 0) else (g, 0), fun i hi => by simp at hi, ?_, ?_, rfl, fun i bk hb => by simp at hb, ?_, Fr.of_below hb _⟩
  · intro j hj
    match j, hj with
    | 0, _ => exact .inl hf
    | 1, _ => exact .inl hg
  · intro i j hi hj he
    match i, hi, j, hj with
    | 0, _, 0, _ => rfl
    | 1, _, 1, _ => rfl
    | 0, _, 1, _ => exact absurd he hne
    | 1, _, 0, _ => exact absurd he.symm hne
  · intro j bk hb
    match j with
    | 0 => cases hb; exact h0
    | 1 => cases hb; exact h1
    | _ + 2 => simp [fldPre] at hb
theorem new_scalars2 (w : World) : Calls Try.prog 68 #[.agg #[.int .u64 13822214165235122497, .int .u64 13451932020343611451, .int .u64 18446744073709551614, .int .u64 18446744073709551615]] w fun e w' => ∃ g, e = .returned (.tuple #[.pointer (some ⟨g, 0, none⟩), .int .i64 0]) ∧ MontB w' g (pN false) (r2N (pN false)) (ivN (pN false)) ∧ Below w.heap.size w w' ∧ w.heap.size ≤ g := by
  have h := newmont_new (pN false) (pN_lt _) (pN_odd _) (by have := pN_one false; omega) w
  unfold num at h
  rw [(lb_p false).1, (lb_p false).2.1, (lb_p false).2.2.1, (lb_p false).2.2.2] at h
  exact h
set_option maxHeartbeats 2000000 in
theorem scalars_made (w : World) : Calls Try.prog 46 #[] w fun e w' => ∃ f' g, e = .returned (.pointer (some ⟨f', 0, none⟩)) ∧ FieldB w' f' g false ∧ Below w.heap.size w w' ∧ w.heap.size ≤ f' ∧ w.heap.size ≤ g ∧ f' ≠ g := by
  go_enter Try.func46, Try.ntmps46
  go_wp2_with fail; (with_reducible refine (new_scalars2 _).mono ?_); rintro e w1 ⟨g, rfl, hM, h1, hg⟩; have km := (Blk.newAt (n := w.heap.size) _ _ _ (by first | rfl | simp)).after h1; have bw := below_call h1 (w := w) (by go_grown); obtain ⟨km_c, km_f, km_l, km_m, _⟩ := km.knows
  go_wp2
  go_ret
  refine ⟨_, g, rfl, ⟨?_, Blk.alloc hM _⟩, by go_grown, ?_, (by have := hg; simp at this; omega), ?_⟩
  · rw [(lb_p false).1, (lb_p false).2.1, (lb_p false).2.2.1, (lb_p false).2.2.2, (lb_rt false).1, (lb_rt false).2.1, (lb_rt false).2.2.1, (lb_rt false).2.2.2]
    exact Blk.new _ _ _
  · have := h1.size; simp at this; omega
  · exact fun e => Nat.lt_irrefl _ (e ▸ hM.lt)
/-! What is owed: numbers. -/
theorem ob_lb (n j v : Nat) (h : lbN n j = v) : ∀ (_ : Nat → Nat × Nat), [Value.int .u64 (v : Int)] = [Value.int .u64 (lb n j)] := fun _ => by rw [lb_def, h]
theorem num_lit (n a b c d : Nat) (h : lbN n 0 = a ∧ lbN n 1 = b ∧ lbN n 2 = c ∧ lbN n 3 = d) : Value.agg #[.int .u64 (a : Int), .int .u64 (b : Int), .int .u64 (c : Int), .int .u64 (d : Int)] = num n := by
  unfold num; rw [lb_def, lb_def, lb_def, lb_def, h.1, h.2.1, h.2.2.1, h.2.2.2]
theorem ob_bl (n j v : Nat) (h : lbN n j = v) : ∀ (_ : Nat → Nat × Nat), [Value.int .u64 (lb n j)] = [Value.int .u64 (v : Int)] := fun _ => by rw [lb_def, h]
theorem ob_nn {a b : Nat} (j : Nat) (h : a = b) : ∀ (_ : Nat → Nat × Nat), [Value.int .u64 (lb a j)] = [Value.int .u64 (lb b j)] := fun _ => by rw [h]
theorem guard_num (op : BinOp) (x y : Operand) (m n : Nat) (w : World) : (eqGuard op 24 x y (num m) (num n)).run Try.prog w = .ok () w := run_eqGuard_agg w op _ x y _ _ (by kernel_rfl)
theorem bin_num {m n : Nat} {r : Bool} (h : ∀ w, (Op.equalIn 10000 24 (num m) (num n)).run Try.prog w = .ok r w) : BinIs Try.prog .eql 24 (num m) (num n) (.bool r) ∧ BinIs Try.prog .neq 24 (num m) (num n) (.bool (!r)) := by
  constructor
  · intro _ w x y
    rw [Sem.run_bind, guard_num]
    rw [Result.andThen_ok, run_eql_struct, h]; rfl
  · intro _ w x y
    rw [Sem.run_bind, guard_num]
    rw [Result.andThen_ok, run_neq_struct, h]; rfl
theorem ob_numeql_t (a b : Nat) (h : a = b) : BinIs Try.prog .eql 24 (num a) (num b) (.bool true) := (bin_num (m := a) (n := b) (r := true) fun w => by rw [h]; exact eqin_same b w).1
theorem ob_numneq_t (a b : Nat) (h : a = b) : BinIs Try.prog .neq 24 (num a) (num b) (.bool false) := (bin_num (m := a) (n := b) (r := true) fun w => by rw [h]; exact eqin_same b w).2
theorem ob_numeql_f (a b : Nat) (h : a ≠ b) (ha : a < RR) (hb : b < RR) : BinIs Try.prog .eql 24 (num a) (num b) (.bool false) := (bin_num (m := a) (n := b) (r := false) fun w => eqin_other ha hb h w).1
theorem ob_numneq_f (a b : Nat) (h : a ≠ b) (ha : a < RR) (hb : b < RR) : BinIs Try.prog .neq 24 (num a) (num b) (.bool true) := (bin_num (m := a) (n := b) (r := false) fun w => eqin_other ha hb h w).2

theorem fn___field_Field__Add : FnIs Try.prog 47 Try.f47 := ⟨Try.func47, by kernel_rfl, by kernel_rfl, by kernel_rfl⟩
def C_fadd : Ct := ⟨(.cons (.ptr 0 .nil 0) (.cons (nS 3) (.cons (nS 4) .nil))), [.cs 121 (evs 0 0 4 (.cons (.ptr 1 .nil 0) (evs 1 0 4 .nil))), .row 136 2], [], [], (.tup (.cons (nS 5) (.cons (.lit .i64 0) .nil)))⟩
theorem c_fadd {base : Bool} (a b : Nat) (h : a < pN base) (h' : b < pN base) : Ct.Valid Try.prog 47 C_fadd ⟨[lbs (pN base), lbs (rtN base), mtL base, lbs (a), lbs (b), lbs (fadN base a b)], []⟩ := ofField fn___field_Field__Add (fun _ => rfl) (fun _ => rfl) (fun _ _ _ hF => fadd_yes hF a b h h')
theorem fn___field_Field__Sub : FnIs Try.prog 50 Try.f50 := ⟨Try.func50, by kernel_rfl, by kernel_rfl, by kernel_rfl⟩
def C_fsub : Ct := ⟨(.cons (.ptr 0 .nil 0) (.cons (nS 3) (.cons (nS 4) .nil))), [.cs 121 (evs 0 0 4 (.cons (.ptr 1 .nil 0) (evs 1 0 4 .nil))), .row 136 2], [], [], (.tup (.cons (nS 5) (.cons (.lit .i64 0) .nil)))⟩
theorem c_fsub {base : Bool} (a b : Nat) (h : a < pN base) (h' : b < pN base) : Ct.Valid Try.prog 50 C_fsub ⟨[lbs (pN base), lbs (rtN base), mtL base, lbs (a), lbs (b), lbs (fsbN base a b)], []⟩ := ofField fn___field_Field__Sub (fun _ => rfl) (fun _ => rfl) (fun _ _ _ hF => fsub_yes hF a b h h')
theorem fn___field_Field__Mul : FnIs Try.prog 52 Try.f52 := ⟨Try.func52, by kernel_rfl, by kernel_rfl, by kernel_rfl⟩
def C_fmul : Ct := ⟨(.cons (.ptr 0 .nil 0) (.cons (nS 3) (.cons (nS 4) .nil))), [.cs 121 (evs 0 0 4 (.cons (.ptr 1 .nil 0) (evs 1 0 4 .nil))), .row 136 2], [], [], (.tup (.cons (nS 5) (.cons (.lit .i64 0) .nil)))⟩
theorem c_fmul {base : Bool} (a b : Nat) (h : a < pN base) (h' : b < pN base) : Ct.Valid Try.prog 52 C_fmul ⟨[lbs (pN base), lbs (rtN base), mtL base, lbs (a), lbs (b), lbs (fmlN base a b)], []⟩ := ofField fn___field_Field__Mul (fun _ => rfl) (fun _ => rfl) (fun _ _ _ hF => fmul_yes hF a b h h')
theorem fn___field_Field__Inv : FnIs Try.prog 51 Try.f51 := ⟨Try.func51, by kernel_rfl, by kernel_rfl, by kernel_rfl⟩
def C_finv : Ct := ⟨(.cons (.ptr 0 .nil 0) (.cons (nS 3) .nil)), [.cs 121 (evs 0 0 4 (.cons (.ptr 1 .nil 0) (evs 1 0 4 .nil))), .row 136 2], [], [], (.tup (.cons (nS 4) (.cons (.lit .i64 0) .nil)))⟩
theorem c_finv {base : Bool} (a : Nat) (h : a < pN base) (h' : a ≠ 0) : Ct.Valid Try.prog 51 C_finv ⟨[lbs (pN base), lbs (rtN base), mtL base, lbs (a), lbs (fpwN base a (ieN base))], []⟩ := ofField fn___field_Field__Inv (fun _ => rfl) (fun _ => rfl) (fun _ _ _ hF => finv_yes hF a h h')
theorem fn___field_Field__Check : FnIs Try.prog 71 Try.f71 := ⟨Try.func71, by kernel_rfl, by kernel_rfl, by kernel_rfl⟩
def C_fin : Ct := ⟨(.cons (.ptr 0 .nil 0) (.cons (nS 3) .nil)), [.cs 121 (evs 0 0 4 (.cons (.ptr 1 .nil 0) (evs 1 0 4 .nil))), .row 136 2], [], [], (.lit .i64 0)⟩
theorem c_fin {base : Bool} (a : Nat) (h : a < pN base) : Ct.Valid Try.prog 71 C_fin ⟨[lbs (pN base), lbs (rtN base), mtL base, lbs (a)], []⟩ := ofField fn___field_Field__Check (fun _ => rfl) (fun _ => rfl) (fun _ _ _ hF => check_in hF a h)
def C_fout : Ct := ⟨(.cons (.ptr 0 .nil 0) (.cons (nS 3) .nil)), [.cs 121 (evs 0 0 4 (.cons (.ptr 1 .nil 0) (evs 1 0 4 .nil))), .row 136 2], [], [], (.lit .i64 20)⟩
theorem c_fout {base : Bool} (a : Nat) (ha : a < RR) (h : ¬ a < pN base) : Ct.Valid Try.prog 71 C_fout ⟨[lbs (pN base), lbs (rtN base), mtL base, lbs (a)], []⟩ := ofField fn___field_Field__Check (fun _ => rfl) (fun _ => rfl) (fun _ _ _ hF => check_out hF a ha h)
theorem fn_field_Scalars : FnIs Try.prog 46 Try.f46 := ⟨Try.func46, by kernel_rfl, by kernel_rfl, by kernel_rfl⟩
def C_scalars : Ct := ⟨.nil, [], [], [.cs 121 (evs 0 0 4 (.cons (.ptr 1 .nil 0) (evs 1 0 4 .nil))), .row 136 2], (.ptr 0 .nil 0)⟩
theorem c_scalars : Ct.Valid Try.prog 46 C_scalars ⟨[lbs (pN false), lbs (rtN false), mtL false], []⟩ := ofMade fn_field_Scalars scalars_made
theorem fn__wardmoteref02_Field__Add : FnIs Try.prog 19 Try.f19 := ⟨Try.func19, by kernel_rfl, by kernel_rfl, by kernel_rfl⟩
def C_radd : Ct := ⟨(.cons (.agg (evs 0 0 4 (evs 1 0 4 .nil))) (.cons (nS 2) (.cons (nS 3) .nil))), [], [], [], (nS 4)⟩
theorem c_radd {base : Bool} (a b : Nat) (h : a < pN base) (h' : b < pN base) : Ct.Valid Try.prog 19 C_radd ⟨[lbs (pN base), lbs (cN base), lbs (a), lbs (b), lbs (fadN base a b)], []⟩ := Ct.ofPlain (vs := #[rfV base, num a, num b]) fn__wardmoteref02_Field__Add (fun _ => rfl) (fun _ => rfl) (fun w => rfadd a b h h' w)
theorem fn__wardmoteref02_Field__Sub : FnIs Try.prog 39 Try.f39 := ⟨Try.func39, by kernel_rfl, by kernel_rfl, by kernel_rfl⟩
def C_rsub : Ct := ⟨(.cons (.agg (evs 0 0 4 (evs 1 0 4 .nil))) (.cons (nS 2) (.cons (nS 3) .nil))), [], [], [], (nS 4)⟩
theorem c_rsub {base : Bool} (a b : Nat) (h : a < pN base) (h' : b < pN base) : Ct.Valid Try.prog 39 C_rsub ⟨[lbs (pN base), lbs (cN base), lbs (a), lbs (b), lbs (fsbN base a b)], []⟩ := Ct.ofPlain (vs := #[rfV base, num a, num b]) fn__wardmoteref02_Field__Sub (fun _ => rfl) (fun _ => rfl) (fun w => rfsub a b h h' w)
theorem fn__wardmoteref02_Field__Mul : FnIs Try.prog 21 Try.f21 := ⟨Try.func21, by kernel_rfl, by kernel_rfl, by kernel_rfl⟩
def C_rmul : Ct := ⟨(.cons (.agg (evs 0 0 4 (evs 1 0 4 .nil))) (.cons (nS 2) (.cons (nS 3) .nil))), [], [], [], (nS 4)⟩
theorem c_rmul {base : Bool} (a b : Nat) (h : a < RR) (h' : b < RR) : Ct.Valid Try.prog 21 C_rmul ⟨[lbs (pN base), lbs (cN base), lbs (a), lbs (b), lbs (fmlN base a b)], []⟩ := Ct.ofPlain (vs := #[rfV base, num a, num b]) fn__wardmoteref02_Field__Mul (fun _ => rfl) (fun _ => rfl) (fun w => rfmul a b h h' w)
theorem fn__wardmoteref02_Field__Inv : FnIs Try.prog 40 Try.f40 := ⟨Try.func40, by kernel_rfl, by kernel_rfl, by kernel_rfl⟩
def C_rinv : Ct := ⟨(.cons (.agg (evs 0 0 4 (evs 1 0 4 .nil))) (.cons (nS 2) .nil)), [], [], [], (nS 3)⟩
theorem c_rinv {base : Bool} (a : Nat) (h : a < RR) : Ct.Valid Try.prog 40 C_rinv ⟨[lbs (pN base), lbs (cN base), lbs (a), lbs (fpwN base a (ieN base))], []⟩ := Ct.ofPlain (vs := #[rfV base, num a]) fn__wardmoteref02_Field__Inv (fun _ => rfl) (fun _ => rfl) (fun w => rinv a h w)
theorem fn__wardmoteref02_Field__Has : FnIs Try.prog 63 Try.f63 := ⟨Try.func63, by kernel_rfl, by kernel_rfl, by kernel_rfl⟩
def C_rin : Ct := ⟨(.cons (.agg (evs 0 0 4 (evs 1 0 4 .nil))) (.cons (nS 2) .nil)), [], [], [], (.bo true)⟩
theorem c_rin {base : Bool} (a : Nat) (h : a < pN base) : Ct.Valid Try.prog 63 C_rin ⟨[lbs (pN base), lbs (cN base), lbs (a)], []⟩ := Ct.ofPlain (vs := #[rfV base, num a]) fn__wardmoteref02_Field__Has (fun _ => rfl) (fun _ => rfl) (fun w => rhas_yes a h w)
def C_rout : Ct := ⟨(.cons (.agg (evs 0 0 4 (evs 1 0 4 .nil))) (.cons (nS 2) .nil)), [], [], [], (.bo false)⟩
theorem c_rout {base : Bool} (a : Nat) (ha : a < RR) (h : ¬ a < pN base) : Ct.Valid Try.prog 63 C_rout ⟨[lbs (pN base), lbs (cN base), lbs (a)], []⟩ := Ct.ofPlain (vs := #[rfV base, num a]) fn__wardmoteref02_Field__Has (fun _ => rfl) (fun _ => rfl) (fun w => rhas_no a ha h w)
theorem fn_wardmoteref02_Scalars : FnIs Try.prog 18 Try.f18 := ⟨Try.func18, by kernel_rfl, by kernel_rfl, by kernel_rfl⟩
def C_rscalars : Ct := ⟨.nil, [], [], [], (.agg (evs 0 0 4 (evs 1 0 4 .nil)))⟩
theorem c_rscalars : Ct.Valid Try.prog 18 C_rscalars ⟨[lbs (pN false), lbs (cN false)], []⟩ := Ct.ofPlain (vs := #[]) fn_wardmoteref02_Scalars (fun _ => rfl) (fun _ => rfl) (fun w => rscalars_any w)
theorem fn_wardmoteref02_Zero : FnIs Try.prog 54 Try.f54 := ⟨Try.func54, by kernel_rfl, by kernel_rfl, by kernel_rfl⟩
def C_zero_t : Ct := ⟨(.cons (nS 0) .nil), [], [], [], (.bo true)⟩
def C_zero_f : Ct := ⟨(.cons (nS 0) .nil), [], [], [], (.bo false)⟩
theorem c_zero_t (a : Nat) (h : a = 0) : Ct.Valid Try.prog 54 C_zero_t ⟨[lbs a], []⟩ := Ct.ofPlain (vs := #[num a]) fn_wardmoteref02_Zero (fun _ => rfl) (fun _ => rfl) (fun w => zero_any a (by rw [h]; unfold RR; decide) true (decide_eq_true h) w)
theorem c_zero_f (a : Nat) (h : a < RR) (h' : a ≠ 0) : Ct.Valid Try.prog 54 C_zero_f ⟨[lbs a], []⟩ := Ct.ofPlain (vs := #[num a]) fn_wardmoteref02_Zero (fun _ => rfl) (fun _ => rfl) (fun w => zero_any a h false (decide_eq_false h') w)
end Go.Proofs.Ytbmokmkaebfneaa
end
section
namespace Go.Proofs.Ytbmokmkaebfneaa
set_option linter.unusedVariables false
set_option linter.unusedSimpArgs false
open Go.ChangeShapes Go.WideShapes Go.ChangeAt Go.RowKit
open RX
theorem own_knob : ownKnob Try.prog.godebug = none := by kernel_rfl
theorem word_of_wf {x : Int} (h : (Lit.int .u64 x).wf = true) : 0 ≤ x ∧ x < 18446744073709551616 := by
  simp [Lit.wf, IntKind.min, IntKind.max, IntKind.signed, IntKind.bits] at h
  exact ⟨by omega, by omega⟩
theorem num_chunk {ks : List LK} {xs : List Value} (h : fitsB (.i .u64 :: .i .u64 :: .i .u64 :: .i .u64 :: ks) xs = true) (hw : xs.all wfV = true) : ∃ (n : Nat) (ys : List Value), n < RR ∧ xs = lbs n ++ ys ∧ fitsB ks ys = true ∧ ys.all wfV = true := by
  obtain ⟨a, y1, rfl, w0, f1, w1⟩ := int_chunk h hw
  obtain ⟨b, y2, rfl, w1', f2, w2⟩ := int_chunk f1 w1
  obtain ⟨c, y3, rfl, w2', f3, w3⟩ := int_chunk f2 w2
  obtain ⟨d, y4, rfl, w3', f4, w4⟩ := int_chunk f3 w3
  obtain ⟨n, hn, rfl, rfl, rfl, rfl⟩ := of_words a b c d (word_of_wf w0) (word_of_wf w1') (word_of_wf w2') (word_of_wf w3')
  exact ⟨n, y4, hn, rfl, f4, w4⟩
theorem plain_numV : PlainIs Try.prog 24 [.i .u64, .i .u64, .i .u64, .i .u64] := ⟨by kernel_rfl, by kernel_rfl, by kernel_rfl⟩
set_option maxRecDepth 10000 in
theorem open_numV {H : Type} {enc : TypeId × Value → H} {W : World} {base : Nat} {spare : Nat → Bool} {held : Bool} {r : Reach} {b0 : Nat} {v : Value} {d : DataW H} {p : List MemPlace} (hv : Value.okWide Try.prog W r b0 24 v) (h : DataW.Trod enc Try.prog W base spare held 24 v d p) :
    ∃ n : Nat, n < RR ∧ v = num n ∧ p = [] ∧ ∀ (W' : World) (base' : Nat) (spare' : Nat → Bool) (held' : Bool), DataW.Trod enc Try.prog W' base' spare' held' 24 (num n) d [] := by
  obtain ⟨y0, f0, w0, rfl, rfl, hg⟩ := open_plain plain_numV hv h
  obtain ⟨n, y1, l, rfl, f1, w1⟩ := num_chunk f0 w0
  obtain rfl := nil_chunk f1
  exact ⟨n, l, rfl, rfl, hg⟩
end Go.Proofs.Ytbmokmkaebfneaa
end
section
namespace Go.Proofs.Ytbmokmkaebfneaa
open Go.RowKit
open RX
set_option linter.unusedVariables false
theorem lbN_small (n j : Nat) (h : n < 18446744073709551616) (h0 : 0 < j) : lbN n j = 0 := by
  cases j with
  | zero => omega
  | succ j => unfold lbN; rw [Nat.div_eq_of_lt h, lbN_zero]
theorem num_small (n : Nat) (h : n < 18446744073709551616) : Value.agg #[.int .u64 (lb n 0), .int .u64 0, .int .u64 0, .int .u64 0] = num n := by
  unfold num; rw [lb_def n 1, lb_def n 2, lb_def n 3, lbN_small n 1 h (by decide), lbN_small n 2 h (by decide), lbN_small n 3 h (by decide)]; rfl
theorem lbs_num {v : List Value} {n : Nat} (h : Value.agg v.toArray = num n) : v = lbs n := by
  unfold num at h
  injection h with h
  have h2 := congrArg Array.toList h
  simpa [lbs] using h2
theorem row_num1 {a b c d : Value} {n : Nat} (h : Value.agg #[a, b, c, d] = num n) : [n].flatMap lbs = [a, b, c, d] := by
  have h2 := lbs_num (v := [a, b, c, d]) h
  rw [List.flatMap_cons, List.flatMap_nil, List.append_nil, h2]
theorem row_cons {a b c d : Value} {n : Nat} {l : List Nat} {r : List Value} (h : Value.agg #[a, b, c, d] = num n) (hr : l.flatMap lbs = r) : (n :: l).flatMap lbs = a :: b :: c :: d :: r := by
  rw [List.flatMap_cons, ← lbs_num (v := [a, b, c, d]) h, hr]; rfl
theorem ob_nl {a n : Nat} (j v : Nat) (h : a = n) (hv : lbN n j = v) : ∀ (_ : Nat → Nat × Nat), [Value.int .u64 (lb a j)] = [Value.int .u64 (v : Int)] := fun _ => by rw [h, lb_def, hv]
theorem ob_ln {a n : Nat} (j v : Nat) (h : a = n) (hv : lbN n j = v) : ∀ (_ : Nat → Nat × Nat), [Value.int .u64 (v : Int)] = [Value.int .u64 (lb a j)] := fun _ => by rw [h, lb_def, hv]
theorem lbs_len (n : Nat) : (lbs n).length = 4 := rfl
theorem ones_lbs (n : Nat) : ∀ u ∈ lbs n, u.oneCell' = true := by
  intro u hu
  simp only [lbs, List.mem_cons, List.not_mem_nil, or_false] at hu
  rcases hu with rfl | rfl | rfl | rfl <;> rfl
/-- A whole number's cell. -/
def cI (n : Int) : List Value := [.int .i64 n]
theorem cI_len (n : Int) : (cI n).length = 1 := rfl
theorem ones_cI (n : Int) : ∀ u ∈ cI n, u.oneCell' = true := by
  intro u hu
  simp only [cI, List.mem_cons, List.not_mem_nil, or_false] at hu
  subst hu; rfl
def I64 (n : Int) : Prop := -9223372036854775808 ≤ n ∧ n < 9223372036854775808
theorem I64_zero : I64 0 := ⟨by decide, by decide⟩
abbrev NumSl := Sl Nat lbs 4 (fun x => x < RR)
abbrev IntSl := Sl Int cI 1 (fun x => I64 x)
theorem ob_cv_int {x : Int} (h : 0 ≤ x) (h' : x < 9223372036854775808) {s d : TypeId} {a v : SV} {V : Env} {P : Program} (hs : P.underlying s = some (.int .i64)) (hd : P.underlying d = some (.int .u64)) (ha : ∀ ρ, den V ρ a = .int .i64 x) (hv : ∀ ρ, den V ρ v = .int .u64 (lb x.toNat 0)) : (Obl.cv s d a v).holds P V := fun ρ w => by
  rw [ha, hv, lb_def]
  have e : ((lbN x.toNat 0 : Nat) : Int) = x := by
    unfold lbN; rw [Nat.mod_eq_of_lt (by omega)]; exact Int.toNat_of_nonneg h
  rw [e]
  unfold convert
  simp only [Sem.run_bind, run_underlying hs, run_underlying hd, Result.andThen]
  unfold Conv.intToInt
  simp [IntKind.wrap, IntKind.bits, IntKind.signed]
  omega
theorem ob_cv_nat {n : Nat} (h : n < 18446744073709551616) {s d : TypeId} {a v : SV} {V : Env} {P : Program} (hs : P.underlying s = some (.int .i64)) (hd : P.underlying d = some (.int .u64)) (ha : ∀ ρ, den V ρ a = .int .i64 (n : Int)) (hv : ∀ ρ, den V ρ v = .int .u64 (lb n 0)) : (Obl.cv s d a v).holds P V := fun ρ w => by
  rw [ha, hv, lb_def]
  have e : lbN n 0 = n := by unfold lbN; exact Nat.mod_eq_of_lt h
  rw [e]
  unfold convert
  simp only [Sem.run_bind, run_underlying hs, run_underlying hd, Result.andThen]
  unfold Conv.intToInt
  simp [IntKind.wrap, IntKind.bits, IntKind.signed]
  omega
/-- The first place of which something is so, if there is one. -/
theorem first_ex (Q : Nat → Prop) : ∀ n, (∀ k, k < n → ¬ Q k) ∨ ∃ v, v < n ∧ Q v ∧ ∀ k, k < v → ¬ Q k
  | 0 => .inl fun k hk => by omega
  | n + 1 => by
    rcases first_ex Q n with h | ⟨v, h1, h2, h3⟩
    · rcases Classical.em (Q n) with hq | hq
      · exact .inr ⟨n, by omega, hq, h⟩
      · refine .inl fun k hk => ?_
        rcases Nat.lt_succ_iff_lt_or_eq.1 hk with hk | rfl
        · exact h k hk
        · exact hq
    · exact .inr ⟨v, by omega, h2, h3⟩
theorem first_not (P : Nat → Prop) (n : Nat) : (∀ k, k < n → P k) ∨ ∃ v, v < n ∧ ¬ P v ∧ ∀ k, k < v → P k := by
  rcases first_ex (fun k => ¬ P k) n with h | ⟨v, h1, h2, h3⟩
  · exact .inl fun k hk => Classical.not_not.1 (h k hk)
  · exact .inr ⟨v, h1, h2, fun k hk => Classical.not_not.1 (h3 k hk)⟩
/-- The first place below n where P is not so; n: it is so at all. -/
noncomputable def firstOf (P : Nat → Prop) (n : Nat) : Nat := open Classical in if h : ∃ v, v < n ∧ ¬ P v ∧ ∀ k, k < v → P k then Classical.choose h else n
theorem firstOf_eq {P : Nat → Prop} {n v : Nat} (h1 : v < n) (h2 : ¬ P v) (h3 : ∀ k, k < v → P k) : firstOf P n = v := by
  have h : ∃ v, v < n ∧ ¬ P v ∧ ∀ k, k < v → P k := ⟨v, h1, h2, h3⟩
  unfold firstOf; rw [dif_pos h]
  obtain ⟨g1, g2, g3⟩ := Classical.choose_spec h
  rcases Nat.lt_trichotomy (Classical.choose h) v with hl | he | hg
  · exact absurd (h3 _ hl) g2
  · exact he
  · exact absurd (g3 _ hg) h2
theorem firstOf_all {P : Nat → Prop} {n : Nat} (h : ∀ k, k < n → P k) : firstOf P n = n := by
  unfold firstOf; rw [dif_neg]; rintro ⟨v, h1, h2, _⟩; exact h2 (h v h1)
theorem firstOf_spec {P : Nat → Prop} {n : Nat} (h : ¬ ∀ k, k < n → P k) : firstOf P n < n ∧ ¬ P (firstOf P n) ∧ ∀ k, k < firstOf P n → P k := by
  rcases first_not P n with ha | ⟨v, h1, h2, h3⟩
  · exact absurd ha h
  · rw [firstOf_eq h1 h2 h3]; exact ⟨h1, h2, h3⟩
/-- Known things by their kinds. -/
inductive EK where
  | num (n : Nat)
  | nat (n : Nat)
  | int (k : IntKind) (x : Int)
  | bool (b : Bool)
  | str (s : ByteArray)
  | raw (l : List Value)
  | rawn (l : List Value) (n : Nat) (h : ∀ j, j < n → (l.getD j undef).oneCell' = true)
noncomputable def EK.val : EK → List Value
  | .num n => lbs n
  | .nat n => nI n
  | .int k x => [.int k x]
  | .bool b => [.bool b]
  | .str s => [.string s]
  | .raw l => l
  | .rawn l _ _ => l
def EK.len : EK → Nat
  | .num _ => 4
  | .nat _ => 1
  | .int _ _ => 1
  | .bool _ => 1
  | .str _ => 1
  | .raw _ => 0
  | .rawn _ n _ => n
theorem EK.one : ∀ (e : EK) (j : Nat), j < e.len → (e.val.getD j undef).oneCell' = true
  | .num n => one_lbs n
  | .nat n => one_nI n
  | .int k x => one_int k x
  | .bool b => one_bool b
  | .str s => one_str s
  | .raw l => one_none l
  | .rawn _ _ h => h
theorem ek_vok (O : List Obj) : ∀ K : List EK, VOK ⟨K.map EK.val, O⟩ (K.map EK.len)
  | [] => vok_nil
  | e :: K => vok_cons e.one (ek_vok O K)
theorem wayK {f : FuncId} {fn : Func} (F : FnIs Try.prog f fn) (O : List Obj) (K : List EK) (lens : List Nat) (Γ : List Gm) (S : List Sm) {c : Ct} (τ υ : List Nat) (fuel : Nat) (hs : List Hint) (outs : List Nat) (os : List Obl) (cs : List (Code × Nat)) (hl : K.map EK.len = lens) (hK : Nat.ble K.length 1000000 = true) (hO : Nat.ble O.length 1000000 = true)
    (h : ctCheck Try.prog Γ S lens fn (bodyOf fn) c τ υ fuel hs outs = some (os, cs)) (hΓ : allG (fun _ => True) Try.prog ⟨K.map EK.val, O⟩ Γ) (ho : allO Try.prog ⟨K.map EK.val, O⟩ os) (hc : allC (fun _ => True) Try.prog (c.args.len + (fn.ntmps - c.args.len)) ⟨K.map EK.val, O⟩ S cs) : c.Valid Try.prog f (Env.sub ⟨K.map EK.val, O⟩ τ υ) := by
  subst hl
  exact wayOK F (ek_vok O K) (by rw [List.length_map]; exact Nat.le_of_ble_eq_true hK) (Nat.le_of_ble_eq_true hO) h hΓ ho hc
theorem segK {f : FuncId} {fn : Func} (F : FnIs Try.prog f fn) (N : Nat) (code : Code) (K : List EK) (lens : List Nat) (Γ : List Gm) (S : List Sm) (g : Sg) (τ τ' : List Nat) (fuel : Nat) (hs : List Hint) (outs : List Nat) (os : List Obl) (cs : List (Code × Nat)) (hl : K.map EK.len = lens) (hK : Nat.ble K.length 1000000 = true)
    (h : sgCheck Try.prog Γ S lens N code g τ [] τ' [] fuel hs outs = some (os, cs)) (hΓ : allG (fun _ => True) Try.prog ⟨K.map EK.val, []⟩ Γ) (ho : allO Try.prog ⟨K.map EK.val, []⟩ os) (hc : allC (fun _ => True) Try.prog N ⟨K.map EK.val, []⟩ S cs) : g.Valid Try.prog N code (Env.sub ⟨K.map EK.val, []⟩ τ []) (Env.sub ⟨K.map EK.val, []⟩ τ' []) := by
  subst hl
  exact segOK F (ek_vok [] K) (by rw [List.length_map]; exact Nat.le_of_ble_eq_true hK) (Nat.zero_le _) h hΓ ho hc
/-- Is it so? -/
noncomputable def tr (p : Prop) : Bool := @decide p (Classical.propDecidable p)
theorem tr_t {p : Prop} (h : p) : tr p = true := by unfold tr; exact @decide_eq_true p (Classical.propDecidable p) h
theorem tr_f {p : Prop} (h : ¬ p) : tr p = false := by unfold tr; exact @decide_eq_false p (Classical.propDecidable p) h
theorem tr_eq_true {p : Prop} : (tr p = true) = p := propext (Iff.intro (fun h => Classical.byContradiction fun n => Bool.noConfusion ((tr_f n).symm.trans h)) tr_t)
theorem tr_eq_false {p : Prop} : (tr p = false) = ¬ p := propext (Iff.intro (fun h n => Bool.noConfusion ((tr_t n).symm.trans h)) tr_f)
end Go.Proofs.Ytbmokmkaebfneaa
end
section
namespace Go.Proofs.Ytbmokmkaebfneaa
open Go.RowKit
open RX
set_option linter.unusedVariables false
/-- A law's list: empty, or in memory. -/
def IsSl {T : Type} (f : T → List Value) (size : Nat) (Ok : T → Prop) (w : World) (a : Option Addr) (n c : Nat) : Prop :=
  n = 0 ∨ ∃ (b o : Nat) (C : Array Value) (ty : TypeId) (z : Nat × Nat) (l : List T), a = some ⟨b, o, none⟩ ∧ w.heap[b]? = some (.cells C ty z) ∧ l.length = n ∧ (∀ t, t ∈ l → Ok t) ∧ (C.toList.drop o).take (n * size) = l.flatMap f ∧ n ≤ c ∧ c ≤ maxLen
theorem IsSl.cases {T : Type} {f : T → List Value} {size : Nat} {Ok : T → Prop} {w : World} {a : Option Addr} {n c : Nat} (h : IsSl f size Ok w a n c) :
    n = 0 ∨ ∃ (b : Nat) (s : Sl T f size Ok) (C : Array Value) (ty : TypeId) (z : Nat × Nat), a = some ⟨b, s.o, none⟩ ∧ w.heap[b]? = some (.cells C ty z) ∧ s.R = C.toList ∧ s.l.length = n ∧ n ≤ c ∧ c ≤ maxLen := by
  rcases h with h | ⟨b, o, C, ty, z, l, h1, h2, rfl, h4, h5, h6, h7⟩
  · exact .inl h
  · exact .inr ⟨b, ⟨C.toList, o, l, h5, h4, by unfold maxLen at h7; omega⟩, C, ty, z, h1, h2, rfl, rfl, h6, h7⟩
theorem view_holds {V : Env} {ρ : Nat → Nat × Nat} {i b : Nat} {w : World} {C : Array Value} {ty : TypeId} {z : Nat × Nat} (h : w.heap[b]? = some (.cells C ty z)) (hE : V.E.getD i [] = C.toList) : (Bk.view i).holds V ρ w.heap[b]? :=
  ⟨[], ty, z, by rw [hE]; simpa using h⟩
/-- A contract that only reads. -/
theorem RX.Ct.Valid.callsR {P : Program} {f : FuncId} {fn : Func} {V : Env} {args res : SV} {pre : List Bk} {vs : Array Value} {v : Value} (hv : RX.Ct.Valid P f ⟨args, pre, [], [], res⟩ V) (F : FnIs P f fn) (ρ : Nat → Nat × Nat) {w : World} (ha : dl V ρ args = vs.toList) (hr : ∀ ρ, den V ρ res = v) (hp : ∀ (i : Nat) (bk : Bk), pre[i]? = some bk → bk.holds V ρ w.heap[(ρ i).1]?) :
    Calls P f vs w fun e w' => e = .returned v ∧ Below w.heap.size w w' := by
  have h := hv ρ w ⟨fun i j hi hj hor _ => by
    rcases hor with h | h <;> simp [isWr] at h, hp⟩
  rw [callFunc_enter F.at_ F.name F.body] at h
  replace h : Calls P f (dl V _ args).toArray w _ := h
  rw [ha, Array.toArray_toList] at h
  refine h.mono ?_
  rintro e w' ⟨u, rfl, ρ', _, _, _, hu, _, _, hfr⟩
  refine ⟨by rw [hu]; exact congrArg Ending.returned (hr ρ'), hfr.below fun b => ?_⟩
  rintro ⟨i, bk, hi, _⟩
  simp at hi
theorem no_blocks {V : Env} {ρ : Nat → Nat × Nat} {w : World} : ∀ (i : Nat) (bk : Bk), ([] : List Bk)[i]? = some bk → bk.holds V ρ w.heap[(ρ i).1]? := fun i bk h => by simp at h
theorem one_block {V : Env} {ρ : Nat → Nat × Nat} {w : World} {b : Bk} (h : b.holds V ρ w.heap[(ρ 0).1]?) : ∀ (i : Nat) (bk : Bk), [b][i]? = some bk → bk.holds V ρ w.heap[(ρ i).1]?
  | 0, _, e => by cases e; exact h
  | i + 1, _, e => by simp at e
theorem two_blocks {V : Env} {ρ : Nat → Nat × Nat} {w : World} {b c : Bk} (h : b.holds V ρ w.heap[(ρ 0).1]?) (h' : c.holds V ρ w.heap[(ρ 1).1]?) : ∀ (i : Nat) (bk : Bk), [b, c][i]? = some bk → bk.holds V ρ w.heap[(ρ i).1]?
  | 0, _, e => by cases e; exact h
  | 1, _, e => by cases e; exact h'
  | i + 2, _, e => by simp at e
theorem plain_num4 : LeafIs Try.prog 24 [.i .u64, .i .u64, .i .u64, .i .u64] := plain_numV.toLeaf
theorem read_num4 (cs : List Value) (h : fitsB [.i .u64, .i .u64, .i .u64, .i .u64] cs = true) (hw : cs.all wfV = true) : ∃ n : Nat, (fun x => x < RR) n ∧ cs = lbs n := by
  obtain ⟨n, ys, h1, rfl, f1, _⟩ := num_chunk h hw
  obtain rfl := nil_chunk f1
  exact ⟨n, h1, by simp⟩
theorem i64_of_wf {x : Int} (h : (Lit.int .i64 x).wf = true) : I64 x := by
  simp [Lit.wf, IntKind.min, IntKind.max, IntKind.signed, IntKind.bits] at h
  exact ⟨by omega, by omega⟩
theorem plain_int1 : LeafIs Try.prog 3 [.i .i64] := ⟨by kernel_rfl, by kernel_rfl⟩
theorem read_int1 (cs : List Value) (h : fitsB [.i .i64] cs = true) (hw : cs.all wfV = true) : ∃ n : Int, (fun x => I64 x) n ∧ cs = cI n := by
  obtain ⟨n, ys, rfl, h1, f1, _⟩ := int_chunk h hw
  obtain rfl := nil_chunk f1
  exact ⟨n, i64_of_wf h1, rfl⟩
end Go.Proofs.Ytbmokmkaebfneaa
end
