/- Loops' things that stay; lists in memory: what is owed. -/
import Derived.Test.YtbmokmkaebfneaaRXM
import Derived.Laws.Slices
namespace Go.Proofs.Ytbmokmkaebfneaa
open Go.RowKit
namespace RX
set_option linter.unnecessarySimpa false
set_option linter.unusedVariables false
set_option linter.unusedSimpArgs false
/-- Does a value name things of K only? -/
def SV.inE (K : List Nat) : SV → Bool
  | .ev i _ => K.any (Nat.beq i)
  | .ptr _ bs _ => bs.inE K
  | .sli _ bs _ l c => bs.inE K && (l.inE K && c.inE K)
  | .fn _ c => c.inE K
  | .cons h t => h.inE K && t.inE K
  | .agg l => l.inE K
  | .tup l => l.inE K
  | _ => true
def Bk.inE (K : List Nat) : Bk → Bool
  | .cs _ l => l.inE K
  | .row _ i => K.any (Nat.beq i)
  | .own _ i _ z => K.any (Nat.beq i) && z.inE K
  | .view i => K.any (Nat.beq i)
  | .ob _ => true
  | .gone => true
/-- The things of K are the same. -/
def sameE (V V' : Env) : List Nat → Prop
  | [] => True
  | i :: r => V.E.getD i [] = V'.E.getD i [] ∧ sameE V V' r
theorem sameE_get {V V' : Env} : ∀ {K : List Nat} {i : Nat}, sameE V V' K → K.any (Nat.beq i) = true → V.E.getD i [] = V'.E.getD i []
  | j :: r, i, h, hi => by
    simp only [List.any_cons, Bool.or_eq_true] at hi
    rcases hi with hi | hi
    · rw [Nat.eq_of_beq_eq_true hi]; exact h.1
    · exact sameE_get h.2 hi
theorem dl_same {V V' : Env} {K : List Nat} {ρ : Nat → Nat × Nat} (h : sameE V V' K) : ∀ {x : SV}, x.inE K = true → dl V ρ x = dl V' ρ x := by
  intro x
  induction x
  case ev i j => intro hx; show [(V.E.getD i []).getD j undef] = [(V'.E.getD i []).getD j undef]; rw [sameE_get h hx]
  all_goals simp_all [SV.inE, dl]
theorem holds_same {V V' : Env} {K : List Nat} {ρ : Nat → Nat × Nat} (h : sameE V V' K) (hO : V.O = V'.O) {b : Bk} {o : Option Obj} (hb : b.inE K = true) (hh : b.holds V ρ o) : b.holds V' ρ o := by
  cases b with
  | cs t l => exact (show o = some (.cells (dl V ρ l).toArray t (0, 0)) from hh).trans (by rw [dl_same h hb]; rfl)
  | row t i => exact (show o = some (.cells (V.E.getD i []).toArray t (0, 0)) from hh).trans (by rw [sameE_get h hb]; rfl)
  | view i => obtain ⟨r, t, z, hr⟩ := hh; exact ⟨r, t, z, by rw [hr, sameE_get h hb]⟩
  | own t i c z =>
    simp only [Bk.inE, Bool.and_eq_true] at hb
    refine (show o = some (.cells (V.E.getD i [] ++ spare (dl V ρ z) ((ρ c).2 * (dl V ρ z).length - (V.E.getD i []).length)).toArray t (0, 0)) from hh).trans ?_
    rw [dl_same h hb.2, sameE_get h hb.1]; rfl
  | ob i => exact (show o = some (V.O.getD i noObj) from hh).trans (by rw [hO]; rfl)
  | gone => trivial
def stayAll (θ R W K : List Nat) : Nat → List Bk → Bool
  | _, [] => true
  | i, b :: r => (R.any (Nat.beq i) || (W.any (Nat.beq i) || (stayB θ b && b.inE K))) && stayAll θ R W K (i + 1) r
theorem stayAll_get {θ R W K : List Nat} : ∀ {l : List Bk} {i k : Nat} {b : Bk}, stayAll θ R W K i l = true → l[k]? = some b → R.any (Nat.beq (i + k)) = false → W.any (Nat.beq (i + k)) = false → stayB θ b = true ∧ b.inE K = true
  | [], _, _, _, _, h, _, _ => by simp at h
  | c :: r, i, 0, b, h, hb, hR, hW => by
    simp at hb; subst hb
    rw [Nat.add_zero] at hR hW
    simp only [stayAll, Bool.and_eq_true, Bool.or_eq_true, hR, hW] at h
    simpa using h.1
  | c :: r, i, k + 1, b, h, hb, hR, hW => by
    simp only [stayAll, Bool.and_eq_true] at h
    exact stayAll_get (i := i + 1) (k := k) h.2 (by simpa using hb) (by rwa [show i + 1 + k = i + (k + 1) by omega]) (by rwa [show i + 1 + k = i + (k + 1) by omega])
theorem stays {g : Sg} {R W : List Nat} (K : List Nat) {V : Nat → Env} {m : Nat} (hB : stayAll (nextIds g.pre.length R) R W K 0 g.pre = true) (hV : ∀ k, sameE (V k) (V (k + 1)) K) (hO : ∀ k, (V k).O = (V (k + 1)).O) :
    ∀ k, k < m → ∀ (i : Nat) (b : Bk), g.pre[i]? = some b → R.any (Nat.beq i) = false → W.any (Nat.beq i) = false → b.rnI (nextIds g.pre.length R) = b ∧ ∀ ρ o, b.holds (V k) ρ o → b.holds (V (k + 1)) ρ o := fun k _ i b hb hR hW => by
  obtain ⟨h1, h2⟩ := stayAll_get hB hb (by rwa [Nat.zero_add]) (by rwa [Nat.zero_add])
  exact ⟨stayB_spec h1, fun ρ o hh => holds_same (hV k) (hO k) h2 hh⟩

/-! ### Whole numbers that are natural -/
def nI (n : Nat) : List Value := [.int .i64 (n : Int)]
theorem one_nI (n : Nat) : ∀ j, j < 1 → ((nI n).getD j undef).oneCell' = true := one_int _ _
section
variable {P : Program} {V : Env} {t : TypeId} {a b : Nat} {k : IntKind}
theorem ob_nat (h : a = b) : ∀ (_ : Nat → Nat × Nat), [Value.int k (a : Int)] = [Value.int k (b : Int)] := fun _ => by rw [h]
theorem ob_lss_nt (h : a < b) : BinIs P .lss t (.int k (a : Int)) (.int k (b : Int)) (.bool true) := ob_lss_t (by omega)
theorem ob_lss_nf (h : ¬ a < b) : BinIs P .lss t (.int k (a : Int)) (.int k (b : Int)) (.bool false) := ob_lss_f (by omega)
theorem ob_leq_nt (h : a ≤ b) : BinIs P .leq t (.int k (a : Int)) (.int k (b : Int)) (.bool true) := ob_leq_t (by omega)
theorem ob_leq_nf (h : ¬ a ≤ b) : BinIs P .leq t (.int k (a : Int)) (.int k (b : Int)) (.bool false) := ob_leq_f (by omega)
theorem ob_gtr_nt (h : b < a) : BinIs P .gtr t (.int k (a : Int)) (.int k (b : Int)) (.bool true) := ob_gtr_t (by omega)
theorem ob_gtr_nf (h : ¬ b < a) : BinIs P .gtr t (.int k (a : Int)) (.int k (b : Int)) (.bool false) := ob_gtr_f (by omega)
theorem ob_geq_nt (h : b ≤ a) : BinIs P .geq t (.int k (a : Int)) (.int k (b : Int)) (.bool true) := ob_geq_t (by omega)
theorem ob_geq_nf (h : ¬ b ≤ a) : BinIs P .geq t (.int k (a : Int)) (.int k (b : Int)) (.bool false) := ob_geq_f (by omega)
theorem ob_eql_nt (h : a = b) : BinIs P .eql t (.int k (a : Int)) (.int k (b : Int)) (.bool true) := ob_eql_t (by omega)
theorem ob_eql_nf (h : ¬ a = b) : BinIs P .eql t (.int k (a : Int)) (.int k (b : Int)) (.bool false) := ob_eql_f (by omega)
theorem ob_neq_nt (h : a = b) : BinIs P .neq t (.int k (a : Int)) (.int k (b : Int)) (.bool false) := ob_neq_t (by omega)
theorem ob_neq_nf (h : ¬ a = b) : BinIs P .neq t (.int k (a : Int)) (.int k (b : Int)) (.bool true) := ob_neq_f (by omega)
theorem wrap_nat {n : Nat} (h : n < 9223372036854775808) : IntKind.i64.wrap (n : Int) = (n : Int) := by
  simp only [IntKind.wrap, IntKind.bits, IntKind.signed]
  simp
  omega
theorem ob_addn (h : a + b < 9223372036854775808) : BinIs P .add t (.int .i64 (a : Int)) (.int .i64 (b : Int)) (.int .i64 ((a + b : Nat) : Int)) := ob_add (by rw [← Int.natCast_add]; exact wrap_nat h)
theorem ob_subn (h : b ≤ a) (h' : a < 9223372036854775808) : BinIs P .sub t (.int .i64 (a : Int)) (.int .i64 (b : Int)) (.int .i64 ((a - b : Nat) : Int)) := ob_sub (by rw [← Int.natCast_sub h]; exact wrap_nat (by omega))

theorem one_slice (b : Option Addr) (n c : Nat) : ∀ j, j < 1 → ([Value.slice b n c].getD j undef).oneCell' = true := fun j hj => by
  match j, hj with
  | 0, _ => rfl
/-! ### Lists -/
/-- A list's type. -/
structure SliceIs (P : Program) (t e : TypeId) (size : Nat) : Prop where
  at_ : P.underlying t = some (.slice e)
  size : sizeT P e = some size
variable {e : TypeId} {size : Nat}
/-- len of a list. -/
theorem ob_len {ts : Array TypeId} {ty : TypeId} {cs : Array Bool} {x : SV} {v : SV} {base : (Nat → Nat × Nat) → Option Addr} {n c : Nat} (h0 : ts[0]? = some t) (ht : P.underlying t = some (.slice e)) (hx : ∀ ρ, den V ρ x = .slice (base ρ) n c) (hs : x.single = true) (hv : ∀ ρ, den V ρ v = .int .i64 (n : Int)) :
    (Obl.bi .len ts ty cs (.cons x .nil) v).holds P V := fun ρ w => by
  have hd : dl V ρ (.cons x .nil) = [den V ρ x] := by simp only [dl, dl_single hs, List.append_nil]
  rw [hd, hx, hv]
  simp [builtin, Builtin.len_, h0, run_underlying ht, goInt]
/-- The place of a list's element. -/
theorem ob_ia {id off : Nat} {bs0 len cap i bs : SV} {o k n : Nat} (ht : P.underlying t = some (.slice e)) (hs : sizeT P e = some size) (h0 : ∀ ρ, natV (den V ρ bs0) = o) (hn : ∀ ρ, natV (den V ρ len) = n) (hi : ∀ ρ, den V ρ i = .int .i64 (k : Int)) (hd : ∀ ρ, natV (den V ρ bs) = o + k * size) (hk : k < n) :
    (Obl.ia t (.sli id bs0 off len cap) i (.ptr id bs off)).holds P V := fun ρ w => by
  have hx : den V ρ (.sli id bs0 off len cap) = .slice (some ⟨(ρ id).1, o + off, none⟩) n (natV (den V ρ cap)) := by
    show Value.slice (some ⟨(ρ id).1, natV (den V ρ bs0) + off, none⟩) (natV (den V ρ len)) _ = _
    rw [hn, h0]; rfl
  have hv : den V ρ (.ptr id bs off) = .pointer (some ⟨(ρ id).1, natV (den V ρ bs) + off, none⟩) := rfl
  rw [hx, hv, hi, hd]
  have hlt : (0 : Int) ≤ (k : Int) ∧ (k : Int) < (n : Int) := ⟨by omega, by omega⟩
  simp [Instr.indexAt, run_underlying ht, asIntOf, hlt.1, hlt.2, sizeT_run hs, hk]
  try unfold Addr.add
  split
  · rename_i h0; simp [h0]
  · simp; omega
/-- Cells of a list: f a, one behind another. -/
theorem drop_flat {α : Type} (f : α → List Value) (d : α) (hf : ∀ a, (f a).length = size) : ∀ (l : List α) (k : Nat), k < l.length → ((l.flatMap f).drop (k * size)).take size = f (l.getD k d)
  | [], k, h => by simp at h
  | a :: l, 0, _ => by simp [List.flatMap_cons, hf]
  | a :: l, k + 1, h => by
    have := drop_flat f d hf l k (by simpa using h)
    rw [List.flatMap_cons, show (k + 1) * size = (f a).length + k * size by rw [hf, Nat.add_mul]; omega, List.drop_append, show (f a).length + k * size - (f a).length = k * size by omega, List.drop_eq_nil_of_le (by omega), List.nil_append, this]
    rfl
theorem drop_part {α : Type} {f : α → List Value} {d : α} (hf : ∀ a, (f a).length = size) {R : List Value} {o : Nat} {l : List α} (h : (R.drop o).take (l.length * size) = l.flatMap f) {k : Nat} (hk : k < l.length) : (R.drop (o + k * size)).take size = f (l.getD k d) := by
  rw [← drop_flat f d hf l k hk, ← h, List.drop_take, List.drop_drop, List.take_take]
  congr 1
  have : (k + 1) * size ≤ l.length * size := Nat.mul_le_mul_right _ hk
  rw [Nat.add_mul, Nat.one_mul] at this
  omega
theorem drop_sub {R X : List Value} {d off n : Nat} (h : (R.drop d).take size = X) (hn : off + n ≤ size) : (R.drop (d + off)).take n = (X.drop off).take n := by
  rw [← h, List.drop_take, List.drop_drop, List.take_take, show min n (size - off) = n by omega]
theorem ob_ld {i off : Nat} {bs l : SV} {L : List Value} {d : Nat} {R : List Value} (hR : V.E.getD i [] = R) (hd : ∀ ρ, natV (den V ρ bs) = d) (hL : ∀ ρ, dl V ρ l = L) (h : (R.drop (d + off)).take l.len = L) : (Obl.ld i bs off l).holds P V := fun ρ => by
  rw [hR, hd, hL]; exact h
/-- The beginning of a list. -/
theorem ob_sl_hi {id off : Nat} {bs len cap hi len' : SV} {n c : Nat} (ht : P.underlying t = some (.slice e)) (hs : sizeT P e = some size) (hc : ∀ ρ, natV (den V ρ cap) = c) (hh : ∀ ρ, den V ρ hi = .int .i64 (n : Int)) (hl : ∀ ρ, natV (den V ρ len') = n) (hn : n ≤ c) :
    (Obl.sl t (.sli id bs off len cap) none (some hi) none (.sli id bs off len' cap)).holds P V := fun ρ w => by
  have hx : den V ρ (.sli id bs off len cap) = .slice (some ⟨(ρ id).1, natV (den V ρ bs) + off, none⟩) (natV (den V ρ len)) c := by rw [← hc ρ]; rfl
  have hv : den V ρ (.sli id bs off len' cap) = .slice (some ⟨(ρ id).1, natV (den V ρ bs) + off, none⟩) n c := by rw [← hc ρ, ← hl ρ]; rfl
  rw [hx, hv]
  simp only [Option.map_some, Option.map_none, hh]
  have h1 : (0 : Int) ≤ (n : Int) ∧ (n : Int) ≤ (c : Int) := ⟨by omega, by omega⟩
  simp [Instr.sliceAt, Instr.slice, Instr.sliceBounds, Instr.sliceBound, run_underlying ht, sizeT_run hs, asIntOf, h1.1, h1.2, hn]
  intro h0
  simp [Addr.add]
end
/-- A contract with no blocks, said otherwise. -/
theorem Ct.Valid.said {P : Program} {f : FuncId} {V V' : Env} {a r a' r' : SV} (h : Ct.Valid P f ⟨a, [], [], [], r⟩ V) (ha : ∀ ρ, dl V' ρ a' = dl V ρ a) (hr : ∀ ρ, den V ρ r = den V' ρ r') : Ct.Valid P f ⟨a', [], [], [], r'⟩ V' := by
  intro ρ w hp
  have := h ρ w ⟨fun i j hi => by simp at hi, fun i bk hb => by simp at hb⟩
  simp only at this ⊢
  rw [← ha] at this
  refine growUpon_mono ?_ this
  rintro v w' ⟨ρ', h1, h2, h3, h4, h5, h6, h7⟩
  exact ⟨ρ', h1, h2, h3, h4.trans (hr ρ'), fun i bk hb => by simp at hb, fun j bk hb => by simp at hb, h7⟩
end RX
end Go.Proofs.Ytbmokmkaebfneaa
