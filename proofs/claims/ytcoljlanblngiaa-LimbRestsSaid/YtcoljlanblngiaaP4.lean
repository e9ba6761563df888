/- The document's answer for layer 1: a product of digits. -/
import Derived.Test.YtcoljlanblngiaaP2
import Derived.Test.YtcoljlanblngiaaT
import Derived.Deep.OwnRows
import Derived.OwnWalk
import Derived.BigRegion
namespace Go.Proofs.Ytcoljlanblngiaa
set_option linter.unusedVariables false
set_option linter.unusedSimpArgs false
open Go.RowKit Go.Proofs.YtcoljlanblngiaaW.PrintWords

/-- Numbers as cells. -/
def intsA (l : List Int) : Array Value := (l.map (Value.int .i64)).toArray
theorem intsA_size (l : List Int) : (intsA l).size = l.length := by simp [intsA]
theorem intsA_get (l : List Int) (i : Nat) (x : Int) (h : l[i]? = some x) : (intsA l)[i]? = some (.int .i64 x) := by simp [intsA, h]
theorem intsA_set (l : List Int) (i : Nat) (x : Int) : (intsA l).setIfInBounds i (.int .i64 x) = intsA (l.set i x) := by simp [intsA, List.map_set]
theorem intsA_zeros (n : Nat) : madeCells #[.int .i64 0] n = intsA (dgs 0 n) := by
  apply Array.ext_getElem?
  intro i
  rcases Nat.lt_or_ge i n with h | h
  · rw [intsA_get (dgs 0 n) i 0 (by rw [dgs_get 0 n i h]; simp [dgD])]
    simp [madeCells, h, Nat.mod_one]
  · rw [Array.getElem?_eq_none (by simp [madeCells, h]), Array.getElem?_eq_none (by rw [intsA_size, dgs_length]; exact h)]
theorem ints_of_blk {w : World} {g base : Nat} {l : List Int} (h : Blk w g 3 (intsA l)) (hb : base ≤ g) (hl : l.length ≤ maxLen) : Ints w base (.slice (some ⟨g, 0, none⟩) l.length l.length) l := by
  refine Kd.R_of_own ?_ (fun _ _ => trivial)
  refine ⟨by simp [encs_length], .inr ⟨g, l.length, intsA l, rfl, hb, h, Nat.le_refl _, hl, by simp [intsA_size], ?_⟩⟩
  simp [intsA, encs]
  first | done | (rw [List.take_of_length_le (by simp)])
/-- 'make([]T, n)': the block that is made. -/
theorem wpList_make_blk {P : Program} (w : World) {ops : Array Oper} {rest : List Oper} {o : Oper} {a : Act} {Q : Exit → Act → World → Prop}
    (hg : o.guard = none) (l c : Operand) (t : TypeId) (hop : o.op = Op.makeSlice t l c)
    (e : TypeId) (z : Value) (bytes : Nat) (h1 : P.underlying t = some (.slice e)) (h2 : (P.info? e).map (fun i => (i.zero, i.size, i.bytes)) = some (some z, 1, bytes))
    (n : Nat) (L : Int) (hl : a.eval l = .int .i64 L) (hc : a.eval c = .int .i64 L) (hL : L = n) (b2 : bytes * n ≤ 281474976710656) (b3 : n ≤ maxLen)
    (hK : wpList P ops Q rest (a.put o.dst (.slice (some ⟨w.heap.size, 0, none⟩) n n)) (w.alloc (.cells (madeCells z.cells n) e))) :
    wpList P ops Q (o :: rest) a w := by
  subst hL
  obtain ⟨i, hi, hz, hs, hbb⟩ := info_parts h2
  refine wpList_plain hg fun K hK' => ?_
  have hr := run_make (P := P) w t e i z h1 hi hz .i64 .i64 n n (by omega) (by omega) (by rw [hbb]; omega) (by have h := b3; simp [maxLen] at h; omega)
  rw [Int.toNat_natCast, hs, Nat.mul_one] at hr
  unfold Oper.wp
  simp [execOp, hop, hl, hc, hr, Result.andThen]
  exact hK' _ _ hK
theorem digs_of {w : World} {b n k : Nat} {v : Value} (h : Ints w b v (dgs n k)) : ∃ A c, v = .slice A k c ∧ k ≤ c ∧ Digs w A n k := by
  obtain ⟨A, c, e, hc, hd⟩ := Kd.R_reads h
  rw [dgs_length] at e hc hd
  exact ⟨A, c, e, hc, hd⟩
theorem Digs.after {w w1 : World} {A : Option Addr} {n k : Nat} (h : Digs w A n k) (hb : Below w.heap.size w w1) : Digs w1 A n k := Kd.C_below h hb
end Go.Proofs.Ytcoljlanblngiaa
