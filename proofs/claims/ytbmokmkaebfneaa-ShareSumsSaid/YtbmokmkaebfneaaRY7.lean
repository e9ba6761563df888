/- A polynomial's value, where it has one: the walk over slices.Backward. -/
import Derived.RangeFuncNested
import Derived.RangeFuncBound
import Derived.RangeFuncCalls
import Derived.RangeFuncLeaves
import Derived.Shelf.Abstract
import Derived.Shelf.RegionOpen
import Derived.WalkKit
import Derived.OwnWalkIn
import Derived.TacticsInMore
import Derived.LoopNIn
import Derived.LoopIn
import Derived.Test.YtbmokmkaebfneaaRY6
import Derived.Test.YtbmokmkaebfneaaRY3
namespace Go.Proofs.Ytbmokmkaebfneaa
open Go.RowKit Go.Shelf
open RX
set_option linter.unusedVariables false
attribute [local go_sem] Oper.semAt_some
/-- A number of the field. -/
abbrev FN := { c : Nat // c < pN false }
/-- What comes of a row of numbers, from its end on. -/
def bk (g : Nat → FN) (len k : Nat) : List (Nat × FN) := (List.range k).map fun i => (len - 1 - i, g (len - 1 - i))
theorem bk_succ (g : Nat → FN) (len k : Nat) : bk g len (k + 1) = bk g len k ++ [(len - 1 - k, g (len - 1 - k))] := by simp [bk, List.range_succ]
theorem bk_len (g : Nat → FN) (len k : Nat) : (bk g len k).length = k := by simp [bk]
/-- What the iterator reads lies as it lay. -/
def Kp2 (b Bs : Nat) (A B : World) : Prop := B.heap[b]? = A.heap[b]? ∧ B.heap[Bs]? = A.heap[Bs]?
theorem Kp2.refl (b Bs : Nat) (A : World) : Kp2 b Bs A A := ⟨rfl, rfl⟩
theorem Kp2.trans {b Bs : Nat} {A B C : World} (h : Kp2 b Bs A B) (k : Kp2 b Bs B C) : Kp2 b Bs A C := ⟨k.1.trans h.1, k.2.trans h.2⟩
theorem cell_heap {A B : World} {p : Addr} (h : B.heap[p.block]? = A.heap[p.block]?) : B.cell? p = A.cell? p := by unfold World.cell?; rw [h]
set_option maxRecDepth 100000 in
set_option maxHeartbeats 2000000 in
theorem back1_in (F : Fence) (n : Nat) (hf : F.fn 81) (hro : F.round = none) (hn : 1 ≤ n) (l Bs b off len cap : Nat) (g : Nat → FN) (hlen : len < 9223372036854775808) (J Jx : List (Nat × FN) → World → Prop)
    (hY : ∀ pre x W, J pre W → pre.length < len → YieldAt F (n - 1) Try.prog l #[.int .i64 (x.1 : Int), num x.2.1] W fun e W' =>
      (e = .returned (.bool true) ∧ J (pre ++ [x]) W' ∧ Kp2 b Bs W W') ∨ (e = .returned (.bool false) ∧ Jx (pre ++ [x]) W'))
    (W : World) (hs : W.cell? ⟨Bs, 0, none⟩ = some (.slice (some ⟨b, off, none⟩) len cap)) (hc : ∀ j i, j < len → i < 4 → W.cell? ⟨b, off + j * 4 + i, none⟩ = some (.int .u64 (lb (g j).1 i))) (h0 : J [] W) :
    CallsIn F n Try.prog 81 #[.func (.yield l) #[] #[], .pointer (some ⟨Bs, 0, none⟩)] W fun e W' => (∃ v, e = .returned v) ∧
      ((∃ ys, ys = bk g len len ∧ J ys W') ∨ (∃ pre, (∃ k, k ≤ len ∧ pre = bk g len k) ∧ Jx pre W')) := by
  refine callsIn_of_wp Try.func81 rfl hf ?_ hro
  simp only [Try.ntmps81, List.size_toArray, List.length_cons, List.length_nil, Nat.reduceAdd, Nat.reduceSub, Array.replicate_succ, Array.replicate_zero, List.push_toArray, List.append_toArray, List.nil_append, List.cons_append]
  gi_wp2
  gi_loopw [3] (fun i wr => ∃ k : Nat, k ≤ len ∧ i = .int .i64 ((len : Int) - 1 - k) ∧ J (bk g len k) wr ∧ Kp2 b Bs W wr)
    (fun i _ => (intOf i + 1).toNat)
  case atStart => exact ⟨0, Nat.zero_le _, by simp, h0, Kp2.refl _ _ _⟩
  case round =>
    obtain ⟨k, hk, rfl, hJs, hnx⟩ := hrel
    have hsx := (cell_heap (p := ⟨Bs, 0, none⟩) hnx.2).trans hs
    by_cases hlt : k < len
    · obtain ⟨i, hil, hie⟩ : ∃ i : Nat, i < len ∧ (len : Int) - 1 - k = (i : Int) := ⟨len - 1 - k, by omega, by omega⟩
      rw [hie]
      have hcx : ∀ j, j < 4 → wr.cell? ⟨b, off + i * 4 + j, none⟩ = some (.int .u64 (lb (g i).1 j)) := fun j hj => (cell_heap (p := ⟨b, off + i * 4 + j, none⟩) hnx.1).trans (hc i j hil hj)
      have c0 : wr.cell? ⟨b, off + i * 4, none⟩ = some (.int .u64 (lb (g i).1 0)) := hcx 0 (by decide)
      have c1 := hcx 1 (by decide)
      have c2 := hcx 2 (by decide)
      have c3 := hcx 3 (by decide)
      clear hcx
      obtain ⟨fn, tmps, assign, body, hy, hR⟩ := hY _ (i, g i) wr hJs (by rw [bk_len]; exact hlt)
      dsimp only [num] at hy
      gi_wp2
      refine hR.mono ?_
      rintro e W3 (⟨rfl, hJ3, hk3⟩ | ⟨rfl, hJx3⟩)
      · gi_wp2
        refine ⟨⟨k + 1, by omega, congrArg _ (by omega), ?_, hnx.trans hk3⟩, by simp [intOf]⟩
        have e : i = len - 1 - k := by omega
        rw [bk_succ, ← e]; exact hJ3
      · gi_wp2
        refine bodyPost_ret (results_none rfl _ _ _) rfl ?_
        have e : i = len - 1 - k := by omega
        exact ⟨⟨_, rfl⟩, .inr ⟨_, ⟨k + 1, by omega, by rw [bk_succ, ← e]⟩, hJx3⟩⟩
    · obtain rfl : k = len := by omega
      gi_wp2
      go_end0
      exact ⟨⟨_, rfl⟩, .inl ⟨_, rfl, hJs⟩⟩
set_option maxHeartbeats 1000000 in
theorem back_in (F : Fence) (n : Nat) (hf : F.fn 61) (hro : F.round = none) (a : Option Addr) (len cap : Nat) (w : World) :
    CallsIn F n Try.prog 61 #[.slice a len cap] w fun e w' => e = .returned (.func (.func 81) #[] #[.pointer (some ⟨w.heap.size, 0, none⟩)]) ∧ w' = w.alloc (.cells #[.slice a len cap] 68) := by
  refine callsIn_of_wp Try.func61 rfl hf ?_ hro
  simp only [Try.ntmps61, List.size_toArray, List.length_cons, List.length_nil, Nat.reduceAdd, Nat.reduceSub, Array.replicate_succ, Array.replicate_zero, List.push_toArray, List.append_toArray, List.nil_append, List.cons_append]
  gi_wp2
  go_ret
  exact ⟨rfl, rfl⟩
theorem back_stops (F : Fence) (n : Nat) (hf : F.fn 81) (hro : F.round = none) (hn : 1 ≤ n) (Bs b off len cap : Nat) (g : Nat → FN) (hlen : len < 9223372036854775808) (w : World) (hB : Bs < w.heap.size) (hb : b < w.heap.size)
    (hs : w.cell? ⟨Bs, 0, none⟩ = some (.slice (some ⟨b, off, none⟩) len cap)) (hc : ∀ j i, j < len → i < 4 → w.cell? ⟨b, off + j * 4 + i, none⟩ = some (.int .u64 (lb (g j).1 i))) :
    SeqStopsK F n Try.prog 81 #[.pointer (some ⟨Bs, 0, none⟩)] (fun x : Nat × FN => #[Value.int .i64 (x.1 : Int), num x.2.1]) (Kp2 b Bs) (fun ys => ys = bk g len len) (fun pre => ∃ k, k ≤ len ∧ pre = bk g len k) len w := fun l J Jx W hW _ _ hY h0 =>
  back1_in F n hf hro hn l Bs b off len cap g hlen J Jx hY W ((hW.cell (p := ⟨Bs, 0, none⟩) hB).trans hs) (fun j i hj hi => (hW.cell (p := ⟨b, off + j * 4 + i, none⟩) hb).trans (hc j i hj hi)) h0
/-- From the last coefficient on: times x, and the next one. -/
noncomputable def horn (x : Nat) (pre : List (Nat × FN)) : Nat := pre.foldl (fun h c => fadN false (fmlN false h x) c.2.1) 0
theorem horn_lt (x : Nat) (pre : List (Nat × FN)) : horn x pre < pN false := by
  rcases List.eq_nil_or_concat pre with rfl | ⟨l, c, rfl⟩
  · exact pN_pos _
  · unfold horn; rw [List.concat_eq_append, List.foldl_append]; exact fadN_lt _ _ _
theorem horn_snoc (x : Nat) (pre : List (Nat × FN)) (c : Nat × FN) : horn x (pre ++ [c]) = fadN false (fmlN false (horn x pre) x) c.2.1 := by unfold horn; rw [List.foldl_append]; rfl
theorem alls_getD {l : List Nat} (h : AllS l) (k : Nat) : l.getD k 0 < pN false := by
  rcases Nat.lt_or_ge k l.length with hk | hk
  · exact h k hk
  · rw [List.getD_eq_getElem?_getD, List.getElem?_eq_none hk]; exact pN_pos _
theorem sl_cell (a : NumSl) {j i : Nat} (hj : j < a.l.length) (hi : i < 4) : a.R[a.o + j * 4 + i]? = some (.int .u64 (lb (a.l.getD j 0) i)) := by
  have h := drop_part (d := 0) lbs_len a.h hj
  have e : ((a.R.drop (a.o + j * 4)).take 4)[i]? = (lbs (a.l.getD j 0))[i]? := by rw [h]
  rw [List.getElem?_take_of_lt hi, List.getElem?_drop] at e
  rw [e]
  match i, hi with
  | 0, _ => rfl
  | 1, _ => rfl
  | 2, _ => rfl
  | 3, _ => rfl
theorem exists_eq' {α : Sort _} {a : α} : ∃ b, a = b := ⟨a, rfl⟩
theorem keeps_of_below {W W' : World} (h : Below W.heap.size W W') : KeepsOthers W W' := ⟨h.size, fun k o ho _ => (h.block k (Array.getElem?_eq_some_iff.1 ho).1).trans ho⟩
/-- Four stores into one block. -/
theorem four_set {W W' : World} {p : Nat} {a b c d : Value} (h : (((W.setCell ⟨p, 0, none⟩ a).setCell ⟨p, 1, none⟩ b).setCell ⟨p, 2, none⟩ c).setCell ⟨p, 3, none⟩ d = W') :
    (∀ q, q ≠ p → W'.heap[q]? = W.heap[q]?) ∧ W'.heap.size = W.heap.size ∧ (∀ t x0 x1 x2 x3, Blk W p t #[x0, x1, x2, x3] → Blk W' p t #[a, b, c, d]) ∧ KeepsOthers W W' ∧ (∀ n w0, n ≤ p → Below n w0 W → Below n w0 W') := by
  subst h
  refine ⟨fun q hq => ?_, by simp, fun t x0 x1 x2 x3 k => (((k.set_ 0 a).set_ 1 b).set_ 2 c).set_ 3 d, (((KeepsOthers.setCell _ _ _).trans (KeepsOthers.setCell _ _ _)).trans (KeepsOthers.setCell _ _ _)).trans (KeepsOthers.setCell _ _ _), fun n w0 hn k => (((k.setCell (p := ⟨p, 0, none⟩) hn _).setCell (p := ⟨p, 1, none⟩) hn _).setCell (p := ⟨p, 2, none⟩) hn _).setCell (p := ⟨p, 3, none⟩) hn _⟩
  rw [Below.heap_setCell _ ⟨p, 3, none⟩ _ q hq, Below.heap_setCell _ ⟨p, 2, none⟩ _ q hq, Below.heap_setCell _ ⟨p, 1, none⟩ _ q hq, Below.heap_setCell _ ⟨p, 0, none⟩ _ q hq]
/-- Between two rounds: what lies where. -/
structure AtI (w0 : World) (B p3 p4 p6 p7 f g x h : Nat) (W : World) : Prop where
  k7 : Blk W p7 24 #[.int .u64 (lb h 0), .int .u64 (lb h 1), .int .u64 (lb h 2), .int .u64 (lb h 3)]
  k3 : Blk W p3 24 #[.int .u64 (lb x 0), .int .u64 (lb x 1), .int .u64 (lb x 2), .int .u64 (lb x 3)]
  k4 : Blk W p4 24 #[.int .u64 0, .int .u64 0, .int .u64 0, .int .u64 0]
  k6 : Blk W p6 95 #[.pointer (some ⟨f, 0, none⟩)]
  kf : FieldB W f g false
  sz : B ≤ W.heap.size
  bw : Below w0.heap.size w0 W
theorem AtI.kept {w0 : World} {B p3 p4 p6 p7 f g x h : Nat} {W W' : World} (k : AtI w0 B p3 p4 p6 p7 f g x h W) (hb : ∀ q, q < B → W'.heap[q]? = W.heap[q]?) (hs : W.heap.size ≤ W'.heap.size) (h3 : p3 < B) (h4 : p4 < B) (h6 : p6 < B) (h7 : p7 < B) (hf : f < B) (hg : g < B) (hw : Below w0.heap.size w0 W') : AtI w0 B p3 p4 p6 p7 f g x h W' :=
  ⟨(hb _ h7).trans k.k7, (hb _ h3).trans k.k3, (hb _ h4).trans k.k4, (hb _ h6).trans k.k6, ⟨(hb _ hf).trans k.kf.1, (hb _ hg).trans k.kf.2⟩, Nat.le_trans k.sz hs, hw⟩
/-- A contract that reads one list. -/
theorem Ct.Valid.callsV {P : Program} {f : FuncId} {fn : Func} {V : Env} {args res : SV} {vs : Array Value} {v : Value} {i : Nat} (hv : RX.Ct.Valid P f ⟨args, [.view i], [], [], res⟩ V) (F : FnIs P f fn) {b cap : Nat} (ha : dl V (fun _ => (b, cap)) args = vs.toList) (hr : ∀ ρ, den V ρ res = v) {w : World} {C : Array Value} {ty : TypeId} {z : Nat × Nat} (hb : w.heap[b]? = some (.cells C ty z)) (hC : V.E.getD i [] = C.toList) :
    Calls P f vs w fun e w' => e = .returned v ∧ Below w.heap.size w w' := by
  have h := hv (fun _ => (b, cap)) w ⟨fun i j hi hj _ _ => by simp at hi hj; omega, fun k bk hk => by
    match k with
    | 0 => cases hk; exact ⟨[], ty, z, by rw [hC]; simpa using hb⟩
    | _ + 1 => simp at hk⟩
  rw [callFunc_enter F.at_ F.name F.body] at h
  replace h : Calls P f (dl V _ args).toArray w _ := h
  rw [ha, Array.toArray_toList] at h
  refine h.mono ?_
  rintro e w' ⟨u, rfl, ρ', _, _, _, hu, _, _, hfr⟩
  refine ⟨by rw [hu]; exact congrArg Ending.returned (hr ρ'), hfr.below fun b => ?_⟩
  rintro ⟨i, bk, hi, _⟩
  simp at hi
theorem degree_calls {n : Nat} (hn : n < 9223372036854775808) (h1 : 1 ≤ n) (h2 : n ≤ 10) (w : World) : Calls Try.prog 59 #[.int .i64 (n : Int)] w fun e w' => e = .returned (.bool true) ∧ Below w.heap.size w w' :=
  (degree n hn).calls fn_share_degree (fun _ => rfl) (fun _ => congrArg Value.bool (tr_t ⟨h1, h2⟩)) w
theorem scalars_calls (a : NumSl) (h : AllS a.l) {b cap : Nat} {w : World} {C : Array Value} {ty : TypeId} {z : Nat × Nat} (hb : w.heap[b]? = some (.cells C ty z)) (hC : a.R = C.toList) : Calls Try.prog 60 #[.slice (some ⟨b, a.o, none⟩) a.l.length cap] w fun e w' => e = .returned (.bool true) ∧ Below w.heap.size w w' :=
  Ct.Valid.callsV (scalars_ a) fn_share_scalars (b := b) (cap := cap) rfl (fun _ => congrArg Value.bool (tr_t h)) hb hC
set_option maxRecDepth 100000 in
set_option maxHeartbeats 4000000 in
theorem at_walk (a : NumSl) (x : Nat) (hx : x < pN false) (h1 : 1 ≤ a.l.length) (h10 : a.l.length ≤ 10) (hs : AllS a.l) (b cap : Nat) (w : World) (ty : TypeId) (z : Nat × Nat) (hb : w.heap[b]? = some (.cells a.R.toArray ty z)) (H : Nat) (hH : horn x (bk (fun k => ⟨a.l.getD k 0, alls_getD hs k⟩) a.l.length a.l.length) = H) :
    Calls Try.prog 28 #[.slice (some ⟨b, a.o, none⟩) a.l.length cap, num x] w fun e w' => e = .returned (.tuple #[num H, .int .i64 0]) ∧ Below w.heap.size w w' := by
  refine (callsIn_wide (n := 6)).1 ?_
  refine callsIn_of_wp_marks Try.func28 rfl trivial ?_ rfl
  simp only [Try.ntmps28, List.size_toArray, List.length_cons, List.length_nil, Nat.reduceAdd, Nat.reduceSub, Array.replicate_succ, Array.replicate_zero, List.push_toArray, List.append_toArray, List.nil_append, List.cons_append, num]
  gi_wp2_with fail
  refine ⟨trivial, (callsIn_wide.2 (degree_calls a.hn h1 h10 _)).mono ?_⟩
  rintro e w1 ⟨rfl, hB⟩
  have k4 := (Blk.newAt (n := w.heap.size + 1) _ _ _ (by simp)).after hB
  have k3 := ((Blk.newAt (n := w.heap.size) _ _ _ rfl).alloc _).after hB
  have bw := below_call hB (w := w) (by go_grown)
  have kb := (bw.block b (lt_of_heap hb)).trans hb
  clear hB
  obtain ⟨k3c, k3f, k3l, k3m, _⟩ := k3.knows
  gi_wp2_with fail
  refine ⟨trivial, (callsIn_wide.2 (scalars_calls a hs kb rfl)).mono ?_⟩
  rintro e w2 ⟨rfl, hB⟩
  clear k3c k3f k3l k3m
  replace k4 := k4.after hB
  replace k3 := k3.after hB
  have bwsz := Below.size bw
  replace bw := below_call hB (w := w) bw
  replace kb := (bw.block b (lt_of_heap hb)).trans hb
  clear hB bwsz
  obtain ⟨k3c, k3f, k3l, k3m, _⟩ := k3.knows
  gi_wp2_with fail
  refine ⟨trivial, (callsIn_wide.2 (scalars_calls (Sl.own (Ok := fun x => x < RR) lbs_len [x] (all_cons (lt_RR hx) all_nil) (by show 1 < _; decide)) (allS_one hx) (heap_alloc_new w2 _) rfl)).mono ?_⟩
  rintro e w3 ⟨rfl, hB⟩
  clear k3c k3f k3l k3m
  replace k4 := (k4.alloc _).after hB
  replace k3 := (k3.alloc _).after hB
  have bwsz := Below.size bw
  replace bw := below_call hB (w := w) (by go_grown)
  replace kb := (bw.block b (lt_of_heap hb)).trans hb
  clear hB bwsz
  obtain ⟨k3c, k3f, k3l, k3m, _⟩ := k3.knows
  gi_wp2_with fail
  refine ⟨trivial, (callsIn_wide.2 (scalars_made w3)).mono ?_⟩
  rintro e w4 ⟨f, g, rfl, hF, hB, hf1, hg1, hfg⟩
  clear k3c k3f k3l k3m
  replace k4 := k4.after hB
  replace k3 := k3.after hB
  replace bw := below_call hB (w := w) bw
  replace kb := (bw.block b (lt_of_heap hb)).trans hb
  clear hB
  obtain ⟨k3c, k3f, k3l, k3m, _⟩ := k3.knows
  gi_wp2_with fail
  refine ⟨trivial, (back_in _ _ trivial rfl _ _ _ _).mono ?_⟩
  rintro e w5 ⟨rfl, rfl⟩
  gi_wp2_with fail
  have l3 := k3.lt
  have l4 := k4.lt
  have lf := hF.1.lt
  have lg := hF.2.lt
  have lbb := lt_of_heap kb
  have hsz0 := bw.size
  obtain ⟨w5, hw5⟩ : ∃ w5, ((w4.alloc (Obj.cells #[Value.pointer (some ⟨f, 0, none⟩)] 95)).alloc (Obj.cells #[Value.int .u64 0, .int .u64 0, .int .u64 0, .int .u64 0] 24)).alloc (Obj.cells #[Value.slice (some ⟨b, a.o, none⟩) a.l.length cap] 68) = w5 := ⟨_, rfl⟩
  have e5 : w5.heap.size = w4.heap.size + 1 + 1 + 1 := by rw [← hw5]; simp
  have b5 : Below w4.heap.size w4 w5 := by rw [← hw5]; exact (((Below.refl _ _).alloc (Nat.le_refl _) _).alloc (by simp) _).alloc (by simp; omega) _
  have k6 : Blk w5 w4.heap.size 95 #[Value.pointer (some ⟨f, 0, none⟩)] := by rw [← hw5]; exact ((Blk.new _ _ _).alloc _).alloc _
  have k7 : Blk w5 (w4.heap.size + 1) 24 #[Value.int .u64 0, .int .u64 0, .int .u64 0, .int .u64 0] := by rw [← hw5]; exact (Blk.newAt _ _ _ (by simp)).alloc _
  have k8 : Blk w5 (w4.heap.size + 1 + 1) 68 #[Value.slice (some ⟨b, a.o, none⟩) a.l.length cap] := by rw [← hw5]; exact Blk.newAt _ _ _ (by simp)
  replace k3 := k3.after b5
  replace k4 := k4.after b5
  have kF : FieldB w5 f g false := ⟨hF.1.after b5, hF.2.below b5⟩
  have kb5 := (b5.block b lbb).trans kb
  have bw5 : Below w.heap.size w w5 := bw.trans (b5.mono hsz0)
  rw [hw5]
  obtain ⟨B, hB⟩ : ∃ B, B = w5.heap.size := ⟨_, rfl⟩
  refine wpIn_rangeFunc_ownH rfl (by decide) (gf := 81) (lb := #[.pointer (some ⟨w4.heap.size + 1 + 1, 0, none⟩)]) rfl trivial (enters_of Try.func81 (by kernel_rfl) rfl)
    (back_stops Fence.wide (6 - 1) trivial rfl (by decide) (w4.heap.size + 1 + 1) b a.o a.l.length cap (fun k => ⟨a.l.getD k 0, alls_getD hs k⟩) a.hn w5 (by omega) (by omega) (k8.cell 0) (fun j i hj hi => by
      rw [cell_of_row w5 b _ _ _ _ kb5]; simpa using sl_cell a hj hi))
    (fun h k => h.trans k) (fun W l o o' hl h hc hw => by
      have h1 : W.heap.size > l := (Array.getElem?_eq_some_iff.1 h).1
      exact ⟨World.putObj_heap_other (by omega), World.putObj_heap_other (by omega)⟩) (Below.refl _ _) (fun _ => rfl)
    (fun pre W => AtI w B w.heap.size (w.heap.size + 1) w4.heap.size (w4.heap.size + 1) f g x (horn x pre) W)
    (fun _ _ _ => False)
    (fun s W W' row k hg hr => by
      have hb' : ∀ q, q < B → W'.heap[q]? = W.heap[q]? := fun q hq => hg.block q (by have := k.sz; omega) (fun e => by have := (hr q e.symm).1; omega)
      exact k.kept hb' hg.size (by omega) (by omega) (by omega) (by omega) (by omega) (by omega) (k.bw.grown hg k.bw.size (fun q e => by have := (hr q e).1; omega)))
    (fun _ _ _ _ _ hs _ _ => hs)
    ⟨by rw [show horn x [] = 0 from rfl, lb_zero, lb_zero, lb_zero, lb_zero]; exact k7, k3, k4, k6, kF, by omega, bw5⟩
    (fun c a' W => ∃ Bx, B ≤ Bx ∧ Blk W Bx 24 #[.int .u64 (lb c.2.1 0), .int .u64 (lb c.2.1 1), .int .u64 (lb c.2.1 2), .int .u64 (lb c.2.1 3)] ∧ a' = { tmps := #[.slice (some ⟨b, a.o, none⟩) a.l.length cap, .agg #[.int .u64 (lb x 0), .int .u64 (lb x 1), .int .u64 (lb x 2), .int .u64 (lb x 3)], undef, .pointer (some ⟨w.heap.size, 0, none⟩), .pointer (some ⟨w.heap.size + 1, 0, none⟩), .int .i64 0, .pointer (some ⟨w4.heap.size, 0, none⟩), .pointer (some ⟨w4.heap.size + 1, 0, none⟩), undef, .pointer (some ⟨Bx, 0, none⟩), .slice (some ⟨b, a.o, none⟩) a.l.length cap, .int .i64 a.l.length, .bool true, .bool false, undef, .slice (some ⟨b, a.o, none⟩) a.l.length cap, .bool true, .bool false, .bool false, .agg #[.int .u64 (lb x 0), .int .u64 (lb x 1), .int .u64 (lb x 2), .int .u64 (lb x 3)], .slice (some ⟨w2.heap.size, 0, none⟩) 1 1, .bool true, .bool false, .bool false, undef, .pointer (some ⟨f, 0, none⟩), .slice (some ⟨b, a.o, none⟩) a.l.length cap, .func (.func 81) #[] #[.pointer (some ⟨w4.heap.size + 1 + 1, 0, none⟩)], .int .i64 c.1, .agg #[.int .u64 (lb c.2.1 0), .int .u64 (lb c.2.1 1), .int .u64 (lb c.2.1 2), .int .u64 (lb c.2.1 3)], undef, undef, undef, undef, undef, undef, undef, undef, undef, undef, undef, undef, undef, undef, undef], defers := [] })
    (fun c a' _ X Y row hs hg hr => by
      obtain ⟨Bx, g1, g2, g3⟩ := hs
      exact ⟨Bx, g1, (hg.block Bx g2.lt (fun e => by obtain ⟨_, o, ho, hc⟩ := hr Bx e.symm; rw [show X.heap[Bx]? = _ from g2] at ho; cases ho; cases hc)).trans g2, g3⟩)
    ?assign ?body ?done ?stop
  case assign =>
    rintro l pre c W K k hK
    gi_wp2
    have ha : ∀ q, q < B → (W.alloc (.cells #[.int .u64 (lb c.2.1 0), .int .u64 (lb c.2.1 1), .int .u64 (lb c.2.1 2), .int .u64 (lb c.2.1 3)] 24)).heap[q]? = W.heap[q]? := fun q hq => Below.heap_alloc W _ q (by have := k.sz; omega)
    exact hK _ _ ((KeepsOthers.alloc _ _).from _) ⟨ha b (by omega), ha _ (by omega)⟩ (k.kept ha (by simp) (by omega) (by omega) (by omega) (by omega) (by omega) (by omega) (k.bw.alloc k.bw.size _)) ⟨W.heap.size, k.sz, Blk.new W _ _, rfl⟩
  case body =>
    rintro l pre c a' W hl ⟨r, hr⟩ k ⟨Bx, hBx, kx, rfl⟩ hlt
    obtain ⟨k3c, k3f, k3l, k3m, _⟩ := k.k3.knows
    obtain ⟨k6c, k6f, k6l, k6m, _⟩ := k.k6.knows
    obtain ⟨k7c, k7f, k7l, k7m, _⟩ := k.k7.knows
    gi_wp2_with fail
    refine ⟨trivial, (CallsIn.inRound l (callsIn_wide.2 (fmul_yes k.kf _ _ (horn_lt x pre) hx))).mono ?_⟩
    rintro e W1 ⟨rfl, hB1⟩
    unfold num
    clear k3c k3f k3l k3m k6c k6f k6l k6m k7c k7f k7l k7m
    have m7 := k.k7.after hB1
    have m6 := k.k6.after hB1
    have mF : FieldB W1 f g false := ⟨k.kf.1.after hB1, k.kf.2.below hB1⟩
    have mx := kx.after hB1
    obtain ⟨k6c, k6f, k6l, k6m, _⟩ := m6.knows
    obtain ⟨k7c, k7f, k7l, k7m, _⟩ := m7.knows
    obtain ⟨kxc, kxf, kxl, kxm, _⟩ := mx.knows
    gi_wp2_with fail
    obtain ⟨W2, hW2⟩ := exists_eq' (a := (((W1.setCell ⟨w4.heap.size + 1, 0, none⟩ (.int .u64 (lb (fmlN false (horn x pre) x) 0))).setCell ⟨w4.heap.size + 1, 1, none⟩ (.int .u64 (lb (fmlN false (horn x pre) x) 1))).setCell ⟨w4.heap.size + 1, 2, none⟩ (.int .u64 (lb (fmlN false (horn x pre) x) 2))).setCell ⟨w4.heap.size + 1, 3, none⟩ (.int .u64 (lb (fmlN false (horn x pre) x) 3)))
    rw [hW2]
    obtain ⟨q1, q2, q3, q4, q5⟩ := four_set hW2
    clear k6c k6f k6l k6m k7c k7f k7l k7m kxc kxf kxl kxm
    have hszW := k.sz
    have hs1 := hB1.size
    replace m7 := q3 _ _ _ _ _ m7
    replace m6 : Blk W2 _ _ _ := (q1 _ (by omega)).trans m6
    replace mF : FieldB W2 f g false := ⟨(q1 _ (by omega)).trans mF.1, (q1 _ (by omega)).trans mF.2⟩
    replace mx : Blk W2 _ _ _ := (q1 _ (by omega)).trans mx
    refine ⟨trivial, (CallsIn.inRound l (callsIn_wide.2 (fadd_yes mF _ _ (fmlN_lt _ _ _) c.2.2))).mono ?_⟩
    rintro e W3 ⟨rfl, hB3⟩
    unfold num
    have n7 := m7.after hB3
    obtain ⟨k7c, k7f, k7l, k7m, _⟩ := n7.knows
    gi_wp2_with fail
    obtain ⟨W4, hW4⟩ := exists_eq' (a := (((W3.setCell ⟨w4.heap.size + 1, 0, none⟩ (.int .u64 (lb (fadN false (fmlN false (horn x pre) x) c.2.1) 0))).setCell ⟨w4.heap.size + 1, 1, none⟩ (.int .u64 (lb (fadN false (fmlN false (horn x pre) x) c.2.1) 1))).setCell ⟨w4.heap.size + 1, 2, none⟩ (.int .u64 (lb (fadN false (fmlN false (horn x pre) x) c.2.1) 2))).setCell ⟨w4.heap.size + 1, 3, none⟩ (.int .u64 (lb (fadN false (fmlN false (horn x pre) x) c.2.1) 3)))
    rw [hW4]
    obtain ⟨r1, r2, r3, r4, r5⟩ := four_set hW4
    have hs3 := hB3.size
    have hq : ∀ q, q < B → q ≠ w4.heap.size + 1 → W4.heap[q]? = W.heap[q]? := fun q hq hne => (r1 q hne).trans ((hB3.block q (by omega)).trans ((q1 q hne).trans (hB1.block q (by omega))))
    refine ⟨((((keeps_of_below hB1).trans q4).trans (keeps_of_below hB3)).trans r4).from _, ⟨hq b (by omega) (by omega), hq _ (by omega) (by omega)⟩, ?_⟩
    have e := horn_snoc x pre c
    refine ⟨by rw [e]; exact r3 _ _ _ _ _ n7, (hq _ (by omega) (by omega)).trans k.k3, (hq _ (by omega) (by omega)).trans k.k4, (hq _ (by omega) (by omega)).trans k.k6, ⟨(hq _ (by omega) (by omega)).trans k.kf.1, (hq _ (by omega) (by omega)).trans k.kf.2⟩, by omega, ?_⟩
    have b1 : Below w.heap.size w W1 := k.bw.trans (hB1.mono k.bw.size)
    have b2 := q5 _ _ (by omega) b1
    exact r5 _ _ (by omega) (b2.trans (hB3.mono b2.size))
  case done =>
    rintro D ys W hD rfl k hK
    rw [hH] at k
    obtain ⟨k7c, k7f, k7l, k7m, _⟩ := k.k7.knows
    obtain ⟨k4c, k4f, k4l, k4m, _⟩ := k.k4.knows
    gi_wp2_with fail
    obtain ⟨W4, hW4⟩ := exists_eq' (a := (((W.setCell ⟨w.heap.size + 1, 0, none⟩ (.int .u64 (lb H 0))).setCell ⟨w.heap.size + 1, 1, none⟩ (.int .u64 (lb H 1))).setCell ⟨w.heap.size + 1, 2, none⟩ (.int .u64 (lb H 2))).setCell ⟨w.heap.size + 1, 3, none⟩ (.int .u64 (lb H 3)))
    rw [hW4]
    obtain ⟨r1, r2, r3, r4, r5⟩ := four_set hW4
    clear k7c k7f k7l k7m k4c k4f k4l k4m
    have n4 := r3 _ _ _ _ _ k.k4
    have hK' := (r1 D (by omega)).trans hK
    have hB4 := r5 _ _ (by omega) k.bw
    refine ⟨by simp, .inl ⟨_, _, rfl, run_takeDeferred hK', ?_⟩⟩
    have m4 : Blk (W4.putObj D (.deferred none)) (w.heap.size + 1) 24 #[.int .u64 (lb H 0), .int .u64 (lb H 1), .int .u64 (lb H 2), .int .u64 (lb H 3)] := (World.putObj_heap_other (by omega)).trans n4
    obtain ⟨k4c, k4f, k4l, k4m, _⟩ := m4.knows
    refine ⟨_, ?_, rfl, hB4.trans (belowK_b (w := w) (Nat.le_refl _) _ D _ _ (by have := k.bw.size; have := bw5.size; omega) hK' rfl rfl)⟩
    simp [results, Try.f28, go_sem, k4c]
  case stop =>
    rintro D c pre W _ _ h _
    exact h.elim
/-! ### What it is -/
noncomputable def powK (x : Nat) : Nat → Nat
  | 0 => 1
  | k + 1 => fmlN false (powK x k) x
/-- Term by term. -/
noncomputable def evK (l : List Nat) (x : Nat) : Nat → Nat
  | 0 => 0
  | k + 1 => fadN false (evK l x k) (fmlN false (l.getD k 0) (powK x k))
theorem powK_lt (x k : Nat) : powK x k < pN false := by
  cases k with
  | zero => exact pN_one _
  | succ k => exact fmlN_lt _ _ _
theorem evK_lt (l : List Nat) (x k : Nat) : evK l x k < pN false := by
  cases k with
  | zero => exact pN_pos _
  | succ k => exact fadN_lt _ _ _
/-- k terms from term o on. -/
noncomputable def trm (l : List Nat) (x o : Nat) : Nat → Fin (pN false)
  | 0 => 0
  | k + 1 => tf false (l.getD o 0) + tf false x * trm l x (o + 1) k
theorem trm_last (l : List Nat) (x : Nat) : ∀ (k o : Nat), trm l x o (k + 1) = trm l x o k + tf false (l.getD (o + k) 0) * tf false (powK x k)
  | 0, o => by
    unfold trm; unfold trm; unfold powK
    rw [tf_one, Nat.add_zero]; grobner
  | k + 1, o => by
    have ih := trm_last l x k (o + 1)
    rw [show trm l x o (k + 1 + 1) = tf false (l.getD o 0) + tf false x * trm l x (o + 1) (k + 1) from rfl, ih, show trm l x o (k + 1) = tf false (l.getD o 0) + tf false x * trm l x (o + 1) k from rfl, show powK x (k + 1) = fmlN false (powK x k) x from rfl, tf_mul, show o + 1 + k = o + (k + 1) by omega]
    grobner
theorem evK_trm (l : List Nat) (x : Nat) : ∀ k, tf false (evK l x k) = trm l x 0 k
  | 0 => tf_zero false
  | k + 1 => by
    rw [trm_last, ← evK_trm l x k, show evK l x (k + 1) = fadN false (evK l x k) (fmlN false (l.getD k 0) (powK x k)) from rfl, tf_add, tf_mul, Nat.zero_add]
theorem horn_trm {l : List Nat} (hs : AllS l) (x : Nat) : ∀ k, k ≤ l.length → tf false (horn x (bk (fun k => ⟨l.getD k 0, alls_getD hs k⟩) l.length k)) = trm l x (l.length - k) k
  | 0, _ => tf_zero false
  | k + 1, h => by
    rw [bk_succ, horn_snoc, tf_add, tf_mul, horn_trm hs x k (by omega), show trm l x (l.length - (k + 1)) (k + 1) = tf false (l.getD (l.length - (k + 1)) 0) + tf false x * trm l x (l.length - (k + 1) + 1) k from rfl, show l.length - (k + 1) + 1 = l.length - k by omega, show l.length - (k + 1) = l.length - 1 - k by omega]
    grobner
theorem horn_evK {l : List Nat} (hs : AllS l) (x : Nat) : horn x (bk (fun k => ⟨l.getD k 0, alls_getD hs k⟩) l.length l.length) = evK l x l.length :=
  tf_inj false (horn_lt _ _) (evK_lt _ _ _) (by rw [horn_trm hs x _ (Nat.le_refl _), evK_trm, Nat.sub_self])
theorem fn_share_At : FnIs Try.prog 28 Try.f28 := ⟨Try.func28, by kernel_rfl, by kernel_rfl, by kernel_rfl⟩
def C_at_yes : Ct := ⟨(.cons (.sli 0 (.ev 0 0) 0 (.ev 1 0) (.rc 0)) (.cons (nS 2) .nil)), [.view 3], [], [], .tup (.cons (nS 4) (.cons (.lit .i64 0) .nil))⟩
theorem at_yes (a : NumSl) (x : Nat) (h1 : 1 ≤ a.l.length ∧ a.l.length ≤ 10) (hs : AllS a.l) (hx : x < pN false) : RX.Ct.Valid Try.prog 28 C_at_yes ⟨[nI a.o, nI a.l.length, lbs x, a.R, lbs (evK a.l x a.l.length)], []⟩ := by
  intro ρ w hpre
  obtain ⟨rest, ty, z, h0⟩ := hpre.2 0 (.view 3) rfl
  have h0' : w.heap[(ρ 0).1]? = some (.cells (a.R ++ rest).toArray ty z) := h0
  rw [callFunc_enter fn_share_At.at_ fn_share_At.name fn_share_At.body]
  show Calls Try.prog 28 #[.slice (some ⟨(ρ 0).1, a.o + 0, none⟩) a.l.length _, num x] w _
  refine (at_walk ⟨a.R ++ rest, a.o, a.l, ld_spare a.h (flat_len lbs_len _), a.ok, a.hn⟩ x hx h1.1 h1.2 hs (ρ 0).1 _ w ty z h0' _ (horn_evK hs x)).mono ?_
  rintro e w' ⟨rfl, hb⟩
  exact ⟨_, rfl, ρ, fun _ _ => rfl, fun j hj => by simp [C_at_yes] at hj, fun i j hi => by simp [C_at_yes] at hi, rfl, fun i bk hb => by simp [C_at_yes] at hb, fun j bk hb => by simp [C_at_yes] at hb, Fr.of_below hb _⟩
end Go.Proofs.Ytbmokmkaebfneaa
