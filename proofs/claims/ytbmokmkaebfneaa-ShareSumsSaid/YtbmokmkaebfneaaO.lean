/- A statement that draws its order, whose operations only read, call and make memory, and end in stores: one walk, in the text's order. What each operation gives is the same in every world that has grown out of the one at hand. Steps of a region that makes memory, in an order of our own (no program here). A statement that draws its order, whose operations read, call, make memory and store: one walk, in an order of our own. An operation is firm (0: it gives the same in every world that has grown), pure (1: it gives the same in every world, and leaves the world) or loose (2: it stands alone when its turn comes; also a store). -/
import Derived.StillTail
import Derived.Below
import Derived.KernelRfl
import Derived.WalkKit
import Derived.StillTactics
import Derived.Deep.Draws
namespace Go.Proofs.Ytbmokmkaebfneaa
set_option linter.unusedVariables false
set_option linter.unusedSimpArgs false
open Go.RowKit

/-- w' is w with more memory. -/
def Grow (w w' : World) : Prop := Below w.heap.size w w'
theorem Grow.refl (w : World) : Grow w w := Below.refl _ _
theorem Grow.trans {a b c : World} (h : Grow a b) (k : Grow b c) : Grow a c := Below.trans h (Below.mono k h.size)

section
variable {P : Program} {ops : Array Oper} {md : Region.Mode}

def growUpon (P : Program) (next : Value → World → Prop) : Result Next → Prop
  | .ok (.value v) w' => next v w'
  | .ok .skip w' => next undef w'
  | .ok (.enter f args) w' => Calls P f args w' fun e w'' => ∃ v, e = .returned v ∧ next v w''
  | _ => False
def growOp (P : Program) (o : Oper) (a : Act) (w : World) (next : Value → World → Prop) : Prop := growUpon P next ((execOp a.eval o).run P w)
theorem growUpon_mono {next next' : Value → World → Prop} (h : ∀ v w, next v w → next' v w) {r : Result Next} (hh : growUpon P next r) : growUpon P next' r := by
  cases r with
  | ok n w' =>
    cases n <;> simp only [growUpon] at hh ⊢
    case value v => exact h _ _ hh
    case skip => exact h _ _ hh
    case enter f args => exact hh.mono fun e w'' ⟨v, he, hn⟩ => ⟨v, he, h _ _ hn⟩
  | halt x w' => simp only [growUpon] at hh

def gOp (P : Program) (ops : Array Oper) (i : Nat) (K : Act → World → Prop) (a : Act) (w : World) : Prop :=
  match ops[i]? with
  | none => K a w
  | some o => if Region.wanted o (yielded ops a.tmps) then growOp P o a w (fun v w' => Grow w w' ∧ K (a.put o.dst v) w') else K (a.put o.dst undef) w
theorem gOp_mono {i : Nat} {a : Act} {w : World} {K K' : Act → World → Prop} (h : ∀ a w, K a w → K' a w) (hh : gOp P ops i K a w) : gOp P ops i K' a w := by
  unfold gOp at *
  split
  · exact h _ _ (by simpa [*] using hh)
  · rename_i o ho
    simp only [ho] at hh
    split
    · rename_i hw; simp only [hw, if_true] at hh; exact growUpon_mono (fun v w' h' => ⟨h'.1, h _ _ h'.2⟩) hh
    · rename_i hw; simp only [hw] at hh; exact h _ _ hh
theorem wp_of_growOp {o : Oper} {a : Act} {w : World} {K K' : Act → World → Prop} {Q' : Exit → Act → World → Prop} (h : ∀ a w, K a w → K' a w) (hh : growOp P o a w (fun v w' => Grow w w' ∧ K (a.put o.dst v) w')) : o.wp P a w K' Q' := by
  unfold growOp at hh
  unfold Oper.wp
  generalize (execOp a.eval o).run P w = r at *
  cases r with
  | ok n w' =>
    cases n <;> simp only [growUpon] at hh <;> simp only [Oper.upon]
    case enter f args => exact hh.mono fun e w'' ⟨v, he, hn⟩ => by subst he; exact h _ _ hn.2
    all_goals exact h _ _ hh.2
  | halt x w' => simp only [growUpon] at hh
theorem wpOp_of_gOp {i : Nat} {a : Act} {w : World} {K K' : Act → World → Prop} {Q' : Exit → Act → World → Prop} (h : ∀ a w, K a w → K' a w) (hh : gOp P ops i K a w) : wpOp P ops Q' i K' a w := by
  unfold gOp at hh
  unfold wpOp
  split
  · rename_i ho; simp only [ho] at hh; exact h _ _ hh
  · rename_i o ho
    simp only [ho] at hh
    split
    · rename_i hw; simp only [hw, if_true] at hh; exact .inl (wp_of_growOp h hh)
    · rename_i hw; simp only [hw] at hh; exact h _ _ hh

/-- In every world that has grown out of w, operation o gives v, and the world grows. -/
def YieldsG (P : Program) (ops : Array Oper) (w : World) (o : Oper) (v : Value) (a : Act) : Prop :=
  (Region.wanted o (yielded ops a.tmps) = true ∧ ∀ w', Grow w w' → growOp P o a w' (fun u w'' => u = v ∧ Grow w' w'')) ∨
  (Region.wanted o (yielded ops a.tmps) = false ∧ v = undef)
theorem YieldsG.later {w w1 : World} {o : Oper} {v : Value} {a : Act} (h : YieldsG P ops w o v a) (hg : Grow w w1) : YieldsG P ops w1 o v a := by
  rcases h with ⟨h1, h2⟩ | h
  · exact .inl ⟨h1, fun w' hw' => h2 w' (hg.trans hw')⟩
  · exact .inr h
theorem YieldsG.of_same {w : World} {o : Oper} {v : Value} {a a' : Act} (hy : YieldsG P ops w o v a) (he : execOp a'.eval o = execOp a.eval o)
    (hw : Region.wanted o (yielded ops a'.tmps) = Region.wanted o (yielded ops a.tmps)) : YieldsG P ops w o v a' := by
  unfold YieldsG growOp at *
  rw [he, hw]
  exact hy
theorem YieldsG.gOp {w w' : World} {i : Nat} {o : Oper} {v : Value} {a : Act} (hi : ops[i]? = some o) (hy : YieldsG P ops w o v a) (hg : Grow w w') {K : Act → World → Prop} (h : ∀ w'', Grow w' w'' → K (a.put o.dst v) w'') : gOp P ops i K a w' := by
  unfold Go.Proofs.Ytbmokmkaebfneaa.gOp
  simp only [hi]
  rcases hy with ⟨hw, hv⟩ | ⟨hw, rfl⟩
  · simp only [hw, if_true]
    exact growUpon_mono (fun u w'' hu => ⟨hu.2, by rw [hu.1]; exact h _ hu.2⟩) (hv w' hg)
  · simp only [hw, Bool.false_eq_true, if_false]; exact h _ (Grow.refl _)
theorem gOp_put {w : World} {j : Nat} {oi oj : Oper} {v : Value} (hj : ops[j]? = some oj) (hap : oi.apart ops oj = true)
    (hsi : ∀ cs b, oi.op ≠ .select cs b) (hsj : ∀ cs b, oj.op ≠ .select cs b) {K : Act → World → Prop} {a : Act}
    (hy : YieldsG P ops w oi v a) (h : gOp P ops j K (a.put oi.dst v) w) :
    gOp P ops j (fun a' w' => YieldsG P ops w' oi v a' ∧ K (a'.put oi.dst v) w') a w := by
  obtain ⟨h1, h2, h3⟩ := Oper.apart_spec hap
  have keep : ∀ (w' : World), Grow w w' → ∀ u, YieldsG P ops w' oi v (a.put oj.dst u) := fun w' hw' u =>
    (hy.later hw').of_same (execOp_put oi hsi a oj.dst u h3) (wanted_put oi a oj.dst u h3)
  unfold gOp at *
  simp only [hj] at *
  rw [wanted_put oj a oi.dst v h1] at h
  split
  · rename_i hw
    simp only [hw, if_true] at h
    unfold growOp at *
    rw [execOp_put oj hsj a oi.dst v h1] at h
    exact growUpon_mono (fun u w' hu => ⟨hu.1, keep w' hu.1 u, by rw [← Act.put_comm a v u h2]; exact hu.2⟩) h
  · rename_i hw
    simp only [hw] at h
    exact ⟨keep w (Grow.refl _) _, by rw [← Act.put_comm a v undef h2]; exact h⟩

/-- The head of a region: whatever order, and whatever memory has been made besides. -/
def wpAnyG (P : Program) (md : Region.Mode) (ops : Array Oper) (n : Nat) (L : Array Bool → Act → World → Prop) : Nat → Array Bool → Act → World → Prop
  | 0, listed, a, w => ∀ w', Grow w w' → L listed a w'
  | f + 1, listed, a, w => ∀ w', Grow w w' → Region.ready md ops listed ≠ [] ∧ ∀ i ∈ Region.ready md ops listed, i < n ∧ gOp P ops i (wpAnyG P md ops n L f (listed.setIfInBounds i true)) a w'
theorem wpAnyG_later {n : Nat} {L : Array Bool → Act → World → Prop} {f : Nat} {listed : Array Bool} {a : Act} {w w1 : World} (h : wpAnyG P md ops n L f listed a w) (hg : Grow w w1) : wpAnyG P md ops n L f listed a w1 := by
  cases f with
  | zero => exact fun w' hw' => h w' (hg.trans hw')
  | succ f => exact fun w' hw' => h w' (hg.trans hw')
theorem wpAny_of_headG {n g : Nat} {L : Array Bool → Act → World → Prop} {Q' : Exit → Act → World → Prop} (hL : ∀ listed a w, L listed a w → wpAny P md ops Q' g listed a w) :
    ∀ (f : Nat) (listed : Array Bool) (a : Act) (w : World), wpAnyG P md ops n L f listed a w → wpAny P md ops Q' (f + g) listed a w
  | 0, listed, a, w, h => by rw [Nat.zero_add]; exact hL _ _ _ (h w (Grow.refl _))
  | f + 1, listed, a, w, h => by
    rw [show f + 1 + g = (f + g) + 1 by omega]
    have h1 := h w (Grow.refl _)
    exact ⟨fun h0 => absurd h0 h1.1, fun i hi => wpOp_of_gOp (fun a' w' h' => wpAny_of_headG hL f _ a' w' h') (h1.2 i hi).2⟩
theorem wpAnyG_first {n i : Nat} {oi : Oper} {v : Value} {L : Array Bool → Act → World → Prop} (hi : ops[i]? = some oi) (hsel : ∀ (j : Nat) (o : Oper) cs b, ops[j]? = some o → o.op ≠ .select cs b)
    (hs : Region.sinkB md ops n = true) (hc : Region.chainB md ops n = true) (hn : n < ops.size) (hin : i < n)
    (hdone : ∀ listed a w, L listed a w → ∀ j ∈ Region.ready md ops listed, n ≤ j) :
    ∀ (f : Nat) (listed : Array Bool) (a : Act) (w : World), HeadInv md ops n listed →
      (∀ j oj, ops[j]? = some oj → j ≠ i → listed.getD j true = false → (∀ e ∈ oj.after, Region.binds md e = true → e.on ≠ i) → oi.apart ops oj = true) →
      i ∈ Region.ready md ops listed → YieldsG P ops w oi v a →
      wpAnyG P md ops n L f (listed.setIfInBounds i true) (a.put oi.dst v) w → wpAnyG P md ops n L (f + 1) listed a w := by
  intro f
  induction f with
  | zero =>
    intro listed a w inv _ hr hy H w' hw'
    have hun := (mem_ready.1 hr).1
    refine ⟨fun h => (by rw [h] at hr; cases hr), fun j hj => ?_⟩
    have hjn : j < n := by
      rcases Nat.lt_or_ge j n with h | h
      · exact h
      · exact absurd hj (tail_waits hs hc hn inv _ i rfl hin hun j h)
    refine ⟨hjn, ?_⟩
    by_cases hji : j = i
    · subst hji; exact hy.gOp hi hw' (fun w'' hg => wpAnyG_later H (hw'.trans hg))
    · have := hdone _ _ _ (H w' hw') j (ready_mono hj hji)
      omega
  | succ f ih =>
    intro listed a w inv hfree hr hy H w' hw'
    have hun := (mem_ready.1 hr).1
    refine ⟨fun h => (by rw [h] at hr; cases hr), fun j hj => ?_⟩
    have hjn : j < n := by
      rcases Nat.lt_or_ge j n with h | h
      · exact h
      · exact absurd hj (tail_waits hs hc hn inv _ i rfl hin hun j h)
    refine ⟨hjn, ?_⟩
    by_cases hji : j = i
    · subst hji; exact hy.gOp hi hw' (fun w'' hg => wpAnyG_later H (hw'.trans hg))
    · have h1 := ((H w' hw').2 j (ready_mono hj hji)).2
      obtain ⟨hjun, oj, hoj, hall⟩ := mem_ready.1 hj
      have hnot : ∀ e ∈ oj.after, Region.binds md e = true → e.on ≠ i := fun e he hb heq => by
        have h1 := hall e he hb
        rw [heq, getD_both hun] at h1
        cases h1
      have h2 := gOp_put hoj (hfree j oj hoj hji hjun hnot) (fun cs b => hsel i oi cs b hi) (fun cs b => hsel j oj cs b hoj) (hy.later hw') h1
      have hfree' : ∀ k ok, ops[k]? = some ok → k ≠ i → (listed.setIfInBounds j true).getD k true = false →
          (∀ e ∈ ok.after, Region.binds md e = true → e.on ≠ i) → oi.apart ops ok = true := fun k ok hk hki hun hno => by
        refine hfree k ok hk hki ?_ hno
        by_cases hjk : j = k
        · subst hjk; exact hjun
        · rw [getD_set_ne true hjk] at hun; exact hun
      refine gOp_mono (fun a' w2 h3 => ih (listed.setIfInBounds j true) a' w2 (inv.set hj hjn) hfree' (ready_mono hr (Ne.symm hji)) h3.1 ?_) h2
      rw [Array.setIfInBounds_comm _ _ hji]
      exact h3.2

/-- The head in an order of our own: the operations by their numbers. A firm one gives one value; a loose one (an alloc) stands alone when its turn comes. -/
def wpGrow (P : Program) (ops : Array Oper) (Lq : Act → World → Prop) : List (Nat × Bool) → Act → World → Prop
  | [], a, w => ∀ w', Grow w w' → Lq a w'
  | (i, true) :: is, a, w => ∃ o v, ops[i]? = some o ∧ YieldsG P ops w o v a ∧ wpGrow P ops Lq is (a.put o.dst v) w
  | (i, false) :: is, a, w => ∀ w', Grow w w' → gOp P ops i (wpGrow P ops Lq is) a w'
def headB (md : Region.Mode) (ops : Array Oper) (g n : Nat) : List (Nat × Bool) → Array Bool → Bool
  | [], listed => Region.seqB md ops g n listed
  | (i, true) :: is, listed => decide (i < n) && (Region.ready md ops listed).contains i && Region.free md ops listed i && headB md ops g n is (listed.setIfInBounds i true)
  | (i, false) :: is, listed => decide (i < n) && decide (Region.ready md ops listed = [i]) && headB md ops g n is (listed.setIfInBounds i true)
theorem wpAnyG_of_grow {n g : Nat} {Lq : Act → World → Prop} (hsel : Region.noSelect ops = true) (hs : Region.sinkB md ops n = true) (hc : Region.chainB md ops n = true) (hn : n < ops.size) :
    ∀ (is : List (Nat × Bool)) (listed : Array Bool) (a : Act) (w : World), HeadInv md ops n listed → headB md ops g n is listed = true → wpGrow P ops Lq is a w →
    wpAnyG P md ops n (fun listed' a' w' => Region.seqB md ops g n listed' = true ∧ Lq a' w') is.length listed a w
  | [], listed, a, w, _, hB, h => fun w' hw' => ⟨by simpa [headB] using hB, h w' hw'⟩
  | (i, true) :: is, listed, a, w, inv, hB, h => by
    simp only [headB, Bool.and_eq_true, decide_eq_true_eq] at hB
    obtain ⟨⟨⟨hin, hr⟩, hf⟩, hB'⟩ := hB
    obtain ⟨o, v, ho, hy, hK⟩ := h
    have hr' : i ∈ Region.ready md ops listed := by simpa using hr
    exact wpAnyG_first ho (Region.noSelect_spec hsel) hs hc hn hin (fun listed' a' w' hL => seqB_ready hL.1) is.length listed a w inv (Region.free_spec ho hf) hr' hy
      (wpAnyG_of_grow hsel hs hc hn is _ _ w (inv.set hr' hin) hB' hK)
  | (i, false) :: is, listed, a, w, inv, hB, h => by
    simp only [headB, Bool.and_eq_true, decide_eq_true_eq] at hB
    obtain ⟨⟨hin, hr⟩, hB'⟩ := hB
    have hr' : i ∈ Region.ready md ops listed := by rw [hr]; simp
    intro w' hw'
    refine ⟨fun h0 => (by rw [h0] at hr'; cases hr'), fun j hj => ?_⟩
    rw [hr] at hj
    obtain rfl : j = i := by simpa using hj
    exact ⟨hin, gOp_mono (fun a' w2 h2 => wpAnyG_of_grow hsel hs hc hn is _ a' w2 (inv.set hr' hin) hB' h2) (h w' hw')⟩
def growB (md : Region.Mode) (ops : Array Oper) (n : Nat) (is : List (Nat × Bool)) : Bool :=
  Region.noSelect ops && decide (n < ops.size) && Region.sinkB md ops n && Region.chainB md ops n && decide (is.length = n) && headB md ops (ops.size - n) n is (Array.replicate ops.size false)
theorem wp_region_grow {id : Nat} {Q : Exit → Act → World → Prop} {a : Act} {w : World} {l : List Oper} (n : Nat) (is : List (Nat × Bool)) (hm : P.follows .mixedOrders = true) (hB : growB .any l.toArray n is = true)
    (h : wpGrow P l.toArray (fun a' w' => wpList P l.toArray Q (l.drop n) a' w') is a w.drew) : (Code.region id l.toArray true).wp P Q a w := by
  simp only [growB, Bool.and_eq_true, decide_eq_true_eq] at hB
  obtain ⟨⟨⟨⟨⟨hsel, hn⟩, hs⟩, hc⟩, hlen⟩, hhead⟩ := hB
  have hn' : n < l.length := by simpa using hn
  have hdl : (l.drop n).length = l.toArray.size - n := by simp
  have inv0 : HeadInv .any l.toArray n (Array.replicate l.toArray.size false) :=
    ⟨by simp, fun j oj _ hl => (by rw [getD_replicate_false] at hl; cases hl), fun t _ ht => getD_in (by simpa using ht) (getD_replicate_false _ _)⟩
  have H := wpAnyG_of_grow (md := .any) (g := l.toArray.size - n) hsel hs hc hn is _ a w.drew inv0 hhead h
  refine wp_region_any hm ?_
  have := wpAny_of_headG (Q' := Q) (g := l.toArray.size - n) (fun listed a' w' hL => by
    have := wpAny_of_seq (md := .any) (Q' := Q) (l.drop n) n listed a' w' (fun j => by simp [List.getElem?_drop]) (by rw [hdl]; exact hL.1) hL.2
    rwa [hdl] at this) _ _ _ _ H
  rw [hlen, show n + (l.toArray.size - n) = l.toArray.size by omega] at this
  exact this
theorem grow_step {Lq : Act → World → Prop} {i : Nat} {is : List (Nat × Bool)} {o : Oper} {v : Value} {a : Act} {w : World} (ho : ops[i]? = some o)
    (h : ∀ w', Grow w w' → if Region.wanted o (yielded ops a.tmps) then growOp P o a w' (fun u w'' => u = v ∧ Grow w' w'') else v = undef)
    (hr : wpGrow P ops Lq is (a.put o.dst v) w) : wpGrow P ops Lq ((i, true) :: is) a w := by
  refine ⟨o, v, ho, ?_, hr⟩
  by_cases hw : Region.wanted o (yielded ops a.tmps) = true
  · exact .inl ⟨hw, fun w' hw' => by have := h w' hw'; rwa [if_pos hw] at this⟩
  · have := h w (Grow.refl _)
    rw [if_neg hw] at this
    exact .inr ⟨by simpa using hw, this⟩
theorem grow_loose {Lq : Act → World → Prop} {i : Nat} {is : List (Nat × Bool)} {o : Oper} {a : Act} {w : World} (ho : ops[i]? = some o)
    (h : ∀ w', Grow w w' → if Region.wanted o (yielded ops a.tmps) then growOp P o a w' (fun v w'' => Grow w' w'' ∧ wpGrow P ops Lq is (a.put o.dst v) w'') else wpGrow P ops Lq is (a.put o.dst undef) w') :
    wpGrow P ops Lq ((i, false) :: is) a w := by
  intro w' hw'
  unfold gOp
  simp only [ho]
  exact h w' hw'
theorem grow_end {Lq : Act → World → Prop} {a : Act} {w : World} (h : ∀ w', Grow w w' → Lq a w') : wpGrow P ops Lq [] a w := h
theorem growUpon_value (next : Value → World → Prop) (v : Value) (w : World) : growUpon P next (.ok (.value v) w) = next v w := rfl
theorem growUpon_skip (next : Value → World → Prop) (w : World) : growUpon P next (.ok .skip w) = next undef w := rfl
theorem growUpon_enter (next : Value → World → Prop) (f : FuncId) (args : Array Value) (w : World) : growUpon P next (.ok (.enter f args) w) = Calls P f args w fun e w'' => ∃ v, e = .returned v ∧ next v w'' := rfl
theorem growOp_eq (o : Oper) (a : Act) (w : World) (next : Value → World → Prop) : growOp P o a w next = growUpon P next ((execOp a.eval o).run P w) := rfl
attribute [go_sem] growUpon_value growUpon_skip growUpon_enter growOp_eq
end
end Go.Proofs.Ytbmokmkaebfneaa
namespace Go.Proofs.Ytbmokmkaebfneaa
set_option linter.unusedVariables false
set_option linter.unusedSimpArgs false
open Go

section
variable {P : Program} {ops : Array Oper}
theorem growOp_of_k {o : Oper} {a : Act} {w' : World} {v : Value} (h : ∀ K : Value → World → Prop, (∀ w'', Grow w' w'' → K v w'') → growOp P o a w' K) : growOp P o a w' (fun u w'' => u = v ∧ Grow w' w'') := h _ fun _ hg => ⟨rfl, hg⟩
theorem grow_k {l : List Oper} {Lq : Act → World → Prop} {i : Nat} {is : List (Nat × Bool)} {o : Oper} {v : Value} {a : Act} {w : World} (ho : l[i]? = some o)
    (h : ∀ (K : Value → World → Prop) w', Grow w w' → (∀ w'', Grow w' w'' → K v w'') → if Region.wanted o (yielded l.toArray a.tmps) then growOp P o a w' K else K undef w')
    (hr : wpGrow P l.toArray Lq is (a.put o.dst v) w) : wpGrow P l.toArray Lq ((i, true) :: is) a w := by
  refine grow_step (v := v) (by simpa using ho) (fun w' hg => ?_) hr
  split
  · rename_i hw
    refine growOp_of_k fun K hK => ?_
    have := h K w' hg hK
    rwa [if_pos hw] at this
  · rename_i hw
    have := h (fun u _ => u = v) w' hg (fun _ _ => rfl)
    rw [if_neg hw] at this
    exact this.symm
theorem grow_l {l : List Oper} {Lq : Act → World → Prop} {i : Nat} {is : List (Nat × Bool)} {o : Oper} {a : Act} {w : World} (ho : l[i]? = some o)
    (h : ∀ (K : Value → World → Prop) w', Grow w w' → (∀ v w'', Grow w' w'' → wpGrow P l.toArray Lq is (a.put o.dst v) w'' → K v w'') → if Region.wanted o (yielded l.toArray a.tmps) then growOp P o a w' K else K undef w') :
    wpGrow P l.toArray Lq ((i, false) :: is) a w := by
  refine grow_loose (by simpa using ho) fun w' hg => ?_
  split
  · rename_i hw
    have := h (fun v w'' => Grow w' w'' ∧ wpGrow P l.toArray Lq is (a.put o.dst v) w'') w' hg (fun v w'' hg' hr => ⟨hg', hr⟩)
    rwa [if_pos hw] at this
  · rename_i hw
    have := h (fun v w'' => v = undef → w'' = w' → wpGrow P l.toArray Lq is (a.put o.dst undef) w') w' hg (fun v w'' hg' hr e1 e2 => by subst e1; subst e2; exact hr)
    rw [if_neg hw] at this
    exact this rfl rfl
end
end Go.Proofs.Ytbmokmkaebfneaa
namespace Go.Proofs.Ytbmokmkaebfneaa
set_option linter.unusedVariables false
set_option linter.unusedSimpArgs false
open Go.RowKit

section
variable {P : Program} {ops : Array Oper} {md : Region.Mode}

/-- What an operation does to the world: a store whatever it does, another one makes memory alone. -/
def eff (st : List Nat) (i : Nat) (w w' : World) : Prop := st.contains i = false → Grow w w'
def sOp (P : Program) (ops : Array Oper) (st : List Nat) (i : Nat) (K : Act → World → Prop) (a : Act) (w : World) : Prop :=
  match ops[i]? with
  | none => K a w
  | some o => if Region.wanted o (yielded ops a.tmps) then growOp P o a w (fun v w' => eff st i w w' ∧ K (a.put o.dst v) w') else K (a.put o.dst undef) w
theorem sOp_mono {st : List Nat} {i : Nat} {a : Act} {w : World} {K K' : Act → World → Prop} (h : ∀ a w, K a w → K' a w) (hh : sOp P ops st i K a w) : sOp P ops st i K' a w := by
  unfold sOp at *
  split
  · exact h _ _ (by simpa [*] using hh)
  · rename_i o ho
    simp only [ho] at hh
    split
    · rename_i hw; simp only [hw, if_true] at hh; exact growUpon_mono (fun v w' h' => ⟨h'.1, h _ _ h'.2⟩) hh
    · rename_i hw; simp only [hw] at hh; exact h _ _ hh
theorem wp_of_growOp_ {E : World → Prop} {o : Oper} {a : Act} {w : World} {K K' : Act → World → Prop} {Q' : Exit → Act → World → Prop} (h : ∀ a w, K a w → K' a w) (hh : growOp P o a w (fun v w' => E w' ∧ K (a.put o.dst v) w')) : o.wp P a w K' Q' := by
  unfold growOp at hh
  unfold Oper.wp
  generalize (execOp a.eval o).run P w = r at *
  cases r with
  | ok n w' =>
    cases n <;> simp only [growUpon] at hh <;> simp only [Oper.upon]
    case enter f args => exact hh.mono fun e w'' ⟨v, he, hn⟩ => by subst he; exact h _ _ hn.2
    all_goals exact h _ _ hh.2
  | halt x w' => simp only [growUpon] at hh
theorem wpOp_of_sOp {st : List Nat} {i : Nat} {a : Act} {w : World} {K K' : Act → World → Prop} {Q' : Exit → Act → World → Prop} (h : ∀ a w, K a w → K' a w) (hh : sOp P ops st i K a w) : wpOp P ops Q' i K' a w := by
  unfold sOp at hh
  unfold wpOp
  split
  · rename_i ho; simp only [ho] at hh; exact h _ _ hh
  · rename_i o ho
    simp only [ho] at hh
    split
    · rename_i hw; simp only [hw, if_true] at hh; exact .inl (wp_of_growOp_ h hh)
    · rename_i hw; simp only [hw] at hh; exact h _ _ hh

/-- Firm, or pure (p): what the operation gives. -/
def YieldsK (p : Bool) (P : Program) (ops : Array Oper) (w : World) (o : Oper) (v : Value) (a : Act) : Prop :=
  (Region.wanted o (yielded ops a.tmps) = true ∧ ∀ w', (p = true ∨ Grow w w') → growOp P o a w' (fun u w'' => u = v ∧ Grow w' w'' ∧ (p = true → w'' = w'))) ∨
  (Region.wanted o (yielded ops a.tmps) = false ∧ v = undef)
theorem YieldsK.later {p : Bool} {w w1 : World} {o : Oper} {v : Value} {a : Act} (h : YieldsK p P ops w o v a) (hg : p = true ∨ Grow w w1) : YieldsK p P ops w1 o v a := by
  rcases h with ⟨h1, h2⟩ | h
  · refine .inl ⟨h1, fun w' hw' => h2 w' ?_⟩
    rcases hg with hg | hg
    · exact .inl hg
    · rcases hw' with hw' | hw'
      · exact .inl hw'
      · exact .inr (hg.trans hw')
  · exact .inr h
theorem YieldsK.of_same {p : Bool} {w : World} {o : Oper} {v : Value} {a a' : Act} (hy : YieldsK p P ops w o v a) (he : execOp a'.eval o = execOp a.eval o)
    (hw : Region.wanted o (yielded ops a'.tmps) = Region.wanted o (yielded ops a.tmps)) : YieldsK p P ops w o v a' := by
  unfold YieldsK growOp at *
  rw [he, hw]
  exact hy
theorem YieldsK.sOp {p : Bool} {st : List Nat} {w w' : World} {i : Nat} {o : Oper} {v : Value} {a : Act} (hi : ops[i]? = some o) (hy : YieldsK p P ops w o v a) (hg : Grow w w') {K : Act → World → Prop} (h : ∀ w'', Grow w' w'' → K (a.put o.dst v) w'') : sOp P ops st i K a w' := by
  unfold Go.Proofs.Ytbmokmkaebfneaa.sOp
  simp only [hi]
  rcases hy with ⟨hw, hv⟩ | ⟨hw, rfl⟩
  · simp only [hw, if_true]
    exact growUpon_mono (fun u w'' hu => ⟨fun _ => hu.2.1, by rw [hu.1]; exact h _ hu.2.1⟩) (hv w' (.inr hg))
  · simp only [hw, Bool.false_eq_true, if_false]; exact h _ (Grow.refl _)
theorem sOp_put {p : Bool} {st : List Nat} {w : World} {j : Nat} {oi oj : Oper} {v : Value} (hj : ops[j]? = some oj) (hap : oi.apart ops oj = true)
    (hsi : ∀ cs b, oi.op ≠ .select cs b) (hsj : ∀ cs b, oj.op ≠ .select cs b) (hst : p = true ∨ st.contains j = false) {K : Act → World → Prop} {a : Act}
    (hy : YieldsK p P ops w oi v a) (h : sOp P ops st j K (a.put oi.dst v) w) :
    sOp P ops st j (fun a' w' => YieldsK p P ops w' oi v a' ∧ K (a'.put oi.dst v) w') a w := by
  obtain ⟨h1, h2, h3⟩ := Oper.apart_spec hap
  have keep : ∀ (w' : World), eff st j w w' → ∀ u, YieldsK p P ops w' oi v (a.put oj.dst u) := fun w' hw' u =>
    (hy.later (hst.imp id fun hf => hw' hf)).of_same (execOp_put oi hsi a oj.dst u h3) (wanted_put oi a oj.dst u h3)
  unfold sOp at *
  simp only [hj] at *
  rw [wanted_put oj a oi.dst v h1] at h
  split
  · rename_i hw
    simp only [hw, if_true] at h
    unfold growOp at *
    rw [execOp_put oj hsj a oi.dst v h1] at h
    exact growUpon_mono (fun u w' hu => ⟨hu.1, keep w' hu.1 u, by rw [← Act.put_comm a v u h2]; exact hu.2⟩) h
  · rename_i hw
    simp only [hw] at h
    exact ⟨keep w (fun _ => Grow.refl _) _, by rw [← Act.put_comm a v undef h2]; exact h⟩

def wpAnyK (P : Program) (md : Region.Mode) (ops : Array Oper) (st : List Nat) (n : Nat) (L : Array Bool → Act → World → Prop) : Nat → Array Bool → Act → World → Prop
  | 0, listed, a, w => ∀ w', Grow w w' → L listed a w'
  | f + 1, listed, a, w => ∀ w', Grow w w' → Region.ready md ops listed ≠ [] ∧ ∀ i ∈ Region.ready md ops listed, i < n ∧ sOp P ops st i (wpAnyK P md ops st n L f (listed.setIfInBounds i true)) a w'
theorem wpAnyK_later {st : List Nat} {n : Nat} {L : Array Bool → Act → World → Prop} {f : Nat} {listed : Array Bool} {a : Act} {w w1 : World} (h : wpAnyK P md ops st n L f listed a w) (hg : Grow w w1) : wpAnyK P md ops st n L f listed a w1 := by
  cases f with
  | zero => exact fun w' hw' => h w' (hg.trans hw')
  | succ f => exact fun w' hw' => h w' (hg.trans hw')
theorem wpAny_of_headK {st : List Nat} {n g : Nat} {L : Array Bool → Act → World → Prop} {Q' : Exit → Act → World → Prop} (hL : ∀ listed a w, L listed a w → wpAny P md ops Q' g listed a w) :
    ∀ (f : Nat) (listed : Array Bool) (a : Act) (w : World), wpAnyK P md ops st n L f listed a w → wpAny P md ops Q' (f + g) listed a w
  | 0, listed, a, w, h => by rw [Nat.zero_add]; exact hL _ _ _ (h w (Grow.refl _))
  | f + 1, listed, a, w, h => by
    rw [show f + 1 + g = (f + g) + 1 by omega]
    have h1 := h w (Grow.refl _)
    exact ⟨fun h0 => absurd h0 h1.1, fun i hi => wpOp_of_sOp (fun a' w' h' => wpAny_of_headK hL f _ a' w' h') (h1.2 i hi).2⟩
theorem wpAnyK_first {p : Bool} {st : List Nat} {n i : Nat} {oi : Oper} {v : Value} {L : Array Bool → Act → World → Prop} (hi : ops[i]? = some oi) (hsel : ∀ (j : Nat) (o : Oper) cs b, ops[j]? = some o → o.op ≠ .select cs b)
    (hT : ∀ listed, HeadInv md ops n listed → ∀ i, i < n → listed.getD i true = false → ∀ t, n ≤ t → t ∉ Region.ready md ops listed) (hin : i < n)
    (hst : ∀ j, p = true ∨ st.contains j = false ∨ Region.waitsFor md ops j i = true ∨ j = i)
    (hdone : ∀ listed a w, L listed a w → ∀ j ∈ Region.ready md ops listed, n ≤ j) :
    ∀ (f : Nat) (listed : Array Bool) (a : Act) (w : World), HeadInv md ops n listed →
      (∀ j oj, ops[j]? = some oj → j ≠ i → listed.getD j true = false → (∀ e ∈ oj.after, Region.binds md e = true → e.on ≠ i) → oi.apart ops oj = true) →
      i ∈ Region.ready md ops listed → YieldsK p P ops w oi v a →
      wpAnyK P md ops st n L f (listed.setIfInBounds i true) (a.put oi.dst v) w → wpAnyK P md ops st n L (f + 1) listed a w := by
  intro f
  induction f with
  | zero =>
    intro listed a w inv _ hr hy H w' hw'
    have hun := (mem_ready.1 hr).1
    refine ⟨fun h => (by rw [h] at hr; cases hr), fun j hj => ?_⟩
    have hjn : j < n := by
      rcases Nat.lt_or_ge j n with h | h
      · exact h
      · exact absurd hj (hT _ inv i hin hun j h)
    refine ⟨hjn, ?_⟩
    by_cases hji : j = i
    · subst hji; exact hy.sOp hi hw' (fun w'' hg => wpAnyK_later H (hw'.trans hg))
    · have := hdone _ _ _ (H w' hw') j (ready_mono hj hji)
      omega
  | succ f ih =>
    intro listed a w inv hfree hr hy H w' hw'
    have hun := (mem_ready.1 hr).1
    refine ⟨fun h => (by rw [h] at hr; cases hr), fun j hj => ?_⟩
    have hjn : j < n := by
      rcases Nat.lt_or_ge j n with h | h
      · exact h
      · exact absurd hj (hT _ inv i hin hun j h)
    refine ⟨hjn, ?_⟩
    by_cases hji : j = i
    · subst hji; exact hy.sOp hi hw' (fun w'' hg => wpAnyK_later H (hw'.trans hg))
    · have h1 := ((H w' hw').2 j (ready_mono hj hji)).2
      obtain ⟨hjun, oj, hoj, hall⟩ := mem_ready.1 hj
      have hnot : ∀ e ∈ oj.after, Region.binds md e = true → e.on ≠ i := fun e he hb heq => by
        have h1 := hall e he hb
        rw [heq, getD_both hun] at h1
        cases h1
      have hst' : p = true ∨ st.contains j = false := by
        rcases hst j with h | h | h | h
        · exact .inl h
        · exact .inr h
        · obtain ⟨oj', hoj', e, he, hb, heq⟩ := Region.waitsFor_spec h
          obtain rfl : oj' = oj := Option.some.inj (hoj'.symm.trans hoj)
          exact absurd heq (hnot e he hb)
        · exact absurd h hji
      have h2 := sOp_put hoj (hfree j oj hoj hji hjun hnot) (fun cs b => hsel i oi cs b hi) (fun cs b => hsel j oj cs b hoj) hst' (hy.later (.inr hw')) h1
      have hfree' : ∀ k ok, ops[k]? = some ok → k ≠ i → (listed.setIfInBounds j true).getD k true = false →
          (∀ e ∈ ok.after, Region.binds md e = true → e.on ≠ i) → oi.apart ops ok = true := fun k ok hk hki hun hno => by
        refine hfree k ok hk hki ?_ hno
        by_cases hjk : j = k
        · subst hjk; exact hjun
        · rw [getD_set_ne true hjk] at hun; exact hun
      refine sOp_mono (fun a' w2 h3 => ih (listed.setIfInBounds j true) a' w2 (inv.set hj hjn) hfree' (ready_mono hr (Ne.symm hji)) h3.1 ?_) h2
      rw [Array.setIfInBounds_comm _ _ hji]
      exact h3.2

/-- The head in an order of our own: the operations by their numbers, with their kinds. -/
def wpKinds (P : Program) (ops : Array Oper) (st : List Nat) (Lq : Act → World → Prop) : List (Nat × Nat) → Act → World → Prop
  | [], a, w => ∀ w', Grow w w' → Lq a w'
  | (i, 0) :: is, a, w => ∃ o v, ops[i]? = some o ∧ YieldsK false P ops w o v a ∧ wpKinds P ops st Lq is (a.put o.dst v) w
  | (i, 1) :: is, a, w => ∃ o v, ops[i]? = some o ∧ YieldsK true P ops w o v a ∧ wpKinds P ops st Lq is (a.put o.dst v) w
  | (i, _) :: is, a, w => ∀ w', Grow w w' → sOp P ops st i (wpKinds P ops st Lq is) a w'
def waitB (md : Region.Mode) (ops : Array Oper) (st : List Nat) (i : Nat) : Bool := st.all fun j => Region.waitsFor md ops j i || j == i
def headK (md : Region.Mode) (ops : Array Oper) (st : List Nat) (g n : Nat) : List (Nat × Nat) → Array Bool → Bool
  | [], listed => Region.seqB md ops g n listed
  | (i, 0) :: is, listed => decide (i < n) && (Region.ready md ops listed).contains i && Region.free md ops listed i && waitB md ops st i && headK md ops st g n is (listed.setIfInBounds i true)
  | (i, 1) :: is, listed => decide (i < n) && (Region.ready md ops listed).contains i && Region.free md ops listed i && headK md ops st g n is (listed.setIfInBounds i true)
  | (i, _) :: is, listed => decide (i < n) && decide (Region.ready md ops listed = [i]) && headK md ops st g n is (listed.setIfInBounds i true)
theorem waitB_spec {st : List Nat} {i : Nat} (h : waitB md ops st i = true) (j : Nat) : st.contains j = false ∨ Region.waitsFor md ops j i = true ∨ j = i := by
  rcases hc : st.contains j with _ | _
  · exact .inl rfl
  · have := List.all_eq_true.1 h j (by simpa using hc)
    simp only [Bool.or_eq_true, beq_iff_eq] at this
    exact .inr this
theorem wpAnyK_of_kinds {st : List Nat} {n g : Nat} {Lq : Act → World → Prop} (hsel : Region.noSelect ops = true) (hT : ∀ listed, HeadInv md ops n listed → ∀ i, i < n → listed.getD i true = false → ∀ t, n ≤ t → t ∉ Region.ready md ops listed) :
    ∀ (is : List (Nat × Nat)) (listed : Array Bool) (a : Act) (w : World), HeadInv md ops n listed → headK md ops st g n is listed = true → wpKinds P ops st Lq is a w →
    wpAnyK P md ops st n (fun listed' a' w' => Region.seqB md ops g n listed' = true ∧ Lq a' w') is.length listed a w
  | [], listed, a, w, _, hB, h => fun w' hw' => ⟨by simpa [headK] using hB, h w' hw'⟩
  | (i, 0) :: is, listed, a, w, inv, hB, h => by
    simp only [headK, Bool.and_eq_true, decide_eq_true_eq] at hB
    obtain ⟨⟨⟨⟨hin, hr⟩, hf⟩, hwt⟩, hB'⟩ := hB
    obtain ⟨o, v, ho, hy, hK⟩ := h
    have hr' : i ∈ Region.ready md ops listed := by simpa using hr
    exact wpAnyK_first (p := false) ho (Region.noSelect_spec hsel) hT hin (fun j => .inr (waitB_spec hwt j)) (fun listed' a' w' hL => seqB_ready hL.1) is.length listed a w inv (Region.free_spec ho hf) hr' hy
      (wpAnyK_of_kinds hsel hT is _ _ w (inv.set hr' hin) hB' hK)
  | (i, 1) :: is, listed, a, w, inv, hB, h => by
    simp only [headK, Bool.and_eq_true, decide_eq_true_eq] at hB
    obtain ⟨⟨⟨hin, hr⟩, hf⟩, hB'⟩ := hB
    obtain ⟨o, v, ho, hy, hK⟩ := h
    have hr' : i ∈ Region.ready md ops listed := by simpa using hr
    exact wpAnyK_first (p := true) ho (Region.noSelect_spec hsel) hT hin (fun j => .inl rfl) (fun listed' a' w' hL => seqB_ready hL.1) is.length listed a w inv (Region.free_spec ho hf) hr' hy
      (wpAnyK_of_kinds hsel hT is _ _ w (inv.set hr' hin) hB' hK)
  | (i, k + 2) :: is, listed, a, w, inv, hB, h => by
    simp only [headK, Bool.and_eq_true, decide_eq_true_eq] at hB
    obtain ⟨⟨hin, hr⟩, hB'⟩ := hB
    have hr' : i ∈ Region.ready md ops listed := by rw [hr]; simp
    intro w' hw'
    refine ⟨fun h0 => (by rw [h0] at hr'; cases hr'), fun j hj => ?_⟩
    rw [hr] at hj
    obtain rfl : j = i := by simpa using hj
    exact ⟨hin, sOp_mono (fun a' w2 h2 => wpAnyK_of_kinds hsel hT is _ a' w2 (inv.set hr' hin) hB' h2) (h w' hw')⟩
def kindsB (md : Region.Mode) (ops : Array Oper) (st : List Nat) (n : Nat) (is : List (Nat × Nat)) : Bool :=
  Region.noSelect ops && decide (n < ops.size) && Region.sinkB md ops n && Region.chainB md ops n && decide (is.length = n) && headK md ops st (ops.size - n) n is (Array.replicate ops.size false)
theorem wp_region_kinds {id : Nat} {Q : Exit → Act → World → Prop} {a : Act} {w : World} {l : List Oper} (st : List Nat) (n : Nat) (is : List (Nat × Nat)) (hm : P.follows .mixedOrders = true) (hB : kindsB .any l.toArray st n is = true)
    (h : wpKinds P l.toArray st (fun a' w' => wpList P l.toArray Q (l.drop n) a' w') is a w.drew) : (Code.region id l.toArray true).wp P Q a w := by
  simp only [kindsB, Bool.and_eq_true, decide_eq_true_eq] at hB
  obtain ⟨⟨⟨⟨⟨hsel, hn⟩, hs⟩, hc⟩, hlen⟩, hhead⟩ := hB
  have hn' : n < l.length := by simpa using hn
  have hdl : (l.drop n).length = l.toArray.size - n := by simp
  have inv0 : HeadInv .any l.toArray n (Array.replicate l.toArray.size false) :=
    ⟨by simp, fun j oj _ hl => (by rw [getD_replicate_false] at hl; cases hl), fun t _ ht => getD_in (by simpa using ht) (getD_replicate_false _ _)⟩
  have H := wpAnyK_of_kinds (md := .any) (g := l.toArray.size - n) hsel (fun listed inv i => tail_waits hs hc hn inv _ i rfl) is _ a w.drew inv0 hhead h
  refine wp_region_any hm ?_
  have := wpAny_of_headK (Q' := Q) (g := l.toArray.size - n) (fun listed a' w' hL => by
    have := wpAny_of_seq (md := .any) (Q' := Q) (l.drop n) n listed a' w' (fun j => by simp [List.getElem?_drop]) (by rw [hdl]; exact hL.1) hL.2
    rwa [hdl] at this) _ _ _ _ H
  rw [hlen, show n + (l.toArray.size - n) = l.toArray.size by omega] at this
  exact this
def kindsA (md : Region.Mode) (ops : Array Oper) (st : List Nat) (n : Nat) (is : List (Nat × Nat)) : Bool :=
  Region.noSelect ops && decide (n = ops.size) && decide (is.length = n) && headK md ops st 0 n is (Array.replicate ops.size false)
/-- As wp_region_kinds, but of all of a region's operations: none stays behind. -/
theorem wp_region_all {id : Nat} {Q : Exit → Act → World → Prop} {a : Act} {w : World} {l : List Oper} (st : List Nat) (n : Nat) (is : List (Nat × Nat)) (hm : P.follows .mixedOrders = true) (hB : kindsA .any l.toArray st n is = true)
    (h : wpKinds P l.toArray st (fun a' w' => Q .normal a' w') is a w.drew) : (Code.region id l.toArray true).wp P Q a w := by
  simp only [kindsA, Bool.and_eq_true, decide_eq_true_eq] at hB
  obtain ⟨⟨⟨hsel, hn⟩, hlen⟩, hhead⟩ := hB
  have inv0 : HeadInv .any l.toArray n (Array.replicate l.toArray.size false) :=
    ⟨by simp, fun j oj _ hl => (by rw [getD_replicate_false] at hl; cases hl), fun t _ ht => getD_in (by simpa using ht) (getD_replicate_false _ _)⟩
  have H := wpAnyK_of_kinds (md := .any) (g := 0) hsel (fun listed _ i _ _ t ht hr => by
    obtain ⟨_, ot, hot, _⟩ := mem_ready.1 hr
    have := (Array.getElem?_eq_some_iff.1 hot).1
    omega) is _ a w.drew inv0 hhead h
  refine wp_region_any hm ?_
  have := wpAny_of_headK (Q' := Q) (g := 0) (fun listed a' w' hL => by
    have := wpAny_of_seq (P := P) (ops := l.toArray) (md := .any) (Q' := Q) [] n listed a' w' (fun j => by rw [hn, Array.getElem?_eq_none (by omega)]; rfl) hL.1 hL.2
    exact this) _ _ _ _ H
  rw [hlen, Nat.add_zero, hn] at this
  exact this
variable {st : List Nat} {Lq : Act → World → Prop} {i : Nat} {is : List (Nat × Nat)} {o : Oper} {v : Value} {a : Act} {w : World} {l : List Oper}
/-- A firm operation. -/
theorem kind_firm (ho : l[i]? = some o)
    (h : ∀ (K : Value → World → Prop) w', Grow w w' → (∀ w'', Grow w' w'' → K v w'') → if Region.wanted o (yielded l.toArray a.tmps) then growOp P o a w' K else K undef w')
    (hr : wpKinds P l.toArray st Lq is (a.put o.dst v) w) : wpKinds P l.toArray st Lq ((i, 0) :: is) a w := by
  refine ⟨o, v, by simpa using ho, ?_, hr⟩
  by_cases hw : Region.wanted o (yielded l.toArray a.tmps) = true
  · refine .inl ⟨hw, fun w' hg => ?_⟩
    have hg' : Grow w w' := by rcases hg with hg | hg; cases hg; exact hg
    have := h (fun u w'' => u = v ∧ Grow w' w'' ∧ (false = true → w'' = w')) w' hg' (fun w'' hg => ⟨rfl, hg, fun h => by cases h⟩)
    rwa [if_pos hw] at this
  · have := h (fun u _ => u = v) w (Grow.refl _) (fun _ _ => rfl)
    rw [if_neg hw] at this
    exact .inr ⟨by simpa using hw, this.symm⟩
/-- A pure operation. -/
theorem kind_pure (ho : l[i]? = some o)
    (h : ∀ (K : Value → World → Prop) w', K v w' → if Region.wanted o (yielded l.toArray a.tmps) then growOp P o a w' K else K undef w')
    (hr : wpKinds P l.toArray st Lq is (a.put o.dst v) w) : wpKinds P l.toArray st Lq ((i, 1) :: is) a w := by
  refine ⟨o, v, by simpa using ho, ?_, hr⟩
  by_cases hw : Region.wanted o (yielded l.toArray a.tmps) = true
  · refine .inl ⟨hw, fun w' hg => ?_⟩
    have := h (fun u w'' => u = v ∧ Grow w' w'' ∧ (true = true → w'' = w')) w' ⟨rfl, Grow.refl _, fun _ => rfl⟩
    rwa [if_pos hw] at this
  · have := h (fun u _ => u = v) w rfl
    rw [if_neg hw] at this
    exact .inr ⟨by simpa using hw, this.symm⟩
/-- A loose operation that stores nothing. -/
theorem kind_loose (ho : l[i]? = some o)
    (h : ∀ (K : Value → World → Prop) w', Grow w w' → (∀ v w'', Grow w' w'' → wpKinds P l.toArray st Lq is (a.put o.dst v) w'' → K v w'') → if Region.wanted o (yielded l.toArray a.tmps) then growOp P o a w' K else K undef w') :
    wpKinds P l.toArray st Lq ((i, 2) :: is) a w := by
  intro w' hg
  unfold sOp
  simp only [show l.toArray[i]? = some o by simpa using ho]
  split
  · rename_i hw
    have := h (fun v w'' => eff st i w' w'' ∧ wpKinds P l.toArray st Lq is (a.put o.dst v) w'') w' hg (fun v w'' hg' hr => ⟨fun _ => hg', hr⟩)
    rwa [if_pos hw] at this
  · rename_i hw
    have := h (fun v w'' => v = undef → w'' = w' → wpKinds P l.toArray st Lq is (a.put o.dst undef) w') w' hg (fun v w'' hg' hr e1 e2 => by subst e1; subst e2; exact hr)
    rw [if_neg hw] at this
    exact this rfl rfl
/-- A store. -/
theorem kind_store (hst : st.contains i = true) (ho : l[i]? = some o)
    (h : ∀ (K : Value → World → Prop) w', Grow w w' → (∀ v w'', wpKinds P l.toArray st Lq is (a.put o.dst v) w'' → K v w'') → if Region.wanted o (yielded l.toArray a.tmps) then growOp P o a w' K else K undef w') :
    wpKinds P l.toArray st Lq ((i, 2) :: is) a w := by
  intro w' hg
  unfold sOp
  simp only [show l.toArray[i]? = some o by simpa using ho]
  split
  · rename_i hw
    have := h (fun v w'' => eff st i w' w'' ∧ wpKinds P l.toArray st Lq is (a.put o.dst v) w'') w' hg (fun v w'' hr => ⟨fun hf => (by rw [hst] at hf; cases hf), hr⟩)
    rwa [if_pos hw] at this
  · rename_i hw
    have := h (fun v w'' => v = undef → w'' = w' → wpKinds P l.toArray st Lq is (a.put o.dst undef) w') w' hg (fun v w'' hr e1 e2 => by subst e1; subst e2; exact hr)
    rw [if_neg hw] at this
    exact this rfl rfl
theorem grow_alloc (w : World) (o : Obj) : Grow w (w.alloc o) := (Below.refl _ _).alloc (Nat.le_refl _) _
theorem kind_end (h : ∀ w', Grow w w' → Lq a w') : wpKinds P l.toArray st Lq [] a w := h
theorem kinds_put {d : Option Tmp} {a' : Act} (hp : a.put d v = a') (h : wpKinds P l.toArray st Lq is a' w) : wpKinds P l.toArray st Lq is (a.put d v) w := hp ▸ h
attribute [irreducible] wpKinds

end
end Go.Proofs.Ytbmokmkaebfneaa
