/- Steps of a region that makes memory, in an order of our own (no program here). -/
import Derived.Test.YtcoljlanblngiaaO
import Derived.StillTactics
import Derived.Deep.Draws
namespace Go.Proofs.Ytcoljlanblngiaa
set_option linter.unusedVariables false
set_option linter.unusedSimpArgs false
open Go

section
variable {P : Program} {ops : Array Oper}
theorem growOp_of_k {o : Oper} {a : Act} {w' : World} {v : Value} (h : ∀ K : Value → World → Prop, (∀ w'', Grow w' w'' → K v w'') → growOp P o a w' K) : growOp P o a w' (fun u w'' => u = v ∧ Grow w' w'') := h _ fun _ hg => ⟨rfl, hg⟩
theorem grow_k {l : List Oper} {Lq : Act → World → Prop} {i : Nat} {is : List (Nat × Bool)} {o : Oper} {v : Value} {a : Act} {w : World} (ho : l[i]? = some o)
    (h : ∀ (K : Value → World → Prop) w', Grow w w' → (∀ w'', Grow w' w'' → K v w'') → if Region.wanted o (yielded l.toArray a.tmps) then growOp P o a w' K else K undef w')
    (hr : wpGrow P l.toArray Lq is (a.put o.dst v) w) : wpGrow P l.toArray Lq ((i, true) :: is) a w := by
  refine grow_step (v := v) (by simpa using ho) (fun w' hg => ?_) hr
  split
  · rename_i hw
    refine growOp_of_k fun K hK => ?_
    have := h K w' hg hK
    rwa [if_pos hw] at this
  · rename_i hw
    have := h (fun u _ => u = v) w' hg (fun _ _ => rfl)
    rw [if_neg hw] at this
    exact this.symm
theorem grow_l {l : List Oper} {Lq : Act → World → Prop} {i : Nat} {is : List (Nat × Bool)} {o : Oper} {a : Act} {w : World} (ho : l[i]? = some o)
    (h : ∀ (K : Value → World → Prop) w', Grow w w' → (∀ v w'', Grow w' w'' → wpGrow P l.toArray Lq is (a.put o.dst v) w'' → K v w'') → if Region.wanted o (yielded l.toArray a.tmps) then growOp P o a w' K else K undef w') :
    wpGrow P l.toArray Lq ((i, false) :: is) a w := by
  refine grow_loose (by simpa using ho) fun w' hg => ?_
  split
  · rename_i hw
    have := h (fun v w'' => Grow w' w'' ∧ wpGrow P l.toArray Lq is (a.put o.dst v) w'') w' hg (fun v w'' hg' hr => ⟨hg', hr⟩)
    rwa [if_pos hw] at this
  · rename_i hw
    have := h (fun v w'' => v = undef → w'' = w' → wpGrow P l.toArray Lq is (a.put o.dst undef) w') w' hg (fun v w'' hg' hr e1 e2 => by subst e1; subst e2; exact hr)
    rw [if_neg hw] at this
    exact this rfl rfl
end
end Go.Proofs.Ytcoljlanblngiaa
