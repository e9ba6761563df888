/- AuditFinds' walk. -/
import Derived.Test.YtbmokmkaebfneaaRXA5
import Derived.Test.YtbmokmkaebfneaaRXP
namespace Go.Proofs.Ytbmokmkaebfneaa
open Go.ChangeShapes Go.WideShapes Go.ChangeAt Go.RowKit
open RX
set_option linter.unusedVariables false
theorem first_of (Q : Nat → Nat → Prop) : ∀ n, (∀ j, j < n → ∀ i, i < j → ¬ Q i j) ∨ ∃ v u, v < n ∧ u < v ∧ Q u v ∧ (∀ j, j < v → ∀ i, i < j → ¬ Q i j) ∧ ∀ i, i < u → ¬ Q i v
  | 0 => .inl fun j hj => by omega
  | n + 1 => by
    have row : ∀ m, (∀ i, i < m → ¬ Q i n) ∨ ∃ u, u < m ∧ Q u n ∧ ∀ i, i < u → ¬ Q i n := by
      intro m
      induction m with
      | zero => exact .inl fun i hi => by omega
      | succ m ih =>
        rcases ih with h | ⟨u, h1, h2, h3⟩
        · by_cases hq : Q m n
          · exact .inr ⟨m, by omega, hq, h⟩
          · refine .inl fun i hi => ?_
            rcases Nat.lt_succ_iff_lt_or_eq.1 hi with hi | rfl
            · exact h i hi
            · exact hq
        · exact .inr ⟨u, by omega, h2, h3⟩
    rcases first_of Q n with h | ⟨v, u, h1, h2, h3, h4, h5⟩
    · rcases row n with h' | ⟨u, h1, h2, h3⟩
      · refine .inl fun j hj i hi => ?_
        rcases Nat.lt_succ_iff_lt_or_eq.1 hj with hj | rfl
        · exact h j hj i hi
        · exact h' i hi
      · exact .inr ⟨n, u, by omega, h1, h2, h, h3⟩
    · exact .inr ⟨v, u, by omega, h2, h3, h4, h5⟩
theorem finds_walk (a : Option Addr) (n c : Nat) (w : World) (y : n = 0 ∨ ∃ (b o : Nat) (C : Array Value) (ty : TypeId) (z : Nat × Nat) (l : List ToldN), a = some ⟨b, o, none⟩ ∧ w.heap[b]? = some (.cells C ty z) ∧ l.length = n ∧ (∀ t, t ∈ l → ToldOk t) ∧ (C.toList.drop o).take (n * 35) = l.flatMap toldVL ∧ n ≤ c ∧ c ≤ maxLen) :
    Calls Try.prog 5 #[.slice a n c] w fun e w' => e = .returned (.bool true) ∧ Below w.heap.size w w' := by
  rcases y with rfl | ⟨b, o, C, ty, z, l, rfl, hb, rfl, hl, hR, hc, hm⟩
  · exact (finds_nil a c).calls fn_wardmotelaw28_AuditFinds (fun _ => rfl) (fun _ => rfl) w
  · have hn : l.length < 9223372036854775808 := by unfold maxLen at hm; omega
    by_cases h60 : 60 < l.length
    · exact (finds_long C.toList o c l hR hl hc hn h60).calls1 fn_wardmotelaw28_AuditFinds (b := b) (fun ρ hρ => by subst hρ; rfl) (fun _ => rfl) hb rfl
    · rcases first_of (fun i j => leakE (l.getD i dT) (l.getD j dT) = 0) l.length with hno | ⟨v, u, hv, hu, heq, hno, hrow⟩
      · exact (finds_no C.toList o c l hR hl hc hn h60 hno).calls1 fn_wardmotelaw28_AuditFinds (b := b) (fun ρ hρ => by subst hρ; rfl) (fun _ => rfl) hb rfl
      · exact (finds_yes C.toList o c l hR hl hc hn v u h60 hv hu heq hno hrow).calls1 fn_wardmotelaw28_AuditFinds (b := b) (fun ρ hρ => by subst hρ; rfl) (fun _ => rfl) hb rfl
end Go.Proofs.Ytbmokmkaebfneaa
