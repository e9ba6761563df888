/- The whole way on paper, and that it is right: contracts of functions, laws of stretches. -/
import Derived.Test.YtbmokmkaebfneaaRXE
namespace Go.Proofs.Ytbmokmkaebfneaa
open Go.RowKit
namespace RX
set_option linter.unnecessarySimpa false
set_option linter.unusedVariables false
set_option linter.unusedSimpArgs false
abbrev R6 := Option (Ex × St × List Hint × List Obl × List (Code × Nat))
def exec (P : Program) (Γ : List Gm) (S : List Sm) (lens ro : List Nat) (N : Nat) : Nat → Bool → Code → St → List Hint → R6
  | 0, _, _, _, _ => none
  | n + 1, true, c, s, hs => match exec P Γ S lens ro N n false c s hs with
    | some (.normal, s1, h1, o1, c1) => match exec P Γ S lens ro N n true c s1 h1 with
      | some (e, s2, h2, o2, c2) => some (e, s2, h2, o1 ++ o2, c1 ++ c2)
      | none => none
    | r => r
  | n + 1, false, c, s, hs => match c with
    | .skip => some (.normal, s, hs, [], [])
    | .label _ => some (.normal, s, hs, [], [])
    | .region _ ops draw => match runOps P Γ lens ro N ops ops.toList s hs with
      | some (L, ns, s', hs', os) => cond (!draw || indep ops L ns) (some (.normal, s', hs', os, [])) none
      | none => none
    | .seq x y => match exec P Γ S lens ro N n false x s hs with
      | some (.normal, s1, h1, o1, c1) => match exec P Γ S lens ro N n false y s1 h1 with
        | some (e, s2, h2, o2, c2) => some (e, s2, h2, o1 ++ o2, c1 ++ c2)
        | none => none
      | r => r
    | .cond v x y => match avOf (lkS s.sl) v with
      | .bo true => exec P Γ S lens ro N n false x s hs
      | .bo false => exec P Γ S lens ro N n false y s hs
      | sv => match hs with
        | .br t :: hs' => match exec P Γ S lens ro N n false (cond t x y) s hs' with
          | some (e, s2, h2, o2, c2) => cond (okVal sv) (some (e, s2, h2, .eq sv (.bo t) :: o2, c2)) none
          | none => none
        | _ => none
    | .block id b => match exec P Γ S lens ro N n false b s hs with
      | some (.exit j, s2, h2, o2, c2) => some (cond (Nat.beq j id) .normal (.exit j), s2, h2, o2, c2)
      | r => r
    | .loop b => match hs with
      | .seg k ids :: hs' => match S[k]? with
        | some m => match segAt ro N s m ids with
          | some (s', os) => some (m.g.ex, s', hs', os, [(.loop b, k)])
          | none => none
        | none => none
      | hs => exec P Γ S lens ro N n true b s hs
    | .exit id => some (.exit id, s, hs, [], [])
    | .ret => some (.ret, s, hs, [], [])
    | _ => none
/-- The laws of stretches that a way leans on. -/
def allC (P : Program) (N : Nat) (V : Env) (S : List Sm) : List (Code × Nat) → Prop
  | [] => True
  | (c, k) :: r => (∀ m, S[k]? = some m → m.g.Valid P N c (V.sub m.τ m.υ) (V.sub m.τ' m.υ')) ∧ allC P N V S r
theorem allC_app {P : Program} {N : Nat} {V : Env} {S : List Sm} : ∀ {a b : List (Code × Nat)}, allC P N V S (a ++ b) ↔ allC P N V S a ∧ allC P N V S b
  | [], _ => by simp [allC]
  | (c, k) :: r, b => by simp only [List.cons_append, allC, allC_app, and_assoc]

section
variable {P : Program} {V : Env} {Γ : List Gm} {S : List Sm} {lens ro : List Nat} {N p0 : Nat}
def Way (P : Program) (V : Env) (p0 N : Nat) (ro : List Nat) (lp : Bool) (c : Code) (s : St) (e : Ex) (s' : St) : Prop :=
  ∀ (w0 : World) (ρ0 ρ : Nat → Nat × Nat) (a : Act) (w : World), Inv V w0 ρ0 p0 N (fun i => ro.any (Nat.beq i)) ρ (lkS s.sl) (lkH s.hp) a w →
    cond lp (loopWp P c (fun x a' w' => x = e.to ∧ ∃ ρ', Inv V w0 ρ0 p0 N (fun i => ro.any (Nat.beq i)) ρ' (lkS s'.sl) (lkH s'.hp) a' w') a w) (c.wp P (fun x a' w' => x = e.to ∧ ∃ ρ', Inv V w0 ρ0 p0 N (fun i => ro.any (Nat.beq i)) ρ' (lkS s'.sl) (lkH s'.hp) a' w') a w)
theorem exec_ok (hm : P.follows .mixedOrders = true) (hV : VOK V lens) (hE : V.E.length ≤ 1000000) (hO : V.O.length ≤ 1000000) (hΓ : allG P V Γ) :
    ∀ (n : Nat) (lp : Bool) (c : Code) (s : St) (hs : List Hint) (e : Ex) (s' : St) (hs' : List Hint) (os : List Obl) (cs : List (Code × Nat)), exec P Γ S lens ro N n lp c s hs = some (e, s', hs', os, cs) → allO P V os → allC P N V S cs → WF p0 s → WF p0 s' ∧ Way P V p0 N ro lp c s e s' := by
  intro n
  induction n with
  | zero => intro lp c s hs e s' hs' os cs h; cases lp <;> simp [exec] at h
  | succ n ih =>
    intro lp c s hs e s' hs' os cs h ho hc hw
    cases lp with
    | true =>
      unfold exec at h
      split at h
      · rename_i s1 h1 o1 c1 hx
        split at h
        · rename_i e2 s2 h2 o2 c2 hy
          cases h
          rw [allO_app] at ho
          rw [allC_app] at hc
          obtain ⟨hw1, W1⟩ := ih _ _ _ _ _ _ _ _ _ hx ho.1 hc.1 hw
          obtain ⟨hw2, W2⟩ := ih _ _ _ _ _ _ _ _ _ hy ho.2 hc.2 hw1
          refine ⟨hw2, fun w0 ρ0 ρ a w hI => ?_⟩
          refine loop_round (wp_mono (W1 w0 ρ0 ρ a w hI) ?_)
          rintro x a' w' ⟨rfl, ρ', hI'⟩
          exact W2 w0 ρ0 ρ' a' w' hI'
        · cases h
      · rename_i hne
        obtain ⟨hw1, W1⟩ := ih _ _ _ _ _ _ _ _ _ h ho hc hw
        refine ⟨hw1, fun w0 ρ0 ρ a w hI => loop_round (wp_mono (W1 w0 ρ0 ρ a w hI) ?_)⟩
        rintro x a' w' ⟨rfl, hq⟩
        cases e with
        | normal => exact absurd h (hne _ _ _ _)
        | exit id => exact ⟨rfl, hq⟩
        | ret => exact ⟨rfl, hq⟩
    | false =>
      unfold exec at h
      split at h
      -- skip, label
      · cases h; exact ⟨hw, fun w0 ρ0 ρ a w hI => wp_skip ⟨rfl, ρ, hI⟩⟩
      · cases h; exact ⟨hw, fun w0 ρ0 ρ a w hI => wp_label ⟨rfl, ρ, hI⟩⟩
      -- region
      · rename_i id ops draw
        split at h
        case h_2 => cases h
        rename_i L ns s2 h2 o2 hr
        obtain ⟨hq, h⟩ := cond_bind h
        cases h
        obtain ⟨R, hw', f1, f2, e1, e2, hlen⟩ := runOps_sq (N := N) (p0 := p0) hV hE hO hΓ hr ho hw
        refine ⟨hw', fun w0 ρ0 ρ a w hI => ?_⟩
        cases draw with
        | false =>
          refine R.wp hI fun ρ' a' w' hI' => ⟨rfl, ρ', ?_⟩
          rw [f1, f2, ← e1, ← e2] at hI'; exact hI'
        | true =>
          refine (runOps_reg R hlen (by simpa using hq)).wp hm hI fun ρ' a' w' hI' => ⟨rfl, ρ', ?_⟩
          rw [f1, f2, ← e1, ← e2] at hI'; exact hI'
      -- seq
      · rename_i x y
        split at h
        · rename_i s1 h1 o1 c1 hx
          split at h
          · rename_i e2 s2 h2 o2 c2 hy
            cases h
            rw [allO_app] at ho
            rw [allC_app] at hc
            obtain ⟨hw1, W1⟩ := ih _ _ _ _ _ _ _ _ _ hx ho.1 hc.1 hw
            obtain ⟨hw2, W2⟩ := ih _ _ _ _ _ _ _ _ _ hy ho.2 hc.2 hw1
            refine ⟨hw2, fun w0 ρ0 ρ a w hI => wp_seq (wp_mono (W1 w0 ρ0 ρ a w hI) ?_)⟩
            rintro x a' w' ⟨rfl, ρ', hI'⟩
            exact W2 w0 ρ0 ρ' a' w' hI'
          · cases h
        · rename_i hne
          obtain ⟨hw1, W1⟩ := ih _ _ _ _ _ _ _ _ _ h ho hc hw
          refine ⟨hw1, fun w0 ρ0 ρ a w hI => wp_seq (wp_mono (W1 w0 ρ0 ρ a w hI) ?_)⟩
          rintro x a' w' ⟨rfl, hq⟩
          cases e with
          | normal => exact absurd h (hne _ _ _ _)
          | exit id => exact ⟨rfl, hq⟩
          | ret => exact ⟨rfl, hq⟩
      -- cond
      · rename_i v x y
        split at h
        · rename_i hv
          obtain ⟨hw1, W1⟩ := ih _ _ _ _ _ _ _ _ _ h ho hc hw
          exact ⟨hw1, fun w0 ρ0 ρ a w hI => wp_cond_true (by rw [hI.eval v (by rw [hv]; simp), hv]; rfl) (W1 w0 ρ0 ρ a w hI)⟩
        · rename_i hv
          obtain ⟨hw1, W1⟩ := ih _ _ _ _ _ _ _ _ _ h ho hc hw
          exact ⟨hw1, fun w0 ρ0 ρ a w hI => wp_cond_false (by rw [hI.eval v (by rw [hv]; simp), hv]; rfl) (W1 w0 ρ0 ρ a w hI)⟩
        · split at h
          · rename_i t hs1
            split at h
            · rename_i e2 s2 h2 o2 c2 hx
              obtain ⟨hq, h⟩ := cond_bind h
              cases h
              obtain ⟨hw1, W1⟩ := ih _ _ _ _ _ _ _ _ _ hx ho.2 hc hw
              refine ⟨hw1, fun w0 ρ0 ρ a w hI => wp_cond (t := t) ?_ ?_⟩
              · rw [hI.eval v (okVal_spec hq).1]
                have := ho.1 ρ
                unfold den; rw [this]; rfl
              · have := W1 w0 ρ0 ρ a w hI
                cases t <;> exact this
            · cases h
          · cases h
      -- block
      · rename_i id b
        split at h
        · rename_i j s2 h2 o2 c2 hx
          cases h
          obtain ⟨hw1, W1⟩ := ih _ _ _ _ _ _ _ _ _ hx ho hc hw
          refine ⟨hw1, fun w0 ρ0 ρ a w hI => wp_block (wp_mono (W1 w0 ρ0 ρ a w hI) ?_)⟩
          rintro x a' w' ⟨rfl, hq⟩
          cases hj : Nat.beq j id with
          | true =>
            rw [Nat.eq_of_beq_eq_true hj]
            show (if id = id then _ else _)
            rw [if_pos rfl]; exact ⟨rfl, hq⟩
          | false =>
            show (if j = id then _ else _)
            rw [if_neg (fun e => by rw [e, Nat.beq_refl] at hj; cases hj)]; exact ⟨rfl, hq⟩
        · rename_i hne
          obtain ⟨hw1, W1⟩ := ih _ _ _ _ _ _ _ _ _ h ho hc hw
          refine ⟨hw1, fun w0 ρ0 ρ a w hI => wp_block (wp_mono (W1 w0 ρ0 ρ a w hI) ?_)⟩
          rintro x a' w' ⟨rfl, hq⟩
          cases e with
          | normal => exact ⟨rfl, hq⟩
          | exit id => exact absurd h (hne _ _ _ _ _)
          | ret => exact ⟨rfl, hq⟩
      -- loop
      · rename_i b
        split at h
        · rename_i k ids hs1
          split at h
          · rename_i m hmm
            split at h
            · rename_i s2 o2 hsg
              cases h
              obtain ⟨hw1, W1⟩ := segAt_ok hE hO hsg ho hw (hc.1 m hmm)
              exact ⟨hw1, fun w0 ρ0 ρ a w hI => W1 hI⟩
            · cases h
          · cases h
        · obtain ⟨hw1, W1⟩ := ih _ _ _ _ _ _ _ _ _ h ho hc hw
          exact ⟨hw1, fun w0 ρ0 ρ a w hI => loop_of (W1 w0 ρ0 ρ a w hI)⟩
      · cases h; exact ⟨hw, fun w0 ρ0 ρ a w hI => wp_exit ⟨rfl, ρ, hI⟩⟩
      · cases h; exact ⟨hw, fun w0 ρ0 ρ a w hI => wp_ret ⟨rfl, ρ, hI⟩⟩
      · cases h
end
end RX
end Go.Proofs.Ytbmokmkaebfneaa
