/- Leak, of any two shares. -/
import Derived.Test.YtbmokmkaebfneaaRXA2
import Derived.Test.YtbmokmkaebfneaaRXN
namespace Go.Proofs.Ytbmokmkaebfneaa
open Go.RowKit
open RX
set_option linter.unusedVariables false
/-- What two shares give away, and the error. -/
noncomputable def leakE (a b : ToldN) : Nat := open Classical in if ToldIn a ∧ ToldIn b then (if pairL a = pairL b ∧ a.fa = b.fa ∧ fmlN false a.we a.ch ≠ fmlN false b.we b.ch then 0 else 1) else 20
noncomputable def leakX (a b : ToldN) : Nat := open Classical in if leakE a b = 0 then fmlN false (fsbN false a.z b.z) (fpwN false (fsbN false (fmlN false a.we a.ch) (fmlN false b.we b.ch)) (ieN false)) else 0
theorem leakX_lt (a b : ToldN) : leakX a b < RR := by
  unfold leakX; split
  · exact lt_RR (fmlN_lt _ _ _)
  · exact RR_zero
theorem leakX_no {a b : ToldN} (h : leakE a b ≠ 0) : leakX a b = 0 := by unfold leakX; rw [if_neg h]
def dT : ToldN := ⟨0, 0, 0, false, 0, 0, false, 0, 0, 0, 0⟩
theorem toldV_len (t : ToldN) : (toldVL t).length = 35 := rfl
theorem res_no {V : Env} {a b : ToldN} {E : Nat} (hE : leakE a b = E) (h0 : E ≠ 0) : Value.tuple #[.agg #[.int .u64 0, .int .u64 0, .int .u64 0, .int .u64 0], .int .i64 (E : Int)] = .tuple #[.agg #[.int .u64 (lb (leakX a b) 0), .int .u64 (lb (leakX a b) 1), .int .u64 (lb (leakX a b) 2), .int .u64 (lb (leakX a b) 3)], .int .i64 (leakE a b : Nat)] := by
  rw [leakX_no (by rw [hE]; exact h0), hE]; simp only [lb_zero]
def C_leak_any : Ct := ⟨(.cons (.agg (.cons (.ev 0 0) (evs 1 0 4 (evs 2 0 4 (.cons (.ev 3 0) (evs 4 0 4 (evs 5 0 4 (.cons (.ev 6 0) (evs 7 0 4 (evs 8 0 4 (evs 9 0 4 (evs 10 0 4 .nil)))))))))))) (.cons (.agg (.cons (.ev 11 0) (evs 12 0 4 (evs 13 0 4 (.cons (.ev 14 0) (evs 15 0 4 (evs 16 0 4 (.cons (.ev 17 0) (evs 18 0 4 (evs 19 0 4 (evs 20 0 4 (evs 21 0 4 .nil)))))))))))) .nil)), [], [], [], (.tup (.cons (nS 22) (.cons (.ev 23 0) .nil)))⟩
set_option maxRecDepth 10000 in
theorem leak_any (a b : ToldN) (ha : ToldOk a) (hb : ToldOk b) : Ct.Valid Try.prog 14 C_leak_any ⟨([.int .i64 a.node] :: lbs a.dx :: lbs a.dy :: [.bool a.di] :: lbs a.ex :: lbs a.ey :: [.bool a.ei] :: lbs a.fa :: lbs a.we :: lbs a.ch :: lbs a.z :: [.int .i64 b.node] :: lbs b.dx :: lbs b.dy :: [.bool b.di] :: lbs b.ex :: lbs b.ey :: [.bool b.ei] :: lbs b.fa :: lbs b.we :: lbs b.ch :: lbs b.z :: lbs (leakX a b) :: nI (leakE a b) :: []), []⟩ := by
  by_cases ia : ToldIn a
  · by_cases ib : ToldIn b
    · by_cases hp : pairL a = pairL b
      · by_cases hf : a.fa = b.fa
        · by_cases hw : fmlN false a.we a.ch = fmlN false b.we b.ch
          · exact (leak_eq a b ha hb ia ib hp hf hw).said (fun _ => rfl) (fun _ => res_no (V := ⟨[], []⟩) (E := 1) (by unfold leakE; rw [if_pos ⟨ia, ib⟩, if_neg (fun h => h.2.2 hw)]) (by decide))
          · have hE : leakE a b = 0 := by unfold leakE; rw [if_pos ⟨ia, ib⟩, if_pos ⟨hp, hf, hw⟩]
            have hX : leakX a b = fmlN false (fsbN false a.z b.z) (fpwN false (fsbN false (fmlN false a.we a.ch) (fmlN false b.we b.ch)) (ieN false)) := by unfold leakX; rw [if_pos hE]
            refine (leak_yes a b ha hb ia ib hp hf hw).said (fun _ => rfl) (fun _ => ?_)
            show Value.tuple #[num (fmlN false (fsbN false a.z b.z) (fpwN false (fsbN false (fmlN false a.we a.ch) (fmlN false b.we b.ch)) (ieN false))), .int .i64 0] = .tuple #[num (leakX a b), .int .i64 (leakE a b : Nat)]
            rw [hX, hE]; rfl
        · exact (leak_fac a b ha hb ia ib hp hf).said (fun _ => rfl) (fun _ => res_no (V := ⟨[], []⟩) (E := 1) (by unfold leakE; rw [if_pos ⟨ia, ib⟩, if_neg (fun h => hf h.2.1)]) (by decide))
      · exact (leak_pair a b ha hb ia ib hp).said (fun _ => rfl) (fun _ => res_no (V := ⟨[], []⟩) (E := 1) (by unfold leakE; rw [if_pos ⟨ia, ib⟩, if_neg (fun h => hp h.1)]) (by decide))
    · exact (leak_nob a b ha hb ia ib).said (fun _ => rfl) (fun _ => res_no (V := ⟨[], []⟩) (E := 20) (by unfold leakE; rw [if_neg (fun h => ib h.2)]) (by decide))
  · exact (leak_noa a b ha hb ia).said (fun _ => rfl) (fun _ => res_no (V := ⟨[], []⟩) (E := 20) (by unfold leakE; rw [if_neg (fun h => ia h.1)]) (by decide))
set_option maxRecDepth 10000 in
theorem rleak_any (a b : ToldN) (ha : ToldOk a) (hb : ToldOk b) : Ct.Valid Try.prog 15 C_leak_any ⟨([.int .i64 a.node] :: lbs a.dx :: lbs a.dy :: [.bool a.di] :: lbs a.ex :: lbs a.ey :: [.bool a.ei] :: lbs a.fa :: lbs a.we :: lbs a.ch :: lbs a.z :: [.int .i64 b.node] :: lbs b.dx :: lbs b.dy :: [.bool b.di] :: lbs b.ex :: lbs b.ey :: [.bool b.ei] :: lbs b.fa :: lbs b.we :: lbs b.ch :: lbs b.z :: lbs (leakX a b) :: nI (leakE a b) :: []), []⟩ := by
  by_cases ia : ToldIn a
  · by_cases ib : ToldIn b
    · by_cases hp : pairL a = pairL b
      · by_cases hf : a.fa = b.fa
        · by_cases hw : fmlN false a.we a.ch = fmlN false b.we b.ch
          · exact (rleak_eq a b ha hb ia ib hp hf hw).said (fun _ => rfl) (fun _ => res_no (V := ⟨[], []⟩) (E := 1) (by unfold leakE; rw [if_pos ⟨ia, ib⟩, if_neg (fun h => h.2.2 hw)]) (by decide))
          · have hE : leakE a b = 0 := by unfold leakE; rw [if_pos ⟨ia, ib⟩, if_pos ⟨hp, hf, hw⟩]
            have hX : leakX a b = fmlN false (fsbN false a.z b.z) (fpwN false (fsbN false (fmlN false a.we a.ch) (fmlN false b.we b.ch)) (ieN false)) := by unfold leakX; rw [if_pos hE]
            refine (rleak_yes a b ha hb ia ib hp hf hw).said (fun _ => rfl) (fun _ => ?_)
            show Value.tuple #[num (fmlN false (fsbN false a.z b.z) (fpwN false (fsbN false (fmlN false a.we a.ch) (fmlN false b.we b.ch)) (ieN false))), .int .i64 0] = .tuple #[num (leakX a b), .int .i64 (leakE a b : Nat)]
            rw [hX, hE]; rfl
        · exact (rleak_fac a b ha hb ia ib hp hf).said (fun _ => rfl) (fun _ => res_no (V := ⟨[], []⟩) (E := 1) (by unfold leakE; rw [if_pos ⟨ia, ib⟩, if_neg (fun h => hf h.2.1)]) (by decide))
      · exact (rleak_pair a b ha hb ia ib hp).said (fun _ => rfl) (fun _ => res_no (V := ⟨[], []⟩) (E := 1) (by unfold leakE; rw [if_pos ⟨ia, ib⟩, if_neg (fun h => hp h.1)]) (by decide))
    · exact (rleak_nob a b ha hb ia ib).said (fun _ => rfl) (fun _ => res_no (V := ⟨[], []⟩) (E := 20) (by unfold leakE; rw [if_neg (fun h => ib h.2)]) (by decide))
  · exact (rleak_noa a b ha hb ia).said (fun _ => rfl) (fun _ => res_no (V := ⟨[], []⟩) (E := 20) (by unfold leakE; rw [if_neg (fun h => ia h.1)]) (by decide))
end Go.Proofs.Ytbmokmkaebfneaa
