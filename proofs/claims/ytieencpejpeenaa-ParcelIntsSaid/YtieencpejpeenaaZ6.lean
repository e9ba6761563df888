/- Lists of texts held against each other; ParcelUnpacks, in plain Lean. No program here. -/
import Derived.Test.YtieencpejpeenaaZ5
import Derived.Test.YtieencpejpeenaaQParcelx6
namespace Go.Proofs.Ytieencpejpeenaa
set_option linter.unusedVariables false
set_option linter.unusedSimpArgs false
open Go.RowKit Go.Proofs.YtieencpejpeenaaW.PrintWords
open QParcel

theorem toList_same (a b : ByteArray) : a.toList = b.toList ↔ a = b := by
  rw [ByteArray.toList_eq, ByteArray.toList_eq]
  constructor
  · intro h
    apply ByteArray.ext
    exact Array.toList_inj.1 h
  · intro h; rw [h]
theorem tx_step (i n : Nat) (h : i < n) (hn : n ≤ 8796093022208) : wrap64 ((i : Int) + 1) = ((i + 1 : Nat) : Int) := by unfold wrap64; omega
theorem tx_l0 (a b : List ByteArray) (ha : a.length ≤ 8796093022208) : ∀ d i, i + d = a.length → i ≤ b.length → a.take i = b.take i →
    Ev (fun k => wardmoteplain_Texts.l0 k a b (a.length : Int) (i : Int)) (decide (a = b)) := by
  intro d
  induction d with
  | zero =>
    intro i hi hib ht
    obtain rfl : i = a.length := by omega
    rw [List.take_length] at ht
    have g : ¬ (a.length : Int) < (a.length : Int) := Int.lt_irrefl _
    have e : decide (a = b) = ((a.length : Int) == (b.length : Int)) := by
      by_cases h : a.length = b.length
      · have : a = b := by rw [h, List.take_length] at ht; exact ht
        subst this; simp
      · have h1 : ¬ a = b := fun h' => h (by rw [h'])
        have h2 : ((a.length : Int) == (b.length : Int)) = false := by simp; omega
        rw [h2, decide_eq_false h1]
    rw [e]
    refine Ev.step (f := fun _ => some ((a.length : Int) == (b.length : Int))) (fun k => ?_) (Ev.now _)
    show wardmoteplain_Texts.l0 (k + 1) _ _ _ _ = _
    unfold wardmoteplain_Texts.l0
    rw [if_neg g]
  | succ d ih =>
    intro i hi hib ht
    have hia : i < a.length := by omega
    have g1 : (i : Int) < (a.length : Int) := Int.ofNat_lt.2 hia
    have g0 : 0 ≤ (i : Int) := Int.natCast_nonneg _
    by_cases c1 : b.length ≤ i
    · have g2 : (i : Int) ≥ (b.length : Int) := Int.ofNat_le.2 c1
      rw [decide_eq_false (fun h => by rw [h] at hia; omega)]
      refine Ev.step (f := fun _ => some false) (fun k => ?_) (Ev.now _)
      show wardmoteplain_Texts.l0 (k + 1) _ _ _ _ = _
      unfold wardmoteplain_Texts.l0
      rw [if_pos g1, if_pos g2]
    · have hb : i < b.length := by omega
      have g2 : ¬ (i : Int) ≥ (b.length : Int) := by omega
      have g3 : (i : Int) < (b.length : Int) := Int.ofNat_lt.2 hb
      by_cases c2 : a[i] = b[i]
      · have g4 := (toList_same a[i] b[i]).2 c2
        refine Ev.step (fun k => ?_) (ih (i + 1) (by omega) hb (by rw [take_one a i hia, take_one b i hb, ht, c2]))
        show wardmoteplain_Texts.l0 (k + 1) _ _ _ _ = _
        conv => lhs; unfold wardmoteplain_Texts.l0
        rw [if_pos g1, if_neg g2, if_pos g0, if_pos g1, if_pos g3, rd_at a i hia, rd_at b i hb, if_pos g4, tx_step i _ hia ha]
      · have g4 : ¬ a[i].toList = b[i].toList := fun h => c2 ((toList_same _ _).1 h)
        have hne : ¬ a = b := fun h => by subst h; exact c2 rfl
        rw [decide_eq_false hne]
        refine Ev.step (f := fun _ => some false) (fun k => ?_) (Ev.now _)
        show wardmoteplain_Texts.l0 (k + 1) _ _ _ _ = _
        unfold wardmoteplain_Texts.l0
        rw [if_pos g1, if_neg g2, if_pos g0, if_pos g1, if_pos g3, rd_at a i hia, rd_at b i hb, if_neg g4]
theorem texts_ev (a b : List ByteArray) (ha : a.length ≤ 8796093022208) : Ev (fun k => wardmoteplain_Texts.f k a b) (decide (a = b)) :=
  tx_l0 a b ha a.length 0 (by omega) (by omega) (by simp)
theorem unpS_few (s : ByteArray) : ∀ d at_ l, (unpS s d at_ l).2.1.length ≤ l.length + d
  | 0, at_, l => by unfold unpS; split <;> simp
  | d + 1, at_, l => by
    unfold unpS
    split
    · simp
    · split
      · simp
      · split
        · simp
        · have := unpS_few s d (at_ + 2 + lenAt s at_) (l ++ [s.extract (at_ + 2) (at_ + 2 + lenAt s at_)])
          rw [List.length_append] at this
          simp at this ⊢
          omega
theorem unpackR_few (s : ByteArray) : (unpackR s).2.1.length ≤ 256 := by
  unfold unpackR
  split
  · simp
  · split
    · simp
    · split
      · simp
      · have := unpS_few s (bN s 1) 2 []
        have h := bN_lt s 1
        simp at this
        omega
theorem unpacks_pure (s : ByteArray) (hs : s.size ≤ 140737488351232) : ∃ k, wardmotelaw09_ParcelUnpacks.f k s = some true := by
  refine Ev.rounds (g := fun k => wardmotelaw09_ParcelUnpacks.f k s) ?_
  unfold wardmotelaw09_ParcelUnpacks.f
  refine Ev.bind (unpack_ev s) ?_
  refine Ev.bind (runpack_ev s) ?_
  have ht := texts_ev (unpackR s).2.1 (unpackR s).2.1 (Nat.le_trans (unpackR_few s) (by decide))
  rw [decide_eq_true rfl] at ht
  have h : Ev (fun k => (wardmotelaw09_two.f k).bind fun t => some t) true := Ev.bind two_ev (Ev.now _)
  have h2 : Ev (fun k => (wardmoteplain_Texts.f k (unpackR s).2.1 (unpackR s).2.1).bind fun t => (if t = true then (if (unpackR s).2.2 = (unpackR s).2.2 then ((wardmotelaw09_two.f k).bind fun t => some t) else (some false)) else (some false))) true := by
    refine Ev.bind ht (Ev.congr (fun k => ?_) h)
    show (if _ then _ else _) = _
    rw [if_pos rfl, if_pos rfl]
  refine Ev.congr (fun k => ?_) h2
  show (if _ then _ else _) = _
  rw [if_pos rfl]
end Go.Proofs.Ytieencpejpeenaa
