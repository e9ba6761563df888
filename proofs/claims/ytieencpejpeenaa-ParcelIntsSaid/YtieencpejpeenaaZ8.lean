/- ParcelBack, in plain Lean. No program here. -/
import Derived.Test.YtieencpejpeenaaZ7
namespace Go.Proofs.Ytieencpejpeenaa
set_option linter.unusedVariables false
set_option linter.unusedSimpArgs false
open Go.RowKit Go.Proofs.YtieencpejpeenaaW.PrintWords
open QParcel

theorem two_some : Ev (fun k => (wardmotelaw09_two.f k).bind fun t => some t) true := Ev.bind two_ev (Ev.now _)
theorem packR_back (s : ByteArray) (k : Int) (l : List ByteArray) (h : unpackR s = (k, l, 0)) : packR k l = (s, 0) := by
  obtain ⟨h1, h2, h3⟩ := unpack_back s k l h
  unfold packR
  rw [if_pos h1, packA_ok h2, h3]
theorem packR_there (kind : Int) (l : List ByteArray) (h : (packR kind l).2 = 0) : (0 < kind ∧ kind < 64) ∧ PackOk l ∧ (packR kind l).1 = strOfNums (packB kind l) := by
  unfold packR at h ⊢
  by_cases h1 : 0 < kind ∧ kind < 64
  · rw [if_pos h1] at h ⊢
    by_cases h2 : PackOk l
    · rw [packA_ok h2]; exact ⟨h1, h2, rfl⟩
    · rw [packA_no h2] at h; exact absurd h (by decide)
  · rw [if_neg h1] at h; exact absurd h (by decide)
theorem bk_j0 (s : ByteArray) : Ev (fun k => wardmotelaw09_ParcelBack.j0 k s) true := by
  have hf := unpackR_few s
  have he := unpackR_err s
  have hu := unpack_ev s
  rcases hr : unpackR s with ⟨k0, l0, e0⟩
  rw [hr] at hu hf he
  refine Ev.step (fun k => ?_) (Ev.bind hu (f := fun k bt181 => (if bt181.2.2 = 0 then ((parcel_Pack.f k bt181.1 bt181.2.1).bind fun bt186 => (if bt186.2 = 0 then (if bt186.1.toList = s.toList then ((wardmotelaw09_two.f k).bind fun t188 => (some t188)) else (some false)) else (some false))) else (if bt181.1 = 0 then (if (bt181.2.1.length : Int) = 0 then ((wardmotelaw09_two.f k).bind fun t189 => (some t189)) else (some false)) else (some false)))) ?_)
  · show wardmotelaw09_ParcelBack.j0 (k + 1) s = _
    unfold wardmotelaw09_ParcelBack.j0
    rfl
  · by_cases h0 : e0 = 0
    · subst h0
      have hp := pack_ev k0 l0 (Nat.le_trans hf (by decide))
      rw [packR_back s k0 l0 hr] at hp
      refine Ev.congr (fun k => ?_) (Ev.bind hp (f := fun k bt186 => (if bt186.2 = 0 then (if bt186.1.toList = s.toList then ((wardmotelaw09_two.f k).bind fun t188 => (some t188)) else (some false)) else (some false))) ?_)
      · show (if _ then _ else _) = _
        rw [if_pos rfl]
      · refine Ev.congr (fun k => ?_) two_some
        show (if _ then _ else _) = _
        rw [if_pos rfl, if_pos rfl]
    · obtain ⟨h1, h2⟩ := he h0
      have h1' : k0 = 0 := h1
      have h2' : l0 = [] := h2
      refine Ev.congr (fun k => ?_) two_some
      show (if e0 = 0 then _ else (if k0 = 0 then (if (l0.length : Int) = 0 then _ else _) else _)) = _
      rw [if_neg h0, if_pos h1', h2', if_pos (by simp)]
theorem back_pure (kind : Int) (l : List ByteArray) (hl : l.length ≤ 8796093022208) (s : ByteArray) (hs : s.size ≤ 140737488351232) : ∃ k, wardmotelaw09_ParcelBack.f k kind l s = some true := by
  refine Ev.rounds (g := fun k => wardmotelaw09_ParcelBack.f k kind l s) ?_
  have hp := pack_ev kind l hl
  have ht := packR_there kind l
  rcases hr : packR kind l with ⟨p, e⟩
  rw [hr] at hp ht
  refine Ev.bind hp ?_
  by_cases h0 : e = 0
  · subst h0
    obtain ⟨h1, h2, h3⟩ := ht rfl
    have h3' : p = strOfNums (packB kind l) := h3
    have hu := unpack_ev p
    rw [h3', pack_bytes kind h1 l h2, ← h3'] at hu
    have htx := texts_ev l l hl
    rw [decide_eq_true rfl] at htx
    refine Ev.congr (fun k => ?_) (Ev.bind hu (f := fun k bt175 => (if bt175.2.2 = 0 then (if bt175.1 = kind then ((wardmoteplain_Texts.f k bt175.2.1 l).bind fun t180 => (if t180 = true then (wardmotelaw09_ParcelBack.j0 k s) else (some false))) else (some false)) else (some false))) ?_)
    · show (if _ then _ else _) = _
      rw [if_pos rfl]
    · refine Ev.congr (fun k => ?_) (Ev.bind htx (f := fun k t180 => (if t180 = true then (wardmotelaw09_ParcelBack.j0 k s) else (some false))) ?_)
      · show (if _ then _ else _) = _
        rw [if_pos rfl, if_pos rfl]
      · refine Ev.congr (fun k => ?_) (bk_j0 s)
        show (if _ then _ else _) = _
        rw [if_pos rfl]
  · refine Ev.congr (fun k => ?_) (bk_j0 s)
    show (if e = 0 then _ else _) = _
    rw [if_neg h0]
end Go.Proofs.Ytieencpejpeenaa
