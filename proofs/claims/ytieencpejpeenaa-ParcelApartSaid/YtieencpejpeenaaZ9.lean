/- ParcelApart, in plain Lean: unlike records have unlike bytes, and none's bytes begin another one's. No program here. -/
import Derived.Test.YtieencpejpeenaaZ8
import Derived.Test.YtieencpejpeenaaQApart
namespace Go.Proofs.Ytieencpejpeenaa
set_option linter.unusedVariables false
set_option linter.unusedSimpArgs false
open Go.RowKit Go.Proofs.YtieencpejpeenaaW.PrintWords
open QParcel

theorem len_same (a b : Nat) (ha : a < 65536) (hb : b < 65536) (h : U [(a : Int) / 256 % 256, (a : Int) % 256] = U [(b : Int) / 256 % 256, (b : Int) % 256]) : a = b := by
  rw [len_cells a ha, len_cells b hb] at h
  simp only [List.cons.injEq, and_true] at h
  obtain ⟨h1, h2, h3⟩ := len_sum a ha
  obtain ⟨g1, g2, g3⟩ := len_sum b hb
  have e1 := congrArg UInt8.toNat h.1
  have e2 := congrArg UInt8.toNat h.2
  rw [o_nat _ h1, o_nat _ g1] at e1
  rw [o_nat _ h2, o_nat _ g2] at e2
  rw [← h3, ← g3, e1, e2]
theorem items_apart : ∀ (a b : List ByteArray) (rest : List UInt8), a.length = b.length → (∀ s ∈ a, s.size ≤ 8000) → (∀ s ∈ b, s.size ≤ 8000) → U (itemsB a) ++ rest = U (itemsB b) → a = b
  | [], [], _, _, _, _, _ => rfl
  | [], _ :: _, _, h, _, _, _ => by simp at h
  | _ :: _, [], _, h, _, _, _ => by simp at h
  | s :: a, t :: b, rest, h, ha, hb, hU => by
    simp only [itemsB, U_append, item_U, List.append_assoc] at hU
    have hlen : (U [(s.size : Int) / 256 % 256, (s.size : Int) % 256]).length = (U [(t.size : Int) / 256 % 256, (t.size : Int) % 256]).length := rfl
    obtain ⟨e1, e2⟩ := List.append_inj hU hlen
    have h8 := ha s (by simp)
    have g8 := hb t (by simp)
    have hst := len_same s.size t.size (by omega) (by omega) e1
    obtain ⟨e3, e4⟩ := List.append_inj e2 (by rw [D_size, D_size, hst])
    rw [D_inj e3, items_apart a b rest (by simpa using h) (fun x hx => ha x (by simp [hx])) (fun x hx => hb x (by simp [hx])) e4]
theorem D_pack (kind : Int) (l : List ByteArray) : D (strOfNums (packB kind l)) = U [kind % 256, (l.length : Int) % 256] ++ U (itemsB l) := by rw [D_str]; unfold packB; rw [U_append]
theorem begins_same (kind : Int) (a b : List ByteArray) (ha : PackOk a) (hb : PackOk b) (rest : List UInt8) (h : D (strOfNums (packB kind a)) ++ rest = D (strOfNums (packB kind b))) : a = b := by
  rw [D_pack, D_pack, List.append_assoc] at h
  obtain ⟨e1, e2⟩ := List.append_inj h rfl
  refine items_apart a b rest ?_ ha.1 hb.1 e2
  have h1 := ha.2.1
  have h2 := hb.2.1
  simp only [U, List.map_cons, List.map_nil, List.cons.injEq, and_true] at e1
  have e3 := congrArg UInt8.toNat e1.2
  have q1 : ((a.length : Int) % 256).toNat = a.length := by omega
  have q2 : ((b.length : Int) % 256).toNat = b.length := by omega
  rw [q1, q2, o_nat _ (by omega), o_nat _ (by omega)] at e3
  exact e3
theorem same_bytes (kind : Int) (a b : List ByteArray) (ha : PackOk a) (hb : PackOk b) : ((strOfNums (packB kind a)).toList == (strOfNums (packB kind b)).toList) = decide (a = b) := by
  by_cases h : a = b
  · subst h; simp
  · rw [decide_eq_false h, beq_eq_false_iff_ne]
    intro h'
    have e := (toList_same _ _).1 h'
    exact h (begins_same kind a b ha hb [] (by rw [List.append_nil, e]))
theorem begins (kind : Int) (a b : List ByteArray) (ha : PackOk a) (hb : PackOk b) (hs : (strOfNums (packB kind a)).size ≤ (strOfNums (packB kind b)).size) :
    (((strOfNums (packB kind b)).extract 0 (strOfNums (packB kind a)).size).toList == (strOfNums (packB kind a)).toList) = decide (a = b) := by
  by_cases h : a = b
  · subst h
    have e : (strOfNums (packB kind a)).extract 0 (strOfNums (packB kind a)).size = strOfNums (packB kind a) := by
      apply D_inj
      rw [D_extract, List.drop_zero, Nat.sub_zero, ← D_size, List.take_length]
    rw [e]; simp
  · rw [decide_eq_false h, beq_eq_false_iff_ne]
    intro h'
    have e := (toList_same _ _).1 h'
    refine h (begins_same kind a b ha hb ((D (strOfNums (packB kind b))).drop (strOfNums (packB kind a)).size) ?_)
    conv => lhs; rw [← e]
    have e2 := D_extract (strOfNums (packB kind b)) 0 (strOfNums (packB kind a)).size
    rw [List.drop_zero, Nat.sub_zero] at e2
    have e3 : ((strOfNums (packB kind b)).extract 0 (strOfNums (packB kind a)).size).size = (strOfNums (packB kind a)).size := by rw [e]
    rw [e3, e2, List.take_append_drop]
theorem ap_true (l1 l2 : List ByteArray) (p q : ByteArray) : Ev (fun k => wardmotelaw09_ParcelApart.j0 k l1 l2 p q true) true := by
  refine Ev.step (fun k => ?_) two_some
  show wardmotelaw09_ParcelApart.j0 (k + 1) _ _ _ _ _ = _
  unfold wardmotelaw09_ParcelApart.j0
  dsimp only
  rw [if_pos rfl]
theorem ap_false (kind : Int) (a b : List ByteArray) (ha : PackOk a) (hb : PackOk b) (hl : a.length ≤ 8796093022208) : Ev (fun k => wardmotelaw09_ParcelApart.j0 k a b (strOfNums (packB kind a)) (strOfNums (packB kind b)) false) true := by
  have ht := texts_ev a b hl
  have s1 := same_bytes kind a b ha hb
  have s2 := begins kind a b ha hb
  have s3 : a = b → (strOfNums (packB kind a)).size = (strOfNums (packB kind b)).size := fun h => by rw [h]
  generalize strOfNums (packB kind a) = p at *
  generalize strOfNums (packB kind b) = q at *
  refine Ev.step (f := fun k => (wardmoteplain_Texts.f k a b).bind fun t195 => (if (p.size : Int) ≤ (q.size : Int) then (if 0 ≤ (p.size : Int) then (if ((p.toList == q.toList) == t195) = true then (if (((q.extract 0 ((p.size : Int) : Int).toNat).toList == p.toList) == t195) = true then ((wardmotelaw09_two.f k).bind fun t196 => (some t196)) else (some false)) else (some false)) else (none)) else (if ((p.toList == q.toList) == t195) = true then (if (false == t195) = true then ((wardmotelaw09_two.f k).bind fun t197 => (some t197)) else (some false)) else (some false)))) (fun k => ?_) (Ev.bind ht ?_)
  · show wardmotelaw09_ParcelApart.j0 (k + 1) _ _ _ _ _ = _
    unfold wardmotelaw09_ParcelApart.j0
    dsimp only
    rw [if_neg (by simp)]
  · refine Ev.congr (fun k => ?_) two_some
    show (if _ then _ else _) = _
    by_cases c : p.size ≤ q.size
    · rw [if_pos (Int.ofNat_le.2 c), if_pos (Int.natCast_nonneg _), s1, if_pos (by simp), Int.toNat_natCast, s2 c, if_pos (by simp)]
    · have hne : ¬ a = b := fun h => by have := s3 h; omega
      rw [if_neg (fun h => c (Int.ofNat_le.1 h)), s1, if_pos (by simp), decide_eq_false hne, if_pos (by decide)]
theorem apart_pure (kind : Int) (a : List ByteArray) (hl : a.length ≤ 8796093022208) (b : List ByteArray) (hl2 : b.length ≤ 8796093022208) : ∃ k, wardmotelaw09_ParcelApart.f k kind a b = some true := by
  refine Ev.rounds (g := fun k => wardmotelaw09_ParcelApart.f k kind a b) ?_
  have hp := pack_ev kind a hl
  have hq := pack_ev kind b hl2
  have ta := packR_there kind a
  have tb := packR_there kind b
  rcases hr : packR kind a with ⟨p, e⟩
  rcases hr2 : packR kind b with ⟨q, e'⟩
  rw [hr] at hp ta
  rw [hr2] at hq tb
  refine Ev.bind hp (Ev.bind hq ?_)
  by_cases h0 : e = 0
  · by_cases h1 : e' = 0
    · obtain ⟨_, a2, a3⟩ := ta h0
      obtain ⟨_, b2, b3⟩ := tb h1
      have a3' : p = strOfNums (packB kind a) := a3
      have b3' : q = strOfNums (packB kind b) := b3
      refine Ev.congr (fun k => ?_) (ap_false kind a b a2 b2 hl)
      show (if e = 0 then wardmotelaw09_ParcelApart.j0 k a b p q (e' != 0) else _) = _
      rw [if_pos h0, a3', b3', h1]
      rfl
    · refine Ev.congr (fun k => ?_) (ap_true a b p q)
      show (if e = 0 then wardmotelaw09_ParcelApart.j0 k a b p q (e' != 0) else _) = _
      rw [if_pos h0, show (e' != 0) = true from by simpa using h1]
  · refine Ev.congr (fun k => ?_) (ap_true a b p q)
    show (if e = 0 then _ else wardmotelaw09_ParcelApart.j0 k a b p q true) = _
    rw [if_neg h0]
end Go.Proofs.Ytieencpejpeenaa
