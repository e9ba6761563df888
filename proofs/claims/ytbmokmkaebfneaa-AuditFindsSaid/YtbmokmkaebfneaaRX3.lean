/- Regions: the run in any order, and in the text's. -/
import Derived.Test.YtbmokmkaebfneaaRX2
namespace Go.Proofs.Ytbmokmkaebfneaa
open Go.RowKit
namespace RX
set_option linter.unnecessarySimpa false
set_option linter.unusedVariables false
set_option linter.unusedSimpArgs false
section
variable {P : Program} {V : Env} {p0 N : Nat} {ro : Nat → Bool} {ops : Array Oper} {L : List (Option Nat × Eff)} {n0 : Nat → Nat} {anc : Nat → Nat → Bool} {σs : Nat → SV} {σh : Nat → Option Bk} {w0 : World} {ρ0 : Nat → Nat × Nat} {Q : Exit → Act → World → Prop}

theorem Sq.step (R : Sq P V p0 N ro ops L n0 σs σh) {i : Nat} {o : Oper} {ρ : Nat → Nat × Nat} {a : Act} {w : World} {K : Act → World → Prop}
    (ho : ops[i]? = some o) (h : Inv V w0 ρ0 p0 N ro ρ (foldS (fun j => Nat.blt j i) 0 L σs) (foldH (fun j => Nat.blt j i) 0 L σh) a w)
    (hK : ∀ ρ' a' w', Inv V w0 ρ0 p0 N ro ρ' (foldS (fun j => Nat.blt j (i + 1)) 0 L σs) (foldH (fun j => Nat.blt j (i + 1)) 0 L σh) a' w' → K a' w') : wpOp P ops Q i K a w := by
  obtain ⟨f, hf⟩ := R.dst i o ho
  have hbase := R.base i _ f hf
  have hlt : ∀ {k m : Nat}, Nat.blt k m = true → k < m := fun h => blt_iff.1 h
  have hs : ∀ t, (foldS (fun j => Nat.blt j i) 0 L σs t).out (n0 i) (n0 i + f.nw) = true := by
    intro t
    rcases foldS_or (F := fun j => Nat.blt j i) (t := t) L 0 σs with e | ⟨k, d, fk, hk, hF, e⟩
    · rw [e]; exact hbase.1 t
    · rw [e]; exact Eff.outs_v (R.bnd i k _ _ _ _ (hlt (by simpa using hF)) hf hk)
  have hH : ∀ id bk, foldH (fun j => Nat.blt j i) 0 L σh id = some bk → (id < n0 i ∨ n0 i + f.nw ≤ id) ∧ bk.out (n0 i) (n0 i + f.nw) = true := by
    intro id bk hb
    rcases foldH_or (F := fun j => Nat.blt j i) (t := id) L 0 σh with e | ⟨k, d, fk, hk, hF, _, e⟩
    · rw [e] at hb; exact hbase.2.1 id bk hb
    · rw [e] at hb; exact Eff.outs_up (R.bnd i k _ _ _ _ (hlt (by simpa using hF)) hf hk) hb
  refine one_op (τs := foldS (fun j => Nat.blt j i) 0 L σs) (τs' := foldS (fun j => Nat.blt j i) 0 L σs) (τh := foldH (fun j => Nat.blt j i) 0 L σh) ho (R.ok i o f ho hf) (fun _ _ => rfl) (fun id bk hb => R.rd i _ f id bk hf hb) ?_ (fun id hu => R.ro i _ f id hf hu) ?_ hs (fun id bk hb => (hH id bk hb).2) (fun t ht => R.dN i t f (by rw [← ht]; exact hf)) h ?_
  · intro id hu hnew
    cases hb : lkH f.rd id with
    | none => exact absurd hb (R.up i _ f id hf hu hnew)
    | some bk => rw [(R.rd i _ f id bk hf hb).1]; exact (R.rd i _ f id bk hf hb).2
  · intro id h1 h2
    refine ⟨?_, Nat.le_trans hbase.2.2 h1⟩
    cases hb : foldH (fun j => Nat.blt j i) 0 L σh id with
    | none => rfl
    | some bk => have := (hH id bk hb).1; omega
  · intro ρ' a' w' hI
    refine hK ρ' a' w' ?_
    have eb : ∀ k, k ≠ i → Nat.blt k i = Nat.blt k (i + 1) := fun k hk => by
      cases hq : Nat.blt k i with
      | true => exact (blt_iff.2 (by have := blt_iff.1 hq; omega)).symm
      | false =>
        cases hq' : Nat.blt k (i + 1) with
        | false => rfl
        | true => have := blt_iff.2 (show k < i by have := blt_iff.1 hq'; omega); rw [this] at hq; cases hq
    have eS : putS (foldS (fun j => Nat.blt j i) 0 L σs) o.dst f.v = foldS (fun j => Nat.blt j (i + 1)) 0 L σs := by
      funext t
      unfold putS
      by_cases hd : o.dst = some t
      · rw [if_pos hd]
        symm
        refine foldS_last L 0 i σs (by rw [← hd]; exact hf) (by simp [blt_iff]) (fun k d fk hik hk hF hdt => ?_)
        have := blt_iff.1 hF; omega
      · rw [if_neg hd]
        refine foldS_agree L 0 _ _ (fun k d fk hk hdt => ?_) rfl
        rw [Nat.zero_add]
        by_cases hki : k = i
        · subst hki; rw [hf] at hk; exact absurd ((congrArg Prod.fst (Option.some.inj hk)).trans hdt) hd
        · exact eb k hki
    have eH : putH (foldH (fun j => Nat.blt j i) 0 L σh) f.up = foldH (fun j => Nat.blt j (i + 1)) 0 L σh := by
      funext id
      unfold putH
      cases hu : lkH f.up id with
      | some b =>
        symm
        refine foldH_last hu L 0 i σh hf (by simp [blt_iff]) (fun k d fk hik hk hF => ?_)
        have := blt_iff.1 hF; omega
      | none =>
        refine foldH_agree L 0 _ _ (fun k d fk hk hdt => ?_) rfl
        rw [Nat.zero_add]
        by_cases hki : k = i
        · subst hki; rw [hf] at hk; exact absurd ((congrArg (fun x => lkH x.2.up id) (Option.some.inj hk)).symm.trans hu) hdt
        · exact eb k hki
    rw [← eS, ← eH]; exact hI
theorem Sq.run (R : Sq P V p0 N ro ops L n0 σs σh) (hK : ∀ ρ' a' w', Inv V w0 ρ0 p0 N ro ρ' (foldS (fun j => Nat.blt j ops.size) 0 L σs) (foldH (fun j => Nat.blt j ops.size) 0 L σh) a' w' → Q .normal a' w') :
    ∀ (m i : Nat) (ρ : Nat → Nat × Nat) (a : Act) (w : World), i + m = ops.size → Inv V w0 ρ0 p0 N ro ρ (foldS (fun j => Nat.blt j i) 0 L σs) (foldH (fun j => Nat.blt j i) 0 L σh) a w → wpOps P ops Q (List.range' i m) a w
  | 0, i, ρ, a, w, he, h => by
    obtain rfl : i = ops.size := by omega
    exact hK ρ a w h
  | m + 1, i, ρ, a, w, he, h => by
    rw [List.range'_succ, wpOps_cons]
    exact R.step (Array.getElem?_eq_getElem (show i < ops.size by omega)) h fun ρ' a' w' hI => Sq.run R hK m (i + 1) ρ' a' w' (by omega) hI
theorem foldS_zero (L : List (Option Nat × Eff)) (σs : Nat → SV) : foldS (fun j => Nat.blt j 0) 0 L σs = σs := by
  funext t; exact foldS_none L 0 σs (fun k d f _ hF => by have := blt_iff.1 hF; omega)
theorem foldH_zero (L : List (Option Nat × Eff)) (σh : Nat → Option Bk) : foldH (fun j => Nat.blt j 0) 0 L σh = σh := by
  funext t; exact foldH_none L 0 σh (fun k d f _ hF => by have := blt_iff.1 hF; omega)
theorem Sq.wp (R : Sq P V p0 N ro ops L n0 σs σh) {id : Nat} {ρ : Nat → Nat × Nat} {a : Act} {w : World} (h : Inv V w0 ρ0 p0 N ro ρ σs σh a w)
    (hK : ∀ ρ' a' w', Inv V w0 ρ0 p0 N ro ρ' (foldS (fun j => Nat.blt j ops.size) 0 L σs) (foldH (fun j => Nat.blt j ops.size) 0 L σh) a' w' → Q .normal a' w') : (Code.region id ops false).wp P Q a w := by
  refine wp_region ?_
  rw [List.range_eq_range']
  exact R.run hK ops.size 0 ρ a w (by omega) (by rw [foldS_zero, foldH_zero]; exact h)

def cnt (f : Nat → Bool) : Nat → Nat
  | 0 => 0
  | m + 1 => cnt f m + (if f m then 1 else 0)
theorem cnt_same {f g : Nat → Bool} : ∀ n, (∀ j, j < n → g j = f j) → cnt g n = cnt f n
  | 0, _ => rfl
  | n + 1, h => by unfold cnt; rw [cnt_same n (fun j hj => h j (by omega)), h n (by omega)]
theorem cnt_less {f g : Nat → Bool} {i : Nat} (hi : f i = true) (hg : g i = false) (hne : ∀ j, j ≠ i → g j = f j) : ∀ n, i < n → cnt g n + 1 = cnt f n
  | 0, h => by omega
  | n + 1, h => by
    unfold cnt
    by_cases hin : i = n
    · subst hin; rw [cnt_same i (fun j hj => hne j (by omega)), hi, hg]; simp
    · rw [← cnt_less hi hg hne n (by omega), hne n (fun e => hin e.symm)]; omega
theorem cnt_zero {f : Nat → Bool} : ∀ n, cnt f n = 0 → ∀ j, j < n → f j = false
  | 0, _, j, hj => by omega
  | n + 1, h, j, hj => by
    unfold cnt at h
    by_cases e : j = n
    · subst e
      cases hq : f j with
      | false => rfl
      | true => rw [hq] at h; simp at h
    · exact cnt_zero n (by omega) j (by omega)

theorem Reg.any (R : Reg P V p0 N ro ops L n0 anc σs σh) (hK : ∀ ρ' a' w', Inv V w0 ρ0 p0 N ro ρ' (foldS (fun j => Nat.blt j ops.size) 0 L σs) (foldH (fun j => Nat.blt j ops.size) 0 L σh) a' w' → Q .normal a' w') :
    ∀ (fuel : Nat) (listed : Array Bool) (ρ : Nat → Nat × Nat) (a : Act) (w : World), listed.size = ops.size → (∀ k, listed.getD k false = true → ∀ j, anc k j = true → listed.getD j false = true) → cnt (fun j => !listed.getD j true) ops.size ≤ fuel →
      Inv V w0 ρ0 p0 N ro ρ (foldS (fun j => listed.getD j false) 0 L σs) (foldH (fun j => listed.getD j false) 0 L σh) a w → wpAny P .any ops Q fuel listed a w := by
  have fin : ∀ (listed : Array Bool) (ρ : Nat → Nat × Nat) (a : Act) (w : World), listed.size = ops.size → (∀ j, j < ops.size → listed.getD j true = true) →
      Inv V w0 ρ0 p0 N ro ρ (foldS (fun j => listed.getD j false) 0 L σs) (foldH (fun j => listed.getD j false) 0 L σh) a w → Q .normal a w := by
    intro listed ρ a w hsz hall h
    refine hK ρ a w ?_
    have e : ∀ k, k < ops.size → listed.getD k false = Nat.blt k ops.size := fun k hk => by
      have h1 := hall k hk
      rw [(blt_iff.2 hk)]
      rw [Array.getD_eq_getD_getElem?, Array.getElem?_eq_getElem (show k < listed.size by omega)] at h1 ⊢
      exact h1
    have hL : ∀ {k : Nat} {x : Option Nat × Eff}, L[k]? = some x → k < ops.size := fun hk => by rw [← R.len]; exact (List.getElem?_eq_some_iff.1 hk).1
    have e1 : foldS (fun j => listed.getD j false) 0 L σs = foldS (fun j => Nat.blt j ops.size) 0 L σs := by
      funext t; exact foldS_agree L 0 _ _ (fun k d f hk _ => by rw [Nat.zero_add]; exact e k (hL hk)) rfl
    have e2 : foldH (fun j => listed.getD j false) 0 L σh = foldH (fun j => Nat.blt j ops.size) 0 L σh := by
      funext t; exact foldH_agree L 0 _ _ (fun k d f hk _ => by rw [Nat.zero_add]; exact e k (hL hk)) rfl
    rw [← e1, ← e2]; exact h
  have allOf : ∀ (listed : Array Bool), listed.size = ops.size → Region.ready .any ops listed = [] → ∀ j, j < ops.size → listed.getD j true = true := by
    intro listed hsz hr j
    induction j using Nat.strongRecOn with
    | _ j ih =>
      intro hj
      cases hq : listed.getD j true with
      | true => rfl
      | false =>
        have : j ∈ Region.ready .any ops listed := by
          refine mem_ready.2 ⟨hq, ops[j], Array.getElem?_eq_getElem hj, fun e he hb => ?_⟩
          have hlt := R.edge j _ (Array.getElem?_eq_getElem hj) e he hb
          have := ih e.on hlt (by omega)
          rw [Array.getD_eq_getD_getElem?, Array.getElem?_eq_getElem (show e.on < listed.size by omega)] at this ⊢
          exact this
        rw [hr] at this; cases this
  intro fuel
  induction fuel with
  | zero =>
    intro listed ρ a w hsz hcl hc h
    have hall : ∀ j, j < ops.size → listed.getD j true = true := fun j hj => by
      have := cnt_zero ops.size (Nat.le_zero.1 hc) j hj
      simpa using this
    refine ⟨?_, fin listed ρ a w hsz hall h⟩
    cases hr : Region.ready .any ops listed with
    | nil => rfl
    | cons x xs =>
      have hx : x ∈ Region.ready .any ops listed := by rw [hr]; exact List.mem_cons_self
      obtain ⟨h0, o, ho, _⟩ := mem_ready.1 hx
      rw [hall x (Array.getElem?_eq_some_iff.1 ho).1] at h0; cases h0
  | succ fuel ih =>
    intro listed ρ a w hsz hcl hc h
    refine ⟨fun hr => fin listed ρ a w hsz (allOf listed hsz hr) h, fun i hi => ?_⟩
    obtain ⟨hun, o, ho, hall⟩ := mem_ready.1 hi
    have his : i < ops.size := (Array.getElem?_eq_some_iff.1 ho).1
    have hFi : listed.getD i false = false := by
      rw [Array.getD_eq_getD_getElem?, Array.getElem?_eq_getElem (show i < listed.size by omega)] at hun ⊢
      exact hun
    have hanc : ∀ j, anc i j = true → listed.getD j false = true := fun j hj => by
      obtain ⟨e, he, hb, hor⟩ := R.ancE i o j ho hj
      rcases hor with rfl | hor
      · exact hall e he hb
      · exact hcl e.on (hall e he hb) j hor
    refine R.step ho hFi hcl hanc h fun G ρ' a' w' hG hGi hI => ?_
    have hset : ∀ j, (listed.setIfInBounds i true).getD j false = G j := fun j => by
      by_cases hji : j = i
      · subst hji; rw [hGi]; simp [Array.getD_eq_getD_getElem?, Array.getElem?_setIfInBounds, hsz, his]
      · rw [hG j hji]; simp [Array.getD_eq_getD_getElem?, Array.getElem?_setIfInBounds, Ne.symm hji]
    have hfun : (fun j => (listed.setIfInBounds i true).getD j false) = G := funext hset
    refine ih (listed.setIfInBounds i true) ρ' a' w' (by simpa using hsz) ?_ ?_ (by rw [hfun]; exact hI)
    · intro k hk j hj
      rw [hset] at hk ⊢
      by_cases hji : j = i
      · rw [hji]; exact hGi
      · rw [hG j hji]
        by_cases hki : k = i
        · subst hki; exact hanc j hj
        · rw [hG k hki] at hk; exact hcl k hk j hj
    · have := cnt_less (f := fun j => !listed.getD j true) (g := fun j => !(listed.setIfInBounds i true).getD j true) (i := i) (by simp only [hun]; rfl)
        (by simp [Array.getD_eq_getD_getElem?, Array.getElem?_setIfInBounds, hsz, his]) (fun j hj => by simp [Array.getD_eq_getD_getElem?, Array.getElem?_setIfInBounds, Ne.symm hj]) ops.size his
      omega
theorem Inv.drew {ρ : Nat → Nat × Nat} {a : Act} {w : World} (h : Inv V w0 ρ0 p0 N ro ρ σs σh a w) : Inv V w0 ρ0 p0 N ro ρ σs σh a { w with drawn := w.drawn + 1 } :=
  ⟨h.size, h.defers, h.slots, h.heap, h.inj, ⟨h.fr.os, h.fr.tape, h.fr.output, h.fr.size, h.fr.block⟩, h.old, h.new⟩
theorem Reg.wp (R : Reg P V p0 N ro ops L n0 anc σs σh) (hm : P.follows .mixedOrders = true) {id : Nat} {ρ : Nat → Nat × Nat} {a : Act} {w : World} (h : Inv V w0 ρ0 p0 N ro ρ σs σh a w)
    (hK : ∀ ρ' a' w', Inv V w0 ρ0 p0 N ro ρ' (foldS (fun j => Nat.blt j ops.size) 0 L σs) (foldH (fun j => Nat.blt j ops.size) 0 L σh) a' w' → Q .normal a' w') : (Code.region id ops true).wp P Q a w := by
  have hF : (fun j => (Array.replicate ops.size false).getD j false) = fun j => Nat.blt j 0 := by
    funext j
    have : Nat.blt j 0 = false := by cases hq : Nat.blt j 0 with | false => rfl | true => have := blt_iff.1 hq; omega
    rw [this, Array.getD_eq_getD_getElem?, Array.getElem?_replicate]
    split <;> rfl
  refine wp_region_any hm (R.any hK ops.size _ ρ a _ (by simp) ?_ ?_ (by rw [hF, foldS_zero, foldH_zero]; exact h.drew))
  · intro k hk
    rw [Array.getD_eq_getD_getElem?, Array.getElem?_replicate] at hk
    split at hk <;> cases hk
  · have : ∀ (f : Nat → Bool) n, cnt f n ≤ n := fun f n => by
      induction n with
      | zero => exact Nat.le_refl _
      | succ n ih => unfold cnt; split <;> omega
    exact this _ _
end
end RX
end Go.Proofs.Ytbmokmkaebfneaa
