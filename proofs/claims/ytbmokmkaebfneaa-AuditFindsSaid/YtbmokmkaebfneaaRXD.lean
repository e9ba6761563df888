/- A region on paper is right. -/
import Derived.Test.YtbmokmkaebfneaaRXC
namespace Go.Proofs.Ytbmokmkaebfneaa
open Go.RowKit
namespace RX
set_option linter.unnecessarySimpa false
set_option linter.unusedVariables false
set_option linter.unusedSimpArgs false
/-- Who must stand ahead of whom: bits. -/
def edgeMask (ms : List Nat) : List Edge → Nat
  | [] => 0
  | e :: r => cond (Region.binds .any e) (2 ^ e.on ||| ms.getD e.on 0) 0 ||| edgeMask ms r
def mkMasks : List Oper → List Nat → List Nat
  | [], acc => acc
  | o :: r, acc => mkMasks r (acc ++ [edgeMask acc o.after.toList])
def masksB (ms : List Nat) : Nat → List Oper → Bool
  | _, [] => true
  | i, o :: r => Nat.beq (ms.getD i 0) (edgeMask ms o.after.toList) && ((o.after.toList.all fun e => !Region.binds .any e || Nat.blt e.on i) && masksB ms (i + 1) r)
def anc (ms : List Nat) (i j : Nat) : Bool := (ms.getD i 0).testBit j
theorem edgeMask_bit {ms : List Nat} {j : Nat} : ∀ {es : List Edge}, (edgeMask ms es).testBit j = true → ∃ e ∈ es, Region.binds .any e = true ∧ (e.on = j ∨ anc ms e.on j = true)
  | [], h => by simp [edgeMask] at h
  | e :: r, h => by
    simp only [edgeMask, Nat.testBit_or, Bool.or_eq_true] at h
    rcases h with h | h
    · cases hb : Region.binds .any e with
      | false => rw [hb] at h; simp at h
      | true =>
        rw [hb] at h
        simp only [cond_true, Nat.testBit_or, Bool.or_eq_true] at h
        refine ⟨e, List.mem_cons_self, hb, ?_⟩
        rcases h with h | h
        · left; rw [Nat.testBit_two_pow] at h; simpa using h
        · right; exact h
    · obtain ⟨e', hm, h1⟩ := edgeMask_bit h; exact ⟨e', List.mem_cons_of_mem _ hm, h1⟩
theorem masksB_spec {ms : List Nat} : ∀ {l : List Oper} {i : Nat}, masksB ms i l = true → ∀ (k : Nat) (o : Oper), l[k]? = some o → ms.getD (i + k) 0 = edgeMask ms o.after.toList ∧ ∀ e ∈ o.after, Region.binds .any e = true → e.on < i + k
  | [], _, _, k, o, hk => by simp at hk
  | o :: r, i, h, k, o', hk => by
    simp only [masksB, Bool.and_eq_true, List.all_eq_true, Bool.or_eq_true, Bool.not_eq_true'] at h
    obtain ⟨h1, h2, h3⟩ := h
    cases k with
    | zero =>
      simp at hk; subst hk
      refine ⟨by simpa using Nat.eq_of_beq_eq_true h1, fun e he hb => ?_⟩
      rcases h2 e (by simpa using he) with h | h
      · rw [hb] at h; cases h
      · simpa using blt_iff.1 h
    | succ k =>
      have := masksB_spec h3 k o' (by simpa using hk)
      rwa [show i + 1 + k = i + (k + 1) by omega] at this
def memK (i : Nat) (l : List (Nat × Bk)) : Bool := l.any fun x => Nat.beq x.1 i
theorem memK_of {i : Nat} {l : List (Nat × Bk)} (h : lkH l i ≠ none) : memK i l = true := by
  cases hq : lkH l i with
  | none => exact absurd hq h
  | some b => exact List.any_eq_true.2 ⟨(i, b), lkH_mem hq, Nat.beq_refl _⟩
/-- Have operations i and j to do with one another? (how i is struck by j) -/
def conflB (ops : Array Oper) (oi : Oper) (fi : Eff) (dj : Option Nat) (fj : Eff) (nj : Nat) : Bool :=
  (match dj with
    | some t => (oi.looksAt ops).contains t || (match oi.dst with | some d => Nat.beq d t | none => false)
    | none => false) || (fj.up.any (fun x => memK x.1 fi.rd || memK x.1 fi.up) || !fi.outs nj (nj + fj.nw))
theorem conflB_of {ops : Array Oper} {oi : Oper} {fi : Eff} {dj : Option Nat} {fj : Eff} {nj : Nat} (h : Confl ops oi fi dj fj nj) : conflB ops oi fi dj fj nj = true := by
  unfold conflB
  rcases h with ⟨t, rfl, h⟩ | ⟨id, hu, h⟩ | h
  · rw [Bool.or_eq_true]; left
    rcases h with h | h
    · simp [h]
    · rw [h]; simp [Nat.beq_refl]
  · rw [Bool.or_eq_true]; right
    rw [Bool.or_eq_true]; left
    cases hq : lkH fj.up id with
    | none => exact absurd hq hu
    | some b =>
      refine List.any_eq_true.2 ⟨(id, b), lkH_mem hq, ?_⟩
      rw [Bool.or_eq_true]
      rcases h with h | h
      · left; exact memK_of h
      · right; exact memK_of h
  · rw [Bool.or_eq_true]; right
    rw [Bool.or_eq_true]; right
    rw [h]; rfl
def pairB (ops : Array Oper) (ms : List Nat) (i : Nat) (oi : Oper) (fi : Eff) : Nat → List (Option Nat × Eff) → List Nat → Bool
  | j, (dj, fj) :: r, n :: ns => (Nat.beq i j || (anc ms i j || (anc ms j i || !conflB ops oi fi dj fj n))) && pairB ops ms i oi fi (j + 1) r ns
  | _, _, _ => true
def pairsB (ops : Array Oper) (ms : List Nat) (L : List (Option Nat × Eff)) (ns : List Nat) : Nat → List Oper → List (Option Nat × Eff) → Bool
  | i, o :: r, (_, f) :: l => pairB ops ms i o f 0 L ns && pairsB ops ms L ns (i + 1) r l
  | _, _, _ => true
theorem pairB_spec {ops : Array Oper} {ms : List Nat} {i : Nat} {oi : Oper} {fi : Eff} : ∀ {L : List (Option Nat × Eff)} {ns : List Nat} {j : Nat}, pairB ops ms i oi fi j L ns = true → ∀ (k : Nat) (d : Option Nat) (f : Eff) (n : Nat), L[k]? = some (d, f) → ns[k]? = some n →
    i = j + k ∨ anc ms i (j + k) = true ∨ anc ms (j + k) i = true ∨ conflB ops oi fi d f n = false
  | [], _, _, _, k, _, _, _, hk, _ => by simp at hk
  | _ :: _, [], _, _, k, _, _, _, _, hk => by simp at hk
  | (d0, f0) :: r, n0 :: ns, j, h, k, d, f, n, hL, hn => by
    simp only [pairB, Bool.and_eq_true, Bool.or_eq_true, Bool.not_eq_true'] at h
    cases k with
    | zero =>
      simp at hL hn
      obtain ⟨rfl, rfl⟩ := hL
      subst hn
      rcases h.1 with h | h | h | h
      · exact .inl (by simpa using Nat.eq_of_beq_eq_true h)
      · exact .inr (.inl h)
      · exact .inr (.inr (.inl h))
      · exact .inr (.inr (.inr h))
    | succ k =>
      have := pairB_spec h.2 k d f n (by simpa using hL) (by simpa using hn)
      rwa [show j + 1 + k = j + (k + 1) by omega] at this
theorem pairsB_spec {ops : Array Oper} {ms : List Nat} {L : List (Option Nat × Eff)} {ns : List Nat} : ∀ {l : List Oper} {M : List (Option Nat × Eff)} {i : Nat}, pairsB ops ms L ns i l M = true → ∀ (k : Nat) (o : Oper) (d : Option Nat) (f : Eff), l[k]? = some o → M[k]? = some (d, f) → pairB ops ms (i + k) o f 0 L ns = true
  | [], _, _, _, k, _, _, _, hk, _ => by simp at hk
  | _ :: _, [], _, _, k, _, _, _, _, hk => by simp at hk
  | o :: r, (d0, f0) :: M, i, h, k, o', d, f, hl, hM => by
    simp only [pairsB, Bool.and_eq_true] at h
    cases k with
    | zero =>
      simp at hl hM
      obtain ⟨rfl, rfl⟩ := hM
      subst hl
      exact h.1
    | succ k =>
      have := pairsB_spec h.2 k o' d f (by simpa using hl) (by simpa using hM)
      rwa [show i + 1 + k = i + (k + 1) by omega] at this
def indep (ops : Array Oper) (L : List (Option Nat × Eff)) (ns : List Nat) : Bool :=
  (fun ms => masksB ms 0 ops.toList && pairsB ops ms L ns 0 ops.toList L) (mkMasks ops.toList [])

/-- What is known names known blocks only. -/
structure WF (p0 : Nat) (s : St) : Prop where
  sl : ∀ t, (lkS s.sl t).bd s.nx = true
  hp : ∀ id bk, lkH s.hp id = some bk → id < s.nx ∧ bk.bd s.nx = true
  p0 : p0 ≤ s.nx
section
variable {P : Program} {V : Env} {Γ : List Gm} {lens rl : List Nat} {N p0 : Nat} {ops : Array Oper} {s s' : St} {hs hs' : List Hint} {L : List (Option Nat × Eff)} {ns : List Nat} {os : List Obl}
theorem eff_outs_of_bd {f : Eff} {n hi : Nat} (h : f.bd n = true) : f.outs n hi = true := by
  simp only [Eff.bd, Bool.and_eq_true, List.all_eq_true, blt_iff] at h
  simp only [Eff.outs, Bool.and_eq_true, List.all_eq_true, Bool.or_eq_true, blt_iff]
  exact ⟨SV.out_of_bd h.1, fun x hx => ⟨.inl (h.2 x hx).1, Bk.out_of_bd (h.2 x hx).2⟩⟩
theorem eff_bd_mono {f : Eff} {n n' : Nat} (hn : n ≤ n') (h : f.bd n = true) : f.bd n' = true := by
  simp only [Eff.bd, Bool.and_eq_true, List.all_eq_true, blt_iff] at h ⊢
  exact ⟨SV.bd_mono hn h.1, fun x hx => ⟨by have := (h.2 x hx).1; omega, Bk.bd_mono hn (h.2 x hx).2⟩⟩
theorem guardS_yes {sl : List (Nat × SV)} {o : Oper} (h : guardS ops sl o = some true) : WantedOK ops (lkS sl) o := by
  unfold guardS at h
  split at h
  · rename_i hg; exact .inl hg
  · rename_i g w hg
    split at h
    · rename_i d hd
      split at h
      · rename_i t ht
        have : t = w := by simpa using h
        exact .inr ⟨g, w, d, hg, hd, by rw [ht, this]⟩
      · cases h
    · cases h
theorem guardS_no {sl : List (Nat × SV)} {o : Oper} (h : guardS ops sl o = some false) : UnwantedOK ops (lkS sl) o := by
  unfold guardS at h
  split at h
  · cases h
  · rename_i g w hg
    split at h
    · rename_i d hd
      split at h
      · rename_i t ht
        have : (t == w) = false := by simpa using h
        exact ⟨g, w, d, t, hg, hd, ht, by intro e; rw [e] at this; simp at this⟩
      · cases h
    · cases h
theorem runOps_sq (hV : VOK V lens) (hE : V.E.length ≤ 1000000) (hO : V.O.length ≤ 1000000) (hΓ : allG P V Γ) (h : runOps P Γ lens rl N ops ops.toList s hs = some (L, ns, s', hs', os)) (ho : allO P V os) (hw : WF p0 s) :
    Sq P V p0 N (fun i => rl.any (Nat.beq i)) ops L (fun i => ns.getD i 0) (lkS s.sl) (lkH s.hp) ∧ WF p0 s' ∧ (∀ σ, foldS (fun j => Nat.blt j ops.size) 0 L σ = foldS allT 0 L σ) ∧ (∀ σ, foldH (fun j => Nat.blt j ops.size) 0 L σ = foldH allT 0 L σ) ∧ lkS s'.sl = foldS allT 0 L (lkS s.sl) ∧ lkH s'.hp = foldH allT 0 L (lkH s.hp) ∧
      ns.length = L.length := by
  obtain ⟨h1, h2, h3, h4, h5, h6, h7⟩ := runOps_spec (V := V) (σs := lkS s.sl) (σh := lkH s.hp) _ [] _ _ _ _ _ _ _ h ho rfl rfl
  simp only [List.nil_append] at h3 h6 h7
  have hlen : L.length = ops.size := by rw [h1]; simp
  have toL : ∀ {i : Nat} {o : Oper}, ops[i]? = some o → ops.toList[i]? = some o := fun h => by simpa using h
  have ofL : ∀ {i : Nat} {d : Option Nat} {f : Eff}, L[i]? = some (d, f) → ∃ o n, ops[i]? = some o ∧ d = o.dst ∧ ns[i]? = some n ∧ ns.getD i 0 = n ∧ s.nx ≤ n ∧ n + f.nw ≤ s'.nx ∧ Fact P V Γ lens rl N ops (lkS s.sl) (lkH s.hp) (L.take i) o f n := by
    intro i d f hi
    have hil : i < ops.toList.length := by rw [← h1]; exact (List.getElem?_eq_some_iff.1 hi).1
    obtain ⟨f', n, a, b, c, e, g⟩ := h3 i _ (List.getElem?_eq_getElem hil)
    rw [hi] at a
    obtain ⟨rfl, rfl⟩ : d = ops.toList[i].dst ∧ f = f' := by simpa using a
    exact ⟨_, n, by simpa using List.getElem?_eq_getElem hil, rfl, b, by simp [List.getD_eq_getElem?_getD, b], c, e, g⟩
  have good : ∀ {i : Nat} {d : Option Nat} {f : Eff} {o : Oper} {n : Nat}, L[i]? = some (d, f) → Fact P V Γ lens rl N ops (lkS s.sl) (lkH s.hp) (L.take i) o f n →
      ((WantedOK ops (foldS (fun j => Nat.blt j i) 0 L (lkS s.sl)) o ∧ EffOK P V (avOf (foldS (fun j => Nat.blt j i) 0 L (lkS s.sl))) o n f) ∨ (UnwantedOK ops (foldS (fun j => Nat.blt j i) 0 L (lkS s.sl)) o ∧ f = noEff)) ∧
      (∀ id bk, lkH f.rd id = some bk → foldH (fun j => Nat.blt j i) 0 L (lkH s.hp) id = some bk ∧ bk.live = true) ∧ (∀ id, lkH f.up id ≠ none → ¬ (n ≤ id ∧ id < n + f.nw) → lkH f.rd id ≠ none) := by
    intro i d f o n hi hf
    obtain ⟨sk, hn, hsl, hhp, hor⟩ := hf.ok
    have hil : i ≤ L.length := Nat.le_of_lt (List.getElem?_eq_some_iff.1 hi).1
    rw [foldS_take L i hil, foldH_take L i hil, ← hsl, ← hhp]
    rcases hor with ⟨hg, hh, hh', os', he, ho'⟩ | ⟨hg, rfl⟩
    · have G := opEff_good hV hE hO hΓ he ho'
      exact ⟨.inl ⟨guardS_yes hg, G.ok⟩, G.rd, G.up⟩
    · exact ⟨.inr ⟨guardS_no hg, rfl⟩, fun id bk hb => by simp [noEff, lkH] at hb, fun id hu => absurd rfl hu⟩
  refine ⟨⟨hlen, ?_, ?_, ?_, ?_, ?_, ?_, ?_, ?_⟩, ?_, ?_, ?_, h6, h7, by rw [h2, h1]⟩
  · intro i o hi
    obtain ⟨f, n, a, _⟩ := h3 i o (toL hi)
    exact ⟨f, a⟩
  · intro i o f hi hL
    obtain ⟨o', n, ho', _, _, hn, _, _, hf⟩ := ofL hL
    rw [hi] at ho'; cases ho'
    simp only [hn]
    exact (good hL hf).1
  · intro i d f id bk hL hb
    obtain ⟨o', n, ho', _, _, hn, _, _, hf⟩ := ofL hL
    exact (good hL hf).2.1 id bk hb
  · intro i d f id hL hu hnew
    obtain ⟨o', n, ho', _, _, hn, _, _, hf⟩ := ofL hL
    simp only [hn] at hnew
    exact (good hL hf).2.2 id hu hnew
  · intro i d f hL
    obtain ⟨o', n, ho', _, _, hn, hle, _, hf⟩ := ofL hL
    simp only [hn]
    refine ⟨fun t => SV.out_of_bd (SV.bd_mono hle (hw.sl t)), fun id bk hb => ?_, Nat.le_trans hw.p0 hle⟩
    obtain ⟨a, b⟩ := hw.hp id bk hb
    exact ⟨.inl (by omega), Bk.out_of_bd (Bk.bd_mono hle b)⟩
  · intro i j di fi dj fj hji hi hj
    obtain ⟨_, n, _, _, hni, hn, _, _, _⟩ := ofL hi
    obtain ⟨_, m, _, _, hmj, hm, _, _, hf⟩ := ofL hj
    simp only [hn]
    have := h4 j i m n dj fj hji hmj hj hni
    exact eff_outs_of_bd (eff_bd_mono this hf.bd)
  · intro i t f hL
    obtain ⟨o', n, _, hd, _, _, _, _, hf⟩ := ofL hL
    have := hf.dN
    rw [← hd] at this
    exact blt_iff.1 this
  · intro i d f id hL hu
    obtain ⟨o', n, _, _, _, _, _, _, hf⟩ := ofL hL
    have := hf.ro
    simp only [roB, List.all_eq_true, Bool.not_eq_true'] at this
    cases hq : lkH f.up id with
    | none => exact absurd hq hu
    | some b => exact this _ (lkH_mem hq)
  · refine ⟨?_, ?_, Nat.le_trans hw.p0 h5⟩
    · intro t
      rw [h6]
      rcases foldS_or (F := allT) (t := t) L 0 (lkS s.sl) with e | ⟨k, d, fk, hk, _, e⟩
      · rw [e]; exact SV.bd_mono h5 (hw.sl t)
      · rw [e]
        obtain ⟨_, n, _, _, _, _, _, hle, hf⟩ := ofL hk
        have := eff_bd_mono hle hf.bd
        simp only [Eff.bd, Bool.and_eq_true] at this
        exact this.1
    · intro id bk hb
      rw [h7] at hb
      rcases foldH_or (F := allT) (t := id) L 0 (lkH s.hp) with e | ⟨k, d, fk, hk, _, _, e⟩
      · rw [e] at hb; obtain ⟨a, b⟩ := hw.hp id bk hb; exact ⟨by omega, Bk.bd_mono h5 b⟩
      · rw [e] at hb
        obtain ⟨_, n, _, _, _, _, _, hle, hf⟩ := ofL hk
        have := eff_bd_mono hle hf.bd
        simp only [Eff.bd, Bool.and_eq_true, List.all_eq_true, blt_iff] at this
        exact this.2 _ (lkH_mem hb)
  · intro σ; exact foldS_all L 0 σ (fun k hk => by rw [Nat.zero_add]; exact blt_iff.2 (by omega))
  · intro σ; exact foldH_all L 0 σ (fun k hk => by rw [Nat.zero_add]; exact blt_iff.2 (by omega))
theorem runOps_reg (R : Sq P V p0 N (fun i => rl.any (Nat.beq i)) ops L (fun i => ns.getD i 0) (lkS s.sl) (lkH s.hp)) (hl : ns.length = L.length) (hi : indep ops L ns = true) : Reg P V p0 N (fun i => rl.any (Nat.beq i)) ops L (fun i => ns.getD i 0) (anc (mkMasks ops.toList [])) (lkS s.sl) (lkH s.hp) := by
  unfold indep at hi
  simp only [Bool.and_eq_true] at hi
  obtain ⟨hm, hp⟩ := hi
  have hms := masksB_spec hm
  simp only [Nat.zero_add] at hms
  have toL : ∀ {i : Nat} {o : Oper}, ops[i]? = some o → ops.toList[i]? = some o := fun h => by simpa using h
  have ancE : ∀ (i : Nat) (o : Oper) (j : Nat), ops[i]? = some o → anc (mkMasks ops.toList []) i j = true → ∃ e ∈ o.after, Region.binds .any e = true ∧ (e.on = j ∨ anc (mkMasks ops.toList []) e.on j = true) := by
    intro i o j ho ha
    unfold anc at ha
    rw [(hms i o (toL ho)).1] at ha
    obtain ⟨e, he, hb⟩ := edgeMask_bit ha
    exact ⟨e, by simpa using he, hb⟩
  refine ⟨R, fun i o ho e he hb => (hms i o (toL ho)).2 e he hb, ancE, ?_, ?_⟩
  · intro i
    induction i using Nat.strongRecOn with
    | _ i ih =>
      intro o j ho ha
      obtain ⟨e, he, hb, hor⟩ := ancE i o j ho ha
      have hlt := (hms i o (toL ho)).2 e he hb
      rcases hor with rfl | hor
      · exact hlt
      · have his : e.on < ops.size := Nat.lt_trans hlt (Array.getElem?_eq_some_iff.1 ho).1
        have := ih e.on hlt _ j (Array.getElem?_eq_getElem his) hor
        omega
  · intro i j oi fi dj fj hij hoi hLi hLj hc
    have h1 := pairsB_spec hp i oi _ fi (toL hoi) hLi
    rw [Nat.zero_add] at h1
    have hjl : j < ns.length := by rw [hl]; exact (List.getElem?_eq_some_iff.1 hLj).1
    have hn : ns[j]? = some (ns.getD j 0) := by simp [List.getD_eq_getElem?_getD, List.getElem?_eq_getElem hjl]
    rcases pairB_spec h1 j dj fj _ hLj hn with h | h | h | h
    · exact absurd (by simpa using h) hij
    · rw [Nat.zero_add] at h; exact .inl h
    · rw [Nat.zero_add] at h; exact .inr h
    · rw [conflB_of hc] at h; cases h
end
end RX
end Go.Proofs.Ytbmokmkaebfneaa
