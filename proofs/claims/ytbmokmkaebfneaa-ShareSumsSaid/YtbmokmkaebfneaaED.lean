/- The curve's points are a group: sums, negatives, and that sums may be grouped as one likes. In plain Lean, no program here. -/
import Derived.Test.YtbmokmkaebfneaaEC
namespace Go.Proofs.Ytbmokmkaebfneaa
set_option linter.unusedVariables false
set_option linter.unusedSimpArgs false
set_option linter.unusedSectionVars false
/-- A point: none (the point at infinity), or its two numbers. -/
inductive Pt (n : Nat) where
  | inf : Pt n
  | pt (x y : Fin n) : Pt n
section
variable {n : Nat} [NeZero n]
def On : Pt n → Prop
  | .inf => True
  | .pt x y => y * y = x * x * x + 7
/-- A line's slope through two points, or along the curve at one: what both ways of telling it say. -/
def Slope (x1 y1 x2 y2 a : Fin n) : Prop := a * (x2 - x1) = y2 - y1 ∧ a * (y1 + y2) = x1 * x1 + x1 * x2 + x2 * x2
theorem slope_is : ∃ f : Fin n → Fin n → Fin n → Fin n → Fin n, ∀ x1 y1 x2 y2, (∃ a, Slope x1 y1 x2 y2 a) → Slope x1 y1 x2 y2 (f x1 y1 x2 y2) :=
  ⟨fun x1 y1 x2 y2 => Classical.epsilon (Slope x1 y1 x2 y2), fun _ _ _ _ h => Classical.epsilon_spec h⟩
noncomputable def slopeOf : Fin n → Fin n → Fin n → Fin n → Fin n := Classical.choose slope_is
theorem slopeOf_spec (x1 y1 x2 y2 : Fin n) (h : ∃ a, Slope x1 y1 x2 y2 a) : Slope x1 y1 x2 y2 (slopeOf x1 y1 x2 y2) := Classical.choose_spec slope_is x1 y1 x2 y2 h
def neg : Pt n → Pt n
  | .inf => .inf
  | .pt x y => .pt x (-y)
noncomputable def third (x1 y1 x2 a : Fin n) : Pt n := .pt (a * a - x1 - x2) (a * (x1 - (a * a - x1 - x2)) - y1)
noncomputable def add : Pt n → Pt n → Pt n
  | .inf, q => q
  | .pt x y, .inf => .pt x y
  | .pt x1 y1, .pt x2 y2 => if x1 = x2 ∧ y1 + y2 = 0 then .inf else third x1 y1 x2 (slopeOf x1 y1 x2 y2)
theorem add_eq (x1 y1 x2 y2 : Fin n) : add (.pt x1 y1) (.pt x2 y2) = if x1 = x2 ∧ y1 + y2 = 0 then .inf else third x1 y1 x2 (slopeOf x1 y1 x2 y2) := rfl
/-- A field without a point of two times itself nothing. -/
structure Good (n : Nat) [NeZero n] : Prop where
  dom : ∀ a b : Fin n, a * b = 0 → a = 0 ∨ b = 0
  inv : ∀ a : Fin n, a ≠ 0 → ∃ u, u * a = 1
  two : (2 : Fin n) ≠ 0
  no2 : ∀ x : Fin n, x * x * x + 7 ≠ 0
variable (g : Good n)
include g
theorem Good.cancel {a b c : Fin n} (hc : c ≠ 0) (h : a * c = b * c) : a = b := by
  rcases g.dom (a - b) c (by grobner) with h1 | h1
  · grobner
  · exact absurd h1 hc
theorem Good.y0 {x y : Fin n} (h : On (.pt x y)) : y ≠ 0 := fun h0 => g.no2 x (by
  have h1 : y * y = x * x * x + 7 := h
  rw [h0] at h1; rw [← h1]; grobner)
theorem Good.square {x y1 y2 : Fin n} (h1 : On (.pt x y1)) (h2 : On (.pt x y2)) : y1 = y2 ∨ y1 + y2 = 0 := by
  have e1 : y1 * y1 = x * x * x + 7 := h1
  have e2 : y2 * y2 = x * x * x + 7 := h2
  rcases g.dom (y1 - y2) (y1 + y2) (by grobner) with h | h
  · left; grobner
  · right; exact h
theorem Good.slope {x1 y1 x2 y2 : Fin n} (h1 : On (.pt x1 y1)) (h2 : On (.pt x2 y2)) (h : ¬ (x1 = x2 ∧ y1 + y2 = 0)) : ∃ a, Slope x1 y1 x2 y2 a := by
  have e1 : y1 * y1 = x1 * x1 * x1 + 7 := h1
  have e2 : y2 * y2 = x2 * x2 * x2 + 7 := h2
  by_cases hx : x1 = x2
  · subst hx
    have hs : y1 + y2 ≠ 0 := fun h0 => h ⟨rfl, h0⟩
    have hy := (g.square h1 h2).resolve_right hs
    subst hy
    obtain ⟨u, hu⟩ := g.inv _ hs
    exact ⟨u * (x1 * x1 + x1 * x1 + x1 * x1), by grobner, by grobner⟩
  · obtain ⟨u, hu⟩ := g.inv (x2 - x1) (fun h0 => hx (by grobner))
    refine ⟨u * (y2 - y1), by grobner, ?_⟩
    refine g.cancel (c := x2 - x1) (fun h0 => hx (by grobner)) ?_
    grobner
theorem Good.uniq {x1 y1 x2 y2 a b : Fin n} (h : ¬ (x1 = x2 ∧ y1 + y2 = 0)) (ha : Slope x1 y1 x2 y2 a) (hb : Slope x1 y1 x2 y2 b) : a = b := by
  obtain ⟨a1, a2⟩ := ha
  obtain ⟨b1, b2⟩ := hb
  by_cases hx : x1 = x2
  · exact g.cancel (c := y1 + y2) (fun h0 => h ⟨hx, h0⟩) (by rw [a2, b2])
  · exact g.cancel (c := x2 - x1) (fun h0 => hx (by grobner)) (by rw [a1, b1])
theorem Good.add_pt {x1 y1 x2 y2 a : Fin n} (h : ¬ (x1 = x2 ∧ y1 + y2 = 0)) (ha : Slope x1 y1 x2 y2 a) : add (.pt x1 y1) (.pt x2 y2) = third x1 y1 x2 a := by
  rw [add_eq, if_neg h, g.uniq h (slopeOf_spec _ _ _ _ ⟨a, ha⟩) ha]
omit g in
theorem third_on {x1 y1 x2 y2 a : Fin n} (h1 : On (.pt x1 y1)) (ha : Slope x1 y1 x2 y2 a) : On (third x1 y1 x2 a) := by
  have e1 : y1 * y1 = x1 * x1 * x1 + 7 := h1
  obtain ⟨a1, a2⟩ := ha
  show (a * (x1 - (a * a - x1 - x2)) - y1) * (a * (x1 - (a * a - x1 - x2)) - y1) = (a * a - x1 - x2) * (a * a - x1 - x2) * (a * a - x1 - x2) + 7
  grobner
omit g in
theorem add_inf (p : Pt n) : add p .inf = p := by cases p <;> rfl
omit g in
theorem inf_add (p : Pt n) : add .inf p = p := by cases p <;> rfl
omit g in
theorem add_opp {x y1 y2 : Fin n} (h : y1 + y2 = 0) : add (.pt x y1) (.pt x y2) = .inf := by rw [add_eq, if_pos ⟨rfl, h⟩]
omit g in
theorem neg_neg_pt (p : Pt n) : neg (neg p) = p := by
  cases p with
  | inf => rfl
  | pt x y => show Pt.pt x (- -y) = _; congr 1; grobner
omit g in
theorem neg_on {p : Pt n} (h : On p) : On (neg p) := by
  cases p with
  | inf => trivial
  | pt x y => have h1 : y * y = x * x * x + 7 := h; show -y * -y = x * x * x + 7; grobner
omit g in
theorem add_neg (p : Pt n) : add p (neg p) = .inf := by
  cases p with
  | inf => rfl
  | pt x y => exact add_opp (by grobner)
theorem Good.add_on {p q : Pt n} (hp : On p) (hq : On q) : On (add p q) := by
  cases p with
  | inf => rw [inf_add]; exact hq
  | pt x1 y1 =>
    cases q with
    | inf => rw [add_inf]; exact hp
    | pt x2 y2 =>
      by_cases h : x1 = x2 ∧ y1 + y2 = 0
      · rw [add_eq, if_pos h]; trivial
      · obtain ⟨a, ha⟩ := g.slope hp hq h
        rw [g.add_pt h ha]; exact third_on hp ha
theorem Good.comm {p q : Pt n} (hp : On p) (hq : On q) : add p q = add q p := by
  cases p with
  | inf => rw [inf_add, add_inf]
  | pt x1 y1 =>
    cases q with
    | inf => rw [inf_add, add_inf]
    | pt x2 y2 =>
      by_cases h : x1 = x2 ∧ y1 + y2 = 0
      · obtain ⟨rfl, h0⟩ := h
        rw [add_opp h0, add_opp (by grobner)]
      · obtain ⟨a, ha⟩ := g.slope hp hq h
        have ha' : Slope x2 y2 x1 y1 a := ⟨by have := ha.1; grobner, by have := ha.2; grobner⟩
        rw [g.add_pt h ha, g.add_pt (fun k => h ⟨k.1.symm, by have := k.2; grobner⟩) ha']
        have a1 := ha.1
        unfold third
        congr 1 <;> grobner
/-- What is added is taken off again. -/
theorem Good.back {p r : Pt n} (hp : On p) (hr : On r) : add (neg p) (add p r) = r := by
  cases p with
  | inf => rw [inf_add]; exact inf_add r
  | pt x1 y1 =>
    have e1 : y1 * y1 = x1 * x1 * x1 + 7 := hp
    cases r with
    | inf =>
      rw [add_inf, show neg (Pt.pt x1 y1) = .pt x1 (-y1) from rfl]
      exact add_opp (by grobner)
    | pt x2 y2 =>
      by_cases h : x1 = x2 ∧ y1 + y2 = 0
      · obtain ⟨rfl, h0⟩ := h
        rw [add_opp h0, add_inf]
        show Pt.pt x1 (-y1) = _
        congr 1; grobner
      · obtain ⟨a, ha⟩ := g.slope hp hr h
        have a1 := ha.1
        have a2 := ha.2
        rw [g.add_pt h ha, show neg (Pt.pt x1 y1) = .pt x1 (-y1) from rfl]
        unfold third
        have hs : Slope x1 (-y1) (a * a - x1 - x2) (a * (x1 - (a * a - x1 - x2)) - y1) (-a) := ⟨by grobner, by grobner⟩
        have hn : ¬ (x1 = a * a - x1 - x2 ∧ -y1 + (a * (x1 - (a * a - x1 - x2)) - y1) = 0) := fun ⟨k1, k2⟩ => by
          have h2y : 2 * y1 = 0 := by rw [← k1] at k2; grobner
          rcases g.dom _ _ h2y with h3 | h3
          · exact g.two h3
          · exact g.y0 hp h3
        rw [g.add_pt hn hs]
        unfold third
        congr 1 <;> grobner
omit g in
theorem neg_pt (x y : Fin n) : neg (.pt x y) = .pt x (-y) := rfl
theorem Good.neg_add {p q : Pt n} (hp : On p) (hq : On q) : neg (add p q) = add (neg p) (neg q) := by
  cases p with
  | inf => rw [inf_add]; exact (inf_add _).symm
  | pt x1 y1 =>
    cases q with
    | inf => rw [add_inf]; exact (add_inf _).symm
    | pt x2 y2 =>
      by_cases h : x1 = x2 ∧ y1 + y2 = 0
      · obtain ⟨rfl, h0⟩ := h
        rw [add_opp h0, neg_pt, neg_pt, add_opp (by grobner)]
        rfl
      · obtain ⟨a, ha⟩ := g.slope hp hq h
        have a1 := ha.1
        have a2 := ha.2
        rw [g.add_pt h ha, neg_pt, neg_pt, g.add_pt (a := -a) (fun k => h ⟨k.1, by have := k.2; grobner⟩) ⟨by grobner, by grobner⟩]
        unfold third
        rw [neg_pt]
        congr 1 <;> grobner
/-- No point but none is its own negative. -/
theorem Good.not_self {p : Pt n} (hp : On p) (h : p = neg p) : p = .inf := by
  cases p with
  | inf => rfl
  | pt x y =>
    rw [neg_pt] at h
    injection h with _ h2
    have h2y : 2 * y = 0 := by grobner
    rcases g.dom _ _ h2y with h3 | h3
    · exact absurd h3 g.two
    · exact absurd h3 (g.y0 hp)
theorem Good.off {p q : Pt n} (hp : On p) (hq : On q) (h : add p q = p) : q = .inf := by
  have := g.back hp hq
  rw [h, g.comm (neg_on hp) hp, add_neg] at this
  exact this.symm
theorem Good.opp {p q : Pt n} (hp : On p) (hq : On q) (h : add p q = .inf) : q = neg p := by
  have := g.back hp hq
  rw [h, add_inf] at this
  exact this.symm
/-- Of two points with the same first number one is the other or its negative. -/
theorem Good.same_x {x y1 y2 : Fin n} (h1 : On (.pt x y1)) (h2 : On (.pt x y2)) : Pt.pt x y1 = .pt x y2 ∨ Pt.pt x y1 = neg (.pt x y2) := by
  rcases g.square h1 h2 with h | h
  · left; rw [h]
  · right; rw [neg_pt]; congr 1; grobner
omit g in
theorem eq_of_sub {a b : Fin n} (h : a - b = 0) : b = a := by grobner
omit g in
theorem fin_x' (u v z1 z2 : Fin n) (h : u * z1 * z1 * (z2 * z2) = v * z2 * z2 * (z1 * z1)) : u * z2 * z2 * z1 * z1 = v * z2 * z2 * z1 * z1 := by grobner
omit g in
theorem fin_y' (c d u xs ys x1 y1 z1 z2 : Fin n) (h : (c * z1 * (u * z1 * z1 - xs * (z1 * z1)) + ys * (z1 * z1 * z1)) * z2 = (d * z2 * (u * z1 * z1 - x1 * (z1 * z1)) + y1 * (z2 * (z1 * z1))) * z1) :
    (c * (xs - u) - ys) * z2 * z1 * z1 * z1 = (d * (x1 - u) - y1) * z2 * z1 * z1 * z1 := by grobner
omit g in
theorem fin_n (c xs x3 ys y3 : Fin n) (h : c * (x3 - xs) = y3 - ys) : (c * c - xs - x3) * (x3 - xs) * (x3 - xs) = (y3 - ys) * (y3 - ys) - (xs + x3) * ((x3 - xs) * (x3 - xs)) := by rw [← h]; grobner
set_option maxHeartbeats 4000000 in
/-- Grouping, where each sum is one by a chord. -/
theorem Good.gen {x1 y1 x2 y2 x3 y3 xs ys xt yt : Fin n} (hp : On (.pt x1 y1)) (hq : On (.pt x2 y2)) (hr : On (.pt x3 y3)) (h12 : ¬ (x1 = x2 ∧ y1 + y2 = 0)) (h23 : ¬ (x2 = x3 ∧ y2 + y3 = 0))
    (hs : add (.pt x1 y1) (.pt x2 y2) = .pt xs ys) (ht : add (.pt x2 y2) (.pt x3 y3) = .pt xt yt) (n1 : xs ≠ x3) (n2 : xt ≠ x1) : add (add (.pt x1 y1) (.pt x2 y2)) (.pt x3 y3) = add (.pt x1 y1) (add (.pt x2 y2) (.pt x3 y3)) := by
  have e1 : y1 * y1 = x1 * x1 * x1 + 7 := hp
  obtain ⟨a, ha⟩ := g.slope hp hq h12
  obtain ⟨b, hb⟩ := g.slope hq hr h23
  have hso := g.add_on hp hq
  have hto := g.add_on hq hr
  rw [g.add_pt h12 ha] at hs
  rw [g.add_pt h23 hb] at ht
  unfold third at hs ht
  injection hs with hs1 hs2
  injection ht with ht1 ht2
  rw [hs1] at hs2
  rw [ht1] at ht2
  have gx := gen_x x1 y1 x2 y2 x3 y3 a b xs ys xt yt e1 ha.1 hb.1 ha.2 hb.2 hs1.symm hs2.symm ht1.symm ht2.symm
  have gy := gen_y x1 y1 x2 y2 x3 y3 a b xs ys xt yt _ e1 ha.1 hb.1 ha.2 hb.2 hs1.symm hs2.symm ht1.symm ht2.symm rfl
  have hs3 : add (.pt x1 y1) (.pt x2 y2) = .pt xs ys := by rw [g.add_pt h12 ha]; unfold third; rw [hs1, hs2]
  have ht3 : add (.pt x2 y2) (.pt x3 y3) = .pt xt yt := by rw [g.add_pt h23 hb]; unfold third; rw [ht1, ht2]
  rw [hs3] at hso ⊢
  rw [ht3] at hto ⊢
  have m1 : ¬ (xs = x3 ∧ ys + y3 = 0) := fun h => n1 h.1
  have m2 : ¬ (x1 = xt ∧ y1 + yt = 0) := fun h => n2 h.1.symm
  obtain ⟨c, hc⟩ := g.slope hso hr m1
  obtain ⟨d, hd⟩ := g.slope hp hto m2
  have c1 := hc.1
  have d1 := hd.1
  rw [g.add_pt m1 hc, g.add_pt m2 hd]
  have z1 : x3 - xs ≠ 0 := fun h => n1 (eq_of_sub h)
  have z2 : xt - x1 ≠ 0 := fun h => n2 (eq_of_sub h).symm
  have l1 := fin_n c xs x3 ys y3 c1
  have l2 := fin_n d x1 xt y1 yt d1
  have key : c * c - xs - x3 = d * d - x1 - xt := by
    refine g.cancel z2 (g.cancel z2 (g.cancel z1 (g.cancel z1 ?_)))
    rw [← l1, ← l2] at gx
    exact fin_x' _ _ _ _ gx
  unfold third
  rw [← key]
  congr 1
  refine g.cancel z2 (g.cancel z1 (g.cancel z1 (g.cancel z1 ?_)))
  rw [← l1, ← c1, ← d1] at gy
  exact fin_y' c d _ xs ys x1 y1 _ _ gy
omit g in
theorem add_none {p q : Pt n} (h : q = neg p) : add p q = .inf := by rw [h]; exact add_neg p
theorem Good.back' {p r : Pt n} (hp : On p) (hr : On r) : add p (add (neg p) r) = r := by
  have := g.back (neg_on hp) hr
  rwa [neg_neg_pt] at this
theorem Good.back2 {p q : Pt n} (hp : On p) (hq : On q) : add (add p q) (neg q) = p := by
  rw [g.comm (g.add_on hp hq) (neg_on hq), g.comm hp hq]; exact g.back hq hp
/-- Either they may be grouped, or two of them make the third. -/
theorem Good.near {p q r : Pt n} (hp : On p) (hq : On q) (hr : On r) : add (add p q) r = add p (add q r) ∨ add p q = r ∨ add q r = p := by
  by_cases h1 : q = neg p
  · left; subst h1; rw [add_neg, inf_add, g.back' hp hr]
  by_cases h2 : r = neg q
  · left; subst h2; rw [add_neg, add_inf, g.back2 hp hq]
  by_cases h3 : r = neg (add p q)
  · left
    subst h3
    rw [add_neg, g.neg_add hp hq, g.comm (neg_on hp) (neg_on hq), g.back' hq (neg_on hp), add_neg]
  by_cases h4 : p = neg (add q r)
  · left
    have e : add p q = neg r := by
      rw [h4, g.neg_add hq hr, g.comm (g.add_on (neg_on hq) (neg_on hr)) hq, g.back' hq (neg_on hr)]
    have e2 : add p (add q r) = .inf := by
      rw [h4, g.comm (neg_on (g.add_on hq hr)) (g.add_on hq hr), add_neg]
    rw [e, e2, g.comm (neg_on hr) hr, add_neg]
  have hso := g.add_on hp hq
  have hto := g.add_on hq hr
  cases hpe : p with
  | inf => left; rw [inf_add, inf_add]
  | pt x1 y1 =>
    cases hqe : q with
    | inf => left; rw [add_inf, inf_add]
    | pt x2 y2 =>
      cases hre : r with
      | inf => left; rw [add_inf, add_inf]
      | pt x3 y3 =>
        subst hpe hqe hre
        cases hse : add (Pt.pt x1 y1) (.pt x2 y2) with
        | inf => exact absurd (g.opp hp hq hse) h1
        | pt xs ys =>
          cases hte : add (Pt.pt x2 y2) (.pt x3 y3) with
          | inf => exact absurd (g.opp hq hr hte) h2
          | pt xt yt =>
            rw [hse] at h3 hso
            rw [hte] at h4 hto
            by_cases m1 : xs = x3
            · right; left
              subst m1
              rcases g.same_x hso hr with h | h
              · exact h
              · exact absurd (by rw [h, neg_neg_pt]) h3
            · by_cases m2 : xt = x1
              · right; right
                subst m2
                rcases g.same_x hto hp with h | h
                · exact h
                · exact absurd (by rw [h, neg_neg_pt]) h4
              · left
                have := g.gen hp hq hr (fun k => h1 (by rw [neg_pt, k.1]; congr 1; have := k.2; grobner)) (fun k => h2 (by rw [neg_pt, k.1]; congr 1; have := k.2; grobner)) hse hte m1 m2
                rwa [hse, hte] at this
theorem Good.five {v : Pt n} (hv : On v) : add (add (add v v) v) v = add (add v v) (add v v) := by
  have hu := g.add_on hv hv
  have hn := neg_on hv
  have e : add (neg v) (add v v) = v := g.back hv hv
  have d : add (add (neg v) (add v v)) (add v v) = add (neg v) (add (add v v) (add v v)) := by
    rcases g.near hn hu hu with h | h | h
    · exact h
    · rw [e] at h
      have := g.off hv hv h.symm
      subst this; rfl
    · rw [h, e]
      have e3 : v = neg (add (add v v) (add v v)) := by rw [h, neg_neg_pt]
      have e4 : add v (add v v) = neg (add v v) := by
        have := g.back2 (neg_on hu) (neg_on hu)
        rw [neg_neg_pt, ← g.neg_add hu hu, ← e3] at this
        exact this
      rw [e4, g.neg_add hv hv]
  rw [e] at d
  rw [g.comm hu hv, g.comm (g.add_on hv hu) hv, d, g.back' hv (g.add_on hu hu)]
theorem Good.twin {u v : Pt n} (hu : On u) (hv : On v) : add (add u v) v = add u (add v v) := by
  rcases g.near hu hv hv with h | h | h
  · exact h
  · have : u = .inf := by rw [g.comm hu hv] at h; exact g.off hv hu h
    subst this; rw [inf_add, inf_add]
  · subst h; exact g.five hv
theorem Good.four {p q : Pt n} (hp : On p) (hq : On q) : add (add p q) (add p q) = add p (add q (add p q)) := by
  have hr := g.add_on hp hq
  have e : add (neg p) (add p q) = q := g.back hp hq
  have c := g.twin (neg_on hp) hr
  rw [e] at c
  rw [c, g.back' hp (g.add_on hr hr)]
/-- Sums may be grouped as one likes. -/
theorem Good.assoc {p q r : Pt n} (hp : On p) (hq : On q) (hr : On r) : add (add p q) r = add p (add q r) := by
  rcases g.near hp hq hr with h | h | h
  · exact h
  · subst h; exact g.four hp hq
  · subst h
    rw [g.comm (g.add_on (g.add_on hq hr) hq) hr, g.comm (g.add_on hq hr) hq]
    have := g.four hr hq
    rw [g.comm hr hq] at this
    exact this.symm
end
end Go.Proofs.Ytbmokmkaebfneaa
