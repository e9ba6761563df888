-- Written by a program of this session (wip/prn).
import Derived.Test.YtieencpejpeenaaQParcelx0
import Derived.Test.YtieencpejpeenaaQParcelx1
import Derived.Test.YtieencpejpeenaaQParcelx3
import Derived.Test.YtieencpejpeenaaQParcelx4
namespace Go.Proofs.Ytieencpejpeenaa.QParcel
open Go.RowKit Go.Proofs.YtieencpejpeenaaW.PrintWords Go.Proofs.YtieencpejpeenaaW.PrintLast Go.Proofs.YtieencpejpeenaaW.PrintMore
attribute [local go_sem] max2_int min2_int max_two min_two max_three min_three max_four min_four   -- for this text's walks alone
set_option linter.unusedVariables false
set_option linter.unusedSimpArgs false
def wardmotelaw09_ParcelApart.j0 : Nat → List ByteArray → List ByteArray → ByteArray → ByteArray → Bool → Option (Bool)
  | 0, _, _, _, _, _ => none
  | k + 1, x1, x2, x7, x9, x30 => if x30 = true then ((wardmotelaw09_two.f k).bind fun t194 => (some t194)) else ((wardmoteplain_Texts.f k x1 x2).bind fun t195 => (if (x7.size : Int) ≤ (x9.size : Int) then (if 0 ≤ (x7.size : Int) then (if ((x7.toList == x9.toList) == t195) = true then (if (((x9.extract 0 ((x7.size : Int) : Int).toNat).toList == x7.toList) == t195) = true then ((wardmotelaw09_two.f k).bind fun t196 => (some t196)) else (some false)) else (some false)) else (none)) else (if ((x7.toList == x9.toList) == t195) = true then (if (false == t195) = true then ((wardmotelaw09_two.f k).bind fun t197 => (some t197)) else (some false)) else (some false))))
def wardmotelaw09_ParcelApart.f (k : Nat) (a0 : Int) (l1 : List ByteArray) (l2 : List ByteArray) : Option (Bool) := (parcel_Pack.f k a0 l1).bind fun bt190 => ((parcel_Pack.f k a0 l2).bind fun bt192 => (if bt190.2 = 0 then (wardmotelaw09_ParcelApart.j0 k l1 l2 bt190.1 bt192.1 (bt192.2 != 0)) else (wardmotelaw09_ParcelApart.j0 k l1 l2 bt190.1 bt192.1 true)))
theorem wardmotelaw09_ParcelApart.mono_l : ∀ k, (∀ y0 y1 y2 y3 y4, LeO (wardmotelaw09_ParcelApart.j0 k y0 y1 y2 y3 y4) (wardmotelaw09_ParcelApart.j0 (k + 1) y0 y1 y2 y3 y4))
  | 0 => fun _ _ _ _ _ r h => by simp [wardmotelaw09_ParcelApart.j0] at h
  | k + 1 => by
    have ih0 := wardmotelaw09_ParcelApart.mono_l k
    · intro y0 y1 y2 y3 y4
      unfold wardmotelaw09_ParcelApart.j0
      repeat' first
      | (with_reducible exact ih0 _ _ _ _ _)
      | (with_reducible exact parcel_Pack.mono _ _ _)
      | (with_reducible exact wardmotelaw09_two.mono _)
      | (with_reducible exact wardmoteplain_Texts.mono _ _ _)
      | (with_reducible exact LeO.refl _)
      | (with_reducible exact LeO.none _)
      | (with_reducible refine LeO.ite ?_ ?_)
      | (with_reducible refine LeO.bind ?_ (fun _ => ?_))
      | exact ih0 _ _ _ _ _
      | exact parcel_Pack.mono _ _ _
      | exact wardmotelaw09_two.mono _
      | exact wardmoteplain_Texts.mono _ _ _
      | exact LeO.none _
      | refine LeO.ite ?_ ?_
      | refine LeO.bind ?_ (fun _ => ?_)
theorem wardmotelaw09_ParcelApart.mono : ∀ a0 a1 a2 k, LeO (wardmotelaw09_ParcelApart.f k a0 a1 a2) (wardmotelaw09_ParcelApart.f (k + 1) a0 a1 a2) := by
  intro a0 a1 a2 k
  have ih0 := wardmotelaw09_ParcelApart.mono_l k
  unfold wardmotelaw09_ParcelApart.f
  repeat' first
      | (with_reducible exact ih0 _ _ _ _ _)
      | (with_reducible exact parcel_Pack.mono _ _ _)
      | (with_reducible exact wardmotelaw09_two.mono _)
      | (with_reducible exact wardmoteplain_Texts.mono _ _ _)
      | (with_reducible exact LeO.refl _)
      | (with_reducible exact LeO.none _)
      | (with_reducible refine LeO.ite ?_ ?_)
      | (with_reducible refine LeO.bind ?_ (fun _ => ?_))
      | exact ih0 _ _ _ _ _
      | exact parcel_Pack.mono _ _ _
      | exact wardmotelaw09_two.mono _
      | exact wardmoteplain_Texts.mono _ _ _
      | exact LeO.none _
      | refine LeO.ite ?_ ?_
      | refine LeO.bind ?_ (fun _ => ?_)
set_option maxHeartbeats 8000000 in
set_option maxRecDepth 100000 in
theorem wardmotelaw09_ParcelApart.calls (k : Nat) (a0 : Int) (A1 : Option Addr) (c1 : Nat) (l1 : List ByteArray) (A2 : Option Addr) (c2 : Nat) (l2 : List ByteArray) (r : Bool) (w : World) (hr1 : Kd.C Kd.string w A1 l1.length l1) (hc1 : l1.length ≤ c1) (hr2 : Kd.C Kd.string w A2 l2.length l2) (hc2 : l2.length ≤ c2) (h : wardmotelaw09_ParcelApart.f k a0 l1 l2 = some r) :
    Calls Try.prog 6 #[.int .i64 a0, .slice A1 l1.length c1, .slice A2 l2.length c2] w fun e w' => e = .returned (.bool r) ∧ Below w.heap.size w w' := by
  have HR1 := Aside0.mk hr1
  have HC1 := Aside0.mk hc1
  clear hr1 hc1
  have HR2 := Aside0.mk hr2
  have HC2 := Aside0.mk hc2
  clear hr2 hc2
  have HB := Aside0.mk (Below.refl w.heap.size w)
  have H : ((parcel_Pack.f k a0 l1).bind fun bt190 => ((parcel_Pack.f k a0 l2).bind fun bt192 => (if bt190.2 = 0 then (wardmotelaw09_ParcelApart.j0 k l1 l2 bt190.1 bt192.1 (bt192.2 != 0)) else (wardmotelaw09_ParcelApart.j0 k l1 l2 bt190.1 bt192.1 true)))) = some r := h
  clear h
  replace H := Option.bind_eq_some_iff.mp H
  obtain ⟨⟨t190, t191⟩, A40, H⟩ := H
  replace H : ((parcel_Pack.f k a0 l2).bind fun bt192 => (if t191 = 0 then (wardmotelaw09_ParcelApart.j0 k l1 l2 t190 bt192.1 (bt192.2 != 0)) else (wardmotelaw09_ParcelApart.j0 k l1 l2 t190 bt192.1 true))) = some r := H
  have A4 := Aside0.mk A40
  clear A40
  replace H := Option.bind_eq_some_iff.mp H
  obtain ⟨⟨t192, t193⟩, A50, H⟩ := H
  replace H : (if t191 = 0 then (wardmotelaw09_ParcelApart.j0 k l1 l2 t190 t192 (t193 != 0)) else (wardmotelaw09_ParcelApart.j0 k l1 l2 t190 t192 true)) = some r := H
  have A5 := Aside0.mk A50
  clear A50
  have HC6 := Aside0.mk H
  clear H
  go_enter Try.func6, Try.ntmps6
  go_upto_region 3 with (first | ((with_reducible refine gate_callee (f := 11) rfl ?_); refine goesL_ (some 16) rfl rfl Try.func11 (by kernel_rfl) rfl #[.int .i64 a0, .slice A1 l1.length c1] rfl (by (try simp only [List.map_toArray, List.map_cons, List.map_nil]); first | done | rfl | (simp only [List.length_drop, List.length_take]; rfl)) ?_; (with_reducible refine (parcel_Pack.calls k a0 _ _ l1 t190 t191 _ ?side1 ?side2 A4.out).mono ?_); (case side1 => repeat (first | exact HR1.out | (with_reducible refine Kd.C_alloc ?_ _) | (with_reducible refine Kd.C_drewN ?_ _) | (with_reducible refine Kd.C_drew ?_))); (case side2 => exact HC1.out); rintro e w7 ⟨rfl, hb⟩; refine ⟨_, rfl, ?_⟩; have n0_ := Aside0.mk (below_step (by repeat (first | (with_reducible first | exact HB.out | apply below_alloc | apply pw_below_drewN | apply below_drew1) | exact HB.out)) hb); clear HB; have HB := n0_; clear n0_; (try clear hb); (try clear hb2); (try clear hk); (try clear hi)) | ((with_reducible refine gate_callee (f := 11) rfl ?_); refine goesL_ (some 22) rfl rfl Try.func11 (by kernel_rfl) rfl #[.int .i64 a0, .slice A2 l2.length c2] rfl (by (try simp only [List.map_toArray, List.map_cons, List.map_nil]); first | done | rfl | (simp only [List.length_drop, List.length_take]; rfl)) ?_; (with_reducible refine (parcel_Pack.calls k a0 _ _ l2 t192 t193 _ ?side1 ?side2 A5.out).mono ?_); (case side1 => repeat (first | exact (Kd.C_below HR2.out HB.out) | (with_reducible refine Kd.C_alloc ?_ _) | (with_reducible refine Kd.C_drewN ?_ _) | (with_reducible refine Kd.C_drew ?_))); (case side2 => exact HC2.out); rintro e w8 ⟨rfl, hb⟩; refine ⟨_, rfl, ?_⟩; have n0_ := Aside0.mk (below_step (by repeat (first | (with_reducible first | exact HB.out | apply below_alloc | apply pw_below_drewN | apply below_drew1) | exact HB.out)) hb); clear HB; have HB := n0_; clear n0_; (try clear hb); (try clear hb2); (try clear hk); (try clear hi)))
  (try simp only [Act.put, List.setIfInBounds_toArray, List.set_cons_zero, List.set_cons_succ])
  go_cut [30] (fun v30 wc => ∃ (kq : Nat) (x30_5 : Bool), v30 = .bool x30_5 ∧ Aside0 (wardmotelaw09_ParcelApart.j0 kq l1 l2 t190 t192 x30_5 = some r) ∧ Aside0 (kq ≤ k) ∧ Aside0 (Below w.heap.size w wc))
  case first =>
    have H := HC6.out
    clear HC6
    by_cases c9 : t191 = 0
    · rw [if_pos c9] at H
      have c9b0 : (t191 == 0) = true := beq_iff_eq.mpr c9
      have c9b1 : (t191 != 0) = false := bne_eq_false_iff_eq.mpr c9
      clear c9
      (first | rw [c9b0] | (simp only [i64_w, i32_w]; rw [c9b0]) | skip)
      have H' := Aside0.mk H
      clear H
      go_wp2
      go_meet
      case rel => exact ⟨_, ((t193 != 0)), (by first | rfl | (simp; done) | (simp [*]; done)), H', ⟨by first | omega | exact Nat.le_refl _⟩, ⟨by repeat (first | (with_reducible first | exact HB.out | apply below_alloc | apply pw_below_drewN | apply below_drew1) | exact HB.out)⟩⟩
    · rw [if_neg c9] at H
      have c9b0 : (t191 == 0) = false := beq_eq_false_iff_ne.mpr c9
      have c9b1 : (t191 != 0) = true := bne_iff_ne.mpr c9
      (first | rw [c9b0] | (simp only [i64_w, i32_w]; rw [c9b0]) | skip)
      have H' := Aside0.mk H
      clear H
      go_wp2
      go_meet
      case rel => exact ⟨_, (true), (by first | rfl | (simp; done) | (simp [*]; done)), H', ⟨by first | omega | exact Nat.le_refl _⟩, ⟨by repeat (first | (with_reducible first | exact HB.out | apply below_alloc | apply pw_below_drewN | apply below_drew1) | exact HB.out)⟩⟩
  case rest =>
    clear HC6
    try clear c1
    try clear c2
    try clear p2
    try clear c6
    try clear c9
    try clear c9b0
    try clear c9b1
    obtain ⟨kq, x30_5, rfl, HA, HJ5, HB⟩ := hcut
    cases kq with
    | zero => exact absurd HA.out (by simp [wardmotelaw09_ParcelApart.j0])
    | succ kj5 =>
      have H := HA.out
      clear HA
      simp only [wardmotelaw09_ParcelApart.j0] at H
      by_cases c10 : x30_5 = true
      · subst c10
        have H1 : ((wardmotelaw09_two.f kj5).bind fun t194 => (some t194)) = some r := by rw [if_pos rfl] at H; exact H
        clear H
        have H := H1
        clear H1
        replace H := Option.bind_eq_some_iff.mp H
        obtain ⟨t194, A110, H⟩ := H
        replace H : (some t194) = some r := H
        have A11 := Aside0.mk A110
        clear A110
        obtain rfl := Option.some.inj H
        go_wp2_with (first | ((with_reducible refine gate_callee (f := 13) rfl ?_); refine goesL_ (some 31) rfl rfl Try.func13 (by kernel_rfl) rfl #[] rfl (by (try simp only [List.map_toArray, List.map_cons, List.map_nil]); first | done | rfl | (simp only [List.length_drop, List.length_take]; rfl)) ?_; (with_reducible refine (wardmotelaw09_two.calls kj5  t194 _ A11.out).mono ?_); rintro e w12 ⟨rfl, hb⟩; refine ⟨_, rfl, ?_⟩; have n0_ := Aside0.mk (below_step (by repeat (first | (with_reducible first | exact HB.out | apply below_alloc | apply pw_below_drewN | apply below_drew1) | exact HB.out)) hb); clear HB; have HB := n0_; clear n0_; (try clear hb); (try clear hb2); (try clear hk); (try clear hi)))
        go_ret
        exact ⟨by first | rfl | (simp [errW_none, errW_some] <;> rfl) | (simp [*, errW_none, errW_some] <;> rfl), by repeat (first | (with_reducible first | exact HB.out | apply below_alloc | apply pw_below_drewN | apply below_drew1) | exact HB.out)⟩
      · replace c10 := Bool.eq_false_iff.mpr c10
        subst c10
        have H1 : ((wardmoteplain_Texts.f kj5 l1 l2).bind fun t195 => (if (t190.size : Int) ≤ (t192.size : Int) then (if 0 ≤ (t190.size : Int) then (if ((t190.toList == t192.toList) == t195) = true then (if (((t192.extract 0 ((t190.size : Int) : Int).toNat).toList == t190.toList) == t195) = true then ((wardmotelaw09_two.f kj5).bind fun t196 => (some t196)) else (some false)) else (some false)) else (none)) else (if ((t190.toList == t192.toList) == t195) = true then (if (false == t195) = true then ((wardmotelaw09_two.f kj5).bind fun t197 => (some t197)) else (some false)) else (some false)))) = some r := by rw [if_neg (show ¬ (false = true) by decide)] at H; exact H
        clear H
        have H := H1
        clear H1
        replace H := Option.bind_eq_some_iff.mp H
        obtain ⟨t195, A130, H⟩ := H
        replace H : (if (t190.size : Int) ≤ (t192.size : Int) then (if 0 ≤ (t190.size : Int) then (if ((t190.toList == t192.toList) == t195) = true then (if (((t192.extract 0 ((t190.size : Int) : Int).toNat).toList == t190.toList) == t195) = true then ((wardmotelaw09_two.f kj5).bind fun t196 => (some t196)) else (some false)) else (some false)) else (none)) else (if ((t190.toList == t192.toList) == t195) = true then (if (false == t195) = true then ((wardmotelaw09_two.f kj5).bind fun t197 => (some t197)) else (some false)) else (some false))) = some r := H
        have A13 := Aside0.mk A130
        clear A130
        by_cases c14 : (t190.size : Int) ≤ (t192.size : Int)
        · rw [if_pos c14] at H
          have c14b0 : decide ((t190.size : Int) ≤ (t192.size : Int)) = true := decide_eq_true c14
          have c14b1 : decide (t190.size ≤ t192.size) = true := decide_eq_true (Int.ofNat_le.mp c14)
          clear c14
          by_cases c15 : 0 ≤ (t190.size : Int)
          · rw [if_pos c15] at H
            have c15b0 := eq_true c15
            have c15b1 : decide (0 ≤ (t190.size : Int)) = true := decide_eq_true c15
            clear c15
            have c16b0 := eq_true (of_decide_eq_true (by first | (with_reducible assumption) | assumption) : (t190.size : Int) ≤ (t192.size : Int))
            by_cases c17 : ((t190.toList == t192.toList) == t195) = true
            · rw [if_pos c17] at H
              have c17b0 : ((t190.toList == t192.toList) == t195) = true := c17
              (try (have c17b1 : decide ((t190.toList == t192.toList) = t195) = true := by simpa using c17))
              (try (have c17b2 : ((t190.toList == t192.toList) == t195) = true := by simpa using c17))
              clear c17
              by_cases c18 : (((t192.extract 0 ((t190.size : Int) : Int).toNat).toList == t190.toList) == t195) = true
              · rw [if_pos c18] at H
                have c18b0 : (((t192.extract 0 ((t190.size : Int) : Int).toNat).toList == t190.toList) == t195) = true := c18
                (try (have c18b1 : decide (((t192.extract 0 ((t190.size : Int) : Int).toNat).toList == t190.toList) = t195) = true := by simpa using c18))
                (try (have c18b2 : (((t192.extract 0 ((t190.size : Int) : Int).toNat).toList == t190.toList) == t195) = true := by simpa using c18))
                (try simp only [Int.toNat_natCast] at c18b0)
                (try simp only [Int.toNat_natCast] at c18b1)
                (try simp only [Int.toNat_natCast] at c18b2)
                (try simp only [Int.toNat_natCast] at c18b3)
                clear c18
                replace H := Option.bind_eq_some_iff.mp H
                obtain ⟨t196, A190, H⟩ := H
                replace H : (some t196) = some r := H
                have A19 := Aside0.mk A190
                clear A190
                obtain rfl := Option.some.inj H
                go_wp2_with (first | ((with_reducible refine gate_callee (f := 16) rfl ?_); refine goesL_ (some 34) rfl rfl Try.func16 (by kernel_rfl) rfl #[.slice A1 l1.length c1, .slice A2 l2.length c2] rfl (by (try simp only [List.map_toArray, List.map_cons, List.map_nil]); first | done | rfl | (simp only [List.length_drop, List.length_take]; rfl)) ?_; (with_reducible refine (wardmoteplain_Texts.calls kj5 _ _ l1 _ _ l2 t195 _ ?side1 ?side2 ?side3 ?side4 A13.out).mono ?_); (case side1 => repeat (first | exact (Kd.C_below HR1.out HB.out) | (with_reducible refine Kd.C_alloc ?_ _) | (with_reducible refine Kd.C_drewN ?_ _) | (with_reducible refine Kd.C_drew ?_))); (case side2 => exact HC1.out); (case side3 => repeat (first | exact (Kd.C_below HR2.out HB.out) | (with_reducible refine Kd.C_alloc ?_ _) | (with_reducible refine Kd.C_drewN ?_ _) | (with_reducible refine Kd.C_drew ?_))); (case side4 => exact HC2.out); rintro e w' ⟨rfl, ⟨nd, rfl⟩⟩; refine ⟨_, rfl, ?_⟩) | (go_at_call 13; (with_reducible refine (wardmotelaw09_two.calls kj5  t196 _ A19.out).mono ?_); rintro e w20 ⟨rfl, hb⟩; have n0_ := Aside0.mk (below_step (by repeat (first | (with_reducible first | exact HB.out | apply below_alloc | apply pw_below_drewN | apply below_drew1) | exact HB.out)) hb); clear HB; have HB := n0_; clear n0_; (try clear hb); (try clear hb2); (try clear hk); (try clear hi)))
                go_ret
                exact ⟨by first | rfl | (simp [errW_none, errW_some] <;> rfl) | (simp [*, errW_none, errW_some] <;> rfl), by repeat (first | (with_reducible first | exact HB.out | apply below_alloc | apply pw_below_drewN | apply below_drew1) | exact HB.out)⟩
              · rw [if_neg c18] at H
                have c18b0 : (((t192.extract 0 ((t190.size : Int) : Int).toNat).toList == t190.toList) == t195) = false := by simpa using c18
                (try (have c18b1 : decide (((t192.extract 0 ((t190.size : Int) : Int).toNat).toList == t190.toList) = t195) = false := by simpa using c18))
                (try (have c18b2 : (((t192.extract 0 ((t190.size : Int) : Int).toNat).toList == t190.toList) == t195) = false := by simpa using c18))
                (try (have c18b3 : ¬ (((t192.extract 0 ((t190.size : Int) : Int).toNat).toList == t190.toList) = t195) := by simpa using c18))
                (try simp only [Int.toNat_natCast] at c18b0)
                (try simp only [Int.toNat_natCast] at c18b1)
                (try simp only [Int.toNat_natCast] at c18b2)
                (try simp only [Int.toNat_natCast] at c18b3)
                clear c18
                obtain rfl := Option.some.inj H
                go_wp2_with (first | ((with_reducible refine gate_callee (f := 16) rfl ?_); refine goesL_ (some 34) rfl rfl Try.func16 (by kernel_rfl) rfl #[.slice A1 l1.length c1, .slice A2 l2.length c2] rfl (by (try simp only [List.map_toArray, List.map_cons, List.map_nil]); first | done | rfl | (simp only [List.length_drop, List.length_take]; rfl)) ?_; (with_reducible refine (wardmoteplain_Texts.calls kj5 _ _ l1 _ _ l2 t195 _ ?side1 ?side2 ?side3 ?side4 A13.out).mono ?_); (case side1 => repeat (first | exact (Kd.C_below HR1.out HB.out) | (with_reducible refine Kd.C_alloc ?_ _) | (with_reducible refine Kd.C_drewN ?_ _) | (with_reducible refine Kd.C_drew ?_))); (case side2 => exact HC1.out); (case side3 => repeat (first | exact (Kd.C_below HR2.out HB.out) | (with_reducible refine Kd.C_alloc ?_ _) | (with_reducible refine Kd.C_drewN ?_ _) | (with_reducible refine Kd.C_drew ?_))); (case side4 => exact HC2.out); rintro e w' ⟨rfl, ⟨nd, rfl⟩⟩; refine ⟨_, rfl, ?_⟩))
                go_ret
                exact ⟨by first | rfl | (simp [errW_none, errW_some] <;> rfl) | (simp [*, errW_none, errW_some] <;> rfl), by repeat (first | (with_reducible first | exact HB.out | apply below_alloc | apply pw_below_drewN | apply below_drew1) | exact HB.out)⟩
            · rw [if_neg c17] at H
              have c17b0 : ((t190.toList == t192.toList) == t195) = false := by simpa using c17
              (try (have c17b1 : decide ((t190.toList == t192.toList) = t195) = false := by simpa using c17))
              (try (have c17b2 : ((t190.toList == t192.toList) == t195) = false := by simpa using c17))
              (try (have c17b3 : ¬ ((t190.toList == t192.toList) = t195) := by simpa using c17))
              clear c17
              obtain rfl := Option.some.inj H
              go_wp2_with (first | ((with_reducible refine gate_callee (f := 16) rfl ?_); refine goesL_ (some 34) rfl rfl Try.func16 (by kernel_rfl) rfl #[.slice A1 l1.length c1, .slice A2 l2.length c2] rfl (by (try simp only [List.map_toArray, List.map_cons, List.map_nil]); first | done | rfl | (simp only [List.length_drop, List.length_take]; rfl)) ?_; (with_reducible refine (wardmoteplain_Texts.calls kj5 _ _ l1 _ _ l2 t195 _ ?side1 ?side2 ?side3 ?side4 A13.out).mono ?_); (case side1 => repeat (first | exact (Kd.C_below HR1.out HB.out) | (with_reducible refine Kd.C_alloc ?_ _) | (with_reducible refine Kd.C_drewN ?_ _) | (with_reducible refine Kd.C_drew ?_))); (case side2 => exact HC1.out); (case side3 => repeat (first | exact (Kd.C_below HR2.out HB.out) | (with_reducible refine Kd.C_alloc ?_ _) | (with_reducible refine Kd.C_drewN ?_ _) | (with_reducible refine Kd.C_drew ?_))); (case side4 => exact HC2.out); rintro e w' ⟨rfl, ⟨nd, rfl⟩⟩; refine ⟨_, rfl, ?_⟩))
              go_ret
              exact ⟨by first | rfl | (simp [errW_none, errW_some] <;> rfl) | (simp [*, errW_none, errW_some] <;> rfl), by repeat (first | (with_reducible first | exact HB.out | apply below_alloc | apply pw_below_drewN | apply below_drew1) | exact HB.out)⟩
          · rw [if_neg c15] at H
            exact absurd H (by simp)
        · rw [if_neg c14] at H
          have c14b0 : decide ((t190.size : Int) ≤ (t192.size : Int)) = false := decide_eq_false c14
          have c14b1 : decide (t190.size ≤ t192.size) = false := decide_eq_false (fun h => c14 (Int.ofNat_le.mpr h))
          clear c14
          by_cases c21 : ((t190.toList == t192.toList) == t195) = true
          · rw [if_pos c21] at H
            have c21b0 : ((t190.toList == t192.toList) == t195) = true := c21
            (try (have c21b1 : decide ((t190.toList == t192.toList) = t195) = true := by simpa using c21))
            (try (have c21b2 : ((t190.toList == t192.toList) == t195) = true := by simpa using c21))
            clear c21
            by_cases c22 : (false == t195) = true
            · rw [if_pos c22] at H
              have c22b0 : (false == t195) = true := c22
              (try (have c22b1 : decide (false = t195) = true := by simpa using c22))
              (try (have c22b2 : (false == t195) = true := by simpa using c22))
              clear c22
              replace H := Option.bind_eq_some_iff.mp H
              obtain ⟨t197, A230, H⟩ := H
              replace H : (some t197) = some r := H
              have A23 := Aside0.mk A230
              clear A230
              obtain rfl := Option.some.inj H
              go_wp2_with (first | ((with_reducible refine gate_callee (f := 16) rfl ?_); refine goesL_ (some 34) rfl rfl Try.func16 (by kernel_rfl) rfl #[.slice A1 l1.length c1, .slice A2 l2.length c2] rfl (by (try simp only [List.map_toArray, List.map_cons, List.map_nil]); first | done | rfl | (simp only [List.length_drop, List.length_take]; rfl)) ?_; (with_reducible refine (wardmoteplain_Texts.calls kj5 _ _ l1 _ _ l2 t195 _ ?side1 ?side2 ?side3 ?side4 A13.out).mono ?_); (case side1 => repeat (first | exact (Kd.C_below HR1.out HB.out) | (with_reducible refine Kd.C_alloc ?_ _) | (with_reducible refine Kd.C_drewN ?_ _) | (with_reducible refine Kd.C_drew ?_))); (case side2 => exact HC1.out); (case side3 => repeat (first | exact (Kd.C_below HR2.out HB.out) | (with_reducible refine Kd.C_alloc ?_ _) | (with_reducible refine Kd.C_drewN ?_ _) | (with_reducible refine Kd.C_drew ?_))); (case side4 => exact HC2.out); rintro e w' ⟨rfl, ⟨nd, rfl⟩⟩; refine ⟨_, rfl, ?_⟩) | (go_at_call 13; (with_reducible refine (wardmotelaw09_two.calls kj5  t197 _ A23.out).mono ?_); rintro e w24 ⟨rfl, hb⟩; have n0_ := Aside0.mk (below_step (by repeat (first | (with_reducible first | exact HB.out | apply below_alloc | apply pw_below_drewN | apply below_drew1) | exact HB.out)) hb); clear HB; have HB := n0_; clear n0_; (try clear hb); (try clear hb2); (try clear hk); (try clear hi)))
              go_ret
              exact ⟨by first | rfl | (simp [errW_none, errW_some] <;> rfl) | (simp [*, errW_none, errW_some] <;> rfl), by repeat (first | (with_reducible first | exact HB.out | apply below_alloc | apply pw_below_drewN | apply below_drew1) | exact HB.out)⟩
            · rw [if_neg c22] at H
              have c22b0 : (false == t195) = false := by simpa using c22
              (try (have c22b1 : decide (false = t195) = false := by simpa using c22))
              (try (have c22b2 : (false == t195) = false := by simpa using c22))
              (try (have c22b3 : ¬ (false = t195) := by simpa using c22))
              clear c22
              obtain rfl := Option.some.inj H
              go_wp2_with (first | ((with_reducible refine gate_callee (f := 16) rfl ?_); refine goesL_ (some 34) rfl rfl Try.func16 (by kernel_rfl) rfl #[.slice A1 l1.length c1, .slice A2 l2.length c2] rfl (by (try simp only [List.map_toArray, List.map_cons, List.map_nil]); first | done | rfl | (simp only [List.length_drop, List.length_take]; rfl)) ?_; (with_reducible refine (wardmoteplain_Texts.calls kj5 _ _ l1 _ _ l2 t195 _ ?side1 ?side2 ?side3 ?side4 A13.out).mono ?_); (case side1 => repeat (first | exact (Kd.C_below HR1.out HB.out) | (with_reducible refine Kd.C_alloc ?_ _) | (with_reducible refine Kd.C_drewN ?_ _) | (with_reducible refine Kd.C_drew ?_))); (case side2 => exact HC1.out); (case side3 => repeat (first | exact (Kd.C_below HR2.out HB.out) | (with_reducible refine Kd.C_alloc ?_ _) | (with_reducible refine Kd.C_drewN ?_ _) | (with_reducible refine Kd.C_drew ?_))); (case side4 => exact HC2.out); rintro e w' ⟨rfl, ⟨nd, rfl⟩⟩; refine ⟨_, rfl, ?_⟩))
              go_ret
              exact ⟨by first | rfl | (simp [errW_none, errW_some] <;> rfl) | (simp [*, errW_none, errW_some] <;> rfl), by repeat (first | (with_reducible first | exact HB.out | apply below_alloc | apply pw_below_drewN | apply below_drew1) | exact HB.out)⟩
          · rw [if_neg c21] at H
            have c21b0 : ((t190.toList == t192.toList) == t195) = false := by simpa using c21
            (try (have c21b1 : decide ((t190.toList == t192.toList) = t195) = false := by simpa using c21))
            (try (have c21b2 : ((t190.toList == t192.toList) == t195) = false := by simpa using c21))
            (try (have c21b3 : ¬ ((t190.toList == t192.toList) = t195) := by simpa using c21))
            clear c21
            obtain rfl := Option.some.inj H
            go_wp2_with (first | ((with_reducible refine gate_callee (f := 16) rfl ?_); refine goesL_ (some 34) rfl rfl Try.func16 (by kernel_rfl) rfl #[.slice A1 l1.length c1, .slice A2 l2.length c2] rfl (by (try simp only [List.map_toArray, List.map_cons, List.map_nil]); first | done | rfl | (simp only [List.length_drop, List.length_take]; rfl)) ?_; (with_reducible refine (wardmoteplain_Texts.calls kj5 _ _ l1 _ _ l2 t195 _ ?side1 ?side2 ?side3 ?side4 A13.out).mono ?_); (case side1 => repeat (first | exact (Kd.C_below HR1.out HB.out) | (with_reducible refine Kd.C_alloc ?_ _) | (with_reducible refine Kd.C_drewN ?_ _) | (with_reducible refine Kd.C_drew ?_))); (case side2 => exact HC1.out); (case side3 => repeat (first | exact (Kd.C_below HR2.out HB.out) | (with_reducible refine Kd.C_alloc ?_ _) | (with_reducible refine Kd.C_drewN ?_ _) | (with_reducible refine Kd.C_drew ?_))); (case side4 => exact HC2.out); rintro e w' ⟨rfl, ⟨nd, rfl⟩⟩; refine ⟨_, rfl, ?_⟩))
            go_ret
            exact ⟨by first | rfl | (simp [errW_none, errW_some] <;> rfl) | (simp [*, errW_none, errW_some] <;> rfl), by repeat (first | (with_reducible first | exact HB.out | apply below_alloc | apply pw_below_drewN | apply below_drew1) | exact HB.out)⟩

/-! ### parcel_Ints: function 17 -/
end Go.Proofs.Ytieencpejpeenaa.QParcel
