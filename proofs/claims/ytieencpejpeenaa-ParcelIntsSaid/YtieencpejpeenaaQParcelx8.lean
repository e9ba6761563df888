-- Written by a program of this session (wip/prn).
import Derived.Test.YtieencpejpeenaaQParcelx0
import Derived.Test.YtieencpejpeenaaQParcelx4
import Derived.Test.YtieencpejpeenaaQParcelx6
import Derived.Test.YtieencpejpeenaaQParcelx7
namespace Go.Proofs.Ytieencpejpeenaa.QParcel
open Go.RowKit Go.Proofs.YtieencpejpeenaaW.PrintWords Go.Proofs.YtieencpejpeenaaW.PrintLast Go.Proofs.YtieencpejpeenaaW.PrintMore
attribute [local go_sem] max2_int min2_int max_two min_two max_three min_three max_four min_four   -- for this text's walks alone
set_option linter.unusedVariables false
set_option linter.unusedSimpArgs false

/-! ### wardmotelaw09_ParcelInts: function 7 -/
mutual
def wardmotelaw09_ParcelInts.j0 : Nat → List Int → ByteArray → ByteArray → Int → List Int → Int → Bool → Option (Bool)
  | 0, _, _, _, _, _, _, _ => none
  | k + 1, x0, x1, x5, x6, x11, x12, x61 => if x61 = true then (some false) else (if x6 = 0 then ((parcel_ToInts.f k x5).bind fun bt227 => (if bt227.2 = 0 then ((wardmoteplain_Ints.f k bt227.1 x0).bind fun t231 => (if t231 = true then (wardmotelaw09_ParcelInts.j1 k x0 x1 x11 x12) else (some false))) else (some false))) else (wardmotelaw09_ParcelInts.j1 k x0 x1 x11 x12))
def wardmotelaw09_ParcelInts.j1 : Nat → List Int → ByteArray → List Int → Int → Option (Bool)
  | 0, _, _, _, _ => none
  | k + 1, x0, x1, x11, x12 => (parcel_ToInt.f k x1).bind fun bt232 => (if x12 = 0 then (if ((bt232.2 == 0) != ((x11.length : Int) == 1)) = true then (wardmotelaw09_ParcelInts.j2 k x0 true) else (if bt232.2 = 0 then (if 0 < (x11.length : Int) then (if bt232.1 = (rd x11 0) then (wardmotelaw09_ParcelInts.j2 k x0 false) else (wardmotelaw09_ParcelInts.j2 k x0 true)) else (none)) else (wardmotelaw09_ParcelInts.j2 k x0 (bt232.1 != 0)))) else (if ((bt232.2 == 0) != false) = true then (wardmotelaw09_ParcelInts.j2 k x0 true) else (if bt232.2 = 0 then (if 0 < (x11.length : Int) then (if bt232.1 = (rd x11 0) then (wardmotelaw09_ParcelInts.j2 k x0 false) else (wardmotelaw09_ParcelInts.j2 k x0 true)) else (none)) else (wardmotelaw09_ParcelInts.j2 k x0 (bt232.1 != 0)))))
def wardmotelaw09_ParcelInts.j2 : Nat → List Int → Bool → Option (Bool)
  | 0, _, _ => none
  | k + 1, x0, x110 => if x110 = true then (some false) else (wardmotelaw09_ParcelInts.l0 k x0 (x0.length : Int) 0)
def wardmotelaw09_ParcelInts.l0 : Nat → List Int → Int → Int → Option (Bool)
  | 0, _, _, _ => none
  | k + 1, x111, x112, x113 => if x113 < x112 then (if 0 ≤ x113 then (if x113 < (x111.length : Int) then ((parcel_Int.f k (rd x111 x113)).bind fun bt238 => ((wardmoteref09_Ints.f k (([rd x111 x113] : List Int))).bind fun bt243 => (if bt238.1.toList = bt243.1.toList then (if bt238.2 = bt243.2 then ((wardmotelaw09_two.f k).bind fun t245 => (some t245)) else (some false)) else (some false)))) else (none)) else (none)) else ((wardmotelaw09_two.f k).bind fun t236 => (some t236))
end
def wardmotelaw09_ParcelInts.f (k : Nat) (l0 : List Int) (a1 : ByteArray) : Option (Bool) := (parcel_Ints.f k l0).bind fun bt214 => ((wardmoteref09_Ints.f k l0).bind fun bt216 => ((parcel_ToInts.f k a1).bind fun bt218 => ((wardmoteref09_ToInts.f k a1).bind fun bt222 => (if bt214.1.toList = bt216.1.toList then (if bt214.2 = bt216.2 then ((wardmoteplain_Ints.f k bt218.1 bt222.1).bind fun t226 => (if t226 = true then (wardmotelaw09_ParcelInts.j0 k l0 a1 bt214.1 bt214.2 bt222.1 bt222.2 (bt218.2 != bt222.2)) else (wardmotelaw09_ParcelInts.j0 k l0 a1 bt214.1 bt214.2 bt222.1 bt222.2 true))) else (wardmotelaw09_ParcelInts.j0 k l0 a1 bt214.1 bt214.2 bt222.1 bt222.2 true)) else (wardmotelaw09_ParcelInts.j0 k l0 a1 bt214.1 bt214.2 bt222.1 bt222.2 true)))))
theorem wardmotelaw09_ParcelInts.mono_l : ∀ k, (∀ y0 y1 y2 y3 y4 y5 y6, LeO (wardmotelaw09_ParcelInts.j0 k y0 y1 y2 y3 y4 y5 y6) (wardmotelaw09_ParcelInts.j0 (k + 1) y0 y1 y2 y3 y4 y5 y6)) ∧ (∀ y0 y1 y2 y3, LeO (wardmotelaw09_ParcelInts.j1 k y0 y1 y2 y3) (wardmotelaw09_ParcelInts.j1 (k + 1) y0 y1 y2 y3)) ∧ (∀ y0 y1, LeO (wardmotelaw09_ParcelInts.j2 k y0 y1) (wardmotelaw09_ParcelInts.j2 (k + 1) y0 y1)) ∧ (∀ y0 y1 y2, LeO (wardmotelaw09_ParcelInts.l0 k y0 y1 y2) (wardmotelaw09_ParcelInts.l0 (k + 1) y0 y1 y2))
  | 0 => ⟨fun _ _ _ _ _ _ _ r h => by simp [wardmotelaw09_ParcelInts.j0] at h, fun _ _ _ _ r h => by simp [wardmotelaw09_ParcelInts.j1] at h, fun _ _ r h => by simp [wardmotelaw09_ParcelInts.j2] at h, fun _ _ _ r h => by simp [wardmotelaw09_ParcelInts.l0] at h⟩
  | k + 1 => by
    obtain ⟨ih0, ih1, ih2, ih3⟩ := wardmotelaw09_ParcelInts.mono_l k
    refine ⟨?_, ?_, ?_, ?_⟩
    · intro y0 y1 y2 y3 y4 y5 y6
      unfold wardmotelaw09_ParcelInts.j0
      repeat' first
      | (with_reducible exact ih0 _ _ _ _ _ _ _)
      | (with_reducible exact ih1 _ _ _ _)
      | (with_reducible exact ih2 _ _)
      | (with_reducible exact ih3 _ _ _)
      | (with_reducible exact parcel_Int.mono _ _)
      | (with_reducible exact parcel_Ints.mono _ _)
      | (with_reducible exact parcel_ToInt.mono _ _)
      | (with_reducible exact parcel_ToInts.mono _ _)
      | (with_reducible exact wardmotelaw09_two.mono _)
      | (with_reducible exact wardmoteplain_Ints.mono _ _ _)
      | (with_reducible exact wardmoteref09_Ints.mono _ _)
      | (with_reducible exact wardmoteref09_ToInts.mono _ _)
      | (with_reducible exact LeO.refl _)
      | (with_reducible exact LeO.none _)
      | (with_reducible refine LeO.ite ?_ ?_)
      | (with_reducible refine LeO.bind ?_ (fun _ => ?_))
      | exact ih0 _ _ _ _ _ _ _
      | exact ih1 _ _ _ _
      | exact ih2 _ _
      | exact ih3 _ _ _
      | exact parcel_Int.mono _ _
      | exact parcel_Ints.mono _ _
      | exact parcel_ToInt.mono _ _
      | exact parcel_ToInts.mono _ _
      | exact wardmotelaw09_two.mono _
      | exact wardmoteplain_Ints.mono _ _ _
      | exact wardmoteref09_Ints.mono _ _
      | exact wardmoteref09_ToInts.mono _ _
      | exact LeO.none _
      | refine LeO.ite ?_ ?_
      | refine LeO.bind ?_ (fun _ => ?_)
    · intro y0 y1 y2 y3
      unfold wardmotelaw09_ParcelInts.j1
      repeat' first
      | (with_reducible exact ih0 _ _ _ _ _ _ _)
      | (with_reducible exact ih1 _ _ _ _)
      | (with_reducible exact ih2 _ _)
      | (with_reducible exact ih3 _ _ _)
      | (with_reducible exact parcel_Int.mono _ _)
      | (with_reducible exact parcel_Ints.mono _ _)
      | (with_reducible exact parcel_ToInt.mono _ _)
      | (with_reducible exact parcel_ToInts.mono _ _)
      | (with_reducible exact wardmotelaw09_two.mono _)
      | (with_reducible exact wardmoteplain_Ints.mono _ _ _)
      | (with_reducible exact wardmoteref09_Ints.mono _ _)
      | (with_reducible exact wardmoteref09_ToInts.mono _ _)
      | (with_reducible exact LeO.refl _)
      | (with_reducible exact LeO.none _)
      | (with_reducible refine LeO.ite ?_ ?_)
      | (with_reducible refine LeO.bind ?_ (fun _ => ?_))
      | exact ih0 _ _ _ _ _ _ _
      | exact ih1 _ _ _ _
      | exact ih2 _ _
      | exact ih3 _ _ _
      | exact parcel_Int.mono _ _
      | exact parcel_Ints.mono _ _
      | exact parcel_ToInt.mono _ _
      | exact parcel_ToInts.mono _ _
      | exact wardmotelaw09_two.mono _
      | exact wardmoteplain_Ints.mono _ _ _
      | exact wardmoteref09_Ints.mono _ _
      | exact wardmoteref09_ToInts.mono _ _
      | exact LeO.none _
      | refine LeO.ite ?_ ?_
      | refine LeO.bind ?_ (fun _ => ?_)
    · intro y0 y1
      unfold wardmotelaw09_ParcelInts.j2
      repeat' first
      | (with_reducible exact ih0 _ _ _ _ _ _ _)
      | (with_reducible exact ih1 _ _ _ _)
      | (with_reducible exact ih2 _ _)
      | (with_reducible exact ih3 _ _ _)
      | (with_reducible exact parcel_Int.mono _ _)
      | (with_reducible exact parcel_Ints.mono _ _)
      | (with_reducible exact parcel_ToInt.mono _ _)
      | (with_reducible exact parcel_ToInts.mono _ _)
      | (with_reducible exact wardmotelaw09_two.mono _)
      | (with_reducible exact wardmoteplain_Ints.mono _ _ _)
      | (with_reducible exact wardmoteref09_Ints.mono _ _)
      | (with_reducible exact wardmoteref09_ToInts.mono _ _)
      | (with_reducible exact LeO.refl _)
      | (with_reducible exact LeO.none _)
      | (with_reducible refine LeO.ite ?_ ?_)
      | (with_reducible refine LeO.bind ?_ (fun _ => ?_))
      | exact ih0 _ _ _ _ _ _ _
      | exact ih1 _ _ _ _
      | exact ih2 _ _
      | exact ih3 _ _ _
      | exact parcel_Int.mono _ _
      | exact parcel_Ints.mono _ _
      | exact parcel_ToInt.mono _ _
      | exact parcel_ToInts.mono _ _
      | exact wardmotelaw09_two.mono _
      | exact wardmoteplain_Ints.mono _ _ _
      | exact wardmoteref09_Ints.mono _ _
      | exact wardmoteref09_ToInts.mono _ _
      | exact LeO.none _
      | refine LeO.ite ?_ ?_
      | refine LeO.bind ?_ (fun _ => ?_)
    · intro y0 y1 y2
      unfold wardmotelaw09_ParcelInts.l0
      repeat' first
      | (with_reducible exact ih0 _ _ _ _ _ _ _)
      | (with_reducible exact ih1 _ _ _ _)
      | (with_reducible exact ih2 _ _)
      | (with_reducible exact ih3 _ _ _)
      | (with_reducible exact parcel_Int.mono _ _)
      | (with_reducible exact parcel_Ints.mono _ _)
      | (with_reducible exact parcel_ToInt.mono _ _)
      | (with_reducible exact parcel_ToInts.mono _ _)
      | (with_reducible exact wardmotelaw09_two.mono _)
      | (with_reducible exact wardmoteplain_Ints.mono _ _ _)
      | (with_reducible exact wardmoteref09_Ints.mono _ _)
      | (with_reducible exact wardmoteref09_ToInts.mono _ _)
      | (with_reducible exact LeO.refl _)
      | (with_reducible exact LeO.none _)
      | (with_reducible refine LeO.ite ?_ ?_)
      | (with_reducible refine LeO.bind ?_ (fun _ => ?_))
      | exact ih0 _ _ _ _ _ _ _
      | exact ih1 _ _ _ _
      | exact ih2 _ _
      | exact ih3 _ _ _
      | exact parcel_Int.mono _ _
      | exact parcel_Ints.mono _ _
      | exact parcel_ToInt.mono _ _
      | exact parcel_ToInts.mono _ _
      | exact wardmotelaw09_two.mono _
      | exact wardmoteplain_Ints.mono _ _ _
      | exact wardmoteref09_Ints.mono _ _
      | exact wardmoteref09_ToInts.mono _ _
      | exact LeO.none _
      | refine LeO.ite ?_ ?_
      | refine LeO.bind ?_ (fun _ => ?_)
theorem wardmotelaw09_ParcelInts.mono : ∀ a0 a1 k, LeO (wardmotelaw09_ParcelInts.f k a0 a1) (wardmotelaw09_ParcelInts.f (k + 1) a0 a1) := by
  intro a0 a1 k
  obtain ⟨ih0, ih1, ih2, ih3⟩ := wardmotelaw09_ParcelInts.mono_l k
  unfold wardmotelaw09_ParcelInts.f
  repeat' first
      | (with_reducible exact ih0 _ _ _ _ _ _ _)
      | (with_reducible exact ih1 _ _ _ _)
      | (with_reducible exact ih2 _ _)
      | (with_reducible exact ih3 _ _ _)
      | (with_reducible exact parcel_Int.mono _ _)
      | (with_reducible exact parcel_Ints.mono _ _)
      | (with_reducible exact parcel_ToInt.mono _ _)
      | (with_reducible exact parcel_ToInts.mono _ _)
      | (with_reducible exact wardmotelaw09_two.mono _)
      | (with_reducible exact wardmoteplain_Ints.mono _ _ _)
      | (with_reducible exact wardmoteref09_Ints.mono _ _)
      | (with_reducible exact wardmoteref09_ToInts.mono _ _)
      | (with_reducible exact LeO.refl _)
      | (with_reducible exact LeO.none _)
      | (with_reducible refine LeO.ite ?_ ?_)
      | (with_reducible refine LeO.bind ?_ (fun _ => ?_))
      | exact ih0 _ _ _ _ _ _ _
      | exact ih1 _ _ _ _
      | exact ih2 _ _
      | exact ih3 _ _ _
      | exact parcel_Int.mono _ _
      | exact parcel_Ints.mono _ _
      | exact parcel_ToInt.mono _ _
      | exact parcel_ToInts.mono _ _
      | exact wardmotelaw09_two.mono _
      | exact wardmoteplain_Ints.mono _ _ _
      | exact wardmoteref09_Ints.mono _ _
      | exact wardmoteref09_ToInts.mono _ _
      | exact LeO.none _
      | refine LeO.ite ?_ ?_
      | refine LeO.bind ?_ (fun _ => ?_)
set_option maxHeartbeats 8000000 in
set_option maxRecDepth 100000 in
theorem wardmotelaw09_ParcelInts.calls (k : Nat) (A0 : Option Addr) (c0 : Nat) (l0 : List Int) (a1 : ByteArray) (r : Bool) (w : World) (hr0 : Kd.C (Kd.int .i64) w A0 l0.length l0) (hc0 : l0.length ≤ c0) (h : wardmotelaw09_ParcelInts.f k l0 a1 = some r) :
    Calls Try.prog 7 #[.slice A0 l0.length c0, .string a1] w fun e w' => e = .returned (.bool r) ∧ Below w.heap.size w w' := by
  have HR0 := Aside0.mk hr0
  have HC0 := Aside0.mk hc0
  clear hr0 hc0
  have HB := Aside0.mk (Below.refl w.heap.size w)
  have H : ((parcel_Ints.f k l0).bind fun bt214 => ((wardmoteref09_Ints.f k l0).bind fun bt216 => ((parcel_ToInts.f k a1).bind fun bt218 => ((wardmoteref09_ToInts.f k a1).bind fun bt222 => (if bt214.1.toList = bt216.1.toList then (if bt214.2 = bt216.2 then ((wardmoteplain_Ints.f k bt218.1 bt222.1).bind fun t226 => (if t226 = true then (wardmotelaw09_ParcelInts.j0 k l0 a1 bt214.1 bt214.2 bt222.1 bt222.2 (bt218.2 != bt222.2)) else (wardmotelaw09_ParcelInts.j0 k l0 a1 bt214.1 bt214.2 bt222.1 bt222.2 true))) else (wardmotelaw09_ParcelInts.j0 k l0 a1 bt214.1 bt214.2 bt222.1 bt222.2 true)) else (wardmotelaw09_ParcelInts.j0 k l0 a1 bt214.1 bt214.2 bt222.1 bt222.2 true)))))) = some r := h
  clear h
  replace H := Option.bind_eq_some_iff.mp H
  obtain ⟨⟨t214, t215⟩, A30, H⟩ := H
  replace H : ((wardmoteref09_Ints.f k l0).bind fun bt216 => ((parcel_ToInts.f k a1).bind fun bt218 => ((wardmoteref09_ToInts.f k a1).bind fun bt222 => (if t214.toList = bt216.1.toList then (if t215 = bt216.2 then ((wardmoteplain_Ints.f k bt218.1 bt222.1).bind fun t226 => (if t226 = true then (wardmotelaw09_ParcelInts.j0 k l0 a1 t214 t215 bt222.1 bt222.2 (bt218.2 != bt222.2)) else (wardmotelaw09_ParcelInts.j0 k l0 a1 t214 t215 bt222.1 bt222.2 true))) else (wardmotelaw09_ParcelInts.j0 k l0 a1 t214 t215 bt222.1 bt222.2 true)) else (wardmotelaw09_ParcelInts.j0 k l0 a1 t214 t215 bt222.1 bt222.2 true))))) = some r := H
  have A3 := Aside0.mk A30
  clear A30
  replace H := Option.bind_eq_some_iff.mp H
  obtain ⟨⟨t216, t217⟩, A40, H⟩ := H
  replace H : ((parcel_ToInts.f k a1).bind fun bt218 => ((wardmoteref09_ToInts.f k a1).bind fun bt222 => (if t214.toList = t216.toList then (if t215 = t217 then ((wardmoteplain_Ints.f k bt218.1 bt222.1).bind fun t226 => (if t226 = true then (wardmotelaw09_ParcelInts.j0 k l0 a1 t214 t215 bt222.1 bt222.2 (bt218.2 != bt222.2)) else (wardmotelaw09_ParcelInts.j0 k l0 a1 t214 t215 bt222.1 bt222.2 true))) else (wardmotelaw09_ParcelInts.j0 k l0 a1 t214 t215 bt222.1 bt222.2 true)) else (wardmotelaw09_ParcelInts.j0 k l0 a1 t214 t215 bt222.1 bt222.2 true)))) = some r := H
  have A4 := Aside0.mk A40
  clear A40
  replace H := Option.bind_eq_some_iff.mp H
  obtain ⟨⟨t218, t219⟩, A50, H⟩ := H
  replace H : ((wardmoteref09_ToInts.f k a1).bind fun bt222 => (if t214.toList = t216.toList then (if t215 = t217 then ((wardmoteplain_Ints.f k t218 bt222.1).bind fun t226 => (if t226 = true then (wardmotelaw09_ParcelInts.j0 k l0 a1 t214 t215 bt222.1 bt222.2 (t219 != bt222.2)) else (wardmotelaw09_ParcelInts.j0 k l0 a1 t214 t215 bt222.1 bt222.2 true))) else (wardmotelaw09_ParcelInts.j0 k l0 a1 t214 t215 bt222.1 bt222.2 true)) else (wardmotelaw09_ParcelInts.j0 k l0 a1 t214 t215 bt222.1 bt222.2 true))) = some r := H
  have A5 := Aside0.mk A50
  clear A50
  replace H := Option.bind_eq_some_iff.mp H
  obtain ⟨⟨t222, t223⟩, A60, H⟩ := H
  replace H : (if t214.toList = t216.toList then (if t215 = t217 then ((wardmoteplain_Ints.f k t218 t222).bind fun t226 => (if t226 = true then (wardmotelaw09_ParcelInts.j0 k l0 a1 t214 t215 t222 t223 (t219 != t223)) else (wardmotelaw09_ParcelInts.j0 k l0 a1 t214 t215 t222 t223 true))) else (wardmotelaw09_ParcelInts.j0 k l0 a1 t214 t215 t222 t223 true)) else (wardmotelaw09_ParcelInts.j0 k l0 a1 t214 t215 t222 t223 true)) = some r := H
  have A6 := Aside0.mk A60
  clear A60
  have HC7 := Aside0.mk H
  clear H
  go_enter Try.func7, Try.ntmps7
  go_upto_region 5 with (first | ((with_reducible refine gate_callee (f := 17) rfl ?_); refine goesL_ (some 25) rfl rfl Try.func17 (by kernel_rfl) rfl #[.slice A0 l0.length c0] rfl (by (try simp only [List.map_toArray, List.map_cons, List.map_nil]); first | done | rfl | (simp only [List.length_drop, List.length_take]; rfl)) ?_; (with_reducible refine (parcel_Ints.calls k _ _ l0 t214 t215 _ ?side1 ?side2 A3.out).mono ?_); (case side1 => repeat (first | exact HR0.out | (with_reducible refine Kd.C_alloc ?_ _) | (with_reducible refine Kd.C_drewN ?_ _) | (with_reducible refine Kd.C_drew ?_))); (case side2 => exact HC0.out); rintro e w8 ⟨rfl, hb⟩; refine ⟨_, rfl, ?_⟩; have n0_ := Aside0.mk (below_step (by repeat (first | (with_reducible first | exact HB.out | apply below_alloc | apply pw_below_drewN | apply below_drew1) | exact HB.out)) hb); clear HB; have HB := n0_; clear n0_; (try clear hb); (try clear hb2); (try clear hk); (try clear hi)) | ((with_reducible refine gate_callee (f := 18) rfl ?_); refine goesL_ (some 30) rfl rfl Try.func18 (by kernel_rfl) rfl #[.slice A0 l0.length c0] rfl (by (try simp only [List.map_toArray, List.map_cons, List.map_nil]); first | done | rfl | (simp only [List.length_drop, List.length_take]; rfl)) ?_; (with_reducible refine (wardmoteref09_Ints.calls k _ _ l0 t216 t217 _ ?side1 ?side2 A4.out).mono ?_); (case side1 => repeat (first | exact (Kd.C_below HR0.out HB.out) | (with_reducible refine Kd.C_alloc ?_ _) | (with_reducible refine Kd.C_drewN ?_ _) | (with_reducible refine Kd.C_drew ?_))); (case side2 => exact HC0.out); rintro e w9 ⟨rfl, hb⟩; refine ⟨_, rfl, ?_⟩; have n0_ := Aside0.mk (below_step (by repeat (first | (with_reducible first | exact HB.out | apply below_alloc | apply pw_below_drewN | apply below_drew1) | exact HB.out)) hb); clear HB; have HB := n0_; clear n0_; (try clear hb); (try clear hb2); (try clear hk); (try clear hi)) | ((with_reducible refine gate_callee (f := 19) rfl ?_); refine goesL_ (some 35) rfl rfl Try.func19 (by kernel_rfl) rfl #[.string a1] rfl (by (try simp only [List.map_toArray, List.map_cons, List.map_nil]); first | done | rfl | (simp only [List.length_drop, List.length_take]; rfl)) ?_; (with_reducible refine (parcel_ToInts.calls k a1 t218 t219 _ A5.out).mono ?_); rintro e w10 ⟨v220, rfl, ho0, hb⟩; refine ⟨_, rfl, ?_⟩; have n0_ := Aside0.mk (Kd.R_lower ho0 (below_size (by repeat (first | (with_reducible first | exact HB.out | apply below_alloc | apply pw_below_drewN | apply below_drew1) | exact HB.out)))); have n1_ := Aside0.mk (below_step (by repeat (first | (with_reducible first | exact HB.out | apply below_alloc | apply pw_below_drewN | apply below_drew1) | exact HB.out)) hb); clear HB; have HO221 := n0_; have HB := n1_; clear n0_ n1_; (try clear hb); (try clear hb2); (try clear hk); (try clear hi); (try clear ho0)) | ((with_reducible refine gate_callee (f := 20) rfl ?_); refine goesL_ (some 40) rfl rfl Try.func20 (by kernel_rfl) rfl #[.string a1] rfl (by (try simp only [List.map_toArray, List.map_cons, List.map_nil]); first | done | rfl | (simp only [List.length_drop, List.length_take]; rfl)) ?_; (with_reducible refine (wardmoteref09_ToInts.calls k a1 t222 t223 _ A6.out).mono ?_); rintro e w11 ⟨v224, rfl, ho0, hb⟩; refine ⟨_, rfl, ?_⟩; have n0_ := Aside0.mk (Kd.R_elder' (by (with_reducible repeat (first | apply Kd.R_alloc | apply Kd.R_drewN | apply Kd.R_drew)); exact HO221.out) (Kd.R_base ho0) hb); have n1_ := Aside0.mk (Kd.R_lower (Kd.R_new' ho0 (Kd.R_lt (by (with_reducible repeat (first | apply Kd.R_alloc | apply Kd.R_drewN | apply Kd.R_drew)); exact HO221.out))) (below_size (by repeat (first | (with_reducible first | exact HB.out | apply below_alloc | apply pw_below_drewN | apply below_drew1) | exact HB.out)))); have n2_ := Aside0.mk (below_step (by repeat (first | (with_reducible first | exact HB.out | apply below_alloc | apply pw_below_drewN | apply below_drew1) | exact HB.out)) hb); clear HO221; clear HB; have HO221 := n0_; have HO225 := n1_; have HB := n2_; clear n0_ n1_ n2_; (try clear hb); (try clear hb2); (try clear hk); (try clear hi); (try clear ho0)))
  (try simp only [Act.put, List.setIfInBounds_toArray, List.set_cons_zero, List.set_cons_succ])
  go_cut [61] (fun v61 wc => ∃ (kq : Nat) (x61_6 : Bool), v61 = .bool x61_6 ∧ Aside0 (wardmotelaw09_ParcelInts.j0 kq l0 a1 t214 t215 t222 t223 x61_6 = some r) ∧ Aside0 (kq ≤ k) ∧ Aside0 (Kd.R (Kd.int .i64) 3 wc w.heap.size (fun _ => True) v224 t222) ∧ Aside0 (Below w.heap.size w wc))
  case first =>
    have H := HC7.out
    clear HC7
    by_cases c12 : t214.toList = t216.toList
    · rw [if_pos c12] at H
      have c12b0 : (t214.toList == t216.toList) = true := beq_iff_eq.mpr c12
      have c12b1 : (t214.toList != t216.toList) = false := bne_eq_false_iff_eq.mpr c12
      clear c12
      (first | rw [c12b0] | (simp only [i64_w, i32_w]; rw [c12b0]) | skip)
      by_cases c13 : t215 = t217
      · rw [if_pos c13] at H
        have c13b0 : (t215 == t217) = true := beq_iff_eq.mpr c13
        have c13b1 : (t215 != t217) = false := bne_eq_false_iff_eq.mpr c13
        clear c13
        replace H := Option.bind_eq_some_iff.mp H
        obtain ⟨t226, A140, H⟩ := H
        replace H : (if t226 = true then (wardmotelaw09_ParcelInts.j0 k l0 a1 t214 t215 t222 t223 (t219 != t223)) else (wardmotelaw09_ParcelInts.j0 k l0 a1 t214 t215 t222 t223 true)) = some r := H
        have A14 := Aside0.mk A140
        clear A140
        by_cases c15 : t226 = true
        · subst c15
          have H1 : (wardmotelaw09_ParcelInts.j0 k l0 a1 t214 t215 t222 t223 (t219 != t223)) = some r := by rw [if_pos rfl] at H; exact H
          clear H
          have H := H1
          clear H1
          have H' := Aside0.mk H
          clear H
          obtain ⟨Ao16, co16, eo16⟩ := Kd.R_slice HO221.out
          subst eo16
          obtain ⟨Ao17, co17, eo17⟩ := Kd.R_slice HO225.out
          subst eo17
          go_wp2_with (first | (go_at_call 21; (with_reducible refine (wardmoteplain_Ints.calls k _ _ t218 _ _ t222 true _ ?side1 ?side2 ?side3 ?side4 A14.out).mono ?_); (case side1 => repeat (first | exact (Kd.R_reads' HO221.out).2.2 | (with_reducible refine Kd.C_alloc ?_ _) | (with_reducible refine Kd.C_drewN ?_ _) | (with_reducible refine Kd.C_drew ?_))); (case side2 => exact (Kd.R_reads' HO221.out).2.1); (case side3 => repeat (first | exact (Kd.R_reads' HO225.out).2.2 | (with_reducible refine Kd.C_alloc ?_ _) | (with_reducible refine Kd.C_drewN ?_ _) | (with_reducible refine Kd.C_drew ?_))); (case side4 => exact (Kd.R_reads' HO225.out).2.1); rintro e w' ⟨rfl, ⟨nd, rfl⟩⟩))
          go_meet
          case rel => exact ⟨_, ((t219 != t223)), (by first | rfl | (simp; done) | (simp [*]; done)), H', ⟨by first | omega | exact Nat.le_refl _⟩, ⟨by (with_reducible repeat (first | apply Kd.R_alloc | apply Kd.R_drewN | apply Kd.R_drew)); exact Kd.R_mono HO225.out (fun _ hk => trivial)⟩, ⟨by repeat (first | (with_reducible first | exact HB.out | apply below_alloc | apply pw_below_drewN | apply below_drew1) | exact HB.out)⟩⟩
        · replace c15 := Bool.eq_false_iff.mpr c15
          subst c15
          have H1 : (wardmotelaw09_ParcelInts.j0 k l0 a1 t214 t215 t222 t223 true) = some r := by rw [if_neg (show ¬ (false = true) by decide)] at H; exact H
          clear H
          have H := H1
          clear H1
          have H' := Aside0.mk H
          clear H
          obtain ⟨Ao18, co18, eo18⟩ := Kd.R_slice HO221.out
          subst eo18
          obtain ⟨Ao19, co19, eo19⟩ := Kd.R_slice HO225.out
          subst eo19
          go_wp2_with (first | (go_at_call 21; (with_reducible refine (wardmoteplain_Ints.calls k _ _ t218 _ _ t222 false _ ?side1 ?side2 ?side3 ?side4 A14.out).mono ?_); (case side1 => repeat (first | exact (Kd.R_reads' HO221.out).2.2 | (with_reducible refine Kd.C_alloc ?_ _) | (with_reducible refine Kd.C_drewN ?_ _) | (with_reducible refine Kd.C_drew ?_))); (case side2 => exact (Kd.R_reads' HO221.out).2.1); (case side3 => repeat (first | exact (Kd.R_reads' HO225.out).2.2 | (with_reducible refine Kd.C_alloc ?_ _) | (with_reducible refine Kd.C_drewN ?_ _) | (with_reducible refine Kd.C_drew ?_))); (case side4 => exact (Kd.R_reads' HO225.out).2.1); rintro e w' ⟨rfl, ⟨nd, rfl⟩⟩))
          go_meet
          case rel => exact ⟨_, (true), (by first | rfl | (simp; done) | (simp [*]; done)), H', ⟨by first | omega | exact Nat.le_refl _⟩, ⟨by (with_reducible repeat (first | apply Kd.R_alloc | apply Kd.R_drewN | apply Kd.R_drew)); exact Kd.R_mono HO225.out (fun _ hk => trivial)⟩, ⟨by repeat (first | (with_reducible first | exact HB.out | apply below_alloc | apply pw_below_drewN | apply below_drew1) | exact HB.out)⟩⟩
      · rw [if_neg c13] at H
        have c13b0 : (t215 == t217) = false := beq_eq_false_iff_ne.mpr c13
        have c13b1 : (t215 != t217) = true := bne_iff_ne.mpr c13
        have H' := Aside0.mk H
        clear H
        go_wp2
        go_meet
        case rel => exact ⟨_, (true), (by first | rfl | (simp; done) | (simp [*]; done)), H', ⟨by first | omega | exact Nat.le_refl _⟩, ⟨by (with_reducible repeat (first | apply Kd.R_alloc | apply Kd.R_drewN | apply Kd.R_drew)); exact Kd.R_mono HO225.out (fun _ hk => trivial)⟩, ⟨by repeat (first | (with_reducible first | exact HB.out | apply below_alloc | apply pw_below_drewN | apply below_drew1) | exact HB.out)⟩⟩
    · rw [if_neg c12] at H
      have c12b0 : (t214.toList == t216.toList) = false := beq_eq_false_iff_ne.mpr c12
      have c12b1 : (t214.toList != t216.toList) = true := bne_iff_ne.mpr c12
      (first | rw [c12b0] | (simp only [i64_w, i32_w]; rw [c12b0]) | skip)
      have H' := Aside0.mk H
      clear H
      go_wp2
      go_meet
      case rel => exact ⟨_, (true), (by first | rfl | (simp; done) | (simp [*]; done)), H', ⟨by first | omega | exact Nat.le_refl _⟩, ⟨by (with_reducible repeat (first | apply Kd.R_alloc | apply Kd.R_drewN | apply Kd.R_drew)); exact Kd.R_mono HO225.out (fun _ hk => trivial)⟩, ⟨by repeat (first | (with_reducible first | exact HB.out | apply below_alloc | apply pw_below_drewN | apply below_drew1) | exact HB.out)⟩⟩
  case rest =>
    clear HC7
    try clear c1
    try clear c2
    try clear p2
    try clear c7
    try clear c12
    try clear c12b0
    try clear c12b1
    try clear c13
    try clear c13b0
    try clear c13b1
    try clear c15
    try clear c17
    try clear c18
    try clear c19
    obtain ⟨kq, x61_6, rfl, HA, HJ6, HO_11, HB⟩ := hcut
    cases kq with
    | zero => exact absurd HA.out (by simp [wardmotelaw09_ParcelInts.j0])
    | succ kj6 =>
      have H := HA.out
      clear HA
      simp only [wardmotelaw09_ParcelInts.j0] at H
      by_cases c20 : x61_6 = true
      · subst c20
        have H1 : (some false) = some r := by rw [if_pos rfl] at H; exact H
        clear H
        have H := H1
        clear H1
        obtain rfl := Option.some.inj H
        go_wp2
        go_ret
        exact ⟨by first | rfl | (simp [errW_none, errW_some] <;> rfl) | (simp [*, errW_none, errW_some] <;> rfl), by repeat (first | (with_reducible first | exact HB.out | apply below_alloc | apply pw_below_drewN | apply below_drew1) | exact HB.out)⟩
      · replace c20 := Bool.eq_false_iff.mpr c20
        subst c20
        have H1 : (if t215 = 0 then ((parcel_ToInts.f kj6 t214).bind fun bt227 => (if bt227.2 = 0 then ((wardmoteplain_Ints.f kj6 bt227.1 l0).bind fun t231 => (if t231 = true then (wardmotelaw09_ParcelInts.j1 kj6 l0 a1 t222 t223) else (some false))) else (some false))) else (wardmotelaw09_ParcelInts.j1 kj6 l0 a1 t222 t223)) = some r := by rw [if_neg (show ¬ (false = true) by decide)] at H; exact H
        clear H
        have H := H1
        clear H1
        have HC21 := Aside0.mk H
        clear H
        go_upto_if 63 with (fail)
        go_cut [] (fun wc => ∃ (kq : Nat), Aside0 (wardmotelaw09_ParcelInts.j1 kq l0 a1 t222 t223 = some r) ∧ Aside0 (kq ≤ kj6) ∧ Aside0 (Kd.R (Kd.int .i64) 3 wc w.heap.size (fun _ => True) v224 t222) ∧ Aside0 (Below w.heap.size w wc))
        case first =>
          have H := HC21.out
          clear HC21
          by_cases c22 : t215 = 0
          · rw [if_pos c22] at H
            have c22b0 : (t215 == 0) = true := beq_iff_eq.mpr c22
            have c22b1 : (t215 != 0) = false := bne_eq_false_iff_eq.mpr c22
            clear c22
            (first | rw [c22b0] | (simp only [i64_w, i32_w]; rw [c22b0]) | skip)
            replace H := Option.bind_eq_some_iff.mp H
            obtain ⟨⟨t227, t228⟩, A230, H⟩ := H
            replace H : (if t228 = 0 then ((wardmoteplain_Ints.f kj6 t227 l0).bind fun t231 => (if t231 = true then (wardmotelaw09_ParcelInts.j1 kj6 l0 a1 t222 t223) else (some false))) else (some false)) = some r := H
            have A23 := Aside0.mk A230
            clear A230
            by_cases c24 : t228 = 0
            · rw [if_pos c24] at H
              have c24b0 : (t228 == 0) = true := beq_iff_eq.mpr c24
              have c24b1 : (t228 != 0) = false := bne_eq_false_iff_eq.mpr c24
              clear c24
              replace H := Option.bind_eq_some_iff.mp H
              obtain ⟨t231, A250, H⟩ := H
              replace H : (if t231 = true then (wardmotelaw09_ParcelInts.j1 kj6 l0 a1 t222 t223) else (some false)) = some r := H
              have A25 := Aside0.mk A250
              clear A250
              by_cases c26 : t231 = true
              · subst c26
                have H1 : (wardmotelaw09_ParcelInts.j1 kj6 l0 a1 t222 t223) = some r := by rw [if_pos rfl] at H; exact H
                clear H
                have H := H1
                clear H1
                have H' := Aside0.mk H
                clear H
                go_wp2_with (first | ((with_reducible refine gate_callee (f := 19) rfl ?_); refine goesL_ (some 66) rfl rfl Try.func19 (by kernel_rfl) rfl #[.string t214] rfl (by (try simp only [List.map_toArray, List.map_cons, List.map_nil]); first | done | rfl | (simp only [List.length_drop, List.length_take]; rfl)) ?_; (with_reducible refine (parcel_ToInts.calls kj6 t214 t227 t228 _ A23.out).mono ?_); rintro e w27 ⟨v229, rfl, ho0, hb⟩; refine ⟨_, rfl, ?_⟩; have n0_ := Aside0.mk (Kd.R_elder' (by (with_reducible repeat (first | apply Kd.R_alloc | apply Kd.R_drewN | apply Kd.R_drew)); exact HO_11.out) (Kd.R_base ho0) hb); have n1_ := Aside0.mk (Kd.R_lower (Kd.R_new' ho0 (Kd.R_lt (by (with_reducible repeat (first | apply Kd.R_alloc | apply Kd.R_drewN | apply Kd.R_drew)); exact HO_11.out))) (below_size (by repeat (first | (with_reducible first | exact HB.out | apply below_alloc | apply pw_below_drewN | apply below_drew1) | exact HB.out)))); have n2_ := Aside0.mk (below_step (by repeat (first | (with_reducible first | exact HB.out | apply below_alloc | apply pw_below_drewN | apply below_drew1) | exact HB.out)) hb); clear HO_11; clear HB; have HO_11 := n0_; have HO230 := n1_; have HB := n2_; clear n0_ n1_ n2_; (try clear hb); (try clear hb2); (try clear hk); (try clear hi); (try clear ho0); obtain ⟨Ao28, co28, eo28⟩ := Kd.R_slice HO230.out; subst eo28) | (go_at_call 21; (with_reducible refine (wardmoteplain_Ints.calls kj6 _ _ t227 _ _ l0 true _ ?side1 ?side2 ?side3 ?side4 A25.out).mono ?_); (case side1 => repeat (first | exact (Kd.R_reads' HO230.out).2.2 | (with_reducible refine Kd.C_alloc ?_ _) | (with_reducible refine Kd.C_drewN ?_ _) | (with_reducible refine Kd.C_drew ?_))); (case side2 => exact (Kd.R_reads' HO230.out).2.1); (case side3 => repeat (first | exact (Kd.C_below HR0.out HB.out) | (with_reducible refine Kd.C_alloc ?_ _) | (with_reducible refine Kd.C_drewN ?_ _) | (with_reducible refine Kd.C_drew ?_))); (case side4 => exact HC0.out); rintro e w' ⟨rfl, ⟨nd, rfl⟩⟩))
                go_meet
                case rel => exact ⟨_, H', ⟨by have := HJ6.out; first | omega | exact Nat.le_refl _⟩, ⟨by (with_reducible repeat (first | apply Kd.R_alloc | apply Kd.R_drewN | apply Kd.R_drew)); exact Kd.R_mono HO_11.out (fun _ hk => trivial)⟩, ⟨by repeat (first | (with_reducible first | exact HB.out | apply below_alloc | apply pw_below_drewN | apply below_drew1) | exact HB.out)⟩⟩
              · replace c26 := Bool.eq_false_iff.mpr c26
                subst c26
                have H1 : (some false) = some r := by rw [if_neg (show ¬ (false = true) by decide)] at H; exact H
                clear H
                have H := H1
                clear H1
                obtain rfl := Option.some.inj H
                go_wp2_with (first | ((with_reducible refine gate_callee (f := 19) rfl ?_); refine goesL_ (some 66) rfl rfl Try.func19 (by kernel_rfl) rfl #[.string t214] rfl (by (try simp only [List.map_toArray, List.map_cons, List.map_nil]); first | done | rfl | (simp only [List.length_drop, List.length_take]; rfl)) ?_; (with_reducible refine (parcel_ToInts.calls kj6 t214 t227 t228 _ A23.out).mono ?_); rintro e w29 ⟨v229, rfl, ho0, hb⟩; refine ⟨_, rfl, ?_⟩; have n0_ := Aside0.mk (Kd.R_elder' (by (with_reducible repeat (first | apply Kd.R_alloc | apply Kd.R_drewN | apply Kd.R_drew)); exact HO_11.out) (Kd.R_base ho0) hb); have n1_ := Aside0.mk (Kd.R_lower (Kd.R_new' ho0 (Kd.R_lt (by (with_reducible repeat (first | apply Kd.R_alloc | apply Kd.R_drewN | apply Kd.R_drew)); exact HO_11.out))) (below_size (by repeat (first | (with_reducible first | exact HB.out | apply below_alloc | apply pw_below_drewN | apply below_drew1) | exact HB.out)))); have n2_ := Aside0.mk (below_step (by repeat (first | (with_reducible first | exact HB.out | apply below_alloc | apply pw_below_drewN | apply below_drew1) | exact HB.out)) hb); clear HO_11; clear HB; have HO_11 := n0_; have HO230 := n1_; have HB := n2_; clear n0_ n1_ n2_; (try clear hb); (try clear hb2); (try clear hk); (try clear hi); (try clear ho0); obtain ⟨Ao30, co30, eo30⟩ := Kd.R_slice HO230.out; subst eo30) | (go_at_call 21; (with_reducible refine (wardmoteplain_Ints.calls kj6 _ _ t227 _ _ l0 false _ ?side1 ?side2 ?side3 ?side4 A25.out).mono ?_); (case side1 => repeat (first | exact (Kd.R_reads' HO230.out).2.2 | (with_reducible refine Kd.C_alloc ?_ _) | (with_reducible refine Kd.C_drewN ?_ _) | (with_reducible refine Kd.C_drew ?_))); (case side2 => exact (Kd.R_reads' HO230.out).2.1); (case side3 => repeat (first | exact (Kd.C_below HR0.out HB.out) | (with_reducible refine Kd.C_alloc ?_ _) | (with_reducible refine Kd.C_drewN ?_ _) | (with_reducible refine Kd.C_drew ?_))); (case side4 => exact HC0.out); rintro e w' ⟨rfl, ⟨nd, rfl⟩⟩))
                go_ret
                exact ⟨by first | rfl | (simp [errW_none, errW_some] <;> rfl) | (simp [*, errW_none, errW_some] <;> rfl), by repeat (first | (with_reducible first | exact HB.out | apply below_alloc | apply pw_below_drewN | apply below_drew1) | exact HB.out)⟩
            · rw [if_neg c24] at H
              have c24b0 : (t228 == 0) = false := beq_eq_false_iff_ne.mpr c24
              have c24b1 : (t228 != 0) = true := bne_iff_ne.mpr c24
              obtain rfl := Option.some.inj H
              go_wp2_with (first | ((with_reducible refine gate_callee (f := 19) rfl ?_); refine goesL_ (some 66) rfl rfl Try.func19 (by kernel_rfl) rfl #[.string t214] rfl (by (try simp only [List.map_toArray, List.map_cons, List.map_nil]); first | done | rfl | (simp only [List.length_drop, List.length_take]; rfl)) ?_; (with_reducible refine (parcel_ToInts.calls kj6 t214 t227 t228 _ A23.out).mono ?_); rintro e w31 ⟨v229, rfl, ho0, hb⟩; refine ⟨_, rfl, ?_⟩; have n0_ := Aside0.mk (Kd.R_elder' (by (with_reducible repeat (first | apply Kd.R_alloc | apply Kd.R_drewN | apply Kd.R_drew)); exact HO_11.out) (Kd.R_base ho0) hb); have n1_ := Aside0.mk (Kd.R_lower (Kd.R_new' ho0 (Kd.R_lt (by (with_reducible repeat (first | apply Kd.R_alloc | apply Kd.R_drewN | apply Kd.R_drew)); exact HO_11.out))) (below_size (by repeat (first | (with_reducible first | exact HB.out | apply below_alloc | apply pw_below_drewN | apply below_drew1) | exact HB.out)))); have n2_ := Aside0.mk (below_step (by repeat (first | (with_reducible first | exact HB.out | apply below_alloc | apply pw_below_drewN | apply below_drew1) | exact HB.out)) hb); clear HO_11; clear HB; have HO_11 := n0_; have HO230 := n1_; have HB := n2_; clear n0_ n1_ n2_; (try clear hb); (try clear hb2); (try clear hk); (try clear hi); (try clear ho0)))
              go_ret
              exact ⟨by first | rfl | (simp [errW_none, errW_some] <;> rfl) | (simp [*, errW_none, errW_some] <;> rfl), by repeat (first | (with_reducible first | exact HB.out | apply below_alloc | apply pw_below_drewN | apply below_drew1) | exact HB.out)⟩
          · rw [if_neg c22] at H
            have c22b0 : (t215 == 0) = false := beq_eq_false_iff_ne.mpr c22
            have c22b1 : (t215 != 0) = true := bne_iff_ne.mpr c22
            (first | rw [c22b0] | (simp only [i64_w, i32_w]; rw [c22b0]) | skip)
            have H' := Aside0.mk H
            clear H
            go_wp2
            go_meet
            case rel => exact ⟨_, H', ⟨by have := HJ6.out; first | omega | exact Nat.le_refl _⟩, ⟨by (with_reducible repeat (first | apply Kd.R_alloc | apply Kd.R_drewN | apply Kd.R_drew)); exact HO_11.out⟩, ⟨by repeat (first | (with_reducible first | exact HB.out | apply below_alloc | apply pw_below_drewN | apply below_drew1) | exact HB.out)⟩⟩
        case rest =>
          clear HC21
          try clear c1
          try clear c2
          try clear p2
          try clear c7
          try clear c12
          try clear c12b0
          try clear c12b1
          try clear c13
          try clear c13b0
          try clear c13b1
          try clear c15
          try clear c17
          try clear c18
          try clear c19
          try clear c20
          try clear c22
          try clear c22b0
          try clear c22b1
          try clear c24
          try clear c24b0
          try clear c24b1
          try clear c26
          try clear p2
          obtain ⟨kq, HA, HJ20, HO_11, HB⟩ := hcut
          cases kq with
          | zero => exact absurd HA.out (by simp [wardmotelaw09_ParcelInts.j1])
          | succ kj20 =>
            have H := HA.out
            clear HA
            simp only [wardmotelaw09_ParcelInts.j1] at H
            replace H := Option.bind_eq_some_iff.mp H
            obtain ⟨⟨t232, t233⟩, A320, H⟩ := H
            replace H : (if t223 = 0 then (if ((t233 == 0) != ((t222.length : Int) == 1)) = true then (wardmotelaw09_ParcelInts.j2 kj20 l0 true) else (if t233 = 0 then (if 0 < (t222.length : Int) then (if t232 = (rd t222 0) then (wardmotelaw09_ParcelInts.j2 kj20 l0 false) else (wardmotelaw09_ParcelInts.j2 kj20 l0 true)) else (none)) else (wardmotelaw09_ParcelInts.j2 kj20 l0 (t232 != 0)))) else (if ((t233 == 0) != false) = true then (wardmotelaw09_ParcelInts.j2 kj20 l0 true) else (if t233 = 0 then (if 0 < (t222.length : Int) then (if t232 = (rd t222 0) then (wardmotelaw09_ParcelInts.j2 kj20 l0 false) else (wardmotelaw09_ParcelInts.j2 kj20 l0 true)) else (none)) else (wardmotelaw09_ParcelInts.j2 kj20 l0 (t232 != 0))))) = some r := H
            have A32 := Aside0.mk A320
            clear A320
            have HC33 := Aside0.mk H
            clear H
            go_upto_region 12 with (first | ((with_reducible refine gate_callee (f := 22) rfl ?_); refine goesL_ (some 79) rfl rfl Try.func22 (by kernel_rfl) rfl #[.string a1] rfl (by (try simp only [List.map_toArray, List.map_cons, List.map_nil]); first | done | rfl | (simp only [List.length_drop, List.length_take]; rfl)) ?_; (with_reducible refine (parcel_ToInt.calls kj20 a1 t232 t233 _ A32.out).mono ?_); rintro e w34 ⟨rfl, hb⟩; refine ⟨_, rfl, ?_⟩; have n0_ := Aside0.mk (Kd.R_below (by (with_reducible repeat (first | apply Kd.R_alloc | apply Kd.R_drewN | apply Kd.R_drew)); exact HO_11.out) hb); have n1_ := Aside0.mk (below_step (by repeat (first | (with_reducible first | exact HB.out | apply below_alloc | apply pw_below_drewN | apply below_drew1) | exact HB.out)) hb); clear HO_11; clear HB; have HO_11 := n0_; have HB := n1_; clear n0_ n1_; (try clear hb); (try clear hb2); (try clear hk); (try clear hi)))
            (try simp only [Act.put, List.setIfInBounds_toArray, List.set_cons_zero, List.set_cons_succ])
            go_cut [110] (fun v110 wc => ∃ (kq : Nat) (x110_32 : Bool), v110 = .bool x110_32 ∧ Aside0 (wardmotelaw09_ParcelInts.j2 kq l0 x110_32 = some r) ∧ Aside0 (kq ≤ kj20) ∧ Aside0 (Below w.heap.size w wc))
            case first =>
              have H := HC33.out
              clear HC33
              by_cases c35 : t223 = 0
              · rw [if_pos c35] at H
                have c35b0 : (t223 == 0) = true := beq_iff_eq.mpr c35
                have c35b1 : (t223 != 0) = false := bne_eq_false_iff_eq.mpr c35
                clear c35
                (first | rw [c35b0] | (simp only [i64_w, i32_w]; rw [c35b0]) | skip)
                by_cases c36 : ((t233 == 0) != ((t222.length : Int) == 1)) = true
                · rw [if_pos c36] at H
                  have c36b0 : ((t233 == 0) != ((t222.length : Int) == 1)) = true := c36
                  (try (have c36b1 : decide ((t233 == 0) = ((t222.length : Int) == 1)) = false := by simpa using c36))
                  (try (have c36b2 : ((t233 == 0) == ((t222.length : Int) == 1)) = false := by simpa using c36))
                  (try (have c36b3 : ¬ ((t233 == 0) = ((t222.length : Int) == 1)) := by simpa using c36))
                  clear c36
                  have H' := Aside0.mk H
                  clear H
                  obtain ⟨Ao37, co37, eo37⟩ := Kd.R_slice HO_11.out
                  subst eo37
                  go_wp2
                  go_meet
                  case rel => exact ⟨_, (true), (by first | rfl | (simp; done) | (simp [*]; done)), H', ⟨by have := HJ6.out; have := HJ20.out; first | omega | exact Nat.le_refl _⟩, ⟨by repeat (first | (with_reducible first | exact HB.out | apply below_alloc | apply pw_below_drewN | apply below_drew1) | exact HB.out)⟩⟩
                · rw [if_neg c36] at H
                  have c36b0 : ((t233 == 0) != ((t222.length : Int) == 1)) = false := by simpa using c36
                  (try (have c36b1 : decide ((t233 == 0) = ((t222.length : Int) == 1)) = true := by simpa using c36))
                  (try (have c36b2 : ((t233 == 0) == ((t222.length : Int) == 1)) = true := by simpa using c36))
                  clear c36
                  by_cases c38 : t233 = 0
                  · rw [if_pos c38] at H
                    have c38b0 : (t233 == 0) = true := beq_iff_eq.mpr c38
                    have c38b1 : (t233 != 0) = false := bne_eq_false_iff_eq.mpr c38
                    have c38y : ((t222.length : Int) == 1) = true := by have z := c36b0; rw [c38b0] at z; simpa using z
                    clear c38
                    by_cases c39 : 0 < (t222.length : Int)
                    · rw [if_pos c39] at H
                      have c39b0 : decide (0 < (t222.length : Int)) = true := decide_eq_true c39
                      have c39b1 : decide (0 < t222.length) = true := decide_eq_true (by omega)
                      clear c39
                      by_cases c40 : t232 = (rd t222 0)
                      · rw [if_pos c40] at H
                        have c40b0 : (t232 == (rd t222 0)) = true := beq_iff_eq.mpr c40
                        have c40b1 : (t232 != (rd t222 0)) = false := bne_eq_false_iff_eq.mpr c40
                        clear c40
                        have H' := Aside0.mk H
                        clear H
                        obtain ⟨Ao41, co41, eo41⟩ := Kd.R_slice HO_11.out
                        subst eo41
                        have p234 : 0 ≤ (0 : Int) := (by omega)
                        have q234 : 0 < (t222.length : Int) := of_decide_eq_true (by first | (with_reducible assumption) | assumption)
                        obtain ⟨ad234, e234, hx234_0⟩ := Kd.at_int (Kd.R_reads' HO_11.out).2.2 0 p234 q234
                        cases e234
                        have qi234 : (0 < t222.length) = True := eq_true (by omega)
                        (try rw [show ((0 : Int)).toNat = 0 from rfl] at hx234_0)
                        (try rw [Addr.add_zero'] at hx234_0)
                        replace p234 := eq_true p234
                        replace q234 := eq_true q234
                        go_wp2
                        go_meet
                        case rel => exact ⟨_, (false), (by first | rfl | (simp; done) | (simp [*]; done)), H', ⟨by have := HJ6.out; have := HJ20.out; first | omega | exact Nat.le_refl _⟩, ⟨by repeat (first | (with_reducible first | exact HB.out | apply below_alloc | apply pw_below_drewN | apply below_drew1) | exact HB.out)⟩⟩
                      · rw [if_neg c40] at H
                        have c40b0 : (t232 == (rd t222 0)) = false := beq_eq_false_iff_ne.mpr c40
                        have c40b1 : (t232 != (rd t222 0)) = true := bne_iff_ne.mpr c40
                        have H' := Aside0.mk H
                        clear H
                        obtain ⟨Ao42, co42, eo42⟩ := Kd.R_slice HO_11.out
                        subst eo42
                        have p234 : 0 ≤ (0 : Int) := (by omega)
                        have q234 : 0 < (t222.length : Int) := of_decide_eq_true (by first | (with_reducible assumption) | assumption)
                        obtain ⟨ad234, e234, hx234_0⟩ := Kd.at_int (Kd.R_reads' HO_11.out).2.2 0 p234 q234
                        cases e234
                        have qi234 : (0 < t222.length) = True := eq_true (by omega)
                        (try rw [show ((0 : Int)).toNat = 0 from rfl] at hx234_0)
                        (try rw [Addr.add_zero'] at hx234_0)
                        replace p234 := eq_true p234
                        replace q234 := eq_true q234
                        go_wp2
                        go_meet
                        case rel => exact ⟨_, (true), (by first | rfl | (simp; done) | (simp [*]; done)), H', ⟨by have := HJ6.out; have := HJ20.out; first | omega | exact Nat.le_refl _⟩, ⟨by repeat (first | (with_reducible first | exact HB.out | apply below_alloc | apply pw_below_drewN | apply below_drew1) | exact HB.out)⟩⟩
                    · rw [if_neg c39] at H
                      exact absurd H (by simp)
                  · rw [if_neg c38] at H
                    have c38b0 : (t233 == 0) = false := beq_eq_false_iff_ne.mpr c38
                    have c38b1 : (t233 != 0) = true := bne_iff_ne.mpr c38
                    have c38y : ((t222.length : Int) == 1) = false := by have z := c36b0; rw [c38b0] at z; simpa using z
                    have H' := Aside0.mk H
                    clear H
                    obtain ⟨Ao43, co43, eo43⟩ := Kd.R_slice HO_11.out
                    subst eo43
                    go_wp2
                    go_meet
                    case rel => exact ⟨_, ((t232 != 0)), (by first | rfl | (simp; done) | (simp [*]; done)), H', ⟨by have := HJ6.out; have := HJ20.out; first | omega | exact Nat.le_refl _⟩, ⟨by repeat (first | (with_reducible first | exact HB.out | apply below_alloc | apply pw_below_drewN | apply below_drew1) | exact HB.out)⟩⟩
              · rw [if_neg c35] at H
                have c35b0 : (t223 == 0) = false := beq_eq_false_iff_ne.mpr c35
                have c35b1 : (t223 != 0) = true := bne_iff_ne.mpr c35
                (first | rw [c35b0] | (simp only [i64_w, i32_w]; rw [c35b0]) | skip)
                by_cases c44 : ((t233 == 0) != false) = true
                · rw [if_pos c44] at H
                  have c44b0 : ((t233 == 0) != false) = true := c44
                  (try (have c44b1 : decide ((t233 == 0) = false) = false := by simpa using c44))
                  (try (have c44b2 : ((t233 == 0) == false) = false := by simpa using c44))
                  (try (have c44b3 : ¬ ((t233 == 0) = false) := by simpa using c44))
                  clear c44
                  have H' := Aside0.mk H
                  clear H
                  go_wp2
                  go_meet
                  case rel => exact ⟨_, (true), (by first | rfl | (simp; done) | (simp [*]; done)), H', ⟨by have := HJ6.out; have := HJ20.out; first | omega | exact Nat.le_refl _⟩, ⟨by repeat (first | (with_reducible first | exact HB.out | apply below_alloc | apply pw_below_drewN | apply below_drew1) | exact HB.out)⟩⟩
                · rw [if_neg c44] at H
                  have c44b0 : ((t233 == 0) != false) = false := by simpa using c44
                  (try (have c44b1 : decide ((t233 == 0) = false) = true := by simpa using c44))
                  (try (have c44b2 : ((t233 == 0) == false) = true := by simpa using c44))
                  clear c44
                  by_cases c45 : t233 = 0
                  · rw [if_pos c45] at H
                    exact absurd c44b0 (by rw [show (t233 == 0) = true from beq_iff_eq.mpr c45]; decide)
                  · rw [if_neg c45] at H
                    have c45b0 : (t233 == 0) = false := beq_eq_false_iff_ne.mpr c45
                    have c45b1 : (t233 != 0) = true := bne_iff_ne.mpr c45
                    have H' := Aside0.mk H
                    clear H
                    go_wp2
                    go_meet
                    case rel => exact ⟨_, ((t232 != 0)), (by first | rfl | (simp; done) | (simp [*]; done)), H', ⟨by have := HJ6.out; have := HJ20.out; first | omega | exact Nat.le_refl _⟩, ⟨by repeat (first | (with_reducible first | exact HB.out | apply below_alloc | apply pw_below_drewN | apply below_drew1) | exact HB.out)⟩⟩
            case rest =>
              clear HC33
              try clear c1
              try clear c2
              try clear p2
              try clear q2
              try clear hx2
              try clear qi2
              try clear c3
              try clear c4
              try clear c7
              try clear c12
              try clear c12b0
              try clear c12b1
              try clear c13
              try clear c13b0
              try clear c13b1
              try clear c15
              try clear c17
              try clear c18
              try clear c19
              try clear c20
              try clear c22
              try clear c22b0
              try clear c22b1
              try clear p23
              try clear q23
              try clear hx23
              try clear qi23
              try clear c24
              try clear c24b0
              try clear c24b1
              try clear c26
              try clear c35
              try clear c35b0
              try clear c35b1
              try clear c36
              try clear c36b0
              try clear c36b1
              try clear c36b2
              try clear c38
              try clear c38b0
              try clear c38b1
              try clear c39
              try clear c39b0
              try clear c39b1
              try clear c40
              try clear c40b0
              try clear c40b1
              try clear c44
              try clear c44b0
              try clear c44b1
              try clear c44b2
              try clear c45
              try clear c45b0
              try clear c45b1
              try clear c46
              try clear c46b0
              try clear c46b1
              try clear c47
              try clear c47b0
              try clear c47b1
              try clear hx234_0
              try clear hx235_0
              try clear p2
              try clear p234
              try clear p235
              try clear q234
              try clear q235
              obtain ⟨kq, x110_32, rfl, HA, HJ32, HB⟩ := hcut
              cases kq with
              | zero => exact absurd HA.out (by simp [wardmotelaw09_ParcelInts.j2])
              | succ kj32 =>
                have H := HA.out
                clear HA
                simp only [wardmotelaw09_ParcelInts.j2] at H
                by_cases c50 : x110_32 = true
                · subst c50
                  have H1 : (some false) = some r := by rw [if_pos rfl] at H; exact H
                  clear H
                  have H := H1
                  clear H1
                  obtain rfl := Option.some.inj H
                  go_wp2
                  go_ret
                  exact ⟨by first | rfl | (simp [errW_none, errW_some] <;> rfl) | (simp [*, errW_none, errW_some] <;> rfl), by repeat (first | (with_reducible first | exact HB.out | apply below_alloc | apply pw_below_drewN | apply below_drew1) | exact HB.out)⟩
                · replace c50 := Bool.eq_false_iff.mpr c50
                  subst c50
                  have H1 : (wardmotelaw09_ParcelInts.l0 kj32 l0 (l0.length : Int) 0) = some r := by rw [if_neg (show ¬ (false = true) by decide)] at H; exact H
                  clear H
                  have H := H1
                  clear H1
                  have H' := Aside0.mk H
                  clear H
                  go_wp2
                  go_loopg [113] kj32 (fun kq v113 w' => ∃ (x113_4 : Int), v113 = .int .i64 x113_4 ∧ Aside0 (wardmotelaw09_ParcelInts.l0 kq l0 (l0.length : Int) x113_4 = some r) ∧ Aside0 (kq ≤ kj32) ∧ Aside0 (Below w.heap.size w w'))
                  case atStart => exact ⟨(0), (by first | rfl | (simp; done) | (simp [*]; done)), H', ⟨Nat.le_refl _⟩, ⟨by repeat (first | (with_reducible first | exact HB.out | apply below_alloc | apply pw_below_drewN | apply below_drew1) | exact HB.out)⟩⟩
                  case round =>
                    clear H'
                    try clear c1
                    try clear c2
                    try clear p2
                    try clear q2
                    try clear hx2
                    try clear qi2
                    try clear c3
                    try clear c4
                    try clear c5
                    try clear c7
                    try clear c12
                    try clear c12b0
                    try clear c12b1
                    try clear c13
                    try clear c13b0
                    try clear c13b1
                    try clear c15
                    try clear c17
                    try clear c18
                    try clear c19
                    try clear c20
                    try clear c22
                    try clear c22b0
                    try clear c22b1
                    try clear p23
                    try clear q23
                    try clear hx23
                    try clear qi23
                    try clear c24
                    try clear c24b0
                    try clear c24b1
                    try clear c26
                    try clear c35
                    try clear c35b0
                    try clear c35b1
                    try clear c36
                    try clear c36b0
                    try clear c36b1
                    try clear c36b2
                    try clear c38
                    try clear c38b0
                    try clear c38b1
                    try clear c39
                    try clear c39b0
                    try clear c39b1
                    try clear c40
                    try clear c40b0
                    try clear c40b1
                    try clear c44
                    try clear c44b0
                    try clear c44b1
                    try clear c44b2
                    try clear c45
                    try clear c45b0
                    try clear c45b1
                    try clear c46
                    try clear c46b0
                    try clear c46b1
                    try clear c47
                    try clear c47b0
                    try clear c47b1
                    try clear c50
                    try clear hx234_0
                    try clear hx235_0
                    try clear p2
                    try clear p23
                    try clear p234
                    try clear p235
                    try clear q2
                    try clear q23
                    try clear q234
                    try clear q235
                    obtain ⟨x113_4, rfl, HA, HK4, HB⟩ := hrel
                    cases gk with
                    | zero => exact absurd HA.out (by simp [wardmotelaw09_ParcelInts.l0])
                    | succ k4 =>
                      have H := HA.out
                      clear HA
                      simp only [wardmotelaw09_ParcelInts.l0] at H
                      by_cases c51 : x113_4 < (l0.length : Int)
                      · rw [if_pos c51] at H
                        have c51b0 : decide (x113_4 < (l0.length : Int)) = true := decide_eq_true c51
                        clear c51
                        by_cases c52 : 0 ≤ x113_4
                        · rw [if_pos c52] at H
                          have c52b0 : decide (0 ≤ x113_4) = true := decide_eq_true c52
                          clear c52
                          by_cases c53 : x113_4 < (l0.length : Int)
                          · rw [if_pos c53] at H
                            have c53b0 : decide (x113_4 < (l0.length : Int)) = true := decide_eq_true c53
                            clear c53
                            replace H := Option.bind_eq_some_iff.mp H
                            obtain ⟨⟨t238, t239⟩, A540, H⟩ := H
                            replace H : ((wardmoteref09_Ints.f k4 (([rd l0 x113_4] : List Int))).bind fun bt243 => (if t238.toList = bt243.1.toList then (if t239 = bt243.2 then ((wardmotelaw09_two.f k4).bind fun t245 => (some t245)) else (some false)) else (some false))) = some r := H
                            have A54 := Aside0.mk A540
                            clear A540
                            obtain ⟨y240, hy240⟩ : ∃ y_ : List Int, y_ = (([rd l0 x113_4] : List Int)) := ⟨_, rfl⟩
                            replace H : ((wardmoteref09_Ints.f k4 y240).bind fun bt243 => (if t238.toList = bt243.1.toList then (if t239 = bt243.2 then ((wardmotelaw09_two.f k4).bind fun t245 => (some t245)) else (some false)) else (some false))) = some r := by first | (rw [hy240]; with_reducible exact H) | (have H2_ := (Option.bind_some _ _).symm.trans H; rw [hy240]; with_reducible exact H2_) | (have H2_ := (Option.bind_some _ _).symm.trans H; with_reducible exact H2_) | with_reducible exact H | (rw [hy240]; exact H) | exact H
                            have Ny240 := Aside0.mk hy240
                            clear hy240
                            replace H := Option.bind_eq_some_iff.mp H
                            obtain ⟨⟨t243, t244⟩, A550, H⟩ := H
                            replace H : (if t238.toList = t243.toList then (if t239 = t244 then ((wardmotelaw09_two.f k4).bind fun t245 => (some t245)) else (some false)) else (some false)) = some r := H
                            have A55 := Aside0.mk A550
                            clear A550
                            by_cases c56 : t238.toList = t243.toList
                            · rw [if_pos c56] at H
                              have c56b0 : (t238.toList == t243.toList) = true := beq_iff_eq.mpr c56
                              have c56b1 : (t238.toList != t243.toList) = false := bne_eq_false_iff_eq.mpr c56
                              clear c56
                              by_cases c57 : t239 = t244
                              · rw [if_pos c57] at H
                                have c57b0 : (t239 == t244) = true := beq_iff_eq.mpr c57
                                have c57b1 : (t239 != t244) = false := bne_eq_false_iff_eq.mpr c57
                                clear c57
                                replace H := Option.bind_eq_some_iff.mp H
                                obtain ⟨t245, A580, H⟩ := H
                                replace H : (some t245) = some r := H
                                have A58 := Aside0.mk A580
                                clear A580
                                obtain rfl := Option.some.inj H
                                have p237 : 0 ≤ (x113_4 : Int) := of_decide_eq_true (by first | (with_reducible assumption) | assumption)
                                have q237 : x113_4 < (l0.length : Int) := of_decide_eq_true (by first | (with_reducible assumption) | assumption)
                                obtain ⟨ad237, e237, hx237_0⟩ := Kd.at_int HR0.out x113_4 p237 q237
                                cases e237
                                replace hx237_0 := (HB.out.cell (World.block_lt_of_cell? w _ hx237_0)).trans hx237_0
                                replace p237 := eq_true p237
                                replace q237 := eq_true q237
                                go_wp2_with (first | ((with_reducible refine gate_callee (f := 23) rfl ?_); refine goesL_ (some 119) rfl rfl Try.func23 (by kernel_rfl) rfl #[.int .i64 (rd l0 x113_4)] rfl (by (try simp only [List.map_toArray, List.map_cons, List.map_nil]); first | done | rfl | (simp only [List.length_drop, List.length_take]; rfl)) ?_; (with_reducible refine (parcel_Int.calls k4 (rd l0 x113_4) t238 t239 _ A54.out).mono ?_); rintro e w59 ⟨rfl, hb⟩; refine ⟨_, rfl, ?_⟩; have n0_ := Aside0.mk (below_step (by repeat (first | (with_reducible first | exact HB.out | apply below_alloc | apply pw_below_drewN | apply below_drew1) | exact HB.out)) hb); clear HB; have HB := n0_; clear n0_; (try clear hb); (try clear hb2); (try clear hk); (try clear hi)) | ((with_reducible refine gate_dst (N := 124) rfl ?_); (try (refine gate_guard (by rfl) ?_; dsimp only)); refine Kd.R_lit (Kd.int .i64) _ 3 ?hg (N := 124) ?hd (xs := ([rd l0 x113_4] : List Int)) (inner := [.int .i64 (rd l0 x113_4)]) (ok := fun _ => True) (okp := fun _ => True) ?hr ?hp (fun _ hk => hk) trivial (Below.refl _ _) (Nat.le_refl _) (by simp) ?_; (case hd => rfl); (case hg => rfl); (case hr => first | (go_simp; done) | (go_simp; rfl)); (case hp => exact (Reps.one (show Kd.M (Kd.int .i64) _ _ _ (rd l0 x113_4) [.int .i64 (rd l0 x113_4)] from rfl) (Reps.none _ _))); intro v241 w60 ho61 hb hg_ hnew_; clear hg_ hnew_; (first | rw [← Ny240.out] at ho61 | (simp only [Int.reduceToNat] at ho61; rw [← Ny240.out] at ho61)); have n0_ := Aside0.mk (Kd.R_lower ho61 (below_size (by repeat (first | (with_reducible first | exact HB.out | apply below_alloc | apply pw_below_drewN | apply below_drew1) | exact HB.out)))); have n1_ := Aside0.mk (below_step (by repeat (first | (with_reducible first | exact HB.out | apply below_alloc | apply pw_below_drewN | apply below_drew1) | exact HB.out)) hb); clear HB; have HO242 := n0_; have HB := n1_; clear n0_ n1_; clear hb ho61; obtain ⟨Ao62, co62, eo62⟩ := Kd.R_slice HO242.out; subst eo62) | ((with_reducible refine gate_callee (f := 18) rfl ?_); refine goesL_ (some 125) rfl rfl Try.func18 (by kernel_rfl) rfl #[.slice Ao62 y240.length co62] rfl (by (try simp only [List.map_toArray, List.map_cons, List.map_nil]); first | done | rfl | (simp only [List.length_drop, List.length_take]; rfl)) ?_; (with_reducible refine (wardmoteref09_Ints.calls k4 _ _ y240 t243 t244 _ ?side1 ?side2 A55.out).mono ?_); (case side1 => repeat (first | exact (Kd.R_reads' HO242.out).2.2 | (with_reducible refine Kd.C_alloc ?_ _) | (with_reducible refine Kd.C_drewN ?_ _) | (with_reducible refine Kd.C_drew ?_))); (case side2 => exact (Kd.R_reads' HO242.out).2.1); rintro e w63 ⟨rfl, hb⟩; refine ⟨_, rfl, ?_⟩; have n0_ := Aside0.mk (Kd.R_below (by (with_reducible repeat (first | apply Kd.R_alloc | apply Kd.R_drewN | apply Kd.R_drew)); exact HO242.out) hb); have n1_ := Aside0.mk (below_step (by repeat (first | (with_reducible first | exact HB.out | apply below_alloc | apply pw_below_drewN | apply below_drew1) | exact HB.out)) hb); clear HO242; clear HB; have HO242 := n0_; have HB := n1_; clear n0_ n1_; (try clear hb); (try clear hb2); (try clear hk); (try clear hi)) | ((with_reducible refine gate_callee (f := 13) rfl ?_); refine goesL_ (some 137) rfl rfl Try.func13 (by kernel_rfl) rfl #[] rfl (by (try simp only [List.map_toArray, List.map_cons, List.map_nil]); first | done | rfl | (simp only [List.length_drop, List.length_take]; rfl)) ?_; (with_reducible refine (wardmotelaw09_two.calls k4  t245 _ A58.out).mono ?_); rintro e w64 ⟨rfl, hb⟩; refine ⟨_, rfl, ?_⟩; have n0_ := Aside0.mk (Kd.R_below (by (with_reducible repeat (first | apply Kd.R_alloc | apply Kd.R_drewN | apply Kd.R_drew)); exact HO242.out) hb); have n1_ := Aside0.mk (below_step (by repeat (first | (with_reducible first | exact HB.out | apply below_alloc | apply pw_below_drewN | apply below_drew1) | exact HB.out)) hb); clear HO242; clear HB; have HO242 := n0_; have HB := n1_; clear n0_ n1_; (try clear hb); (try clear hb2); (try clear hk); (try clear hi)))
                                go_ret
                                exact ⟨by first | rfl | (simp [errW_none, errW_some] <;> rfl) | (simp [*, errW_none, errW_some] <;> rfl), by repeat (first | (with_reducible first | exact HB.out | apply below_alloc | apply pw_below_drewN | apply below_drew1) | exact HB.out)⟩
                              · rw [if_neg c57] at H
                                have c57b0 : (t239 == t244) = false := beq_eq_false_iff_ne.mpr c57
                                have c57b1 : (t239 != t244) = true := bne_iff_ne.mpr c57
                                obtain rfl := Option.some.inj H
                                have p237 : 0 ≤ (x113_4 : Int) := of_decide_eq_true (by first | (with_reducible assumption) | assumption)
                                have q237 : x113_4 < (l0.length : Int) := of_decide_eq_true (by first | (with_reducible assumption) | assumption)
                                obtain ⟨ad237, e237, hx237_0⟩ := Kd.at_int HR0.out x113_4 p237 q237
                                cases e237
                                replace hx237_0 := (HB.out.cell (World.block_lt_of_cell? w _ hx237_0)).trans hx237_0
                                replace p237 := eq_true p237
                                replace q237 := eq_true q237
                                go_wp2_with (first | ((with_reducible refine gate_callee (f := 23) rfl ?_); refine goesL_ (some 119) rfl rfl Try.func23 (by kernel_rfl) rfl #[.int .i64 (rd l0 x113_4)] rfl (by (try simp only [List.map_toArray, List.map_cons, List.map_nil]); first | done | rfl | (simp only [List.length_drop, List.length_take]; rfl)) ?_; (with_reducible refine (parcel_Int.calls k4 (rd l0 x113_4) t238 t239 _ A54.out).mono ?_); rintro e w65 ⟨rfl, hb⟩; refine ⟨_, rfl, ?_⟩; have n0_ := Aside0.mk (below_step (by repeat (first | (with_reducible first | exact HB.out | apply below_alloc | apply pw_below_drewN | apply below_drew1) | exact HB.out)) hb); clear HB; have HB := n0_; clear n0_; (try clear hb); (try clear hb2); (try clear hk); (try clear hi)) | ((with_reducible refine gate_dst (N := 124) rfl ?_); (try (refine gate_guard (by rfl) ?_; dsimp only)); refine Kd.R_lit (Kd.int .i64) _ 3 ?hg (N := 124) ?hd (xs := ([rd l0 x113_4] : List Int)) (inner := [.int .i64 (rd l0 x113_4)]) (ok := fun _ => True) (okp := fun _ => True) ?hr ?hp (fun _ hk => hk) trivial (Below.refl _ _) (Nat.le_refl _) (by simp) ?_; (case hd => rfl); (case hg => rfl); (case hr => first | (go_simp; done) | (go_simp; rfl)); (case hp => exact (Reps.one (show Kd.M (Kd.int .i64) _ _ _ (rd l0 x113_4) [.int .i64 (rd l0 x113_4)] from rfl) (Reps.none _ _))); intro v241 w66 ho67 hb hg_ hnew_; clear hg_ hnew_; (first | rw [← Ny240.out] at ho67 | (simp only [Int.reduceToNat] at ho67; rw [← Ny240.out] at ho67)); have n0_ := Aside0.mk (Kd.R_lower ho67 (below_size (by repeat (first | (with_reducible first | exact HB.out | apply below_alloc | apply pw_below_drewN | apply below_drew1) | exact HB.out)))); have n1_ := Aside0.mk (below_step (by repeat (first | (with_reducible first | exact HB.out | apply below_alloc | apply pw_below_drewN | apply below_drew1) | exact HB.out)) hb); clear HB; have HO242 := n0_; have HB := n1_; clear n0_ n1_; clear hb ho67; obtain ⟨Ao68, co68, eo68⟩ := Kd.R_slice HO242.out; subst eo68) | ((with_reducible refine gate_callee (f := 18) rfl ?_); refine goesL_ (some 125) rfl rfl Try.func18 (by kernel_rfl) rfl #[.slice Ao68 y240.length co68] rfl (by (try simp only [List.map_toArray, List.map_cons, List.map_nil]); first | done | rfl | (simp only [List.length_drop, List.length_take]; rfl)) ?_; (with_reducible refine (wardmoteref09_Ints.calls k4 _ _ y240 t243 t244 _ ?side1 ?side2 A55.out).mono ?_); (case side1 => repeat (first | exact (Kd.R_reads' HO242.out).2.2 | (with_reducible refine Kd.C_alloc ?_ _) | (with_reducible refine Kd.C_drewN ?_ _) | (with_reducible refine Kd.C_drew ?_))); (case side2 => exact (Kd.R_reads' HO242.out).2.1); rintro e w69 ⟨rfl, hb⟩; refine ⟨_, rfl, ?_⟩; have n0_ := Aside0.mk (Kd.R_below (by (with_reducible repeat (first | apply Kd.R_alloc | apply Kd.R_drewN | apply Kd.R_drew)); exact HO242.out) hb); have n1_ := Aside0.mk (below_step (by repeat (first | (with_reducible first | exact HB.out | apply below_alloc | apply pw_below_drewN | apply below_drew1) | exact HB.out)) hb); clear HO242; clear HB; have HO242 := n0_; have HB := n1_; clear n0_ n1_; (try clear hb); (try clear hb2); (try clear hk); (try clear hi)))
                                go_ret
                                exact ⟨by first | rfl | (simp [errW_none, errW_some] <;> rfl) | (simp [*, errW_none, errW_some] <;> rfl), by repeat (first | (with_reducible first | exact HB.out | apply below_alloc | apply pw_below_drewN | apply below_drew1) | exact HB.out)⟩
                            · rw [if_neg c56] at H
                              have c56b0 : (t238.toList == t243.toList) = false := beq_eq_false_iff_ne.mpr c56
                              have c56b1 : (t238.toList != t243.toList) = true := bne_iff_ne.mpr c56
                              obtain rfl := Option.some.inj H
                              have p237 : 0 ≤ (x113_4 : Int) := of_decide_eq_true (by first | (with_reducible assumption) | assumption)
                              have q237 : x113_4 < (l0.length : Int) := of_decide_eq_true (by first | (with_reducible assumption) | assumption)
                              obtain ⟨ad237, e237, hx237_0⟩ := Kd.at_int HR0.out x113_4 p237 q237
                              cases e237
                              replace hx237_0 := (HB.out.cell (World.block_lt_of_cell? w _ hx237_0)).trans hx237_0
                              replace p237 := eq_true p237
                              replace q237 := eq_true q237
                              go_wp2_with (first | ((with_reducible refine gate_callee (f := 23) rfl ?_); refine goesL_ (some 119) rfl rfl Try.func23 (by kernel_rfl) rfl #[.int .i64 (rd l0 x113_4)] rfl (by (try simp only [List.map_toArray, List.map_cons, List.map_nil]); first | done | rfl | (simp only [List.length_drop, List.length_take]; rfl)) ?_; (with_reducible refine (parcel_Int.calls k4 (rd l0 x113_4) t238 t239 _ A54.out).mono ?_); rintro e w70 ⟨rfl, hb⟩; refine ⟨_, rfl, ?_⟩; have n0_ := Aside0.mk (below_step (by repeat (first | (with_reducible first | exact HB.out | apply below_alloc | apply pw_below_drewN | apply below_drew1) | exact HB.out)) hb); clear HB; have HB := n0_; clear n0_; (try clear hb); (try clear hb2); (try clear hk); (try clear hi)) | ((with_reducible refine gate_dst (N := 124) rfl ?_); (try (refine gate_guard (by rfl) ?_; dsimp only)); refine Kd.R_lit (Kd.int .i64) _ 3 ?hg (N := 124) ?hd (xs := ([rd l0 x113_4] : List Int)) (inner := [.int .i64 (rd l0 x113_4)]) (ok := fun _ => True) (okp := fun _ => True) ?hr ?hp (fun _ hk => hk) trivial (Below.refl _ _) (Nat.le_refl _) (by simp) ?_; (case hd => rfl); (case hg => rfl); (case hr => first | (go_simp; done) | (go_simp; rfl)); (case hp => exact (Reps.one (show Kd.M (Kd.int .i64) _ _ _ (rd l0 x113_4) [.int .i64 (rd l0 x113_4)] from rfl) (Reps.none _ _))); intro v241 w71 ho72 hb hg_ hnew_; clear hg_ hnew_; (first | rw [← Ny240.out] at ho72 | (simp only [Int.reduceToNat] at ho72; rw [← Ny240.out] at ho72)); have n0_ := Aside0.mk (Kd.R_lower ho72 (below_size (by repeat (first | (with_reducible first | exact HB.out | apply below_alloc | apply pw_below_drewN | apply below_drew1) | exact HB.out)))); have n1_ := Aside0.mk (below_step (by repeat (first | (with_reducible first | exact HB.out | apply below_alloc | apply pw_below_drewN | apply below_drew1) | exact HB.out)) hb); clear HB; have HO242 := n0_; have HB := n1_; clear n0_ n1_; clear hb ho72; obtain ⟨Ao73, co73, eo73⟩ := Kd.R_slice HO242.out; subst eo73) | ((with_reducible refine gate_callee (f := 18) rfl ?_); refine goesL_ (some 125) rfl rfl Try.func18 (by kernel_rfl) rfl #[.slice Ao73 y240.length co73] rfl (by (try simp only [List.map_toArray, List.map_cons, List.map_nil]); first | done | rfl | (simp only [List.length_drop, List.length_take]; rfl)) ?_; (with_reducible refine (wardmoteref09_Ints.calls k4 _ _ y240 t243 t244 _ ?side1 ?side2 A55.out).mono ?_); (case side1 => repeat (first | exact (Kd.R_reads' HO242.out).2.2 | (with_reducible refine Kd.C_alloc ?_ _) | (with_reducible refine Kd.C_drewN ?_ _) | (with_reducible refine Kd.C_drew ?_))); (case side2 => exact (Kd.R_reads' HO242.out).2.1); rintro e w74 ⟨rfl, hb⟩; refine ⟨_, rfl, ?_⟩; have n0_ := Aside0.mk (Kd.R_below (by (with_reducible repeat (first | apply Kd.R_alloc | apply Kd.R_drewN | apply Kd.R_drew)); exact HO242.out) hb); have n1_ := Aside0.mk (below_step (by repeat (first | (with_reducible first | exact HB.out | apply below_alloc | apply pw_below_drewN | apply below_drew1) | exact HB.out)) hb); clear HO242; clear HB; have HO242 := n0_; have HB := n1_; clear n0_ n1_; (try clear hb); (try clear hb2); (try clear hk); (try clear hi)))
                              go_ret
                              exact ⟨by first | rfl | (simp [errW_none, errW_some] <;> rfl) | (simp [*, errW_none, errW_some] <;> rfl), by repeat (first | (with_reducible first | exact HB.out | apply below_alloc | apply pw_below_drewN | apply below_drew1) | exact HB.out)⟩
                          · rw [if_neg c53] at H
                            exact absurd H (by simp)
                        · rw [if_neg c52] at H
                          exact absurd H (by simp)
                      · rw [if_neg c51] at H
                        have c51b0 : decide (x113_4 < (l0.length : Int)) = false := decide_eq_false c51
                        clear c51
                        replace H := Option.bind_eq_some_iff.mp H
                        obtain ⟨t236, A750, H⟩ := H
                        replace H : (some t236) = some r := H
                        have A75 := Aside0.mk A750
                        clear A750
                        obtain rfl := Option.some.inj H
                        go_wp2_with (first | ((with_reducible refine gate_callee (f := 13) rfl ?_); refine goesL_ (some 137) rfl rfl Try.func13 (by kernel_rfl) rfl #[] rfl (by (try simp only [List.map_toArray, List.map_cons, List.map_nil]); first | done | rfl | (simp only [List.length_drop, List.length_take]; rfl)) ?_; (with_reducible refine (wardmotelaw09_two.calls k4  t236 _ A75.out).mono ?_); rintro e w76 ⟨rfl, hb⟩; refine ⟨_, rfl, ?_⟩; have n0_ := Aside0.mk (below_step (by repeat (first | (with_reducible first | exact HB.out | apply below_alloc | apply pw_below_drewN | apply below_drew1) | exact HB.out)) hb); clear HB; have HB := n0_; clear n0_; (try clear hb); (try clear hb2); (try clear hk); (try clear hi)))
                        go_ret
                        exact ⟨by first | rfl | (simp [errW_none, errW_some] <;> rfl) | (simp [*, errW_none, errW_some] <;> rfl), by repeat (first | (with_reducible first | exact HB.out | apply below_alloc | apply pw_below_drewN | apply below_drew1) | exact HB.out)⟩

/-- THE ONE PURE STATEMENT of wardmotelaw09_ParcelInts: yours. -/
def wardmotelaw09_ParcelInts.Pure : Prop := ∀ (l0 : List Int) (a1 : ByteArray), l0.length ≤ maxLen → l0.length * 8 ≤ 140737488351232 → (∀ x ∈ l0, (Lit.int .i64 x).wf = true) → a1.size ≤ 140737488351232 → ∃ k, wardmotelaw09_ParcelInts.f k l0 a1 = some true
theorem wardmotelaw09_ParcelInts.walk (P : wardmotelaw09_ParcelInts.Pure) (a0 : Option Addr) (len0 cap0 : Nat) (z0 : List Int) (a1 : ByteArray) (w : World) (w0 : (a0 = none ∧ len0 = 0 ∧ cap0 = 0 ∧ z0 = []) ∨ ∃ x, a0 = some x ∧ len0 ≤ cap0 ∧ cap0 ≤ maxLen ∧ z0.length = cap0 ∧ (∀ i, i < z0.length → w.cell? (x.add i) = some (.int .i64 (z0.getD i 0))) ∧ ∀ n ∈ z0, (Lit.int .i64 n).wf = true) (y0 : len0 * 8 ≤ 140737488351232) (w1 : a1.size ≤ 140737488351232) :
    Calls Try.prog 7 #[.slice a0 len0 cap0, .string a1] w fun e w' => e = .returned (.bool true) ∧ Below w.heap.size w w' := by
  obtain ⟨l0, rfl, hr0, hm0, hw0, hc0⟩ := ReadsInt.ofRowC w0
  obtain ⟨k, h⟩ := P l0 a1 hm0 y0 hw0 w1
  refine (wardmotelaw09_ParcelInts.calls k _ _ l0 a1 true w (Kd.C_of_reads (d := (0 : Int)) (h1 := fun _ => rfl) hr0) hc0 h).mono ?_
  rintro e w' ⟨rfl, hd⟩
  exact ⟨rfl, hd⟩

end Go.Proofs.Ytieencpejpeenaa.QParcel
