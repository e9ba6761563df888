/- LimbBytes, the walk. -/
import Derived.Test.YtcoljlanblngiaaF
import Derived.Test.YtcoljlanblngiaaY4
namespace Go.Proofs.Ytcoljlanblngiaa
set_option linter.unusedVariables false
set_option linter.unusedSimpArgs false
open Go.RowKit Go.Proofs.YtcoljlanblngiaaW.PrintWords

theorem isBytes_list (n : Nat) (l : List Int) (hl : l.length = 32) (hg : ∀ i, i < 32 → l[i]? = some (byt n (31 - i))) : IsBytes (strOfNums l) n := by
  have hsz : (strOfNums l).size = 32 := by rw [strOfNums_size, hl]
  refine ⟨hsz, fun i h => ?_⟩
  have hi : i < 32 := by omega
  have hg := hg i hi
  have hl2 : i < l.length := by omega
  have h2 : (strOfNums l)[i]'h = UInt8.ofNat (l[i]'hl2).toNat := by
    simp [strOfNums, ByteArray.getElem_eq_getElem_data]
  rw [List.getElem?_eq_getElem hl2, Option.some.injEq] at hg
  rw [h2, hg]
  have h0 := byt_lo n (31 - i)
  have h1 := byt_hi n (31 - i)
  simp
  omega
theorem isBytes_bst (n : Nat) : IsBytes (bst n) n := by
  rw [bst_def]
  exact isBytes_list n _ (bys_length n 32) (bys_get n 32)
theorem isBytes_same {s t : ByteArray} {n : Nat} (hs : IsBytes s n) (ht : IsBytes t n) : s = t := by
  apply ByteArray.ext
  apply Array.ext
  · exact hs.1.trans ht.1.symm
  · intro i h1 h2
    have a := hs.2 i h1
    have b := ht.2 i h2
    rw [ByteArray.getElem_eq_getElem_data] at a b
    apply UInt8.toNat_inj.1
    omega
theorem bytes_of (s : ByteArray) (hs : s.size = 32) : ∃ n, n < RR ∧ IsBytes s n := by
  obtain ⟨n, hn, hb⟩ := of_bytes (fun j => if h : 31 - j < s.size then (s[31 - j]'h).toNat else 0) (fun j => by split; exact UInt8.toNat_lt _; omega) 32
  refine ⟨n, by unfold RR; exact hn, hs, fun i h => ?_⟩
  have := hb (31 - i) (by omega)
  rw [byt_def, this]
  have e : 31 - (31 - i) = i := by omega
  simp only [e, dif_pos h]
set_option maxHeartbeats 2000000 in
theorem bytes_walk (a : Nat) (s : ByteArray) (ha : a < RR) (hm : s.size ≤ maxLen) (w : World) : Calls Try.prog 3 #[num a, .string s] w fun e w' => e = .returned (.bool true) ∧ Below w.heap.size w w' := by
  have q1 := eqin_same
  have ib := isBytes_bst a
  by_cases hs : s.size = 32
  · obtain ⟨n, hn, is⟩ := bytes_of s hs
    have e : bst n = s := isBytes_same (isBytes_bst n) is
    have cn : ∀ w, Calls Try.prog 13 #[num n] w fun e w' => e = .returned (.string s) ∧ Below w.heap.size w w' := by rw [← e]; exact bytes_any n
    have hs0 := Lib.hid hs
    clear e hs hm
    go_enter Try.func3, Try.ntmps3
    go_wp2_with fail; (with_reducible refine (bytes_any a _).mono ?_); rintro e w1 ⟨rfl, h1⟩; have ka := (Blk.newAt (n := w.heap.size) _ _ _ (by first | rfl | simp)).after h1; have bw := below_call h1 (w := w) (by go_grown); obtain ⟨ka_c, ka_f, ka_l, ka_m, _⟩ := ka.knows
    go_wp2_with fail; (with_reducible refine (from_any n s is _).mono ?_); rintro e w2 ⟨rfl, h2⟩; clear ka_c ka_f ka_l ka_m; (first | replace ka := ka.after h2 | replace ka := (ka.alloc _).after h2 | replace ka := ((ka.alloc _).alloc _).after h2 | replace ka := ka.drew.after h2 | replace ka := (ka.alloc _).drew.after h2 | replace ka := (ka.drew.alloc _).after h2); have bwsz := Below.size bw; replace bw := below_call h2 (w := w) (by go_grown); clear h2 bwsz; obtain ⟨ka_c, ka_f, ka_l, ka_m, _⟩ := ka.knows
    go_wp2_with fail; (with_reducible refine (rfrom_any n s is _).mono ?_); rintro e w3 ⟨rfl, h3⟩; clear ka_c ka_f ka_l ka_m; (first | replace ka := ka.after h3 | replace ka := (ka.alloc _).after h3 | replace ka := ((ka.alloc _).alloc _).after h3 | replace ka := ka.drew.after h3 | replace ka := (ka.alloc _).drew.after h3 | replace ka := (ka.drew.alloc _).after h3); (first | have kn := (Blk.new _ _ _).after h3 | have kn := (Blk.new _ _ _).drew.after h3); have bwsz := Below.size bw; replace bw := below_call h3 (w := w) (by go_grown); clear h3 bwsz; obtain ⟨ka_c, ka_f, ka_l, ka_m, _⟩ := ka.knows; obtain ⟨kn_c, kn_f, kn_l, kn_m, _⟩ := kn.knows
    go_wp2_with fail; (with_reducible refine (from_any a (bst a) ib _).mono ?_); rintro e w4 ⟨rfl, h4⟩; clear ka_c ka_f ka_l ka_m kn_c kn_f kn_l kn_m; (first | replace ka := ka.after h4 | replace ka := (ka.alloc _).after h4 | replace ka := ((ka.alloc _).alloc _).after h4 | replace ka := ka.drew.after h4 | replace ka := (ka.alloc _).drew.after h4 | replace ka := (ka.drew.alloc _).after h4); (first | replace kn := kn.after h4 | replace kn := (kn.alloc _).after h4 | replace kn := ((kn.alloc _).alloc _).after h4 | replace kn := kn.drew.after h4 | replace kn := (kn.alloc _).drew.after h4 | replace kn := (kn.drew.alloc _).after h4); (first | have km := (Blk.new _ _ _).after h4 | have km := (Blk.new _ _ _).drew.after h4); have bwsz := Below.size bw; replace bw := below_call h4 (w := w) (by go_grown); clear h4 bwsz; obtain ⟨ka_c, ka_f, ka_l, ka_m, _⟩ := ka.knows; obtain ⟨kn_c, kn_f, kn_l, kn_m, _⟩ := kn.knows; obtain ⟨km_c, km_f, km_l, km_m, _⟩ := km.knows
    go_wp2_with fail; (with_reducible refine (rbytes_any a _).mono ?_); rintro e w5 ⟨rfl, h5⟩; clear ka_c ka_f ka_l ka_m kn_c kn_f kn_l kn_m km_c km_f km_l km_m; (first | replace ka := ka.after h5 | replace ka := (ka.alloc _).after h5 | replace ka := ((ka.alloc _).alloc _).after h5 | replace ka := ka.drew.after h5 | replace ka := (ka.alloc _).drew.after h5 | replace ka := (ka.drew.alloc _).after h5); (first | replace kn := kn.after h5 | replace kn := (kn.alloc _).after h5 | replace kn := ((kn.alloc _).alloc _).after h5 | replace kn := kn.drew.after h5 | replace kn := (kn.alloc _).drew.after h5 | replace kn := (kn.drew.alloc _).after h5); (first | replace km := km.after h5 | replace km := (km.alloc _).after h5 | replace km := ((km.alloc _).alloc _).after h5 | replace km := km.drew.after h5 | replace km := (km.alloc _).drew.after h5 | replace km := (km.drew.alloc _).after h5); (first | have kb := (Blk.new _ _ _).after h5 | have kb := (Blk.new _ _ _).drew.after h5); have bwsz := Below.size bw; replace bw := below_call h5 (w := w) (by go_grown); clear h5 bwsz; obtain ⟨ka_c, ka_f, ka_l, ka_m, _⟩ := ka.knows; obtain ⟨kn_c, kn_f, kn_l, kn_m, _⟩ := kn.knows; obtain ⟨km_c, km_f, km_l, km_m, _⟩ := km.knows; obtain ⟨kb_c, kb_f, kb_l, kb_m, _⟩ := kb.knows
    go_wp2_with fail; (with_reducible refine (cn _).mono ?_); rintro e w6 ⟨rfl, h6⟩; clear ka_c ka_f ka_l ka_m kn_c kn_f kn_l kn_m km_c km_f km_l km_m kb_c kb_f kb_l kb_m; (first | replace ka := ka.after h6 | replace ka := (ka.alloc _).after h6 | replace ka := ((ka.alloc _).alloc _).after h6 | replace ka := ka.drew.after h6 | replace ka := (ka.alloc _).drew.after h6 | replace ka := (ka.drew.alloc _).after h6); (first | replace kn := kn.after h6 | replace kn := (kn.alloc _).after h6 | replace kn := ((kn.alloc _).alloc _).after h6 | replace kn := kn.drew.after h6 | replace kn := (kn.alloc _).drew.after h6 | replace kn := (kn.drew.alloc _).after h6); (first | replace km := km.after h6 | replace km := (km.alloc _).after h6 | replace km := ((km.alloc _).alloc _).after h6 | replace km := km.drew.after h6 | replace km := (km.alloc _).drew.after h6 | replace km := (km.drew.alloc _).after h6); (first | replace kb := kb.after h6 | replace kb := (kb.alloc _).after h6 | replace kb := ((kb.alloc _).alloc _).after h6 | replace kb := kb.drew.after h6 | replace kb := (kb.alloc _).drew.after h6 | replace kb := (kb.drew.alloc _).after h6); have bwsz := Below.size bw; replace bw := below_call h6 (w := w) (by go_grown); clear h6 bwsz; obtain ⟨ka_c, ka_f, ka_l, ka_m, _⟩ := ka.knows; obtain ⟨kn_c, kn_f, kn_l, kn_m, _⟩ := kn.knows; obtain ⟨km_c, km_f, km_l, km_m, _⟩ := km.knows; obtain ⟨kb_c, kb_f, kb_l, kb_m, _⟩ := kb.knows
    go_wp2_with fail; (with_reducible refine (turns_any _).mono ?_); rintro e w7 ⟨rfl, h7⟩; clear ka_c ka_f ka_l ka_m kn_c kn_f kn_l kn_m km_c km_f km_l km_m kb_c kb_f kb_l kb_m; (first | replace ka := ka.after h7 | replace ka := (ka.alloc _).after h7 | replace ka := ((ka.alloc _).alloc _).after h7 | replace ka := ka.drew.after h7 | replace ka := (ka.alloc _).drew.after h7 | replace ka := (ka.drew.alloc _).after h7); (first | replace kn := kn.after h7 | replace kn := (kn.alloc _).after h7 | replace kn := ((kn.alloc _).alloc _).after h7 | replace kn := kn.drew.after h7 | replace kn := (kn.alloc _).drew.after h7 | replace kn := (kn.drew.alloc _).after h7); (first | replace km := km.after h7 | replace km := (km.alloc _).after h7 | replace km := ((km.alloc _).alloc _).after h7 | replace km := km.drew.after h7 | replace km := (km.alloc _).drew.after h7 | replace km := (km.drew.alloc _).after h7); (first | replace kb := kb.after h7 | replace kb := (kb.alloc _).after h7 | replace kb := ((kb.alloc _).alloc _).after h7 | replace kb := kb.drew.after h7 | replace kb := (kb.alloc _).drew.after h7 | replace kb := (kb.drew.alloc _).after h7); have bwsz := Below.size bw; replace bw := below_call h7 (w := w) (by go_grown); clear h7 bwsz; obtain ⟨ka_c, ka_f, ka_l, ka_m, _⟩ := ka.knows; obtain ⟨kn_c, kn_f, kn_l, kn_m, _⟩ := kn.knows; obtain ⟨km_c, km_f, km_l, km_m, _⟩ := km.knows; obtain ⟨kb_c, kb_f, kb_l, kb_m, _⟩ := kb.knows
    go_wp2
    go_ret
    exact ⟨rfl, bw⟩
  · go_enter Try.func3, Try.ntmps3
    go_wp2_with fail; (with_reducible refine (bytes_any a _).mono ?_); rintro e w1 ⟨rfl, h1⟩; have ka := (Blk.newAt (n := w.heap.size) _ _ _ (by first | rfl | simp)).after h1; have bw := below_call h1 (w := w) (by go_grown); obtain ⟨ka_c, ka_f, ka_l, ka_m, _⟩ := ka.knows
    go_wp2_with fail; (with_reducible refine (from_bad s hs hm _).mono ?_); rintro e w2 ⟨rfl, h2⟩; clear ka_c ka_f ka_l ka_m; (first | replace ka := ka.after h2 | replace ka := (ka.alloc _).after h2 | replace ka := ((ka.alloc _).alloc _).after h2 | replace ka := ka.drew.after h2 | replace ka := (ka.alloc _).drew.after h2 | replace ka := (ka.drew.alloc _).after h2); have bwsz := Below.size bw; replace bw := below_call h2 (w := w) (by go_grown); clear h2 bwsz; obtain ⟨ka_c, ka_f, ka_l, ka_m, _⟩ := ka.knows
    go_wp2_with fail; (with_reducible refine (rfrom_bad s hs hm _).mono ?_); rintro e w3 ⟨rfl, h3⟩; clear ka_c ka_f ka_l ka_m; (first | replace ka := ka.after h3 | replace ka := (ka.alloc _).after h3 | replace ka := ((ka.alloc _).alloc _).after h3 | replace ka := ka.drew.after h3 | replace ka := (ka.alloc _).drew.after h3 | replace ka := (ka.drew.alloc _).after h3); (first | have kn := (Blk.new _ _ _).after h3 | have kn := (Blk.new _ _ _).drew.after h3); have bwsz := Below.size bw; replace bw := below_call h3 (w := w) (by go_grown); clear h3 bwsz; obtain ⟨ka_c, ka_f, ka_l, ka_m, _⟩ := ka.knows; obtain ⟨kn_c, kn_f, kn_l, kn_m, _⟩ := kn.knows
    go_wp2_with fail; (with_reducible refine (from_any a (bst a) ib _).mono ?_); rintro e w4 ⟨rfl, h4⟩; clear ka_c ka_f ka_l ka_m kn_c kn_f kn_l kn_m; (first | replace ka := ka.after h4 | replace ka := (ka.alloc _).after h4 | replace ka := ((ka.alloc _).alloc _).after h4 | replace ka := ka.drew.after h4 | replace ka := (ka.alloc _).drew.after h4 | replace ka := (ka.drew.alloc _).after h4); (first | replace kn := kn.after h4 | replace kn := (kn.alloc _).after h4 | replace kn := ((kn.alloc _).alloc _).after h4 | replace kn := kn.drew.after h4 | replace kn := (kn.alloc _).drew.after h4 | replace kn := (kn.drew.alloc _).after h4); (first | have km := (Blk.new _ _ _).after h4 | have km := (Blk.new _ _ _).drew.after h4); have bwsz := Below.size bw; replace bw := below_call h4 (w := w) (by go_grown); clear h4 bwsz; obtain ⟨ka_c, ka_f, ka_l, ka_m, _⟩ := ka.knows; obtain ⟨kn_c, kn_f, kn_l, kn_m, _⟩ := kn.knows; obtain ⟨km_c, km_f, km_l, km_m, _⟩ := km.knows
    go_wp2_with fail; (with_reducible refine (rbytes_any a _).mono ?_); rintro e w5 ⟨rfl, h5⟩; clear ka_c ka_f ka_l ka_m kn_c kn_f kn_l kn_m km_c km_f km_l km_m; (first | replace ka := ka.after h5 | replace ka := (ka.alloc _).after h5 | replace ka := ((ka.alloc _).alloc _).after h5 | replace ka := ka.drew.after h5 | replace ka := (ka.alloc _).drew.after h5 | replace ka := (ka.drew.alloc _).after h5); (first | replace kn := kn.after h5 | replace kn := (kn.alloc _).after h5 | replace kn := ((kn.alloc _).alloc _).after h5 | replace kn := kn.drew.after h5 | replace kn := (kn.alloc _).drew.after h5 | replace kn := (kn.drew.alloc _).after h5); (first | replace km := km.after h5 | replace km := (km.alloc _).after h5 | replace km := ((km.alloc _).alloc _).after h5 | replace km := km.drew.after h5 | replace km := (km.alloc _).drew.after h5 | replace km := (km.drew.alloc _).after h5); (first | have kb := (Blk.new _ _ _).after h5 | have kb := (Blk.new _ _ _).drew.after h5); have bwsz := Below.size bw; replace bw := below_call h5 (w := w) (by go_grown); clear h5 bwsz; obtain ⟨ka_c, ka_f, ka_l, ka_m, _⟩ := ka.knows; obtain ⟨kn_c, kn_f, kn_l, kn_m, _⟩ := kn.knows; obtain ⟨km_c, km_f, km_l, km_m, _⟩ := km.knows; obtain ⟨kb_c, kb_f, kb_l, kb_m, _⟩ := kb.knows
    go_wp2_with fail; (with_reducible refine (turns_any _).mono ?_); rintro e w6 ⟨rfl, h6⟩; clear ka_c ka_f ka_l ka_m kn_c kn_f kn_l kn_m km_c km_f km_l km_m kb_c kb_f kb_l kb_m; (first | replace ka := ka.after h6 | replace ka := (ka.alloc _).after h6 | replace ka := ((ka.alloc _).alloc _).after h6 | replace ka := ka.drew.after h6 | replace ka := (ka.alloc _).drew.after h6 | replace ka := (ka.drew.alloc _).after h6); (first | replace kn := kn.after h6 | replace kn := (kn.alloc _).after h6 | replace kn := ((kn.alloc _).alloc _).after h6 | replace kn := kn.drew.after h6 | replace kn := (kn.alloc _).drew.after h6 | replace kn := (kn.drew.alloc _).after h6); (first | replace km := km.after h6 | replace km := (km.alloc _).after h6 | replace km := ((km.alloc _).alloc _).after h6 | replace km := km.drew.after h6 | replace km := (km.alloc _).drew.after h6 | replace km := (km.drew.alloc _).after h6); (first | replace kb := kb.after h6 | replace kb := (kb.alloc _).after h6 | replace kb := ((kb.alloc _).alloc _).after h6 | replace kb := kb.drew.after h6 | replace kb := (kb.alloc _).drew.after h6 | replace kb := (kb.drew.alloc _).after h6); have bwsz := Below.size bw; replace bw := below_call h6 (w := w) (by go_grown); clear h6 bwsz; obtain ⟨ka_c, ka_f, ka_l, ka_m, _⟩ := ka.knows; obtain ⟨kn_c, kn_f, kn_l, kn_m, _⟩ := kn.knows; obtain ⟨km_c, km_f, km_l, km_m, _⟩ := km.knows; obtain ⟨kb_c, kb_f, kb_l, kb_m, _⟩ := kb.knows
    go_wp2
    go_ret
    exact ⟨rfl, bw⟩
end Go.Proofs.Ytcoljlanblngiaa
