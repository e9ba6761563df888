/- Strings that are a number's bytes. -/
import Derived.Test.YtlibfjemdiochaaY1
namespace Go.Proofs.Ytlibfjemdiochaa
set_option linter.unusedVariables false
set_option linter.unusedSimpArgs false
open Go.RowKit Go.Proofs.YtlibfjemdiochaaW.PrintWords

theorem isBytes_list (n : Nat) (l : List Int) (hl : l.length = 32) (hg : ∀ i, i < 32 → l[i]? = some (byt n (31 - i))) : IsBytes (strOfNums l) n := by
  have hsz : (strOfNums l).size = 32 := by rw [strOfNums_size, hl]
  refine ⟨hsz, fun i h => ?_⟩
  have hi : i < 32 := by omega
  have hg := hg i hi
  have hl2 : i < l.length := by omega
  have h2 : (strOfNums l)[i]'h = UInt8.ofNat (l[i]'hl2).toNat := by
    simp [strOfNums, ByteArray.getElem_eq_getElem_data]
  rw [List.getElem?_eq_getElem hl2, Option.some.injEq] at hg
  rw [h2, hg]
  have h0 := byt_lo n (31 - i)
  have h1 := byt_hi n (31 - i)
  simp
  omega
theorem isBytes_bst (n : Nat) : IsBytes (bst n) n := by
  rw [bst_def]
  exact isBytes_list n _ (bys_length n 32) (bys_get n 32)
theorem isBytes_same {s t : ByteArray} {n : Nat} (hs : IsBytes s n) (ht : IsBytes t n) : s = t := by
  apply ByteArray.ext
  apply Array.ext
  · exact hs.1.trans ht.1.symm
  · intro i h1 h2
    have a := hs.2 i h1
    have b := ht.2 i h2
    rw [ByteArray.getElem_eq_getElem_data] at a b
    apply UInt8.toNat_inj.1
    omega
theorem bytes_of (s : ByteArray) (hs : s.size = 32) : ∃ n, n < RR ∧ IsBytes s n := by
  obtain ⟨n, hn, hb⟩ := of_bytes (fun j => if h : 31 - j < s.size then (s[31 - j]'h).toNat else 0) (fun j => by split; exact UInt8.toNat_lt _; omega) 32
  refine ⟨n, by unfold RR; exact hn, hs, fun i h => ?_⟩
  have := hb (31 - i) (by omega)
  rw [byt_def, this]
  have e : 31 - (31 - i) = i := by omega
  simp only [e, dif_pos h]
end Go.Proofs.Ytlibfjemdiochaa
