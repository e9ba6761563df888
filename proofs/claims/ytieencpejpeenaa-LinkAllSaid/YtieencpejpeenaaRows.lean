/-
  No cell of these rows narrows 'for every input' (looked for: loops, veiled, ifaces, maps, wideKeys, modest, calm, conditions, laid).
  DERIVED. THE GIVEN ROWS OF THIS SEAT. 8 by the template 'for every input the law returns true; each argument reads behind the call as it read before'; 0 by the template 'total and deterministic' (their statements: YtieencpejpeenaaTotals.lean).
  GIVEN WITH THE SEED: the statements are not yours to turn. If you find one false, say at which input.
  Laid BY PROGRAM, IN A SANDBOX (cutbox-rows.mjs): the forced cells as the released guide's own fill.sh prints them over the translation aaa145e5cf9502f5… (all of the seat's roots in one cut). By AI agents, Wed Nov 11 2026. No macro, syntax, notation, axiom, sorry.
-/
import Derived.Test.YtieencpejpeenaaChecked
import GoSem.Claim
import GoSem.ClaimJoined
import GoSem.ClaimMapViews
import Derived.JoinedTies
import Derived.KernelRfl
namespace Go.Proofs.Ytieencpejpeenaa
/- THE CELL 'sum', in the pinned program and in every row, IS THE sha256 OF THE DUMP (.gsa) THAT YtieencpejpeenaaProg.lean LOADS. Nothing in Lean hashes anything: it is a label: what it is worth is what the hold of that sum in a sandbox is worth. -/
noncomputable def Try.pinned : Pinned := { name := "ytieencpejpeenaa", sum := "aaa145e5cf9502f5f3c6c9100e0c06d8ab8217c69cfde9475b78eab3e9152d98", checked := Try.checked }
namespace Rows
def none {H : Type} : Left H := { results := [], args := [] }

/-- 'wardmotelaw09.ParcelPacks': WHATEVER THE INPUT: true; the input reads as it did. -/
def parcelPacksSpec : ChangeSpec := { name := "parcelPacks", fn := fun _ => fun
  | [d1, d2] => { results := [.lit (.bool true)], args := [d1, d2] }
  | _ => none }
def parcelPacksRow : OpenClaim := { program := "ytieencpejpeenaa", sum := "aaa145e5cf9502f5f3c6c9100e0c06d8ab8217c69cfde9475b78eab3e9152d98", func := "wardmote/wardmotelaw09.ParcelPacks", spec := "parcelPacks", apart := false }
def ParcelPacksSaid : Prop := parcelPacksRow.holds Try.pinned (OpenSpec.ofChange parcelPacksSpec)

/-- ITS FALSE NEIGHBOUR: 'it returns false'. Refute it at one input. -/
def parcelPacksWrong : ChangeSpec := { name := "parcelPacks", fn := fun _ => fun
  | [d1, d2] => { results := [.lit (.bool false)], args := [d1, d2] }
  | _ => none }
def ParcelPacksWrongFalsely : Prop := parcelPacksRow.holds Try.pinned (OpenSpec.ofChange parcelPacksWrong)

/-- 'wardmotelaw09.ParcelUnpacks': WHATEVER THE INPUT: true; the input reads as it did. -/
def parcelUnpacksSpec : ChangeSpec := { name := "parcelUnpacks", fn := fun _ => fun
  | [d] => { results := [.lit (.bool true)], args := [d] }
  | _ => none }
def parcelUnpacksRow : OpenClaim := { program := "ytieencpejpeenaa", sum := "aaa145e5cf9502f5f3c6c9100e0c06d8ab8217c69cfde9475b78eab3e9152d98", func := "wardmote/wardmotelaw09.ParcelUnpacks", spec := "parcelUnpacks", apart := false }
def ParcelUnpacksSaid : Prop := parcelUnpacksRow.holds Try.pinned (OpenSpec.ofChange parcelUnpacksSpec)

/-- ITS FALSE NEIGHBOUR: 'it returns false'. Refute it at one input. -/
def parcelUnpacksWrong : ChangeSpec := { name := "parcelUnpacks", fn := fun _ => fun
  | [d] => { results := [.lit (.bool false)], args := [d] }
  | _ => none }
def ParcelUnpacksWrongFalsely : Prop := parcelUnpacksRow.holds Try.pinned (OpenSpec.ofChange parcelUnpacksWrong)

/-- 'wardmotelaw09.ParcelBack': WHATEVER THE INPUT: true; the input reads as it did. -/
def parcelBackSpec : ChangeSpec := { name := "parcelBack", fn := fun _ => fun
  | [d1, d2, d3] => { results := [.lit (.bool true)], args := [d1, d2, d3] }
  | _ => none }
def parcelBackRow : OpenClaim := { program := "ytieencpejpeenaa", sum := "aaa145e5cf9502f5f3c6c9100e0c06d8ab8217c69cfde9475b78eab3e9152d98", func := "wardmote/wardmotelaw09.ParcelBack", spec := "parcelBack", apart := false }
def ParcelBackSaid : Prop := parcelBackRow.holds Try.pinned (OpenSpec.ofChange parcelBackSpec)

/-- ITS FALSE NEIGHBOUR: 'it returns false'. Refute it at one input. -/
def parcelBackWrong : ChangeSpec := { name := "parcelBack", fn := fun _ => fun
  | [d1, d2, d3] => { results := [.lit (.bool false)], args := [d1, d2, d3] }
  | _ => none }
def ParcelBackWrongFalsely : Prop := parcelBackRow.holds Try.pinned (OpenSpec.ofChange parcelBackWrong)

/-- 'wardmotelaw09.ParcelApart': WHATEVER THE INPUT: true; the input reads as it did. -/
def parcelApartSpec : ChangeSpec := { name := "parcelApart", fn := fun _ => fun
  | [d1, d2, d3] => { results := [.lit (.bool true)], args := [d1, d2, d3] }
  | _ => none }
def parcelApartRow : OpenClaim := { program := "ytieencpejpeenaa", sum := "aaa145e5cf9502f5f3c6c9100e0c06d8ab8217c69cfde9475b78eab3e9152d98", func := "wardmote/wardmotelaw09.ParcelApart", spec := "parcelApart", apart := false }
def ParcelApartSaid : Prop := parcelApartRow.holds Try.pinned (OpenSpec.ofChange parcelApartSpec)

/-- ITS FALSE NEIGHBOUR: 'it returns false'. Refute it at one input. -/
def parcelApartWrong : ChangeSpec := { name := "parcelApart", fn := fun _ => fun
  | [d1, d2, d3] => { results := [.lit (.bool false)], args := [d1, d2, d3] }
  | _ => none }
def ParcelApartWrongFalsely : Prop := parcelApartRow.holds Try.pinned (OpenSpec.ofChange parcelApartWrong)

/-- 'wardmotelaw09.ParcelInts': WHATEVER THE INPUT: true; the input reads as it did. -/
def parcelIntsSpec : ChangeSpec := { name := "parcelInts", fn := fun _ => fun
  | [d1, d2] => { results := [.lit (.bool true)], args := [d1, d2] }
  | _ => none }
def parcelIntsRow : OpenClaim := { program := "ytieencpejpeenaa", sum := "aaa145e5cf9502f5f3c6c9100e0c06d8ab8217c69cfde9475b78eab3e9152d98", func := "wardmote/wardmotelaw09.ParcelInts", spec := "parcelInts", apart := false }
def ParcelIntsSaid : Prop := parcelIntsRow.holds Try.pinned (OpenSpec.ofChange parcelIntsSpec)

/-- ITS FALSE NEIGHBOUR: 'it returns false'. Refute it at one input. -/
def parcelIntsWrong : ChangeSpec := { name := "parcelInts", fn := fun _ => fun
  | [d1, d2] => { results := [.lit (.bool false)], args := [d1, d2] }
  | _ => none }
def ParcelIntsWrongFalsely : Prop := parcelIntsRow.holds Try.pinned (OpenSpec.ofChange parcelIntsWrong)

/-- 'wardmotelaw12.LinkAll': WHATEVER THE INPUT: true; the input reads as it did. -/
def linkAllSpec : ChangeSpec := { name := "linkAll", fn := fun _ => fun
  | [d1, d2] => { results := [.lit (.bool true)], args := [d1, d2] }
  | _ => none }
def linkAllRow : OpenClaim := { program := "ytieencpejpeenaa", sum := "aaa145e5cf9502f5f3c6c9100e0c06d8ab8217c69cfde9475b78eab3e9152d98", func := "wardmote/wardmotelaw12.LinkAll", spec := "linkAll", apart := false }
def LinkAllSaid : Prop := linkAllRow.holds Try.pinned (OpenSpec.ofChange linkAllSpec)

/-- ITS FALSE NEIGHBOUR: 'it returns false'. Refute it at one input. -/
def linkAllWrong : ChangeSpec := { name := "linkAll", fn := fun _ => fun
  | [d1, d2] => { results := [.lit (.bool false)], args := [d1, d2] }
  | _ => none }
def LinkAllWrongFalsely : Prop := linkAllRow.holds Try.pinned (OpenSpec.ofChange linkAllWrong)

/-- 'wardmotelaw12.LinkTakes': WHATEVER THE INPUT: true; the input reads as it did. -/
def linkTakesSpec : ChangeSpec := { name := "linkTakes", fn := fun _ => fun
  | [d] => { results := [.lit (.bool true)], args := [d] }
  | _ => none }
def linkTakesRow : OpenClaim := { program := "ytieencpejpeenaa", sum := "aaa145e5cf9502f5f3c6c9100e0c06d8ab8217c69cfde9475b78eab3e9152d98", func := "wardmote/wardmotelaw12.LinkTakes", spec := "linkTakes", apart := false }
def LinkTakesSaid : Prop := linkTakesRow.holds Try.pinned (OpenSpec.ofChange linkTakesSpec)

/-- ITS FALSE NEIGHBOUR: 'it returns false'. Refute it at one input. -/
def linkTakesWrong : ChangeSpec := { name := "linkTakes", fn := fun _ => fun
  | [d] => { results := [.lit (.bool false)], args := [d] }
  | _ => none }
def LinkTakesWrongFalsely : Prop := linkTakesRow.holds Try.pinned (OpenSpec.ofChange linkTakesWrong)

/-- 'wardmotelaw12.LinkOnce': WHATEVER THE INPUT: true; the input reads as it did. -/
def linkOnceSpec : ChangeSpec := { name := "linkOnce", fn := fun _ => fun
  | [d] => { results := [.lit (.bool true)], args := [d] }
  | _ => none }
def linkOnceRow : OpenClaim := { program := "ytieencpejpeenaa", sum := "aaa145e5cf9502f5f3c6c9100e0c06d8ab8217c69cfde9475b78eab3e9152d98", func := "wardmote/wardmotelaw12.LinkOnce", spec := "linkOnce", apart := false }
def LinkOnceSaid : Prop := linkOnceRow.holds Try.pinned (OpenSpec.ofChange linkOnceSpec)

/-- ITS FALSE NEIGHBOUR: 'it returns false'. Refute it at one input. -/
def linkOnceWrong : ChangeSpec := { name := "linkOnce", fn := fun _ => fun
  | [d] => { results := [.lit (.bool false)], args := [d] }
  | _ => none }
def LinkOnceWrongFalsely : Prop := linkOnceRow.holds Try.pinned (OpenSpec.ofChange linkOnceWrong)

/- THE SECOND FORM. 'bulk': how many values and letters a reading holds, each counted each time it is reached (what is shared counts as often as it is met; a slice's spare places count too). A statement '..UptoSaid' is the law's where the arguments, and the package variables that the reading takes, are together of bulk at most 1048576: NARROWER than '..Said'. Prove '..Said' where nothing that the law and all that it calls make is longer than what came in: it says more and counts as full. Else prove '..UptoSaid'. A law counts once. -/
mutual
def uptoBulk {H : Type} : DataW H → Nat
  | .lit (.string bytes) => bytes.length + 1
  | .lit _ => 1
  | .nil => 1
  | .ptr d => uptoBulk d + 1
  | .slice elems spare => uptoBulkAll elems + uptoBulkAll spare + 1
  | .agg parts => uptoBulkAll parts + 1
  | .iface _ d => uptoBulk d + 1
  | .map entries => uptoBulkEntries entries + 1
  | .held _ => 1
def uptoBulkAll {H : Type} : List (DataW H) → Nat
  | [] => 0
  | d :: r => uptoBulk d + uptoBulkAll r
def uptoBulkEntries {H : Type} : List (Lit × DataW H) → Nat
  | [] => 0
  | x :: r => uptoBulkEntry x + uptoBulkEntries r
def uptoBulkEntry {H : Type} : Lit × DataW H → Nat
  | (.string bytes, d) => bytes.length + uptoBulk d + 1
  | (_, d) => uptoBulk d + 1
 end
def uptoSmall : (H : Type) → List (DataW H) → Bool := fun _ ds => decide (uptoBulkAll ds ≤ 1048576)
def OpenSpec.upto (s : _root_.Go.ChangeSpec) : _root_.Go.OpenSpec := { _root_.Go.OpenSpec.ofChange s with cond := some uptoSmall }

/-- 'wardmotelaw09.ParcelPacks', WHERE WHAT IT READS IS OF BULK AT MOST 1048576: true; the input reads as it did. -/
def parcelPacksUptoRow : OpenClaim := { program := "ytieencpejpeenaa", sum := "aaa145e5cf9502f5f3c6c9100e0c06d8ab8217c69cfde9475b78eab3e9152d98", func := "wardmote/wardmotelaw09.ParcelPacks", spec := "parcelPacks", apart := false, narrowed := true }
def ParcelPacksUptoSaid : Prop := parcelPacksUptoRow.holds Try.pinned (OpenSpec.upto parcelPacksSpec)

/-- 'wardmotelaw09.ParcelUnpacks', WHERE WHAT IT READS IS OF BULK AT MOST 1048576: true; the input reads as it did. -/
def parcelUnpacksUptoRow : OpenClaim := { program := "ytieencpejpeenaa", sum := "aaa145e5cf9502f5f3c6c9100e0c06d8ab8217c69cfde9475b78eab3e9152d98", func := "wardmote/wardmotelaw09.ParcelUnpacks", spec := "parcelUnpacks", apart := false, narrowed := true }
def ParcelUnpacksUptoSaid : Prop := parcelUnpacksUptoRow.holds Try.pinned (OpenSpec.upto parcelUnpacksSpec)

/-- 'wardmotelaw09.ParcelBack', WHERE WHAT IT READS IS OF BULK AT MOST 1048576: true; the input reads as it did. -/
def parcelBackUptoRow : OpenClaim := { program := "ytieencpejpeenaa", sum := "aaa145e5cf9502f5f3c6c9100e0c06d8ab8217c69cfde9475b78eab3e9152d98", func := "wardmote/wardmotelaw09.ParcelBack", spec := "parcelBack", apart := false, narrowed := true }
def ParcelBackUptoSaid : Prop := parcelBackUptoRow.holds Try.pinned (OpenSpec.upto parcelBackSpec)

/-- 'wardmotelaw09.ParcelApart', WHERE WHAT IT READS IS OF BULK AT MOST 1048576: true; the input reads as it did. -/
def parcelApartUptoRow : OpenClaim := { program := "ytieencpejpeenaa", sum := "aaa145e5cf9502f5f3c6c9100e0c06d8ab8217c69cfde9475b78eab3e9152d98", func := "wardmote/wardmotelaw09.ParcelApart", spec := "parcelApart", apart := false, narrowed := true }
def ParcelApartUptoSaid : Prop := parcelApartUptoRow.holds Try.pinned (OpenSpec.upto parcelApartSpec)

/-- 'wardmotelaw09.ParcelInts', WHERE WHAT IT READS IS OF BULK AT MOST 1048576: true; the input reads as it did. -/
def parcelIntsUptoRow : OpenClaim := { program := "ytieencpejpeenaa", sum := "aaa145e5cf9502f5f3c6c9100e0c06d8ab8217c69cfde9475b78eab3e9152d98", func := "wardmote/wardmotelaw09.ParcelInts", spec := "parcelInts", apart := false, narrowed := true }
def ParcelIntsUptoSaid : Prop := parcelIntsUptoRow.holds Try.pinned (OpenSpec.upto parcelIntsSpec)

/-- 'wardmotelaw12.LinkAll', WHERE WHAT IT READS IS OF BULK AT MOST 1048576: true; the input reads as it did. -/
def linkAllUptoRow : OpenClaim := { program := "ytieencpejpeenaa", sum := "aaa145e5cf9502f5f3c6c9100e0c06d8ab8217c69cfde9475b78eab3e9152d98", func := "wardmote/wardmotelaw12.LinkAll", spec := "linkAll", apart := false, narrowed := true }
def LinkAllUptoSaid : Prop := linkAllUptoRow.holds Try.pinned (OpenSpec.upto linkAllSpec)

/-- 'wardmotelaw12.LinkTakes', WHERE WHAT IT READS IS OF BULK AT MOST 1048576: true; the input reads as it did. -/
def linkTakesUptoRow : OpenClaim := { program := "ytieencpejpeenaa", sum := "aaa145e5cf9502f5f3c6c9100e0c06d8ab8217c69cfde9475b78eab3e9152d98", func := "wardmote/wardmotelaw12.LinkTakes", spec := "linkTakes", apart := false, narrowed := true }
def LinkTakesUptoSaid : Prop := linkTakesUptoRow.holds Try.pinned (OpenSpec.upto linkTakesSpec)

/-- 'wardmotelaw12.LinkOnce', WHERE WHAT IT READS IS OF BULK AT MOST 1048576: true; the input reads as it did. -/
def linkOnceUptoRow : OpenClaim := { program := "ytieencpejpeenaa", sum := "aaa145e5cf9502f5f3c6c9100e0c06d8ab8217c69cfde9475b78eab3e9152d98", func := "wardmote/wardmotelaw12.LinkOnce", spec := "linkOnce", apart := false, narrowed := true }
def LinkOnceUptoSaid : Prop := linkOnceUptoRow.holds Try.pinned (OpenSpec.upto linkOnceSpec)

end Rows
end Go.Proofs.Ytieencpejpeenaa
