/-
  No cell of these rows narrows 'for every input' (looked for: loops, veiled, ifaces, maps, wideKeys, modest, calm, conditions, laid).
  DERIVED. THE GIVEN ROWS OF THIS SEAT. 11 by the template 'for every input the law returns true; each argument reads behind the call as it read before'; 0 by the template 'total and deterministic' (their statements: YtbmokmkaebfneaaTotals.lean).
  GIVEN WITH THE SEED: the statements are not yours to turn. If you find one false, say at which input.
  Laid BY PROGRAM, IN A SANDBOX (cutbox-rows.mjs): the forced cells as the released guide's own fill.sh prints them over the translation 492a3a1de2979104… (all of the seat's roots in one cut). By AI agents, Wed Nov 11 2026. No macro, syntax, notation, axiom, sorry.
-/
import Derived.Test.YtbmokmkaebfneaaChecked
import GoSem.Claim
import GoSem.ClaimJoined
import GoSem.ClaimMapViews
import Derived.JoinedTies
import Derived.KernelRfl
namespace Go.Proofs.Ytbmokmkaebfneaa
/- THE CELL 'sum', in the pinned program and in every row, IS THE sha256 OF THE DUMP (.gsa) THAT YtbmokmkaebfneaaProg.lean LOADS. Nothing in Lean hashes anything: it is a label: what it is worth is what the hold of that sum in a sandbox is worth. -/
noncomputable def Try.pinned : Pinned := { name := "ytbmokmkaebfneaa", sum := "492a3a1de29791042c2d6682f4b3ae66d199bb6e73ccfe74ae87415d0eb114f7", checked := Try.checked }
namespace Rows
def none {H : Type} : Left H := { results := [], args := [] }

/-- 'wardmotelaw28.AuditLeaks': WHATEVER THE INPUT: true; the input reads as it did. -/
def auditLeaksSpec : ChangeSpec := { name := "auditLeaks", fn := fun _ => fun
  | [d1, d2] => { results := [.lit (.bool true)], args := [d1, d2] }
  | _ => none }
def auditLeaksRow : OpenClaim := { program := "ytbmokmkaebfneaa", sum := "492a3a1de29791042c2d6682f4b3ae66d199bb6e73ccfe74ae87415d0eb114f7", func := "wardmote/wardmotelaw28.AuditLeaks", spec := "auditLeaks", inPlace := ["math/bits.Add64", "math/bits.Sub64"], unfollowed := true, recurses := true, plainKeys := false, apart := false }
def AuditLeaksSaid : Prop := auditLeaksRow.holds Try.pinned (OpenSpec.ofChange auditLeaksSpec)

/-- ITS FALSE NEIGHBOUR: 'it returns false'. Refute it at one input. -/
def auditLeaksWrong : ChangeSpec := { name := "auditLeaks", fn := fun _ => fun
  | [d1, d2] => { results := [.lit (.bool false)], args := [d1, d2] }
  | _ => none }
def AuditLeaksWrongFalsely : Prop := auditLeaksRow.holds Try.pinned (OpenSpec.ofChange auditLeaksWrong)

/-- 'wardmotelaw28.AuditGives': WHATEVER THE INPUT: true; the input reads as it did. -/
def auditGivesSpec : ChangeSpec := { name := "auditGives", fn := fun _ => fun
  | [d1, d2, d3] => { results := [.lit (.bool true)], args := [d1, d2, d3] }
  | _ => none }
def auditGivesRow : OpenClaim := { program := "ytbmokmkaebfneaa", sum := "492a3a1de29791042c2d6682f4b3ae66d199bb6e73ccfe74ae87415d0eb114f7", func := "wardmote/wardmotelaw28.AuditGives", spec := "auditGives", inPlace := ["math/bits.Add64", "math/bits.Sub64"], unfollowed := true, recurses := true, plainKeys := false, apart := false }
def AuditGivesSaid : Prop := auditGivesRow.holds Try.pinned (OpenSpec.ofChange auditGivesSpec)

/-- ITS FALSE NEIGHBOUR: 'it returns false'. Refute it at one input. -/
def auditGivesWrong : ChangeSpec := { name := "auditGives", fn := fun _ => fun
  | [d1, d2, d3] => { results := [.lit (.bool false)], args := [d1, d2, d3] }
  | _ => none }
def AuditGivesWrongFalsely : Prop := auditGivesRow.holds Try.pinned (OpenSpec.ofChange auditGivesWrong)

/-- 'wardmotelaw28.AuditFinds': WHATEVER THE INPUT: true; the input reads as it did. -/
def auditFindsSpec : ChangeSpec := { name := "auditFinds", fn := fun _ => fun
  | [d] => { results := [.lit (.bool true)], args := [d] }
  | _ => none }
def auditFindsRow : OpenClaim := { program := "ytbmokmkaebfneaa", sum := "492a3a1de29791042c2d6682f4b3ae66d199bb6e73ccfe74ae87415d0eb114f7", func := "wardmote/wardmotelaw28.AuditFinds", spec := "auditFinds", inPlace := ["math/bits.Add64", "math/bits.Sub64"], unfollowed := true, recurses := true, plainKeys := false, apart := false }
def AuditFindsSaid : Prop := auditFindsRow.holds Try.pinned (OpenSpec.ofChange auditFindsSpec)

/-- ITS FALSE NEIGHBOUR: 'it returns false'. Refute it at one input. -/
def auditFindsWrong : ChangeSpec := { name := "auditFinds", fn := fun _ => fun
  | [d] => { results := [.lit (.bool false)], args := [d] }
  | _ => none }
def AuditFindsWrongFalsely : Prop := auditFindsRow.holds Try.pinned (OpenSpec.ofChange auditFindsWrong)

/-- 'wardmotelaw28.AuditTwice': WHATEVER THE INPUT: true; the input reads as it did. -/
def auditTwiceSpec : ChangeSpec := { name := "auditTwice", fn := fun _ => fun
  | [d] => { results := [.lit (.bool true)], args := [d] }
  | _ => none }
def auditTwiceRow : OpenClaim := { program := "ytbmokmkaebfneaa", sum := "492a3a1de29791042c2d6682f4b3ae66d199bb6e73ccfe74ae87415d0eb114f7", func := "wardmote/wardmotelaw28.AuditTwice", spec := "auditTwice", inPlace := ["math/bits.Add64", "math/bits.Sub64"], unfollowed := true, recurses := true, plainKeys := false, apart := false }
def AuditTwiceSaid : Prop := auditTwiceRow.holds Try.pinned (OpenSpec.ofChange auditTwiceSpec)

/-- ITS FALSE NEIGHBOUR: 'it returns false'. Refute it at one input. -/
def auditTwiceWrong : ChangeSpec := { name := "auditTwice", fn := fun _ => fun
  | [d] => { results := [.lit (.bool false)], args := [d] }
  | _ => none }
def AuditTwiceWrongFalsely : Prop := auditTwiceRow.holds Try.pinned (OpenSpec.ofChange auditTwiceWrong)

/-- 'wardmotelaw06.ShareValues': WHATEVER THE INPUT: true; the input reads as it did. -/
def shareValuesSpec : ChangeSpec := { name := "shareValues", fn := fun _ => fun
  | [d1, d2, d3] => { results := [.lit (.bool true)], args := [d1, d2, d3] }
  | _ => none }
def shareValuesRow : OpenClaim := { program := "ytbmokmkaebfneaa", sum := "492a3a1de29791042c2d6682f4b3ae66d199bb6e73ccfe74ae87415d0eb114f7", func := "wardmote/wardmotelaw06.ShareValues", spec := "shareValues", inPlace := ["math/bits.Add64", "math/bits.Sub64"], unfollowed := true, recurses := true, plainKeys := false, apart := false }
def ShareValuesSaid : Prop := shareValuesRow.holds Try.pinned (OpenSpec.ofChange shareValuesSpec)

/-- ITS FALSE NEIGHBOUR: 'it returns false'. Refute it at one input. -/
def shareValuesWrong : ChangeSpec := { name := "shareValues", fn := fun _ => fun
  | [d1, d2, d3] => { results := [.lit (.bool false)], args := [d1, d2, d3] }
  | _ => none }
def ShareValuesWrongFalsely : Prop := shareValuesRow.holds Try.pinned (OpenSpec.ofChange shareValuesWrong)

/-- 'wardmotelaw06.ShareJoins': WHATEVER THE INPUT: true; the input reads as it did. -/
def shareJoinsSpec : ChangeSpec := { name := "shareJoins", fn := fun _ => fun
  | [d1, d2, d3] => { results := [.lit (.bool true)], args := [d1, d2, d3] }
  | _ => none }
def shareJoinsRow : OpenClaim := { program := "ytbmokmkaebfneaa", sum := "492a3a1de29791042c2d6682f4b3ae66d199bb6e73ccfe74ae87415d0eb114f7", func := "wardmote/wardmotelaw06.ShareJoins", spec := "shareJoins", inPlace := ["math/bits.Add64", "math/bits.Sub64"], unfollowed := true, recurses := true, plainKeys := false, apart := false }
def ShareJoinsSaid : Prop := shareJoinsRow.holds Try.pinned (OpenSpec.ofChange shareJoinsSpec)

/-- ITS FALSE NEIGHBOUR: 'it returns false'. Refute it at one input. -/
def shareJoinsWrong : ChangeSpec := { name := "shareJoins", fn := fun _ => fun
  | [d1, d2, d3] => { results := [.lit (.bool false)], args := [d1, d2, d3] }
  | _ => none }
def ShareJoinsWrongFalsely : Prop := shareJoinsRow.holds Try.pinned (OpenSpec.ofChange shareJoinsWrong)

/-- 'wardmotelaw06.ShareBack': WHATEVER THE INPUT: true; the input reads as it did. -/
def shareBackSpec : ChangeSpec := { name := "shareBack", fn := fun _ => fun
  | [d1, d2, d3] => { results := [.lit (.bool true)], args := [d1, d2, d3] }
  | _ => none }
def shareBackRow : OpenClaim := { program := "ytbmokmkaebfneaa", sum := "492a3a1de29791042c2d6682f4b3ae66d199bb6e73ccfe74ae87415d0eb114f7", func := "wardmote/wardmotelaw06.ShareBack", spec := "shareBack", inPlace := ["math/bits.Add64", "math/bits.Sub64"], unfollowed := true, recurses := true, plainKeys := false, apart := false }
def ShareBackSaid : Prop := shareBackRow.holds Try.pinned (OpenSpec.ofChange shareBackSpec)

/-- ITS FALSE NEIGHBOUR: 'it returns false'. Refute it at one input. -/
def shareBackWrong : ChangeSpec := { name := "shareBack", fn := fun _ => fun
  | [d1, d2, d3] => { results := [.lit (.bool false)], args := [d1, d2, d3] }
  | _ => none }
def ShareBackWrongFalsely : Prop := shareBackRow.holds Try.pinned (OpenSpec.ofChange shareBackWrong)

/-- 'wardmotelaw06.ShareHides': WHATEVER THE INPUT: true; the input reads as it did. -/
def shareHidesSpec : ChangeSpec := { name := "shareHides", fn := fun _ => fun
  | [d1, d2, d3] => { results := [.lit (.bool true)], args := [d1, d2, d3] }
  | _ => none }
def shareHidesRow : OpenClaim := { program := "ytbmokmkaebfneaa", sum := "492a3a1de29791042c2d6682f4b3ae66d199bb6e73ccfe74ae87415d0eb114f7", func := "wardmote/wardmotelaw06.ShareHides", spec := "shareHides", inPlace := ["math/bits.Add64", "math/bits.Sub64"], unfollowed := true, recurses := true, plainKeys := false, apart := false }
def ShareHidesSaid : Prop := shareHidesRow.holds Try.pinned (OpenSpec.ofChange shareHidesSpec)

/-- ITS FALSE NEIGHBOUR: 'it returns false'. Refute it at one input. -/
def shareHidesWrong : ChangeSpec := { name := "shareHides", fn := fun _ => fun
  | [d1, d2, d3] => { results := [.lit (.bool false)], args := [d1, d2, d3] }
  | _ => none }
def ShareHidesWrongFalsely : Prop := shareHidesRow.holds Try.pinned (OpenSpec.ofChange shareHidesWrong)

/-- 'wardmotelaw06.ShareOnes': WHATEVER THE INPUT: true; the input reads as it did. -/
def shareOnesSpec : ChangeSpec := { name := "shareOnes", fn := fun _ => fun
  | [d1, d2] => { results := [.lit (.bool true)], args := [d1, d2] }
  | _ => none }
def shareOnesRow : OpenClaim := { program := "ytbmokmkaebfneaa", sum := "492a3a1de29791042c2d6682f4b3ae66d199bb6e73ccfe74ae87415d0eb114f7", func := "wardmote/wardmotelaw06.ShareOnes", spec := "shareOnes", inPlace := ["math/bits.Add64", "math/bits.Sub64"], unfollowed := true, recurses := true, plainKeys := false, apart := false }
def ShareOnesSaid : Prop := shareOnesRow.holds Try.pinned (OpenSpec.ofChange shareOnesSpec)

/-- ITS FALSE NEIGHBOUR: 'it returns false'. Refute it at one input. -/
def shareOnesWrong : ChangeSpec := { name := "shareOnes", fn := fun _ => fun
  | [d1, d2] => { results := [.lit (.bool false)], args := [d1, d2] }
  | _ => none }
def ShareOnesWrongFalsely : Prop := shareOnesRow.holds Try.pinned (OpenSpec.ofChange shareOnesWrong)

/-- 'wardmotelaw06.ShareWeights': WHATEVER THE INPUT: true; the input reads as it did. -/
def shareWeightsSpec : ChangeSpec := { name := "shareWeights", fn := fun _ => fun
  | [d1, d2, d3] => { results := [.lit (.bool true)], args := [d1, d2, d3] }
  | _ => none }
def shareWeightsRow : OpenClaim := { program := "ytbmokmkaebfneaa", sum := "492a3a1de29791042c2d6682f4b3ae66d199bb6e73ccfe74ae87415d0eb114f7", func := "wardmote/wardmotelaw06.ShareWeights", spec := "shareWeights", inPlace := ["math/bits.Add64", "math/bits.Sub64"], unfollowed := true, recurses := true, plainKeys := false, apart := false }
def ShareWeightsSaid : Prop := shareWeightsRow.holds Try.pinned (OpenSpec.ofChange shareWeightsSpec)

/-- ITS FALSE NEIGHBOUR: 'it returns false'. Refute it at one input. -/
def shareWeightsWrong : ChangeSpec := { name := "shareWeights", fn := fun _ => fun
  | [d1, d2, d3] => { results := [.lit (.bool false)], args := [d1, d2, d3] }
  | _ => none }
def ShareWeightsWrongFalsely : Prop := shareWeightsRow.holds Try.pinned (OpenSpec.ofChange shareWeightsWrong)

/-- 'wardmotelaw06.ShareSums': WHATEVER THE INPUT: true; the input reads as it did. -/
def shareSumsSpec : ChangeSpec := { name := "shareSums", fn := fun _ => fun
  | [d1, d2] => { results := [.lit (.bool true)], args := [d1, d2] }
  | _ => none }
def shareSumsRow : OpenClaim := { program := "ytbmokmkaebfneaa", sum := "492a3a1de29791042c2d6682f4b3ae66d199bb6e73ccfe74ae87415d0eb114f7", func := "wardmote/wardmotelaw06.ShareSums", spec := "shareSums", inPlace := ["math/bits.Add64", "math/bits.Sub64"], unfollowed := true, recurses := true, plainKeys := false, apart := false }
def ShareSumsSaid : Prop := shareSumsRow.holds Try.pinned (OpenSpec.ofChange shareSumsSpec)

/-- ITS FALSE NEIGHBOUR: 'it returns false'. Refute it at one input. -/
def shareSumsWrong : ChangeSpec := { name := "shareSums", fn := fun _ => fun
  | [d1, d2] => { results := [.lit (.bool false)], args := [d1, d2] }
  | _ => none }
def ShareSumsWrongFalsely : Prop := shareSumsRow.holds Try.pinned (OpenSpec.ofChange shareSumsWrong)

/- THE SECOND FORM. 'bulk': how many values and letters a reading holds, each counted each time it is reached (what is shared counts as often as it is met; a slice's spare places count too). A statement '..UptoSaid' is the law's where the arguments, and the package variables that the reading takes, are together of bulk at most 1048576: NARROWER than '..Said'. Prove '..Said' where nothing that the law and all that it calls make is longer than what came in: it says more and counts as full. Else prove '..UptoSaid'. A law counts once. -/
mutual
def uptoBulk {H : Type} : DataW H → Nat
  | .lit (.string bytes) => bytes.length + 1
  | .lit _ => 1
  | .nil => 1
  | .ptr d => uptoBulk d + 1
  | .slice elems spare => uptoBulkAll elems + uptoBulkAll spare + 1
  | .agg parts => uptoBulkAll parts + 1
  | .iface _ d => uptoBulk d + 1
  | .map entries => uptoBulkEntries entries + 1
  | .held _ => 1
def uptoBulkAll {H : Type} : List (DataW H) → Nat
  | [] => 0
  | d :: r => uptoBulk d + uptoBulkAll r
def uptoBulkEntries {H : Type} : List (Lit × DataW H) → Nat
  | [] => 0
  | x :: r => uptoBulkEntry x + uptoBulkEntries r
def uptoBulkEntry {H : Type} : Lit × DataW H → Nat
  | (.string bytes, d) => bytes.length + uptoBulk d + 1
  | (_, d) => uptoBulk d + 1
 end
def uptoSmall : (H : Type) → List (DataW H) → Bool := fun _ ds => decide (uptoBulkAll ds ≤ 1048576)
def OpenSpec.upto (s : _root_.Go.ChangeSpec) : _root_.Go.OpenSpec := { _root_.Go.OpenSpec.ofChange s with cond := some uptoSmall }

/-- 'wardmotelaw28.AuditLeaks', WHERE WHAT IT READS IS OF BULK AT MOST 1048576: true; the input reads as it did. -/
def auditLeaksUptoRow : OpenClaim := { program := "ytbmokmkaebfneaa", sum := "492a3a1de29791042c2d6682f4b3ae66d199bb6e73ccfe74ae87415d0eb114f7", func := "wardmote/wardmotelaw28.AuditLeaks", spec := "auditLeaks", inPlace := ["math/bits.Add64", "math/bits.Sub64"], unfollowed := true, recurses := true, plainKeys := false, apart := false, narrowed := true }
def AuditLeaksUptoSaid : Prop := auditLeaksUptoRow.holds Try.pinned (OpenSpec.upto auditLeaksSpec)

/-- 'wardmotelaw28.AuditGives', WHERE WHAT IT READS IS OF BULK AT MOST 1048576: true; the input reads as it did. -/
def auditGivesUptoRow : OpenClaim := { program := "ytbmokmkaebfneaa", sum := "492a3a1de29791042c2d6682f4b3ae66d199bb6e73ccfe74ae87415d0eb114f7", func := "wardmote/wardmotelaw28.AuditGives", spec := "auditGives", inPlace := ["math/bits.Add64", "math/bits.Sub64"], unfollowed := true, recurses := true, plainKeys := false, apart := false, narrowed := true }
def AuditGivesUptoSaid : Prop := auditGivesUptoRow.holds Try.pinned (OpenSpec.upto auditGivesSpec)

/-- 'wardmotelaw28.AuditFinds', WHERE WHAT IT READS IS OF BULK AT MOST 1048576: true; the input reads as it did. -/
def auditFindsUptoRow : OpenClaim := { program := "ytbmokmkaebfneaa", sum := "492a3a1de29791042c2d6682f4b3ae66d199bb6e73ccfe74ae87415d0eb114f7", func := "wardmote/wardmotelaw28.AuditFinds", spec := "auditFinds", inPlace := ["math/bits.Add64", "math/bits.Sub64"], unfollowed := true, recurses := true, plainKeys := false, apart := false, narrowed := true }
def AuditFindsUptoSaid : Prop := auditFindsUptoRow.holds Try.pinned (OpenSpec.upto auditFindsSpec)

/-- 'wardmotelaw28.AuditTwice', WHERE WHAT IT READS IS OF BULK AT MOST 1048576: true; the input reads as it did. -/
def auditTwiceUptoRow : OpenClaim := { program := "ytbmokmkaebfneaa", sum := "492a3a1de29791042c2d6682f4b3ae66d199bb6e73ccfe74ae87415d0eb114f7", func := "wardmote/wardmotelaw28.AuditTwice", spec := "auditTwice", inPlace := ["math/bits.Add64", "math/bits.Sub64"], unfollowed := true, recurses := true, plainKeys := false, apart := false, narrowed := true }
def AuditTwiceUptoSaid : Prop := auditTwiceUptoRow.holds Try.pinned (OpenSpec.upto auditTwiceSpec)

/-- 'wardmotelaw06.ShareValues', WHERE WHAT IT READS IS OF BULK AT MOST 1048576: true; the input reads as it did. -/
def shareValuesUptoRow : OpenClaim := { program := "ytbmokmkaebfneaa", sum := "492a3a1de29791042c2d6682f4b3ae66d199bb6e73ccfe74ae87415d0eb114f7", func := "wardmote/wardmotelaw06.ShareValues", spec := "shareValues", inPlace := ["math/bits.Add64", "math/bits.Sub64"], unfollowed := true, recurses := true, plainKeys := false, apart := false, narrowed := true }
def ShareValuesUptoSaid : Prop := shareValuesUptoRow.holds Try.pinned (OpenSpec.upto shareValuesSpec)

/-- 'wardmotelaw06.ShareJoins', WHERE WHAT IT READS IS OF BULK AT MOST 1048576: true; the input reads as it did. -/
def shareJoinsUptoRow : OpenClaim := { program := "ytbmokmkaebfneaa", sum := "492a3a1de29791042c2d6682f4b3ae66d199bb6e73ccfe74ae87415d0eb114f7", func := "wardmote/wardmotelaw06.ShareJoins", spec := "shareJoins", inPlace := ["math/bits.Add64", "math/bits.Sub64"], unfollowed := true, recurses := true, plainKeys := false, apart := false, narrowed := true }
def ShareJoinsUptoSaid : Prop := shareJoinsUptoRow.holds Try.pinned (OpenSpec.upto shareJoinsSpec)

/-- 'wardmotelaw06.ShareBack', WHERE WHAT IT READS IS OF BULK AT MOST 1048576: true; the input reads as it did. -/
def shareBackUptoRow : OpenClaim := { program := "ytbmokmkaebfneaa", sum := "492a3a1de29791042c2d6682f4b3ae66d199bb6e73ccfe74ae87415d0eb114f7", func := "wardmote/wardmotelaw06.ShareBack", spec := "shareBack", inPlace := ["math/bits.Add64", "math/bits.Sub64"], unfollowed := true, recurses := true, plainKeys := false, apart := false, narrowed := true }
def ShareBackUptoSaid : Prop := shareBackUptoRow.holds Try.pinned (OpenSpec.upto shareBackSpec)

/-- 'wardmotelaw06.ShareHides', WHERE WHAT IT READS IS OF BULK AT MOST 1048576: true; the input reads as it did. -/
def shareHidesUptoRow : OpenClaim := { program := "ytbmokmkaebfneaa", sum := "492a3a1de29791042c2d6682f4b3ae66d199bb6e73ccfe74ae87415d0eb114f7", func := "wardmote/wardmotelaw06.ShareHides", spec := "shareHides", inPlace := ["math/bits.Add64", "math/bits.Sub64"], unfollowed := true, recurses := true, plainKeys := false, apart := false, narrowed := true }
def ShareHidesUptoSaid : Prop := shareHidesUptoRow.holds Try.pinned (OpenSpec.upto shareHidesSpec)

/-- 'wardmotelaw06.ShareOnes', WHERE WHAT IT READS IS OF BULK AT MOST 1048576: true; the input reads as it did. -/
def shareOnesUptoRow : OpenClaim := { program := "ytbmokmkaebfneaa", sum := "492a3a1de29791042c2d6682f4b3ae66d199bb6e73ccfe74ae87415d0eb114f7", func := "wardmote/wardmotelaw06.ShareOnes", spec := "shareOnes", inPlace := ["math/bits.Add64", "math/bits.Sub64"], unfollowed := true, recurses := true, plainKeys := false, apart := false, narrowed := true }
def ShareOnesUptoSaid : Prop := shareOnesUptoRow.holds Try.pinned (OpenSpec.upto shareOnesSpec)

/-- 'wardmotelaw06.ShareWeights', WHERE WHAT IT READS IS OF BULK AT MOST 1048576: true; the input reads as it did. -/
def shareWeightsUptoRow : OpenClaim := { program := "ytbmokmkaebfneaa", sum := "492a3a1de29791042c2d6682f4b3ae66d199bb6e73ccfe74ae87415d0eb114f7", func := "wardmote/wardmotelaw06.ShareWeights", spec := "shareWeights", inPlace := ["math/bits.Add64", "math/bits.Sub64"], unfollowed := true, recurses := true, plainKeys := false, apart := false, narrowed := true }
def ShareWeightsUptoSaid : Prop := shareWeightsUptoRow.holds Try.pinned (OpenSpec.upto shareWeightsSpec)

/-- 'wardmotelaw06.ShareSums', WHERE WHAT IT READS IS OF BULK AT MOST 1048576: true; the input reads as it did. -/
def shareSumsUptoRow : OpenClaim := { program := "ytbmokmkaebfneaa", sum := "492a3a1de29791042c2d6682f4b3ae66d199bb6e73ccfe74ae87415d0eb114f7", func := "wardmote/wardmotelaw06.ShareSums", spec := "shareSums", inPlace := ["math/bits.Add64", "math/bits.Sub64"], unfollowed := true, recurses := true, plainKeys := false, apart := false, narrowed := true }
def ShareSumsUptoSaid : Prop := shareSumsUptoRow.holds Try.pinned (OpenSpec.upto shareSumsSpec)

end Rows
end Go.Proofs.Ytbmokmkaebfneaa
