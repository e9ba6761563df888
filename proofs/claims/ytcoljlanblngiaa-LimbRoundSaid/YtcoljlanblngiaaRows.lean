/-
  No cell of these rows narrows 'for every input' (looked for: loops, veiled, ifaces, maps, wideKeys, modest, calm, conditions, laid).
  DERIVED. THE GIVEN ROWS OF THIS SEAT. 10 by the template 'for every input the law returns true; each argument reads behind the call as it read before'; 0 by the template 'total and deterministic' (their statements: YtcoljlanblngiaaTotals.lean).
  GIVEN WITH THE SEED: the statements are not yours to turn. If you find one false, say at which input.
  Laid BY PROGRAM, IN A SANDBOX (cutbox-rows.mjs): the forced cells as the released guide's own fill.sh prints them over the translation f65631141f33d8ed… (all of the seat's roots in one cut). By AI agents, Wed Nov 11 2026. No macro, syntax, notation, axiom, sorry.
-/
import Derived.Test.YtcoljlanblngiaaChecked
import GoSem.Claim
import GoSem.ClaimJoined
import GoSem.ClaimMapViews
import Derived.JoinedTies
import Derived.KernelRfl
namespace Go.Proofs.Ytcoljlanblngiaa
/- THE CELL 'sum', in the pinned program and in every row, IS THE sha256 OF THE DUMP (.gsa) THAT YtcoljlanblngiaaProg.lean LOADS. Nothing in Lean hashes anything: it is a label: what it is worth is what the hold of that sum in a sandbox is worth. -/
noncomputable def Try.pinned : Pinned := { name := "ytcoljlanblngiaa", sum := "f65631141f33d8ed39a37cf366ca63f9dfc3fa013d99412d4575b8fc24c67251", checked := Try.checked }
namespace Rows
def none {H : Type} : Left H := { results := [], args := [] }

/-- 'wardmotelaw01.LimbBytes': WHATEVER THE INPUT: true; the input reads as it did. -/
def limbBytesSpec : ChangeSpec := { name := "limbBytes", fn := fun _ => fun
  | [d1, d2] => { results := [.lit (.bool true)], args := [d1, d2] }
  | _ => none }
def limbBytesRow : OpenClaim := { program := "ytcoljlanblngiaa", sum := "f65631141f33d8ed39a37cf366ca63f9dfc3fa013d99412d4575b8fc24c67251", func := "wardmote/wardmotelaw01.LimbBytes", spec := "limbBytes", inPlace := ["math/bits.Add64"], apart := false }
def LimbBytesSaid : Prop := limbBytesRow.holds Try.pinned (OpenSpec.ofChange limbBytesSpec)

/-- ITS FALSE NEIGHBOUR: 'it returns false'. Refute it at one input. -/
def limbBytesWrong : ChangeSpec := { name := "limbBytes", fn := fun _ => fun
  | [d1, d2] => { results := [.lit (.bool false)], args := [d1, d2] }
  | _ => none }
def LimbBytesWrongFalsely : Prop := limbBytesRow.holds Try.pinned (OpenSpec.ofChange limbBytesWrong)

/-- 'wardmotelaw01.LimbSums': WHATEVER THE INPUT: true; the input reads as it did. -/
def limbSumsSpec : ChangeSpec := { name := "limbSums", fn := fun _ => fun
  | [d1, d2] => { results := [.lit (.bool true)], args := [d1, d2] }
  | _ => none }
def limbSumsRow : OpenClaim := { program := "ytcoljlanblngiaa", sum := "f65631141f33d8ed39a37cf366ca63f9dfc3fa013d99412d4575b8fc24c67251", func := "wardmote/wardmotelaw01.LimbSums", spec := "limbSums", inPlace := ["math/bits.Add64", "math/bits.Sub64"], apart := false }
def LimbSumsSaid : Prop := limbSumsRow.holds Try.pinned (OpenSpec.ofChange limbSumsSpec)

/-- ITS FALSE NEIGHBOUR: 'it returns false'. Refute it at one input. -/
def limbSumsWrong : ChangeSpec := { name := "limbSums", fn := fun _ => fun
  | [d1, d2] => { results := [.lit (.bool false)], args := [d1, d2] }
  | _ => none }
def LimbSumsWrongFalsely : Prop := limbSumsRow.holds Try.pinned (OpenSpec.ofChange limbSumsWrong)

/-- 'wardmotelaw01.LimbProducts': WHATEVER THE INPUT: true; the input reads as it did. -/
def limbProductsSpec : ChangeSpec := { name := "limbProducts", fn := fun _ => fun
  | [d1, d2] => { results := [.lit (.bool true)], args := [d1, d2] }
  | _ => none }
def limbProductsRow : OpenClaim := { program := "ytcoljlanblngiaa", sum := "f65631141f33d8ed39a37cf366ca63f9dfc3fa013d99412d4575b8fc24c67251", func := "wardmote/wardmotelaw01.LimbProducts", spec := "limbProducts", inPlace := ["math/bits.Add64"], apart := false }
def LimbProductsSaid : Prop := limbProductsRow.holds Try.pinned (OpenSpec.ofChange limbProductsSpec)

/-- ITS FALSE NEIGHBOUR: 'it returns false'. Refute it at one input. -/
def limbProductsWrong : ChangeSpec := { name := "limbProducts", fn := fun _ => fun
  | [d1, d2] => { results := [.lit (.bool false)], args := [d1, d2] }
  | _ => none }
def LimbProductsWrongFalsely : Prop := limbProductsRow.holds Try.pinned (OpenSpec.ofChange limbProductsWrong)

/-- 'wardmotelaw01.LimbOrder': WHATEVER THE INPUT: true; the input reads as it did. -/
def limbOrderSpec : ChangeSpec := { name := "limbOrder", fn := fun _ => fun
  | [d1, d2] => { results := [.lit (.bool true)], args := [d1, d2] }
  | _ => none }
def limbOrderRow : OpenClaim := { program := "ytcoljlanblngiaa", sum := "f65631141f33d8ed39a37cf366ca63f9dfc3fa013d99412d4575b8fc24c67251", func := "wardmote/wardmotelaw01.LimbOrder", spec := "limbOrder", inPlace := ["math/bits.Sub64", "math/bits.Add64"], unfollowed := true, recurses := true, apart := false }
def LimbOrderSaid : Prop := limbOrderRow.holds Try.pinned (OpenSpec.ofChange limbOrderSpec)

/-- ITS FALSE NEIGHBOUR: 'it returns false'. Refute it at one input. -/
def limbOrderWrong : ChangeSpec := { name := "limbOrder", fn := fun _ => fun
  | [d1, d2] => { results := [.lit (.bool false)], args := [d1, d2] }
  | _ => none }
def LimbOrderWrongFalsely : Prop := limbOrderRow.holds Try.pinned (OpenSpec.ofChange limbOrderWrong)

/-- 'wardmotelaw01.LimbPicks': WHATEVER THE INPUT: true; the input reads as it did. -/
def limbPicksSpec : ChangeSpec := { name := "limbPicks", fn := fun _ => fun
  | [d1, d2, d3] => { results := [.lit (.bool true)], args := [d1, d2, d3] }
  | _ => none }
def limbPicksRow : OpenClaim := { program := "ytcoljlanblngiaa", sum := "f65631141f33d8ed39a37cf366ca63f9dfc3fa013d99412d4575b8fc24c67251", func := "wardmote/wardmotelaw01.LimbPicks", spec := "limbPicks", inPlace := ["math/bits.Sub64", "math/bits.Add64"], unfollowed := true, recurses := true, apart := false }
def LimbPicksSaid : Prop := limbPicksRow.holds Try.pinned (OpenSpec.ofChange limbPicksSpec)

/-- ITS FALSE NEIGHBOUR: 'it returns false'. Refute it at one input. -/
def limbPicksWrong : ChangeSpec := { name := "limbPicks", fn := fun _ => fun
  | [d1, d2, d3] => { results := [.lit (.bool false)], args := [d1, d2, d3] }
  | _ => none }
def LimbPicksWrongFalsely : Prop := limbPicksRow.holds Try.pinned (OpenSpec.ofChange limbPicksWrong)

/-- 'wardmotelaw01.LimbRests': WHATEVER THE INPUT: true; the input reads as it did. -/
def limbRestsSpec : ChangeSpec := { name := "limbRests", fn := fun _ => fun
  | [d1, d2] => { results := [.lit (.bool true)], args := [d1, d2] }
  | _ => none }
def limbRestsRow : OpenClaim := { program := "ytcoljlanblngiaa", sum := "f65631141f33d8ed39a37cf366ca63f9dfc3fa013d99412d4575b8fc24c67251", func := "wardmote/wardmotelaw01.LimbRests", spec := "limbRests", inPlace := ["math/bits.Add64", "math/bits.Sub64"], apart := false }
def LimbRestsSaid : Prop := limbRestsRow.holds Try.pinned (OpenSpec.ofChange limbRestsSpec)

/-- ITS FALSE NEIGHBOUR: 'it returns false'. Refute it at one input. -/
def limbRestsWrong : ChangeSpec := { name := "limbRests", fn := fun _ => fun
  | [d1, d2] => { results := [.lit (.bool false)], args := [d1, d2] }
  | _ => none }
def LimbRestsWrongFalsely : Prop := limbRestsRow.holds Try.pinned (OpenSpec.ofChange limbRestsWrong)

/-- 'wardmotelaw01.LimbRules': WHATEVER THE INPUT: true; the input reads as it did. -/
def limbRulesSpec : ChangeSpec := { name := "limbRules", fn := fun _ => fun
  | [d1, d2, d3] => { results := [.lit (.bool true)], args := [d1, d2, d3] }
  | _ => none }
def limbRulesRow : OpenClaim := { program := "ytcoljlanblngiaa", sum := "f65631141f33d8ed39a37cf366ca63f9dfc3fa013d99412d4575b8fc24c67251", func := "wardmote/wardmotelaw01.LimbRules", spec := "limbRules", inPlace := ["math/bits.Add64", "math/bits.Sub64"], apart := false }
def LimbRulesSaid : Prop := limbRulesRow.holds Try.pinned (OpenSpec.ofChange limbRulesSpec)

/-- ITS FALSE NEIGHBOUR: 'it returns false'. Refute it at one input. -/
def limbRulesWrong : ChangeSpec := { name := "limbRules", fn := fun _ => fun
  | [d1, d2, d3] => { results := [.lit (.bool false)], args := [d1, d2, d3] }
  | _ => none }
def LimbRulesWrongFalsely : Prop := limbRulesRow.holds Try.pinned (OpenSpec.ofChange limbRulesWrong)

/-- 'wardmotelaw01.LimbNil': WHATEVER THE INPUT: true; the input reads as it did. -/
def limbNilSpec : ChangeSpec := { name := "limbNil", fn := fun _ => fun
  | [d1, d2] => { results := [.lit (.bool true)], args := [d1, d2] }
  | _ => none }
def limbNilRow : OpenClaim := { program := "ytcoljlanblngiaa", sum := "f65631141f33d8ed39a37cf366ca63f9dfc3fa013d99412d4575b8fc24c67251", func := "wardmote/wardmotelaw01.LimbNil", spec := "limbNil", inPlace := ["math/bits.Sub64", "math/bits.Add64"], apart := false }
def LimbNilSaid : Prop := limbNilRow.holds Try.pinned (OpenSpec.ofChange limbNilSpec)

/-- ITS FALSE NEIGHBOUR: 'it returns false'. Refute it at one input. -/
def limbNilWrong : ChangeSpec := { name := "limbNil", fn := fun _ => fun
  | [d1, d2] => { results := [.lit (.bool false)], args := [d1, d2] }
  | _ => none }
def LimbNilWrongFalsely : Prop := limbNilRow.holds Try.pinned (OpenSpec.ofChange limbNilWrong)

/-- 'wardmotelaw01.LimbMonts': WHATEVER THE INPUT: true; the input reads as it did. -/
def limbMontsSpec : ChangeSpec := { name := "limbMonts", fn := fun _ => fun
  | [d1, d2, d3] => { results := [.lit (.bool true)], args := [d1, d2, d3] }
  | _ => none }
def limbMontsRow : OpenClaim := { program := "ytcoljlanblngiaa", sum := "f65631141f33d8ed39a37cf366ca63f9dfc3fa013d99412d4575b8fc24c67251", func := "wardmote/wardmotelaw01.LimbMonts", spec := "limbMonts", inPlace := ["math/bits.Add64", "math/bits.Sub64"], apart := false }
def LimbMontsSaid : Prop := limbMontsRow.holds Try.pinned (OpenSpec.ofChange limbMontsSpec)

/-- ITS FALSE NEIGHBOUR: 'it returns false'. Refute it at one input. -/
def limbMontsWrong : ChangeSpec := { name := "limbMonts", fn := fun _ => fun
  | [d1, d2, d3] => { results := [.lit (.bool false)], args := [d1, d2, d3] }
  | _ => none }
def LimbMontsWrongFalsely : Prop := limbMontsRow.holds Try.pinned (OpenSpec.ofChange limbMontsWrong)

/-- 'wardmotelaw01.LimbRound': WHATEVER THE INPUT: true; the input reads as it did. -/
def limbRoundSpec : ChangeSpec := { name := "limbRound", fn := fun _ => fun
  | [d1, d2, d3] => { results := [.lit (.bool true)], args := [d1, d2, d3] }
  | _ => none }
def limbRoundRow : OpenClaim := { program := "ytcoljlanblngiaa", sum := "f65631141f33d8ed39a37cf366ca63f9dfc3fa013d99412d4575b8fc24c67251", func := "wardmote/wardmotelaw01.LimbRound", spec := "limbRound", inPlace := ["math/bits.Add64", "math/bits.Sub64"], apart := false }
def LimbRoundSaid : Prop := limbRoundRow.holds Try.pinned (OpenSpec.ofChange limbRoundSpec)

/-- ITS FALSE NEIGHBOUR: 'it returns false'. Refute it at one input. -/
def limbRoundWrong : ChangeSpec := { name := "limbRound", fn := fun _ => fun
  | [d1, d2, d3] => { results := [.lit (.bool false)], args := [d1, d2, d3] }
  | _ => none }
def LimbRoundWrongFalsely : Prop := limbRoundRow.holds Try.pinned (OpenSpec.ofChange limbRoundWrong)

/- THE SECOND FORM. 'bulk': how many values and letters a reading holds, each counted each time it is reached (what is shared counts as often as it is met; a slice's spare places count too). A statement '..UptoSaid' is the law's where the arguments, and the package variables that the reading takes, are together of bulk at most 1048576: NARROWER than '..Said'. Prove '..Said' where nothing that the law and all that it calls make is longer than what came in: it says more and counts as full. Else prove '..UptoSaid'. A law counts once. -/
mutual
def uptoBulk {H : Type} : DataW H → Nat
  | .lit (.string bytes) => bytes.length + 1
  | .lit _ => 1
  | .nil => 1
  | .ptr d => uptoBulk d + 1
  | .slice elems spare => uptoBulkAll elems + uptoBulkAll spare + 1
  | .agg parts => uptoBulkAll parts + 1
  | .iface _ d => uptoBulk d + 1
  | .map entries => uptoBulkEntries entries + 1
  | .held _ => 1
def uptoBulkAll {H : Type} : List (DataW H) → Nat
  | [] => 0
  | d :: r => uptoBulk d + uptoBulkAll r
def uptoBulkEntries {H : Type} : List (Lit × DataW H) → Nat
  | [] => 0
  | x :: r => uptoBulkEntry x + uptoBulkEntries r
def uptoBulkEntry {H : Type} : Lit × DataW H → Nat
  | (.string bytes, d) => bytes.length + uptoBulk d + 1
  | (_, d) => uptoBulk d + 1
 end
def uptoSmall : (H : Type) → List (DataW H) → Bool := fun _ ds => decide (uptoBulkAll ds ≤ 1048576)
def OpenSpec.upto (s : _root_.Go.ChangeSpec) : _root_.Go.OpenSpec := { _root_.Go.OpenSpec.ofChange s with cond := some uptoSmall }

/-- 'wardmotelaw01.LimbBytes', WHERE WHAT IT READS IS OF BULK AT MOST 1048576: true; the input reads as it did. -/
def limbBytesUptoRow : OpenClaim := { program := "ytcoljlanblngiaa", sum := "f65631141f33d8ed39a37cf366ca63f9dfc3fa013d99412d4575b8fc24c67251", func := "wardmote/wardmotelaw01.LimbBytes", spec := "limbBytes", inPlace := ["math/bits.Add64"], apart := false, narrowed := true }
def LimbBytesUptoSaid : Prop := limbBytesUptoRow.holds Try.pinned (OpenSpec.upto limbBytesSpec)

/-- 'wardmotelaw01.LimbSums', WHERE WHAT IT READS IS OF BULK AT MOST 1048576: true; the input reads as it did. -/
def limbSumsUptoRow : OpenClaim := { program := "ytcoljlanblngiaa", sum := "f65631141f33d8ed39a37cf366ca63f9dfc3fa013d99412d4575b8fc24c67251", func := "wardmote/wardmotelaw01.LimbSums", spec := "limbSums", inPlace := ["math/bits.Add64", "math/bits.Sub64"], apart := false, narrowed := true }
def LimbSumsUptoSaid : Prop := limbSumsUptoRow.holds Try.pinned (OpenSpec.upto limbSumsSpec)

/-- 'wardmotelaw01.LimbProducts', WHERE WHAT IT READS IS OF BULK AT MOST 1048576: true; the input reads as it did. -/
def limbProductsUptoRow : OpenClaim := { program := "ytcoljlanblngiaa", sum := "f65631141f33d8ed39a37cf366ca63f9dfc3fa013d99412d4575b8fc24c67251", func := "wardmote/wardmotelaw01.LimbProducts", spec := "limbProducts", inPlace := ["math/bits.Add64"], apart := false, narrowed := true }
def LimbProductsUptoSaid : Prop := limbProductsUptoRow.holds Try.pinned (OpenSpec.upto limbProductsSpec)

/-- 'wardmotelaw01.LimbOrder', WHERE WHAT IT READS IS OF BULK AT MOST 1048576: true; the input reads as it did. -/
def limbOrderUptoRow : OpenClaim := { program := "ytcoljlanblngiaa", sum := "f65631141f33d8ed39a37cf366ca63f9dfc3fa013d99412d4575b8fc24c67251", func := "wardmote/wardmotelaw01.LimbOrder", spec := "limbOrder", inPlace := ["math/bits.Sub64", "math/bits.Add64"], unfollowed := true, recurses := true, apart := false, narrowed := true }
def LimbOrderUptoSaid : Prop := limbOrderUptoRow.holds Try.pinned (OpenSpec.upto limbOrderSpec)

/-- 'wardmotelaw01.LimbPicks', WHERE WHAT IT READS IS OF BULK AT MOST 1048576: true; the input reads as it did. -/
def limbPicksUptoRow : OpenClaim := { program := "ytcoljlanblngiaa", sum := "f65631141f33d8ed39a37cf366ca63f9dfc3fa013d99412d4575b8fc24c67251", func := "wardmote/wardmotelaw01.LimbPicks", spec := "limbPicks", inPlace := ["math/bits.Sub64", "math/bits.Add64"], unfollowed := true, recurses := true, apart := false, narrowed := true }
def LimbPicksUptoSaid : Prop := limbPicksUptoRow.holds Try.pinned (OpenSpec.upto limbPicksSpec)

/-- 'wardmotelaw01.LimbRests', WHERE WHAT IT READS IS OF BULK AT MOST 1048576: true; the input reads as it did. -/
def limbRestsUptoRow : OpenClaim := { program := "ytcoljlanblngiaa", sum := "f65631141f33d8ed39a37cf366ca63f9dfc3fa013d99412d4575b8fc24c67251", func := "wardmote/wardmotelaw01.LimbRests", spec := "limbRests", inPlace := ["math/bits.Add64", "math/bits.Sub64"], apart := false, narrowed := true }
def LimbRestsUptoSaid : Prop := limbRestsUptoRow.holds Try.pinned (OpenSpec.upto limbRestsSpec)

/-- 'wardmotelaw01.LimbRules', WHERE WHAT IT READS IS OF BULK AT MOST 1048576: true; the input reads as it did. -/
def limbRulesUptoRow : OpenClaim := { program := "ytcoljlanblngiaa", sum := "f65631141f33d8ed39a37cf366ca63f9dfc3fa013d99412d4575b8fc24c67251", func := "wardmote/wardmotelaw01.LimbRules", spec := "limbRules", inPlace := ["math/bits.Add64", "math/bits.Sub64"], apart := false, narrowed := true }
def LimbRulesUptoSaid : Prop := limbRulesUptoRow.holds Try.pinned (OpenSpec.upto limbRulesSpec)

/-- 'wardmotelaw01.LimbNil', WHERE WHAT IT READS IS OF BULK AT MOST 1048576: true; the input reads as it did. -/
def limbNilUptoRow : OpenClaim := { program := "ytcoljlanblngiaa", sum := "f65631141f33d8ed39a37cf366ca63f9dfc3fa013d99412d4575b8fc24c67251", func := "wardmote/wardmotelaw01.LimbNil", spec := "limbNil", inPlace := ["math/bits.Sub64", "math/bits.Add64"], apart := false, narrowed := true }
def LimbNilUptoSaid : Prop := limbNilUptoRow.holds Try.pinned (OpenSpec.upto limbNilSpec)

/-- 'wardmotelaw01.LimbMonts', WHERE WHAT IT READS IS OF BULK AT MOST 1048576: true; the input reads as it did. -/
def limbMontsUptoRow : OpenClaim := { program := "ytcoljlanblngiaa", sum := "f65631141f33d8ed39a37cf366ca63f9dfc3fa013d99412d4575b8fc24c67251", func := "wardmote/wardmotelaw01.LimbMonts", spec := "limbMonts", inPlace := ["math/bits.Add64", "math/bits.Sub64"], apart := false, narrowed := true }
def LimbMontsUptoSaid : Prop := limbMontsUptoRow.holds Try.pinned (OpenSpec.upto limbMontsSpec)

/-- 'wardmotelaw01.LimbRound', WHERE WHAT IT READS IS OF BULK AT MOST 1048576: true; the input reads as it did. -/
def limbRoundUptoRow : OpenClaim := { program := "ytcoljlanblngiaa", sum := "f65631141f33d8ed39a37cf366ca63f9dfc3fa013d99412d4575b8fc24c67251", func := "wardmote/wardmotelaw01.LimbRound", spec := "limbRound", inPlace := ["math/bits.Add64", "math/bits.Sub64"], apart := false, narrowed := true }
def LimbRoundUptoSaid : Prop := limbRoundUptoRow.holds Try.pinned (OpenSpec.upto limbRoundSpec)

end Rows
end Go.Proofs.Ytcoljlanblngiaa
