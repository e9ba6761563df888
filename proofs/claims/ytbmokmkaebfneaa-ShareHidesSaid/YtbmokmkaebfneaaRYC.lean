/- ShareOnes' walk -/
import Derived.Test.YtbmokmkaebfneaaRY8
import Derived.Test.YtbmokmkaebfneaaRY4
import Derived.Test.YtbmokmkaebfneaaRYB
import Derived.Test.YtbmokmkaebfneaaLF1
namespace Go.Proofs.Ytbmokmkaebfneaa
open Go.RowKit
open RX
set_option linter.unusedVariables false
set_option maxRecDepth 10000
set_option maxHeartbeats 1000000
def C_rreduce_in : Ct := ⟨(.cons (.agg (evs 0 0 4 (evs 1 0 4 .nil))) (.cons (.agg (evs 2 0 4 (.cons (.lit .u64 0) (.cons (.lit .u64 0) (.cons (.lit .u64 0) (.cons (.lit .u64 0) .nil)))))) .nil)), [], [], [], (nS 3)⟩
theorem fn__wardmoteref02_Field__Reduce : FnIs Try.prog 36 Try.f36 := ⟨Try.func36, by kernel_rfl, by kernel_rfl, by kernel_rfl⟩
theorem c_rreduce_in {base : Bool} (a : Nat) (ha : a < RR) : Ct.Valid Try.prog 36 C_rreduce_in ⟨[lbs (pN base), lbs (cN base), lbs a, lbs (frdN base a)], []⟩ := Ct.ofPlain (vs := #[rfV base, .agg #[.int .u64 (lb a 0), .int .u64 (lb a 1), .int .u64 (lb a 2), .int .u64 (lb a 3), .int .u64 0, .int .u64 0, .int .u64 0, .int .u64 0]]) fn__wardmoteref02_Field__Reduce (fun _ => rfl) (fun _ => rfl) (fun w => rreduce_in a ha w)
end Go.Proofs.Ytbmokmkaebfneaa
