/- ParcelInts, the plain statement that its printed row asks. -/
import Derived.Test.YtieencpejpeenaaZ12
import Derived.Test.YtieencpejpeenaaQParcelx8
namespace Go.Proofs.Ytieencpejpeenaa.Pure
open Go.RowKit Go.Proofs.Ytieencpejpeenaa.QParcel Go.Proofs.YtieencpejpeenaaW.PrintWords

theorem ParcelInts : wardmotelaw09_ParcelInts.Pure := by
  intro l0 a1 _ hl hw _
  refine ints_pure l0 a1 (by omega) fun x hx => ?_
  have h := hw x hx
  simp [Lit.wf, IntKind.min, IntKind.max, IntKind.signed, IntKind.bits] at h
  exact h
end Go.Proofs.Ytieencpejpeenaa.Pure
