/- The small record of layer 9; ParcelPacks, in plain Lean. No program here. -/
import Derived.Test.YtieencpejpeenaaZ2
import Derived.Test.YtieencpejpeenaaQParcelx4
namespace Go.Proofs.Ytieencpejpeenaa
set_option linter.unusedVariables false
set_option linter.unusedSimpArgs false
open Go.RowKit Go.Proofs.YtieencpejpeenaaW.PrintWords
open QParcel

theorem two_ev : Ev (fun k => wardmotelaw09_two.f k) true := Ev.of wardmotelaw09_two.mono (k := 20) (by decide +kernel)
theorem packs_pure (kind : Int) (l : List ByteArray) (hl : l.length ≤ 8796093022208) : ∃ k, wardmotelaw09_ParcelPacks.f k kind l = some true := by
  refine Ev.rounds (g := fun k => wardmotelaw09_ParcelPacks.f k kind l) ?_
  unfold wardmotelaw09_ParcelPacks.f
  refine Ev.bind (pack_ev kind l hl) ?_
  refine Ev.bind (rpack_ev kind l hl) ?_
  have h : Ev (fun k => (wardmotelaw09_two.f k).bind fun t => some t) true := Ev.bind two_ev (Ev.now _)
  refine Ev.congr (fun k => ?_) h
  show (if _ then _ else _) = _
  rw [if_pos rfl, if_pos rfl]
end Go.Proofs.Ytieencpejpeenaa
