/- The closed facts of the program that every row of this seat asks. -/
import Derived.Test.YtedhhjmjlpnlpaaRows
import Derived.Test.YtedhhjmjlpnlpaaChecked
import Derived.WalkKit
import Derived.JoinedOf
namespace Go.Proofs.Ytedhhjmjlpnlpaa.VW
open Go Go.RowKit
theorem j2 : laidOutB Try.prog = true := by kernel_rfl
theorem j3 : mapsRowed Try.prog = true := by kernel_rfl
theorem j7 : (Try.prog.stops == []) = true := by kernel_rfl
theorem j9 : (Try.prog.stopKnobs == []) = true := by kernel_rfl
theorem j23 : (Rows.sourceNewsRow.plainKeys == Try.prog.plainKeys) = true := by kernel_rfl
theorem j25 : Try.prog.stopsHeard = true := by kernel_rfl
theorem j26 : Try.prog.mayEnter = true := by kernel_rfl
theorem j27 : (Rows.sourceNewsRow.lifted == Try.prog.liftsFinal) = true := by kernel_rfl
theorem j28 : (Try.prog.make == some Rows.sourceNewsRow.make) = true := by kernel_rfl
end Go.Proofs.Ytedhhjmjlpnlpaa.VW
