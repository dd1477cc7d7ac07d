/- Shortened from a text that the kit's print.sh printed for this seat. -/
import Derived.Test.YtdhajbodlpeheaaC5WInv
import Derived.Test.YtdhajbodlpeheaaC5WFootNe
namespace Go.Proofs.YtdhajbodlpeheaaW.PrintWords
open Go.RowKit
end Go.Proofs.YtdhajbodlpeheaaW.PrintWords
namespace Go.Proofs.YtdhajbodlpeheaaW.PrintLast
section
variable {ops : Array Oper} {a : Act} {o og : Oper} {g : Nat} {t : Tmp} {u : Bool}
end
end Go.Proofs.YtdhajbodlpeheaaW.PrintLast
