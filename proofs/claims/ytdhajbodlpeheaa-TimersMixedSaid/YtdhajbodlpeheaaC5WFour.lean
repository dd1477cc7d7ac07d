/- Shortened from a text that the kit's print.sh printed for this seat. -/
import Derived.Test.YtdhajbodlpeheaaC5WTab
namespace Go.Proofs.YtdhajbodlpeheaaW.PrintLast
section
variable {P : Program} {ops : Array Oper} {Q : Exit → Act → World → Prop} {md : Region.Mode} {S : World → Prop} {ds : List Nat} {T : Bool × List (List Nat × List Nat)}
end
end Go.Proofs.YtdhajbodlpeheaaW.PrintLast
