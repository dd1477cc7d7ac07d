/- Shortened from a text that the kit's print.sh printed for this seat. -/
import Derived.Test.YtdhajbodlpeheaaC5WN
namespace Go.Proofs.YtdhajbodlpeheaaW.PrintWords
open Go.RowKit
namespace Kd
section
variable {α : Type} {d : Kd α} {W : World} {g n : Nat} {S ok : Nat → Prop} {A : Option Addr} {ad : Addr} {xs : List α}
end
end Kd
end Go.Proofs.YtdhajbodlpeheaaW.PrintWords
