/- The pure statement of the law TimersFirst: what is left to prove of it. -/
import Derived.Test.YtdhajbodlpeheaaC4Qx17
import Derived.Test.YtdhajbodlpeheaaC4Opens
namespace Go.Proofs.Ytdhajbodlpeheaa.Q
open Go.RowKit Go.Proofs.YtdhajbodlpeheaaW.PrintWords
def tailwaterlaw18_TimersFirst.Pure : Prop := ∀ (l0 : List (S34)), l0.length ≤ 9223372036854775807 → (∀ y ∈ l0, wf34 y) → ∃ k, tailwaterlaw18_TimersFirst.f k l0 = some true
end Go.Proofs.Ytdhajbodlpeheaa.Q
