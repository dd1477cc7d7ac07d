/- The pure statement of the law TimersMixed: what is left to prove of it. -/
import Derived.Test.YtdhajbodlpeheaaC5Qx18
import Derived.Test.YtdhajbodlpeheaaC5Opens
namespace Go.Proofs.Ytdhajbodlpeheaa.Q
open Go.RowKit Go.Proofs.YtdhajbodlpeheaaW.PrintWords
def tailwaterlaw18_TimersMixed.Pure : Prop := ∀ (l0 : List (S34)) (l1 : List Bool), l0.length ≤ 9223372036854775807 → (∀ y ∈ l0, wf34 y) → l1.length ≤ 9223372036854775807 → (∀ y ∈ l1, True) → ∃ k, tailwaterlaw18_TimersMixed.f k l0 l1 = some true
end Go.Proofs.Ytdhajbodlpeheaa.Q
