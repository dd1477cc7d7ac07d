/- The pure statement of the law TimersUntil: what is left to prove of it. -/
import Derived.Test.YtdhajbodlpeheaaC2Qx10
import Derived.Test.YtdhajbodlpeheaaC2Opens
namespace Go.Proofs.Ytdhajbodlpeheaa.Q
open Go.RowKit Go.Proofs.YtdhajbodlpeheaaW.PrintWords
def tailwaterlaw18_TimersUntil.Pure : Prop := ∀ (l0 : List (S34)) (a1 : Int), l0.length ≤ 9223372036854775807 → (∀ y ∈ l0, wf34 y) → (Lit.int .i64 a1).wf = true → ∃ k, tailwaterlaw18_TimersUntil.f k l0 a1 = some true
end Go.Proofs.Ytdhajbodlpeheaa.Q
