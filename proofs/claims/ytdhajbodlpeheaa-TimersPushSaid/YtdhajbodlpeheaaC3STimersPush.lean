/- The pure statement of the law TimersPush: what is left to prove of it. -/
import Derived.Test.YtdhajbodlpeheaaC3Qx11
import Derived.Test.YtdhajbodlpeheaaC3Opens
namespace Go.Proofs.Ytdhajbodlpeheaa.Q
open Go.RowKit Go.Proofs.YtdhajbodlpeheaaW.PrintWords
def tailwaterlaw18_TimersPush.Pure : Prop := ∀ (l0 : List (S34)) (x1 : S34), l0.length ≤ 9223372036854775807 → (∀ y ∈ l0, wf34 y) → wf34 x1 → ∃ k, tailwaterlaw18_TimersPush.f k l0 x1.f0.f0 x1.f0.f1 x1.f1 = some true
end Go.Proofs.Ytdhajbodlpeheaa.Q
