/- The pure statement of the law TimersTells: what is left to prove of it. -/
import Derived.Test.YtdhajbodlpeheaaC1Qx15
import Derived.Test.YtdhajbodlpeheaaC1Opens
namespace Go.Proofs.Ytdhajbodlpeheaa.Q
open Go.RowKit Go.Proofs.YtdhajbodlpeheaaW.PrintWords
def tailwaterlaw18_TimersTells.Pure : Prop := ∀ (l0 : List (S34)) (x1 : S34) (a2 : Int), l0.length ≤ 9223372036854775807 → (∀ y ∈ l0, wf34 y) → wf34 x1 → (Lit.int .i64 a2).wf = true → ∃ k, tailwaterlaw18_TimersTells.f k l0 x1.f0.f0 x1.f0.f1 x1.f1 a2 = some true
end Go.Proofs.Ytdhajbodlpeheaa.Q
