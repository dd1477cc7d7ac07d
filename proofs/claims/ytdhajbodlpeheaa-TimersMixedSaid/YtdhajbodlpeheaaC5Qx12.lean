/- A text of the claim. -/
import Derived.Test.YtdhajbodlpeheaaC5Qx0
namespace Go.Proofs.Ytdhajbodlpeheaa.Q
open Go.RowKit Go.Proofs.YtdhajbodlpeheaaW.PrintWords Go.Proofs.YtdhajbodlpeheaaW.PrintLast Go.Proofs.YtdhajbodlpeheaaW.PrintMore
attribute [local go_sem] max2_int min2_int max_two min_two max_three min_three max_four min_four
set_option linter.unusedVariables false
set_option linter.unusedSimpArgs false
def tailwaterref18_Great.f (l0 : List (S34)) : Option (Bool) := if (l0.length : Int) > 120 then (if (l0.length : Int) < 3999 then (some true) else (some (decide ((l0.length : Int) > 4002)))) else (some (decide ((l0.length : Int) > 4002)))
def tailwaterref18_swapped.f (l0 : List (S34)) (a1 : Int) (a2 : Int) : Option ((List (S34))) := (some (([] : List (S34)) : List (S34))).bind fun y304 => (if y304.length + l0.length < 5864062014805 then ((some (y304 ++ l0 : List (S34))).bind fun y307 => (if 0 ≤ a2 then (if a2 < (l0.length : Int) then (if 0 ≤ a1 then (if a1 < (l0.length : Int) then (if a1 < (y307.length : Int) then (if a2 < (y307.length : Int) then (some ((y307.set (a1 : Int).toNat (⟨(⟨(rd_T34 l0 a2).f0.f0, (rd_T34 l0 a2).f0.f1⟩ : S32), (rd_T34 l0 a2).f1⟩ : S34)).set (a2 : Int).toNat (⟨(⟨(rd_T34 l0 a1).f0.f0, (rd_T34 l0 a1).f0.f1⟩ : S32), (rd_T34 l0 a1).f1⟩ : S34))) else (none)) else (none)) else (none)) else (none)) else (none)) else (none))) else (none))
end Go.Proofs.Ytdhajbodlpeheaa.Q
