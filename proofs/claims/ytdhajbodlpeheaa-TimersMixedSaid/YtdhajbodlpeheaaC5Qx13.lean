/- A text of the claim. -/
import Derived.Test.YtdhajbodlpeheaaC5Qx0
import Derived.Test.YtdhajbodlpeheaaC5Qx7
import Derived.Test.YtdhajbodlpeheaaC5Qx8
import Derived.Test.YtdhajbodlpeheaaC5Qx12
namespace Go.Proofs.Ytdhajbodlpeheaa.Q
open Go.RowKit Go.Proofs.YtdhajbodlpeheaaW.PrintWords Go.Proofs.YtdhajbodlpeheaaW.PrintLast Go.Proofs.YtdhajbodlpeheaaW.PrintMore
attribute [local go_sem] max2_int min2_int max_two min_two max_three min_three max_four min_four
set_option linter.unusedVariables false
set_option linter.unusedSimpArgs false
def tailwaterref18_Pushed.l0 : Nat → List (S34) → Int → Option ((List (S34)))
  | 0, _, _ => none
  | k + 1, x5, x6 => if x6 > 0 then (if 0 ≤ x6 then (if x6 < (x5.length : Int) then (if 0 ≤ (wrap64 (Int.tdiv (wrap64 (x6 - 1)) 2)) then (if (wrap64 (Int.tdiv (wrap64 (x6 - 1)) 2)) < (x5.length : Int) then ((tailwaterref18_Less.f ((rd_T34 x5 x6).f0.f0) ((rd_T34 x5 x6).f0.f1) ((rd_T34 x5 x6).f1) ((rd_T34 x5 (wrap64 (Int.tdiv (wrap64 (x6 - 1)) 2))).f0.f0) ((rd_T34 x5 (wrap64 (Int.tdiv (wrap64 (x6 - 1)) 2))).f0.f1) ((rd_T34 x5 (wrap64 (Int.tdiv (wrap64 (x6 - 1)) 2))).f1)).bind fun t329 => (if t329 = true then ((tailwaterref18_swapped.f x5 x6 (wrap64 (Int.tdiv (wrap64 (x6 - 1)) 2))).bind fun t330 => (tailwaterref18_Pushed.l0 k t330 (wrap64 (Int.tdiv (wrap64 (x6 - 1)) 2)))) else (some x5))) else (none)) else (none)) else (none)) else (none)) else (some x5)
def tailwaterref18_Pushed.f (k : Nat) (l0 : List (S34)) (a1_0 : Int) (a1_1 : Int) (a1_2 : Int) : Option ((List (S34))) := (some (([] : List (S34)) : List (S34))).bind fun y315 => (if y315.length + l0.length < 5864062014805 then ((some (y315 ++ l0 : List (S34))).bind fun y318 => ((some (([(⟨(⟨a1_0, a1_1⟩ : S32), a1_2⟩ : S34)] : List (S34)) : List (S34))).bind fun y321 => (if y318.length + y321.length < 5864062014805 then (tailwaterref18_Pushed.l0 k (y318 ++ y321) (l0.length : Int)) else (none)))) else (none))
theorem tailwaterref18_Pushed.mono_l : ∀ k, (∀ y0 y1, LeO (tailwaterref18_Pushed.l0 k y0 y1) (tailwaterref18_Pushed.l0 (k + 1) y0 y1))
  | 0 => fun _ _ r h => by simp [tailwaterref18_Pushed.l0] at h
  | k + 1 => by
    have ih0 := tailwaterref18_Pushed.mono_l k
    · intro y0 y1
      unfold tailwaterref18_Pushed.l0
      repeat' first
      | (with_reducible exact ih0 _ _)
      | (with_reducible exact LeO.refl _)
      | (with_reducible exact LeO.none _)
      | (with_reducible refine LeO.ite ?_ ?_)
      | (with_reducible refine LeO.bind ?_ (fun _ => ?_))
      | exact ih0 _ _
      | exact LeO.none _
      | refine LeO.ite ?_ ?_
      | refine LeO.bind ?_ (fun _ => ?_)
theorem tailwaterref18_Pushed.mono : ∀ a0 a1 a2 a3 k, LeO (tailwaterref18_Pushed.f k a0 a1 a2 a3) (tailwaterref18_Pushed.f (k + 1) a0 a1 a2 a3) := by
  intro a0 a1 a2 a3 k
  have ih0 := tailwaterref18_Pushed.mono_l k
  unfold tailwaterref18_Pushed.f
  repeat' first
      | (with_reducible exact ih0 _ _)
      | (with_reducible exact LeO.refl _)
      | (with_reducible exact LeO.none _)
      | (with_reducible refine LeO.ite ?_ ?_)
      | (with_reducible refine LeO.bind ?_ (fun _ => ?_))
      | exact ih0 _ _
      | exact LeO.none _
      | refine LeO.ite ?_ ?_
      | refine LeO.bind ?_ (fun _ => ?_)
def tailwaterref18_Push.f (k : Nat) (l0 : List (S34)) (a1_0 : Int) (a1_1 : Int) (a1_2 : Int) : Option ((List (S34)) × Int) := (tailwaterref18_Check.f k l0).bind fun t334 => (if t334 = 0 then ((tailwaterref18_Right.f a1_0 a1_1 a1_2).bind fun t335 => (if t335 = true then (if (l0.length : Int) ≥ 4000 then (some (([] : List (S34)), 18)) else ((tailwaterref18_Pushed.f k l0 a1_0 a1_1 a1_2).bind fun t336 => (some (t336, 0)))) else (some (([] : List (S34)), 8)))) else (some (([] : List (S34)), t334)))
theorem tailwaterref18_Push.mono : ∀ a0 a1 a2 a3 k, LeO (tailwaterref18_Push.f k a0 a1 a2 a3) (tailwaterref18_Push.f (k + 1) a0 a1 a2 a3) := by
  intro a0 a1 a2 a3 k
  unfold tailwaterref18_Push.f
  repeat' first
      | (with_reducible exact tailwaterref18_Check.mono _ _)
      | (with_reducible exact tailwaterref18_Pushed.mono _ _ _ _ _)
      | (with_reducible exact LeO.refl _)
      | (with_reducible exact LeO.none _)
      | (with_reducible refine LeO.ite ?_ ?_)
      | (with_reducible refine LeO.bind ?_ (fun _ => ?_))
      | exact tailwaterref18_Check.mono _ _
      | exact tailwaterref18_Pushed.mono _ _ _ _ _
      | exact LeO.none _
      | refine LeO.ite ?_ ?_
      | refine LeO.bind ?_ (fun _ => ?_)
end Go.Proofs.Ytdhajbodlpeheaa.Q
