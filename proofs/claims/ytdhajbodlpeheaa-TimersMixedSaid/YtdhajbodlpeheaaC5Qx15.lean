/- A text of the claim. -/
import Derived.Test.YtdhajbodlpeheaaC5Qx0
import Derived.Test.YtdhajbodlpeheaaC5Qx1
import Derived.Test.YtdhajbodlpeheaaC5Qx3
import Derived.Test.YtdhajbodlpeheaaC5Qx5
import Derived.Test.YtdhajbodlpeheaaC5Qx6
import Derived.Test.YtdhajbodlpeheaaC5Qx8
import Derived.Test.YtdhajbodlpeheaaC5Qx12
import Derived.Test.YtdhajbodlpeheaaC5Qx13
import Derived.Test.YtdhajbodlpeheaaC5Qx14
namespace Go.Proofs.Ytdhajbodlpeheaa.Q
open Go.RowKit Go.Proofs.YtdhajbodlpeheaaW.PrintWords Go.Proofs.YtdhajbodlpeheaaW.PrintLast Go.Proofs.YtdhajbodlpeheaaW.PrintMore
attribute [local go_sem] max2_int min2_int max_two min_two max_three min_three max_four min_four
set_option linter.unusedVariables false
set_option linter.unusedSimpArgs false
attribute [local go_sem high] eqA34
def tailwaterref18_Pop.f (k : Nat) (l0 : List (S34)) : Option (Int × Int × Int × (List (S34)) × Int) := (tailwaterref18_Check.f k l0).bind fun t370 => (if t370 = 0 then (if (l0.length : Int) = 0 then (some (0, 0, 0, ([] : List (S34)), 6)) else (if 0 < (l0.length : Int) then ((tailwaterref18_Popped.f k l0).bind fun t372 => (some ((rd_T34 l0 0).f0.f0, (rd_T34 l0 0).f0.f1, (rd_T34 l0 0).f1, t372, 0))) else (none))) else (some (0, 0, 0, ([] : List (S34)), t370)))
theorem tailwaterref18_Pop.mono : ∀ a0 k, LeO (tailwaterref18_Pop.f k a0) (tailwaterref18_Pop.f (k + 1) a0) := by
  intro a0 k
  unfold tailwaterref18_Pop.f
  repeat' first
      | (with_reducible exact tailwaterref18_Check.mono _ _)
      | (with_reducible exact tailwaterref18_Popped.mono _ _)
      | (with_reducible exact LeO.refl _)
      | (with_reducible exact LeO.none _)
      | (with_reducible refine LeO.ite ?_ ?_)
      | (with_reducible refine LeO.bind ?_ (fun _ => ?_))
      | exact tailwaterref18_Check.mono _ _
      | exact tailwaterref18_Popped.mono _ _
      | exact LeO.none _
      | refine LeO.ite ?_ ?_
      | refine LeO.bind ?_ (fun _ => ?_)
def tailwaterref18_Pop.T6 : Bool × List (List Nat × List Nat) := (true, [([], []), ([0], [0]), ([1], [1]), ([], []), ([3], [3]), ([2, 4, 0, 1, 2], [2]), ([4, 5, 0, 1, 2, 3, 4, 5], [4]), ([6, 0, 1, 2, 3, 4, 5, 6], [])])
def tailwaterref18_Pop.B6 : List Nat := [0, 1, 3, 0, 8, 31, 63, 127]
theorem tailwaterref18_Pop.tab6 : rtab .any (opsOf Try.f21 6) = tailwaterref18_Pop.T6 := by kernel_rfl
theorem tailwaterref18_Pop.bits6 : waitsOk tailwaterref18_Pop.T6.2 tailwaterref18_Pop.B6 = true := by kernel_rfl
def tailwaterref18_Until.l0 : Nat → Int → List (S34) → List (S34) → Option ((List (S34)) × (List (S34)) × Int)
  | 0, _, _, _ => none
  | k + 1, x1, x8, x9 => if (x9.length : Int) > 0 then (if 0 < (x9.length : Int) then (if ((rd_T34 x9 0).f0.f1) ≤ x1 then (if x8.length < 5864062014805 then ((tailwaterref18_Popped.f k x9).bind fun t387 => (tailwaterref18_Until.l0 k x1 (x8 ++ [(⟨(⟨(rd_T34 x9 0).f0.f0, (rd_T34 x9 0).f0.f1⟩ : S32), (rd_T34 x9 0).f1⟩ : S34)]) t387)) else (none)) else (some (x8, x9, 0))) else (none)) else (some (x8, x9, 0))
def tailwaterref18_Until.f (k : Nat) (l0 : List (S34)) (a1 : Int) : Option ((List (S34)) × (List (S34)) × Int) := (tailwaterref18_Check.f k l0).bind fun t375 => (if t375 = 0 then ((some (([] : List (S34)) : List (S34))).bind fun y376 => (if y376.length + l0.length < 5864062014805 then (tailwaterref18_Until.l0 k a1 ([] : List (S34)) (y376 ++ l0)) else (none))) else (some (([] : List (S34)), ([] : List (S34)), t375)))
theorem tailwaterref18_Until.mono_l : ∀ k, (∀ y0 y1 y2, LeO (tailwaterref18_Until.l0 k y0 y1 y2) (tailwaterref18_Until.l0 (k + 1) y0 y1 y2))
  | 0 => fun _ _ _ r h => by simp [tailwaterref18_Until.l0] at h
  | k + 1 => by
    have ih0 := tailwaterref18_Until.mono_l k
    · intro y0 y1 y2
      unfold tailwaterref18_Until.l0
      repeat' first
      | (with_reducible exact ih0 _ _ _)
      | (with_reducible exact tailwaterref18_Check.mono _ _)
      | (with_reducible exact tailwaterref18_Popped.mono _ _)
      | (with_reducible exact LeO.refl _)
      | (with_reducible exact LeO.none _)
      | (with_reducible refine LeO.ite ?_ ?_)
      | (with_reducible refine LeO.bind ?_ (fun _ => ?_))
      | exact ih0 _ _ _
      | exact tailwaterref18_Check.mono _ _
      | exact tailwaterref18_Popped.mono _ _
      | exact LeO.none _
      | refine LeO.ite ?_ ?_
      | refine LeO.bind ?_ (fun _ => ?_)
theorem tailwaterref18_Until.mono : ∀ a0 a1 k, LeO (tailwaterref18_Until.f k a0 a1) (tailwaterref18_Until.f (k + 1) a0 a1) := by
  intro a0 a1 k
  have ih0 := tailwaterref18_Until.mono_l k
  unfold tailwaterref18_Until.f
  repeat' first
      | (with_reducible exact ih0 _ _ _)
      | (with_reducible exact tailwaterref18_Check.mono _ _)
      | (with_reducible exact tailwaterref18_Popped.mono _ _)
      | (with_reducible exact LeO.refl _)
      | (with_reducible exact LeO.none _)
      | (with_reducible refine LeO.ite ?_ ?_)
      | (with_reducible refine LeO.bind ?_ (fun _ => ?_))
      | exact ih0 _ _ _
      | exact tailwaterref18_Check.mono _ _
      | exact tailwaterref18_Popped.mono _ _
      | exact LeO.none _
      | refine LeO.ite ?_ ?_
      | refine LeO.bind ?_ (fun _ => ?_)
def tailwaterlaw18_TimersTells.f (k : Nat) (l0 : List (S34)) (a1_0 : Int) (a1_1 : Int) (a1_2 : Int) (a2 : Int) : Option (Bool) := (tailwaterref18_Great.f l0).bind fun t391 => (if t391 = true then (some true) else ((some (([] : List (S34)) : List (S34))).bind fun y392 => (if y392.length + l0.length < 5864062014805 then ((some (y392 ++ l0 : List (S34))).bind fun y395 => ((timers_Push.f k l0 a1_0 a1_1 a1_2).bind fun bt398 => ((tailwaterref18_Push.f k y395 a1_0 a1_1 a1_2).bind fun bt402 => ((timers_Pop.f k l0).bind fun bt406 => ((tailwaterref18_Pop.f k y395).bind fun bt414 => ((timers_Until.f k l0 a2).bind fun bt422 => ((tailwaterref18_Until.f k y395 a2).bind fun bt429 => ((tailwaterref18_Same.f k bt398.1 bt402.1).bind fun t436 => (if t436 = true then (if bt398.2 = bt402.2 then (if ((bt406.1 == bt414.1 && (bt406.2.1 == bt414.2.1)) && (bt406.2.2.1 == bt414.2.2.1)) = true then ((tailwaterref18_Same.f k bt406.2.2.2.1 bt414.2.2.2.1).bind fun t437 => (if t437 = true then (if bt406.2.2.2.2 = bt414.2.2.2.2 then ((tailwaterref18_Same.f k bt422.1 bt429.1).bind fun t438 => (if t438 = true then ((tailwaterref18_Same.f k bt422.2.1 bt429.2.1).bind fun t439 => (if t439 = true then (if bt422.2.2 = bt429.2.2 then ((timers_Check.f k l0).bind fun t440 => ((tailwaterref18_Check.f k y395).bind fun t441 => (if t440 = t441 then ((tailwaterref18_Same.f k l0 y395).bind fun t442 => (some t442)) else (none)))) else (none)) else (none))) else (none))) else (none)) else (none))) else (none)) else (none)) else (none)))))))))) else (none))))
theorem tailwaterlaw18_TimersTells.mono : ∀ a0 a1 a2 a3 a4 k, LeO (tailwaterlaw18_TimersTells.f k a0 a1 a2 a3 a4) (tailwaterlaw18_TimersTells.f (k + 1) a0 a1 a2 a3 a4) := by
  intro a0 a1 a2 a3 a4 k
  unfold tailwaterlaw18_TimersTells.f
  repeat' first
      | (with_reducible exact tailwaterref18_Check.mono _ _)
      | (with_reducible exact tailwaterref18_Pop.mono _ _)
      | (with_reducible exact tailwaterref18_Push.mono _ _ _ _ _)
      | (with_reducible exact tailwaterref18_Same.mono _ _ _)
      | (with_reducible exact tailwaterref18_Until.mono _ _ _)
      | (with_reducible exact timers_Check.mono _ _)
      | (with_reducible exact timers_Pop.mono _ _)
      | (with_reducible exact timers_Push.mono _ _ _ _ _)
      | (with_reducible exact timers_Until.mono _ _ _)
      | (with_reducible exact LeO.refl _)
      | (with_reducible exact LeO.none _)
      | (with_reducible refine LeO.ite ?_ ?_)
      | (with_reducible refine LeO.bind ?_ (fun _ => ?_))
      | exact tailwaterref18_Check.mono _ _
      | exact tailwaterref18_Pop.mono _ _
      | exact tailwaterref18_Push.mono _ _ _ _ _
      | exact tailwaterref18_Same.mono _ _ _
      | exact tailwaterref18_Until.mono _ _ _
      | exact timers_Check.mono _ _
      | exact timers_Pop.mono _ _
      | exact timers_Push.mono _ _ _ _ _
      | exact timers_Until.mono _ _ _
      | exact LeO.none _
      | refine LeO.ite ?_ ?_
      | refine LeO.bind ?_ (fun _ => ?_)
end Go.Proofs.Ytdhajbodlpeheaa.Q
