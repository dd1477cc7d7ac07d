/- A text of the claim. -/
import Derived.Test.YtdhajbodlpeheaaC3Qx0
import Derived.Test.YtdhajbodlpeheaaC3Qx3
import Derived.Test.YtdhajbodlpeheaaC3Qx4
import Derived.Test.YtdhajbodlpeheaaC3Qx7
import Derived.Test.YtdhajbodlpeheaaC3Qx12
namespace Go.Proofs.Ytdhajbodlpeheaa.Q
open Go.RowKit Go.Proofs.YtdhajbodlpeheaaW.PrintWords Go.Proofs.YtdhajbodlpeheaaW.PrintLast Go.Proofs.YtdhajbodlpeheaaW.PrintMore
attribute [local go_sem] max2_int min2_int max_two min_two max_three min_three max_four min_four
set_option linter.unusedVariables false
set_option linter.unusedSimpArgs false
def timers_Pop.f (k : Nat) (l0 : List (S34)) : Option (Int × Int × Int × (List (S34)) × Int) := (timers_Check.f k l0).bind fun t340 => (if t340 = 0 then (if (l0.length : Int) = 0 then (some (0, 0, 0, ([] : List (S34)), 6)) else ((timers_room.f l0).bind fun t341 => ((timers_pop.f k t341).bind fun bt344 => (some (bt344.1, bt344.2.1, bt344.2.2.1, bt344.2.2.2, 0))))) else (some (0, 0, 0, ([] : List (S34)), t340)))
theorem timers_Pop.mono : ∀ a0 k, LeO (timers_Pop.f k a0) (timers_Pop.f (k + 1) a0) := by
  intro a0 k
  unfold timers_Pop.f
  repeat' first
      | (with_reducible exact timers_Check.mono _ _)
      | (with_reducible exact timers_pop.mono _ _)
      | (with_reducible exact LeO.refl _)
      | (with_reducible exact LeO.none _)
      | (with_reducible refine LeO.ite ?_ ?_)
      | (with_reducible refine LeO.bind ?_ (fun _ => ?_))
      | exact timers_Check.mono _ _
      | exact timers_pop.mono _ _
      | exact LeO.none _
      | refine LeO.ite ?_ ?_
      | refine LeO.bind ?_ (fun _ => ?_)
mutual
def tailwaterref18_Popped.l0 : Nat → List (S34) → List (S34) → Int → Int → Option ((List (S34)))
  | 0, _, _, _, _ => none
  | k + 1, x0, x3, x4, x5 => if x5 < (x0.length : Int) then (tailwaterref18_Popped.l1 k x0 x3 x4 x5 x4 (wrap64 ((wrap64 (2 * x4)) + 1))) else (some x3)
def tailwaterref18_Popped.l1 : Nat → List (S34) → List (S34) → Int → Int → Int → Int → Option ((List (S34)))
  | 0, _, _, _, _, _, _ => none
  | k + 1, x0, x3, x4, x5, x6, x7 => if x7 ≤ (wrap64 ((wrap64 (2 * x4)) + 2)) then (tailwaterref18_Popped.j2 k x0 x3 x4 x5 x6 x7 (decide (x7 < (x3.length : Int)))) else (tailwaterref18_Popped.j2 k x0 x3 x4 x5 x6 x7 false)
def tailwaterref18_Popped.j2 : Nat → List (S34) → List (S34) → Int → Int → Int → Int → Bool → Option ((List (S34)))
  | 0, _, _, _, _, _, _, _ => none
  | k + 1, x0, x3, x4, x5, x6, x7, x47 => if x47 = true then (if 0 ≤ x7 then (if x7 < (x3.length : Int) then (if 0 ≤ x6 then (if x6 < (x3.length : Int) then ((tailwaterref18_Less.f ((rd_T34 x3 x7).f0.f0) ((rd_T34 x3 x7).f0.f1) ((rd_T34 x3 x7).f1) ((rd_T34 x3 x6).f0.f0) ((rd_T34 x3 x6).f0.f1) ((rd_T34 x3 x6).f1)).bind fun t365 => (if t365 = true then (tailwaterref18_Popped.l1 k x0 x3 x4 x5 x7 (wrap64 (x7 + 1))) else (tailwaterref18_Popped.l1 k x0 x3 x4 x5 x6 (wrap64 (x7 + 1))))) else (none)) else (none)) else (none)) else (none)) else (if x6 = x4 then (some x3) else ((tailwaterref18_swapped.f x3 x4 x6).bind fun t366 => (tailwaterref18_Popped.l0 k x0 t366 x6 (wrap64 (x5 + 1)))))
end
def tailwaterref18_Popped.f (k : Nat) (l0 : List (S34)) : Option ((List (S34))) := (some (([] : List (S34)) : List (S34))).bind fun y351 => (if 0 ≤ (wrap64 ((l0.length : Int) - 1)) then (if (wrap64 ((l0.length : Int) - 1)) ≤ (l0.length : Int) then ((some (l0.take ((wrap64 ((l0.length : Int) - 1)) : Int).toNat : List (S34))).bind fun y354 => (if y351.length + y354.length < 5864062014805 then ((some (y351 ++ y354 : List (S34))).bind fun y358 => (if (y358.length : Int) = 0 then (some y358) else (if (wrap64 ((l0.length : Int) - 1)) < (l0.length : Int) then (if 0 < (y358.length : Int) then (tailwaterref18_Popped.l0 k l0 (y358.set (0 : Int).toNat (⟨(⟨(rd_T34 l0 (wrap64 ((l0.length : Int) - 1))).f0.f0, (rd_T34 l0 (wrap64 ((l0.length : Int) - 1))).f0.f1⟩ : S32), (rd_T34 l0 (wrap64 ((l0.length : Int) - 1))).f1⟩ : S34)) 0 0) else (none)) else (none)))) else (none))) else (none)) else (none))
theorem tailwaterref18_Popped.mono_l : ∀ k, (∀ y0 y1 y2 y3, LeO (tailwaterref18_Popped.l0 k y0 y1 y2 y3) (tailwaterref18_Popped.l0 (k + 1) y0 y1 y2 y3)) ∧ (∀ y0 y1 y2 y3 y4 y5, LeO (tailwaterref18_Popped.l1 k y0 y1 y2 y3 y4 y5) (tailwaterref18_Popped.l1 (k + 1) y0 y1 y2 y3 y4 y5)) ∧ (∀ y0 y1 y2 y3 y4 y5 y6, LeO (tailwaterref18_Popped.j2 k y0 y1 y2 y3 y4 y5 y6) (tailwaterref18_Popped.j2 (k + 1) y0 y1 y2 y3 y4 y5 y6))
  | 0 => ⟨fun _ _ _ _ r h => by simp [tailwaterref18_Popped.l0] at h, fun _ _ _ _ _ _ r h => by simp [tailwaterref18_Popped.l1] at h, fun _ _ _ _ _ _ _ r h => by simp [tailwaterref18_Popped.j2] at h⟩
  | k + 1 => by
    obtain ⟨ih0, ih1, ih2⟩ := tailwaterref18_Popped.mono_l k
    refine ⟨?_, ?_, ?_⟩
    · intro y0 y1 y2 y3
      unfold tailwaterref18_Popped.l0
      repeat' first
      | (with_reducible exact ih0 _ _ _ _)
      | (with_reducible exact ih1 _ _ _ _ _ _)
      | (with_reducible exact ih2 _ _ _ _ _ _ _)
      | (with_reducible exact LeO.refl _)
      | (with_reducible exact LeO.none _)
      | (with_reducible refine LeO.ite ?_ ?_)
      | (with_reducible refine LeO.bind ?_ (fun _ => ?_))
      | exact ih0 _ _ _ _
      | exact ih1 _ _ _ _ _ _
      | exact ih2 _ _ _ _ _ _ _
      | exact LeO.none _
      | refine LeO.ite ?_ ?_
      | refine LeO.bind ?_ (fun _ => ?_)
    · intro y0 y1 y2 y3 y4 y5
      unfold tailwaterref18_Popped.l1
      repeat' first
      | (with_reducible exact ih0 _ _ _ _)
      | (with_reducible exact ih1 _ _ _ _ _ _)
      | (with_reducible exact ih2 _ _ _ _ _ _ _)
      | (with_reducible exact LeO.refl _)
      | (with_reducible exact LeO.none _)
      | (with_reducible refine LeO.ite ?_ ?_)
      | (with_reducible refine LeO.bind ?_ (fun _ => ?_))
      | exact ih0 _ _ _ _
      | exact ih1 _ _ _ _ _ _
      | exact ih2 _ _ _ _ _ _ _
      | exact LeO.none _
      | refine LeO.ite ?_ ?_
      | refine LeO.bind ?_ (fun _ => ?_)
    · intro y0 y1 y2 y3 y4 y5 y6
      unfold tailwaterref18_Popped.j2
      repeat' first
      | (with_reducible exact ih0 _ _ _ _)
      | (with_reducible exact ih1 _ _ _ _ _ _)
      | (with_reducible exact ih2 _ _ _ _ _ _ _)
      | (with_reducible exact LeO.refl _)
      | (with_reducible exact LeO.none _)
      | (with_reducible refine LeO.ite ?_ ?_)
      | (with_reducible refine LeO.bind ?_ (fun _ => ?_))
      | exact ih0 _ _ _ _
      | exact ih1 _ _ _ _ _ _
      | exact ih2 _ _ _ _ _ _ _
      | exact LeO.none _
      | refine LeO.ite ?_ ?_
      | refine LeO.bind ?_ (fun _ => ?_)
theorem tailwaterref18_Popped.mono : ∀ a0 k, LeO (tailwaterref18_Popped.f k a0) (tailwaterref18_Popped.f (k + 1) a0) := by
  intro a0 k
  obtain ⟨ih0, ih1, ih2⟩ := tailwaterref18_Popped.mono_l k
  unfold tailwaterref18_Popped.f
  repeat' first
      | (with_reducible exact ih0 _ _ _ _)
      | (with_reducible exact ih1 _ _ _ _ _ _)
      | (with_reducible exact ih2 _ _ _ _ _ _ _)
      | (with_reducible exact LeO.refl _)
      | (with_reducible exact LeO.none _)
      | (with_reducible refine LeO.ite ?_ ?_)
      | (with_reducible refine LeO.bind ?_ (fun _ => ?_))
      | exact ih0 _ _ _ _
      | exact ih1 _ _ _ _ _ _
      | exact ih2 _ _ _ _ _ _ _
      | exact LeO.none _
      | refine LeO.ite ?_ ?_
      | refine LeO.bind ?_ (fun _ => ?_)
end Go.Proofs.Ytdhajbodlpeheaa.Q
