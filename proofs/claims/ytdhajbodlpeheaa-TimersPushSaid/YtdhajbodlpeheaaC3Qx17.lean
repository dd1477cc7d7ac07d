/- A text of the claim. -/
import Derived.Test.YtdhajbodlpeheaaC3Qx0
import Derived.Test.YtdhajbodlpeheaaC3Qx1
import Derived.Test.YtdhajbodlpeheaaC3Qx3
import Derived.Test.YtdhajbodlpeheaaC3Qx7
import Derived.Test.YtdhajbodlpeheaaC3Qx9
import Derived.Test.YtdhajbodlpeheaaC3Qx14
namespace Go.Proofs.Ytdhajbodlpeheaa.Q
open Go.RowKit Go.Proofs.YtdhajbodlpeheaaW.PrintWords Go.Proofs.YtdhajbodlpeheaaW.PrintLast Go.Proofs.YtdhajbodlpeheaaW.PrintMore
attribute [local go_sem] max2_int min2_int max_two min_two max_three min_three max_four min_four
set_option linter.unusedVariables false
set_option linter.unusedSimpArgs false
attribute [local go_sem high] eqA34
mutual
def tailwaterlaw18_few.l0 : Nat → List (S34) → Int → Option (Bool)
  | 0, _, _ => none
  | k + 1, x0, x3 => if x3 < (x0.length : Int) then (tailwaterlaw18_few.j1 k x0 x3 (decide (x3 < 60))) else (tailwaterlaw18_few.j1 k x0 x3 false)
def tailwaterlaw18_few.j1 : Nat → List (S34) → Int → Bool → Option (Bool)
  | 0, _, _, _ => none
  | k + 1, x0, x3, x11 => if x11 = true then (if 0 ≤ x3 then (if x3 < (x0.length : Int) then ((tailwaterref18_Right.f ((rd_T34 x0 x3).f0.f0) ((rd_T34 x0 x3).f0.f1) ((rd_T34 x0 x3).f1)).bind fun t629 => (if t629 = true then (tailwaterlaw18_few.l0 k x0 (wrap64 (x3 + 1))) else (some false))) else (none)) else (none)) else (some (decide ((x0.length : Int) ≤ 60)))
end
def tailwaterlaw18_few.f (k : Nat) (l0 : List (S34)) : Option (Bool) := tailwaterlaw18_few.l0 k l0 0
theorem tailwaterlaw18_few.mono_l : ∀ k, (∀ y0 y1, LeO (tailwaterlaw18_few.l0 k y0 y1) (tailwaterlaw18_few.l0 (k + 1) y0 y1)) ∧ (∀ y0 y1 y2, LeO (tailwaterlaw18_few.j1 k y0 y1 y2) (tailwaterlaw18_few.j1 (k + 1) y0 y1 y2))
  | 0 => ⟨fun _ _ r h => by simp [tailwaterlaw18_few.l0] at h, fun _ _ _ r h => by simp [tailwaterlaw18_few.j1] at h⟩
  | k + 1 => by
    obtain ⟨ih0, ih1⟩ := tailwaterlaw18_few.mono_l k
    refine ⟨?_, ?_⟩
    · intro y0 y1
      unfold tailwaterlaw18_few.l0
      repeat' first
      | (with_reducible exact ih0 _ _)
      | (with_reducible exact ih1 _ _ _)
      | (with_reducible exact LeO.refl _)
      | (with_reducible exact LeO.none _)
      | (with_reducible refine LeO.ite ?_ ?_)
      | (with_reducible refine LeO.bind ?_ (fun _ => ?_))
      | exact ih0 _ _
      | exact ih1 _ _ _
      | exact LeO.none _
      | refine LeO.ite ?_ ?_
      | refine LeO.bind ?_ (fun _ => ?_)
    · intro y0 y1 y2
      unfold tailwaterlaw18_few.j1
      repeat' first
      | (with_reducible exact ih0 _ _)
      | (with_reducible exact ih1 _ _ _)
      | (with_reducible exact LeO.refl _)
      | (with_reducible exact LeO.none _)
      | (with_reducible refine LeO.ite ?_ ?_)
      | (with_reducible refine LeO.bind ?_ (fun _ => ?_))
      | exact ih0 _ _
      | exact ih1 _ _ _
      | exact LeO.none _
      | refine LeO.ite ?_ ?_
      | refine LeO.bind ?_ (fun _ => ?_)
theorem tailwaterlaw18_few.mono : ∀ a0 k, LeO (tailwaterlaw18_few.f k a0) (tailwaterlaw18_few.f (k + 1) a0) := by
  intro a0 k
  obtain ⟨ih0, ih1⟩ := tailwaterlaw18_few.mono_l k
  unfold tailwaterlaw18_few.f
  repeat' first
      | (with_reducible exact ih0 _ _)
      | (with_reducible exact ih1 _ _ _)
      | (with_reducible exact LeO.refl _)
      | (with_reducible exact LeO.none _)
      | (with_reducible refine LeO.ite ?_ ?_)
      | (with_reducible refine LeO.bind ?_ (fun _ => ?_))
      | exact ih0 _ _
      | exact ih1 _ _ _
      | exact LeO.none _
      | refine LeO.ite ?_ ?_
      | refine LeO.bind ?_ (fun _ => ?_)
def tailwaterlaw18_TimersFirst.l0 : Nat → Bool → List (S34) → List (S34) → Int → Option (Bool)
  | 0, _, _, _, _ => none
  | k + 1, x3, x4, x6, x7 => if x7 < (x6.length : Int) then ((timers_Pop.f k x4).bind fun bt640 => (if bt640.2.2.2.2 = 0 then (if 0 ≤ x7 then (if ((!(bt640.1 == ((rd_T34 x6 x7).f0.f0)) || (!(bt640.2.1 == ((rd_T34 x6 x7).f0.f1)))) || (!(bt640.2.2.1 == ((rd_T34 x6 x7).f1)))) = true then (none) else (if (bt640.2.2.2.1.length : Int) = (wrap64 ((x4.length : Int) - 1)) then ((timers_Check.f k bt640.2.2.2.1).bind fun t649 => (if t649 = 0 then (tailwaterlaw18_TimersFirst.l0 k x3 bt640.2.2.2.1 x6 (wrap64 (x7 + 1))) else (none))) else (none))) else (none)) else (none))) else ((timers_Pop.f k x4).bind fun bt650 => (if x3 = true then (some (bt650.2.2.2.2 == 6)) else (none)))
def tailwaterlaw18_TimersFirst.f (k : Nat) (l0 : List (S34)) : Option (Bool) := (tailwaterlaw18_alive.f k).bind fun t630 => ((tailwaterlaw18_few.f k l0).bind fun t631 => (if t631 = true then (if t630 = true then ((tailwaterlaw18_pushed.f k l0).bind fun bt632 => (if bt632.2 = true then ((timers_Check.f k bt632.1).bind fun t636 => (if t636 = 0 then ((tailwaterref18_Sorted.f k l0).bind fun t637 => (tailwaterlaw18_TimersFirst.l0 k t630 bt632.1 t637 0)) else (none))) else (none))) else (none)) else (some t630)))
theorem tailwaterlaw18_TimersFirst.mono_l : ∀ k, (∀ y0 y1 y2 y3, LeO (tailwaterlaw18_TimersFirst.l0 k y0 y1 y2 y3) (tailwaterlaw18_TimersFirst.l0 (k + 1) y0 y1 y2 y3))
  | 0 => fun _ _ _ _ r h => by simp [tailwaterlaw18_TimersFirst.l0] at h
  | k + 1 => by
    have ih0 := tailwaterlaw18_TimersFirst.mono_l k
    · intro y0 y1 y2 y3
      unfold tailwaterlaw18_TimersFirst.l0
      repeat' first
      | (with_reducible exact ih0 _ _ _ _)
      | (with_reducible exact tailwaterlaw18_alive.mono _)
      | (with_reducible exact tailwaterlaw18_few.mono _ _)
      | (with_reducible exact tailwaterlaw18_pushed.mono _ _)
      | (with_reducible exact tailwaterref18_Sorted.mono _ _)
      | (with_reducible exact timers_Check.mono _ _)
      | (with_reducible exact timers_Pop.mono _ _)
      | (with_reducible exact LeO.refl _)
      | (with_reducible exact LeO.none _)
      | (with_reducible refine LeO.ite ?_ ?_)
      | (with_reducible refine LeO.bind ?_ (fun _ => ?_))
      | exact ih0 _ _ _ _
      | exact tailwaterlaw18_alive.mono _
      | exact tailwaterlaw18_few.mono _ _
      | exact tailwaterlaw18_pushed.mono _ _
      | exact tailwaterref18_Sorted.mono _ _
      | exact timers_Check.mono _ _
      | exact timers_Pop.mono _ _
      | exact LeO.none _
      | refine LeO.ite ?_ ?_
      | refine LeO.bind ?_ (fun _ => ?_)
theorem tailwaterlaw18_TimersFirst.mono : ∀ a0 k, LeO (tailwaterlaw18_TimersFirst.f k a0) (tailwaterlaw18_TimersFirst.f (k + 1) a0) := by
  intro a0 k
  have ih0 := tailwaterlaw18_TimersFirst.mono_l k
  unfold tailwaterlaw18_TimersFirst.f
  repeat' first
      | (with_reducible exact ih0 _ _ _ _)
      | (with_reducible exact tailwaterlaw18_alive.mono _)
      | (with_reducible exact tailwaterlaw18_few.mono _ _)
      | (with_reducible exact tailwaterlaw18_pushed.mono _ _)
      | (with_reducible exact tailwaterref18_Sorted.mono _ _)
      | (with_reducible exact timers_Check.mono _ _)
      | (with_reducible exact timers_Pop.mono _ _)
      | (with_reducible exact LeO.refl _)
      | (with_reducible exact LeO.none _)
      | (with_reducible refine LeO.ite ?_ ?_)
      | (with_reducible refine LeO.bind ?_ (fun _ => ?_))
      | exact ih0 _ _ _ _
      | exact tailwaterlaw18_alive.mono _
      | exact tailwaterlaw18_few.mono _ _
      | exact tailwaterlaw18_pushed.mono _ _
      | exact tailwaterref18_Sorted.mono _ _
      | exact timers_Check.mono _ _
      | exact timers_Pop.mono _ _
      | exact LeO.none _
      | refine LeO.ite ?_ ?_
      | refine LeO.bind ?_ (fun _ => ?_)
def tailwaterlaw18_TimersFirst.T12 : Bool × List (List Nat × List Nat) := (true, [([], []), ([0], [0]), ([1], [1]), ([2], [2]), ([2], [2]), ([2], [2]), ([4, 5, 2], [2, 4, 5]), ([6, 2], [2, 6]), ([3, 7, 2], [2, 3, 7]), ([2, 8], [2, 8]), ([9, 2], [9]), ([10], [10]), ([11, 10], [10, 11]), ([10], [10]), ([13, 10], [10, 13]), ([14, 10], [10, 14]), ([12, 15, 10], [10, 12, 15]), ([10, 16], [10, 16]), ([17, 10], [17]), ([18], [18]), ([19, 18, 18], [18, 19]), ([20, 18], [18, 20]), ([18, 21], [18, 21])])
def tailwaterlaw18_TimersFirst.B12 : List Nat := [0, 1, 3, 7, 7, 7, 55, 119, 255, 511, 1023, 2047, 4095, 2047, 10239, 26623, 65535, 131071, 262143, 524287, 1048575, 2097151, 4194303]
theorem tailwaterlaw18_TimersFirst.tab12 : rtab .any (opsOf Try.f7 12) = tailwaterlaw18_TimersFirst.T12 := by kernel_rfl
theorem tailwaterlaw18_TimersFirst.bits12 : waitsOk tailwaterlaw18_TimersFirst.T12.2 tailwaterlaw18_TimersFirst.B12 = true := by kernel_rfl
end Go.Proofs.Ytdhajbodlpeheaa.Q
