/- A text of the claim. -/
import Derived.Test.YtdhajbodlpeheaaC1Qx0
import Derived.Test.YtdhajbodlpeheaaC1Qx7
namespace Go.Proofs.Ytdhajbodlpeheaa.Q
open Go.RowKit Go.Proofs.YtdhajbodlpeheaaW.PrintWords Go.Proofs.YtdhajbodlpeheaaW.PrintLast Go.Proofs.YtdhajbodlpeheaaW.PrintMore
attribute [local go_sem] max2_int min2_int max_two min_two max_three min_three max_four min_four
set_option linter.unusedVariables false
set_option linter.unusedSimpArgs false
mutual
def tailwaterref18_Sorted.l0 : Nat → List (S34) → List (S34) → Int → Option ((List (S34)))
  | 0, _, _, _ => none
  | k + 1, x0, x3, x4 => if x4 < (x0.length : Int) then (if 0 ≤ x4 then (if x3.length < 5864062014805 then ((some (x3 ++ [(⟨(⟨(rd_T34 x0 x4).f0.f0, (rd_T34 x0 x4).f0.f1⟩ : S32), (rd_T34 x0 x4).f1⟩ : S34)] : List (S34))).bind fun y231 => (tailwaterref18_Sorted.l1 k x0 y231 x4 (wrap64 ((y231.length : Int) - 1)))) else (none)) else (none)) else (some x3)
def tailwaterref18_Sorted.l1 : Nat → List (S34) → List (S34) → Int → Int → Option ((List (S34)))
  | 0, _, _, _, _ => none
  | k + 1, x0, x3, x4, x5 => if x5 > 0 then (if 0 ≤ x5 then (if x5 < (x3.length : Int) then (if 0 ≤ (wrap64 (x5 - 1)) then (if (wrap64 (x5 - 1)) < (x3.length : Int) then ((tailwaterref18_Less.f ((rd_T34 x3 x5).f0.f0) ((rd_T34 x3 x5).f0.f1) ((rd_T34 x3 x5).f1) ((rd_T34 x3 (wrap64 (x5 - 1))).f0.f0) ((rd_T34 x3 (wrap64 (x5 - 1))).f0.f1) ((rd_T34 x3 (wrap64 (x5 - 1))).f1)).bind fun t236 => (if t236 = true then (tailwaterref18_Sorted.l1 k x0 ((x3.set (x5 : Int).toNat (⟨(⟨(rd_T34 x3 (wrap64 (x5 - 1))).f0.f0, (rd_T34 x3 (wrap64 (x5 - 1))).f0.f1⟩ : S32), (rd_T34 x3 (wrap64 (x5 - 1))).f1⟩ : S34)).set ((wrap64 (x5 - 1)) : Int).toNat (⟨(⟨(rd_T34 x3 x5).f0.f0, (rd_T34 x3 x5).f0.f1⟩ : S32), (rd_T34 x3 x5).f1⟩ : S34)) x4 (wrap64 (x5 - 1))) else (tailwaterref18_Sorted.l0 k x0 x3 (wrap64 (x4 + 1))))) else (none)) else (none)) else (none)) else (none)) else (tailwaterref18_Sorted.l0 k x0 x3 (wrap64 (x4 + 1)))
end
def tailwaterref18_Sorted.f (k : Nat) (l0 : List (S34)) : Option ((List (S34))) := tailwaterref18_Sorted.l0 k l0 ([] : List (S34)) 0
theorem tailwaterref18_Sorted.mono_l : ∀ k, (∀ y0 y1 y2, LeO (tailwaterref18_Sorted.l0 k y0 y1 y2) (tailwaterref18_Sorted.l0 (k + 1) y0 y1 y2)) ∧ (∀ y0 y1 y2 y3, LeO (tailwaterref18_Sorted.l1 k y0 y1 y2 y3) (tailwaterref18_Sorted.l1 (k + 1) y0 y1 y2 y3))
  | 0 => ⟨fun _ _ _ r h => by simp [tailwaterref18_Sorted.l0] at h, fun _ _ _ _ r h => by simp [tailwaterref18_Sorted.l1] at h⟩
  | k + 1 => by
    obtain ⟨ih0, ih1⟩ := tailwaterref18_Sorted.mono_l k
    refine ⟨?_, ?_⟩
    · intro y0 y1 y2
      unfold tailwaterref18_Sorted.l0
      repeat' first
      | (with_reducible exact ih0 _ _ _)
      | (with_reducible exact ih1 _ _ _ _)
      | (with_reducible exact LeO.refl _)
      | (with_reducible exact LeO.none _)
      | (with_reducible refine LeO.ite ?_ ?_)
      | (with_reducible refine LeO.bind ?_ (fun _ => ?_))
      | exact ih0 _ _ _
      | exact ih1 _ _ _ _
      | exact LeO.none _
      | refine LeO.ite ?_ ?_
      | refine LeO.bind ?_ (fun _ => ?_)
    · intro y0 y1 y2 y3
      unfold tailwaterref18_Sorted.l1
      repeat' first
      | (with_reducible exact ih0 _ _ _)
      | (with_reducible exact ih1 _ _ _ _)
      | (with_reducible exact LeO.refl _)
      | (with_reducible exact LeO.none _)
      | (with_reducible refine LeO.ite ?_ ?_)
      | (with_reducible refine LeO.bind ?_ (fun _ => ?_))
      | exact ih0 _ _ _
      | exact ih1 _ _ _ _
      | exact LeO.none _
      | refine LeO.ite ?_ ?_
      | refine LeO.bind ?_ (fun _ => ?_)
theorem tailwaterref18_Sorted.mono : ∀ a0 k, LeO (tailwaterref18_Sorted.f k a0) (tailwaterref18_Sorted.f (k + 1) a0) := by
  intro a0 k
  obtain ⟨ih0, ih1⟩ := tailwaterref18_Sorted.mono_l k
  unfold tailwaterref18_Sorted.f
  repeat' first
      | (with_reducible exact ih0 _ _ _)
      | (with_reducible exact ih1 _ _ _ _)
      | (with_reducible exact LeO.refl _)
      | (with_reducible exact LeO.none _)
      | (with_reducible refine LeO.ite ?_ ?_)
      | (with_reducible refine LeO.bind ?_ (fun _ => ?_))
      | exact ih0 _ _ _
      | exact ih1 _ _ _ _
      | exact LeO.none _
      | refine LeO.ite ?_ ?_
      | refine LeO.bind ?_ (fun _ => ?_)
def tailwaterref18_Sorted.T7 : Bool × List (List Nat × List Nat) := (true, [([], []), ([0], [0]), ([1], [1]), ([2], [2]), ([2], [2]), ([3, 4, 2], [2, 3, 4]), ([5, 2], [2, 5]), ([2], [2]), ([2], [2]), ([8, 2], [2, 8]), ([7, 9, 2], [2, 7, 9]), ([10, 2], [2, 10]), ([6, 11, 2, 2], [2, 6, 11]), ([2, 12], [2, 12])])
def tailwaterref18_Sorted.B7 : List Nat := [0, 1, 3, 7, 7, 31, 63, 7, 7, 263, 903, 1927, 4095, 8191]
theorem tailwaterref18_Sorted.tab7 : rtab .any (opsOf Try.f14 7) = tailwaterref18_Sorted.T7 := by kernel_rfl
theorem tailwaterref18_Sorted.bits7 : waitsOk tailwaterref18_Sorted.T7.2 tailwaterref18_Sorted.B7 = true := by kernel_rfl
def tailwaterref18_Sorted.T9 : Bool × List (List Nat × List Nat) := (true, [([], []), ([], []), ([], []), ([], []), ([3], [3]), ([], []), ([], []), ([6], [6]), ([5, 7], [5, 7]), ([8], [8]), ([], []), ([], []), ([10, 11], [10, 11]), ([12], [12]), ([0, 1, 0, 1, 5, 6, 7, 8, 9, 13], [0, 1]), ([14, 9, 0, 1, 5, 6, 7, 8, 9, 13], [9, 14]), ([2, 4, 0, 1, 2, 3, 4, 5, 6, 7, 8, 9, 10, 11, 12, 13, 14, 15], [2, 4]), ([16, 13, 15, 0, 1, 2, 3, 4, 5, 6, 7, 8, 9, 10, 11, 12, 13, 14, 15], [13, 16])])
def tailwaterref18_Sorted.B9 : List Nat := [0, 0, 0, 0, 8, 0, 0, 64, 224, 480, 0, 0, 3072, 7168, 16355, 32739, 65535, 131071]
theorem tailwaterref18_Sorted.tab9 : rtab .any (opsOf Try.f14 9) = tailwaterref18_Sorted.T9 := by kernel_rfl
theorem tailwaterref18_Sorted.bits9 : waitsOk tailwaterref18_Sorted.T9.2 tailwaterref18_Sorted.B9 = true := by kernel_rfl
end Go.Proofs.Ytdhajbodlpeheaa.Q
