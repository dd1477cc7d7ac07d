/- SourceNames. -/
import Derived.Test.YtedhhjmjlpnlpaaXU
import Derived.Test.YtedhhjmjlpnlpaaXV
namespace Go.Proofs.Ytedhhjmjlpnlpaa.VW
open Go Go.RowKit
set_option linter.unusedVariables false
set_option linter.unusedSimpArgs false

@[simp] theorem immR_replicate (n : Nat) (r : List AV) (h : immL r = true) : immR (List.replicate n r) = true := by
  rw [immR_iff]; intro x hx; rw [(List.mem_replicate.1 hx).2]; exact h
set_option maxRecDepth 100000 in
theorem n14_0 : newT (-1) (List.replicate 61 (⟨false, 0, ⟨0, 0, 0⟩⟩ : Ev)) = zT := by decide
set_option maxRecDepth 100000 in
theorem n14_1 : newE (-1) (List.replicate 61 (⟨false, 0, ⟨0, 0, 0⟩⟩ : Ev)) = 2 := by decide
set_option maxRecDepth 100000 in
theorem n14_2 : newT 4 [] = zT := by decide
set_option maxRecDepth 100000 in
theorem n14_3 : newE 4 [] = 2 := by decide
set_option maxRecDepth 100000 in
theorem n14_4 : newT 3 ((List.replicate 60 (⟨false, 0, ⟨0, 0, 0⟩⟩ : Ev)) ++ [(⟨false, 1, ⟨0, 0, 0⟩⟩ : Ev)]) = zT := by decide
set_option maxRecDepth 100000 in
theorem n14_5 : newE 3 ((List.replicate 60 (⟨false, 0, ⟨0, 0, 0⟩⟩ : Ev)) ++ [(⟨false, 1, ⟨0, 0, 0⟩⟩ : Ev)]) = 4 := by decide
set_option maxRecDepth 100000 in
theorem n14_6 : newT 3 [(⟨false, 0, ⟨0, 0, 0⟩⟩ : Ev), (⟨false, 1, ⟨0, 0, 0⟩⟩ : Ev)] = zT := by decide
set_option maxRecDepth 100000 in
theorem n14_7 : newE 3 [(⟨false, 0, ⟨0, 0, 0⟩⟩ : Ev), (⟨false, 1, ⟨0, 0, 0⟩⟩ : Ev)] = 8 := by decide
set_option maxRecDepth 100000 in
theorem n14_8 : newT 3 (List.replicate 60 (⟨false, 0, ⟨0, 0, 0⟩⟩ : Ev)) = ⟨1, 3, 0, [], [], [], (List.replicate 60 (⟨false, 0, ⟨0, 0, 0⟩⟩ : Ev)), [], []⟩ := by decide
set_option maxRecDepth 100000 in
theorem n14_9 : newE 3 (List.replicate 60 (⟨false, 0, ⟨0, 0, 0⟩⟩ : Ev)) = 0 := by decide
set_option maxRecDepth 100000 in
theorem n14_10 : newT 0 [] = ⟨1, 0, 0, [], [], [], [], [], []⟩ := by decide
set_option maxRecDepth 100000 in
theorem n14_11 : newE 0 [] = 0 := by decide
set_option maxRecDepth 100000 in
theorem n14_12 : stpT ⟨1, 0, 0, [], [], [], [], [], []⟩ = zT := by decide
set_option maxRecDepth 100000 in
theorem n14_13 : stepE ⟨1, 0, 0, [], [], [], [], [], []⟩ = 6 := by decide
set_option maxRecDepth 100000 in
theorem n14_14 : sentL ⟨1, 0, 0, [], [], [], [], [], []⟩ = [] := by decide
set_option maxRecDepth 100000 in
theorem n14_15 : askS ⟨1, 0, 0, [], [], [], [], [], []⟩ = 0 := by decide
set_option maxRecDepth 100000 in
theorem n14_16 : stpT ⟨3, 0, 0, [], [], [], [], [], []⟩ = zT := by decide
set_option maxRecDepth 100000 in
theorem n14_17 : stepE ⟨3, 0, 0, [], [], [], [], [], []⟩ = 2 := by decide
set_option maxRecDepth 100000 in
theorem n14_18 : sentL ⟨3, 0, 0, [], [], [], [], [], []⟩ = [] := by decide
set_option maxRecDepth 100000 in
theorem n14_19 : askS ⟨3, 0, 0, [], [], [], [], [], []⟩ = 2 := by decide
set_option maxRecDepth 100000 in
theorem n14_20 : stpT ⟨0, 0, 0, [], [], [], [], [], []⟩ = zT := by decide
set_option maxRecDepth 100000 in
theorem n14_21 : stepE ⟨0, 0, 0, [], [], [], [], [], []⟩ = 8 := by decide
set_option maxRecDepth 100000 in
theorem n14_22 : sentL ⟨0, 0, 0, [], [], [], [], [], []⟩ = [] := by decide
set_option maxRecDepth 100000 in
theorem n14_23 : askS ⟨0, 0, 0, [], [], [], [], [], []⟩ = 8 := by decide
set_option maxRecDepth 100000 in
theorem n14_24 : stpT ⟨1, 3, 0, [], [], [], (List.replicate 60 (⟨false, 0, ⟨0, 0, 0⟩⟩ : Ev)), [], []⟩ = ⟨1, 3, 0, [⟨0, ⟨1, ⟨0, 0, 0⟩, 0, ⟨0, 0, 0, 0, 0⟩⟩⟩], [], [], (List.replicate 59 (⟨false, 0, ⟨0, 0, 0⟩⟩ : Ev)), [], []⟩ := by decide
set_option maxRecDepth 100000 in
theorem n14_25 : stepE ⟨1, 3, 0, [], [], [], (List.replicate 60 (⟨false, 0, ⟨0, 0, 0⟩⟩ : Ev)), [], []⟩ = 0 := by decide
set_option maxRecDepth 100000 in
theorem n14_26 : stpT ⟨1, 3, 0, [⟨0, ⟨1, ⟨0, 0, 0⟩, 0, ⟨0, 0, 0, 0, 0⟩⟩⟩], [], [], (List.replicate 59 (⟨false, 0, ⟨0, 0, 0⟩⟩ : Ev)), [], []⟩ = zT := by decide
set_option maxRecDepth 100000 in
theorem n14_27 : stepE ⟨1, 3, 0, [⟨0, ⟨1, ⟨0, 0, 0⟩, 0, ⟨0, 0, 0, 0, 0⟩⟩⟩], [], [], (List.replicate 59 (⟨false, 0, ⟨0, 0, 0⟩⟩ : Ev)), [], []⟩ = 18 := by decide
set_option maxRecDepth 100000 in
theorem n14_28 : (sentL ⟨1, 3, 0, [⟨0, ⟨1, ⟨0, 0, 0⟩, 0, ⟨0, 0, 0, 0, 0⟩⟩⟩], [], [], (List.replicate 59 (⟨false, 0, ⟨0, 0, 0⟩⟩ : Ev)), [], []⟩).length = 60 := by decide
set_option maxRecDepth 100000 in
theorem n14_29 : askS ⟨1, 3, 0, [⟨0, ⟨1, ⟨0, 0, 0⟩, 0, ⟨0, 0, 0, 0, 0⟩⟩⟩], [], [], (List.replicate 59 (⟨false, 0, ⟨0, 0, 0⟩⟩ : Ev)), [], []⟩ = 0 := by decide
@[simp] def S14 : Spec
  | [] => some (True, .bool true, [])
  | _ => none
set_option maxHeartbeats 8000000 in
set_option maxRecDepth 100000 in
theorem S14_ok : SOK 14 S14 := by
  intro xs q r bs h hq
  unfold S14 at h
  split at h <;> cases h
  refine FS_wk ?_
  simp only [List.map_cons, List.map_nil, wk2, wk1]
  refine fs_of_awp mixed (sg_ok (gc_ok S34_ok (gc_ok S21_ok (gc_ok S53_ok (gc_ok S35_ok noS_ok))))) Try.func14 rfl (ent_of Try.func14 rfl rfl) [] (by rw [Try.ntmps14]; exact Nat.le_of_ble_eq_true rfl) (by simp) (by simp) (by simp) true ?_
  rw [Try.ntmps14, Try.results14]
  simp [-List.reduceReplicate, n14_0, n14_1, n14_2, n14_3, n14_4, n14_5, n14_6, n14_7, n14_8, n14_9, n14_10, n14_11, n14_12, n14_13, n14_14, n14_15, n14_16, n14_17, n14_18, n14_19, n14_20, n14_21, n14_22, n14_23, n14_24, n14_25, n14_26, n14_27, n14_28, n14_29, zT]
  simp [n14_7]

end Go.Proofs.Ytedhhjmjlpnlpaa.VW
