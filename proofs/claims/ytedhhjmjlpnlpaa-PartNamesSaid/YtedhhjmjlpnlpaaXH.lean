/- PartNames. -/
import Derived.Test.YtedhhjmjlpnlpaaXG
import Derived.Test.YtedhhjmjlpnlpaaW3
namespace Go.Proofs.Ytedhhjmjlpnlpaa.VW
open Go Go.RowKit
set_option linter.unusedVariables false
set_option linter.unusedSimpArgs false
theorem n10_0 : ofE 0 = 2 := by decide
theorem n10_1 : ofE 1 = 0 := by decide
theorem n10_2 : ofE 2 = 0 := by decide
theorem n10_3 : ofE 3 = 0 := by decide
theorem n10_4 : ofE 4 = 2 := by decide
theorem n10_5 : ofV 5 0 = 0 := by decide
theorem n10_6 : ofV 5 4 = 0 := by decide
theorem n10_7 : ofV (-9223372036854775808) 1 = 0 := by decide
theorem n10_8 : ofV (-9223372036854775808) 2 = 0 := by decide
theorem n10_9 : ofV (-9223372036854775808) 3 = 1 := by decide
theorem n10_10 : ofV 9223372036854775807 3 = 1 := by decide
theorem n10_11 : ofV 9223372036854775807 2 = 1 := by decide
theorem n10_12 : ofV (-1) 2 = 1 := by decide
theorem n10_13 : newPE 4 = 2 := by decide
theorem n10_14 : newPE (-1) = 2 := by decide
theorem n10_15 : newPE 3 = 0 := by decide
theorem n10_16 : newP 3 = ⟨3, 3, 0, [], [], [], [], [], []⟩ := by decide
theorem n10_17 : newP 4 = zT := by decide
theorem n10_18 : newP (-1) = zT := by decide
theorem n10_19 : takeT ⟨3, 3, 0, [], [], [], [], [], []⟩ ⟨1, ⟨-2, 4, 9⟩, 0, ⟨0, 0, 0, 0, 0⟩⟩ 3 = ⟨3, 3, 0, [⟨1, ⟨1, ⟨-2, 4, 9⟩, 0, ⟨0, 0, 0, 0, 0⟩⟩⟩], [], [], [], [], []⟩ := by decide
theorem n10_20 : takeE ⟨3, 3, 0, [], [], [], [], [], []⟩ ⟨1, ⟨-2, 4, 9⟩, 0, ⟨0, 0, 0, 0, 0⟩⟩ 3 = 0 := by decide
theorem n10_21 : takeE ⟨0, 0, 0, [], [], [], [], [], []⟩ ⟨0, ⟨0, 0, 0⟩, 0, ⟨0, 0, 0, 0, 0⟩⟩ 0 = 8 := by decide
theorem n10_22 : takeT ⟨0, 0, 0, [], [], [], [], [], []⟩ ⟨0, ⟨0, 0, 0⟩, 0, ⟨0, 0, 0, 0, 0⟩⟩ 0 = zT := by decide
theorem n10_23 : takeE ⟨3, 3, 0, [], [], [], [], [], []⟩ ⟨0, ⟨0, 0, 0⟩, 0, ⟨0, 0, 0, 0, 0⟩⟩ 0 = 2 := by decide
theorem n10_24 : takeT ⟨3, 3, 0, [], [], [], [], [], []⟩ ⟨0, ⟨0, 0, 0⟩, 0, ⟨0, 0, 0, 0, 0⟩⟩ 0 = zT := by decide
theorem n10_25 : takeE ⟨3, 3, 0, [], [], [], [], [], []⟩ ⟨1, ⟨-2, 4, 9⟩, 0, ⟨0, 0, 0, 0, 0⟩⟩ 4 = 2 := by decide
theorem n10_26 : takeT ⟨3, 3, 0, [], [], [], [], [], []⟩ ⟨1, ⟨-2, 4, 9⟩, 0, ⟨0, 0, 0, 0, 0⟩⟩ 4 = zT := by decide
theorem n10_27 : takeE ⟨6, 0, 0, [], [], [], [], [], []⟩ ⟨1, ⟨-2, 4, 9⟩, 0, ⟨0, 0, 0, 0, 0⟩⟩ 3 = 2 := by decide
theorem n10_28 : takeT ⟨6, 0, 0, [], [], [], [], [], []⟩ ⟨1, ⟨-2, 4, 9⟩, 0, ⟨0, 0, 0, 0, 0⟩⟩ 3 = zT := by decide
theorem n10_29 : takeE ⟨3, 3, 0, [], [], [], [], [], []⟩ ⟨0, ⟨0, 0, 0⟩, 0, ⟨0, 0, 0, 0, 0⟩⟩ 3 = 8 := by decide
theorem n10_30 : takeT ⟨3, 3, 0, [], [], [], [], [], []⟩ ⟨0, ⟨0, 0, 0⟩, 0, ⟨0, 0, 0, 0, 0⟩⟩ 3 = zT := by decide
theorem n10_31 : takeE ⟨3, 3, 0, [], [], [], [], [], []⟩ ⟨4, ⟨0, 0, 0⟩, 0, ⟨0, 0, 0, 0, 0⟩⟩ 3 = 8 := by decide
theorem n10_32 : takeT ⟨3, 3, 0, [], [], [], [], [], []⟩ ⟨4, ⟨0, 0, 0⟩, 0, ⟨0, 0, 0, 0, 0⟩⟩ 3 = zT := by decide
theorem n10_33 : takeE ⟨3, 3, 0, [⟨1, ⟨1, ⟨-2, 4, 9⟩, 0, ⟨0, 0, 0, 0, 0⟩⟩⟩], [], [], [], [], []⟩ ⟨1, ⟨-2, 4, 9⟩, 0, ⟨0, 0, 0, 0, 0⟩⟩ 3 = 18 := by decide
theorem n10_34 : takeT ⟨3, 3, 0, [⟨1, ⟨1, ⟨-2, 4, 9⟩, 0, ⟨0, 0, 0, 0, 0⟩⟩⟩], [], [], [], [], []⟩ ⟨1, ⟨-2, 4, 9⟩, 0, ⟨0, 0, 0, 0, 0⟩⟩ 3 = zT := by decide
@[simp] def S10 : Spec
  | [] => some (True, .bool true, [])
  | _ => none
set_option maxHeartbeats 8000000 in
set_option maxRecDepth 100000 in
theorem S10_ok : SOK 10 S10 := by
  intro xs q r bs h hq
  unfold S10 at h
  split at h <;> cases h
  refine FS_wk ?_
  simp only [List.map_cons, List.map_nil, wk2, wk1]
  refine fs_of_awp mixed (sg_ok (gc_ok S43_ok (gc_ok S44_ok (gc_ok S47_ok (gc_ok S49_ok (gc_ok S51_ok (gc_ok S31_ok noS_ok))))))) Try.func10 rfl (ent_of Try.func10 rfl rfl) [] (by rw [Try.ntmps10]; exact Nat.le_of_ble_eq_true rfl) (by simp) (by simp) (by simp) true ?_
  rw [Try.ntmps10, Try.results10]
  simp [n10_0, n10_1, n10_2, n10_3, n10_4, n10_5, n10_6, n10_7, n10_8, n10_9, n10_10, n10_11, n10_12, n10_13, n10_14, n10_15, n10_16, n10_17, n10_18, n10_19, n10_20, n10_21, n10_22, n10_23, n10_24, n10_25, n10_26, n10_27, n10_28, n10_29, n10_30, n10_31, n10_32, n10_33, n10_34, zT]

end Go.Proofs.Ytedhhjmjlpnlpaa.VW
