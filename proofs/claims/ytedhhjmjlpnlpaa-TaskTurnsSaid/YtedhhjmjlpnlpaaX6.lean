/- SourceNews. -/
import Derived.Test.YtedhhjmjlpnlpaaX3
import Derived.Test.YtedhhjmjlpnlpaaX5
namespace Go.Proofs.Ytedhhjmjlpnlpaa.VW
open Go Go.RowKit
set_option linter.unusedVariables false
set_option linter.unusedSimpArgs false

theorem newT_b {n : Int} {l : List Ev} (h : l.length ≤ 100000) : bT (newT n l) := by
  unfold newT; split <;> simp [zT, h]
@[simp] def S3 : Spec
  | [.int .i64 n, .sl _ cl] => some ((cl.all kEv = true ∧ cl.length ≤ 9223372036854775807), .bool true, [])
  | _ => none
set_option maxRecDepth 100000 in
theorem S3_ok : SOK 3 S3 := by
  intro xs q r bs h hq
  unfold S3 at h
  split at h <;> cases h
  rename_i n exl cl
  have hq1 := hq
  refine FS_wk ?_
  simp only [List.map_cons, List.map_nil, wk2, wk1]
  obtain ⟨l, rfl⟩ := rows_ex (fun c hc => kEv_ok hc) hq1.1
  have hll := hq1.2
  simp only [List.length_map] at hll
  try simp only [List.map_map, ue_Rec, ue_Ev, ue_Row, ue_Msg, ue_Snd, ue_Ent, ue_Int, ue_Que, List.map_id] at *
  refine fs_of_awp mixed (sg_ok (gc_ok S21_ok (gc_ok S22_ok (gc_ok S23_ok noS_ok)))) Try.func3 rfl (ent_of Try.func3 rfl rfl) [] (by rw [Try.ntmps3]; exact Nat.le_of_ble_eq_true rfl) (by simp) (by simp) (by simp) true ?_
  rw [Try.ntmps3, Try.results3]
  have hb := fun h => (@newT_b n l h)
  simp only [bT] at hb
  simp
  intro hl
  exact ⟨⟨by omega, by omega⟩, hb (by omega)⟩

end Go.Proofs.Ytedhhjmjlpnlpaa.VW
