/- New. -/
import Derived.Test.YtedhhjmjlpnlpaaX2
namespace Go.Proofs.Ytedhhjmjlpnlpaa.VW
open Go Go.RowKit
set_option linter.unusedVariables false
set_option linter.unusedSimpArgs false

@[simp] def z31 : List AV := [.int .u8 0, .int .i64 0, .int .i64 0, .sl true [], .sl true [], .sl true [], .sl true [], .sl true [], .sl true []]
def zT : Tsk := ⟨0, 0, 0, [], [], [], [], [], []⟩
def newE (n : Int) (l : List Ev) : Int := if n < 0 ∨ 4 ≤ n then 2 else if 60 < l.length then 4 else if allL okEv l then 0 else 8
def newT (n : Int) (l : List Ev) : Tsk := if newE n l = 0 then ⟨1, n, 0, [], [], [], l, [], []⟩ else zT
@[simp] def S21 : Spec
  | [.int .i64 n, .sl _ cl] => some ((cl.all kEv = true ∧ cl.length ≤ 9223372036854775807) ∧ (((cl.map uEv)).length ≤ 100000), .tup [.agg (eTsk (newT n (cl.map uEv))), .int .i64 (newE n (cl.map uEv))], [])
  | _ => none
set_option maxRecDepth 100000 in
theorem S21_ok : SOK 21 S21 := by
  intro xs q r bs h hq
  unfold S21 at h
  split at h <;> cases h
  rename_i n exl cl
  obtain ⟨hq1, hq2⟩ := hq
  refine FS_wk ?_
  simp only [List.map_cons, List.map_nil, wk2, wk1]
  obtain ⟨l, rfl⟩ := rows_ex (fun c hc => kEv_ok hc) hq1.1
  have hll := hq1.2
  simp only [List.length_map] at hll
  simp only [List.map_map, ue_Rec, ue_Ev, ue_Row, ue_Msg, ue_Snd, ue_Ent, ue_Int, ue_Que, List.map_id] at *
  refine fs_of_awp mixed (sg_ok (gc_ok S68_ok (gc_ok S67_ok noS_ok))) Try.func21 rfl (ent_of Try.func21 rfl rfl) [] (by rw [Try.ntmps21]; exact Nat.le_of_ble_eq_true rfl) (by simp) (by simp) (by simp) true ?_
  rw [Try.ntmps21, Try.results21]
  simp
  grind (splits := 40) [newT, newE, zT]
@[simp] def S22 : Spec
  | [.int .i64 n, .sl _ cl] => some ((cl.all kEv = true ∧ cl.length ≤ 9223372036854775807) ∧ (((cl.map uEv)).length ≤ 100000), .tup [.agg (eTsk (newT n (cl.map uEv))), .int .i64 (newE n (cl.map uEv))], [])
  | _ => none
set_option maxRecDepth 100000 in
theorem S22_ok : SOK 22 S22 := by
  intro xs q r bs h hq
  unfold S22 at h
  split at h <;> cases h
  rename_i n exl cl
  obtain ⟨hq1, hq2⟩ := hq
  refine FS_wk ?_
  simp only [List.map_cons, List.map_nil, wk2, wk1]
  obtain ⟨l, rfl⟩ := rows_ex (fun c hc => kEv_ok hc) hq1.1
  have hll := hq1.2
  simp only [List.length_map] at hll
  simp only [List.map_map, ue_Rec, ue_Ev, ue_Row, ue_Msg, ue_Snd, ue_Ent, ue_Int, ue_Que, List.map_id] at *
  refine fs_of_awp mixed (sg_ok (gc_ok S69_ok noS_ok)) Try.func22 rfl (ent_of Try.func22 rfl rfl) [] (by rw [Try.ntmps22]; exact Nat.le_of_ble_eq_true rfl) (by simp) (by simp) (by simp) true ?_
  rw [Try.ntmps22, Try.results22]
  simp
  refine ⟨by grind (splits := 40) [newT, newE, zT], fun hn1 hn2 => ⟨by grind (splits := 40) [newT, newE, zT], fun hn3 => ?_⟩⟩
  refine awp_loop (fun σ => ∃ i : Nat, i ≤ l.length ∧ σ.T 0 = .int .i64 n ∧ σ.T 1 = .sl false (l.map eEv) ∧ σ.T 6 = .int .i64 i ∧ σ.T 4 = .ptr (4, 0) 1 0 ∧ σ.H (4, 0) = some (.var z31) ∧ σ.γ (4, 0) = 1 ∧ allL okEv (l.take i) = true) (fun σ => l.length - (ival (σ.T 6)).toNat) ⟨0, by simp⟩ ?_
  rintro σ ⟨i, hi, h0, h1, h6, h4, hH, hγ, hp⟩ J hJ
  by_cases hlt : i < l.length
  · have hw : IntKind.i64.wrap ((i : Int) + 1) = (i : Int) + 1 := wrap_i64 _ (by omega) (by omega)
    by_cases hb : okEv l[i] = true
    · simp [h0, h1, h6, h4, hH, hγ, hlt, getD_map, getQ_map, hw, hb]
      exact hJ _ ⟨i + 1, hlt, by simp [h0], by simp [h1], by simp, by simp [h4], by simp [hH], by simp [hγ], allL_step hlt hp hb⟩ (by simp [h6]; omega)
    · simp [h0, h1, h6, h4, hH, hγ, hlt, getD_map, getQ_map, hw, hb]
      have hn := allL_no hlt (by simpa using hb)
      grind (splits := 40) [newT, newE, zT]
  · simp [h0, h1, h6, h4, hH, hγ, hlt]
    have hall := allL_all hlt hp
    grind (splits := 40) [newT, newE, zT]

end Go.Proofs.Ytedhhjmjlpnlpaa.VW
