/- Sends, events. -/
import Derived.Test.YtedhhjmjlpnlpaaX1
namespace Go.Proofs.Ytedhhjmjlpnlpaa.VW
open Go Go.RowKit
set_option linter.unusedVariables false
set_option linter.unusedSimpArgs false
@[simp] def S89 : Spec
  | [.sl _ cl] => some ((cl.all kSnd = true ∧ cl.length ≤ 9223372036854775807), .bool (allL okSnd (cl.map uSnd)), [])
  | _ => none
set_option maxRecDepth 100000 in
theorem S89_ok : SOK 89 S89 := by
  intro xs q r bs h hq
  unfold S89 at h
  split at h <;> cases h
  rename_i exl cl
  have hq1 := hq
  refine FS_wk ?_
  simp only [List.map_cons, List.map_nil, wk2, wk1]
  obtain ⟨l, rfl⟩ := rows_ex (fun c hc => kSnd_ok hc) hq1.1
  have hll := hq1.2
  simp only [List.length_map] at hll
  try simp only [List.map_map, ue_Rec, ue_Ev, ue_Row, ue_Msg, ue_Snd, ue_Ent, ue_Int, ue_Que, List.map_id] at *
  refine fs_of_awp mixed (sg_ok (gc_ok S83_ok noS_ok)) Try.func89 rfl (ent_of Try.func89 rfl rfl) [] (by rw [Try.ntmps89]; exact Nat.le_of_ble_eq_true rfl) (by simp) (by simp) (by simp) true ?_
  rw [Try.ntmps89, Try.results89]
  simp
  refine awp_loop (fun σ => ∃ i : Nat, i ≤ l.length ∧ σ.T 5 = .sl false (l.map eSnd) ∧ σ.T 6 = .int .i64 l.length ∧ σ.T 7 = .int .i64 i ∧ allL okSnd (l.take i) = true) (fun σ => l.length - (ival (σ.T 7)).toNat) ⟨0, by simp⟩ ?_
  rintro σ ⟨i, hi, h5, h6, h7, hp⟩ J hJ
  by_cases hlt : i < l.length
  · have hw : IntKind.i64.wrap ((i : Int) + 1) = (i : Int) + 1 := wrap_i64 _ (by omega) (by omega)
    have hs := fun h => allL_step (p := okSnd) hlt hp h
    have hn := allL_no (p := okSnd) hlt
    unfold okSnd at hs hn
    simp [h5, h6, h7, hlt, getD_map, getQ_map, hw]
    refine ⟨fun h => ?_, fun h1 h2 h3 => hJ _ ⟨i + 1, hlt, by simp [h5], by simp [h6], by simp, hs ?_⟩ (by simp [h7]; omega)⟩
    · exact hn (by grind)
    · grind
  · simp [h5, h6, h7, hlt]
    exact allL_all hlt hp

theorem idx_at {α : Type} {p : α → Bool} {l : List α} {i : Nat} (h : i < l.length) (hp : allL p (l.take i) = true) (hi : p l[i] = false) : l.findIdx (fun x => !p x) = i := by
  rw [List.findIdx_eq h]
  refine ⟨by rw [hi]; rfl, fun j hj => ?_⟩
  unfold allL at hp
  rw [List.all_eq_true] at hp
  rw [hp (l[j]) (by rw [List.mem_take_iff_getElem]; exact ⟨j, by omega, rfl⟩)]; rfl
@[simp] def S109 : Spec
  | [.sl _ cl, .fn f []] => some ((cl.all kEv = true ∧ cl.length ≤ 9223372036854775807) ∧ (f = 65), .int .i64 (if allL okEv (cl.map uEv) then -1 else ((cl.map uEv)).findIdx (fun x => !okEv x)), [])
  | _ => none
set_option maxRecDepth 100000 in
theorem S109_ok : SOK 109 S109 := by
  intro xs q r bs h hq
  unfold S109 at h
  split at h <;> cases h
  rename_i exl cl f
  obtain ⟨hq1, hq2⟩ := hq
  refine FS_wk ?_
  simp only [List.map_cons, List.map_nil, wk2, wk1]
  obtain ⟨l, rfl⟩ := rows_ex (fun c hc => kEv_ok hc) hq1.1
  have hll := hq1.2
  simp only [List.length_map] at hll
  try simp only [List.map_map, ue_Rec, ue_Ev, ue_Row, ue_Msg, ue_Snd, ue_Ent, ue_Int, ue_Que, List.map_id] at *
  refine fs_of_awp mixed (sg_ok (gc_ok S65_ok noS_ok)) Try.func109 rfl (ent_of Try.func109 rfl rfl) [] (by rw [Try.ntmps109]; exact Nat.le_of_ble_eq_true rfl) (by simp) (by simp) (by simp) true ?_
  rw [Try.ntmps109, Try.results109]
  subst hq2
  simp
  refine awp_loop (fun σ => ∃ i : Nat, i ≤ l.length ∧ σ.T 0 = .sl false (l.map eEv) ∧ σ.T 7 = .int .i64 l.length ∧ σ.T 8 = .int .i64 i ∧ σ.T 1 = .fn 65 [] ∧ allL okEv (l.take i) = true) (fun σ => l.length - (ival (σ.T 8)).toNat) ⟨0, by simp⟩ ?_
  rintro σ ⟨i, hi, h0, h7, h8, h1, hp⟩ J hJ
  by_cases hlt : i < l.length
  · have hw : IntKind.i64.wrap ((i : Int) + 1) = (i : Int) + 1 := wrap_i64 _ (by omega) (by omega)
    have hs := fun h => allL_step (p := okEv) hlt hp h
    have hn := allL_no (p := okEv) hlt
    simp [h0, h7, h8, h1, hlt, getD_map, getQ_map, hw]
    refine ⟨fun h => ?_, fun h => hJ _ ⟨i + 1, hlt, by simp [h0, h7, h8, h1], by simp [h0, h7, h8, h1], by simp [h0, h7, h8, h1], by simp [h0, h7, h8, h1], hs (by grind)⟩ (by simp [h8]; omega)⟩
    rw [hn h, idx_at hlt hp h]; rfl
  · simp [h0, h7, h8, h1, hlt]
    have hall := allL_all hlt hp
    exact hall
@[simp] def S67 : Spec
  | [.sl _ cl, .fn f []] => some ((cl.all kEv = true ∧ cl.length ≤ 9223372036854775807) ∧ (f = 65), .bool (!allL okEv (cl.map uEv)), [])
  | _ => none
set_option maxRecDepth 100000 in
theorem S67_ok : SOK 67 S67 := by
  intro xs q r bs h hq
  unfold S67 at h
  split at h <;> cases h
  rename_i exl cl f
  obtain ⟨hq1, hq2⟩ := hq
  refine FS_wk ?_
  simp only [List.map_cons, List.map_nil, wk2, wk1]
  obtain ⟨l, rfl⟩ := rows_ex (fun c hc => kEv_ok hc) hq1.1
  have hll := hq1.2
  simp only [List.length_map] at hll
  try simp only [List.map_map, ue_Rec, ue_Ev, ue_Row, ue_Msg, ue_Snd, ue_Ent, ue_Int, ue_Que, List.map_id] at *
  refine fs_of_awp mixed (sg_ok (gc_ok S109_ok noS_ok)) Try.func67 rfl (ent_of Try.func67 rfl rfl) [] (by rw [Try.ntmps67]; exact Nat.le_of_ble_eq_true rfl) (by simp) (by simp) (by simp) true ?_
  rw [Try.ntmps67, Try.results67]
  subst hq2
  simp [hll]
  split <;> simp_all
@[simp] def S68 : Spec
  | [.sl _ cl] => some ((cl.all kEv = true ∧ cl.length ≤ 9223372036854775807) ∧ (((cl.map uEv)).length ≤ 100000), .sl false (((cl.map uEv)).map eEv), [])
  | _ => none
set_option maxRecDepth 100000 in
theorem S68_ok : SOK 68 S68 := by
  intro xs q r bs h hq
  unfold S68 at h
  split at h <;> cases h
  rename_i exl cl
  obtain ⟨hq1, hq2⟩ := hq
  refine FS_wk ?_
  simp only [List.map_cons, List.map_nil, wk2, wk1]
  obtain ⟨l, rfl⟩ := rows_ex (fun c hc => kEv_ok hc) hq1.1
  have hll := hq1.2
  simp only [List.length_map] at hll
  try simp only [List.map_map, ue_Rec, ue_Ev, ue_Row, ue_Msg, ue_Snd, ue_Ent, ue_Int, ue_Que, List.map_id] at *
  refine fs_of_awp mixed (sg_ok noS_ok) Try.func68 rfl (ent_of Try.func68 rfl rfl) [] (by rw [Try.ntmps68]; exact Nat.le_of_ble_eq_true rfl) (by simp) (by simp) (by simp) true ?_
  rw [Try.ntmps68, Try.results68]
  simp
  try grind
@[simp] def S80 : Spec
  | [.sl _ cl] => some ((cl.all kMsg = true ∧ cl.length ≤ 9223372036854775807) ∧ (((cl.map uMsg)).length ≤ 100000), .sl false (((cl.map uMsg)).map eMsg), [])
  | _ => none
set_option maxRecDepth 100000 in
theorem S80_ok : SOK 80 S80 := by
  intro xs q r bs h hq
  unfold S80 at h
  split at h <;> cases h
  rename_i exl cl
  obtain ⟨hq1, hq2⟩ := hq
  refine FS_wk ?_
  simp only [List.map_cons, List.map_nil, wk2, wk1]
  obtain ⟨l, rfl⟩ := rows_ex (fun c hc => kMsg_ok hc) hq1.1
  have hll := hq1.2
  simp only [List.length_map] at hll
  try simp only [List.map_map, ue_Rec, ue_Ev, ue_Row, ue_Msg, ue_Snd, ue_Ent, ue_Int, ue_Que, List.map_id] at *
  refine fs_of_awp mixed (sg_ok noS_ok) Try.func80 rfl (ent_of Try.func80 rfl rfl) [] (by rw [Try.ntmps80]; exact Nat.le_of_ble_eq_true rfl) (by simp) (by simp) (by simp) true ?_
  rw [Try.ntmps80, Try.results80]
  simp
  try grind
@[simp] def S115 : Spec
  | [.sl _ cl] => some ((cl.all kInt = true ∧ cl.length ≤ 9223372036854775807) ∧ (((cl.map uInt)).length ≤ 100000), .sl false (((cl.map uInt)).map eInt), [])
  | _ => none
set_option maxRecDepth 100000 in
theorem S115_ok : SOK 115 S115 := by
  intro xs q r bs h hq
  unfold S115 at h
  split at h <;> cases h
  rename_i exl cl
  obtain ⟨hq1, hq2⟩ := hq
  refine FS_wk ?_
  simp only [List.map_cons, List.map_nil, wk2, wk1]
  obtain ⟨l, rfl⟩ := rows_ex (fun c hc => kInt_ok hc) hq1.1
  have hll := hq1.2
  simp only [List.length_map] at hll
  try simp only [List.map_map, ue_Rec, ue_Ev, ue_Row, ue_Msg, ue_Snd, ue_Ent, ue_Int, ue_Que, List.map_id] at *
  refine fs_of_awp mixed (sg_ok noS_ok) Try.func115 rfl (ent_of Try.func115 rfl rfl) [] (by rw [Try.ntmps115]; exact Nat.le_of_ble_eq_true rfl) (by simp) (by simp) (by simp) true ?_
  rw [Try.ntmps115, Try.results115]
  simp
  try grind
@[simp] def S116 : Spec
  | [.sl _ cl] => some ((cl.all kEnt = true ∧ cl.length ≤ 9223372036854775807) ∧ (((cl.map uEnt)).length ≤ 100000), .sl false (((cl.map uEnt)).map eEnt), [])
  | _ => none
set_option maxRecDepth 100000 in
theorem S116_ok : SOK 116 S116 := by
  intro xs q r bs h hq
  unfold S116 at h
  split at h <;> cases h
  rename_i exl cl
  obtain ⟨hq1, hq2⟩ := hq
  refine FS_wk ?_
  simp only [List.map_cons, List.map_nil, wk2, wk1]
  obtain ⟨l, rfl⟩ := rows_ex (fun c hc => kEnt_ok hc) hq1.1
  have hll := hq1.2
  simp only [List.length_map] at hll
  try simp only [List.map_map, ue_Rec, ue_Ev, ue_Row, ue_Msg, ue_Snd, ue_Ent, ue_Int, ue_Que, List.map_id] at *
  refine fs_of_awp mixed (sg_ok noS_ok) Try.func116 rfl (ent_of Try.func116 rfl rfl) [] (by rw [Try.ntmps116]; exact Nat.le_of_ble_eq_true rfl) (by simp) (by simp) (by simp) true ?_
  rw [Try.ntmps116, Try.results116]
  simp
  try grind
@[simp] def S117 : Spec
  | [.sl _ cl] => some ((cl.all kRow = true ∧ cl.length ≤ 9223372036854775807) ∧ (((cl.map uRow)).length ≤ 100000), .sl false (((cl.map uRow)).map eRow), [])
  | _ => none
set_option maxRecDepth 100000 in
theorem S117_ok : SOK 117 S117 := by
  intro xs q r bs h hq
  unfold S117 at h
  split at h <;> cases h
  rename_i exl cl
  obtain ⟨hq1, hq2⟩ := hq
  refine FS_wk ?_
  simp only [List.map_cons, List.map_nil, wk2, wk1]
  obtain ⟨l, rfl⟩ := rows_ex (fun c hc => kRow_ok hc) hq1.1
  have hll := hq1.2
  simp only [List.length_map] at hll
  try simp only [List.map_map, ue_Rec, ue_Ev, ue_Row, ue_Msg, ue_Snd, ue_Ent, ue_Int, ue_Que, List.map_id] at *
  refine fs_of_awp mixed (sg_ok noS_ok) Try.func117 rfl (ent_of Try.func117 rfl rfl) [] (by rw [Try.ntmps117]; exact Nat.le_of_ble_eq_true rfl) (by simp) (by simp) (by simp) true ?_
  rw [Try.ntmps117, Try.results117]
  simp
  try grind
@[simp] def S118 : Spec
  | [.sl _ cl] => some ((cl.all kRec = true ∧ cl.length ≤ 9223372036854775807) ∧ (((cl.map uRec)).length ≤ 100000), .sl false (((cl.map uRec)).map eRec), [])
  | _ => none
set_option maxRecDepth 100000 in
theorem S118_ok : SOK 118 S118 := by
  intro xs q r bs h hq
  unfold S118 at h
  split at h <;> cases h
  rename_i exl cl
  obtain ⟨hq1, hq2⟩ := hq
  refine FS_wk ?_
  simp only [List.map_cons, List.map_nil, wk2, wk1]
  obtain ⟨l, rfl⟩ := rows_ex (fun c hc => kRec_ok hc) hq1.1
  have hll := hq1.2
  simp only [List.length_map] at hll
  try simp only [List.map_map, ue_Rec, ue_Ev, ue_Row, ue_Msg, ue_Snd, ue_Ent, ue_Int, ue_Que, List.map_id] at *
  refine fs_of_awp mixed (sg_ok noS_ok) Try.func118 rfl (ent_of Try.func118 rfl rfl) [] (by rw [Try.ntmps118]; exact Nat.le_of_ble_eq_true rfl) (by simp) (by simp) (by simp) true ?_
  rw [Try.ntmps118, Try.results118]
  simp
  try grind
@[simp] def S79 : Spec
  | [.sl _ cl] => some ((cl.all kQue = true ∧ cl.length ≤ 9223372036854775807) ∧ (((cl.map uQue)).length ≤ 100000), .own (0, 0) 0, [.rows 2 (((cl.map uQue)).map eQue)])
  | _ => none
set_option maxRecDepth 100000 in
theorem S79_ok : SOK 79 S79 := by
  intro xs q r bs h hq
  unfold S79 at h
  split at h <;> cases h
  rename_i exl cl
  obtain ⟨hq1, hq2⟩ := hq
  refine FS_wk ?_
  simp only [List.map_cons, List.map_nil, wk2, wk1]
  obtain ⟨l, rfl⟩ := rows_ex (fun c hc => kQue_ok hc) hq1.1
  have hll := hq1.2
  simp only [List.length_map] at hll
  try simp only [List.map_map, ue_Rec, ue_Ev, ue_Row, ue_Msg, ue_Snd, ue_Ent, ue_Int, ue_Que, List.map_id] at *
  refine fs_of_awp2 mixed (sg_ok noS_ok) Try.func79 rfl (ent_of Try.func79 rfl rfl) [(7, 0)] (by rw [Try.ntmps79]; exact Nat.le_of_ble_eq_true rfl) (by simp) (by simp) (by simp) true 2 2 (7, 0) ?_
  rw [Try.ntmps79, Try.results79]
  simp
  try grind
@[simp] def S114 : Spec
  | [.sl _ cl] => some ((cl.all kSnd = true ∧ cl.length ≤ 9223372036854775807) ∧ (((cl.map uSnd)).length ≤ 100000), .own (0, 0) 0, [.rows 11 (((cl.map uSnd)).map eSnd)])
  | _ => none
set_option maxRecDepth 100000 in
theorem S114_ok : SOK 114 S114 := by
  intro xs q r bs h hq
  unfold S114 at h
  split at h <;> cases h
  rename_i exl cl
  obtain ⟨hq1, hq2⟩ := hq
  refine FS_wk ?_
  simp only [List.map_cons, List.map_nil, wk2, wk1]
  obtain ⟨l, rfl⟩ := rows_ex (fun c hc => kSnd_ok hc) hq1.1
  have hll := hq1.2
  simp only [List.length_map] at hll
  try simp only [List.map_map, ue_Rec, ue_Ev, ue_Row, ue_Msg, ue_Snd, ue_Ent, ue_Int, ue_Que, List.map_id] at *
  refine fs_of_awp2 mixed (sg_ok noS_ok) Try.func114 rfl (ent_of Try.func114 rfl rfl) [(7, 0)] (by rw [Try.ntmps114]; exact Nat.le_of_ble_eq_true rfl) (by simp) (by simp) (by simp) true 2 11 (7, 0) ?_
  rw [Try.ntmps114, Try.results114]
  simp
  try grind

end Go.Proofs.Ytedhhjmjlpnlpaa.VW
