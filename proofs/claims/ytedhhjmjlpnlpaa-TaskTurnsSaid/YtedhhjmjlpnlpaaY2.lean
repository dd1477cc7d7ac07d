/- What is asked. -/
import Derived.Test.YtedhhjmjlpnlpaaY1
namespace Go.Proofs.Ytedhhjmjlpnlpaa.VW
open Go Go.RowKit
set_option linter.unusedVariables false
set_option linter.unusedSimpArgs false

theorem bA_app {a b : List Que} (ha : bA a) (hb : bA b) : bA (a ++ b) := by
  intro q hq; rcases List.mem_append.1 hq with h | h
  · exact ha q h
  · exact hb q h
theorem map_app_eQue (a b : List Que) : a.map eQue ++ b.map eQue = (a ++ b).map eQue := List.map_append.symm
@[simp] def S76 : Spec
  | [.agg ct, .sl _ ca, .sl _ cc] => some ((kTsk ct = true) ∧ (ca.all kQue = true ∧ ca.length ≤ 9223372036854775807) ∧ (cc.all kQue = true ∧ cc.length ≤ 9223372036854775807) ∧ (bT (uTsk ct) ∧ bA (ca.map uQue) ∧ bA (cc.map uQue)), .int .i64 (askE (uTsk ct) (ca.map uQue) (cc.map uQue)), [])
  | _ => none
set_option maxHeartbeats 4000000 in
set_option maxRecDepth 100000 in
theorem S76_ok : SOK 76 S76 := by
  intro xs q r bs h hq
  unfold S76 at h
  split at h <;> cases h
  rename_i ct exa ca exc cc
  obtain ⟨hq1, hq2, hq3, hq4⟩ := hq
  refine FS_wk ?_
  simp only [List.map_cons, List.map_nil, wk2, wk1]
  rw [kTsk_wk hq1]
  generalize uTsk ct = t at *
  obtain ⟨a, rfl⟩ := rows_ex (fun c hc => kQue_ok hc) hq2.1
  have hla := hq2.2
  simp only [List.length_map] at hla
  obtain ⟨c, rfl⟩ := rows_ex (fun c hc => kQue_ok hc) hq3.1
  have hlc := hq3.2
  simp only [List.length_map] at hlc
  try simp only [List.map_map, ue_Rec, ue_Ev, ue_Row, ue_Msg, ue_Snd, ue_Ent, ue_Int, ue_Que, List.map_id] at *
  refine fs_of_awp mixed (sg_ok (gc_ok S59_ok (gc_ok S113_ok (gc_ok S82_ok noS_ok)))) Try.func76 rfl (ent_of Try.func76 rfl rfl) [] (by rw [Try.ntmps76]; exact Nat.le_of_ble_eq_true rfl) (by simp) (by simp) (by simp) true ?_
  rw [Try.ntmps76, Try.results76]
  obtain ⟨⟨x1, x2, x3, x4, x5, x6⟩, ha, hb⟩ := hq4
  by_cases c1 : okT t = true
  rotate_left
  · have e : askE t a c = 8 := by simp [askE, c1]
    simp [x1, x2, x3, x4, x5, x6, c1, e]
  by_cases c2 : 4 < (a.length : Int)
  · have e : askE t a c = 4 := by unfold askE; rw [if_pos c1, if_pos (by omega)]
    simp [x1, x2, x3, x4, x5, x6, c1, c2, e]
  by_cases c3 : 3 < (c.length : Int)
  · have e : askE t a c = 4 := by unfold askE; rw [if_pos c1, if_pos (by omega)]
    simp [x1, x2, x3, x4, x5, x6, c1, c2, c3, e]
  have e : askE t a c = if allL okQ (a ++ c) then 0 else 8 := by unfold askE; rw [if_pos c1, if_neg (by omega)]
  rw [e]
  have hL := bA_app ha hb
  have hlen : (a ++ c).length = a.length + c.length := List.length_append
  have hl1 : a.length ≤ 100 := by omega
  have hl2 : c.length ≤ 100 := by omega
  simp [x1, x2, x3, x4, x5, x6, c1, c2, c3, hl1, hl2, map_app_eQue, -List.map_append]
  generalize a ++ c = L at *
  refine awp_loop (fun σ => ∃ i : Nat, i ≤ L.length ∧ σ.T 27 = .sl false (L.map eQue) ∧ σ.T 28 = .int .i64 L.length ∧ σ.T 29 = .int .i64 i ∧ allL okQ (L.take i) = true) (fun σ => L.length - (ival (σ.T 29)).toNat) ⟨0, by simp; try omega⟩ ?_
  rintro σ ⟨i, hi, h27, h28, h29, hp⟩ J hJ
  by_cases hlt : i < L.length
  · have hw : IntKind.i64.wrap ((i : Int) + 1) = (i : Int) + 1 := wrap_i64 _ (by omega) (by omega)
    have hqi := hL L[i] (List.getElem_mem hlt)
    by_cases hm : okQ L[i] = true
    · simp [h27, h28, h29, hlt, getD_map, getQ_map, hw, hm, hqi]
      exact hJ _ ⟨i + 1, hlt, by simp [h27], by simp [h28], by simp, allL_step hlt hp hm⟩ (by simp [h29]; omega)
    · have hn := allL_no hlt (by simpa using hm)
      simp [h27, h28, h29, hlt, getD_map, getQ_map, hw, hm, hqi, hn]
  · have hall := allL_all hlt hp
    simp [h27, h28, h29, hlt, hall]
@[simp] def S100 : Spec
  | [.agg ct, .sl _ ca, .sl _ cc] => some ((kTsk ct = true) ∧ (ca.all kQue = true ∧ ca.length ≤ 9223372036854775807) ∧ (cc.all kQue = true ∧ cc.length ≤ 9223372036854775807) ∧ (bT (uTsk ct) ∧ bA (ca.map uQue) ∧ bA (cc.map uQue)), .int .i64 (askE (uTsk ct) (ca.map uQue) (cc.map uQue)), [])
  | _ => none
set_option maxHeartbeats 8000000 in
set_option maxRecDepth 100000 in
theorem S100_ok : SOK 100 S100 := by
  intro xs q r bs h hq
  unfold S100 at h
  split at h <;> cases h
  rename_i ct exa ca exc cc
  obtain ⟨hq1, hq2, hq3, hq4⟩ := hq
  refine FS_wk ?_
  simp only [List.map_cons, List.map_nil, wk2, wk1]
  rw [kTsk_wk hq1]
  generalize uTsk ct = t at *
  obtain ⟨a, rfl⟩ := rows_ex (fun c hc => kQue_ok hc) hq2.1
  have hla := hq2.2
  simp only [List.length_map] at hla
  obtain ⟨c, rfl⟩ := rows_ex (fun c hc => kQue_ok hc) hq3.1
  have hlc := hq3.2
  simp only [List.length_map] at hlc
  try simp only [List.map_map, ue_Rec, ue_Ev, ue_Row, ue_Msg, ue_Snd, ue_Ent, ue_Int, ue_Que, List.map_id] at *
  refine fs_of_awp mixed (sg_ok (gc_ok S27_ok (gc_ok S60_ok noS_ok))) Try.func100 rfl (ent_of Try.func100 rfl rfl) [] (by rw [Try.ntmps100]; exact Nat.le_of_ble_eq_true rfl) (by simp) (by simp) (by simp) true ?_
  rw [Try.ntmps100, Try.results100]
  obtain ⟨⟨x1, x2, x3, x4, x5, x6⟩, ha, hb⟩ := hq4
  by_cases c1 : okT t = true
  rotate_left
  · have e : askE t a c = 8 := by simp [askE, c1]
    simp [x1, x2, x3, x4, x5, x6, c1, e]
  by_cases c2 : 4 < (a.length : Int)
  · have e : askE t a c = 4 := by unfold askE; rw [if_pos c1, if_pos (by omega)]
    simp [x1, x2, x3, x4, x5, x6, c1, c2, e]
  by_cases c3 : 3 < (c.length : Int)
  · have e : askE t a c = 4 := by unfold askE; rw [if_pos c1, if_pos (by omega)]
    simp [x1, x2, x3, x4, x5, x6, c1, c2, c3, e]
  have e : askE t a c = if allL okQ (a ++ c) then 0 else 8 := by unfold askE; rw [if_pos c1, if_neg (by omega)]
  rw [e]
  have hL := bA_app ha hb
  have hlen : (a ++ c).length = a.length + c.length := List.length_append
  simp [x1, x2, x3, x4, x5, x6, c1, c2, c3]
  refine awp_loop (fun σ => ∃ i : Nat, i ≤ (a ++ c).length ∧ σ.T 1 = .sl false (a.map eQue) ∧ σ.T 2 = .sl false (c.map eQue) ∧ σ.T 8 = .int .i64 i ∧ allL okQ ((a ++ c).take i) = true) (fun σ => (a ++ c).length - (ival (σ.T 8)).toNat) ⟨0, by simp⟩ ?_
  rintro σ ⟨i, hi, h1, h2, h8, hp⟩ J hJ
  have hws : IntKind.i64.wrap ((a.length : Int) + c.length) = (a.length : Int) + c.length := wrap_i64 _ (by omega) (by omega)
  by_cases hlt : i < (a ++ c).length
  · have hw : IntKind.i64.wrap ((i : Int) + 1) = (i : Int) + 1 := wrap_i64 _ (by omega) (by omega)
    have hltI : (i : Int) < (a.length : Int) + c.length := by omega
    have hqi := hL (a ++ c)[i] (List.getElem_mem hlt)
    by_cases hia : i < a.length
    · have hg : (a ++ c)[i] = a[i] := List.getElem_append_left hia
      rw [hg] at hqi
      by_cases hm : okQ a[i] = true
      · simp [h1, h2, h8, hltI, hia, hws, getD_map, getQ_map, hw, hm, hqi]
        exact hJ _ ⟨i + 1, by omega, by simp [h1], by simp [h2], by simp, allL_step hlt hp (by rw [hg]; exact hm)⟩ (by simp [h8]; omega)
      · have hn := allL_no hlt (by rw [hg]; simpa using hm)
        simp [h1, h2, h8, hltI, hia, hws, getD_map, getQ_map, hw, hm, hqi, hn]
    · obtain ⟨k, hk⟩ : ∃ k, k = i - a.length := ⟨_, rfl⟩
      have hic : k < c.length := by omega
      have hg : (a ++ c)[i] = c[k] := by subst hk; exact List.getElem_append_right (by omega)
      rw [hg] at hqi
      have hws2 : IntKind.i64.wrap ((i : Int) - a.length) = (k : Int) := by rw [wrap_i64 _ (by omega) (by omega)]; omega
      by_cases hm : okQ c[k] = true
      · simp [h1, h2, h8, hltI, hia, hws, hws2, hic, getD_map, getQ_map, hw, hm, hqi]
        exact hJ _ ⟨i + 1, by omega, by simp [h1], by simp [h2], by simp, allL_step hlt hp (by rw [hg]; exact hm)⟩ (by simp [h8]; omega)
      · have hn := allL_no hlt (by rw [hg]; simpa using hm)
        simp [h1, h2, h8, hltI, hia, hws, hws2, hic, getD_map, getQ_map, hw, hm, hqi, hn]
  · have hltI : ¬ (i : Int) < (a.length : Int) + c.length := by omega
    have hall := allL_all hlt hp
    simp [h1, h2, h8, hltI, hws, hall]

end Go.Proofs.Ytedhhjmjlpnlpaa.VW
