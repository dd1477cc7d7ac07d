/- What sources send. -/
import Derived.Test.YtedhhjmjlpnlpaaXT
namespace Go.Proofs.Ytedhhjmjlpnlpaa.VW
open Go Go.RowKit
set_option linter.unusedVariables false
set_option linter.unusedSimpArgs false

theorem sentL_b {t : Tsk} : (sentL t).length ≤ 4060 := by
  unfold sentL
  by_cases h : askS t = 0
  · rw [if_pos h]
    have h1 : okT t = true := by unfold askS at h; grind
    have := (okT_pd h1).2
    have := okT_ev60 h1
    simp; omega
  · rw [if_neg h]; simp
theorem alive28a : newT 0 [⟨false, 0, ⟨3, 0, 0⟩⟩, ⟨true, 5, ⟨0, 0, 0⟩⟩] = ⟨1, 0, 0, [], [], [], [⟨false, 0, ⟨3, 0, 0⟩⟩, ⟨true, 5, ⟨0, 0, 0⟩⟩], [], []⟩ := by decide
theorem alive28b : newE 0 [⟨false, 0, ⟨3, 0, 0⟩⟩, ⟨true, 5, ⟨0, 0, 0⟩⟩] = 0 := by decide
theorem alive28c : sentL ⟨1, 0, 0, [], [], [], [⟨false, 0, ⟨3, 0, 0⟩⟩, ⟨true, 5, ⟨0, 0, 0⟩⟩], [], []⟩ = [⟨1, ⟨3, 0, 0⟩, 0, ⟨0, 0, 0, 0, 0⟩⟩, ⟨2, ⟨0, 0, 0⟩, 5, ⟨0, 0, 0, 0, 0⟩⟩] := by decide
theorem alive28d : askS ⟨1, 0, 0, [], [], [], [⟨false, 0, ⟨3, 0, 0⟩⟩, ⟨true, 5, ⟨0, 0, 0⟩⟩], [], []⟩ = 0 := by decide
@[simp] def S34 : Spec
  | [] => some (True, .bool true, [])
  | _ => none
set_option maxHeartbeats 2000000 in
set_option maxRecDepth 100000 in
theorem S34_ok : SOK 34 S34 := by
  intro xs q r bs h hq
  unfold S34 at h
  split at h <;> cases h
  refine FS_wk ?_
  simp only [List.map_cons, List.map_nil, wk2, wk1]
  refine fs_of_awp mixed (sg_ok (gc_ok S21_ok (gc_ok S35_ok (gc_ok S36_ok noS_ok)))) Try.func34 rfl (ent_of Try.func34 rfl rfl) [] (by rw [Try.ntmps34]; exact Nat.le_of_ble_eq_true rfl) (by simp) (by simp) (by simp) true ?_
  rw [Try.ntmps34, Try.results34]
  simp [alive28a, alive28b, alive28c, alive28d]
@[simp] def S55 : Spec
  | [.agg ct] => some ((kTsk ct = true) ∧ (bT (uTsk ct)), .tup [.sl false ((sentL (uTsk ct)).map eMsg), .int .i64 (askS (uTsk ct))], [])
  | _ => none
set_option maxHeartbeats 8000000 in
set_option maxRecDepth 100000 in
theorem S55_ok : SOK 55 S55 := by
  intro xs q r bs h hq
  unfold S55 at h
  split at h <;> cases h
  rename_i ct
  obtain ⟨hq1, hq2⟩ := hq
  refine FS_wk ?_
  simp only [List.map_cons, List.map_nil, wk2, wk1]
  rw [kTsk_wk hq1]
  generalize uTsk ct = t at *
  refine fs_of_awp mixed (sg_ok (gc_ok S95_ok (gc_ok S97_ok noS_ok))) Try.func55 rfl (ent_of Try.func55 rfl rfl) [] (by rw [Try.ntmps55]; exact Nat.le_of_ble_eq_true rfl) (by simp) (by simp) (by simp) true ?_
  rw [Try.ntmps55, Try.results55]
  obtain ⟨x1, x2, x3, x4, x5, x6⟩ := hq2
  by_cases ha : askS t = 0
  rotate_left
  · have : sentL t = [] := by unfold sentL; rw [if_neg ha]
    simp [x1, x2, x3, x4, x5, x6, ha, this]
  have hok : okT t = true := by unfold askS at ha; grind
  have hpd := (okT_pd hok).2
  have he60 := okT_ev60 hok
  have hsent : sentL t = t.pd.map (·.m) ++ t.ev.map toldM := by unfold sentL; rw [if_pos ha]
  rw [hsent, ha]
  simp [x1, x2, x3, x4, x5, x6, ha]
  refine awp_loop (fun σ => ∃ i : Nat, i ≤ t.pd.length ∧ σ.T 1 = .ptr (1, 0) 1 0 ∧ σ.H (1, 0) = some (.var (eTsk t)) ∧ σ.γ (1, 0) = 1 ∧ σ.T 3 = .int .i64 0 ∧ σ.T 6 = .int .i64 i ∧ (((t.pd.take i).map (·.m) = [] ∧ σ.T 5 = .sl true []) ∨ ((t.pd.take i).map (·.m) ≠ [] ∧ ((σ.T 5 = .own (28, 0) (σ.γ (28, 0)) ∧ σ.H (28, 0) = some (.rows 10 (((t.pd.take i).map (·.m)).map eMsg))) ∨ (σ.T 5 = .own (44, 0) (σ.γ (44, 0)) ∧ σ.H (44, 0) = some (.rows 10 (((t.pd.take i).map (·.m)).map eMsg))))))) (fun σ => t.pd.length - (ival (σ.T 6)).toNat) ⟨0, by simp⟩ ?_
  rintro σ ⟨i, hi, h1, hH1, hg1, h3, h6, hO⟩ J hJ
  simp only [eTsk] at hH1
  by_cases hlt : i < t.pd.length
  · have hw : IntKind.i64.wrap ((i : Int) + 1) = (i : Int) + 1 := wrap_i64 _ (by omega) (by omega)
    have hs : (t.pd.take (i + 1)).map (·.m) = (t.pd.take i).map (·.m) ++ [t.pd[i].m] := by rw [List.take_succ_eq_append_getElem hlt, List.map_append]; rfl
    have hlen : ((t.pd.take i).map (·.m)).length ≤ 4060 := by simp; omega
    generalize (t.pd.take i).map (·.m) = L at *
    rcases hO with ⟨rfl, hO⟩ | ⟨hne, ⟨hO, hR⟩ | ⟨hO, hR⟩⟩
    · simp [h1, hH1, hg1, h3, h6, hO, hlt, getD_map, getQ_map, hw]
      exact hJ _ ⟨i + 1, by omega, by simp [h1], by simp [hH1], by simp [hg1], by simp [h3], by simp, .inr ⟨by rw [hs]; simp, .inl ⟨by simp, by rw [hs]; simp⟩⟩⟩ (by simp [h6]; omega)
    · simp [h1, hH1, hg1, h3, h6, hO, hR, hlt, getD_map, getQ_map, hw]
      exact ⟨⟨by omega, by omega⟩, hJ _ ⟨i + 1, by omega, by simp [h1], by simp [hH1], by simp [hg1], by simp [h3], by simp, .inr ⟨by rw [hs]; simp, .inl ⟨by simp, by rw [hs]; simp⟩⟩⟩ (by simp [h6]; omega)⟩
    · simp [h1, hH1, hg1, h3, h6, hO, hR, hlt, getD_map, getQ_map, hw]
      exact ⟨⟨by omega, by omega⟩, hJ _ ⟨i + 1, by omega, by simp [h1], by simp [hH1], by simp [hg1], by simp [h3], by simp, .inr ⟨by rw [hs]; simp, .inl ⟨by simp, by rw [hs]; simp⟩⟩⟩ (by simp [h6]; omega)⟩
  have hti : t.pd.take i = t.pd := List.take_of_length_le (by omega)
  rw [hti] at hO
  simp [h1, hH1, hg1, h3, h6, hlt]
  refine awp_loop (fun σ => ∃ i : Nat, i ≤ t.ev.length ∧ σ.T 1 = .ptr (1, 0) 1 0 ∧ σ.H (1, 0) = some (.var (eTsk t)) ∧ σ.γ (1, 0) = 1 ∧ σ.T 3 = .int .i64 0 ∧ σ.T 7 = .int .i64 i ∧ ((t.pd.map (·.m) ++ (t.ev.take i).map toldM = [] ∧ σ.T 5 = .sl true []) ∨ (t.pd.map (·.m) ++ (t.ev.take i).map toldM ≠ [] ∧ ((σ.T 5 = .own (28, 0) (σ.γ (28, 0)) ∧ σ.H (28, 0) = some (.rows 10 ((t.pd.map (·.m) ++ (t.ev.take i).map toldM).map eMsg))) ∨ (σ.T 5 = .own (44, 0) (σ.γ (44, 0)) ∧ σ.H (44, 0) = some (.rows 10 ((t.pd.map (·.m) ++ (t.ev.take i).map toldM).map eMsg))))))) (fun σ => t.ev.length - (ival (σ.T 7)).toNat) ⟨0, by simp [h1, hH1, hg1, h3]; simpa using hO⟩ ?_
  clear h1 hH1 hg1 h3 h6 hlt hti hO hJ hi
  rintro σ ⟨i, hi, h1, hH1, hg1, h3, h7, hO⟩ J hJ
  simp only [eTsk] at hH1
  by_cases hlt : i < t.ev.length
  · have hw : IntKind.i64.wrap ((i : Int) + 1) = (i : Int) + 1 := wrap_i64 _ (by omega) (by omega)
    have hs : t.pd.map (·.m) ++ (t.ev.take (i + 1)).map toldM = (t.pd.map (·.m) ++ (t.ev.take i).map toldM) ++ [toldM t.ev[i]] := by rw [List.take_succ_eq_append_getElem hlt, List.map_append, List.append_assoc]; rfl
    have hlen : (t.pd.map (·.m) ++ (t.ev.take i).map toldM).length ≤ 4060 := by simp; omega
    generalize t.pd.map (·.m) ++ (t.ev.take i).map toldM = L at *
    rcases hO with ⟨rfl, hO⟩ | ⟨hne, ⟨hO, hR⟩ | ⟨hO, hR⟩⟩
    · simp [h1, hH1, hg1, h3, h7, hO, hlt, getD_map, getQ_map, hw]
      exact hJ _ ⟨i + 1, by omega, by simp [h1], by simp [hH1], by simp [hg1], by simp [h3], by simp, .inr ⟨by rw [hs]; simp, .inr ⟨by simp, by rw [hs]; simp⟩⟩⟩ (by simp [h7]; omega)
    · simp [h1, hH1, hg1, h3, h7, hO, hR, hlt, getD_map, getQ_map, hw]
      exact ⟨⟨by omega, by omega⟩, hJ _ ⟨i + 1, by omega, by simp [h1], by simp [hH1], by simp [hg1], by simp [h3], by simp, .inr ⟨by rw [hs]; simp, .inr ⟨by simp, by rw [hs]; simp⟩⟩⟩ (by simp [h7]; omega)⟩
    · simp [h1, hH1, hg1, h3, h7, hO, hR, hlt, getD_map, getQ_map, hw]
      exact ⟨⟨by omega, by omega⟩, hJ _ ⟨i + 1, by omega, by simp [h1], by simp [hH1], by simp [hg1], by simp [h3], by simp, .inr ⟨by rw [hs]; simp, .inr ⟨by simp, by rw [hs]; simp⟩⟩⟩ (by simp [h7]; omega)⟩
  · have hti : t.ev.take i = t.ev := List.take_of_length_le (by omega)
    rw [hti] at hO
    rcases hO with ⟨hL, hO⟩ | ⟨hne, ⟨hO, hR⟩ | ⟨hO, hR⟩⟩
    · simp [h1, hH1, hg1, h3, h7, hlt, hO]
      simpa using hL
    · simp [h1, hH1, hg1, h3, h7, hlt, hO, hR]
    · simp [h1, hH1, hg1, h3, h7, hlt, hO, hR]

end Go.Proofs.Ytedhhjmjlpnlpaa.VW
