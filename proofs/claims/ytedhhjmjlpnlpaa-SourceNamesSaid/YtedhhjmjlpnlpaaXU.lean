/- Steps of sources. -/
import Derived.Test.YtedhhjmjlpnlpaaXS
namespace Go.Proofs.Ytedhhjmjlpnlpaa.VW
open Go Go.RowKit
set_option linter.unusedVariables false
set_option linter.unusedSimpArgs false

theorem stpT_b {t : Tsk} (h : bT t) : bT (stpT t) := by
  unfold stpT; split
  · simp only [bT] at h ⊢
    simp; omega
  · simp [zT]
theorem getD_0 (l : List Ev) (h : 0 < l.length) : l.getD 0 default = l[0] := by simp [h]
@[simp] def S53 : Spec
  | [.agg ct] => some ((kTsk ct = true) ∧ (bT (uTsk ct)), .tup [.agg (eTsk (stpT (uTsk ct))), .int .i64 (stepE (uTsk ct))], [])
  | _ => none
set_option maxHeartbeats 4000000 in
set_option maxRecDepth 100000 in
theorem S53_ok : SOK 53 S53 := by
  intro xs q r bs h hq
  unfold S53 at h
  split at h <;> cases h
  rename_i ct
  obtain ⟨hq1, hq2⟩ := hq
  refine FS_wk ?_
  simp only [List.map_cons, List.map_nil, wk2, wk1]
  rw [kTsk_wk hq1]
  generalize uTsk ct = t at *
  refine fs_of_awp mixed (sg_ok (gc_ok S84_ok (gc_ok S56_ok (gc_ok S68_ok (gc_ok S41_ok noS_ok))))) Try.func53 rfl (ent_of Try.func53 rfl rfl) [] (by rw [Try.ntmps53]; exact Nat.le_of_ble_eq_true rfl) (by simp) (by simp) (by simp) true ?_
  rw [Try.ntmps53, Try.results53]
  obtain ⟨x1, x2, x3, x4, x5, x6⟩ := hq2
  by_cases e : stepE t = 0
  · obtain ⟨h1, h2, h3, h4, h5, h6⟩ := step_ok e
    have ha : askS t = 0 := by simp [askS, h1, h2]
    have h5' : okEv t.ev[0] = true := by simpa [h4] using h5
    have h4' : (0 : Int) < t.ev.length := by omega
    have h4'' : (1 : Int) ≤ t.ev.length := by omega
    have hn0 : ¬ (t.ev.length : Int) = 0 := by omega
    have hn1 : ¬ t.ev = [] := by intro h; rw [h] at h4; simp at h4
    have hs1 : sent1 t = ⟨0, toldM t.ev[0]⟩ := by simp [sent1, h4]
    have hT : pendT { t with ev := t.ev.drop 1 } [⟨0, toldM t.ev[0]⟩] = stpT t := by
      unfold pendT stpT; rw [← hs1, h6, if_pos rfl, if_pos e, h3]; rfl
    have hS : sndE { t with ev := t.ev.drop 1 } [⟨0, toldM t.ev[0]⟩] = 0 := by rw [← hs1]; exact h6
    simp at hT hS
    rw [e]
    simp [x1, x2, x3, x4, x5, x6, ha, eq_true h3, h4, h4', h4'', hn0, hn1, getD_map, getQ_map, h5', hT, hS]
    refine ⟨by omega, fun x hx => ?_, by omega⟩
    obtain ⟨y, _, rfl⟩ := List.mem_map.1 (List.mem_of_mem_tail hx)
    rfl
  · have e1 : stpT t = zT := by unfold stpT; rw [if_neg e]
    rw [e1]
    by_cases ha : askS t = 0
    · by_cases hp : 0 < t.pd.length
      · have : stepE t = 18 := by unfold stepE; simp [ha, hp]
        simp [x1, x2, x3, x4, x5, x6, ha, hp, this, zT]
      · have hev : t.ev = [] := by
          unfold stepE at e; rw [if_neg (by simp [ha]), if_neg hp] at e
          exact List.eq_nil_of_length_eq_zero (by grind)
        have hpd : t.pd = [] := List.eq_nil_of_length_eq_zero (by omega)
        have : stepE t = 6 := by unfold stepE; simp [ha, hpd, hev]
        simp [x1, x2, x3, x4, x5, x6, ha, eq_true hpd, eq_true hev, this, zT]
    · have : stepE t = askS t := by unfold stepE; simp [ha]
      simp [x1, x2, x3, x4, x5, x6, ha, this, zT]
@[simp] def S54 : Spec
  | [.agg ct] => some ((kTsk ct = true) ∧ (bT (uTsk ct)), .tup [.agg (eTsk (stpT (uTsk ct))), .int .i64 (stepE (uTsk ct))], [])
  | _ => none
set_option maxHeartbeats 4000000 in
set_option maxRecDepth 100000 in
theorem S54_ok : SOK 54 S54 := by
  intro xs q r bs h hq
  unfold S54 at h
  split at h <;> cases h
  rename_i ct
  obtain ⟨hq1, hq2⟩ := hq
  refine FS_wk ?_
  simp only [List.map_cons, List.map_nil, wk2, wk1]
  rw [kTsk_wk hq1]
  generalize uTsk ct = t at *
  refine fs_of_awp mixed (sg_ok (gc_ok S95_ok (gc_ok S96_ok noS_ok))) Try.func54 rfl (ent_of Try.func54 rfl rfl) [] (by rw [Try.ntmps54]; exact Nat.le_of_ble_eq_true rfl) (by simp) (by simp) (by simp) true ?_
  rw [Try.ntmps54, Try.results54]
  obtain ⟨x1, x2, x3, x4, x5, x6⟩ := hq2
  by_cases e : stepE t = 0
  · obtain ⟨h1, h2, h3, h4, h5, h6⟩ := step_ok e
    have ha : askS t = 0 := by simp [askS, h1, h2]
    have hn1 : ¬ t.ev = [] := by intro h; rw [h] at h4; simp at h4
    have hT : stpT t = { t with pd := [sent1 t], ev := t.ev.drop 1 } := by unfold stpT; rw [if_pos e]
    rw [e, hT]
    simp [x1, x2, x3, x4, x5, x6, ha, eq_true h3, h4, hn1]
  · have e1 : stpT t = zT := by unfold stpT; rw [if_neg e]
    rw [e1]
    by_cases ha : askS t = 0
    · by_cases hp : 0 < t.pd.length
      · have : stepE t = 18 := by unfold stepE; simp [ha, hp]
        simp [x1, x2, x3, x4, x5, x6, ha, hp, this, zT]
      · have hev : t.ev = [] := by
          unfold stepE at e; rw [if_neg (by simp [ha]), if_neg hp] at e
          exact List.eq_nil_of_length_eq_zero (by grind)
        have hpd : t.pd = [] := List.eq_nil_of_length_eq_zero (by omega)
        have : stepE t = 6 := by unfold stepE; simp [ha, hpd, hev]
        simp [x1, x2, x3, x4, x5, x6, ha, eq_true hpd, eq_true hev, this, zT]
    · have : stepE t = askS t := by unfold stepE; simp [ha]
      simp [x1, x2, x3, x4, x5, x6, ha, this, zT]

end Go.Proofs.Ytedhhjmjlpnlpaa.VW
