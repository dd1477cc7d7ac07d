/- SourceSame, SourceSteps. -/
import Derived.Test.YtedhhjmjlpnlpaaXU
import Derived.Test.YtedhhjmjlpnlpaaXV
namespace Go.Proofs.Ytedhhjmjlpnlpaa.VW
open Go Go.RowKit
set_option linter.unusedVariables false
set_option linter.unusedSimpArgs false

theorem stp_sent {t : Tsk} (h : stepE t = 0) : askS (stpT t) = 0 ∧ askS t = 0 ∧ sentL (stpT t) = sentL t ∧ (stpT t).pd.length = 1 ∧ (stpT t).ev.length + 1 = t.ev.length := by
  obtain ⟨h1, h2, h3, h4, h5, h6⟩ := step_ok h
  have hT : stpT t = { t with pd := [sent1 t], ev := t.ev.drop 1 } := by unfold stpT; rw [if_pos h]
  have ha : askS t = 0 := by simp [askS, h1, h2]
  have h5' : okEv t.ev[0] = true := by simpa [h4] using h5
  have hs1 : sent1 t = ⟨0, toldM t.ev[0]⟩ := by simp [sent1, h4]
  have hok : okT (stpT t) = true := by
    have k1 := okT_dropev 1 h1
    rw [hT]
    have k2 := okEv_told h5'
    unfold okT okNum okSiz at k1 ⊢
    simp only [Bool.and_eq_true, decide_eq_true_eq] at k1 ⊢
    have k3 : allL okSnd [sent1 t] = true := by rw [hs1]; simp [allL, okSnd, k2]
    have k4 : (([sent1 t] : List Snd).length : Int) ≤ 4000 := by simp
    grind
  have ha2 : askS (stpT t) = 0 := by
    unfold askS; rw [if_pos hok, hT]; simp [h2]
  refine ⟨ha2, ha, ?_, by rw [hT]; rfl, by rw [hT]; simp; omega⟩
  unfold sentL
  rw [if_pos ha2, if_pos ha, hT, h3, hs1]
  simp only [List.map_cons, List.map_nil, List.nil_append]
  have e : t.ev = t.ev[0] :: t.ev.drop 1 := by
    have := List.drop_eq_getElem_cons h4
    simpa using this
  conv => rhs; rw [e]
  rfl
@[simp] def S16 : Spec
  | [.agg ct] => some ((kTsk ct = true) ∧ (bL (uTsk ct)), .bool true, [])
  | _ => none
set_option maxHeartbeats 8000000 in
set_option maxRecDepth 100000 in
theorem S16_ok : SOK 16 S16 := by
  intro xs q r bs h hq
  unfold S16 at h
  split at h <;> cases h
  rename_i ct
  obtain ⟨hq1, hq2⟩ := hq
  refine FS_wk ?_
  simp only [List.map_cons, List.map_nil, wk2, wk1]
  rw [kTsk_wk hq1]
  generalize uTsk ct = t at *
  refine fs_of_awp mixed (sg_ok (gc_ok S34_ok (gc_ok S25_ok (gc_ok S27_ok (gc_ok S35_ok (gc_ok S53_ok (gc_ok S36_ok noS_ok))))))) Try.func16 rfl (ent_of Try.func16 rfl rfl) [] (by rw [Try.ntmps16]; exact Nat.le_of_ble_eq_true rfl) (by simp) (by simp) (by simp) true ?_
  rw [Try.ntmps16, Try.results16]
  obtain ⟨y1, y2, y3, y4, y5, y6⟩ := hq2
  by_cases hg : grT t = true
  · simp [y1, y2, y3, y4, y5, y6, hg]
  simp only [Bool.not_eq_true] at hg
  have hb := (grT_b hg).1
  have hb2 := stpT_b hb
  simp only [bT] at hb hb2
  obtain ⟨x1, x2, x3, x4, x5, x6⟩ := hb
  by_cases h1 : okT t = true
  rotate_left
  · simp [y1, y2, y3, y4, y5, y6, x1, x2, x3, x4, x5, x6, hg, h1]
  by_cases h2 : t.kd = 1
  rotate_left
  · simp [y1, y2, y3, y4, y5, y6, x1, x2, x3, x4, x5, x6, hg, h1, h2]
  have ha : askS t = 0 := by simp [askS, h1, h2]
  have hl : (sentL t).length = t.pd.length + t.ev.length := by unfold sentL; rw [if_pos ha]; simp
  have hw : IntKind.i64.wrap ((t.pd.length : Int) + t.ev.length) = (t.pd.length : Int) + t.ev.length := wrap_i64 _ (by omega) (by omega)
  have hl2 : ((sentL t).length : Int) = t.pd.length + t.ev.length := by omega
  have hsb := @sentL_b t
  have hsb2 := @sentL_b (stpT t)
  by_cases e : stepE t = 0
  · obtain ⟨k1, k2, k3, k4, k5⟩ := stp_sent e
    have hw2 : IntKind.i64.wrap ((t.ev.length : Int) - 1) = (t.ev.length : Int) - 1 := wrap_i64 _ (by omega) (by omega)
    have k5' : ((stpT t).ev.length : Int) = (t.ev.length : Int) - 1 := by omega
    simp [y1, y2, y3, y4, y5, y6, x1, x2, x3, x4, x5, x6, hb2, hg, h1, eq_true h2, ha, hl2, hw, e, k1, k3, k4, hw2, k5']
    (repeat' first | refine And.intro ?_ ?_ | intro _) <;> omega
  · by_cases hp : 0 < t.pd.length
    · have e18 : stepE t = 18 := by unfold stepE; simp [ha, hp]
      have hp0 : ¬ t.pd = [] := by intro h; rw [h] at hp; simp at hp
      simp [y1, y2, y3, y4, y5, y6, x1, x2, x3, x4, x5, x6, hb2, hg, h1, eq_true h2, ha, hl2, hw, e18, hp, hp0]
      all_goals ((repeat' first | refine And.intro ?_ ?_ | intro _) <;> omega)
    · have hev : t.ev = [] := by
        unfold stepE at e; rw [if_neg (by simp [ha]), if_neg hp] at e
        exact List.eq_nil_of_length_eq_zero (by grind)
      have hpd : t.pd = [] := List.eq_nil_of_length_eq_zero (by omega)
      have e6 : stepE t = 6 := by unfold stepE; simp [ha, hpd, hev]
      have hev0 : t.ev.length = 0 := by rw [hev]; rfl
      simp [y1, y2, y3, y4, y5, y6, x1, x2, x3, x4, x5, x6, hb2, hg, h1, eq_true h2, ha, hl2, hw, e6, hp, eq_true hpd, eq_true hev]
      all_goals ((repeat' first | refine And.intro ?_ ?_ | intro _) <;> omega)
@[simp] def S12 : Spec
  | [.agg ct] => some ((kTsk ct = true) ∧ (bL (uTsk ct)), .bool true, [])
  | _ => none
set_option maxHeartbeats 8000000 in
set_option maxRecDepth 100000 in
theorem S12_ok : SOK 12 S12 := by
  intro xs q r bs h hq
  unfold S12 at h
  split at h <;> cases h
  rename_i ct
  obtain ⟨hq1, hq2⟩ := hq
  refine FS_wk ?_
  simp only [List.map_cons, List.map_nil, wk2, wk1]
  rw [kTsk_wk hq1]
  generalize uTsk ct = t at *
  refine fs_of_awp mixed (sg_ok (gc_ok S25_ok (gc_ok S45_ok (gc_ok S53_ok (gc_ok S54_ok (gc_ok S35_ok (gc_ok S55_ok (gc_ok S23_ok (gc_ok S36_ok noS_ok))))))))) Try.func12 rfl (ent_of Try.func12 rfl rfl) [] (by rw [Try.ntmps12]; exact Nat.le_of_ble_eq_true rfl) (by simp) (by simp) (by simp) true ?_
  rw [Try.ntmps12, Try.results12]
  obtain ⟨y1, y2, y3, y4, y5, y6⟩ := hq2
  by_cases hg : grT t = true
  · simp [y1, y2, y3, y4, y5, y6, hg]
  simp only [Bool.not_eq_true] at hg
  have hb := (grT_b hg).1
  have hb2 := stpT_b hb
  have hsb := @sentL_b t
  have hsb' : (sentL t).length ≤ 9223372036854775807 := by omega
  simp only [bT] at hb hb2
  simp [y1, y2, y3, y4, y5, y6, hg, hb, hb2, hsb']

end Go.Proofs.Ytedhhjmjlpnlpaa.VW
