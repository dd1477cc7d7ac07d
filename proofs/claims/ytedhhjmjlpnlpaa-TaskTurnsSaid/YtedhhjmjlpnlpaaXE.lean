/- The reference of tasks and its check. -/
import Derived.Test.YtedhhjmjlpnlpaaXC
import Derived.Test.YtedhhjmjlpnlpaaXD
namespace Go.Proofs.Ytedhhjmjlpnlpaa.VW
open Go Go.RowKit
set_option linter.unusedVariables false
set_option linter.unusedSimpArgs false

theorem okT_R (t : Tsk) : okT t = (decide (0 ≤ t.tn) && decide (t.tn < 20) && decide ((t.pd.length : Int) ≤ 4000) && decide (0 ≤ t.n) && decide (t.n < 4) && keptR t && allL okSnd t.pd && listR t && stE t.st == 0 && allL (okSt t.kd) t.st) := by
  have h4 : stE t.st = 0 → t.st.length ≤ 4000 := by unfold stE; grind
  have h5 : t.st.length = 0 → t.st = [] := List.eq_nil_of_length_eq_zero
  unfold okT okNum okSiz keptR listR
  by_cases hs : stE t.st = 0
  · have := h4 hs
    rw [Bool.eq_iff_iff]
    simp only [Bool.and_eq_true, Bool.or_eq_true, decide_eq_true_eq, beq_iff_eq, hs]
    grind
  · have : (stE t.st == 0) = false := by simpa using hs
    rw [this]; simp
@[simp] def S75 : Spec
  | [.sl _ cl] => some ((cl.all kEnt = true ∧ cl.length ≤ 9223372036854775807), .int .i64 (stE (cl.map uEnt)), [])
  | _ => none
set_option maxHeartbeats 4000000 in
set_option maxRecDepth 100000 in
theorem S75_ok : SOK 75 S75 := by
  intro xs q r bs h hq
  unfold S75 at h
  split at h <;> cases h
  rename_i exl cl
  have hq1 := hq
  refine FS_wk ?_
  simp only [List.map_cons, List.map_nil, wk2, wk1]
  obtain ⟨l, rfl⟩ := rows_ex (fun c hc => kEnt_ok hc) hq1.1
  have hll := hq1.2
  simp only [List.length_map] at hll
  try simp only [List.map_map, ue_Rec, ue_Ev, ue_Row, ue_Msg, ue_Snd, ue_Ent, ue_Int, ue_Que, List.map_id] at *
  refine fs_of_awp mixed (sg_ok (gc_ok S111_ok (gc_ok S112_ok noS_ok))) Try.func75 rfl (ent_of Try.func75 rfl rfl) [] (by rw [Try.ntmps75]; exact Nat.le_of_ble_eq_true rfl) (by simp) (by simp) (by simp) true ?_
  rw [Try.ntmps75, Try.results75]
  simp
  refine ⟨fun h => by unfold stE; rw [if_pos (by omega)], fun hle => ?_⟩
  refine awp_loop (fun σ => ∃ i : Nat, i ≤ l.length ∧ σ.T 0 = .sl false (l.map eEnt) ∧ σ.T 3 = .int .i64 i ∧ allN i (okAt l) = true) (fun σ => l.length - (ival (σ.T 3)).toNat) ⟨0, by simp⟩ ?_
  rintro σ ⟨i, hi, h0, h3, hp⟩ J hJ
  by_cases hlt : i < l.length
  · have hw : IntKind.i64.wrap ((i : Int) + 1) = (i : Int) + 1 := wrap_i64 _ (by omega) (by omega)
    have hw2 : IntKind.i64.wrap ((i : Int) - 1) = (i : Int) - 1 := wrap_i64 _ (by omega) (by omega)
    have hlt2 : i - 1 < l.length := by omega
    have ho : okAt l i = (okEnt l[i] && (i == 0 || lessR l[i - 1] l[i])) := by unfold okAt lessR; simp [hlt, hlt2]
    have hok : okEnt l[i] = (decide (-1100585369600 ≤ l[i].s) && decide (l[i].s < l[i].e) && decide (l[i].e ≤ 1100585369600) && okAcc l[i].a && okAcc l[i].b && !(l[i].a.c == 0 && l[i].b.c == 0)) := by
      have g1 := @okAcc_c l[i].a
      have g2 := @okAcc_c l[i].b
      unfold okEnt
      by_cases k1 : okAcc l[i].a = true <;> by_cases k2 : okAcc l[i].b = true <;> simp [k1, k2]
      have := g1 k1; have := g2 k2
      grind
    have hst : okAt l i = false → stE l = 8 := fun h => by
      have := allN_no hlt h
      unfold stE; rw [if_neg (by omega), this]; rfl
    simp [h0, h3, hlt, hlt2, getD_map, getQ_map, hw, hw2]
    (repeat' first | refine And.intro ?_ ?_ | intro _) <;> first | omega | rfl | (refine (hst ?_).symm; rw [ho, hok]; grind) | (refine hst ?_; rw [ho, hok]; grind) | skip
    all_goals exact hJ _ ⟨i + 1, hlt, by simp [h0], by simp, allN_step hp (by rw [ho, hok]; grind)⟩ (by simp [h3]; omega)
  · simp [h0, h3, hlt]
    have := allN_all hlt hi hp
    unfold stE; rw [if_neg (by omega), if_pos this]

end Go.Proofs.Ytedhhjmjlpnlpaa.VW
