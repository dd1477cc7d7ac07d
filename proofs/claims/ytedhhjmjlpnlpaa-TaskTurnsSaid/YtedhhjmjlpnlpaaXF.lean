/- Check of the reference. -/
import Derived.Test.YtedhhjmjlpnlpaaXE
namespace Go.Proofs.Ytedhhjmjlpnlpaa.VW
open Go Go.RowKit
set_option linter.unusedVariables false
set_option linter.unusedSimpArgs false

def grI (n : Int) : Bool := (decide (100 < n) && decide (n < 3990)) || decide (4010 < n)
theorem grT_I (t : Tsk) : grT t = (grI t.pd.length || grI t.rw.length || grI t.lt.length || decide (100 < t.st.length) || decide (100 < t.ev.length) || decide (20 < t.mx.length)) := by
  have key : ∀ n : Nat, gr1 n = grI n := by
    intro n; unfold gr1 grI
    rw [Bool.eq_iff_iff]
    simp only [Bool.or_eq_true, Bool.and_eq_true, decide_eq_true_eq]; omega
  unfold grT
  rw [key, key, key]
@[simp] def S27 : Spec
  | [.agg ct] => some ((kTsk ct = true) ∧ (bT (uTsk ct)), .int .i64 (if okT (uTsk ct) then 0 else 8), [])
  | _ => none
set_option maxHeartbeats 4000000 in
set_option maxRecDepth 100000 in
theorem S27_ok : SOK 27 S27 := by
  intro xs q r bs h hq
  unfold S27 at h
  split at h <;> cases h
  rename_i ct
  obtain ⟨hq1, hq2⟩ := hq
  refine FS_wk ?_
  simp only [List.map_cons, List.map_nil, wk2, wk1]
  rw [kTsk_wk hq1]
  generalize uTsk ct = t at *
  refine fs_of_awp mixed (sg_ok (gc_ok S72_ok (gc_ok S73_ok (gc_ok S74_ok (gc_ok S75_ok noS_ok))))) Try.func27 rfl (ent_of Try.func27 rfl rfl) [] (by rw [Try.ntmps27]; exact Nat.le_of_ble_eq_true rfl) (by simp) (by simp) (by simp) true ?_
  rw [Try.ntmps27, Try.results27]
  obtain ⟨x1, x2, x3, x4, x5, x6⟩ := hq2
  have hT := okT_R t
  have y1 : t.pd.length ≤ 9223372036854775807 := by omega
  have y2 : t.st.length ≤ 9223372036854775807 := by omega
  simp [x1, x2, x3, x4, x5, x6, y1, y2]
  refine ⟨fun h => by rw [hT]; grind, fun n1 n2 n3 n4 n5 n6 n7 n8 => ⟨fun h => by rw [hT]; simp [h], fun n9 => ?_⟩⟩
  have hT2 : okT t = allL (okSt t.kd) t.st := by rw [hT]; simp [*]
  refine awp_loop (fun σ => ∃ i : Nat, i ≤ t.st.length ∧ σ.T 1 = .ptr (1, 0) 1 0 ∧ σ.H (1, 0) = some (.var (eTsk t)) ∧ σ.γ (1, 0) = 1 ∧ σ.T 3 = .int .i64 i ∧ allL (okSt t.kd) (t.st.take i) = true) (fun σ => t.st.length - (ival (σ.T 3)).toNat) ⟨0, by simp⟩ ?_
  rintro σ ⟨i, hi, h1, hH, hg, h3, hk⟩ J hJ
  by_cases hlt : i < t.st.length
  · have hw : IntKind.i64.wrap ((i : Int) + 1) = (i : Int) + 1 := wrap_i64 _ (by omega) (by omega)
    by_cases hb : okSt t.kd t.st[i] = true
    · have hb2 := hb
      unfold okSt at hb2
      by_cases hk4 : t.kd = 4
      · simp [hk4] at hb2
        simp [h1, hH, hg, h3, hlt, getD_map, getQ_map, hw, hk4, hb2]
        exact hJ _ ⟨i + 1, hlt, by simp [h1], by simp [hH], by simp [hg], by simp, allL_step hlt hk hb⟩ (by simp [h3]; omega)
      · simp [h1, hH, hg, h3, hlt, getD_map, getQ_map, hw, hk4]
        exact hJ _ ⟨i + 1, hlt, by simp [h1], by simp [hH], by simp [hg], by simp, allL_step hlt hk hb⟩ (by simp [h3]; omega)
    · have hn := allL_no hlt (by simpa using hb)
      unfold okSt at hb
      simp at hb
      simp [h1, hH, hg, h3, hlt, getD_map, getQ_map, hw, hb.1, hb.2]
      try rw [hT2, ← hn]
      try simp [hb.1]
  · simp [h1, hH, hg, h3, hlt]
    rw [hT2]; exact allL_all hlt hk
@[simp] def S25 : Spec
  | [.agg ct] => some ((kTsk ct = true) ∧ (bL (uTsk ct)), .bool (grT (uTsk ct)), [])
  | _ => none
set_option maxHeartbeats 4000000 in
set_option maxRecDepth 100000 in
theorem S25_ok : SOK 25 S25 := by
  intro xs q r bs h hq
  unfold S25 at h
  split at h <;> cases h
  rename_i ct
  obtain ⟨hq1, hq2⟩ := hq
  refine FS_wk ?_
  simp only [List.map_cons, List.map_nil, wk2, wk1]
  rw [kTsk_wk hq1]
  generalize uTsk ct = t at *
  refine fs_of_awp mixed (sg_ok noS_ok) Try.func25 rfl (ent_of Try.func25 rfl rfl) [] (by rw [Try.ntmps25]; exact Nat.le_of_ble_eq_true rfl) (by simp) (by simp) (by simp) true ?_
  rw [Try.ntmps25, Try.results25]
  obtain ⟨x1, x2, x3, x4, x5, x6⟩ := hq2
  simp
  have hT := grT_I t
  obtain ⟨l, hl⟩ : ∃ l : List Int, l = [(t.pd.length : Int), t.rw.length, t.lt.length] := ⟨_, rfl⟩
  have hll : l.length = 3 := by rw [hl]; rfl
  refine awp_loop (fun σ => ∃ i : Nat, i ≤ l.length ∧ σ.T 1 = .ptr (1, 0) 1 0 ∧ σ.H (1, 0) = some (.var (eTsk t)) ∧ σ.γ (1, 0) = 1 ∧ σ.T 3 = .sl true (l.map eInt) ∧ σ.T 4 = .int .i64 i ∧ allL (fun n => !grI n) (l.take i) = true) (fun σ => l.length - (ival (σ.T 4)).toNat) ⟨0, by simp [hl]⟩ ?_
  rintro σ ⟨i, hi, h1, hH, hg, h3, h4, hk⟩ J hJ
  by_cases hlt : i < l.length
  · have hw : IntKind.i64.wrap ((i : Int) + 1) = (i : Int) + 1 := wrap_i64 _ (by omega) (by omega)
    by_cases hb : grI l[i] = true
    · have hgr : grT t = true := by
        have hm := List.getElem_mem hlt
        have : ∀ n ∈ l, grI n = true → grT t = true := by
          intro n hn hgn; rw [hl] at hn; rw [hT]
          simp at hn
          rcases hn with rfl | rfl | rfl <;> simp [hgn]
        exact this _ hm hb
      simp [h1, hH, hg, h3, h4, hlt, getD_map, getQ_map, hw]
      unfold grI at hb
      simp at hb
      (repeat' first | refine And.intro ?_ ?_ | intro _) <;> first | omega | exact hgr | grind
    · have hs := allL_step (p := fun n => !grI n) hlt hk (by simpa using hb)
      simp [h1, hH, hg, h3, h4, hlt, getD_map, getQ_map, hw]
      unfold grI at hb
      simp at hb
      (repeat' first | refine And.intro ?_ ?_ | intro _) <;> first | omega | exact hJ _ ⟨i + 1, hlt, by simp [h1], by simp [hH], by simp [hg], by simp [h3], by simp, hs⟩ (by simp [h4]; omega)
  · have hall := allL_all hlt hk
    rw [hl] at hall
    simp [allL] at hall
    simp [h1, hH, hg, h3, h4, hlt]
    rw [hT]
    simp [hall.1, hall.2.1, hall.2.2]
    (repeat' first | refine And.intro ?_ ?_ | intro _) <;> first | omega | (simp; omega) | grind

end Go.Proofs.Ytedhhjmjlpnlpaa.VW
