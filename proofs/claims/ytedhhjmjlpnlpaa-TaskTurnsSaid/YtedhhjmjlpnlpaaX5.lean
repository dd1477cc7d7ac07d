/- Same. -/
import Derived.Test.YtedhhjmjlpnlpaaX4
import Derived.Test.YtedhhjmjlpnlpaaX8
namespace Go.Proofs.Ytedhhjmjlpnlpaa.VW
open Go Go.RowKit
set_option linter.unusedVariables false
set_option linter.unusedSimpArgs false

theorem Tsk_eq {a b : Tsk} (h1 : a.kd = b.kd) (h2 : a.n = b.n) (h3 : a.tn = b.tn) (h4 : a.pd = b.pd) (h5 : a.mx = b.mx) (h6 : a.st = b.st) (h7 : a.ev = b.ev) (h8 : a.rw = b.rw) (h9 : a.lt = b.lt) : a = b := by
  cases a; cases b; simp_all
theorem no_fld {α : Type} {a b : Tsk} (f : Tsk → α) (h : f a ≠ f b) : a ≠ b := by rintro rfl; exact h rfl
@[simp] def S23 : Spec
  | [.agg cx, .agg cy] => some ((kTsk cx = true) ∧ (kTsk cy = true) ∧ (bT (uTsk cx) ∧ bT (uTsk cy)), .bool (decide ((uTsk cx) = (uTsk cy))), [])
  | _ => none
set_option maxHeartbeats 4000000 in
set_option maxRecDepth 100000 in
theorem S23_ok : SOK 23 S23 := by
  intro xs q r bs h hq
  unfold S23 at h
  split at h <;> cases h
  rename_i cx cy
  obtain ⟨hq1, hq2, hq3⟩ := hq
  refine FS_wk ?_
  simp only [List.map_cons, List.map_nil, wk2, wk1]
  rw [kTsk_wk hq1]
  generalize uTsk cx = x at *
  rw [kTsk_wk hq2]
  generalize uTsk cy = y at *
  refine fs_of_awp mixed (sg_ok (gc_ok S31_ok noS_ok)) Try.func23 rfl (ent_of Try.func23 rfl rfl) [] (by rw [Try.ntmps23]; exact Nat.le_of_ble_eq_true rfl) (by simp) (by simp) (by simp) true ?_
  rw [Try.ntmps23, Try.results23]
  obtain ⟨⟨x1, x2, x3, x4, x5, x6⟩, y1, y2, y3, y4, y5, y6⟩ := hq3
  simp [show x.pd.length ≤ 9223372036854775807 by omega, show y.pd.length ≤ 9223372036854775807 by omega]
  refine ⟨by rintro h rfl; simp at h, ?_⟩
  intros
  have h2 : True := trivial
  have h3 : True := trivial
  have hH2 : True := trivial
  have hH3 : True := trivial
  have hg2 : True := trivial
  have hg3 : True := trivial
  refine awp_loop (fun σ => ∃ i : Nat, i ≤ x.mx.length ∧ σ.T 2 = .ptr (2, 0) 1 0 ∧ σ.T 3 = .ptr (3, 0) 1 0 ∧ σ.H (2, 0) = some (.var (eTsk x)) ∧ σ.H (3, 0) = some (.var (eTsk y)) ∧ σ.γ (2, 0) = 1 ∧ σ.γ (3, 0) = 1 ∧ σ.T 5 = .int .i64 i ∧ x.mx.take i = y.mx.take i) (fun σ => x.mx.length - (ival (σ.T 5)).toNat) ⟨0, by simp [*]⟩ ?_
  clear h2 h3 hH2 hH3 hg2 hg3
  rintro σ ⟨i, hi, h2, h3, hH2, hH3, hg2, hg3, hx, hp⟩ J hJ
  by_cases hlt : i < x.mx.length
  · have hw : IntKind.i64.wrap ((i : Int) + 1) = (i : Int) + 1 := wrap_i64 _ (by omega) (by omega)
    have hlt' : i < y.mx.length := by omega
    by_cases he : x.mx[i] = y.mx[i]
    · simp [h2, h3, hH2, hH3, hg2, hg3, hx, hlt, hlt', getD_map, getQ_map, hw, he]
      exact ⟨by rfl, hJ _ ⟨i + 1, hlt, by simp [h2], by simp [h3], by simp [hH2], by simp [hH3], by simp [hg2], by simp [hg3], by simp, take_step hlt hlt' hp he⟩ (by simp [hx]; omega)⟩
    · simp [h2, h3, hH2, hH3, hg2, hg3, hx, hlt, hlt', getD_map, getQ_map, hw]
      refine ⟨by rfl, fun _ => no_fld Tsk.mx (ne_at hlt hlt' he), ?_⟩
      intros
      exact absurd (by assumption) he
  simp [h2, h3, hH2, hH3, hg2, hg3, hx, hlt]
  have emx := take_all hlt (by omega) hp
  clear hJ hx hp hlt hi
  refine awp_loop (fun σ => ∃ i : Nat, i ≤ x.st.length ∧ σ.T 2 = .ptr (2, 0) 1 0 ∧ σ.T 3 = .ptr (3, 0) 1 0 ∧ σ.H (2, 0) = some (.var (eTsk x)) ∧ σ.H (3, 0) = some (.var (eTsk y)) ∧ σ.γ (2, 0) = 1 ∧ σ.γ (3, 0) = 1 ∧ σ.T 6 = .int .i64 i ∧ x.st.take i = y.st.take i) (fun σ => x.st.length - (ival (σ.T 6)).toNat) ⟨0, by simp [*]⟩ ?_
  clear h2 h3 hH2 hH3 hg2 hg3
  rintro σ ⟨i, hi, h2, h3, hH2, hH3, hg2, hg3, hx, hp⟩ J hJ
  by_cases hlt : i < x.st.length
  · have hw : IntKind.i64.wrap ((i : Int) + 1) = (i : Int) + 1 := wrap_i64 _ (by omega) (by omega)
    have hlt' : i < y.st.length := by omega
    by_cases he : x.st[i] = y.st[i]
    · simp [h2, h3, hH2, hH3, hg2, hg3, hx, hlt, hlt', getD_map, getQ_map, hw, he]
      exact ⟨by rfl, hJ _ ⟨i + 1, hlt, by simp [h2], by simp [h3], by simp [hH2], by simp [hH3], by simp [hg2], by simp [hg3], by simp, take_step hlt hlt' hp he⟩ (by simp [hx]; omega)⟩
    · simp [h2, h3, hH2, hH3, hg2, hg3, hx, hlt, hlt', getD_map, getQ_map, hw]
      refine ⟨by rfl, fun _ => no_fld Tsk.st (ne_at hlt hlt' he), ?_⟩
      intros
      exact absurd (by apply Etr_eq <;> assumption) he
  simp [h2, h3, hH2, hH3, hg2, hg3, hx, hlt]
  have est := take_all hlt (by omega) hp
  clear hJ hx hp hlt hi
  refine awp_loop (fun σ => ∃ i : Nat, i ≤ x.ev.length ∧ σ.T 2 = .ptr (2, 0) 1 0 ∧ σ.T 3 = .ptr (3, 0) 1 0 ∧ σ.H (2, 0) = some (.var (eTsk x)) ∧ σ.H (3, 0) = some (.var (eTsk y)) ∧ σ.γ (2, 0) = 1 ∧ σ.γ (3, 0) = 1 ∧ σ.T 7 = .int .i64 i ∧ x.ev.take i = y.ev.take i) (fun σ => x.ev.length - (ival (σ.T 7)).toNat) ⟨0, by simp [*]⟩ ?_
  clear h2 h3 hH2 hH3 hg2 hg3
  rintro σ ⟨i, hi, h2, h3, hH2, hH3, hg2, hg3, hx, hp⟩ J hJ
  by_cases hlt : i < x.ev.length
  · have hw : IntKind.i64.wrap ((i : Int) + 1) = (i : Int) + 1 := wrap_i64 _ (by omega) (by omega)
    have hlt' : i < y.ev.length := by omega
    by_cases he : x.ev[i] = y.ev[i]
    · simp [h2, h3, hH2, hH3, hg2, hg3, hx, hlt, hlt', getD_map, getQ_map, hw, he]
      exact ⟨by rfl, hJ _ ⟨i + 1, hlt, by simp [h2], by simp [h3], by simp [hH2], by simp [hH3], by simp [hg2], by simp [hg3], by simp, take_step hlt hlt' hp he⟩ (by simp [hx]; omega)⟩
    · simp [h2, h3, hH2, hH3, hg2, hg3, hx, hlt, hlt', getD_map, getQ_map, hw]
      refine ⟨by rfl, fun _ => no_fld Tsk.ev (ne_at hlt hlt' he), ?_⟩
      intros
      exact absurd (by apply Ev_eq <;> assumption) he
  simp [h2, h3, hH2, hH3, hg2, hg3, hx, hlt]
  have eev := take_all hlt (by omega) hp
  clear hJ hx hp hlt hi
  refine awp_loop (fun σ => ∃ i : Nat, i ≤ x.rw.length ∧ σ.T 2 = .ptr (2, 0) 1 0 ∧ σ.T 3 = .ptr (3, 0) 1 0 ∧ σ.H (2, 0) = some (.var (eTsk x)) ∧ σ.H (3, 0) = some (.var (eTsk y)) ∧ σ.γ (2, 0) = 1 ∧ σ.γ (3, 0) = 1 ∧ σ.T 8 = .int .i64 i ∧ x.rw.take i = y.rw.take i) (fun σ => x.rw.length - (ival (σ.T 8)).toNat) ⟨0, by simp [*]⟩ ?_
  clear h2 h3 hH2 hH3 hg2 hg3
  rintro σ ⟨i, hi, h2, h3, hH2, hH3, hg2, hg3, hx, hp⟩ J hJ
  by_cases hlt : i < x.rw.length
  · have hw : IntKind.i64.wrap ((i : Int) + 1) = (i : Int) + 1 := wrap_i64 _ (by omega) (by omega)
    have hlt' : i < y.rw.length := by omega
    by_cases he : x.rw[i] = y.rw[i]
    · simp [h2, h3, hH2, hH3, hg2, hg3, hx, hlt, hlt', getD_map, getQ_map, hw, he]
      exact ⟨by rfl, hJ _ ⟨i + 1, hlt, by simp [h2], by simp [h3], by simp [hH2], by simp [hH3], by simp [hg2], by simp [hg3], by simp, take_step hlt hlt' hp he⟩ (by simp [hx]; omega)⟩
    · simp [h2, h3, hH2, hH3, hg2, hg3, hx, hlt, hlt', getD_map, getQ_map, hw]
      refine ⟨by rfl, fun _ => no_fld Tsk.rw (ne_at hlt hlt' he), ?_⟩
      intros
      exact absurd (by apply Row_eq <;> assumption) he
  simp [h2, h3, hH2, hH3, hg2, hg3, hx, hlt]
  have erw := take_all hlt (by omega) hp
  clear hJ hx hp hlt hi
  refine awp_loop (fun σ => ∃ i : Nat, i ≤ x.lt.length ∧ σ.T 2 = .ptr (2, 0) 1 0 ∧ σ.T 3 = .ptr (3, 0) 1 0 ∧ σ.H (2, 0) = some (.var (eTsk x)) ∧ σ.H (3, 0) = some (.var (eTsk y)) ∧ σ.γ (2, 0) = 1 ∧ σ.γ (3, 0) = 1 ∧ σ.T 9 = .int .i64 i ∧ x.lt.take i = y.lt.take i) (fun σ => x.lt.length - (ival (σ.T 9)).toNat) ⟨0, by simp [*]⟩ ?_
  clear h2 h3 hH2 hH3 hg2 hg3
  rintro σ ⟨i, hi, h2, h3, hH2, hH3, hg2, hg3, hx, hp⟩ J hJ
  by_cases hlt : i < x.lt.length
  · have hw : IntKind.i64.wrap ((i : Int) + 1) = (i : Int) + 1 := wrap_i64 _ (by omega) (by omega)
    have hlt' : i < y.lt.length := by omega
    by_cases he : x.lt[i] = y.lt[i]
    · simp [h2, h3, hH2, hH3, hg2, hg3, hx, hlt, hlt', getD_map, getQ_map, hw, he]
      exact ⟨by rfl, hJ _ ⟨i + 1, hlt, by simp [h2], by simp [h3], by simp [hH2], by simp [hH3], by simp [hg2], by simp [hg3], by simp, take_step hlt hlt' hp he⟩ (by simp [hx]; omega)⟩
    · simp [h2, h3, hH2, hH3, hg2, hg3, hx, hlt, hlt', getD_map, getQ_map, hw]
      refine ⟨by rfl, fun _ => no_fld Tsk.lt (ne_at hlt hlt' he), ?_⟩
      intros
      exact absurd (by apply Rec_eq <;> assumption) he
  simp [h2, h3, hH2, hH3, hg2, hg3, hx, hlt]
  have elt := take_all hlt (by omega) hp
  clear hJ hx hp hlt hi
  apply Tsk_eq <;> assumption

end Go.Proofs.Ytedhhjmjlpnlpaa.VW
