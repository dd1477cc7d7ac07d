/- task.Check. -/
import Derived.Test.YtedhhjmjlpnlpaaX7
namespace Go.Proofs.Ytedhhjmjlpnlpaa.VW
open Go Go.RowKit
set_option linter.unusedVariables false
set_option linter.unusedSimpArgs false

theorem allL_succ {α : Type} {p : α → Bool} {l : List α} {i : Nat} (h : i < l.length) : allL p (l.take (i + 1)) = (allL p (l.take i) && p l[i]) := by
  unfold allL
  rw [List.take_succ_eq_append_getElem h, List.all_append]; simp
theorem allL_end {α : Type} {p : α → Bool} {l : List α} {i : Nat} (h : ¬ i < l.length) : allL p (l.take i) = allL p l := by
  rw [List.take_of_length_le (by omega)]
@[simp] def bT (t : Tsk) : Prop := t.pd.length ≤ 100000 ∧ t.mx.length ≤ 100000 ∧ t.st.length ≤ 100000 ∧ t.ev.length ≤ 100000 ∧ t.rw.length ≤ 100000 ∧ t.lt.length ≤ 100000
def mkI (t : Int) : Bool := t == -9223372036854775808 || isMark t
def okLt (r : Rec) : Bool := isTime r.t
def okSt (k : Int) (x : Etr) : Bool := k != 4 || x.b.c == 0
def okNum (t : Tsk) : Bool := decide (0 ≤ t.tn) && decide (t.tn < 20) && decide (0 ≤ t.n) && decide (t.n < 4)
def okSiz (t : Tsk) : Bool := decide ((t.pd.length : Int) ≤ 4000) && decide (limL t.kd ≤ t.mx.length) && decide ((t.mx.length : Int) ≤ limM t.kd) && decide ((t.st.length : Int) ≤ if t.kd = 4 ∨ t.kd = 5 then 4000 else 0) && decide ((t.ev.length : Int) ≤ if t.kd = 1 then 60 else 0) && decide ((t.rw.length : Int) ≤ if t.kd = 6 then 4000 else 0) && decide ((t.lt.length : Int) ≤ if t.kd = 7 then 4000 else 0)
def okT (t : Tsk) : Bool := okNum t && okSiz t && allL okSnd t.pd && stE t.st == 0 && allL mkI t.mx && allL okEv t.ev && allL okRow t.rw && allL okLt t.lt && allL (okSt t.kd) t.st
@[simp] def S59 : Spec
  | [.agg ct] => some ((kTsk ct = true) ∧ (bT (uTsk ct)), .int .i64 (if okT (uTsk ct) then 0 else 8), [])
  | _ => none
set_option maxHeartbeats 8000000 in
set_option maxRecDepth 100000 in
theorem S59_ok : SOK 59 S59 := by
  intro xs q r bs h hq
  unfold S59 at h
  split at h <;> cases h
  rename_i ct
  obtain ⟨hq1, hq2⟩ := hq
  refine FS_wk ?_
  simp only [List.map_cons, List.map_nil, wk2, wk1]
  rw [kTsk_wk hq1]
  generalize uTsk ct = t at *
  refine fs_of_awp mixed (sg_ok (gc_ok S103_ok (gc_ok S104_ok (gc_ok S89_ok (gc_ok S105_ok (gc_ok S106_ok (gc_ok S66_ok (gc_ok S83_ok noS_ok)))))))) Try.func59 rfl (ent_of Try.func59 rfl rfl) [] (by rw [Try.ntmps59]; exact Nat.le_of_ble_eq_true rfl) (by simp) (by simp) (by simp) true ?_
  rw [Try.ntmps59, Try.results59]
  obtain ⟨x1, x2, x3, x4, x5, x6⟩ := hq2
  simp [show t.pd.length ≤ 9223372036854775807 by omega, show t.st.length ≤ 9223372036854775807 by omega]
  refine ⟨by rfl, ?_⟩
  refine ⟨fun h => by unfold okT okNum okSiz; grind, ?_⟩
  intro n1 n2 n3 n4 n5 n6 n7 n8 n9 n10 n11 n12 n13
  have hT : okT t = (allL mkI t.mx && allL okEv t.ev && allL okRow t.rw && allL okLt t.lt && allL (okSt t.kd) t.st) := by simp [okT, okNum, okSiz, *]
  clear n1 n2 n3 n4 n5 n6 n7 n8 n9 n10 n11 n12 n13
  have h1 : True := trivial
  have hH : True := trivial
  have hg : True := trivial
  have ha : True := trivial
  have hl : True := trivial
  have hx : True := trivial
  have hk : True := trivial
  refine awp_loop (fun σ => ∃ i : Nat, i ≤ t.mx.length ∧ σ.T 1 = .ptr (1, 0) 1 0 ∧ σ.H (1, 0) = some (.var (eTsk t)) ∧ σ.γ (1, 0) = 1 ∧ σ.T 122 = .sl false (t.mx.map eInt) ∧ σ.T 123 = .int .i64 t.mx.length ∧ σ.T 124 = .int .i64 i ∧ σ.T 11 = .bool (allL mkI (t.mx.take i))) (fun σ => t.mx.length - (ival (σ.T 124)).toNat) ⟨0, by simp [*]⟩ ?_
  clear h1 hH hg ha hl hx hk
  rintro σ ⟨i, hi, h1, hH, hg, ha, hl, hx, hk⟩ J hJ
  by_cases hlt : i < t.mx.length
  · have hw : IntKind.i64.wrap ((i : Int) + 1) = (i : Int) + 1 := wrap_i64 _ (by omega) (by omega)
    simp [h1, hH, hg, ha, hl, hx, hk, hlt, getD_map, getQ_map, hw]
    refine hJ _ ⟨i + 1, hlt, by simp [h1], by simp [hH], by simp [hg], by simp [ha], by simp [hl], by simp, ?_⟩ (by simp [hx]; omega)
    simp [allL_succ hlt, mkI]
    try grind
  rw [allL_end hlt] at hk
  simp [h1, hH, hg, ha, hl, hx, hk, hlt]
  clear hJ hlt hi
  refine awp_loop (fun σ => ∃ i : Nat, i ≤ t.ev.length ∧ σ.T 1 = .ptr (1, 0) 1 0 ∧ σ.H (1, 0) = some (.var (eTsk t)) ∧ σ.γ (1, 0) = 1 ∧ σ.T 135 = .sl false (t.ev.map eEv) ∧ σ.T 136 = .int .i64 t.ev.length ∧ σ.T 137 = .int .i64 i ∧ σ.T 11 = .bool (allL mkI t.mx && allL okEv (t.ev.take i))) (fun σ => t.ev.length - (ival (σ.T 137)).toNat) ⟨0, by simp [*]⟩ ?_
  clear h1 hH hg ha hl hx hk
  rintro σ ⟨i, hi, h1, hH, hg, ha, hl, hx, hk⟩ J hJ
  by_cases hlt : i < t.ev.length
  · have hw : IntKind.i64.wrap ((i : Int) + 1) = (i : Int) + 1 := wrap_i64 _ (by omega) (by omega)
    simp [h1, hH, hg, ha, hl, hx, hk, hlt, getD_map, getQ_map, hw]
    refine hJ _ ⟨i + 1, hlt, by simp [h1], by simp [hH], by simp [hg], by simp [ha], by simp [hl], by simp, ?_⟩ (by simp [hx]; omega)
    simp [allL_succ hlt, okEv]
    try grind
  rw [allL_end hlt] at hk
  simp [h1, hH, hg, ha, hl, hx, hk, hlt]
  clear hJ hlt hi
  refine awp_loop (fun σ => ∃ i : Nat, i ≤ t.rw.length ∧ σ.T 1 = .ptr (1, 0) 1 0 ∧ σ.H (1, 0) = some (.var (eTsk t)) ∧ σ.γ (1, 0) = 1 ∧ σ.T 149 = .sl false (t.rw.map eRow) ∧ σ.T 150 = .int .i64 t.rw.length ∧ σ.T 151 = .int .i64 i ∧ σ.T 11 = .bool (allL mkI t.mx && allL okEv t.ev && allL okRow (t.rw.take i))) (fun σ => t.rw.length - (ival (σ.T 151)).toNat) ⟨0, by simp [*]⟩ ?_
  clear h1 hH hg ha hl hx hk
  rintro σ ⟨i, hi, h1, hH, hg, ha, hl, hx, hk⟩ J hJ
  by_cases hlt : i < t.rw.length
  · have hw : IntKind.i64.wrap ((i : Int) + 1) = (i : Int) + 1 := wrap_i64 _ (by omega) (by omega)
    simp [h1, hH, hg, ha, hl, hx, hk, hlt, getD_map, getQ_map, hw]
    refine hJ _ ⟨i + 1, hlt, by simp [h1], by simp [hH], by simp [hg], by simp [ha], by simp [hl], by simp, ?_⟩ (by simp [hx]; omega)
    simp [allL_succ hlt, okRow, okMsg]
    try grind
  rw [allL_end hlt] at hk
  simp [h1, hH, hg, ha, hl, hx, hk, hlt]
  clear hJ hlt hi
  refine awp_loop (fun σ => ∃ i : Nat, i ≤ t.lt.length ∧ σ.T 1 = .ptr (1, 0) 1 0 ∧ σ.H (1, 0) = some (.var (eTsk t)) ∧ σ.γ (1, 0) = 1 ∧ σ.T 164 = .sl false (t.lt.map eRec) ∧ σ.T 165 = .int .i64 t.lt.length ∧ σ.T 166 = .int .i64 i ∧ σ.T 11 = .bool (allL mkI t.mx && allL okEv t.ev && allL okRow t.rw && allL okLt (t.lt.take i))) (fun σ => t.lt.length - (ival (σ.T 166)).toNat) ⟨0, by simp [*]⟩ ?_
  clear h1 hH hg ha hl hx hk
  rintro σ ⟨i, hi, h1, hH, hg, ha, hl, hx, hk⟩ J hJ
  by_cases hlt : i < t.lt.length
  · have hw : IntKind.i64.wrap ((i : Int) + 1) = (i : Int) + 1 := wrap_i64 _ (by omega) (by omega)
    simp [h1, hH, hg, ha, hl, hx, hk, hlt, getD_map, getQ_map, hw]
    refine hJ _ ⟨i + 1, hlt, by simp [h1], by simp [hH], by simp [hg], by simp [ha], by simp [hl], by simp, ?_⟩ (by simp [hx]; omega)
    simp [allL_succ hlt, okLt, okMsg]
    try grind
  rw [allL_end hlt] at hk
  simp [h1, hH, hg, ha, hl, hx, hk, hlt]
  clear hJ hlt hi
  refine awp_loop (fun σ => ∃ i : Nat, i ≤ t.st.length ∧ σ.T 1 = .ptr (1, 0) 1 0 ∧ σ.H (1, 0) = some (.var (eTsk t)) ∧ σ.γ (1, 0) = 1 ∧ σ.T 179 = .sl false (t.st.map eEnt) ∧ σ.T 180 = .int .i64 t.st.length ∧ σ.T 181 = .int .i64 i ∧ σ.T 11 = .bool (allL mkI t.mx && allL okEv t.ev && allL okRow t.rw && allL okLt t.lt && allL (okSt t.kd) (t.st.take i))) (fun σ => t.st.length - (ival (σ.T 181)).toNat) ⟨0, by simp [*]⟩ ?_
  clear h1 hH hg ha hl hx hk
  rintro σ ⟨i, hi, h1, hH, hg, ha, hl, hx, hk⟩ J hJ
  by_cases hlt : i < t.st.length
  · have hw : IntKind.i64.wrap ((i : Int) + 1) = (i : Int) + 1 := wrap_i64 _ (by omega) (by omega)
    simp [h1, hH, hg, ha, hl, hx, hk, hlt, getD_map, getQ_map, hw]
    refine hJ _ ⟨i + 1, hlt, by simp [h1], by simp [hH], by simp [hg], by simp [ha], by simp [hl], by simp, ?_⟩ (by simp [hx]; omega)
    simp [allL_succ hlt, okSt]
    try grind
  rw [allL_end hlt] at hk
  simp [h1, hH, hg, ha, hl, hx, hk, hlt]
  clear hJ hlt hi
  rw [hT]; grind

end Go.Proofs.Ytedhhjmjlpnlpaa.VW
