/- The reference of tasks. -/
import Derived.Test.YtedhhjmjlpnlpaaX9
namespace Go.Proofs.Ytedhhjmjlpnlpaa.VW
open Go Go.RowKit
set_option linter.unusedVariables false
set_option linter.unusedSimpArgs false

def keptR (t : Tsk) : Bool := decide (limL t.kd ≤ t.mx.length) && decide ((t.mx.length : Int) ≤ limM t.kd) && (t.kd == 4 || t.kd == 5 || t.st.length == 0) && decide ((t.ev.length : Int) ≤ if t.kd = 1 then 60 else 0) && decide ((t.rw.length : Int) ≤ if t.kd = 6 then 4000 else 0) && decide ((t.lt.length : Int) ≤ if t.kd = 7 then 4000 else 0)
def listR (t : Tsk) : Bool := allL mkI t.mx && allL okEv t.ev && allL okRow t.rw && allL okLt t.lt
def lessR (x y : Etr) : Bool := decide (ordI x y < 0)
@[simp] def S110 : Spec
  | [.int .i64 t] => some (True, .bool (mkI t), [])
  | _ => none
set_option maxRecDepth 100000 in
theorem S110_ok : SOK 110 S110 := by
  intro xs q r bs h hq
  unfold S110 at h
  split at h <;> cases h
  rename_i t
  refine FS_wk ?_
  simp only [List.map_cons, List.map_nil, wk2, wk1]
  refine fs_of_awp mixed (sg_ok (gc_ok S87_ok noS_ok)) Try.func110 rfl (ent_of Try.func110 rfl rfl) [] (by rw [Try.ntmps110]; exact Nat.le_of_ble_eq_true rfl) (by simp) (by simp) (by simp) true ?_
  rw [Try.ntmps110, Try.results110]
  by_cases h : t = -9223372036854775808 <;> simp [h, mkI] <;> grind
@[simp] def S73 : Spec
  | [.sl _ cl] => some ((cl.all kSnd = true ∧ cl.length ≤ 9223372036854775807), .bool (allL okSnd (cl.map uSnd)), [])
  | _ => none
set_option maxRecDepth 100000 in
theorem S73_ok : SOK 73 S73 := by
  intro xs q r bs h hq
  unfold S73 at h
  split at h <;> cases h
  rename_i exl cl
  have hq1 := hq
  refine FS_wk ?_
  simp only [List.map_cons, List.map_nil, wk2, wk1]
  obtain ⟨l, rfl⟩ := rows_ex (fun c hc => kSnd_ok hc) hq1.1
  have hll := hq1.2
  simp only [List.length_map] at hll
  try simp only [List.map_map, ue_Rec, ue_Ev, ue_Row, ue_Msg, ue_Snd, ue_Ent, ue_Int, ue_Que, List.map_id] at *
  refine fs_of_awp mixed (sg_ok (gc_ok S37_ok noS_ok)) Try.func73 rfl (ent_of Try.func73 rfl rfl) [] (by rw [Try.ntmps73]; exact Nat.le_of_ble_eq_true rfl) (by simp) (by simp) (by simp) true ?_
  rw [Try.ntmps73, Try.results73]
  simp
  refine awp_loop (fun σ => ∃ i : Nat, i ≤ l.length ∧ σ.T 0 = .sl false (l.map eSnd) ∧ σ.T 3 = .int .i64 i ∧ allL okSnd (l.take i) = true) (fun σ => l.length - (ival (σ.T 3)).toNat) ⟨0, by simp⟩ ?_
  rintro σ ⟨i, hi, h0, h3, hp⟩ J hJ
  by_cases hlt : i < l.length
  · have hw : IntKind.i64.wrap ((i : Int) + 1) = (i : Int) + 1 := wrap_i64 _ (by omega) (by omega)
    have hs := fun h => allL_step (p := okSnd) hlt hp h
    have hn := allL_no (p := okSnd) hlt
    unfold okSnd at hs hn
    simp [h0, h3, hlt, getD_map, getQ_map, hw]
    refine ⟨fun h => hn (by grind), fun h1 h2 h3' => hJ _ ⟨i + 1, hlt, by simp [h0], by simp, hs (by grind)⟩ (by simp [h3]; omega)⟩
  · simp [h0, h3, hlt]
    exact allL_all hlt hp
@[simp] def S74 : Spec
  | [.agg ct] => some ((kTsk ct = true) ∧ (bT (uTsk ct)), .bool (listR (uTsk ct)), [])
  | _ => none
set_option maxHeartbeats 4000000 in
set_option maxRecDepth 100000 in
theorem S74_ok : SOK 74 S74 := by
  intro xs q r bs h hq
  unfold S74 at h
  split at h <;> cases h
  rename_i ct
  obtain ⟨hq1, hq2⟩ := hq
  refine FS_wk ?_
  simp only [List.map_cons, List.map_nil, wk2, wk1]
  rw [kTsk_wk hq1]
  generalize uTsk ct = t at *
  refine fs_of_awp mixed (sg_ok (gc_ok S110_ok (gc_ok S69_ok (gc_ok S88_ok (gc_ok S86_ok noS_ok))))) Try.func74 rfl (ent_of Try.func74 rfl rfl) [] (by rw [Try.ntmps74]; exact Nat.le_of_ble_eq_true rfl) (by simp) (by simp) (by simp) true ?_
  rw [Try.ntmps74, Try.results74]
  obtain ⟨x1, x2, x3, x4, x5, x6⟩ := hq2
  simp
  have h1 : True := trivial
  have hH : True := trivial
  have hg : True := trivial
  have hx : True := trivial
  refine awp_loop (fun σ => ∃ i : Nat, i ≤ t.mx.length ∧ σ.T 1 = .ptr (1, 0) 1 0 ∧ σ.H (1, 0) = some (.var (eTsk t)) ∧ σ.γ (1, 0) = 1 ∧ σ.T 3 = .int .i64 i ∧ allL mkI (t.mx.take i) = true) (fun σ => t.mx.length - (ival (σ.T 3)).toNat) ⟨0, by simp [*]⟩ ?_
  clear h1 hH hg hx
  rintro σ ⟨i, hi, h1, hH, hg, hx, hk⟩ J hJ
  by_cases hlt : i < t.mx.length
  · have hw : IntKind.i64.wrap ((i : Int) + 1) = (i : Int) + 1 := wrap_i64 _ (by omega) (by omega)
    by_cases hb : mkI t.mx[i] = true
    · simp [h1, hH, hg, hx, hlt, getD_map, getQ_map, hw, hb]
      exact hJ _ ⟨i + 1, hlt, by simp [h1], by simp [hH], by simp [hg], by simp, allL_step hlt hk hb⟩ (by simp [hx]; omega)
    · simp [h1, hH, hg, hx, hlt, getD_map, getQ_map, hw, hb]
      have hn := allL_no hlt (by simpa using hb)
      unfold listR; rw [hn]; simp
  simp [h1, hH, hg, hx, hlt]
  have emx := allL_all hlt hk
  clear hJ hlt hi hk
  refine awp_loop (fun σ => ∃ i : Nat, i ≤ t.ev.length ∧ σ.T 1 = .ptr (1, 0) 1 0 ∧ σ.H (1, 0) = some (.var (eTsk t)) ∧ σ.γ (1, 0) = 1 ∧ σ.T 4 = .int .i64 i ∧ allL okEv (t.ev.take i) = true) (fun σ => t.ev.length - (ival (σ.T 4)).toNat) ⟨0, by simp [*]⟩ ?_
  clear h1 hH hg hx
  rintro σ ⟨i, hi, h1, hH, hg, hx, hk⟩ J hJ
  by_cases hlt : i < t.ev.length
  · have hw : IntKind.i64.wrap ((i : Int) + 1) = (i : Int) + 1 := wrap_i64 _ (by omega) (by omega)
    by_cases hb : okEv t.ev[i] = true
    · simp [h1, hH, hg, hx, hlt, getD_map, getQ_map, hw, hb]
      exact hJ _ ⟨i + 1, hlt, by simp [h1], by simp [hH], by simp [hg], by simp, allL_step hlt hk hb⟩ (by simp [hx]; omega)
    · simp [h1, hH, hg, hx, hlt, getD_map, getQ_map, hw, hb]
      have hn := allL_no hlt (by simpa using hb)
      unfold listR; rw [hn]; simp
  simp [h1, hH, hg, hx, hlt]
  have eev := allL_all hlt hk
  clear hJ hlt hi hk
  refine awp_loop (fun σ => ∃ i : Nat, i ≤ t.rw.length ∧ σ.T 1 = .ptr (1, 0) 1 0 ∧ σ.H (1, 0) = some (.var (eTsk t)) ∧ σ.γ (1, 0) = 1 ∧ σ.T 5 = .int .i64 i ∧ allL okRow (t.rw.take i) = true) (fun σ => t.rw.length - (ival (σ.T 5)).toNat) ⟨0, by simp [*]⟩ ?_
  clear h1 hH hg hx
  rintro σ ⟨i, hi, h1, hH, hg, hx, hk⟩ J hJ
  by_cases hlt : i < t.rw.length
  · have hw : IntKind.i64.wrap ((i : Int) + 1) = (i : Int) + 1 := wrap_i64 _ (by omega) (by omega)
    by_cases hb : okRow t.rw[i] = true
    · simp [h1, hH, hg, hx, hlt, getD_map, getQ_map, hw, hb]
      exact hJ _ ⟨i + 1, hlt, by simp [h1], by simp [hH], by simp [hg], by simp, allL_step hlt hk hb⟩ (by simp [hx]; omega)
    · simp [h1, hH, hg, hx, hlt, getD_map, getQ_map, hw, hb]
      have hn := allL_no hlt (by simpa using hb)
      unfold listR; rw [hn]; simp
  simp [h1, hH, hg, hx, hlt]
  have erw := allL_all hlt hk
  clear hJ hlt hi hk
  refine awp_loop (fun σ => ∃ i : Nat, i ≤ t.lt.length ∧ σ.T 1 = .ptr (1, 0) 1 0 ∧ σ.H (1, 0) = some (.var (eTsk t)) ∧ σ.γ (1, 0) = 1 ∧ σ.T 6 = .int .i64 i ∧ allL okLt (t.lt.take i) = true) (fun σ => t.lt.length - (ival (σ.T 6)).toNat) ⟨0, by simp [*]⟩ ?_
  clear h1 hH hg hx
  rintro σ ⟨i, hi, h1, hH, hg, hx, hk⟩ J hJ
  by_cases hlt : i < t.lt.length
  · have hw : IntKind.i64.wrap ((i : Int) + 1) = (i : Int) + 1 := wrap_i64 _ (by omega) (by omega)
    by_cases hb : okLt t.lt[i] = true
    · have hb2 : isTime t.lt[i].t = true := hb
      simp [-isTime, h1, hH, hg, hx, hlt, getD_map, getQ_map, hw, hb, hb2]
      exact hJ _ ⟨i + 1, hlt, by simp [h1], by simp [hH], by simp [hg], by simp, allL_step hlt hk hb⟩ (by simp [hx]; omega)
    · have hb2 : isTime t.lt[i].t = false := by simpa [okLt, -isTime] using hb
      simp [-isTime, h1, hH, hg, hx, hlt, getD_map, getQ_map, hw, hb2]
      have hn := allL_no hlt (by simpa using hb)
      unfold listR; rw [hn]; simp
  simp [h1, hH, hg, hx, hlt]
  have elt := allL_all hlt hk
  clear hJ hlt hi hk
  simp [listR, emx, eev, erw, elt]
@[simp] def S72 : Spec
  | [.agg ct] => some ((kTsk ct = true) ∧ (bT (uTsk ct)), .bool (keptR (uTsk ct)), [])
  | _ => none
set_option maxHeartbeats 4000000 in
set_option maxRecDepth 100000 in
theorem S72_ok : SOK 72 S72 := by
  intro xs q r bs h hq
  unfold S72 at h
  split at h <;> cases h
  rename_i ct
  obtain ⟨hq1, hq2⟩ := hq
  refine FS_wk ?_
  simp only [List.map_cons, List.map_nil, wk2, wk1]
  rw [kTsk_wk hq1]
  generalize uTsk ct = t at *
  refine fs_of_awp mixed (sg_ok noS_ok) Try.func72 rfl (ent_of Try.func72 rfl rfl) [] (by rw [Try.ntmps72]; exact Nat.le_of_ble_eq_true rfl) (by simp) (by simp) (by simp) true ?_
  rw [Try.ntmps72, Try.results72]
  obtain ⟨x1, x2, x3, x4, x5, x6⟩ := hq2
  simp
  unfold keptR limL limM
  (repeat' first | refine And.intro ?_ ?_ | intro _) <;> (simp only [*, if_true, if_false, ← List.length_eq_zero_iff]; rw [Bool.eq_iff_iff]; simp [← List.length_eq_zero_iff]) <;> omega
@[simp] def S112 : Spec
  | [.agg cx, .agg cy] => some ((kEnt cx = true) ∧ (kEnt cy = true), .bool (lessR (uEnt cx) (uEnt cy)), [])
  | _ => none
set_option maxRecDepth 100000 in
theorem S112_ok : SOK 112 S112 := by
  intro xs q r bs h hq
  unfold S112 at h
  split at h <;> cases h
  rename_i cx cy
  obtain ⟨hq1, hq2⟩ := hq
  refine FS_wk ?_
  simp only [List.map_cons, List.map_nil, wk2, wk1]
  rw [kEnt_wk hq1]
  generalize uEnt cx = x at *
  rw [kEnt_wk hq2]
  generalize uEnt cy = y at *
  refine fs_of_awp mixed (sg_ok noS_ok) Try.func112 rfl (ent_of Try.func112 rfl rfl) [] (by rw [Try.ntmps112]; exact Nat.le_of_ble_eq_true rfl) (by simp) (by simp) (by simp) true ?_
  rw [Try.ntmps112, Try.results112]
  simp
  unfold lessR ordI orI cmpI
  grind (splits := 40)
@[simp] def S111 : Spec
  | [.agg ca] => some ((kAcc ca = true), .int .i64 (if okAcc (uAcc ca) then 0 else 8), [])
  | _ => none
set_option maxRecDepth 100000 in
theorem S111_ok : SOK 111 S111 := by
  intro xs q r bs h hq
  unfold S111 at h
  split at h <;> cases h
  rename_i ca
  have hq1 := hq
  refine FS_wk ?_
  simp only [List.map_cons, List.map_nil, wk2, wk1]
  rw [kAcc_wk hq1]
  generalize uAcc ca = a at *
  refine fs_of_awp mixed (sg_ok noS_ok) Try.func111 rfl (ent_of Try.func111 rfl rfl) [] (by rw [Try.ntmps111]; exact Nat.le_of_ble_eq_true rfl) (by simp) (by simp) (by simp) true ?_
  rw [Try.ntmps111, Try.results111]
  simp [okAcc]
  grind

end Go.Proofs.Ytedhhjmjlpnlpaa.VW
