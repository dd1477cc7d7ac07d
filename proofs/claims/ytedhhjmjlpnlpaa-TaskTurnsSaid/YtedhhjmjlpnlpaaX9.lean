/- Queues, clones. -/
import Derived.Test.YtedhhjmjlpnlpaaX3
import Derived.Test.YtedhhjmjlpnlpaaX8
namespace Go.Proofs.Ytedhhjmjlpnlpaa.VW
open Go Go.RowKit
set_option linter.unusedVariables false
set_option linter.unusedSimpArgs false

@[simp] def bQ (q : Que) : Prop := q.l.length ≤ 100000
def okQ (q : Que) : Bool := decide (1 ≤ q.rm) && decide (q.rm ≤ 8) && decide (q.l.length ≤ q.rm) && allL okMsg q.l
def zQ : Que := ⟨0, []⟩
def putE (q : Que) (m : Msg) : Int := if okQ q then (if okMsg m then (if q.l.length = q.rm then 18 else 0) else 8) else 8
def putQ (q : Que) (m : Msg) : Que := if putE q m = 0 then ⟨q.rm, q.l ++ [m]⟩ else zQ
@[simp] def S82 : Spec
  | [.agg cq] => some ((kQue cq = true) ∧ (bQ (uQue cq)), .int .i64 (if okQ (uQue cq) then 0 else 8), [])
  | _ => none
set_option maxRecDepth 100000 in
theorem S82_ok : SOK 82 S82 := by
  intro xs q r bs h hq
  unfold S82 at h
  split at h <;> cases h
  rename_i cq
  obtain ⟨hq1, hq2⟩ := hq
  refine FS_wk ?_
  simp only [List.map_cons, List.map_nil, wk2, wk1]
  rw [kQue_wk hq1]
  generalize uQue cq = q at *
  refine fs_of_awp mixed (sg_ok (gc_ok S83_ok noS_ok)) Try.func82 rfl (ent_of Try.func82 rfl rfl) [] (by rw [Try.ntmps82]; exact Nat.le_of_ble_eq_true rfl) (by simp) (by simp) (by simp) true ?_
  rw [Try.ntmps82, Try.results82]
  simp
  refine ⟨by unfold okQ; grind, ?_⟩
  intro c1 c2 c3
  refine awp_loop (fun σ => ∃ i : Nat, i ≤ q.l.length ∧ σ.T 23 = .sl false (q.l.map eMsg) ∧ σ.T 24 = .int .i64 q.l.length ∧ σ.T 25 = .int .i64 i ∧ allL okMsg (q.l.take i) = true) (fun σ => q.l.length - (ival (σ.T 25)).toNat) ⟨0, by simp⟩ ?_
  rintro σ ⟨i, hi, h23, h24, h25, hp⟩ J hJ
  by_cases hlt : i < q.l.length
  · have hw : IntKind.i64.wrap ((i : Int) + 1) = (i : Int) + 1 := wrap_i64 _ (by omega) (by omega)
    by_cases hb : okMsg q.l[i] = true
    · simp [h23, h24, h25, hlt, getD_map, getQ_map, hw, hb]
      exact hJ _ ⟨i + 1, hlt, by simp [h23], by simp [h24], by simp, allL_step hlt hp hb⟩ (by simp [h25]; omega)
    · simp [h23, h24, h25, hlt, getD_map, getQ_map, hw, hb]
      have hn := allL_no hlt (by simpa using hb)
      unfold okQ; grind
  · simp [h23, h24, h25, hlt]
    have hall := allL_all hlt hp
    unfold okQ; grind
@[simp] def S77 : Spec
  | [.agg cq] => some ((kQue cq = true) ∧ (bQ (uQue cq)), .tup [.int .i64 (if okQ (uQue cq) then ((uQue cq)).rm - ((uQue cq)).l.length else 0), .int .i64 (if okQ (uQue cq) then 0 else 8)], [])
  | _ => none
set_option maxRecDepth 100000 in
theorem S77_ok : SOK 77 S77 := by
  intro xs q r bs h hq
  unfold S77 at h
  split at h <;> cases h
  rename_i cq
  obtain ⟨hq1, hq2⟩ := hq
  refine FS_wk ?_
  simp only [List.map_cons, List.map_nil, wk2, wk1]
  rw [kQue_wk hq1]
  generalize uQue cq = q at *
  refine fs_of_awp mixed (sg_ok (gc_ok S82_ok noS_ok)) Try.func77 rfl (ent_of Try.func77 rfl rfl) [] (by rw [Try.ntmps77]; exact Nat.le_of_ble_eq_true rfl) (by simp) (by simp) (by simp) true ?_
  rw [Try.ntmps77, Try.results77]
  have hb : okQ q = true → 1 ≤ q.rm ∧ q.rm ≤ 8 ∧ q.l.length ≤ q.rm := by unfold okQ; grind
  have hw : okQ q = true → IntKind.i64.wrap (q.rm - q.l.length) = q.rm - q.l.length := fun h => wrap_i64 _ (by have := hb h; omega) (by have := hb h; omega)
  by_cases h : okQ q = true <;> simp_all <;> grind
@[simp] def S81 : Spec
  | [.agg ct] => some ((kTsk ct = true) ∧ (bT (uTsk ct)), .agg [.int .u8 ((uTsk ct)).kd, .int .i64 ((uTsk ct)).n, .int .i64 ((uTsk ct)).tn, .own (0, 0) 0, .sl false (((uTsk ct)).mx.map eInt), .sl false (((uTsk ct)).st.map eEnt), .sl false (((uTsk ct)).ev.map eEv), .sl false (((uTsk ct)).rw.map eRow), .sl false (((uTsk ct)).lt.map eRec)], [.rows 11 (((uTsk ct)).pd.map eSnd)])
  | _ => none
set_option maxHeartbeats 2000000 in
set_option maxRecDepth 100000 in
theorem S81_ok : SOK 81 S81 := by
  intro xs q r bs h hq
  unfold S81 at h
  split at h <;> cases h
  rename_i ct
  obtain ⟨hq1, hq2⟩ := hq
  refine FS_wk ?_
  simp only [List.map_cons, List.map_nil, wk2, wk1]
  rw [kTsk_wk hq1]
  generalize uTsk ct = t at *
  refine fs_of_awp mixed (sg_ok (gc_ok S114_ok (gc_ok S115_ok (gc_ok S116_ok (gc_ok S68_ok (gc_ok S117_ok (gc_ok S118_ok noS_ok))))))) Try.func81 rfl (ent_of Try.func81 rfl rfl) [(5, 1)] (by rw [Try.ntmps81]; exact Nat.le_of_ble_eq_true rfl) (by simp) (by simp) (by simp) true ?_
  rw [Try.ntmps81, Try.results81]
  obtain ⟨x1, x2, x3, x4, x5, x6⟩ := hq2
  simp
  exact ⟨⟨by omega, by omega⟩, ⟨by omega, by omega⟩, ⟨by omega, by omega⟩, by rfl, ⟨by omega, by omega⟩, ⟨by omega, by omega⟩, ⟨by omega, by omega⟩, by rfl⟩

def sndE (t : Tsk) (l : List Snd) : Int := if okT t then (if allL okSnd l then (if 4000 < (t.pd.length : Int) + l.length then 4 else 0) else 8) else 8
def pendT (t : Tsk) (l : List Snd) : Tsk := if sndE t l = 0 then { t with pd := t.pd ++ l } else zT
theorem okT_b {t : Tsk} (h : okT t = true) : bT t := by
  unfold okT okNum okSiz limM at h
  simp only [Bool.and_eq_true, decide_eq_true_eq] at h
  simp only [bT]
  grind
@[simp] def S32 : Spec
  | [.agg cq, .agg cm] => some ((kQue cq = true) ∧ (kMsg cm = true) ∧ (bQ (uQue cq)), .tup [.agg (eQue (putQ (uQue cq) (uMsg cm))), .int .i64 (putE (uQue cq) (uMsg cm))], [])
  | _ => none
set_option maxRecDepth 100000 in
theorem S32_ok : SOK 32 S32 := by
  intro xs q r bs h hq
  unfold S32 at h
  split at h <;> cases h
  rename_i cq cm
  obtain ⟨hq1, hq2, hq3⟩ := hq
  refine FS_wk ?_
  simp only [List.map_cons, List.map_nil, wk2, wk1]
  rw [kQue_wk hq1]
  generalize uQue cq = q at *
  rw [kMsg_wk hq2]
  generalize uMsg cm = m at *
  refine fs_of_awp mixed (sg_ok (gc_ok S82_ok (gc_ok S83_ok noS_ok))) Try.func32 rfl (ent_of Try.func32 rfl rfl) [] (by rw [Try.ntmps32]; exact Nat.le_of_ble_eq_true rfl) (by simp) (by simp) (by simp) true ?_
  rw [Try.ntmps32, Try.results32]
  have hb : okQ q = true → 1 ≤ q.rm ∧ q.rm ≤ 8 ∧ q.l.length ≤ q.rm := by unfold okQ; grind
  have hw : IntKind.i64.wrap ((q.l.length : Int) + 1) = (q.l.length : Int) + 1 := wrap_i64 _ (by simp at hq3; omega) (by simp at hq3; omega)
  by_cases h1 : okQ q = true
  · by_cases h2 : okMsg m = true
    · by_cases h3 : (q.l.length : Int) = q.rm
      · simp_all [putE, putQ, zQ]
      · simp [h1, h2, h3, hw, putE, putQ]
        simp at hq3
        exact ⟨hq3, ⟨by omega, by omega, by omega⟩, by omega, by simp [immR_append]⟩
    · simp_all [putE, putQ, zQ]
  · simp_all [putE, putQ, zQ]
@[simp] def S41 : Spec
  | [.agg ct, .sl _ cl] => some ((kTsk ct = true) ∧ (cl.all kSnd = true ∧ cl.length ≤ 9223372036854775807) ∧ (bT (uTsk ct) ∧ ((cl.map uSnd)).length ≤ 100000), .tup [.agg (eTsk (pendT (uTsk ct) (cl.map uSnd))), .int .i64 (sndE (uTsk ct) (cl.map uSnd))], [])
  | _ => none
set_option maxHeartbeats 2000000 in
set_option maxRecDepth 100000 in
theorem S41_ok : SOK 41 S41 := by
  intro xs q r bs h hq
  unfold S41 at h
  split at h <;> cases h
  rename_i ct exl cl
  obtain ⟨hq1, hq2, hq3⟩ := hq
  refine FS_wk ?_
  simp only [List.map_cons, List.map_nil, wk2, wk1]
  rw [kTsk_wk hq1]
  generalize uTsk ct = t at *
  obtain ⟨l, rfl⟩ := rows_ex (fun c hc => kSnd_ok hc) hq2.1
  have hll := hq2.2
  simp only [List.length_map] at hll
  try simp only [List.map_map, ue_Rec, ue_Ev, ue_Row, ue_Msg, ue_Snd, ue_Ent, ue_Int, ue_Que, List.map_id] at *
  refine fs_of_awp mixed (sg_ok (gc_ok S81_ok (gc_ok S59_ok (gc_ok S89_ok noS_ok)))) Try.func41 rfl (ent_of Try.func41 rfl rfl) [] (by rw [Try.ntmps41]; exact Nat.le_of_ble_eq_true rfl) (by simp) (by simp) (by simp) true ?_
  rw [Try.ntmps41, Try.results41]
  have hp : okT t = true → t.pd.length ≤ 4000 := by unfold okT okSiz; grind
  have hb := hq2
  obtain ⟨⟨x1, x2, x3, x4, x5, x6⟩, xl⟩ := hq3
  by_cases h1 : okT t = true
  · by_cases h2 : allL okSnd l = true
    · have hw : IntKind.i64.wrap (4000 - (t.pd.length : Int)) = 4000 - t.pd.length := wrap_i64 _ (by have := hp h1; omega) (by have := hp h1; omega)
      by_cases h3 : 4000 < (t.pd.length : Int) + l.length
      · simp [h1, h2, hw, sndE, pendT, zT, h3]
        (repeat' first | refine And.intro ?_ ?_ | intro _) <;> first | omega | simp [immR_append]
      · simp [h1, h2, hw, sndE, pendT, h3]
        (repeat' first | refine And.intro ?_ ?_ | intro _) <;> first | omega | simp [immR_append]
    · simp [h1, h2, sndE, pendT, zT]
      (repeat' first | refine And.intro ?_ ?_ | intro _) <;> omega
  · simp [h1, sndE, pendT, zT]
    (repeat' first | refine And.intro ?_ ?_ | intro _) <;> omega

end Go.Proofs.Ytedhhjmjlpnlpaa.VW
