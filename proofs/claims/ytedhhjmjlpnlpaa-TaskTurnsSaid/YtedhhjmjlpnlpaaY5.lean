/- Queues of the reference. -/
import Derived.Test.YtedhhjmjlpnlpaaY4
namespace Go.Proofs.Ytedhhjmjlpnlpaa.VW
open Go Go.RowKit
set_option linter.unusedVariables false
set_option linter.unusedSimpArgs false
@[simp] def S107 : Spec
  | [.agg cq] => some ((kQue cq = true) ∧ (bQ (uQue cq)), .agg (eQue (uQue cq)), [])
  | _ => none
set_option maxRecDepth 100000 in
theorem S107_ok : SOK 107 S107 := by
  intro xs q r bs h hq
  unfold S107 at h
  split at h <;> cases h
  rename_i cq
  obtain ⟨hq1, hq2⟩ := hq
  refine FS_wk ?_
  simp only [List.map_cons, List.map_nil, wk2, wk1]
  rw [kQue_wk hq1]
  generalize uQue cq = q at *
  refine fs_of_awp mixed (sg_ok noS_ok) Try.func107 rfl (ent_of Try.func107 rfl rfl) [] (by rw [Try.ntmps107]; exact Nat.le_of_ble_eq_true rfl) (by simp) (by simp) (by simp) true ?_
  rw [Try.ntmps107, Try.results107]
  have hb := hq2
  simp only [bQ] at hb
  simp [hb]
  all_goals ((repeat' first | refine And.intro ?_ ?_ | intro _) <;> first | assumption | omega | rfl)
@[simp] def S107o : Spec
  | [.agg cq] => some ((kQue cq = true) ∧ (bQ (uQue cq)), .agg [.int .i64 ((uQue cq)).rm, .own (0, 0) 0], [.rows 10 (((uQue cq)).l.map eMsg)])
  | _ => none
set_option maxRecDepth 100000 in
theorem S107o_ok : SOK 107 S107o := by
  intro xs q r bs h hq
  unfold S107o at h
  split at h <;> cases h
  rename_i cq
  obtain ⟨hq1, hq2⟩ := hq
  refine FS_wk ?_
  simp only [List.map_cons, List.map_nil, wk2, wk1]
  rw [kQue_wk hq1]
  generalize uQue cq = q at *
  refine fs_of_awp mixed (sg_ok noS_ok) Try.func107 rfl (ent_of Try.func107 rfl rfl) [(8, 0)] (by rw [Try.ntmps107]; exact Nat.le_of_ble_eq_true rfl) (by simp) (by simp) (by simp) true ?_
  rw [Try.ntmps107, Try.results107]
  have hb := hq2
  simp only [bQ] at hb
  simp [hb]
  all_goals ((repeat' first | refine And.intro ?_ ?_ | intro _) <;> first | assumption | omega | rfl)
@[simp] def S108 : Spec
  | [.agg cq, .agg cm] => some ((kQue cq = true) ∧ (kMsg cm = true) ∧ (bQ (uQue cq)), .tup [.agg (eQue (putQ (uQue cq) (uMsg cm))), .int .i64 (putE (uQue cq) (uMsg cm))], [])
  | _ => none
set_option maxHeartbeats 2000000 in
set_option maxRecDepth 100000 in
theorem S108_ok : SOK 108 S108 := by
  intro xs q r bs h hq
  unfold S108 at h
  split at h <;> cases h
  rename_i cq cm
  obtain ⟨hq1, hq2, hq3⟩ := hq
  refine FS_wk ?_
  simp only [List.map_cons, List.map_nil, wk2, wk1]
  rw [kQue_wk hq1]
  generalize uQue cq = q at *
  rw [kMsg_wk hq2]
  generalize uMsg cm = m at *
  refine fs_of_awp mixed (sg_ok (gc_ok S60_ok (gc_ok S37_ok (gc_ok S107o_ok noS_ok)))) Try.func108 rfl (ent_of Try.func108 rfl rfl) [] (by rw [Try.ntmps108]; exact Nat.le_of_ble_eq_true rfl) (by simp) (by simp) (by simp) true ?_
  rw [Try.ntmps108, Try.results108]
  have hb' := hq3
  simp only [bQ] at hb'
  by_cases h1 : okQ q = true
  rotate_left
  · have e : putE q m = 8 := by simp [putE, h1]
    have e2 : putQ q m = zQ := by unfold putQ; rw [if_neg (by rw [e]; decide)]
    simp [hb', h1, e, e2, zQ]
  by_cases h2 : okMsg m = true
  rotate_left
  · have e : putE q m = 8 := by simp [putE, h1, h2]
    have e2 : putQ q m = zQ := by unfold putQ; rw [if_neg (by rw [e]; decide)]
    simp [hb', h1, h2, e, e2, zQ]
  by_cases h3 : (q.l.length : Int) = q.rm
  · have e : putE q m = 18 := by simp [putE, h1, h2, h3]
    have e2 : putQ q m = zQ := by unfold putQ; rw [if_neg (by rw [e]; decide)]
    simp [hb', h1, h2, h3, e, e2, zQ]
  · have e : putE q m = 0 := by simp [putE, h1, h2, h3]
    have e2 : putQ q m = ⟨q.rm, q.l ++ [m]⟩ := by unfold putQ; rw [if_pos e]
    simp [hb', h1, h2, h3, e, e2]
    all_goals ((repeat' first | refine And.intro ?_ ?_ | intro _) <;> first | assumption | omega | rfl)
@[simp] def S61 : Spec
  | [.sl _ cl] => some ((cl.all kQue = true ∧ cl.length ≤ 9223372036854775807) ∧ (((cl.map uQue)).length ≤ 100000 ∧ bA (cl.map uQue)), .own (0, 0) 0, [.rows 2 (((cl.map uQue)).map eQue)])
  | _ => none
set_option maxHeartbeats 4000000 in
set_option maxRecDepth 100000 in
theorem S61_ok : SOK 61 S61 := by
  intro xs q r bs h hq
  unfold S61 at h
  split at h <;> cases h
  rename_i exl cl
  obtain ⟨hq1, hq2⟩ := hq
  refine FS_wk ?_
  simp only [List.map_cons, List.map_nil, wk2, wk1]
  obtain ⟨l, rfl⟩ := rows_ex (fun c hc => kQue_ok hc) hq1.1
  have hll := hq1.2
  simp only [List.length_map] at hll
  try simp only [List.map_map, ue_Rec, ue_Ev, ue_Row, ue_Msg, ue_Snd, ue_Ent, ue_Int, ue_Que, List.map_id] at *
  refine fs_of_awp2 mixed (sg_ok (gc_ok S107_ok noS_ok)) Try.func61 rfl (ent_of Try.func61 rfl rfl) [(18, 0)] (by rw [Try.ntmps61]; exact Nat.le_of_ble_eq_true rfl) (by simp) (by simp) (by simp) true 2 2 (18, 0) ?_
  rw [Try.ntmps61, Try.results61]
  obtain ⟨hl, hb⟩ := hq2
  simp
  refine awp_loop (fun σ => ∃ i : Nat, i ≤ l.length ∧ σ.T 0 = .sl false (l.map eQue) ∧ σ.T 4 = .int .i64 i ∧ ((i = 0 ∧ σ.T 3 = .sl true []) ∨ (0 < i ∧ σ.T 3 = .own (18, 0) (σ.γ (18, 0)) ∧ σ.H (18, 0) = some (.rows 2 ((l.take i).map eQue))))) (fun σ => l.length - (ival (σ.T 4)).toNat) ⟨0, by simp⟩ ?_
  rintro σ ⟨i, hi, h0, h4, hO⟩ J hJ
  by_cases hlt : i < l.length
  · have hw : IntKind.i64.wrap ((i : Int) + 1) = (i : Int) + 1 := wrap_i64 _ (by omega) (by omega)
    have hqi := hb l[i] (List.getElem_mem hlt)
    have hs : l.take (i + 1) = l.take i ++ [l[i]] := List.take_succ_eq_append_getElem hlt
    obtain ⟨L, hL⟩ : ∃ L, l.take i = L := ⟨_, rfl⟩
    have hLl : L.length ≤ i := by rw [← hL]; simp; omega
    rw [hL] at hs hO
    rcases hO with ⟨h0', hO⟩ | ⟨hi0, hO, hR⟩
    · have hL0 : L = [] := by subst h0'; rw [← hL]; rfl
      subst hL0
      simp [h0, h4, hO, hlt, getD_map, getQ_map, hw, hqi]
      exact hJ _ ⟨i + 1, by omega, by simp [h0], by simp, .inr ⟨by omega, by simp, by rw [hs]; simp⟩⟩ (by simp [h4]; omega)
    · simp [h0, h4, hO, hR, hlt, getD_map, getQ_map, hw, hqi]
      refine ⟨⟨by omega, by omega⟩, hJ _ ⟨i + 1, by omega, by simp [h0], by simp, .inr ⟨by omega, by simp, by rw [hs]; simp⟩⟩ (by simp [h4]; omega)⟩
  · rcases hO with ⟨rfl, hO⟩ | ⟨hi0, hO, hR⟩
    · have : l = [] := List.eq_nil_of_length_eq_zero (by omega)
      simp [h0, h4, hO, hlt, this]
    · rw [List.take_of_length_le (by omega)] at hR
      simp [h0, h4, hO, hR, hlt]
@[simp] def S63 : Spec
  | [.agg ct, .sl _ cl] => some ((kTsk ct = true) ∧ (cl.all kSnd = true ∧ cl.length ≤ 9223372036854775807) ∧ (bT (uTsk ct) ∧ ((cl.map uSnd)).length ≤ 100000), .tup [.agg (eTsk (pendT (uTsk ct) (cl.map uSnd))), .int .i64 (sndE (uTsk ct) (cl.map uSnd))], [])
  | _ => none
set_option maxHeartbeats 2000000 in
set_option maxRecDepth 100000 in
theorem S63_ok : SOK 63 S63 := by
  intro xs q r bs h hq
  unfold S63 at h
  split at h <;> cases h
  rename_i ct exl cl
  obtain ⟨hq1, hq2, hq3⟩ := hq
  refine FS_wk ?_
  simp only [List.map_cons, List.map_nil, wk2, wk1]
  rw [kTsk_wk hq1]
  generalize uTsk ct = t at *
  obtain ⟨l, rfl⟩ := rows_ex (fun c hc => kSnd_ok hc) hq2.1
  have hll := hq2.2
  simp only [List.length_map] at hll
  try simp only [List.map_map, ue_Rec, ue_Ev, ue_Row, ue_Msg, ue_Snd, ue_Ent, ue_Int, ue_Que, List.map_id] at *
  refine fs_of_awp mixed (sg_ok (gc_ok S27_ok (gc_ok S73_ok (gc_ok S45_ok noS_ok)))) Try.func63 rfl (ent_of Try.func63 rfl rfl) [] (by rw [Try.ntmps63]; exact Nat.le_of_ble_eq_true rfl) (by simp) (by simp) (by simp) true ?_
  rw [Try.ntmps63, Try.results63]
  have hp : okT t = true → t.pd.length ≤ 4000 := by unfold okT okSiz; grind
  obtain ⟨⟨x1, x2, x3, x4, x5, x6⟩, xl⟩ := hq3
  by_cases h1 : okT t = true
  rotate_left
  · simp [x1, x2, x3, x4, x5, x6, h1, sndE, pendT, zT]
  by_cases h2 : allL okSnd l = true
  rotate_left
  · simp [x1, x2, x3, x4, x5, x6, h1, h2, sndE, pendT, zT, hll]
  have hw : IntKind.i64.wrap (4000 - (t.pd.length : Int)) = 4000 - t.pd.length := wrap_i64 _ (by have := hp h1; omega) (by have := hp h1; omega)
  by_cases h3 : 4000 < (t.pd.length : Int) + l.length
  · have h3' : 4000 - (t.pd.length : Int) < l.length := by omega
    simp [x1, x2, x3, x4, x5, x6, h1, h2, hw, sndE, pendT, zT, h3, h3', hll]
  · have h3' : ¬ 4000 - (t.pd.length : Int) < l.length := by omega
    simp [x1, x2, x3, x4, x5, x6, h1, h2, hw, sndE, pendT, h3, h3', hll]
    all_goals ((repeat' first | refine And.intro ?_ ?_ | intro _) <;> first | assumption | omega | rfl)

theorem Que_eq {a b : Que} (h1 : a.rm = b.rm) (h2 : a.l = b.l) : a = b := by cases a; cases b; simp_all
@[simp] def S33 : Spec
  | [.agg cx, .agg cy] => some ((kQue cx = true) ∧ (kQue cy = true) ∧ (((uQue cx)).l.length ≤ 9223372036854775807 ∧ ((uQue cy)).l.length ≤ 9223372036854775807), .bool (decide ((uQue cx) = (uQue cy))), [])
  | _ => none
set_option maxRecDepth 100000 in
theorem S33_ok : SOK 33 S33 := by
  intro xs q r bs h hq
  unfold S33 at h
  split at h <;> cases h
  rename_i cx cy
  obtain ⟨hq1, hq2, hq3⟩ := hq
  refine FS_wk ?_
  simp only [List.map_cons, List.map_nil, wk2, wk1]
  rw [kQue_wk hq1]
  generalize uQue cx = x at *
  rw [kQue_wk hq2]
  generalize uQue cy = y at *
  refine fs_of_awp mixed (sg_ok (gc_ok S36_ok noS_ok)) Try.func33 rfl (ent_of Try.func33 rfl rfl) [] (by rw [Try.ntmps33]; exact Nat.le_of_ble_eq_true rfl) (by simp) (by simp) (by simp) true ?_
  rw [Try.ntmps33, Try.results33]
  obtain ⟨y1, y2⟩ := hq3
  by_cases h1 : x.rm = y.rm
  · simp [h1, y1, y2]
    exact ⟨fun h => Que_eq h1 h, fun h => by rw [h]⟩
  · have h1' : (x.rm == y.rm) = false := by simpa using h1
    have h2 : ¬ x = y := fun h => h1 (by rw [h])
    simp [h1', h2, y1, y2]
@[simp] def S64 : Spec
  | [.sl _ cx, .sl _ cy] => some ((cx.all kQue = true ∧ cx.length ≤ 9223372036854775807) ∧ (cy.all kQue = true ∧ cy.length ≤ 9223372036854775807) ∧ ((∀ q ∈ (cx.map uQue), q.l.length ≤ 9223372036854775807) ∧ ∀ q ∈ (cy.map uQue), q.l.length ≤ 9223372036854775807), .bool (decide ((cx.map uQue) = (cy.map uQue))), [])
  | _ => none
set_option maxHeartbeats 2000000 in
set_option maxRecDepth 100000 in
theorem S64_ok : SOK 64 S64 := by
  intro xs q r bs h hq
  unfold S64 at h
  split at h <;> cases h
  rename_i exx cx exy cy
  obtain ⟨hq1, hq2, hq3⟩ := hq
  refine FS_wk ?_
  simp only [List.map_cons, List.map_nil, wk2, wk1]
  obtain ⟨x, rfl⟩ := rows_ex (fun c hc => kQue_ok hc) hq1.1
  have hlx := hq1.2
  simp only [List.length_map] at hlx
  obtain ⟨y, rfl⟩ := rows_ex (fun c hc => kQue_ok hc) hq2.1
  have hly := hq2.2
  simp only [List.length_map] at hly
  try simp only [List.map_map, ue_Rec, ue_Ev, ue_Row, ue_Msg, ue_Snd, ue_Ent, ue_Int, ue_Que, List.map_id] at *
  refine fs_of_awp mixed (sg_ok (gc_ok S33_ok noS_ok)) Try.func64 rfl (ent_of Try.func64 rfl rfl) [] (by rw [Try.ntmps64]; exact Nat.le_of_ble_eq_true rfl) (by simp) (by simp) (by simp) true ?_
  rw [Try.ntmps64, Try.results64]
  obtain ⟨y1, y2⟩ := hq3
  simp
  refine ⟨by rintro h rfl; exact h rfl, fun hlen => ?_⟩
  refine awp_loop (fun σ => ∃ i : Nat, i ≤ x.length ∧ σ.T 0 = .sl false (x.map eQue) ∧ σ.T 1 = .sl false (y.map eQue) ∧ σ.T 5 = .int .i64 i ∧ x.take i = y.take i) (fun σ => x.length - (ival (σ.T 5)).toNat) ⟨0, by simp⟩ ?_
  rintro σ ⟨i, hi, h0, h1, h5, hp⟩ J hJ
  by_cases hlt : i < x.length
  · have hw : IntKind.i64.wrap ((i : Int) + 1) = (i : Int) + 1 := wrap_i64 _ (by omega) (by omega)
    have hlt' : i < y.length := by omega
    have q1 := y1 x[i] (List.getElem_mem hlt)
    have q2 := y2 y[i] (List.getElem_mem hlt')
    by_cases he : x[i] = y[i]
    · have q3 := q1
      rw [he] at q3
      simp [h0, h1, h5, hlt, hlt', getD_map, getQ_map, hw, he, q1, q2]
      exact ⟨by rfl, hJ _ ⟨i + 1, hlt, by simp [h0], by simp [h1], by simp, take_step hlt hlt' hp he⟩ (by simp [h5]; omega)⟩
    · simp [h0, h1, h5, hlt, hlt', getD_map, getQ_map, hw, he, q1, q2]
      exact ⟨by rfl, ne_at hlt hlt' he⟩
  · simp [h0, h1, h5, hlt]
    exact take_all hlt (by omega) hp

end Go.Proofs.Ytedhhjmjlpnlpaa.VW
