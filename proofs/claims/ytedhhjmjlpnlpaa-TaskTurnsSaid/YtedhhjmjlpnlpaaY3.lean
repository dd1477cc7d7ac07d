/- Enabled. -/
import Derived.Test.YtedhhjmjlpnlpaaY2
import Derived.Test.YtedhhjmjlpnlpaaXS
namespace Go.Proofs.Ytedhhjmjlpnlpaa.VW
open Go Go.RowKit
set_option linter.unusedVariables false
set_option linter.unusedSimpArgs false

def oB (n : Int) (s : Snd) : Bool := decide (s.o < n)
def enE (t : Tsk) (a c : List Que) : Int := if askE t a c ≠ 0 then askE t a c else if allL (oB c.length) t.pd then 0 else 2
def leftB (q : Que) : Bool := decide ((q.l.length : Int) < q.rm)
def abB (t : Tsk) (a c : List Que) : Bool := if 0 < t.pd.length then leftB (c.getD (t.pd.getD 0 default).o.toNat default) else if t.kd = 1 then decide (0 < t.ev.length) else decide (0 ≤ firstQ 0 a)
def enB (t : Tsk) (a c : List Que) : Bool := if enE t a c = 0 then abB t a c else false
theorem askE_0 {t : Tsk} {a c : List Que} (h : askE t a c = 0) : okT t = true ∧ a.length ≤ 4 ∧ c.length ≤ 3 ∧ allL okQ a = true ∧ allL okQ c = true := by
  unfold askE at h
  have h1 : okT t = true := by grind
  have h2 : a.length ≤ 4 := by grind
  have h3 : c.length ≤ 3 := by grind
  have h4 : allL okQ (a ++ c) = true := by grind
  unfold allL at h4 ⊢
  rw [List.all_append, Bool.and_eq_true] at h4
  exact ⟨h1, h2, h3, h4.1, h4.2⟩
theorem okSnd_o {s : Snd} (h : okSnd s = true) : 0 ≤ s.o ∧ s.o < 3 ∧ okMsg s.m = true := by
  unfold okSnd at h; simp only [Bool.and_eq_true, decide_eq_true_eq] at h; exact ⟨h.1.1, h.1.2, h.2⟩
@[simp] def S101 : Spec
  | [.agg ct, .sl _ ca, .sl _ cc] => some ((kTsk ct = true) ∧ (ca.all kQue = true ∧ ca.length ≤ 9223372036854775807) ∧ (cc.all kQue = true ∧ cc.length ≤ 9223372036854775807) ∧ (bT (uTsk ct) ∧ bA (ca.map uQue) ∧ bA (cc.map uQue) ∧ ((ca.map uQue)).length ≤ 4 ∧ okT (uTsk ct) = true ∧ allL (oB ((cc.map uQue)).length) ((uTsk ct)).pd = true), .bool (abB (uTsk ct) (ca.map uQue) (cc.map uQue)), [])
  | _ => none
set_option maxHeartbeats 4000000 in
set_option maxRecDepth 100000 in
theorem S101_ok : SOK 101 S101 := by
  intro xs q r bs h hq
  unfold S101 at h
  split at h <;> cases h
  rename_i ct exa ca exc cc
  obtain ⟨hq1, hq2, hq3, hq4⟩ := hq
  refine FS_wk ?_
  simp only [List.map_cons, List.map_nil, wk2, wk1]
  rw [kTsk_wk hq1]
  generalize uTsk ct = t at *
  obtain ⟨a, rfl⟩ := rows_ex (fun c hc => kQue_ok hc) hq2.1
  have hla := hq2.2
  simp only [List.length_map] at hla
  obtain ⟨c, rfl⟩ := rows_ex (fun c hc => kQue_ok hc) hq3.1
  have hlc := hq3.2
  simp only [List.length_map] at hlc
  try simp only [List.map_map, ue_Rec, ue_Ev, ue_Row, ue_Msg, ue_Snd, ue_Ent, ue_Int, ue_Que, List.map_id] at *
  refine fs_of_awp mixed (sg_ok (gc_ok S102_ok noS_ok)) Try.func101 rfl (ent_of Try.func101 rfl rfl) [] (by rw [Try.ntmps101]; exact Nat.le_of_ble_eq_true rfl) (by simp) (by simp) (by simp) true ?_
  rw [Try.ntmps101, Try.results101]
  obtain ⟨⟨x1, x2, x3, x4, x5, x6⟩, ha, hb, hal, hok, hall⟩ := hq4
  have hal' : a.length ≤ 100000 := by omega
  by_cases hpos : 0 < t.pd.length
  · have h0s := allL_get hpos (okT_pd hok).1
    have ho0 := (okSnd_o h0s).1
    have hoc : t.pd[0].o < (c.length : Int) := by have := allL_get hpos hall; simpa [oB] using this
    have hot : t.pd[0].o.toNat < c.length := by omega
    have hgd : t.pd.getD 0 default = t.pd[0] := by simp [hpos]
    have hgq : c.getD t.pd[0].o.toNat default = c[t.pd[0].o.toNat] := by simp [hot]
    have hqb := hb c[t.pd[0].o.toNat] (List.getElem_mem hot)
    have hposI : (0 : Int) < t.pd.length := by omega
    have hne0 : ¬ t.pd = [] := by intro h; rw [h] at hpos; simp at hpos
    simp [abB, hpos, hposI, hne0, hgd, hgq, ho0, hoc, hot, getD_map, getQ_map, leftB]
    try omega
  · have hpd : t.pd = [] := List.eq_nil_of_length_eq_zero (by omega)
    by_cases hk : t.kd = 1
    · simp [abB, eq_true hpd, hpos, eq_true hk]
      try omega
    · simp [abB, eq_true hpd, hpos, hk, hal', ha]
      all_goals ((repeat' first | refine And.intro ?_ ?_ | intro _) <;> first | assumption | omega | (apply ha; assumption) | (apply hb; assumption))
@[simp] def S28 : Spec
  | [.agg ct, .sl _ ca, .sl _ cc] => some ((kTsk ct = true) ∧ (ca.all kQue = true ∧ ca.length ≤ 9223372036854775807) ∧ (cc.all kQue = true ∧ cc.length ≤ 9223372036854775807) ∧ (bT (uTsk ct) ∧ bA (ca.map uQue) ∧ bA (cc.map uQue)), .tup [.bool (enB (uTsk ct) (ca.map uQue) (cc.map uQue)), .int .i64 (enE (uTsk ct) (ca.map uQue) (cc.map uQue))], [])
  | _ => none
set_option maxHeartbeats 8000000 in
set_option maxRecDepth 100000 in
theorem S28_ok : SOK 28 S28 := by
  intro xs q r bs h hq
  unfold S28 at h
  split at h <;> cases h
  rename_i ct exa ca exc cc
  obtain ⟨hq1, hq2, hq3, hq4⟩ := hq
  refine FS_wk ?_
  simp only [List.map_cons, List.map_nil, wk2, wk1]
  rw [kTsk_wk hq1]
  generalize uTsk ct = t at *
  obtain ⟨a, rfl⟩ := rows_ex (fun c hc => kQue_ok hc) hq2.1
  have hla := hq2.2
  simp only [List.length_map] at hla
  obtain ⟨c, rfl⟩ := rows_ex (fun c hc => kQue_ok hc) hq3.1
  have hlc := hq3.2
  simp only [List.length_map] at hlc
  try simp only [List.map_map, ue_Rec, ue_Ev, ue_Row, ue_Msg, ue_Snd, ue_Ent, ue_Int, ue_Que, List.map_id] at *
  refine fs_of_awp mixed (sg_ok (gc_ok S76_ok (gc_ok S77_ok (gc_ok S78_ok noS_ok)))) Try.func28 rfl (ent_of Try.func28 rfl rfl) [] (by rw [Try.ntmps28]; exact Nat.le_of_ble_eq_true rfl) (by simp) (by simp) (by simp) true ?_
  rw [Try.ntmps28, Try.results28]
  obtain ⟨⟨x1, x2, x3, x4, x5, x6⟩, ha, hb⟩ := hq4
  by_cases e0 : askE t a c = 0
  rotate_left
  · have f1 : enE t a c = askE t a c := by unfold enE; rw [if_pos e0]
    have f2 : enB t a c = false := by unfold enB; rw [if_neg (by rw [f1]; exact e0)]
    simp [x1, x2, x3, x4, x5, x6, ha, hb, e0, f1, f2]
    all_goals ((repeat' first | refine And.intro ?_ ?_ | intro _) <;> first | assumption | omega | (apply ha; assumption) | (apply hb; assumption))
  obtain ⟨hok, hal, hcl, hqa, hqc⟩ := askE_0 e0
  have f1 : enE t a c = if allL (oB c.length) t.pd then 0 else 2 := by unfold enE; rw [if_neg (by simp [e0])]
  have hal' : a.length ≤ 100000 := by omega
  simp [x1, x2, x3, x4, x5, x6, e0]
  refine ⟨by ((repeat' first | refine And.intro ?_ ?_ | intro _) <;> first | assumption | omega | (apply ha; assumption) | (apply hb; assumption)), ?_⟩
  refine awp_loop (fun σ => ∃ i : Nat, i ≤ t.pd.length ∧ σ.T 1 = .sl false (a.map eQue) ∧ σ.T 2 = .sl false (c.map eQue) ∧ σ.T 3 = .ptr (3, 0) 1 0 ∧ σ.H (3, 0) = some (.var (eTsk t)) ∧ σ.γ (3, 0) = 1 ∧ σ.T 21 = .sl false (t.pd.map eSnd) ∧ σ.T 22 = .int .i64 t.pd.length ∧ σ.T 23 = .int .i64 i ∧ allL (oB c.length) (t.pd.take i) = true) (fun σ => t.pd.length - (ival (σ.T 23)).toNat) ⟨0, by simp⟩ ?_
  rintro σ ⟨i, hi, h1, h2, h3, hH3, hg3, ha1, ha2, hix, hp⟩ J hJ
  simp only [eTsk] at hH3
  by_cases hlt : i < t.pd.length
  · have hw : IntKind.i64.wrap ((i : Int) + 1) = (i : Int) + 1 := wrap_i64 _ (by omega) (by omega)
    by_cases hm : t.pd[i].o < (c.length : Int)
    · have hm' : ¬ (c.length : Int) ≤ t.pd[i].o := by omega
      simp [h1, h2, h3, hH3, hg3, ha1, ha2, hix, hlt, getD_map, getQ_map, hw, hm, hm']
      exact hJ _ ⟨i + 1, hlt, by simp [h1], by simp [h2], by simp [h3], by simp [hH3], by simp [hg3], by simp [ha1], by simp [ha2], by simp, allL_step hlt hp (by simpa [oB] using hm)⟩ (by simp [hix]; omega)
    · have hm' : (c.length : Int) ≤ t.pd[i].o := by omega
      have hn := allL_no (p := oB c.length) hlt (by simpa [oB] using hm)
      have f1' : enE t a c = 2 := by rw [f1, hn]; rfl
      have f2 : enB t a c = false := by unfold enB; rw [if_neg (by rw [f1']; decide)]
      simp [h1, h2, h3, hH3, hg3, ha1, ha2, hix, hlt, getD_map, getQ_map, hw, hm, hm', f1', f2]
  have hall := allL_all hlt hp
  have f1' : enE t a c = 0 := by rw [f1, hall]; rfl
  have f2 : enB t a c = abB t a c := by unfold enB; rw [if_pos f1']
  rw [f1', f2]
  by_cases hpos : 0 < t.pd.length
  · have h0s := allL_get hpos (okT_pd hok).1
    have ho0 := (okSnd_o h0s).1
    have hoc : t.pd[0].o < (c.length : Int) := by have := allL_get hpos hall; simpa [oB] using this
    have hot : t.pd[0].o.toNat < c.length := by omega
    have hgd : t.pd.getD 0 default = t.pd[0] := by simp [hpos]
    have hgq : c.getD t.pd[0].o.toNat default = c[t.pd[0].o.toNat] := by simp [hot]
    have hqb := hb c[t.pd[0].o.toNat] (List.getElem_mem hot)
    have hposI : (0 : Int) < t.pd.length := by omega
    have hne0 : ¬ t.pd = [] := by intro h; rw [h] at hpos; simp at hpos
    have hqk := allL_get hot hqc
    simp [h1, h2, h3, hH3, hg3, ha1, ha2, hix, hlt, abB, hpos, hposI, hne0, hgd, hgq, ho0, hoc, hot, hqb, hqk, getD_map, getQ_map, leftB]
    all_goals (rw [Bool.eq_iff_iff]; simp; try omega)
  · have hpd : t.pd = [] := List.eq_nil_of_length_eq_zero (by omega)
    by_cases hk : t.kd = 1
    · simp [h1, h2, h3, hH3, hg3, ha1, ha2, hix, hlt, abB, eq_true hpd, hpos, eq_true hk]
    · simp [h1, h2, h3, hH3, hg3, ha1, ha2, hix, hlt, abB, eq_true hpd, hpos, hk, hal']
      all_goals ((repeat' first | refine And.intro ?_ ?_ | intro _) <;> first | assumption | omega | (apply ha; assumption) | (apply hb; assumption))
@[simp] def S57 : Spec
  | [.agg ct, .sl _ ca, .sl _ cc] => some ((kTsk ct = true) ∧ (ca.all kQue = true ∧ ca.length ≤ 9223372036854775807) ∧ (cc.all kQue = true ∧ cc.length ≤ 9223372036854775807) ∧ (bT (uTsk ct) ∧ bA (ca.map uQue) ∧ bA (cc.map uQue)), .tup [.bool (enB (uTsk ct) (ca.map uQue) (cc.map uQue)), .int .i64 (enE (uTsk ct) (ca.map uQue) (cc.map uQue))], [])
  | _ => none
set_option maxHeartbeats 8000000 in
set_option maxRecDepth 100000 in
theorem S57_ok : SOK 57 S57 := by
  intro xs q r bs h hq
  unfold S57 at h
  split at h <;> cases h
  rename_i ct exa ca exc cc
  obtain ⟨hq1, hq2, hq3, hq4⟩ := hq
  refine FS_wk ?_
  simp only [List.map_cons, List.map_nil, wk2, wk1]
  rw [kTsk_wk hq1]
  generalize uTsk ct = t at *
  obtain ⟨a, rfl⟩ := rows_ex (fun c hc => kQue_ok hc) hq2.1
  have hla := hq2.2
  simp only [List.length_map] at hla
  obtain ⟨c, rfl⟩ := rows_ex (fun c hc => kQue_ok hc) hq3.1
  have hlc := hq3.2
  simp only [List.length_map] at hlc
  try simp only [List.map_map, ue_Rec, ue_Ev, ue_Row, ue_Msg, ue_Snd, ue_Ent, ue_Int, ue_Que, List.map_id] at *
  refine fs_of_awp mixed (sg_ok (gc_ok S100_ok (gc_ok S101_ok noS_ok))) Try.func57 rfl (ent_of Try.func57 rfl rfl) [] (by rw [Try.ntmps57]; exact Nat.le_of_ble_eq_true rfl) (by simp) (by simp) (by simp) true ?_
  rw [Try.ntmps57, Try.results57]
  obtain ⟨⟨x1, x2, x3, x4, x5, x6⟩, ha, hb⟩ := hq4
  by_cases e0 : askE t a c = 0
  rotate_left
  · have f1 : enE t a c = askE t a c := by unfold enE; rw [if_pos e0]
    have f2 : enB t a c = false := by unfold enB; rw [if_neg (by rw [f1]; exact e0)]
    simp [x1, x2, x3, x4, x5, x6, ha, hb, e0, f1, f2]
    all_goals ((repeat' first | refine And.intro ?_ ?_ | intro _) <;> first | assumption | omega | (apply ha; assumption) | (apply hb; assumption))
  obtain ⟨hok, hal, hcl, hqa, hqc⟩ := askE_0 e0
  have f1 : enE t a c = if allL (oB c.length) t.pd then 0 else 2 := by unfold enE; rw [if_neg (by simp [e0])]
  have hal' : a.length ≤ 100000 := by omega
  simp [x1, x2, x3, x4, x5, x6, e0]
  refine ⟨by ((repeat' first | refine And.intro ?_ ?_ | intro _) <;> first | assumption | omega | (apply ha; assumption) | (apply hb; assumption)), ?_⟩
  refine awp_loop (fun σ => ∃ i : Nat, i ≤ t.pd.length ∧ σ.T 1 = .sl false (a.map eQue) ∧ σ.T 2 = .sl false (c.map eQue) ∧ σ.T 3 = .ptr (3, 0) 1 0 ∧ σ.H (3, 0) = some (.var (eTsk t)) ∧ σ.γ (3, 0) = 1 ∧ σ.T 9 = .int .i64 i ∧ allL (oB c.length) (t.pd.take i) = true) (fun σ => t.pd.length - (ival (σ.T 9)).toNat) ⟨0, by simp⟩ ?_
  rintro σ ⟨i, hi, h1, h2, h3, hH3, hg3, hix, hp⟩ J hJ
  simp only [eTsk] at hH3
  by_cases hlt : i < t.pd.length
  · have hw : IntKind.i64.wrap ((i : Int) + 1) = (i : Int) + 1 := wrap_i64 _ (by omega) (by omega)
    by_cases hm : t.pd[i].o < (c.length : Int)
    · have hm' : ¬ (c.length : Int) ≤ t.pd[i].o := by omega
      simp [h1, h2, h3, hH3, hg3, hix, hlt, getD_map, getQ_map, hw, hm, hm']
      exact hJ _ ⟨i + 1, hlt, by simp [h1], by simp [h2], by simp [h3], by simp [hH3], by simp [hg3], by simp, allL_step hlt hp (by simpa [oB] using hm)⟩ (by simp [hix]; omega)
    · have hm' : (c.length : Int) ≤ t.pd[i].o := by omega
      have hn := allL_no (p := oB c.length) hlt (by simpa [oB] using hm)
      have f1' : enE t a c = 2 := by rw [f1, hn]; rfl
      have f2 : enB t a c = false := by unfold enB; rw [if_neg (by rw [f1']; decide)]
      simp [h1, h2, h3, hH3, hg3, hix, hlt, getD_map, getQ_map, hw, hm, hm', f1', f2]
  have hall := allL_all hlt hp
  have f1' : enE t a c = 0 := by rw [f1, hall]; rfl
  have f2 : enB t a c = abB t a c := by unfold enB; rw [if_pos f1']
  rw [f1', f2]
  simp [h1, h2, h3, hH3, hg3, hix, hlt, x1, x2, x3, x4, x5, x6, hal, hok, hall]
  all_goals ((repeat' first | refine And.intro ?_ ?_ | intro _) <;> first | assumption | omega | (apply ha; assumption) | (apply hb; assumption))
@[simp] def S70 : Spec
  | [.agg ct, .sl _ ca, .sl _ cc, .bool w] => some ((kTsk ct = true) ∧ (ca.all kQue = true ∧ ca.length ≤ 9223372036854775807) ∧ (cc.all kQue = true ∧ cc.length ≤ 9223372036854775807) ∧ (bT (uTsk ct) ∧ bA (ca.map uQue) ∧ bA (cc.map uQue)), .bool (enE (uTsk ct) (ca.map uQue) (cc.map uQue) == 0 && (enB (uTsk ct) (ca.map uQue) (cc.map uQue) == w)), [])
  | _ => none
set_option maxRecDepth 100000 in
theorem S70_ok : SOK 70 S70 := by
  intro xs q r bs h hq
  unfold S70 at h
  split at h <;> cases h
  rename_i ct exa ca exc cc w
  obtain ⟨hq1, hq2, hq3, hq4⟩ := hq
  refine FS_wk ?_
  simp only [List.map_cons, List.map_nil, wk2, wk1]
  rw [kTsk_wk hq1]
  generalize uTsk ct = t at *
  obtain ⟨a, rfl⟩ := rows_ex (fun c hc => kQue_ok hc) hq2.1
  have hla := hq2.2
  simp only [List.length_map] at hla
  obtain ⟨c, rfl⟩ := rows_ex (fun c hc => kQue_ok hc) hq3.1
  have hlc := hq3.2
  simp only [List.length_map] at hlc
  try simp only [List.map_map, ue_Rec, ue_Ev, ue_Row, ue_Msg, ue_Snd, ue_Ent, ue_Int, ue_Que, List.map_id] at *
  refine fs_of_awp mixed (sg_ok (gc_ok S28_ok noS_ok)) Try.func70 rfl (ent_of Try.func70 rfl rfl) [] (by rw [Try.ntmps70]; exact Nat.le_of_ble_eq_true rfl) (by simp) (by simp) (by simp) true ?_
  rw [Try.ntmps70, Try.results70]
  obtain ⟨⟨x1, x2, x3, x4, x5, x6⟩, ha, hb⟩ := hq4
  by_cases h : enE t a c = 0 <;> simp [x1, x2, x3, x4, x5, x6, h]
  all_goals ((repeat' first | refine And.intro ?_ ?_ | intro _) <;> first | assumption | omega | (apply ha; assumption) | (apply hb; assumption))

end Go.Proofs.Ytedhhjmjlpnlpaa.VW
