/- Send. -/
import Derived.Test.YtedhhjmjlpnlpaaY5
namespace Go.Proofs.Ytedhhjmjlpnlpaa.VW
open Go Go.RowKit
set_option linter.unusedVariables false
set_option linter.unusedSimpArgs false

def sd (t : Tsk) : Snd := t.pd.getD 0 default
def sdE (t : Tsk) (c : List Que) : Int := if askE t [] c ≠ 0 then askE t [] c else if t.pd.length = 0 then 6 else if (c.length : Int) ≤ (sd t).o then 2 else putE (c.getD (sd t).o.toNat default) (sd t).m
def sdT (t : Tsk) (c : List Que) : Tsk := if sdE t c = 0 then { t with pd := t.pd.drop 1 } else zT
def sdQ (t : Tsk) (c : List Que) : List Que := if sdE t c = 0 then c.set (sd t).o.toNat (putQ (c.getD (sd t).o.toNat default) (sd t).m) else []
theorem set_same {c : List Que} {i : Nat} (h : i < c.length) : (c.map eQue).set i [.int .i64 c[i].rm, .sl false (c[i].l.map eMsg)] = c.map eQue := by
  have : (c.map eQue).set i (eQue c[i]) = (c.set i c[i]).map eQue := by rw [List.map_set]
  rw [List.set_getElem_self] at this
  exact this
@[simp] theorem immR_set_map {α : Type} (f : α → List AV) (l : List α) (h : ∀ x, immL (f x) = true) (i : Nat) (x : List AV) (hx : immL x = true) : immR ((l.map f).set i x) = true := by
  rw [immR_iff]; intro r hr
  rcases List.mem_or_eq_of_mem_set hr with hr | rfl
  · obtain ⟨y, _, rfl⟩ := List.mem_map.1 hr; exact h y
  · exact hx
theorem sdE_cases (t : Tsk) (c : List Que) : (askE t [] c ≠ 0 ∧ sdE t c = askE t [] c) ∨ (askE t [] c = 0 ∧ t.pd = [] ∧ sdE t c = 6) ∨
    (askE t [] c = 0 ∧ ∃ h : 0 < t.pd.length, sd t = t.pd[0] ∧ ((c.length : Int) ≤ t.pd[0].o ∧ sdE t c = 2 ∨ 0 ≤ t.pd[0].o ∧ t.pd[0].o < (c.length : Int) ∧ ∃ h2 : t.pd[0].o.toNat < c.length, okQ c[t.pd[0].o.toNat] = true ∧ okMsg t.pd[0].m = true ∧ sdE t c = putE c[t.pd[0].o.toNat] t.pd[0].m ∧ c.getD t.pd[0].o.toNat default = c[t.pd[0].o.toNat])) := by
  by_cases e0 : askE t [] c = 0
  rotate_left
  · exact .inl ⟨e0, by unfold sdE; rw [if_pos e0]⟩
  obtain ⟨hok, hal, hcl, hqa, hqc⟩ := askE_0 e0
  by_cases hp : 0 < t.pd.length
  · have hs : sd t = t.pd[0] := by simp [sd, hp]
    have h0 := okSnd_o (allL_get hp (okT_pd hok).1)
    right; right
    refine ⟨e0, hp, hs, ?_⟩
    by_cases ho : (c.length : Int) ≤ t.pd[0].o
    · left; refine ⟨ho, ?_⟩
      unfold sdE; rw [if_neg (by simp [e0]), if_neg (by omega), hs, if_pos ho]
    · right
      have h2 : t.pd[0].o.toNat < c.length := by omega
      have hg : c.getD t.pd[0].o.toNat default = c[t.pd[0].o.toNat] := by simp [h2]
      refine ⟨h0.1, by omega, h2, allL_get h2 hqc, h0.2.2, ?_, hg⟩
      unfold sdE; rw [if_neg (by simp [e0]), if_neg (by omega), hs, if_neg ho, hg]
  · right; left
    have hl : t.pd.length = 0 := by omega
    exact ⟨e0, List.eq_nil_of_length_eq_zero hl, by unfold sdE; rw [if_neg (by simp [e0]), if_pos hl]⟩
@[simp] def S29 : Spec
  | [.agg ct, .sl _ cc] => some ((kTsk ct = true) ∧ (cc.all kQue = true ∧ cc.length ≤ 9223372036854775807) ∧ (bT (uTsk ct) ∧ bA (cc.map uQue)), .tup [.agg (eTsk (sdT (uTsk ct) (cc.map uQue))), .sl false ((sdQ (uTsk ct) (cc.map uQue)).map eQue), .int .i64 (sdE (uTsk ct) (cc.map uQue))], [])
  | _ => none
set_option maxHeartbeats 8000000 in
set_option maxRecDepth 100000 in
theorem S29_ok : SOK 29 S29 := by
  intro xs q r bs h hq
  unfold S29 at h
  split at h <;> cases h
  rename_i ct exc cc
  obtain ⟨hq1, hq2, hq3⟩ := hq
  refine FS_wk ?_
  simp only [List.map_cons, List.map_nil, wk2, wk1]
  rw [kTsk_wk hq1]
  generalize uTsk ct = t at *
  obtain ⟨c, rfl⟩ := rows_ex (fun c hc => kQue_ok hc) hq2.1
  have hlc := hq2.2
  simp only [List.length_map] at hlc
  try simp only [List.map_map, ue_Rec, ue_Ev, ue_Row, ue_Msg, ue_Snd, ue_Ent, ue_Int, ue_Que, List.map_id] at *
  refine fs_of_awp mixed (sg_ok (gc_ok S76_ok (gc_ok S32_ok (gc_ok S79_ok (gc_ok S80_ok (gc_ok S81_ok noS_ok)))))) Try.func29 rfl (ent_of Try.func29 rfl rfl) [] (by rw [Try.ntmps29]; exact Nat.le_of_ble_eq_true rfl) (by simp) (by simp) (by simp) true ?_
  rw [Try.ntmps29, Try.results29]
  obtain ⟨⟨x1, x2, x3, x4, x5, x6⟩, hb⟩ := hq3
  have hz : sdE t c ≠ 0 → sdT t c = zT ∧ sdQ t c = [] := fun h => ⟨by unfold sdT; rw [if_neg h], by unfold sdQ; rw [if_neg h]⟩
  rcases sdE_cases t c with ⟨e0, f1⟩ | ⟨e0, hpd, f1⟩ | ⟨e0, hpos, hs, ⟨ho, f1⟩ | ⟨ho0, hoc, hot, hqk, hmk, f1, hgq⟩⟩
  · obtain ⟨f2, f3⟩ := hz (by rw [f1]; exact e0)
    simp [x1, x2, x3, x4, x5, x6, e0, f1, f2, f3, zT]
    all_goals ((repeat' first | refine And.intro ?_ ?_ | intro _) <;> first | assumption | omega | rfl | (apply hb; assumption))
  · obtain ⟨f2, f3⟩ := hz (by rw [f1]; decide)
    simp [x1, x2, x3, x4, x5, x6, e0, eq_true hpd, f1, f2, f3, zT]
    all_goals ((repeat' first | refine And.intro ?_ ?_ | intro _) <;> first | assumption | omega | rfl | (apply hb; assumption))
  · obtain ⟨f2, f3⟩ := hz (by rw [f1]; decide)
    have hposI : (0 : Int) < t.pd.length := by omega
    have hne0 : ¬ t.pd = [] := by intro h; rw [h] at hpos; simp at hpos
    simp [x1, x2, x3, x4, x5, x6, e0, hpos, hposI, hne0, ho, f1, f2, f3, zT, getD_map, getQ_map]
    all_goals ((repeat' first | refine And.intro ?_ ?_ | intro _) <;> first | assumption | omega | rfl | (apply hb; assumption))
  have hposI : (0 : Int) < t.pd.length := by omega
  have hne0 : ¬ t.pd = [] := by intro h; rw [h] at hpos; simp at hpos
  have hoc' : ¬ (c.length : Int) ≤ t.pd[0].o := by omega
  have hqb := hb c[t.pd[0].o.toNat] (List.getElem_mem hot)
  have hcl := (askE_0 e0).2.2.1
  by_cases hpe : putE c[t.pd[0].o.toNat] t.pd[0].m = 0
  rotate_left
  · obtain ⟨f2, f3⟩ := hz (by rw [f1]; exact hpe)
    simp [x1, x2, x3, x4, x5, x6, e0, hpos, hposI, hne0, ho0, hoc, hoc', hot, hqb, f1, f2, f3, zT, getD_map, getQ_map, hpe]
    all_goals ((repeat' first | refine And.intro ?_ ?_ | intro _) <;> first | assumption | omega | rfl | (apply hb; assumption))
  have f1' : sdE t c = 0 := by rw [f1]; exact hpe
  have f2 : sdT t c = { t with pd := t.pd.drop 1 } := by unfold sdT; rw [if_pos f1']
  have f3 : sdQ t c = c.set t.pd[0].o.toNat (putQ c[t.pd[0].o.toNat] t.pd[0].m) := by unfold sdQ; rw [if_pos f1', hs, hgq]
  rw [f1', f2, f3]
  simp [x1, x2, x3, x4, x5, x6, e0, hpos, hposI, hne0, ho0, hoc, hoc', hot, hqb, getD_map, getQ_map, hpe]
  repeat refine And.intro (by ((repeat' first | refine And.intro ?_ ?_ | intro _) <;> first | assumption | omega | rfl | (apply hb; assumption))) ?_
  refine awp_loop (fun σ => ∃ i : Nat, i ≤ c.length ∧ σ.T 2 = .ptr (2, 0) 1 0 ∧ σ.H (2, 0) = some (.var (eTsk t)) ∧ σ.γ (2, 0) = 1 ∧ σ.T 4 = .ptr (4, 0) 1 0 ∧ σ.H (4, 0) = some (.var z31) ∧ σ.γ (4, 0) = 1 ∧ σ.T 8 = .ptr (8, 0) 1 0 ∧ σ.H (8, 0) = some (.var (eSnd t.pd[0])) ∧ σ.γ (8, 0) = 1 ∧ σ.T 9 = .ptr (9, 0) 1 0 ∧ σ.H (9, 0) = some (.var (eQue (putQ c[t.pd[0].o.toNat] t.pd[0].m))) ∧ σ.γ (9, 0) = 1 ∧ σ.T 11 = .own (51, 1) (σ.γ (51, 1)) ∧ σ.H (51, 1) = some (.rows 2 (c.map eQue)) ∧ σ.T 53 = .int .i64 c.length ∧ σ.T 54 = .int .i64 i) (fun σ => c.length - (ival (σ.T 54)).toNat) ⟨0, by simp⟩ ?_
  rintro σ ⟨i, hi, h2, hH2, hg2, h4, hH4, hg4, h8, hH8, hg8, h9, hH9, hg9, h11, hH11, h53, h54⟩ J hJ
  simp only [eTsk, eSnd, eQue] at hH2 hH8 hH9
  by_cases hlt : i < c.length
  · have hw : IntKind.i64.wrap ((i : Int) + 1) = (i : Int) + 1 := wrap_i64 _ (by omega) (by omega)
    have hqi := hb c[i] (List.getElem_mem hlt)
    simp [h2, hH2, hg2, h4, hH4, hg4, h8, hH8, hg8, h9, hH9, hg9, h11, hH11, h53, h54, hlt, getD_map, getQ_map, hw, hqi]
    exact ⟨by omega, hJ _ ⟨i + 1, hlt, by simp [h2], by simp [hH2], by simp [hg2], by simp [h4], by simp [hH4], by simp [hg4], by simp [h8], by simp [hH8], by simp [hg8], by simp [h9], by simp [hH9], by simp [hg9], by simp [h11], by simp; exact set_same hlt, by simp [h53], by simp⟩ (by simp [h54]; omega)⟩
  · simp [h2, hH2, hg2, h4, hH4, hg4, h8, hH8, hg8, h9, hH9, hg9, h11, hH11, h53, h54, hlt, ho0, hoc, hot, x1, x2, x3, x4, x5, x6, getD_map, getQ_map]
    all_goals ((repeat' first | refine And.intro ?_ ?_ | intro _) <;> first | assumption | omega | rfl | (apply hb; assumption))
@[simp] def S62 : Spec
  | [.agg ct, .sl _ cc] => some ((kTsk ct = true) ∧ (cc.all kQue = true ∧ cc.length ≤ 9223372036854775807) ∧ (bT (uTsk ct) ∧ bA (cc.map uQue)), .tup [.agg (eTsk (sdT (uTsk ct) (cc.map uQue))), .sl false ((sdQ (uTsk ct) (cc.map uQue)).map eQue), .int .i64 (sdE (uTsk ct) (cc.map uQue))], [])
  | _ => none
set_option maxHeartbeats 8000000 in
set_option maxRecDepth 100000 in
theorem S62_ok : SOK 62 S62 := by
  intro xs q r bs h hq
  unfold S62 at h
  split at h <;> cases h
  rename_i ct exc cc
  obtain ⟨hq1, hq2, hq3⟩ := hq
  refine FS_wk ?_
  simp only [List.map_cons, List.map_nil, wk2, wk1]
  rw [kTsk_wk hq1]
  generalize uTsk ct = t at *
  obtain ⟨c, rfl⟩ := rows_ex (fun c hc => kQue_ok hc) hq2.1
  have hlc := hq2.2
  simp only [List.length_map] at hlc
  try simp only [List.map_map, ue_Rec, ue_Ev, ue_Row, ue_Msg, ue_Snd, ue_Ent, ue_Int, ue_Que, List.map_id] at *
  refine fs_of_awp mixed (sg_ok (gc_ok S100_ok (gc_ok S108_ok (gc_ok S45_ok (gc_ok S61_ok noS_ok))))) Try.func62 rfl (ent_of Try.func62 rfl rfl) [] (by rw [Try.ntmps62]; exact Nat.le_of_ble_eq_true rfl) (by simp) (by simp) (by simp) true ?_
  rw [Try.ntmps62, Try.results62]
  obtain ⟨⟨x1, x2, x3, x4, x5, x6⟩, hb⟩ := hq3
  have hz : sdE t c ≠ 0 → sdT t c = zT ∧ sdQ t c = [] := fun h => ⟨by unfold sdT; rw [if_neg h], by unfold sdQ; rw [if_neg h]⟩
  rcases sdE_cases t c with ⟨e0, f1⟩ | ⟨e0, hpd, f1⟩ | ⟨e0, hpos, hs, ⟨ho, f1⟩ | ⟨ho0, hoc, hot, hqk, hmk, f1, hgq⟩⟩
  · obtain ⟨f2, f3⟩ := hz (by rw [f1]; exact e0)
    simp [x1, x2, x3, x4, x5, x6, e0, f1, f2, f3, zT]
    all_goals ((repeat' first | refine And.intro ?_ ?_ | intro _) <;> first | assumption | omega | rfl | (apply hb; assumption))
  · obtain ⟨f2, f3⟩ := hz (by rw [f1]; decide)
    simp [x1, x2, x3, x4, x5, x6, e0, eq_true hpd, f1, f2, f3, zT]
    all_goals ((repeat' first | refine And.intro ?_ ?_ | intro _) <;> first | assumption | omega | rfl | (apply hb; assumption))
  · obtain ⟨f2, f3⟩ := hz (by rw [f1]; decide)
    have hposI : (0 : Int) < t.pd.length := by omega
    have hne0 : ¬ t.pd = [] := by intro h; rw [h] at hpos; simp at hpos
    simp [x1, x2, x3, x4, x5, x6, e0, hpos, hposI, hne0, ho, f1, f2, f3, zT, getD_map, getQ_map]
    all_goals ((repeat' first | refine And.intro ?_ ?_ | intro _) <;> first | assumption | omega | rfl | (apply hb; assumption))
  have hposI : (0 : Int) < t.pd.length := by omega
  have hne0 : ¬ t.pd = [] := by intro h; rw [h] at hpos; simp at hpos
  have hoc' : ¬ (c.length : Int) ≤ t.pd[0].o := by omega
  have hqb := hb c[t.pd[0].o.toNat] (List.getElem_mem hot)
  have hcl := (askE_0 e0).2.2.1
  by_cases hpe : putE c[t.pd[0].o.toNat] t.pd[0].m = 0
  rotate_left
  · obtain ⟨f2, f3⟩ := hz (by rw [f1]; exact hpe)
    simp [x1, x2, x3, x4, x5, x6, e0, hpos, hposI, hne0, ho0, hoc, hoc', hot, hqb, f1, f2, f3, zT, getD_map, getQ_map, hpe]
    all_goals ((repeat' first | refine And.intro ?_ ?_ | intro _) <;> first | assumption | omega | rfl | (apply hb; assumption))
  have f1' : sdE t c = 0 := by rw [f1]; exact hpe
  have f2 : sdT t c = { t with pd := t.pd.drop 1 } := by unfold sdT; rw [if_pos f1']
  have f3 : sdQ t c = c.set t.pd[0].o.toNat (putQ c[t.pd[0].o.toNat] t.pd[0].m) := by unfold sdQ; rw [if_pos f1', hs, hgq]
  rw [f1', f2, f3]
  simp [x1, x2, x3, x4, x5, x6, e0, hpos, hposI, hne0, ho0, hoc, hoc', hot, hqb, getD_map, getQ_map, hpe]
  all_goals ((repeat' first | refine And.intro ?_ ?_ | intro _) <;> first | assumption | omega | rfl | (apply hb; assumption))

end Go.Proofs.Ytedhhjmjlpnlpaa.VW
