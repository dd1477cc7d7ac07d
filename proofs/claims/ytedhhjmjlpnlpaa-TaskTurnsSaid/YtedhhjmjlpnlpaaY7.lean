/- TaskTells, TaskIdle. -/
import Derived.Test.YtedhhjmjlpnlpaaY5
namespace Go.Proofs.Ytedhhjmjlpnlpaa.VW
open Go Go.RowKit
set_option linter.unusedVariables false
set_option linter.unusedSimpArgs false

theorem grA_b {l : List Que} (h : grA l = false) : l.length ≤ 10 ∧ bA l := by
  unfold grA at h
  simp only [Bool.not_eq_false', Bool.and_eq_true, decide_eq_true_eq] at h
  refine ⟨h.1, fun q hq => ?_⟩
  have := h.2
  unfold allL at this
  rw [List.all_eq_true] at this
  have := this q hq
  unfold grQ at this
  simp at this; omega
@[simp] def bB (l : List Que) : Prop := ∀ q ∈ l, q.l.length ≤ 9223372036854775807
theorem turnT_b {t : Tsk} {a : List Que} (h : bT t) : bT (turnT t a) := by
  unfold turnT; split
  · exact h
  · simp [zT]
theorem goQ_none (l : List Que) (s : Nat) : ∀ (f i : Nat), goQ l s f i < 0 → ∀ j, i ≤ j → j < i + f → ¬ 0 < (l.getD ((s + j) % l.length) default).l.length
  | 0, i, _, j, h1, h2 => by omega
  | f + 1, i, h, j, h1, h2 => by
    rw [goQ] at h
    split at h
    · omega
    · rename_i hn
      by_cases e : j = i
      · subst e; exact hn
      · exact goQ_none l s f (i + 1) h j (by omega) (by omega)
theorem first0 {l : List Que} (h : firstQ 0 l < 0) {i : Nat} (hi : i < l.length) : l[i].l = [] := by
  have hs : stQ 0 l = 0 := by unfold stQ; split <;> rfl
  unfold firstQ at h
  rw [hs] at h
  have := goQ_none l 0 l.length 0 h i (by omega) (by omega)
  rw [Nat.zero_add, Nat.mod_eq_of_lt hi] at this
  simp [hi] at this
  exact this
theorem idle {t : Tsk} {a c : List Que} (h : enE t a c = 0) (hB : enB t a c = false) (hn : allL (fun q => decide ((q.l.length : Int) ≠ q.rm)) c = true) :
    t.pd = [] ∧ t.ev = [] ∧ (t.kd ≠ 1 → ∀ i (hi : i < a.length), a[i].l = []) := by
  have e0 : askE t a c = 0 := by
    unfold enE at h
    by_cases e : askE t a c = 0
    · exact e
    · rw [if_pos e] at h; exact h
  have hall : allL (oB c.length) t.pd = true := by
    unfold enE at h; rw [if_neg (by simp [e0])] at h
    grind
  obtain ⟨hok, hal, hcl, hqa, hqc⟩ := askE_0 e0
  unfold enB at hB
  rw [if_pos h] at hB
  unfold abB at hB
  by_cases hp : 0 < t.pd.length
  · exfalso
    rw [if_pos hp] at hB
    have h0s := allL_get hp (okT_pd hok).1
    have ho0 := (okSnd_o h0s).1
    have hoc : t.pd[0].o < (c.length : Int) := by have := allL_get hp hall; simpa [oB] using this
    have hot : t.pd[0].o.toNat < c.length := by omega
    have hgd : t.pd.getD 0 default = t.pd[0] := by simp [hp]
    have hgq : c.getD t.pd[0].o.toNat default = c[t.pd[0].o.toNat] := by simp [hot]
    rw [hgd, hgq] at hB
    have hq := allL_get hot hqc
    have hn2 := allL_get hot hn
    unfold leftB at hB
    unfold okQ at hq
    simp only [Bool.and_eq_true, decide_eq_true_eq, decide_eq_false_iff_not] at hB hq hn2
    omega
  · rw [if_neg hp] at hB
    have hpd : t.pd = [] := List.eq_nil_of_length_eq_zero (by omega)
    by_cases hk : t.kd = 1
    · rw [if_pos hk] at hB
      simp only [decide_eq_false_iff_not] at hB
      exact ⟨hpd, List.eq_nil_of_length_eq_zero (by omega), fun h => absurd hk h⟩
    · rw [if_neg hk] at hB
      simp only [decide_eq_false_iff_not] at hB
      refine ⟨hpd, ?_, fun _ i hi => first0 (by omega) hi⟩
      unfold okT okSiz at hok
      simp only [Bool.and_eq_true, decide_eq_true_eq] at hok
      have : (t.ev.length : Int) ≤ 0 := by grind
      exact List.eq_nil_of_length_eq_zero (by omega)
@[simp] def S17 : Spec
  | [.agg ct, .sl _ ca, .sl _ cc] => some ((kTsk ct = true) ∧ (ca.all kQue = true ∧ ca.length ≤ 9223372036854775807) ∧ (cc.all kQue = true ∧ cc.length ≤ 9223372036854775807) ∧ (bL (uTsk ct) ∧ bB (ca.map uQue) ∧ bB (cc.map uQue)), .bool true, [])
  | _ => none
set_option maxHeartbeats 8000000 in
set_option maxRecDepth 100000 in
theorem S17_ok : SOK 17 S17 := by
  intro xs q r bs h hq
  unfold S17 at h
  split at h <;> cases h
  rename_i ct exa ca exc cc
  obtain ⟨hq1, hq2, hq3, hq4⟩ := hq
  refine FS_wk ?_
  simp only [List.map_cons, List.map_nil, wk2, wk1]
  rw [kTsk_wk hq1]
  generalize uTsk ct = t at *
  obtain ⟨a, rfl⟩ := rows_ex (fun c hc => kQue_ok hc) hq2.1
  have hla := hq2.2
  simp only [List.length_map] at hla
  obtain ⟨c, rfl⟩ := rows_ex (fun c hc => kQue_ok hc) hq3.1
  have hlc := hq3.2
  simp only [List.length_map] at hlc
  try simp only [List.map_map, ue_Rec, ue_Ev, ue_Row, ue_Msg, ue_Snd, ue_Ent, ue_Int, ue_Que, List.map_id] at *
  refine fs_of_awp mixed (sg_ok (gc_ok S25_ok (gc_ok S26_ok (gc_ok S45_ok (gc_ok S28_ok (gc_ok S57_ok (gc_ok S30_ok (gc_ok S58_ok (gc_ok S23_ok (gc_ok S59_ok (gc_ok S27_ok noS_ok))))))))))) Try.func17 rfl (ent_of Try.func17 rfl rfl) [] (by rw [Try.ntmps17]; exact Nat.le_of_ble_eq_true rfl) (by simp) (by simp) (by simp) true ?_
  rw [Try.ntmps17, Try.results17]
  obtain ⟨⟨y1, y2, y3, y4, y5, y6⟩, ya, yb⟩ := hq4
  by_cases hg : grT t = true
  · simp [y1, y2, y3, y4, y5, y6, hg]
    all_goals ((repeat' first | refine And.intro ?_ ?_ | intro _) <;> first | assumption | omega | (apply ha; assumption) | (apply hb; assumption) | (apply ya; assumption) | (apply yb; assumption) | with_reducible rfl | (refine (?_ : chkD _ _ = true); rfl))
  simp only [Bool.not_eq_true] at hg
  by_cases hga : grA a = true
  · simp [y1, y2, y3, y4, y5, y6, hg, hga]
    all_goals ((repeat' first | refine And.intro ?_ ?_ | intro _) <;> first | assumption | omega | (apply ha; assumption) | (apply hb; assumption) | (apply ya; assumption) | (apply yb; assumption) | with_reducible rfl | (refine (?_ : chkD _ _ = true); rfl))
  simp only [Bool.not_eq_true] at hga
  by_cases hgc : grA c = true
  · simp [y1, y2, y3, y4, y5, y6, hg, hga, hgc]
    all_goals ((repeat' first | refine And.intro ?_ ?_ | intro _) <;> first | assumption | omega | (apply ha; assumption) | (apply hb; assumption) | (apply ya; assumption) | (apply yb; assumption) | with_reducible rfl | (refine (?_ : chkD _ _ = true); rfl))
  simp only [Bool.not_eq_true] at hgc
  have hb0 := (grT_b hg).1
  obtain ⟨hal, ha⟩ := grA_b hga
  obtain ⟨hcl, hb⟩ := grA_b hgc
  have hal' : a.length ≤ 9223372036854775807 := by omega
  have hcl' : c.length ≤ 9223372036854775807 := by omega
  have hb2 := turnT_b (a := a) hb0
  simp only [bT] at hb0 hb2
  simp [y1, y2, y3, y4, y5, y6, hg, hga, hgc, hb0, hb2, hal', hcl']
  all_goals ((repeat' first | refine And.intro ?_ ?_ | intro _) <;> first | assumption | omega | (apply ha; assumption) | (apply hb; assumption) | (apply ya; assumption) | (apply yb; assumption) | with_reducible rfl | (refine (?_ : chkD _ _ = true); rfl))
@[simp] def S13 : Spec
  | [.agg ct, .sl _ ca, .sl _ cc] => some ((kTsk ct = true) ∧ (ca.all kQue = true ∧ ca.length ≤ 9223372036854775807) ∧ (cc.all kQue = true ∧ cc.length ≤ 9223372036854775807) ∧ (bL (uTsk ct) ∧ bB (ca.map uQue) ∧ bB (cc.map uQue)), .bool true, [])
  | _ => none
set_option maxHeartbeats 8000000 in
set_option maxRecDepth 100000 in
theorem S13_ok : SOK 13 S13 := by
  intro xs q r bs h hq
  unfold S13 at h
  split at h <;> cases h
  rename_i ct exa ca exc cc
  obtain ⟨hq1, hq2, hq3, hq4⟩ := hq
  refine FS_wk ?_
  simp only [List.map_cons, List.map_nil, wk2, wk1]
  rw [kTsk_wk hq1]
  generalize uTsk ct = t at *
  obtain ⟨a, rfl⟩ := rows_ex (fun c hc => kQue_ok hc) hq2.1
  have hla := hq2.2
  simp only [List.length_map] at hla
  obtain ⟨c, rfl⟩ := rows_ex (fun c hc => kQue_ok hc) hq3.1
  have hlc := hq3.2
  simp only [List.length_map] at hlc
  try simp only [List.map_map, ue_Rec, ue_Ev, ue_Row, ue_Msg, ue_Snd, ue_Ent, ue_Int, ue_Que, List.map_id] at *
  refine fs_of_awp mixed (sg_ok (gc_ok S24_ok (gc_ok S25_ok (gc_ok S26_ok (gc_ok S28_ok noS_ok))))) Try.func13 rfl (ent_of Try.func13 rfl rfl) [] (by rw [Try.ntmps13]; exact Nat.le_of_ble_eq_true rfl) (by simp) (by simp) (by simp) true ?_
  rw [Try.ntmps13, Try.results13]
  obtain ⟨⟨y1, y2, y3, y4, y5, y6⟩, ya, yb⟩ := hq4
  by_cases hg : grT t = true
  · simp [y1, y2, y3, y4, y5, y6, hg]
    all_goals ((repeat' first | refine And.intro ?_ ?_ | intro _) <;> first | assumption | omega | (apply ha; assumption) | (apply hb; assumption) | (apply ya; assumption) | (apply yb; assumption) | with_reducible rfl | (refine (?_ : chkD _ _ = true); rfl))
  simp only [Bool.not_eq_true] at hg
  by_cases hga : grA a = true
  · simp [y1, y2, y3, y4, y5, y6, hg, hga]
    all_goals ((repeat' first | refine And.intro ?_ ?_ | intro _) <;> first | assumption | omega | (apply ha; assumption) | (apply hb; assumption) | (apply ya; assumption) | (apply yb; assumption) | with_reducible rfl | (refine (?_ : chkD _ _ = true); rfl))
  simp only [Bool.not_eq_true] at hga
  by_cases hgc : grA c = true
  · simp [y1, y2, y3, y4, y5, y6, hg, hga, hgc]
    all_goals ((repeat' first | refine And.intro ?_ ?_ | intro _) <;> first | assumption | omega | (apply ha; assumption) | (apply hb; assumption) | (apply ya; assumption) | (apply yb; assumption) | with_reducible rfl | (refine (?_ : chkD _ _ = true); rfl))
  simp only [Bool.not_eq_true] at hgc
  have hb0 := (grT_b hg).1
  obtain ⟨hal, ha⟩ := grA_b hga
  obtain ⟨hcl, hb⟩ := grA_b hgc
  have hal' : a.length ≤ 9223372036854775807 := by omega
  have hcl' : c.length ≤ 9223372036854775807 := by omega
  have hb0' := hb0
  simp only [bT] at hb0
  by_cases he : enE t a c = 0 ∧ enB t a c = false
  rotate_left
  · by_cases he1 : enE t a c = 0
    · have he2 : enB t a c = true := by
        cases h : enB t a c with
        | true => rfl
        | false => exact absurd ⟨he1, h⟩ he
      simp [y1, y2, y3, y4, y5, y6, hg, hga, hgc, hb0, hal', hcl', he1, he2]
      all_goals ((repeat' first | refine And.intro ?_ ?_ | intro _) <;> first | assumption | omega | (apply ha; assumption) | (apply hb; assumption) | (apply ya; assumption) | (apply yb; assumption) | with_reducible rfl | (refine (?_ : chkD _ _ = true); rfl))
    · simp [y1, y2, y3, y4, y5, y6, hg, hga, hgc, hb0, hal', hcl', he1]
      all_goals ((repeat' first | refine And.intro ?_ ?_ | intro _) <;> first | assumption | omega | (apply ha; assumption) | (apply hb; assumption) | (apply ya; assumption) | (apply yb; assumption) | with_reducible rfl | (refine (?_ : chkD _ _ = true); rfl))
  obtain ⟨he1, he2⟩ := he
  simp [y1, y2, y3, y4, y5, y6, hg, hga, hgc, hb0, hal', hcl', he1, he2]
  repeat refine And.intro (by ((repeat' first | refine And.intro ?_ ?_ | intro _) <;> first | assumption | omega | (apply ha; assumption) | (apply hb; assumption) | (apply ya; assumption) | (apply yb; assumption) | with_reducible rfl | (refine (?_ : chkD _ _ = true); rfl))) ?_
  refine awp_loop (fun σ => ∃ i : Nat, i ≤ c.length ∧ σ.T 1 = .sl false (a.map eQue) ∧ σ.T 2 = .sl false (c.map eQue) ∧ σ.T 3 = .ptr (3, 0) 1 0 ∧ σ.H (3, 0) = some (.var (eTsk t)) ∧ σ.γ (3, 0) = 1 ∧ σ.T 7 = .bool true ∧ σ.T 10 = .int .i64 i ∧ allL (fun q => decide ((q.l.length : Int) ≠ q.rm)) (c.take i) = true) (fun σ => c.length - (ival (σ.T 10)).toNat) ⟨0, by simp⟩ ?_
  rintro σ ⟨i, hi, h1, h2, h3, hH3, hg3, h7, h10, hp⟩ J hJ
  simp only [eTsk] at hH3
  by_cases hlt : i < c.length
  · have hw : IntKind.i64.wrap ((i : Int) + 1) = (i : Int) + 1 := wrap_i64 _ (by omega) (by omega)
    have hqi := yb c[i] (List.getElem_mem hlt)
    by_cases hm : (c[i].l.length : Int) = c[i].rm
    · simp [h1, h2, h3, hH3, hg3, h7, h10, hlt, getD_map, getQ_map, hw, hm, hqi]
      all_goals with_unfolding_all rfl
    · simp [h1, h2, h3, hH3, hg3, h7, h10, hlt, getD_map, getQ_map, hw, hm, hqi]
      exact ⟨by rfl, hJ _ ⟨i + 1, hlt, by simp [h1], by simp [h2], by simp [h3], by simp [hH3], by simp [hg3], by simp [h7], by simp, allL_step hlt hp (by simpa using hm)⟩ (by simp [h10]; omega)⟩
  have hall := allL_all hlt hp
  obtain ⟨d1, d2, d3⟩ := idle he1 he2 hall
  simp [h1, h2, h3, hH3, hg3, h7, h10, hlt]
  refine awp_loop (fun σ => ∃ i : Nat, i ≤ a.length ∧ σ.T 1 = .sl false (a.map eQue) ∧ σ.T 2 = .sl false (c.map eQue) ∧ σ.T 3 = .ptr (3, 0) 1 0 ∧ σ.H (3, 0) = some (.var (eTsk t)) ∧ σ.γ (3, 0) = 1 ∧ σ.T 7 = .bool true ∧ σ.T 11 = .int .i64 i) (fun σ => a.length - (ival (σ.T 11)).toNat) ⟨0, by simp [h1, h2, h3, hH3, hg3, h7]⟩ ?_
  clear h1 h2 h3 hH3 hg3 h7 h10 hlt hp hJ hi
  rintro σ ⟨i, hi, h1, h2, h3, hH3, hg3, h7, h11⟩ J hJ
  simp only [eTsk] at hH3
  by_cases hlt : i < a.length
  · have hw : IntKind.i64.wrap ((i : Int) + 1) = (i : Int) + 1 := wrap_i64 _ (by omega) (by omega)
    have hqi := ya a[i] (List.getElem_mem hlt)
    by_cases hk : t.kd = 1
    · by_cases hz : 0 < (a[i].l.length : Int)
      · simp [h1, h2, h3, hH3, hg3, h7, h11, hlt, getD_map, getQ_map, hw, hqi, eq_true hk, hz]
        exact hJ _ ⟨i + 1, hlt, by simp [h1], by simp [h2], by simp [h3], by simp [hH3], by simp [hg3], by simp [h7], by simp⟩ (by simp [h11]; omega)
      · have hz' : a[i].l = [] := List.eq_nil_of_length_eq_zero (by omega)
        simp [h1, h2, h3, hH3, hg3, h7, h11, hlt, getD_map, getQ_map, hw, hqi, hz']
        exact hJ _ ⟨i + 1, hlt, by simp [h1], by simp [h2], by simp [h3], by simp [hH3], by simp [hg3], by simp [h7], by simp⟩ (by simp [h11]; omega)
    · have hz := d3 hk i hlt
      simp [h1, h2, h3, hH3, hg3, h7, h11, hlt, getD_map, getQ_map, hw, hqi, hz]
      exact hJ _ ⟨i + 1, hlt, by simp [h1], by simp [h2], by simp [h3], by simp [hH3], by simp [hg3], by simp [h7], by simp⟩ (by simp [h11]; omega)
  · simp [h1, h2, h3, hH3, hg3, h7, h11, hlt, eq_true d1, eq_true d2]

end Go.Proofs.Ytedhhjmjlpnlpaa.VW
