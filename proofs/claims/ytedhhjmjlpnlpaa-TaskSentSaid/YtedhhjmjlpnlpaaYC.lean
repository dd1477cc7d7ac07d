/- TaskSent. -/
import Derived.Test.YtedhhjmjlpnlpaaY8
namespace Go.Proofs.Ytedhhjmjlpnlpaa.VW
open Go Go.RowKit
set_option linter.unusedVariables false
set_option linter.unusedSimpArgs false

theorem turnE_ne {t : Tsk} {a : List Que} (hp : 0 < t.pd.length) : ¬ turnE t a = 0 := by
  unfold turnE
  by_cases e : askE t a [] = 0
  · rw [if_neg (by simp [e]), if_pos (.inr hp)]; decide
  · rw [if_pos e]; exact e
theorem askE_outs {t : Tsk} {a c : List Que} (h : askE t a c = 0) : askE t [] c = 0 := by
  obtain ⟨h1, h2, h3, h4, h5⟩ := askE_0 h
  unfold askE; rw [if_pos h1, if_neg (by simp; omega), List.nil_append, if_pos h5]
theorem sdE_nil {t : Tsk} {c : List Que} (hp : t.pd = []) : ¬ sdE t c = 0 := by
  rcases sdE_cases t c with ⟨e0, f1⟩ | ⟨e0, hpd, f1⟩ | ⟨e0, hpos, _⟩
  · rw [f1]; exact e0
  · rw [f1]; decide
  · rw [hp] at hpos; simp at hpos
theorem en_sd {t : Tsk} {a c : List Que} (hp : 0 < t.pd.length) (h : enE t a c = 0) : enB t a c = decide (sdE t c = 0) := by
  have e0 : askE t a c = 0 := by
    unfold enE at h
    by_cases e : askE t a c = 0
    · exact e
    · rw [if_pos e] at h; exact h
  have hall : allL (oB c.length) t.pd = true := by
    unfold enE at h; rw [if_neg (by simp [e0])] at h
    grind
  have e1 := askE_outs e0
  unfold enB abB
  rw [if_pos h, if_pos hp]
  rcases sdE_cases t c with ⟨e2, _⟩ | ⟨_, hpd, _⟩ | ⟨_, hpos, hs, ⟨ho, f1⟩ | ⟨ho0, hoc, hot, hqk, hmk, f1, hgq⟩⟩
  · exact absurd e1 e2
  · rw [hpd] at hp; simp at hp
  · have := allL_get hp hall
    simp [oB] at this; omega
  · have hgd : t.pd.getD 0 default = t.pd[0] := by simp [hp]
    rw [hgd, hgq, f1]
    unfold leftB putE
    rw [if_pos hqk, if_pos hmk, decide_eq_decide]
    unfold okQ at hqk
    simp only [Bool.and_eq_true, decide_eq_true_eq] at hqk
    split <;> constructor <;> intro h <;> first | omega | (exfalso; revert h; decide) | rfl
theorem sd_all {t : Tsk} {c : List Que} (h : sdE t c = 0) : ∃ hp : 0 < t.pd.length, ∃ h2 : t.pd[0].o.toNat < c.length, 0 ≤ t.pd[0].o ∧ sdT t c = { t with pd := t.pd.drop 1 } ∧ sdQ t c = c.set t.pd[0].o.toNat (putQ c[t.pd[0].o.toNat] t.pd[0].m) ∧ putE c[t.pd[0].o.toNat] t.pd[0].m = 0 := by
  rcases sdE_cases t c with ⟨e0, f1⟩ | ⟨e0, hpd, f1⟩ | ⟨_, hpos, hs, ⟨ho, f1⟩ | ⟨ho0, hoc, hot, hqk, hmk, f1, hgq⟩⟩
  · rw [h] at f1; exact absurd f1.symm e0
  · rw [h] at f1; cases f1
  · rw [h] at f1; cases f1
  · exact ⟨hpos, hot, by omega, by unfold sdT; rw [if_pos h], by unfold sdQ; rw [if_pos h, hs, hgq], by rw [← f1]; exact h⟩
@[simp] def S4 : Spec
  | [.agg ct, .sl _ ca, .sl _ cc] => some ((kTsk ct = true) ∧ (ca.all kQue = true ∧ ca.length ≤ 9223372036854775807) ∧ (cc.all kQue = true ∧ cc.length ≤ 9223372036854775807) ∧ (bL (uTsk ct) ∧ bB (ca.map uQue) ∧ bB (cc.map uQue)), .bool true, [])
  | _ => none
set_option maxHeartbeats 8000000 in
set_option maxRecDepth 100000 in
theorem S4_ok : SOK 4 S4 := by
  intro xs q r bs h hq
  unfold S4 at h
  split at h <;> cases h
  rename_i ct exa ca exc cc
  obtain ⟨hq1, hq2, hq3, hq4⟩ := hq
  refine FS_wk ?_
  simp only [List.map_cons, List.map_nil, wk2, wk1]
  rw [kTsk_wk hq1]
  generalize uTsk ct = t at *
  obtain ⟨a, rfl⟩ := rows_ex (fun c hc => kQue_ok hc) hq2.1
  have hla := hq2.2
  simp only [List.length_map] at hla
  obtain ⟨c, rfl⟩ := rows_ex (fun c hc => kQue_ok hc) hq3.1
  have hlc := hq3.2
  simp only [List.length_map] at hlc
  try simp only [List.map_map, ue_Rec, ue_Ev, ue_Row, ue_Msg, ue_Snd, ue_Ent, ue_Int, ue_Que, List.map_id] at *
  refine fs_of_awp mixed (sg_ok (gc_ok S24_ok (gc_ok S25_ok (gc_ok S26_ok (gc_ok S27_ok (gc_ok S28_ok (gc_ok S29_ok (gc_ok S30_ok (gc_ok S31_ok (gc_ok S23_ok (gc_ok S32_ok (gc_ok S33_ok noS_ok)))))))))))) Try.func4 rfl (ent_of Try.func4 rfl rfl) [] (by rw [Try.ntmps4]; exact Nat.le_of_ble_eq_true rfl) (by simp) (by simp) (by simp) true ?_
  rw [Try.ntmps4, Try.results4]
  obtain ⟨⟨y1, y2, y3, y4, y5, y6⟩, ya, yb⟩ := hq4
  by_cases hg : grT t = true
  · simp [y1, y2, y3, y4, y5, y6, hg]
    all_goals ((repeat' first | refine And.intro ?_ ?_ | intro _) <;> first | assumption | omega | (apply ha; assumption) | (apply hb; assumption) | (apply ya; assumption) | (apply yb; assumption) | with_reducible rfl | (refine (?_ : chkD _ _ = true); rfl))
  simp only [Bool.not_eq_true] at hg
  by_cases hga : grA a = true
  · simp [y1, y2, y3, y4, y5, y6, hg, hga]
    all_goals ((repeat' first | refine And.intro ?_ ?_ | intro _) <;> first | assumption | omega | (apply ha; assumption) | (apply hb; assumption) | (apply ya; assumption) | (apply yb; assumption) | with_reducible rfl | (refine (?_ : chkD _ _ = true); rfl))
  simp only [Bool.not_eq_true] at hga
  by_cases hgc : grA c = true
  · simp [y1, y2, y3, y4, y5, y6, hg, hga, hgc]
    all_goals ((repeat' first | refine And.intro ?_ ?_ | intro _) <;> first | assumption | omega | (apply ha; assumption) | (apply hb; assumption) | (apply ya; assumption) | (apply yb; assumption) | with_reducible rfl | (refine (?_ : chkD _ _ = true); rfl))
  simp only [Bool.not_eq_true] at hgc
  have hb0 := (grT_b hg).1
  obtain ⟨hal, ha⟩ := grA_b hga
  obtain ⟨hcl, hb⟩ := grA_b hgc
  have hal' : a.length ≤ 9223372036854775807 := by omega
  have hcl' : c.length ≤ 9223372036854775807 := by omega
  have hb0' := hb0
  have hb2 := sdT_b (c := c) hb0
  obtain ⟨hs1, hs2⟩ := sdQ_b (t := t) hb
  have hb3 := turnT_b (a := a) hb0
  have hs1' : (sdQ t c).length ≤ 9223372036854775807 := by omega
  simp only [bT] at hb0 hb2 hb3
  by_cases hok : okT t = true
  rotate_left
  · simp [y1, y2, y3, y4, y5, y6, hg, hga, hgc, hb0, hal', hcl', hok]
    all_goals ((repeat' first | refine And.intro ?_ ?_ | intro _) <;> first | assumption | omega | (apply ha; assumption) | (apply hb; assumption) | (apply ya; assumption) | (apply yb; assumption) | (apply hs2; assumption) | with_reducible rfl | (rename_i x hx; obtain ⟨y, _, rfl⟩ := List.mem_map.1 (List.mem_of_mem_tail hx); rfl) | (refine (?_ : chkD _ _ = true); rfl))
  by_cases hp : 0 < t.pd.length
  rotate_left
  · have hpd : t.pd = [] := List.eq_nil_of_length_eq_zero (by omega)
    have hsn := sdE_nil (c := c) hpd
    simp [y1, y2, y3, y4, y5, y6, hg, hga, hgc, hb0, hal', hcl', hok, eq_true hpd, hsn]
    all_goals ((repeat' first | refine And.intro ?_ ?_ | intro _) <;> first | assumption | omega | (apply ha; assumption) | (apply hb; assumption) | (apply ya; assumption) | (apply yb; assumption) | (apply hs2; assumption) | with_reducible rfl | (rename_i x hx; obtain ⟨y, _, rfl⟩ := List.mem_map.1 (List.mem_of_mem_tail hx); rfl) | (refine (?_ : chkD _ _ = true); rfl))
  have hne0 : ¬ t.pd = [] := by intro h; rw [h] at hp; simp at hp
  have htn := turnE_ne (a := a) hp
  by_cases e1 : sdE t c = 0
  rotate_left
  · have hq0 : sdQ t c = [] := by unfold sdQ; rw [if_neg e1]
    by_cases e2 : enE t a c = 0
    · have hB := en_sd hp e2
      rw [decide_eq_false e1] at hB
      simp [y1, y2, y3, y4, y5, y6, hg, hga, hgc, hb0, hb2, hb3, hal', hcl', hok, hne0, htn, e1, e2, hB, hq0]
      all_goals ((repeat' first | refine And.intro ?_ ?_ | intro _) <;> first | assumption | omega | (apply ha; assumption) | (apply hb; assumption) | (apply ya; assumption) | (apply yb; assumption) | (apply hs2; assumption) | with_reducible rfl | (rename_i x hx; obtain ⟨y, _, rfl⟩ := List.mem_map.1 (List.mem_of_mem_tail hx); rfl) | (refine (?_ : chkD _ _ = true); rfl))
    · simp [y1, y2, y3, y4, y5, y6, hg, hga, hgc, hb0, hb2, hb3, hal', hcl', hok, hne0, htn, e1, e2, hq0]
      all_goals ((repeat' first | refine And.intro ?_ ?_ | intro _) <;> first | assumption | omega | (apply ha; assumption) | (apply hb; assumption) | (apply ya; assumption) | (apply yb; assumption) | (apply hs2; assumption) | with_reducible rfl | (rename_i x hx; obtain ⟨y, _, rfl⟩ := List.mem_map.1 (List.mem_of_mem_tail hx); rfl) | (refine (?_ : chkD _ _ = true); rfl))
  obtain ⟨_, hot, ho0, f2, f3, hpe⟩ := sd_all e1
  have hposI : (0 : Int) < t.pd.length := by omega
  have hp1 : (1 : Int) ≤ t.pd.length := by omega
  have hLl : (sdQ t c).length = c.length := by rw [f3]; simp
  have hL1 : ∀ i (h : i < c.length), (sdQ t c).getD i default = if i = t.pd[0].o.toNat then putQ c[t.pd[0].o.toNat] t.pd[0].m else c[i] := by
    intro i h
    rw [f3, List.getD_eq_getElem?_getD, List.getElem?_set]
    by_cases e : t.pd[0].o.toNat = i
    · subst e; simp [hot]
    · rw [if_neg e, if_neg (Ne.symm e)]; simp [h]
  obtain ⟨L, hLe⟩ : ∃ L, sdQ t c = L := ⟨_, rfl⟩
  rw [hLe] at hs1 hs2 hs1' hLl hL1
  have hcond : enE t a c = 0 → enB t a c = true := fun h => by rw [en_sd hp h, e1]; rfl
  have hdrop : t.pd.length - 1 ≤ 9223372036854775807 := by omega
  by_cases e2 : enE t a c = 0
  all_goals first | (have hB := hcond e2; simp [y1, y2, y3, y4, y5, y6, hg, hga, hgc, hb0, hb2, hb3, hal', hcl', hok, hne0, htn, e1, e2, hp, hposI, hp1, hLe, hLl, hs1', f2, getD_map, getQ_map, hB]) | simp [y1, y2, y3, y4, y5, y6, hg, hga, hgc, hb0, hb2, hb3, hal', hcl', hok, hne0, htn, e1, e2, hp, hposI, hp1, hLe, hLl, hs1', f2, getD_map, getQ_map]
  all_goals
    repeat ((with_reducible refine And.intro ?_ ?_); (· ((repeat' first | refine And.intro ?_ ?_ | intro _) <;> first | assumption | omega | (apply ha; assumption) | (apply hb; assumption) | (apply ya; assumption) | (apply yb; assumption) | (apply hs2; assumption) | with_reducible rfl | (rename_i x hx; obtain ⟨y, _, rfl⟩ := List.mem_map.1 (List.mem_of_mem_tail hx); rfl) | (refine (?_ : chkD _ _ = true); rfl))))
    refine awp_loop (fun σ => ∃ i : Nat, i ≤ c.length ∧ σ.T 2 = .sl false (c.map eQue) ∧ σ.T 11 = .sl false (L.map eQue) ∧ σ.T 16 = .ptr (16, 0) 1 0 ∧ σ.H (16, 0) = some (.var (eSnd t.pd[0])) ∧ σ.γ (16, 0) = 1 ∧ σ.T 7 = .bool true ∧ σ.T 17 = .int .i64 i) (fun σ => c.length - (ival (σ.T 17)).toNat) ⟨0, by simp⟩ ?_
    rintro σ ⟨i, hi, h2, h11, h16, hH16, hg16, h7, h17⟩ J hJ
    simp only [eSnd] at hH16
    by_cases hlt : i < c.length
    · have hw : IntKind.i64.wrap ((i : Int) + 1) = (i : Int) + 1 := wrap_i64 _ (by omega) (by omega)
      have hltL : i < L.length := by omega
      have hqi := hb c[i] (List.getElem_mem hlt)
      have hqL := hs2 L[i] (List.getElem_mem hltL)
      have hLi := hL1 i hlt
      have hgL : L.getD i default = L[i] := by simp [hltL]
      rw [hgL] at hLi
      have hqi' : c[i].l.length ≤ 9223372036854775807 := by omega
      by_cases hio : (i : Int) = t.pd[0].o
      · have hio2 : i = t.pd[0].o.toNat := by omega
        rw [if_pos hio2] at hLi
        have hci : c[t.pd[0].o.toNat] = c[i] := by simp only [hio2]
        rw [hci] at hLi hpe
        have hqp : (putQ c[i] t.pd[0].m).l.length ≤ 9223372036854775807 := by rw [← hLi]; exact hqL
        simp [h2, h11, h16, hH16, hg16, h7, h17, hlt, hltL, getD_map, getQ_map, hw, hqi, hqi', hLi, ← hio, hpe, hqp]
        repeat ((with_reducible refine And.intro ?_ ?_); (· ((repeat' first | refine And.intro ?_ ?_ | intro _) <;> first | assumption | omega | (apply ha; assumption) | (apply hb; assumption) | (apply ya; assumption) | (apply yb; assumption) | (apply hs2; assumption) | with_reducible rfl | (rename_i x hx; obtain ⟨y, _, rfl⟩ := List.mem_map.1 (List.mem_of_mem_tail hx); rfl) | (refine (?_ : chkD _ _ = true); rfl))))
        exact hJ _ ⟨i + 1, hlt, by simp [h2], by simp [h11], by simp [h16], by simp [hH16], by simp [hg16], by simp [h7], by simp⟩ (by simp [h17]; omega)
      · have hio2 : ¬ i = t.pd[0].o.toNat := by omega
        rw [if_neg hio2] at hLi
        simp [h2, h11, h16, hH16, hg16, h7, h17, hlt, hltL, getD_map, getQ_map, hw, hqi, hqi', hLi, hio]
        repeat ((with_reducible refine And.intro ?_ ?_); (· ((repeat' first | refine And.intro ?_ ?_ | intro _) <;> first | assumption | omega | (apply ha; assumption) | (apply hb; assumption) | (apply ya; assumption) | (apply yb; assumption) | (apply hs2; assumption) | with_reducible rfl | (rename_i x hx; obtain ⟨y, _, rfl⟩ := List.mem_map.1 (List.mem_of_mem_tail hx); rfl) | (refine (?_ : chkD _ _ = true); rfl))))
        exact hJ _ ⟨i + 1, hlt, by simp [h2], by simp [h11], by simp [h16], by simp [hH16], by simp [hg16], by simp [h7], by simp⟩ (by simp [h17]; omega)
    · simp [h2, h11, h16, hH16, hg16, h7, h17, hlt]

end Go.Proofs.Ytedhhjmjlpnlpaa.VW
