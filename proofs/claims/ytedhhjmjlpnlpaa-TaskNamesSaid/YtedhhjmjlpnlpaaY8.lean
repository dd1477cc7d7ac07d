/- TaskSends. -/
import Derived.Test.YtedhhjmjlpnlpaaY6
import Derived.Test.YtedhhjmjlpnlpaaY7
import Derived.Test.YtedhhjmjlpnlpaaXG
namespace Go.Proofs.Ytedhhjmjlpnlpaa.VW
open Go Go.RowKit
set_option linter.unusedVariables false
set_option linter.unusedSimpArgs false

theorem putQ_len {q : Que} {m : Msg} : (putQ q m).l.length ≤ q.l.length + 1 := by
  unfold putQ; split <;> simp [zQ]
theorem sdT_b {t : Tsk} {c : List Que} (h : bT t) : bT (sdT t c) := by
  unfold sdT; split
  · simp only [bT] at h ⊢; simp; omega
  · simp [zT]
theorem sdQ_b {t : Tsk} {c : List Que} (hb : bA c) : (sdQ t c).length ≤ c.length ∧ ∀ q ∈ sdQ t c, q.l.length ≤ 9223372036854775807 := by
  unfold sdQ; split
  · refine ⟨by simp, fun q hq => ?_⟩
    rcases List.mem_or_eq_of_mem_set hq with hq | rfl
    · have := hb q hq; omega
    · have h1 := @putQ_len (c.getD (sd t).o.toNat default) (sd t).m
      have h2 : (c.getD (sd t).o.toNat default).l.length ≤ 100000 := by
        by_cases h : (sd t).o.toNat < c.length
        · have e : c.getD (sd t).o.toNat default = c[(sd t).o.toNat] := by simp [h]
          rw [e]; exact hb _ (List.getElem_mem h)
        · have e : c.getD (sd t).o.toNat default = default := by simp [List.getD, List.getElem?_eq_none (Nat.le_of_not_lt h)]
          rw [e]; decide
      omega
  · exact ⟨by simp, fun q hq => by cases hq⟩
theorem pendT_b {t : Tsk} {l : List Snd} (h : bT t) : bT (pendT t l) := by
  unfold pendT; split
  · rename_i e
    have : t.pd.length + l.length ≤ 4000 := by
      unfold sndE at e
      split at e
      · split at e
        · split at e
          · cases e
          · omega
        · cases e
      · cases e
    simp only [bT] at h ⊢; simp; omega
  · simp [zT]
@[simp] def S20 : Spec
  | [.agg ct, .sl _ ca, .sl _ cl] => some ((kTsk ct = true) ∧ (ca.all kQue = true ∧ ca.length ≤ 9223372036854775807) ∧ (cl.all kSnd = true ∧ cl.length ≤ 9223372036854775807) ∧ (bL (uTsk ct) ∧ bB (ca.map uQue)), .bool true, [])
  | _ => none
set_option maxHeartbeats 8000000 in
set_option maxRecDepth 100000 in
theorem S20_ok : SOK 20 S20 := by
  intro xs q r bs h hq
  unfold S20 at h
  split at h <;> cases h
  rename_i ct exa ca exl cl
  obtain ⟨hq1, hq2, hq3, hq4⟩ := hq
  refine FS_wk ?_
  simp only [List.map_cons, List.map_nil, wk2, wk1]
  rw [kTsk_wk hq1]
  generalize uTsk ct = t at *
  obtain ⟨a, rfl⟩ := rows_ex (fun c hc => kQue_ok hc) hq2.1
  have hla := hq2.2
  simp only [List.length_map] at hla
  obtain ⟨l, rfl⟩ := rows_ex (fun c hc => kSnd_ok hc) hq3.1
  have hll := hq3.2
  simp only [List.length_map] at hll
  try simp only [List.map_map, ue_Rec, ue_Ev, ue_Row, ue_Msg, ue_Snd, ue_Ent, ue_Int, ue_Que, List.map_id] at *
  refine fs_of_awp mixed (sg_ok (gc_ok S25_ok (gc_ok S26_ok (gc_ok S45_ok (gc_ok S61_ok (gc_ok S29_ok (gc_ok S62_ok (gc_ok S41_ok (gc_ok S63_ok (gc_ok S23_ok (gc_ok S64_ok noS_ok))))))))))) Try.func20 rfl (ent_of Try.func20 rfl rfl) [] (by rw [Try.ntmps20]; exact Nat.le_of_ble_eq_true rfl) (by simp) (by simp) (by simp) true ?_
  rw [Try.ntmps20, Try.results20]
  obtain ⟨⟨y1, y2, y3, y4, y5, y6⟩, ya⟩ := hq4
  by_cases hg : grT t = true
  · simp [y1, y2, y3, y4, y5, y6, hg]
    all_goals ((repeat' first | refine And.intro ?_ ?_ | intro _) <;> first | assumption | omega | (apply ha; assumption) | (apply hb; assumption) | (apply ya; assumption) | (apply yb; assumption) | with_reducible rfl | (refine (?_ : chkD _ _ = true); rfl))
  simp only [Bool.not_eq_true] at hg
  by_cases hga : grA a = true
  · simp [y1, y2, y3, y4, y5, y6, hg, hga]
    all_goals ((repeat' first | refine And.intro ?_ ?_ | intro _) <;> first | assumption | omega | (apply ha; assumption) | (apply hb; assumption) | (apply ya; assumption) | (apply yb; assumption) | with_reducible rfl | (refine (?_ : chkD _ _ = true); rfl))
  simp only [Bool.not_eq_true] at hga
  have hb0 := (grT_b hg).1
  obtain ⟨hal, ha⟩ := grA_b hga
  have hal' : a.length ≤ 9223372036854775807 := by omega
  by_cases g1 : 4010 < (l.length : Int)
  · have g2 : ¬ (l.length : Int) < 3990 := by omega
    by_cases g3 : 100 < (l.length : Int) <;> simp [y1, y2, y3, y4, y5, y6, hg, hga, hal', hll, g1, g2, g3]
    all_goals ((repeat' first | refine And.intro ?_ ?_ | intro _) <;> first | assumption | omega | (apply ha; assumption) | (apply hb; assumption) | (apply ya; assumption) | (apply yb; assumption) | with_reducible rfl | (refine (?_ : chkD _ _ = true); rfl))
  by_cases g3 : 100 < (l.length : Int) ∧ (l.length : Int) < 3990
  · simp [y1, y2, y3, y4, y5, y6, hg, hga, hal', hll, g1, g3.1, g3.2]
    all_goals ((repeat' first | refine And.intro ?_ ?_ | intro _) <;> first | assumption | omega | (apply ha; assumption) | (apply hb; assumption) | (apply ya; assumption) | (apply yb; assumption) | with_reducible rfl | (refine (?_ : chkD _ _ = true); rfl))
  have hll5 : l.length ≤ 100000 := by omega
  have hal5 : a.length ≤ 100000 := by omega
  have hb2 := sdT_b (c := a) hb0
  have hb3 := pendT_b (l := l) hb0
  obtain ⟨hs1, hs2⟩ := sdQ_b (t := t) ha
  have hs1' : (sdQ t a).length ≤ 9223372036854775807 := by omega
  simp only [bT] at hb0 hb2 hb3
  by_cases g4 : 100 < (l.length : Int)
  · have g5 : ¬ (l.length : Int) < 3990 := fun h => g3 ⟨g4, h⟩
    simp [y1, y2, y3, y4, y5, y6, hg, hga, hal', hll, g1, g4, g5, hll5, hal5, hb0, hb2, hb3, hs1']
    all_goals ((repeat' first | refine And.intro ?_ ?_ | intro _) <;> first | assumption | omega | (apply ha; assumption) | (apply ya; assumption) | (apply hs2; assumption) | with_reducible rfl | (refine (?_ : chkD _ _ = true); rfl))
  · simp [y1, y2, y3, y4, y5, y6, hg, hga, hal', hll, g1, g4, hll5, hal5, hb0, hb2, hb3, hs1']
    all_goals ((repeat' first | refine And.intro ?_ ?_ | intro _) <;> first | assumption | omega | (apply ha; assumption) | (apply ya; assumption) | (apply hs2; assumption) | with_reducible rfl | (refine (?_ : chkD _ _ = true); rfl))

end Go.Proofs.Ytedhhjmjlpnlpaa.VW
