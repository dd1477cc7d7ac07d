/- PartTakes. -/
import Derived.Test.YtedhhjmjlpnlpaaXF
namespace Go.Proofs.Ytedhhjmjlpnlpaa.VW
open Go Go.RowKit
set_option linter.unusedVariables false
set_option linter.unusedSimpArgs false

theorem takeL_ok {m : Msg} {p : Int} (hp : ofE p = 0) (hm : okMsg m = true) : allL okSnd (takeL m p) = true ∧ (takeL m p).length ≤ 3 := by
  have r := @ofV_r m.r.k p hp
  have hp' : p = 1 ∨ p = 2 ∨ p = 3 := by unfold ofE at hp; grind
  unfold takeL toL allP allL okSnd
  split
  · simp [hm]; omega
  · rcases hp' with rfl | rfl | rfl <;> simp [hm, List.range_succ]
theorem take_snd {t : Tsk} {m : Msg} {p : Int} (h : okTk t m p = 0) : okT t = true ∧ t.kd = 3 ∧ ofE p = 0 ∧ okMsg m = true ∧ (m.kd = 1 ∨ m.kd = 2) ∧ t.pd = [] ∧ sndE t (takeL m p) = 0 := by
  unfold okTk at h
  have h1 : okT t = true := by grind
  have h2 : t.kd = 3 := by grind
  have h3 : ofE p = 0 := by grind
  have h4 : okMsg m = true := by grind
  have h5 : m.kd = 1 ∨ m.kd = 2 := by grind
  have h6 : t.pd.length = 0 := by grind
  obtain ⟨k1, k2⟩ := takeL_ok h3 h4
  refine ⟨h1, h2, h3, h4, h5, List.eq_nil_of_length_eq_zero h6, ?_⟩
  unfold sndE
  rw [if_pos h1, if_pos k1, if_neg (by omega)]
theorem takeT_0 {t : Tsk} {m : Msg} {p : Int} (h : okTk t m p = 0) : takeT t m p = { t with pd := takeL m p } ∧ takeE t m p = 0 := by
  obtain ⟨h1, h2, h3, h4, h5, h6, h7⟩ := take_snd h
  unfold takeT takeE pendT
  simp [h, h7, h6]
theorem takeT_b {t : Tsk} {m : Msg} {p : Int} (h : bT t) : bT (takeT t m p) := by
  by_cases e : okTk t m p = 0
  · rw [(takeT_0 e).1]
    obtain ⟨h1, h2, h3, h4, h5, h6, h7⟩ := take_snd e
    have := (takeL_ok h3 h4).2
    simp only [bT] at h ⊢
    omega
  · unfold takeT; rw [if_neg e]; simp [zT]
theorem newP_b (n : Int) : bT (newP n) := by unfold newP; split <;> simp [zT]
@[simp] def S50 : Spec
  | [.agg ct, .agg cm, .int .i64 p] => some ((kTsk ct = true) ∧ (kMsg cm = true) ∧ (bT (uTsk ct)), .tup [.agg (eTsk (takeT (uTsk ct) (uMsg cm) p)), .int .i64 (takeE (uTsk ct) (uMsg cm) p)], [])
  | _ => none
set_option maxHeartbeats 4000000 in
set_option maxRecDepth 100000 in
theorem S50_ok : SOK 50 S50 := by
  intro xs q r bs h hq
  unfold S50 at h
  split at h <;> cases h
  rename_i ct cm p
  obtain ⟨hq1, hq2, hq3⟩ := hq
  refine FS_wk ?_
  simp only [List.map_cons, List.map_nil, wk2, wk1]
  rw [kTsk_wk hq1]
  generalize uTsk ct = t at *
  rw [kMsg_wk hq2]
  generalize uMsg cm = m at *
  refine fs_of_awp mixed (sg_ok (gc_ok S27_ok (gc_ok S52_ok (gc_ok S94_ok noS_ok)))) Try.func50 rfl (ent_of Try.func50 rfl rfl) [] (by rw [Try.ntmps50]; exact Nat.le_of_ble_eq_true rfl) (by simp) (by simp) (by simp) true ?_
  rw [Try.ntmps50, Try.results50]
  obtain ⟨x1, x2, x3, x4, x5, x6⟩ := hq3
  by_cases e : okTk t m p = 0
  · obtain ⟨h1, h2, h3, h4, h5, h6, h7⟩ := take_snd e
    have hp : 1 ≤ p ∧ p ≤ 3 := by unfold ofE at h3; grind
    have p1 : ¬ p < 1 := by omega
    have p2 : ¬ 3 < p := by omega
    have hl : ¬ (0 < t.pd.length) := by rw [h6]; simp
    have hl2 : t.pd.length = 0 := by omega
    rw [(takeT_0 e).1, (takeT_0 e).2]
    rcases h5 with h5 | h5 <;> simp [x1, x2, x3, x4, x5, x6, h1, eq_true h2, p1, p2, hp.1, hp.2, h4, eq_true h5, hl, hl2, eq_true h6]
  · have e1 : takeT t m p = zT := by unfold takeT; rw [if_neg e]
    have e2 : takeE t m p = okTk t m p := by unfold takeE; rw [if_neg e]
    rw [e1, e2]
    by_cases c1 : okT t = true
    rotate_left
    · have : okTk t m p = 8 := by simp [okTk, c1]
      simp [x1, x2, x3, x4, x5, x6, c1, this, zT]
    by_cases c2 : t.kd = 3
    rotate_left
    · have : okTk t m p = 2 := by simp [okTk, c1, c2]
      simp [x1, x2, x3, x4, x5, x6, c1, c2, this, zT]
    by_cases c3 : ofE p = 0
    rotate_left
    · have : okTk t m p = 2 := by simp [okTk, c1, eq_true c2, c3]
      have hp : p < 1 ∨ 3 < p := by unfold ofE at c3; grind
      rcases hp with hp | hp
      · simp [x1, x2, x3, x4, x5, x6, c1, eq_true c2, this, zT, hp]
      · have hp2 : ¬ p < 1 := by omega
        simp [x1, x2, x3, x4, x5, x6, c1, eq_true c2, this, zT, hp, hp2]
    have hp : 1 ≤ p ∧ p ≤ 3 := by unfold ofE at c3; grind
    have p1 : ¬ p < 1 := by omega
    have p2 : ¬ 3 < p := by omega
    by_cases c4 : (okMsg m && (m.kd == 1 || m.kd == 2)) = true
    rotate_left
    · have : okTk t m p = 8 := by unfold okTk; grind
      simp only [Bool.not_eq_true] at c4
      simp [x1, x2, x3, x4, x5, x6, c1, eq_true c2, p1, p2, this, zT, c4]
    have c5 : 0 < t.pd.length := by
      unfold okTk at e; grind
    have : okTk t m p = 18 := by unfold okTk; grind
    simp [x1, x2, x3, x4, x5, x6, c1, eq_true c2, p1, p2, this, zT, c4, c5]
@[simp] def S9 : Spec
  | [.int .i64 k, .int .i64 n, .agg ct, .agg cm, .int .i64 p] => some ((kTsk ct = true) ∧ (kMsg cm = true) ∧ (bL (uTsk ct)), .bool true, [])
  | _ => none
set_option maxHeartbeats 8000000 in
set_option maxRecDepth 100000 in
theorem S9_ok : SOK 9 S9 := by
  intro xs q r bs h hq
  unfold S9 at h
  split at h <;> cases h
  rename_i k n ct cm p
  obtain ⟨hq1, hq2, hq3⟩ := hq
  refine FS_wk ?_
  simp only [List.map_cons, List.map_nil, wk2, wk1]
  rw [kTsk_wk hq1]
  generalize uTsk ct = t at *
  rw [kMsg_wk hq2]
  generalize uMsg cm = m at *
  refine fs_of_awp mixed (sg_ok (gc_ok S25_ok (gc_ok S45_ok (gc_ok S44_ok (gc_ok S46_ok (gc_ok S47_ok (gc_ok S48_ok (gc_ok S49_ok (gc_ok S50_ok (gc_ok S23_ok noS_ok)))))))))) Try.func9 rfl (ent_of Try.func9 rfl rfl) [] (by rw [Try.ntmps9]; exact Nat.le_of_ble_eq_true rfl) (by simp) (by simp) (by simp) true ?_
  rw [Try.ntmps9, Try.results9]
  obtain ⟨y1, y2, y3, y4, y5, y6⟩ := hq3
  by_cases hg : grT t = true
  · simp [y1, y2, y3, y4, y5, y6, hg]
  · simp only [Bool.not_eq_true] at hg
    have hb := (grT_b hg).1
    have tb := @takeT_b t m p hb
    have nb := newP_b n
    simp only [bT] at hb tb nb
    simp [y1, y2, y3, y4, y5, y6, hg, hb, tb, nb]

end Go.Proofs.Ytedhhjmjlpnlpaa.VW
