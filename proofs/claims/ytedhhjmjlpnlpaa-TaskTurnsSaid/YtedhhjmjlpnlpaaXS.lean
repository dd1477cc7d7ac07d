/- Sources. -/
import Derived.Test.YtedhhjmjlpnlpaaXE
import Derived.Test.YtedhhjmjlpnlpaaXF
import Derived.Test.YtedhhjmjlpnlpaaX6
import Derived.Test.YtedhhjmjlpnlpaaW3
namespace Go.Proofs.Ytedhhjmjlpnlpaa.VW
open Go Go.RowKit
set_option linter.unusedVariables false
set_option linter.unusedSimpArgs false

def askS (t : Tsk) : Int := if okT t then (if t.kd = 1 then 0 else 2) else 8
def stepE (t : Tsk) : Int := if askS t ≠ 0 then askS t else if 0 < t.pd.length then 18 else if t.ev.length = 0 then 6 else 0
def evZ : Ev := ⟨false, 0, ⟨0, 0, 0⟩⟩
def sent1 (t : Tsk) : Snd := ⟨0, toldM (t.ev.getD 0 default)⟩
def stpT (t : Tsk) : Tsk := if stepE t = 0 then { t with pd := [sent1 t], ev := t.ev.drop 1 } else zT
def sentL (t : Tsk) : List Msg := if askS t = 0 then t.pd.map (·.m) ++ t.ev.map toldM else []
theorem okEv_told {e : Ev} (h : okEv e = true) : okMsg (toldM e) = true := by
  unfold okEv at h; unfold okMsg toldM
  split at h <;> simp_all
theorem allL_drop {α : Type} {p : α → Bool} {l : List α} (n : Nat) (h : allL p l = true) : allL p (l.drop n) = true := by
  unfold allL at *
  rw [List.all_eq_true] at *
  exact fun x hx => h x (List.mem_of_mem_drop hx)
theorem allL_get {α : Type} {p : α → Bool} {l : List α} {i : Nat} (hi : i < l.length) (h : allL p l = true) : p l[i] = true := by
  unfold allL at h; rw [List.all_eq_true] at h; exact h _ (List.getElem_mem hi)
theorem okT_ev {t : Tsk} (h : okT t = true) : allL okEv t.ev = true := by
  unfold okT at h; simp only [Bool.and_eq_true] at h; exact h.1.1.1.2
theorem okT_pd {t : Tsk} (h : okT t = true) : allL okSnd t.pd = true ∧ t.pd.length ≤ 4000 := by
  unfold okT okSiz at h; simp only [Bool.and_eq_true, decide_eq_true_eq] at h
  exact ⟨h.1.1.1.1.1.1.2, by omega⟩
theorem okT_dropev {t : Tsk} (n : Nat) (h : okT t = true) : okT { t with ev := t.ev.drop n } = true := by
  have h1 := allL_drop n (okT_ev h)
  unfold okT okNum okSiz at h ⊢
  simp only [Bool.and_eq_true, decide_eq_true_eq] at h ⊢
  have : (t.ev.drop n).length ≤ t.ev.length := by simp
  grind
@[simp] theorem immR_tail_map {α : Type} (f : α → List AV) (l : List α) (h : ∀ x, immL (f x) = true) : immR (l.map f).tail = true := by
  rw [immR_iff]; intro r hr
  obtain ⟨x, _, rfl⟩ := List.mem_map.1 (List.mem_of_mem_tail hr)
  exact h x
@[simp] theorem take_len_map {α β : Type} (f : α → β) (l : List α) : (l.map f).take l.length = l.map f := List.take_of_length_le (by simp)
theorem step_ok {t : Tsk} (h : stepE t = 0) : okT t = true ∧ t.kd = 1 ∧ t.pd = [] ∧ 0 < t.ev.length ∧ okEv t.ev[0]! = true ∧ sndE { t with ev := t.ev.drop 1 } [sent1 t] = 0 := by
  unfold stepE askS at h
  have h1 : okT t = true := by grind
  have h2 : t.kd = 1 := by grind
  have h3 : t.pd.length = 0 := by grind
  have h4 : 0 < t.ev.length := by grind
  have h5 := allL_get h4 (okT_ev h1)
  refine ⟨h1, h2, List.eq_nil_of_length_eq_zero h3, h4, by simpa [h4] using h5, ?_⟩
  have h6 := okEv_told h5
  unfold sndE
  have e : sent1 t = ⟨0, toldM t.ev[0]⟩ := by simp [sent1, h4]
  rw [if_pos (okT_dropev 1 h1), if_pos (by rw [e]; simp [allL, okSnd, h6]), if_neg (by simp; omega)]
@[simp] def S84 : Spec
  | [.agg ct] => some ((kTsk ct = true) ∧ (bT (uTsk ct)), .int .i64 (askS (uTsk ct)), [])
  | _ => none
set_option maxRecDepth 100000 in
theorem S84_ok : SOK 84 S84 := by
  intro xs q r bs h hq
  unfold S84 at h
  split at h <;> cases h
  rename_i ct
  obtain ⟨hq1, hq2⟩ := hq
  refine FS_wk ?_
  simp only [List.map_cons, List.map_nil, wk2, wk1]
  rw [kTsk_wk hq1]
  generalize uTsk ct = t at *
  refine fs_of_awp mixed (sg_ok (gc_ok S59_ok noS_ok)) Try.func84 rfl (ent_of Try.func84 rfl rfl) [] (by rw [Try.ntmps84]; exact Nat.le_of_ble_eq_true rfl) (by simp) (by simp) (by simp) true ?_
  rw [Try.ntmps84, Try.results84]
  obtain ⟨x1, x2, x3, x4, x5, x6⟩ := hq2
  unfold askS
  by_cases h1 : okT t = true <;> by_cases h2 : t.kd = 1 <;> first | simp [x1, x2, x3, x4, x5, x6, h1, eq_true h2] | simp [x1, x2, x3, x4, x5, x6, h1, h2]
@[simp] def S95 : Spec
  | [.agg ct] => some ((kTsk ct = true) ∧ (bT (uTsk ct)), .int .i64 (askS (uTsk ct)), [])
  | _ => none
set_option maxRecDepth 100000 in
theorem S95_ok : SOK 95 S95 := by
  intro xs q r bs h hq
  unfold S95 at h
  split at h <;> cases h
  rename_i ct
  obtain ⟨hq1, hq2⟩ := hq
  refine FS_wk ?_
  simp only [List.map_cons, List.map_nil, wk2, wk1]
  rw [kTsk_wk hq1]
  generalize uTsk ct = t at *
  refine fs_of_awp mixed (sg_ok (gc_ok S27_ok noS_ok)) Try.func95 rfl (ent_of Try.func95 rfl rfl) [] (by rw [Try.ntmps95]; exact Nat.le_of_ble_eq_true rfl) (by simp) (by simp) (by simp) true ?_
  rw [Try.ntmps95, Try.results95]
  obtain ⟨x1, x2, x3, x4, x5, x6⟩ := hq2
  unfold askS
  by_cases h1 : okT t = true <;> by_cases h2 : t.kd = 1 <;> first | simp [x1, x2, x3, x4, x5, x6, h1, eq_true h2] | simp [x1, x2, x3, x4, x5, x6, h1, h2]
@[simp] def S36 : Spec
  | [.sl _ cx, .sl _ cy] => some ((cx.all kMsg = true ∧ cx.length ≤ 9223372036854775807) ∧ (cy.all kMsg = true ∧ cy.length ≤ 9223372036854775807), .bool (decide ((cx.map uMsg) = (cy.map uMsg))), [])
  | _ => none
set_option maxRecDepth 100000 in
theorem S36_ok : SOK 36 S36 := by
  intro xs q r bs h hq
  unfold S36 at h
  split at h <;> cases h
  rename_i exx cx exy cy
  obtain ⟨hq1, hq2⟩ := hq
  refine FS_wk ?_
  simp only [List.map_cons, List.map_nil, wk2, wk1]
  obtain ⟨x, rfl⟩ := rows_ex (fun c hc => kMsg_ok hc) hq1.1
  have hlx := hq1.2
  simp only [List.length_map] at hlx
  obtain ⟨y, rfl⟩ := rows_ex (fun c hc => kMsg_ok hc) hq2.1
  have hly := hq2.2
  simp only [List.length_map] at hly
  try simp only [List.map_map, ue_Rec, ue_Ev, ue_Row, ue_Msg, ue_Snd, ue_Ent, ue_Int, ue_Que, List.map_id] at *
  refine fs_of_awp mixed (sg_ok noS_ok) Try.func36 rfl (ent_of Try.func36 rfl rfl) [] (by rw [Try.ntmps36]; exact Nat.le_of_ble_eq_true rfl) (by simp) (by simp) (by simp) true ?_
  rw [Try.ntmps36, Try.results36]
  simp
  refine ⟨by rintro h rfl; exact h rfl, fun hlen => ?_⟩
  refine awp_loop (fun σ => ∃ i : Nat, i ≤ x.length ∧ σ.T 0 = .sl false (x.map eMsg) ∧ σ.T 1 = .sl false (y.map eMsg) ∧ σ.T 5 = .int .i64 i ∧ x.take i = y.take i) (fun σ => x.length - (ival (σ.T 5)).toNat) ⟨0, by simp⟩ ?_
  rintro σ ⟨i, hi, h0, h1, h5, hp⟩ J hJ
  by_cases hlt : i < x.length
  · have hw : IntKind.i64.wrap ((i : Int) + 1) = (i : Int) + 1 := wrap_i64 _ (by omega) (by omega)
    have hlt' : i < y.length := by omega
    by_cases he : x[i] = y[i]
    · simp [h0, h1, h5, hlt, hlt', getD_map, getQ_map, hw, he]
      exact ⟨by rfl, hJ _ ⟨i + 1, hlt, by simp [h0], by simp [h1], by simp, take_step hlt hlt' hp he⟩ (by simp [h5]; omega)⟩
    · simp [h0, h1, h5, hlt, hlt', getD_map, getQ_map, hw]
      refine ⟨by rfl, fun _ => ne_at hlt hlt' he, ?_⟩
      intros
      exact absurd (by apply Msg_eq <;> assumption) he
  · simp [h0, h1, h5, hlt]
    exact take_all hlt (by omega) hp
@[simp] def S96 : Spec
  | [.agg ct] => some ((kTsk ct = true) ∧ (bT (uTsk ct) ∧ 0 < ((uTsk ct)).ev.length), .agg (eTsk { (uTsk ct) with pd := ((uTsk ct)).pd ++ [sent1 (uTsk ct)], ev := ((uTsk ct)).ev.drop 1 }), [])
  | _ => none
set_option maxHeartbeats 2000000 in
set_option maxRecDepth 100000 in
theorem S96_ok : SOK 96 S96 := by
  intro xs q r bs h hq
  unfold S96 at h
  split at h <;> cases h
  rename_i ct
  obtain ⟨hq1, hq2⟩ := hq
  refine FS_wk ?_
  simp only [List.map_cons, List.map_nil, wk2, wk1]
  rw [kTsk_wk hq1]
  generalize uTsk ct = t at *
  refine fs_of_awp mixed (sg_ok (gc_ok S45_ok (gc_ok S97_ok noS_ok))) Try.func96 rfl (ent_of Try.func96 rfl rfl) [] (by rw [Try.ntmps96]; exact Nat.le_of_ble_eq_true rfl) (by simp) (by simp) (by simp) true ?_
  rw [Try.ntmps96, Try.results96]
  obtain ⟨⟨x1, x2, x3, x4, x5, x6⟩, h0⟩ := hq2
  have h0' : (0 : Int) < t.ev.length := by omega
  have h1 : (1 : Int) ≤ t.ev.length := by omega
  simp [x1, x2, x3, x4, x5, x6, h0, h0', h1, getD_map, getQ_map, sent1]
  (repeat' first | refine And.intro ?_ ?_ | intro _) <;> first | omega | rfl | skip

end Go.Proofs.Ytedhhjmjlpnlpaa.VW
