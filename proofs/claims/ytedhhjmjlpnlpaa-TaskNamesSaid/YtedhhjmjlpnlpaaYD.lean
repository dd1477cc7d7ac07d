/- refused. -/
import Derived.Test.YtedhhjmjlpnlpaaY8
namespace Go.Proofs.Ytedhhjmjlpnlpaa.VW
open Go Go.RowKit
set_option linter.unusedVariables false
set_option linter.unusedSimpArgs false

theorem askE_8 {t : Tsk} {a c : List Que} (h : okT t = false) : askE t a c = 8 := by unfold askE; rw [if_neg (by simp [h])]
theorem enE_8 {t : Tsk} {a c : List Que} (h : okT t = false) : enE t a c = 8 ∧ enB t a c = false := by
  have e : enE t a c = 8 := by unfold enE; rw [askE_8 h]; rfl
  exact ⟨e, by unfold enB; rw [e]; rfl⟩
theorem turnE_8 {t : Tsk} {a : List Que} (h : okT t = false) : turnE t a = 8 := by unfold turnE; rw [askE_8 h]; rfl
theorem sdE_8 {t : Tsk} {c : List Que} (h : okT t = false) : sdE t c = 8 := by unfold sdE; rw [askE_8 h]; rfl
theorem sndE_8 {t : Tsk} {l : List Snd} (h : okT t = false) : sndE t l = 8 := by unfold sndE; rw [if_neg (by simp [h])]
@[simp] theorem immR_replicate' (n : Nat) (r : List AV) (h : immL r = true) : immR (List.replicate n r) = true := by
  rw [immR_iff]; intro x hx; rw [(List.mem_replicate.1 hx).2]; exact h
@[simp] def S90 : Spec
  | [.agg ct] => some ((kTsk ct = true) ∧ (bT (uTsk ct) ∧ okT (uTsk ct) = false), .bool true, [])
  | _ => none
set_option maxHeartbeats 8000000 in
set_option maxRecDepth 100000 in
theorem S90_ok : SOK 90 S90 := by
  intro xs q r bs h hq
  unfold S90 at h
  split at h <;> cases h
  rename_i ct
  obtain ⟨hq1, hq2⟩ := hq
  refine FS_wk ?_
  simp only [List.map_cons, List.map_nil, wk2, wk1]
  rw [kTsk_wk hq1]
  generalize uTsk ct = t at *
  refine fs_of_awp mixed (sg_ok (gc_ok S28_ok (gc_ok S30_ok (gc_ok S29_ok (gc_ok S41_ok (gc_ok S59_ok noS_ok)))))) Try.func90 rfl (ent_of Try.func90 rfl rfl) [] (by rw [Try.ntmps90]; exact Nat.le_of_ble_eq_true rfl) (by simp) (by simp) (by simp) true ?_
  rw [Try.ntmps90, Try.results90]
  obtain ⟨⟨x1, x2, x3, x4, x5, x6⟩, hok⟩ := hq2
  simp (maxSteps := 1000000) [-List.reduceReplicate, x1, x2, x3, x4, x5, x6, hok, (enE_8 hok).1, (enE_8 hok).2, turnE_8 hok, sdE_8 hok, sndE_8 hok]
  all_goals ((repeat' first | refine And.intro ?_ ?_ | intro _) <;> first | assumption | omega | with_reducible rfl | (refine (?_ : chkD _ _ = true); rfl))

end Go.Proofs.Ytedhhjmjlpnlpaa.VW
