/- Same. -/
import Derived.Test.YtedhhjmjlpnlpaaX2
namespace Go.Proofs.Ytedhhjmjlpnlpaa.VW
open Go Go.RowKit
set_option linter.unusedVariables false
set_option linter.unusedSimpArgs false

theorem take_step {α : Type} {a b : List α} {i : Nat} (ha : i < a.length) (hb : i < b.length) (hp : a.take i = b.take i) (h : a[i] = b[i]) : a.take (i + 1) = b.take (i + 1) := by
  rw [List.take_succ_eq_append_getElem ha, List.take_succ_eq_append_getElem hb, hp, h]
theorem take_all {α : Type} {a b : List α} {i : Nat} (ha : ¬ i < a.length) (hl : a.length = b.length) (hp : a.take i = b.take i) : a = b := by
  rwa [List.take_of_length_le (by omega), List.take_of_length_le (by omega)] at hp
theorem ne_at {α : Type} {a b : List α} {i : Nat} (ha : i < a.length) (hb : i < b.length) (h : a[i] ≠ b[i]) : a ≠ b := by
  rintro rfl; exact h rfl
@[simp] def S31 : Spec
  | [.sl _ cx, .sl _ cy] => some ((cx.all kSnd = true ∧ cx.length ≤ 9223372036854775807) ∧ (cy.all kSnd = true ∧ cy.length ≤ 9223372036854775807), .bool (decide ((cx.map uSnd) = (cy.map uSnd))), [])
  | _ => none
set_option maxRecDepth 100000 in
theorem S31_ok : SOK 31 S31 := by
  intro xs q r bs h hq
  unfold S31 at h
  split at h <;> cases h
  rename_i exx cx exy cy
  obtain ⟨hq1, hq2⟩ := hq
  refine FS_wk ?_
  simp only [List.map_cons, List.map_nil, wk2, wk1]
  obtain ⟨x, rfl⟩ := rows_ex (fun c hc => kSnd_ok hc) hq1.1
  have hlx := hq1.2
  simp only [List.length_map] at hlx
  obtain ⟨y, rfl⟩ := rows_ex (fun c hc => kSnd_ok hc) hq2.1
  have hly := hq2.2
  simp only [List.length_map] at hly
  simp only [List.map_map, ue_Rec, ue_Ev, ue_Row, ue_Msg, ue_Snd, ue_Ent, ue_Int, ue_Que, List.map_id] at *
  refine fs_of_awp mixed (sg_ok noS_ok) Try.func31 rfl (ent_of Try.func31 rfl rfl) [] (by rw [Try.ntmps31]; exact Nat.le_of_ble_eq_true rfl) (by simp) (by simp) (by simp) true ?_
  rw [Try.ntmps31, Try.results31]
  simp
  refine ⟨by rintro h rfl; exact h rfl, fun hlen => ?_⟩
  refine awp_loop (fun σ => ∃ i : Nat, i ≤ x.length ∧ σ.T 0 = .sl false (x.map eSnd) ∧ σ.T 1 = .sl false (y.map eSnd) ∧ σ.T 5 = .int .i64 i ∧ σ.H = (fun _ => none) ∧ x.take i = y.take i) (fun σ => x.length - (ival (σ.T 5)).toNat) ⟨0, by simp⟩ ?_
  rintro σ ⟨i, hi, h0, h1, h5, hH, hp⟩ J hJ
  by_cases hlt : i < x.length
  · have hw : IntKind.i64.wrap ((i : Int) + 1) = (i : Int) + 1 := wrap_i64 _ (by omega) (by omega)
    have hlt' : i < y.length := by omega
    by_cases he : x[i] = y[i]
    · simp [h0, h1, h5, hlt, hlt', getD_map, getQ_map, hw, he]
      exact ⟨by rfl, hJ _ ⟨i + 1, hlt, by simp [h0], by simp [h1], by simp, by simp [hH], take_step hlt hlt' hp he⟩ (by simp [h5]; omega)⟩
    · simp [h0, h1, h5, hlt, hlt', getD_map, getQ_map, hw]
      refine ⟨by rfl, fun _ => ne_at hlt hlt' he, ?_⟩
      intros
      exact absurd (by apply Snd_eq <;> assumption) he
  · simp [h0, h1, h5, hlt]
    exact take_all hlt (by omega) hp

end Go.Proofs.Ytedhhjmjlpnlpaa.VW
