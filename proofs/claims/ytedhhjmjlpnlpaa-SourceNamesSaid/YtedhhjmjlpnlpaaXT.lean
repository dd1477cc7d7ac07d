/- source.Sent. -/
import Derived.Test.YtedhhjmjlpnlpaaXS
import Derived.Test.YtedhhjmjlpnlpaaVH
namespace Go.Proofs.Ytedhhjmjlpnlpaa.VW
open Go Go.RowKit
set_option linter.unusedVariables false
set_option linter.unusedSimpArgs false

def regsOf : Code → List (Array Oper)
  | .seq (.region _ r false) c => r :: regsOf c
  | .region _ r false => [r]
  | _ => []
def sp35 (Γ : Nat → Spec) : Nat → Option (Nat → Array Oper → (St → Prop) → St → Prop) := fun i => if i = 14 then some (fun N ops K σ => stepsI (sg Γ) 0 100 N ops 85 14 (regsOf (Try.f85.body.getD .skip)) ops.toList K σ) else none
def sgS (Γ : Nat → Spec) : Sg := ⟨tau, Γ, eqt, sp35 Γ⟩
theorem sgS_ok {Γ : Nat → Spec} (h : ∀ f, SOK f (Γ f)) : OK Try.prog (sgS Γ) := ⟨tau_ok, fun f xs q r bs e hq => h f xs q r bs e hq, eqt_ok, fun id f hf => by
  unfold sgS sp35 at hf
  simp only at hf
  split at hf
  · cases hf
    intro N ops K σ hk w0 F0 a w F E Q hR hn
    exact regionI_ok (sg_ok h) Try.func85 (by rfl) (by rfl) (by rfl) (ent_of Try.func85 rfl rfl) (by rfl) hR hk hn
  · cases hf⟩
theorem sp35_none {Γ : Nat → Spec} {i : Nat} (h : i ≠ 14) : sp35 Γ i = none := by unfold sp35; simp [h]
theorem awp_14 {Γ : Nat → Spec} {fr N : Nat} {K : Ex → St → Prop} {σ : St} {ops : Array Oper} : awp ⟨tau, Γ, eqt, sp35 Γ⟩ fr N (.region 14 ops false) K σ = stepsI (sg Γ) 0 100 N ops 85 14 (regsOf (Try.f85.body.getD .skip)) ops.toList (K .nrm) σ := by
  unfold awp sp35; simp
def OutS (σ : St) (L : List Msg) : Prop := (L = [] ∧ σ.H (5, 0) = some (.var [.sl true []])) ∨ (L ≠ [] ∧ ((σ.H (5, 0) = some (.var [.own (27, 0) (σ.γ (27, 0))]) ∧ σ.H (27, 0) = some (.rows 10 (L.map eMsg))) ∨ (σ.H (5, 0) = some (.var [.own (113, 0) (σ.γ (113, 0))]) ∧ σ.H (113, 0) = some (.rows 10 (L.map eMsg)))))
theorem okT_ev60 {t : Tsk} (h : okT t = true) : t.ev.length ≤ 60 := by
  unfold okT okSiz at h; simp only [Bool.and_eq_true, decide_eq_true_eq] at h
  grind
@[simp] def S35 : Spec
  | [.agg ct] => some ((kTsk ct = true) ∧ (bT (uTsk ct)), .tup [.sl false ((sentL (uTsk ct)).map eMsg), .int .i64 (askS (uTsk ct))], [])
  | _ => none
set_option maxHeartbeats 8000000 in
set_option maxRecDepth 100000 in
theorem S35_ok : SOK 35 S35 := by
  intro xs q r bs h hq
  unfold S35 at h
  split at h <;> cases h
  rename_i ct
  obtain ⟨hq1, hq2⟩ := hq
  refine FS_wk ?_
  simp only [List.map_cons, List.map_nil, wk2, wk1]
  rw [kTsk_wk hq1]
  generalize uTsk ct = t at *
  refine fs_of_awp mixed (sgS_ok (gc_ok S84_ok (gc_ok S56_ok noS_ok))) Try.func35 rfl (ent_of Try.func35 rfl rfl) [] (by rw [Try.ntmps35]; exact Nat.le_of_ble_eq_true rfl) (by simp) (by simp) (by simp) true ?_
  rw [Try.ntmps35, Try.results35]
  obtain ⟨x1, x2, x3, x4, x5, x6⟩ := hq2
  by_cases ha : askS t = 0
  rotate_left
  · have : sentL t = [] := by unfold sentL; rw [if_neg ha]
    simp [x1, x2, x3, x4, x5, x6, ha, this, sgS, awp_regTS, awp_drawS, sp35_none]
  have hok : okT t = true := by unfold askS at ha; grind
  have hev := okT_ev hok
  have hpd := (okT_pd hok).2
  have he60 := okT_ev60 hok
  have hsent : sentL t = t.pd.map (·.m) ++ t.ev.map toldM := by unfold sentL; rw [if_pos ha]
  rw [hsent, ha]
  simp [x1, x2, x3, x4, x5, x6, ha, sgS, awp_regTS, awp_drawS, sp35_none]
  refine awp_loop (fun σ => ∃ i : Nat, i ≤ t.pd.length ∧ σ.T 1 = .ptr (1, 0) 1 0 ∧ σ.H (1, 0) = some (.var (eTsk t)) ∧ σ.γ (1, 0) = 1 ∧ σ.T 5 = .ptr (5, 0) 1 0 ∧ σ.γ (5, 0) = 1 ∧ σ.T 3 = .int .i64 0 ∧ σ.T 17 = .sl false (t.pd.map eSnd) ∧ σ.T 18 = .int .i64 t.pd.length ∧ σ.T 19 = .int .i64 i ∧ ((i = 0 ∧ σ.H (5, 0) = some (.var [.sl true []])) ∨ (0 < i ∧ σ.H (5, 0) = some (.var [.own (27, 0) (σ.γ (27, 0))]) ∧ σ.H (27, 0) = some (.rows 10 (((t.pd.take i).map (·.m)).map eMsg))))) (fun σ => t.pd.length - (ival (σ.T 19)).toNat) ⟨0, by simp⟩ ?_
  rintro σ ⟨i, hi, h1, hH1, hg1, h5, hg5, h3, h17, h18, h19, hO⟩ J hJ
  simp only [eTsk] at hH1
  by_cases hlt : i < t.pd.length
  · have hw : IntKind.i64.wrap ((i : Int) + 1) = (i : Int) + 1 := wrap_i64 _ (by omega) (by omega)
    have hs : (t.pd.take (i + 1)).map (·.m) = (t.pd.take i).map (·.m) ++ [t.pd[i].m] := by rw [List.take_succ_eq_append_getElem hlt, List.map_append]; rfl
    rcases hO with ⟨rfl, hO⟩ | ⟨hi0, hO, hR⟩
    · simp [h1, hH1, hg1, h5, hg5, h3, h17, h18, h19, hlt, getD_map, getQ_map, hw, hO, sgS, awp_regTS, awp_drawS, sp35_none]
      exact hJ _ ⟨1, by omega, by simp [h1], by simp [hH1], by simp [hg1], by simp [h5], by simp [hg5], by simp [h3], by simp [h17], by simp [h18], by simp, .inr ⟨by omega, by simp, by rw [hs]; simp⟩⟩ (by simp [h19]; omega)
    · simp [h1, hH1, hg1, h5, hg5, h3, h17, h18, h19, hlt, getD_map, getQ_map, hw, hO, hR, sgS, awp_regTS, awp_drawS, sp35_none]
      have hl : min i t.pd.length = i := by omega
      exact ⟨⟨by omega, by omega⟩, hJ _ ⟨i + 1, by omega, by simp [h1], by simp [hH1], by simp [hg1], by simp [h5], by simp [hg5], by simp [h3], by simp [h17], by simp [h18], by simp, .inr ⟨by omega, by simp, by rw [hs]; simp⟩⟩ (by simp [h19]; omega)⟩
  have hti : t.pd.take i = t.pd := List.take_of_length_le (by omega)
  have hO2 : OutS σ (t.pd.map (·.m)) := by
    rcases hO with ⟨rfl, hO⟩ | ⟨hi0, hO, hR⟩
    · exact .inl ⟨by simp; exact List.eq_nil_of_length_eq_zero (by omega), hO⟩
    · rw [hti] at hR
      refine .inr ⟨?_, .inl ⟨hO, hR⟩⟩
      intro hn; have := congrArg List.length hn; simp at this; rw [this] at hlt hi; simp at hi; omega
  clear hO
  simp [h1, hH1, hg1, h5, hg5, h3, h17, h18, h19, hlt, sgS, awp_regTS, awp_drawS, sp35_none]
  refine awp_loop (fun σ => ∃ i : Nat, i ≤ t.ev.length ∧ σ.T 1 = .ptr (1, 0) 1 0 ∧ σ.H (1, 0) = some (.var (eTsk t)) ∧ σ.γ (1, 0) = 1 ∧ σ.T 5 = .ptr (5, 0) 1 0 ∧ σ.γ (5, 0) = 1 ∧ σ.T 3 = .int .i64 0 ∧ σ.T 31 = .sl false (t.ev.map eEv) ∧ σ.T 32 = .int .i64 t.ev.length ∧ σ.T 33 = .int .i64 i ∧ σ.T 8 = .fn 85 [.ptr (5, 0) 1 0] ∧ OutS σ (t.pd.map (·.m) ++ (t.ev.take i).map toldM)) (fun σ => t.ev.length - (ival (σ.T 33)).toNat) ⟨0, by simp [h1, hH1, hg1, h5, hg5, h3]; simpa [OutS] using hO2⟩ ?_
  clear h1 hH1 hg1 h5 hg5 h3 h17 h18 h19 hlt hti hO2 hJ hi
  rintro σ ⟨i, hi, h1, hH1, hg1, h5, hg5, h3, h31, h32, h33, h8, hO⟩ J hJ
  simp only [eTsk] at hH1
  by_cases hlt : i < t.ev.length
  · have hw : IntKind.i64.wrap ((i : Int) + 1) = (i : Int) + 1 := wrap_i64 _ (by omega) (by omega)
    have hs : t.pd.map (·.m) ++ (t.ev.take (i + 1)).map toldM = (t.pd.map (·.m) ++ (t.ev.take i).map toldM) ++ [toldM t.ev[i]] := by rw [List.take_succ_eq_append_getElem hlt, List.map_append, List.append_assoc]; rfl
    have hei := allL_get hlt hev
    have hlen : (t.pd.map (·.m) ++ (t.ev.take i).map toldM).length ≤ 4060 := by simp; omega
    generalize t.pd.map (·.m) ++ (t.ev.take i).map toldM = L at *
    rcases hO with ⟨rfl, hO⟩ | ⟨hne, ⟨hO, hR⟩ | ⟨hO, hR⟩⟩
    · simp [h1, hH1, hg1, h5, hg5, h3, h31, h32, h33, h8, hlt, getD_map, getQ_map, hw, hO, hei, sgS, awp_regTS, awp_drawS, sp35_none, awp_14, stepsI, inlK, regsK, regsOf, Try.f85]
      exact hJ _ ⟨i + 1, by omega, by simp [h1], by simp [hH1], by simp [hg1], by simp [h5], by simp [hg5], by simp [h3], by simp [h31], by simp [h32], by simp, by simp [h8], .inr ⟨by rw [hs]; simp, .inr ⟨by simp, by rw [hs]; simp⟩⟩⟩ (by simp [h33]; omega)
    · simp [h1, hH1, hg1, h5, hg5, h3, h31, h32, h33, h8, hlt, getD_map, getQ_map, hw, hO, hR, hei, sgS, awp_regTS, awp_drawS, sp35_none, awp_14, stepsI, inlK, regsK, regsOf, Try.f85]
      exact ⟨⟨by omega, by omega⟩, hJ _ ⟨i + 1, by omega, by simp [h1], by simp [hH1], by simp [hg1], by simp [h5], by simp [hg5], by simp [h3], by simp [h31], by simp [h32], by simp, by simp [h8], .inr ⟨by rw [hs]; simp, .inr ⟨by simp, by rw [hs]; simp⟩⟩⟩ (by simp [h33]; omega)⟩
    · simp [h1, hH1, hg1, h5, hg5, h3, h31, h32, h33, h8, hlt, getD_map, getQ_map, hw, hO, hR, hei, sgS, awp_regTS, awp_drawS, sp35_none, awp_14, stepsI, inlK, regsK, regsOf, Try.f85]
      exact ⟨⟨by omega, by omega⟩, hJ _ ⟨i + 1, by omega, by simp [h1], by simp [hH1], by simp [hg1], by simp [h5], by simp [hg5], by simp [h3], by simp [h31], by simp [h32], by simp, by simp [h8], .inr ⟨by rw [hs]; simp, .inr ⟨by simp, by rw [hs]; simp⟩⟩⟩ (by simp [h33]; omega)⟩
  · have hti : t.ev.take i = t.ev := List.take_of_length_le (by omega)
    rw [hti] at hO
    rcases hO with ⟨hL, hO⟩ | ⟨hne, ⟨hO, hR⟩ | ⟨hO, hR⟩⟩
    · simp [h1, hH1, hg1, h5, hg5, h3, h31, h32, h33, h8, hlt, hO, sgS, awp_regTS, awp_drawS, sp35_none]
      simpa using hL
    · simp [h1, hH1, hg1, h5, hg5, h3, h31, h32, h33, h8, hlt, hO, hR, sgS, awp_regTS, awp_drawS, sp35_none]
    · simp [h1, hH1, hg1, h5, hg5, h3, h31, h32, h33, h8, hlt, hO, hR, sgS, awp_regTS, awp_drawS, sp35_none]

end Go.Proofs.Ytedhhjmjlpnlpaa.VW
