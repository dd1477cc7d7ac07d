/- SourceOrder. -/
import Derived.Test.YtedhhjmjlpnlpaaXU
import Derived.Test.YtedhhjmjlpnlpaaXV
namespace Go.Proofs.Ytedhhjmjlpnlpaa.VW
open Go Go.RowKit
set_option linter.unusedVariables false
set_option linter.unusedSimpArgs false

theorem told_inj {a b : Ev} (ha : okEv a = true) (hb : okEv b = true) (h : toldM a = toldM b) : a = b := by
  rcases a with ⟨m, t, r⟩
  rcases b with ⟨m', t', r'⟩
  unfold okEv at ha hb
  unfold toldM at h
  rcases r with ⟨p, q, s⟩
  rcases r' with ⟨p', q', s'⟩
  cases m <;> cases m' <;> simp_all
theorem map_inj {α β : Type} {f : α → β} {p : α → Prop} (hf : ∀ a b, p a → p b → f a = f b → a = b) : ∀ {l m : List α}, (∀ a ∈ l, p a) → (∀ a ∈ m, p a) → l.map f = m.map f → l = m
  | [], [], _, _, _ => rfl
  | [], _ :: _, _, _, h => by simp at h
  | _ :: _, [], _, _, h => by simp at h
  | a :: l, b :: m, hl, hm, h => by
    simp only [List.map_cons, List.cons.injEq] at h
    rw [hf a b (hl a (by simp)) (hm b (by simp)) h.1, map_inj hf (fun x hx => hl x (by simp [hx])) (fun x hx => hm x (by simp [hx])) h.2]
@[simp] theorem ue_Msg' {α : Type} (f : α → Msg) : uMsg ∘ (eMsg ∘ f) = f := rfl
theorem told_kd {e : Ev} (h : okEv e = true) : (toldM e).kd = if e.m = true then 2 else 1 := by unfold toldM; split <;> simp_all
theorem newE_0 {n : Int} {l : List Ev} (h : newE n l = 0) : 0 ≤ n ∧ n < 4 ∧ l.length ≤ 60 ∧ allL okEv l = true := by
  unfold newE at h; grind
theorem newT_0 {n : Int} {l : List Ev} (h : newE n l = 0) : newT n l = ⟨1, n, 0, [], [], [], l, [], []⟩ := by unfold newT; rw [if_pos h]
theorem src_ok {n : Int} {l : List Ev} (h : newE n l = 0) (i : Nat) : okT ⟨1, n, 0, [], [], [], l.drop i, [], []⟩ = true := by
  obtain ⟨h1, h2, h3, h4⟩ := newE_0 h
  have h5 := allL_drop i h4
  unfold okT okNum okSiz
  simp [h1, h2, h5, limL, limM, stE]
  omega
theorem src_ask {n : Int} {l : List Ev} (h : newE n l = 0) (i : Nat) : askS ⟨1, n, 0, [], [], [], l.drop i, [], []⟩ = 0 := by
  unfold askS; rw [src_ok h i]; rfl
theorem src_sent {n : Int} {l : List Ev} (h : newE n l = 0) (i : Nat) : sentL ⟨1, n, 0, [], [], [], l.drop i, [], []⟩ = (l.drop i).map toldM := by
  unfold sentL; rw [src_ask h i]; rfl
theorem src_step {n : Int} {l : List Ev} (h : newE n l = 0) {i : Nat} (hi : i < l.length) : stepE ⟨1, n, 0, [], [], [], l.drop i, [], []⟩ = 0 ∧ stpT ⟨1, n, 0, [], [], [], l.drop i, [], []⟩ = ⟨1, n, 0, [⟨0, toldM l[i]⟩], [], [], l.drop (i + 1), [], []⟩ := by
  have h0 : stepE ⟨1, n, 0, [], [], [], l.drop i, [], []⟩ = 0 := by
    unfold stepE; rw [src_ask h i]; simp; omega
  refine ⟨h0, ?_⟩
  unfold stpT sent1
  rw [if_pos h0]
  have : (l.drop i).getD 0 default = l[i] := by simp [hi]
  simp only [this]
  rw [List.drop_drop]
theorem src_end {n : Int} {l : List Ev} (h : newE n l = 0) : stepE ⟨1, n, 0, [], [], [], [], [], []⟩ = 6 ∧ sentL ⟨1, n, 0, [], [], [], [], [], []⟩ = [] ∧ askS ⟨1, n, 0, [], [], [], [], [], []⟩ = 0 := by
  have e : l.drop l.length = [] := List.drop_eq_nil_of_le (by omega)
  have h1 := src_ask h l.length
  have h2 := src_sent h l.length
  rw [e] at h1 h2
  exact ⟨by unfold stepE; rw [h1]; rfl, h2, h1⟩
@[simp] def S15 : Spec
  | [.int .i64 n, .sl _ cl] => some ((cl.all kEv = true ∧ cl.length ≤ 9223372036854775807), .bool true, [])
  | _ => none
set_option maxHeartbeats 8000000 in
set_option maxRecDepth 100000 in
theorem S15_ok : SOK 15 S15 := by
  intro xs q r bs h hq
  unfold S15 at h
  split at h <;> cases h
  rename_i n exl cl
  have hq1 := hq
  refine FS_wk ?_
  simp only [List.map_cons, List.map_nil, wk2, wk1]
  obtain ⟨l, rfl⟩ := rows_ex (fun c hc => kEv_ok hc) hq1.1
  have hll := hq1.2
  simp only [List.length_map] at hll
  try simp only [List.map_map, ue_Rec, ue_Ev, ue_Row, ue_Msg, ue_Snd, ue_Ent, ue_Int, ue_Que, List.map_id] at *
  refine fs_of_awp mixed (sg_ok (gc_ok S34_ok (gc_ok S21_ok (gc_ok S23_ok (gc_ok S53_ok (gc_ok S56_ok (gc_ok S31_ok (gc_ok S35_ok noS_ok)))))))) Try.func15 rfl (ent_of Try.func15 rfl rfl) [] (by rw [Try.ntmps15]; exact Nat.le_of_ble_eq_true rfl) (by simp) (by simp) (by simp) true ?_
  rw [Try.ntmps15, Try.results15]
  have hll := hll
  by_cases g1 : 60 < (l.length : Int)
  · simp [g1, hll]
  have hl5 : l.length ≤ 100000 := by omega
  by_cases e0 : newE n l = 0
  rotate_left
  · have eT : newT n l = zT := by unfold newT; rw [if_neg e0]
    simp [g1, hll, hl5, e0, eT, zT]
  obtain ⟨k1, k2, k3, k4⟩ := newE_0 e0
  simp [g1, hll, hl5, e0, newT_0 e0]
  refine awp_loop (fun σ => ∃ i : Nat, i ≤ l.length ∧ σ.T 1 = .sl false (l.map eEv) ∧ σ.T 5 = .bool true ∧ σ.T 6 = .ptr (6, 0) 1 0 ∧ (∃ b, σ.H (6, 0) = some (.var [.int .u8 1, .int .i64 n, .int .i64 0, .sl b [], .sl false [], .sl false [], .sl false ((l.drop i).map eEv), .sl false [], .sl false []])) ∧ σ.γ (6, 0) = 1 ∧ σ.T 8 = .int .i64 i) (fun σ => l.length - (ival (σ.T 8)).toNat) ⟨0, by simp⟩ ?_
  rintro σ ⟨i, hi, h1, h5, h6, ⟨b, hH6⟩, hg6, h8⟩ J hJ
  by_cases hlt : i < l.length
  · have hw : IntKind.i64.wrap ((i : Int) + 1) = (i : Int) + 1 := wrap_i64 _ (by omega) (by omega)
    have hw2 : IntKind.i64.wrap ((l.length : Int) - 1) = (l.length : Int) - 1 := wrap_i64 _ (by omega) (by omega)
    have hw3 : IntKind.i64.wrap ((l.length : Int) - 1 - i) = (l.length : Int) - 1 - i := wrap_i64 _ (by omega) (by omega)
    have hei := allL_get hlt k4
    obtain ⟨s1, s2⟩ := src_step e0 hlt
    have hdl : l.length - i ≤ 100000 := by omega
    have hc : ((l.length - (i + 1) : Nat) : Int) = (l.length : Int) - 1 - i := by omega
    simp [h1, h5, h6, hH6, hg6, h8, hlt, getD_map, getQ_map, hw, hw2, hw3, hei, s1, s2, hdl, hc]
    refine ⟨⟨by rw [← List.map_drop]; exact imm_map _ _ (fun x => rfl), fun x hx => ?_⟩, ?_⟩
    · obtain ⟨y, _, rfl⟩ := List.mem_map.1 (List.mem_of_mem_drop hx)
      rfl
    · exact hJ _ ⟨i + 1, hlt, by simp [h1], by simp [h5], by simp [h6], ⟨true, by simp⟩, by simp [hg6], by simp⟩ (by simp [h8]; omega)
  · have hdl : l.drop i = [] := List.drop_eq_nil_of_le (by omega)
    obtain ⟨s1, s2, s3⟩ := src_end e0
    rw [hdl] at hH6
    simp [h1, h5, h6, hH6, hg6, h8, hlt, s1, s2, s3]
@[simp] def S5 : Spec
  | [.int .i64 n, .sl _ cl, .sl _ cm] => some ((cl.all kEv = true ∧ cl.length ≤ 9223372036854775807) ∧ (cm.all kEv = true ∧ cm.length ≤ 9223372036854775807), .bool true, [])
  | _ => none
set_option maxHeartbeats 8000000 in
set_option maxRecDepth 100000 in
theorem S5_ok : SOK 5 S5 := by
  intro xs q r bs h hq
  unfold S5 at h
  split at h <;> cases h
  rename_i n exl cl exm cm
  obtain ⟨hq1, hq2⟩ := hq
  refine FS_wk ?_
  simp only [List.map_cons, List.map_nil, wk2, wk1]
  obtain ⟨l, rfl⟩ := rows_ex (fun c hc => kEv_ok hc) hq1.1
  have hll := hq1.2
  simp only [List.length_map] at hll
  obtain ⟨m, rfl⟩ := rows_ex (fun c hc => kEv_ok hc) hq2.1
  have hlm := hq2.2
  simp only [List.length_map] at hlm
  try simp only [List.map_map, ue_Rec, ue_Ev, ue_Row, ue_Msg, ue_Snd, ue_Ent, ue_Int, ue_Que, List.map_id] at *
  refine fs_of_awp mixed (sg_ok (gc_ok S34_ok (gc_ok S21_ok (gc_ok S35_ok (gc_ok S36_ok (gc_ok S37_ok noS_ok)))))) Try.func5 rfl (ent_of Try.func5 rfl rfl) [] (by rw [Try.ntmps5]; exact Nat.le_of_ble_eq_true rfl) (by simp) (by simp) (by simp) true ?_
  rw [Try.ntmps5, Try.results5]
  have hll := hll
  have hlm := hlm
  by_cases g1 : 60 < (l.length : Int)
  · simp [g1, hll, hlm]
  by_cases g2 : 60 < (m.length : Int)
  · simp [g1, g2, hll, hlm]
  have hl5 : l.length ≤ 100000 := by omega
  have hm5 : m.length ≤ 100000 := by omega
  by_cases e0 : newE n l = 0
  rotate_left
  · simp [g1, g2, hll, hlm, hl5, hm5, e0]
  by_cases e1 : newE n m = 0
  rotate_left
  · simp [g1, g2, hll, hlm, hl5, hm5, e0, e1]
  have a1 := src_ask e0 0
  have a2 := src_ask e1 0
  have s1 := src_sent e0 0
  have s2 := src_sent e1 0
  rw [List.drop_zero] at a1 a2 s1 s2
  obtain ⟨k1, k2, k3, k4⟩ := newE_0 e0
  obtain ⟨j1, j2, j3, j4⟩ := newE_0 e1
  have hinj : decide (l.map toldM = m.map toldM) = decide (l = m) := by
    rw [decide_eq_decide]
    refine ⟨fun h => map_inj (p := fun e => okEv e = true) (fun a b ha hb h => told_inj ha hb h) ?_ ?_ h, fun h => by rw [h]⟩
    · unfold allL at k4; rw [List.all_eq_true] at k4; exact k4
    · unfold allL at j4; rw [List.all_eq_true] at j4; exact j4
  simp [g1, g2, hll, hlm, hl5, hm5, e0, e1, newT_0 e0, newT_0 e1, a1, a2, s1, s2]
  refine awp_loop (fun σ => ∃ i : Nat, i ≤ l.length ∧ σ.T 1 = .sl false (l.map eEv) ∧ σ.T 2 = .sl false (m.map eEv) ∧ σ.T 7 = .bool true ∧ σ.T 12 = .sl false ((l.map toldM).map eMsg) ∧ σ.T 13 = .int .i64 0 ∧ σ.T 14 = .sl false ((m.map toldM).map eMsg) ∧ σ.T 15 = .int .i64 0 ∧ σ.T 17 = .int .i64 i ∧ ∃ b : Bool, σ.T 16 = .bool b ∧ (b = true → l.length = m.length ∧ l.take i = m.take i) ∧ (b = false → l ≠ m)) (fun σ => l.length - (ival (σ.T 17)).toNat) ⟨0, by simp; exact ⟨fun h => by omega, fun h h2 => h (by rw [h2])⟩⟩ ?_
  rintro σ ⟨i, hi, h1, h2, h7, h12, h13, h14, h15, h17, b, h16, hb1, hb2⟩ J hJ
  by_cases hgo : i < l.length ∧ b = true
  · obtain ⟨hlt, hbt⟩ := hgo
    obtain ⟨hlen, htk⟩ := hb1 hbt
    subst hbt
    have hlt' : i < m.length := by omega
    have hw : IntKind.i64.wrap ((i : Int) + 1) = (i : Int) + 1 := wrap_i64 _ (by omega) (by omega)
    simp [h1, h2, h7, h12, h13, h14, h15, h16, h17, hlt, hlt', getD_map, getQ_map, hw]
    refine ⟨by rfl, hJ _ ⟨i + 1, hlt, by simp [h1], by simp [h2], by simp [h7], by simp [h12], by simp [h13], by simp [h14], by simp [h15], by simp, _, by simp; rfl, ?_, ?_⟩ (by simp [h17]; omega)⟩
    · intro h
      refine ⟨hlen, take_step hlt hlt' htk ?_⟩
      simp at h
      apply Ev_eq <;> simp [h]
    · intro h hlm2
      subst hlm2
      simp at h
  · have hb : b = decide (l = m) := by
      cases b with
      | false => symm; simpa using hb2 rfl
      | true =>
        obtain ⟨hlen, htk⟩ := hb1 rfl
        have : ¬ i < l.length := fun h => hgo ⟨h, rfl⟩
        symm; simpa using take_all this hlen htk
    by_cases hlt : i < l.length
    · have hbf : b = false := by
        cases b with
        | false => rfl
        | true => exact absurd ⟨hlt, rfl⟩ hgo
      subst hbf
      have hne : ¬ l = m := by simpa using hb.symm
      rw [decide_eq_false hne] at hinj
      have hne2 : ¬ l.map toldM = m.map toldM := by simpa using hinj
      simp [h1, h2, h7, h12, h13, h14, h15, h16, h17, hlt, hne2]
      refine ⟨by omega, ?_⟩
      refine awp_loop (fun σ => ∃ j : Nat, j ≤ l.length ∧ σ.T 1 = .sl false (l.map eEv) ∧ σ.T 2 = .sl false (m.map eEv) ∧ σ.T 7 = .bool true ∧ σ.T 12 = .sl false ((l.map toldM).map eMsg) ∧ σ.T 13 = .int .i64 0 ∧ σ.T 14 = .sl false ((m.map toldM).map eMsg) ∧ σ.T 15 = .int .i64 0 ∧ σ.T 18 = .int .i64 j) (fun σ => l.length - (ival (σ.T 18)).toNat) ⟨0, by simp [h1, h2, h7, h12, h13, h14, h15]⟩ ?_
      clear h1 h2 h7 h12 h13 h14 h15 h17 h16
      rintro σ ⟨j, hj, h1, h2, h7, h12, h13, h14, h15, h18⟩ J2 hJ2
      by_cases hjl : j < l.length
      · have hw : IntKind.i64.wrap ((j : Int) + 1) = (j : Int) + 1 := wrap_i64 _ (by omega) (by omega)
        have hej := allL_get hjl k4
        have hk := told_kd hej
        have hok := okEv_told hej
        by_cases hmk : l[j].m = true
        · have hkd : (toldM l[j]).kd = 2 := by rw [hk, if_pos hmk]
          simp [h1, h2, h7, h12, h13, h14, h15, h18, hjl, getD_map, getQ_map, hw, hok, hmk, eq_true hkd]
          exact ⟨by rfl, hJ2 _ ⟨j + 1, hjl, by simp [h1], by simp [h2], by simp [h7], by simp [h12], by simp [h13], by simp [h14], by simp [h15], by simp⟩ (by simp [h18]; omega)⟩
        · have hkd : ¬ (toldM l[j]).kd = 2 := by rw [hk, if_neg hmk]; decide
          simp [h1, h2, h7, h12, h13, h14, h15, h18, hjl, getD_map, getQ_map, hw, hok, hmk, hkd]
          exact ⟨by rfl, hJ2 _ ⟨j + 1, hjl, by simp [h1], by simp [h2], by simp [h7], by simp [h12], by simp [h13], by simp [h14], by simp [h15], by simp⟩ (by simp [h18]; omega)⟩
      · simp [h1, h2, h7, h12, h13, h14, h15, h18, hjl]
    · by_cases hlm3 : l = m
      · rw [decide_eq_true hlm3] at hb
        subst hb
        subst hlm3
        simp [h1, h2, h7, h12, h13, h14, h15, h16, h17, hlt]
        refine ⟨by omega, ?_⟩
        refine awp_loop (fun σ => ∃ j : Nat, j ≤ l.length ∧ σ.T 1 = .sl false (l.map eEv) ∧ σ.T 2 = .sl false (l.map eEv) ∧ σ.T 7 = .bool true ∧ σ.T 12 = .sl false ((l.map toldM).map eMsg) ∧ σ.T 13 = .int .i64 0 ∧ σ.T 14 = .sl false ((l.map toldM).map eMsg) ∧ σ.T 15 = .int .i64 0 ∧ σ.T 18 = .int .i64 j) (fun σ => l.length - (ival (σ.T 18)).toNat) ⟨0, by simp [h1, h2, h7, h12, h13, h14, h15]⟩ ?_
        clear h1 h2 h7 h12 h13 h14 h15 h17 h16
        rintro σ ⟨j, hj, h1, h2, h7, h12, h13, h14, h15, h18⟩ J2 hJ2
        by_cases hjl : j < l.length
        · have hw : IntKind.i64.wrap ((j : Int) + 1) = (j : Int) + 1 := wrap_i64 _ (by omega) (by omega)
          have hej := allL_get hjl k4
          have hk := told_kd hej
          have hok := okEv_told hej
          by_cases hmk : l[j].m = true
          · have hkd : (toldM l[j]).kd = 2 := by rw [hk, if_pos hmk]
            simp [h1, h2, h7, h12, h13, h14, h15, h18, hjl, getD_map, getQ_map, hw, hok, hmk, eq_true hkd]
            exact ⟨by rfl, hJ2 _ ⟨j + 1, hjl, by simp [h1], by simp [h2], by simp [h7], by simp [h12], by simp [h13], by simp [h14], by simp [h15], by simp⟩ (by simp [h18]; omega)⟩
          · have hkd : ¬ (toldM l[j]).kd = 2 := by rw [hk, if_neg hmk]; decide
            simp [h1, h2, h7, h12, h13, h14, h15, h18, hjl, getD_map, getQ_map, hw, hok, hmk, hkd]
            exact ⟨by rfl, hJ2 _ ⟨j + 1, hjl, by simp [h1], by simp [h2], by simp [h7], by simp [h12], by simp [h13], by simp [h14], by simp [h15], by simp⟩ (by simp [h18]; omega)⟩
        · simp [h1, h2, h7, h12, h13, h14, h15, h18, hjl]
      · rw [decide_eq_false hlm3] at hb
        subst hb
        rw [decide_eq_false hlm3] at hinj
        have hne2 : ¬ l.map toldM = m.map toldM := by simpa using hinj
        simp [h1, h2, h7, h12, h13, h14, h15, h16, h17, hlt, hne2]
        refine ⟨by omega, ?_⟩
        refine awp_loop (fun σ => ∃ j : Nat, j ≤ l.length ∧ σ.T 1 = .sl false (l.map eEv) ∧ σ.T 2 = .sl false (m.map eEv) ∧ σ.T 7 = .bool true ∧ σ.T 12 = .sl false ((l.map toldM).map eMsg) ∧ σ.T 13 = .int .i64 0 ∧ σ.T 14 = .sl false ((m.map toldM).map eMsg) ∧ σ.T 15 = .int .i64 0 ∧ σ.T 18 = .int .i64 j) (fun σ => l.length - (ival (σ.T 18)).toNat) ⟨0, by simp [h1, h2, h7, h12, h13, h14, h15]⟩ ?_
        clear h1 h2 h7 h12 h13 h14 h15 h17 h16
        rintro σ ⟨j, hj, h1, h2, h7, h12, h13, h14, h15, h18⟩ J2 hJ2
        by_cases hjl : j < l.length
        · have hw : IntKind.i64.wrap ((j : Int) + 1) = (j : Int) + 1 := wrap_i64 _ (by omega) (by omega)
          have hej := allL_get hjl k4
          have hk := told_kd hej
          have hok := okEv_told hej
          by_cases hmk : l[j].m = true
          · have hkd : (toldM l[j]).kd = 2 := by rw [hk, if_pos hmk]
            simp [h1, h2, h7, h12, h13, h14, h15, h18, hjl, getD_map, getQ_map, hw, hok, hmk, eq_true hkd]
            exact ⟨by rfl, hJ2 _ ⟨j + 1, hjl, by simp [h1], by simp [h2], by simp [h7], by simp [h12], by simp [h13], by simp [h14], by simp [h15], by simp⟩ (by simp [h18]; omega)⟩
          · have hkd : ¬ (toldM l[j]).kd = 2 := by rw [hk, if_neg hmk]; decide
            simp [h1, h2, h7, h12, h13, h14, h15, h18, hjl, getD_map, getQ_map, hw, hok, hmk, hkd]
            exact ⟨by rfl, hJ2 _ ⟨j + 1, hjl, by simp [h1], by simp [h2], by simp [h7], by simp [h12], by simp [h13], by simp [h14], by simp [h15], by simp⟩ (by simp [h18]; omega)⟩
        · simp [h1, h2, h7, h12, h13, h14, h15, h18, hjl]

end Go.Proofs.Ytedhhjmjlpnlpaa.VW
