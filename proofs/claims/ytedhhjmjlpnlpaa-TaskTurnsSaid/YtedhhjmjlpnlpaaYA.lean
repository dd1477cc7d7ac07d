/- TaskTurns. -/
import Derived.Test.YtedhhjmjlpnlpaaYA0
namespace Go.Proofs.Ytedhhjmjlpnlpaa.VW
open Go Go.RowKit
set_option linter.unusedVariables false
set_option linter.unusedSimpArgs false
@[simp] def S18 : Spec
  | [.agg ct, .sl _ ca] => some ((kTsk ct = true) ∧ (ca.all kQue = true ∧ ca.length ≤ 9223372036854775807) ∧ (bL (uTsk ct) ∧ bB (ca.map uQue)), .bool true, [])
  | _ => none
set_option maxHeartbeats 8000000 in
set_option maxRecDepth 100000 in
theorem S18_ok : SOK 18 S18 := by
  intro xs q r bs h hq
  unfold S18 at h
  split at h <;> cases h
  rename_i ct exa ca
  obtain ⟨hq1, hq2, hq3⟩ := hq
  refine FS_wk ?_
  simp only [List.map_cons, List.map_nil, wk2, wk1]
  rw [kTsk_wk hq1]
  generalize uTsk ct = t at *
  obtain ⟨a, rfl⟩ := rows_ex (fun c hc => kQue_ok hc) hq2.1
  have hla := hq2.2
  simp only [List.length_map] at hla
  try simp only [List.map_map, ue_Rec, ue_Ev, ue_Row, ue_Msg, ue_Snd, ue_Ent, ue_Int, ue_Que, List.map_id] at *
  refine fs_of_awp mixed (sg_ok (gc_ok S24_ok (gc_ok S25_ok (gc_ok S26_ok (gc_ok S27_ok (gc_ok S30_ok (gc_ok S23_ok (gc_ok S60_ok noS_ok)))))))) Try.func18 rfl (ent_of Try.func18 rfl rfl) [] (by rw [Try.ntmps18]; exact Nat.le_of_ble_eq_true rfl) (by simp) (by simp) (by simp) true ?_
  rw [Try.ntmps18, Try.results18]
  obtain ⟨⟨y1, y2, y3, y4, y5, y6⟩, ya⟩ := hq3
  by_cases hg : grT t = true
  · simp [y1, y2, y3, y4, y5, y6, hg]
    all_goals ((repeat' first | refine And.intro ?_ ?_ | intro _) <;> first | assumption | omega | (apply ha; assumption) | (apply ya; assumption) | with_reducible rfl | (refine (?_ : chkD _ _ = true); rfl))
  simp only [Bool.not_eq_true] at hg
  by_cases hga : grA a = true
  · simp [y1, y2, y3, y4, y5, y6, hg, hga]
    all_goals ((repeat' first | refine And.intro ?_ ?_ | intro _) <;> first | assumption | omega | (apply ha; assumption) | (apply ya; assumption) | with_reducible rfl | (refine (?_ : chkD _ _ = true); rfl))
  simp only [Bool.not_eq_true] at hga
  have hb0 := (grT_b hg).1
  obtain ⟨hal, ha⟩ := grA_b hga
  have hal' : a.length ≤ 9223372036854775807 := by omega
  simp only [bT] at hb0
  by_cases hok : okT t = true
  rotate_left
  · simp [y1, y2, y3, y4, y5, y6, hg, hga, hb0, hal', hok]
    all_goals ((repeat' first | refine And.intro ?_ ?_ | intro _) <;> first | assumption | omega | (apply ha; assumption) | (apply ya; assumption) | with_reducible rfl | (refine (?_ : chkD _ _ = true); rfl))
  by_cases hp : 0 < t.pd.length
  · have hne0 : ¬ t.pd = [] := by intro h; rw [h] at hp; simp at hp
    simp [y1, y2, y3, y4, y5, y6, hg, hga, hb0, hal', hok, hne0]
    all_goals ((repeat' first | refine And.intro ?_ ?_ | intro _) <;> first | assumption | omega | (apply ha; assumption) | (apply ya; assumption) | with_reducible rfl | (refine (?_ : chkD _ _ = true); rfl))
  have hpd : t.pd = [] := List.eq_nil_of_length_eq_zero (by omega)
  have htn := okT_tn hok
  rw [awp_assoc, awp_assoc, awp_assoc, awp_assoc, awp_assoc]
  refine awp_cut (fun σ => σ.T 1 = .sl false (a.map eQue) ∧ σ.T 5 = .bool true ∧ σ.T 6 = .own (40, 0) (σ.γ (40, 0)) ∧ ∃ cm : List Bool, σ.H (40, 0) = some (.rows 1 (cm.map eB)) ∧ cm.length = a.length ∧ (askE t a [] = 0 → cm = bits a)) (fun J hJ => ?_) ?_
  · simp [y1, y2, y3, y4, y5, y6, hg, hga, hb0, hal', hok, eq_true hpd]
    repeat ((with_reducible refine And.intro ?_ ?_); (· ((repeat' first | refine And.intro ?_ ?_ | intro _) <;> first | assumption | omega | (apply ha; assumption) | (apply ya; assumption) | with_reducible rfl | (refine (?_ : chkD _ _ = true); rfl))))
    refine awp_loop (fun σ => ∃ (i : Nat) (x : Int) (cm : List Bool), i ≤ a.length ∧ 0 ≤ x ∧ x < 20 ∧ cm.length = a.length ∧ (askE t a [] = 0 → simB (bits a) (a.length - i) (stQ x a) cm = bits a) ∧ σ.T 1 = .sl false (a.map eQue) ∧ σ.T 5 = .bool true ∧ σ.T 6 = .own (40, 0) (σ.γ (40, 0)) ∧ σ.H (40, 0) = some (.rows 1 (cm.map eB)) ∧ σ.T 2 = .ptr (2, 0) 1 0 ∧ σ.H (2, 0) = some (.var (eTsk t)) ∧ σ.γ (2, 0) = 1 ∧ σ.T 7 = .ptr (7, 0) 1 0 ∧ σ.H (7, 0) = some (.var (eTsk { t with tn := x })) ∧ σ.γ (7, 0) = 1 ∧ σ.T 8 = .int .i64 i) (fun σ => a.length - (ival (σ.T 8)).toNat) ⟨0, t.tn, List.replicate a.length false, by omega, htn.1, htn.2, by simp, ?_, by simp⟩ ?_
    · intro h0
      have hl4 := (askE_0 h0).2.1
      have := sim_all (bits a) (stQ t.tn a) (by rw [bits_len]; omega) (by rw [bits_len]; exact stQ_lt _ _)
      rw [bits_len] at this
      exact this
    rintro σ ⟨i, x, cm, hi, hx0, hx1, hcl, hsim, h1, h5, h6, hH40, h2, hH2, hg2, h7, hH7, hg7, h8⟩ L hL
    simp only [eTsk] at hH2 hH7
    by_cases hlt : i < a.length
    rotate_left
    · simp (maxSteps := 1000000) [h1, h5, h6, hH40, h2, hH2, hg2, h7, hH7, hg7, h8, hlt]
      refine hJ _ ⟨by simp [h1], by simp [h5], by simp [h6], cm, by simp [hH40], hcl, fun h0 => ?_⟩
      have := hsim h0
      rw [show a.length - i = 0 by omega] at this
      exact this
    have hw : IntKind.i64.wrap ((i : Int) + 1) = (i : Int) + 1 := wrap_i64 _ (by omega) (by omega)
    by_cases h0 : askE t a [] = 0
    rotate_left
    · have hE : ¬ turnE { t with tn := x } a = 0 := by
        unfold turnE; rw [askE_tn hok hx0 hx1, if_pos h0]; exact h0
      simp (maxSteps := 1000000) [h1, h5, h6, hH40, h2, hH2, hg2, h7, hH7, hg7, h8, hlt, hb0, hE]
      repeat ((with_reducible refine And.intro ?_ ?_); (· ((repeat' first | refine And.intro ?_ ?_ | intro _) <;> first | assumption | omega | (apply ha; assumption) | (apply ya; assumption) | with_reducible rfl | (refine (?_ : chkD _ _ = true); rfl))))
      exact hJ _ ⟨by simp [h1], by simp [h5], by simp [h6], cm, by simp [hH40], hcl, fun h => absurd h h0⟩
    have hs0 := hsim h0
    rw [show a.length - i = (a.length - (i + 1)) + 1 by omega, simB] at hs0
    rcases turn_one hok hx0 hx1 hpd h0 with ⟨hn, hE⟩ | ⟨k, hn, hk, hk2, hE, hK, hT⟩
    · rw [hn] at hs0
      simp only at hs0
      simp (maxSteps := 1000000) [h1, h5, h6, hH40, h2, hH2, hg2, h7, hH7, hg7, h8, hlt, hb0, hE]
      repeat ((with_reducible refine And.intro ?_ ?_); (· ((repeat' first | refine And.intro ?_ ?_ | intro _) <;> first | assumption | omega | (apply ha; assumption) | (apply ya; assumption) | with_reducible rfl | (refine (?_ : chkD _ _ = true); rfl))))
      exact hJ _ ⟨by simp [h1], by simp [h5], by simp [h6], cm, by simp [hH40], hcl, fun _ => hs0⟩
    · rw [hn] at hs0
      simp only at hs0
      rw [bits_len] at hs0
      have hl4 := (askE_0 h0).2.1
      have hkm : (k + 1) % a.length < a.length := Nat.mod_lt _ (by omega)
      have hm := tmod_nat (k + 1) a.length
      rw [Int.natCast_add, Int.natCast_one] at hm
      generalize (k + 1) % a.length = x' at *
      have hw2 : IntKind.i64.wrap ((k : Int) + 1) = (k : Int) + 1 := wrap_i64 _ (by omega) (by omega)
      have hkI : ¬ (a.length : Int) ≤ k := by omega
      have hkc : k < cm.length := by omega
      have hne : ¬ a = [] := by intro h; rw [h] at hlt; simp at hlt
      have hak : ¬ a[k].l = [] := by intro h; rw [h] at hk2; simp at hk2
      have hqk := ha a[k] (List.getElem_mem hk)
      have hset : (cm.map eB).set k [.bool true] = (cm.set k true).map eB := by rw [List.map_set]; rfl
      simp (maxSteps := 1000000) [h1, h5, h6, hH40, h2, hH2, hg2, h7, hH7, hg7, h8, hlt, hb0, hE, hK, hT, hw, hw2, hkI, hk, hkc, hne, hak, hm, hqk, getD_map, getQ_map]
      repeat ((with_reducible refine And.intro ?_ ?_); (· ((repeat' first | refine And.intro ?_ ?_ | intro _) <;> first | assumption | omega | (apply ha; assumption) | (apply ya; assumption) | with_reducible rfl | (refine (?_ : chkD _ _ = true); rfl))))
      refine hL _ ⟨i + 1, x', cm.set k true, by omega, by omega, by omega, by simp [hcl], fun _ => ?_, by simp [h1], by simp [h5], by simp [h6], ?_, by simp [h2], by simp [hH2], by simp [hg2], by simp [h7], by simp [hH7], by simp [hg7], by simp⟩ (by simp [h8]; omega)
      · rw [stQ_nat hkm]; exact hs0
      · simp
  · rintro σ ⟨h1, h5, h6, cm, hH40, hcl, hcm⟩
    simp [h1, h5, h6]
    refine awp_loop (fun σ => ∃ j : Nat, j ≤ a.length ∧ σ.T 1 = .sl false (a.map eQue) ∧ σ.T 5 = .bool true ∧ σ.T 6 = .own (40, 0) (σ.γ (40, 0)) ∧ σ.H (40, 0) = some (.rows 1 (cm.map eB)) ∧ σ.T 13 = .int .i64 j ∧ σ.T 12 = .bool (decide ((a.length : Int) ≤ 4) && allL okQ (a.take j))) (fun σ => a.length - (ival (σ.T 13)).toNat) ⟨0, by simp [h1, h5, h6, hH40]⟩ ?_
    clear h1 h5 h6 hH40
    rintro σ ⟨j, hj, h1, h5, h6, hH40, h13, h12⟩ L hL
    by_cases hlt : j < a.length
    · have hw : IntKind.i64.wrap ((j : Int) + 1) = (j : Int) + 1 := wrap_i64 _ (by omega) (by omega)
      have hqj := ha a[j] (List.getElem_mem hlt)
      have hs := allL_succ (p := okQ) hlt
      cases hb : (decide ((a.length : Int) ≤ 4) && allL okQ (a.take j)) with
      | false =>
        have hs2 : (decide ((a.length : Int) ≤ 4) && allL okQ (a.take (j + 1))) = false := by rw [hs, ← Bool.and_assoc, hb, Bool.false_and]
        rw [hb] at h12
        simp [h1, h5, h6, hH40, h13, h12, hlt, hw]
        exact hL _ ⟨j + 1, hlt, by simp [h1], by simp [h5], by simp [h6], by simp [hH40], by simp, by rw [hs2]; simp⟩ (by simp [h13]; omega)
      | true =>
        have hs2 : (decide ((a.length : Int) ≤ 4) && allL okQ (a.take (j + 1))) = okQ a[j] := by rw [hs, ← Bool.and_assoc, hb, Bool.true_and]
        rw [hb] at h12
        by_cases hq : okQ a[j] = true
        · rw [hq] at hs2
          simp [h1, h5, h6, hH40, h13, h12, hlt, hw, getD_map, getQ_map, hqj, hq]
          exact hL _ ⟨j + 1, hlt, by simp [h1], by simp [h5], by simp [h6], by simp [hH40], by simp, by rw [hs2]; simp⟩ (by simp [h13]; omega)
        · simp only [Bool.not_eq_true] at hq
          rw [hq] at hs2
          simp [h1, h5, h6, hH40, h13, h12, hlt, hw, getD_map, getQ_map, hqj, hq]
          exact hL _ ⟨j + 1, hlt, by simp [h1], by simp [h5], by simp [h6], by simp [hH40], by simp, by rw [hs2]; simp⟩ (by simp [h13]; omega)
    have hta : a.take j = a := List.take_of_length_le (by omega)
    rw [hta] at h12
    have hR : (decide ((a.length : Int) ≤ 4) && allL okQ a) = true → cm = bits a := by
      intro h
      simp only [Bool.and_eq_true, decide_eq_true_eq] at h
      refine hcm ?_
      unfold askE
      rw [if_pos hok, if_neg (by simp; omega), List.append_nil, if_pos h.2]
    generalize (decide ((a.length : Int) ≤ 4) && allL okQ a) = R at *
    simp [h1, h5, h6, hH40, h13, h12, hlt]
    refine awp_loop (fun σ => ∃ j : Nat, j ≤ a.length ∧ σ.T 1 = .sl false (a.map eQue) ∧ σ.T 5 = .bool true ∧ σ.T 6 = .own (40, 0) (σ.γ (40, 0)) ∧ σ.H (40, 0) = some (.rows 1 (cm.map eB)) ∧ σ.T 14 = .int .i64 j ∧ σ.T 12 = .bool R) (fun σ => a.length - (ival (σ.T 14)).toNat) ⟨0, by simp [h1, h5, h6, hH40, h12]⟩ ?_
    clear h1 h5 h6 hH40 h13 h12 hlt hL hj hta
    rintro σ ⟨j, hj, h1, h5, h6, hH40, h14, h12⟩ L hL
    by_cases hlt : j < a.length
    · have hw : IntKind.i64.wrap ((j : Int) + 1) = (j : Int) + 1 := wrap_i64 _ (by omega) (by omega)
      have hqj := ha a[j] (List.getElem_mem hlt)
      have hjc : j < cm.length := by omega
      cases R with
      | false =>
        simp (maxSteps := 1000000) [h1, h5, h6, hH40, h14, h12, hlt, hw, getD_map, getQ_map, hqj, hjc]
        exact ⟨by rfl, hL _ ⟨j + 1, hlt, by simp [h1], by simp [h5], by simp [h6], by simp [hH40], by simp, by simp [h12]⟩ (by simp [h14]; omega)⟩
      | true =>
        have hcb := hR rfl
        have hgj : cm[j] = decide (0 < a[j].l.length) := by simp only [hcb]; simp [bits]
        by_cases hz : a[j].l = []
        · have hgj' : cm[j] = false := by rw [hgj, hz]; rfl
          simp [h1, h5, h6, hH40, h14, h12, hlt, hw, getD_map, getQ_map, hqj, hjc, hgj', hz]
          exact ⟨by rfl, hL _ ⟨j + 1, hlt, by simp [h1], by simp [h5], by simp [h6], by simp [hH40], by simp, by simp [h12]⟩ (by simp [h14]; omega)⟩
        · have hpos : 0 < a[j].l.length := List.length_pos_iff.2 hz
          have hgj' : cm[j] = true := by rw [hgj]; simpa using hpos
          have hposI : (0 : Int) < a[j].l.length := by omega
          simp [h1, h5, h6, hH40, h14, h12, hlt, hw, getD_map, getQ_map, hqj, hjc, hgj', hz, hpos, hposI]
          exact ⟨by rfl, hL _ ⟨j + 1, hlt, by simp [h1], by simp [h5], by simp [h6], by simp [hH40], by simp, by simp [h12]⟩ (by simp [h14]; omega)⟩
    · simp [h1, h5, h6, hH40, h14, h12, hlt]

end Go.Proofs.Ytedhhjmjlpnlpaa.VW
