/- PartOneWay. -/
import Derived.Test.YtedhhjmjlpnlpaaXG
namespace Go.Proofs.Ytedhhjmjlpnlpaa.VW
open Go Go.RowKit
set_option linter.unusedVariables false
set_option linter.unusedSimpArgs false

theorem newP_0 : newP 0 = ⟨3, 0, 0, [], [], [], [], [], []⟩ := by decide
theorem okT_0 : okT ⟨3, 0, 0, [], [], [], [], [], []⟩ = true := by decide
theorem take_0 {m : Msg} {p : Int} (hp : ofE p = 0) (hc : (okMsg m && (m.kd == 1 || m.kd == 2)) = true) : takeT ⟨3, 0, 0, [], [], [], [], [], []⟩ m p = ⟨3, 0, 0, takeL m p, [], [], [], [], []⟩ ∧ takeE ⟨3, 0, 0, [], [], [], [], [], []⟩ m p = 0 := by
  have : okTk ⟨3, 0, 0, [], [], [], [], [], []⟩ m p = 0 := by unfold okTk; rw [okT_0]; grind
  exact takeT_0 this
theorem take_8 {m : Msg} {p : Int} (hp : ofE p = 0) (hc : (okMsg m && (m.kd == 1 || m.kd == 2)) = false) : takeT ⟨3, 0, 0, [], [], [], [], [], []⟩ m p = zT ∧ takeE ⟨3, 0, 0, [], [], [], [], [], []⟩ m p = 8 := by
  have : okTk ⟨3, 0, 0, [], [], [], [], [], []⟩ m p = 8 := by unfold okTk; rw [okT_0]; grind
  unfold takeT takeE; rw [this]; simp
@[simp] def S11 : Spec
  | [.sl _ cl, .int .i64 p] => some ((cl.all kMsg = true ∧ cl.length ≤ 9223372036854775807), .bool true, [])
  | _ => none
set_option maxHeartbeats 8000000 in
set_option maxRecDepth 100000 in
theorem S11_ok : SOK 11 S11 := by
  intro xs q r bs h hq
  unfold S11 at h
  split at h <;> cases h
  rename_i exl cl p
  have hq1 := hq
  refine FS_wk ?_
  simp only [List.map_cons, List.map_nil, wk2, wk1]
  obtain ⟨l, rfl⟩ := rows_ex (fun c hc => kMsg_ok hc) hq1.1
  have hll := hq1.2
  simp only [List.length_map] at hll
  try simp only [List.map_map, ue_Rec, ue_Ev, ue_Row, ue_Msg, ue_Snd, ue_Ent, ue_Int, ue_Que, List.map_id] at *
  refine fs_of_awp mixed (sg_ok (gc_ok S43_ok (gc_ok S47_ok (gc_ok S49_ok (gc_ok S52_ok (gc_ok S44_ok (gc_ok S31_ok (gc_ok S23_ok noS_ok)))))))) Try.func11 rfl (ent_of Try.func11 rfl rfl) [] (by rw [Try.ntmps11]; exact Nat.le_of_ble_eq_true rfl) (by simp) (by simp) (by simp) true ?_
  rw [Try.ntmps11, Try.results11]
  have hll := hll
  by_cases g1 : 60 < (l.length : Int)
  · simp [g1, hll]
  by_cases g2 : p < 1
  · simp [g1, hll, g2]
  by_cases g3 : 3 < p
  · simp [g1, hll, g2, g3]
  have hp : ofE p = 0 := by unfold ofE; rw [if_neg (by omega)]
  simp [g1, hll, g2, g3, newP_0, newPE]
  refine awp_loop (fun σ => ∃ i : Nat, i ≤ l.length ∧ σ.T 0 = .sl false (l.map eMsg) ∧ σ.T 1 = .int .i64 p ∧ σ.T 5 = .bool true ∧ σ.T 6 = .ptr (6, 0) 1 0 ∧ σ.H (6, 0) = some (.var (eTsk ⟨3, 0, 0, [], [], [], [], [], []⟩)) ∧ σ.γ (6, 0) = 1 ∧ σ.T 8 = .int .i64 i) (fun σ => l.length - (ival (σ.T 8)).toNat) ⟨0, by simp⟩ ?_
  rintro σ ⟨i, hi, h0, h1, h5, h6, hH6, hg6, h8⟩ J hJ
  simp only [eTsk, List.map_nil] at hH6
  by_cases hlt : i < l.length
  · have hw : IntKind.i64.wrap ((i : Int) + 1) = (i : Int) + 1 := wrap_i64 _ (by omega) (by omega)
    by_cases hc : (okMsg l[i] && (l[i].kd == 1 || l[i].kd == 2)) = true
    · obtain ⟨hT, hE⟩ := take_0 hp hc
      have hc2 := hc
      simp only [Bool.and_eq_true, Bool.or_eq_true, beq_iff_eq] at hc2
      by_cases hk : l[i].kd = 1
      · have htl : takeL l[i] p = [⟨ofV l[i].r.k p, l[i]⟩] := by simp [takeL, hk, toL]
        simp [h0, h1, h5, h6, hH6, hg6, h8, hlt, getD_map, getQ_map, hw, hT, hE, eq_true hk, htl, hp]
        exact ⟨by rfl, by rfl, hJ _ ⟨i + 1, hlt, by simp [h0], by simp [h1], by simp [h5], by simp [h6], by simp [hH6], by simp [hg6], by simp⟩ (by simp [h8]; omega)⟩
      · have hk2 : l[i].kd = 2 := by rcases hc2.2 with h | h; exact absurd h hk; exact h
        have htl : takeL l[i] p = toL l[i] (allP p) := by simp [takeL, hk]
        have hlen : (toL l[i] (allP p)).length = p.toNat := by simp [toL, allP]
        have hlp : ((p.toNat : Nat) : Int) = p := by omega
        simp [h0, h1, h5, h6, hH6, hg6, h8, hlt, getD_map, getQ_map, hw, hT, hE, hk, htl, hp, hlen, hlp]
        refine ⟨by rfl, ?_⟩
        have hm : (ival (σ.T 8)).toNat = i := by simp [h8]
        refine awp_loop (fun σ => ∃ j : Nat, (j : Int) ≤ p ∧ σ.T 0 = .sl false (l.map eMsg) ∧ σ.T 1 = .int .i64 p ∧ σ.T 5 = .bool true ∧ σ.T 6 = .ptr (6, 0) 1 0 ∧ σ.H (6, 0) = some (.var (eTsk ⟨3, 0, 0, [], [], [], [], [], []⟩)) ∧ σ.γ (6, 0) = 1 ∧ σ.T 8 = .int .i64 i ∧ σ.T 9 = .ptr (9, 0) (σ.γ (9, 0)) 0 ∧ σ.H (9, 0) = some (.var [.int .u8 3, .int .i64 0, .int .i64 0, .sl false ((toL l[i] (allP p)).map eSnd), .sl false [], .sl false [], .sl false [], .sl false [], .sl false []]) ∧ σ.T 13 = .int .i64 j) (fun σ => p.toNat - (ival (σ.T 13)).toNat) ⟨0, by simp [h0, h1, h5, h6, hH6, hg6, h8]; omega⟩ ?_
        clear h0 h1 h5 h6 hH6 hg6 h8
        rintro σ ⟨j, hj, h0, h1, h5, h6, hH6, hg6, h8, h9, hH9, h13⟩ J2 hJ2
        simp only [eTsk, List.map_nil] at hH6
        by_cases hjp : (j : Int) < p
        · have hw2 : IntKind.i64.wrap ((j : Int) + 1) = (j : Int) + 1 := wrap_i64 _ (by omega) (by omega)
          have hjl : j < (toL l[i] (allP p)).length := by omega
          have hget : (toL l[i] (allP p))[j] = ⟨(j : Int), l[i]⟩ := by simp [toL, allP]
          simp [h0, h1, h5, h6, hH6, hg6, h8, h9, hH9, h13, hlt, hjp, hjl, getD_map, getQ_map, hw2, hget, hlen, hlp]
          exact ⟨by rfl, hJ2 _ ⟨j + 1, by omega, by simp [h0], by simp [h1], by simp [h5], by simp [h6], by simp [hH6], by simp [hg6], by simp [h8], by simp [h9], by simp [hH9], by simp⟩ (by simp [h13]; omega)⟩
        · simp [h0, h1, h5, h6, hH6, hg6, h8, h9, hH9, h13, hlt, hjp, hw]
          exact hJ _ ⟨i + 1, hlt, by simp [h0], by simp [h1], by simp [h5], by simp [h6], by simp [hH6], by simp [hg6], by simp⟩ (by simp [h8]; omega)
    · simp only [Bool.not_eq_true] at hc
      obtain ⟨hT, hE⟩ := take_8 hp hc
      simp [h0, h1, h5, h6, hH6, hg6, h8, hlt, getD_map, getQ_map, hw, hT, hE, hc]
      exact ⟨by rfl, hJ _ ⟨i + 1, hlt, by simp [h0], by simp [h1], by simp [h5], by simp [h6], by simp [hH6], by simp [hg6], by simp⟩ (by simp [h8]; omega)⟩
  · simp [h0, h1, h5, h6, hH6, hg6, h8, hlt]

end Go.Proofs.Ytedhhjmjlpnlpaa.VW
