/- Parts. -/
import Derived.Test.YtedhhjmjlpnlpaaX9
namespace Go.Proofs.Ytedhhjmjlpnlpaa.VW
open Go Go.RowKit
set_option linter.unusedVariables false
set_option linter.unusedSimpArgs false

def ofE (p : Int) : Int := if p < 1 ∨ 3 < p then 2 else 0
def ofV (k p : Int) : Int := if ofE p = 0 then (k.tmod p + p).tmod p else 0
theorem ofV_r {k p : Int} (h : ofE p = 0) : 0 ≤ ofV k p ∧ ofV k p < p := by
  have hp : 1 ≤ p ∧ p ≤ 3 := by unfold ofE at h; grind
  have h1 := Int.lt_tmod_of_pos k (show 0 < p by omega)
  have h2 := Int.tmod_lt_of_pos k (show 0 < p by omega)
  unfold ofV; rw [if_pos h]
  exact ⟨Int.tmod_nonneg _ (by omega), Int.tmod_lt_of_pos _ (by omega)⟩
def toL (m : Msg) (l : List Int) : List Snd := l.map fun o => ⟨o, m⟩
@[simp] def S44 : Spec
  | [.int .i64 k, .int .i64 p] => some (True, .tup [.int .i64 (ofV k p), .int .i64 (ofE p)], [])
  | _ => none
set_option maxRecDepth 100000 in
theorem S44_ok : SOK 44 S44 := by
  intro xs q r bs h hq
  unfold S44 at h
  split at h <;> cases h
  rename_i k p
  refine FS_wk ?_
  simp only [List.map_cons, List.map_nil, wk2, wk1]
  refine fs_of_awp mixed (sg_ok noS_ok) Try.func44 rfl (ent_of Try.func44 rfl rfl) [] (by rw [Try.ntmps44]; exact Nat.le_of_ble_eq_true rfl) (by simp) (by simp) (by simp) true ?_
  rw [Try.ntmps44, Try.results44]
  by_cases h : p < 1 ∨ 3 < p
  · simp [ofV, ofE, h]
    grind
  · have hp : 1 ≤ p ∧ p ≤ 3 := by omega
    have h1 := Int.lt_tmod_of_pos k (show 0 < p by omega)
    have h2 := Int.tmod_lt_of_pos k (show 0 < p by omega)
    have hw : IntKind.i64.wrap (k.tmod p + p) = k.tmod p + p := wrap_i64 _ (by omega) (by omega)
    have g1 : ¬ p < 1 := by omega
    have g2 : ¬ 3 < p := by omega
    have g3 : p ≠ 0 := by omega
    simp [ofV, ofE, h, hw, g1, g2, g3, hp.1, hp.2]
    try grind
@[simp] def S93 : Spec
  | [.agg cm, .sl _ cl] => some ((kMsg cm = true) ∧ (cl.all kInt = true ∧ cl.length ≤ 9223372036854775807) ∧ (((cl.map uInt)).length ≤ 100000), .sl false ((toL (uMsg cm) (cl.map uInt)).map eSnd), [])
  | _ => none
set_option maxHeartbeats 1000000 in
set_option maxRecDepth 100000 in
theorem S93_ok : SOK 93 S93 := by
  intro xs q r bs h hq
  unfold S93 at h
  split at h <;> cases h
  rename_i cm exl cl
  obtain ⟨hq1, hq2, hq3⟩ := hq
  refine FS_wk ?_
  simp only [List.map_cons, List.map_nil, wk2, wk1]
  rw [kMsg_wk hq1]
  generalize uMsg cm = m at *
  obtain ⟨l, rfl⟩ := rows_ex (fun c hc => kInt_ok hc) hq2.1
  have hll := hq2.2
  simp only [List.length_map] at hll
  try simp only [List.map_map, ue_Rec, ue_Ev, ue_Row, ue_Msg, ue_Snd, ue_Ent, ue_Int, ue_Que, List.map_id] at *
  refine fs_of_awp mixed (sg_ok noS_ok) Try.func93 rfl (ent_of Try.func93 rfl rfl) [] (by rw [Try.ntmps93]; exact Nat.le_of_ble_eq_true rfl) (by simp) (by simp) (by simp) true ?_
  rw [Try.ntmps93, Try.results93]
  simp
  refine awp_loop (fun σ => ∃ i : Nat, i ≤ l.length ∧ σ.T 2 = .ptr (2, 0) 1 0 ∧ σ.H (2, 0) = some (.var (eMsg m)) ∧ σ.γ (2, 0) = 1 ∧ σ.T 8 = .sl false (l.map eInt) ∧ σ.T 9 = .int .i64 l.length ∧ σ.T 10 = .int .i64 i ∧ ((i = 0 ∧ σ.T 5 = .sl true []) ∨ (0 < i ∧ σ.T 5 = .own (19, 0) (σ.γ (19, 0)) ∧ σ.H (19, 0) = some (.rows 11 ((toL m (l.take i)).map eSnd))))) (fun σ => l.length - (ival (σ.T 10)).toNat) ⟨0, by simp⟩ ?_
  rintro σ ⟨i, hi, h2, hH, hg, h8, h9, h10, hp⟩ J hJ
  by_cases hlt : i < l.length
  · have hw : IntKind.i64.wrap ((i : Int) + 1) = (i : Int) + 1 := wrap_i64 _ (by omega) (by omega)
    rcases hp with ⟨h0, h5⟩ | ⟨h0, h5, hH2⟩
    · simp [h2, hH, hg, h8, h9, h10, h5, hlt, getD_map, getQ_map, hw]
      have hz : l.take (i + 1) = [l[i]] := by subst h0; rw [List.take_succ_eq_append_getElem hlt]; rfl
      exact hJ _ ⟨i + 1, hlt, by simp [h2], by simp [hH], by simp [hg], by simp [h8], by simp [h9], by simp, .inr ⟨by omega, by simp, by simp [hz, toL]⟩⟩ (by simp [h10]; omega)
    · simp [h2, hH, hg, h8, h9, h10, h5, hH2, hlt, getD_map, getQ_map, hw]
      have hz : toL m (l.take (i + 1)) = toL m (l.take i) ++ [⟨l[i], m⟩] := by unfold toL; rw [List.take_succ_eq_append_getElem hlt, List.map_append]; rfl
      have hlen : (toL m (l.take i)).length = i := by simp [toL]; omega
      refine ⟨⟨by rw [hlen]; omega, by rw [hlen]; omega⟩, ?_⟩
      exact hJ _ ⟨i + 1, hlt, by simp [h2], by simp [hH], by simp [hg], by simp [h8], by simp [h9], by simp, .inr ⟨by omega, by simp, by simp [hz]⟩⟩ (by simp [h10]; omega)
  · rcases hp with ⟨h0, h5⟩ | ⟨h0, h5, hH2⟩
    · simp [h2, hH, hg, h8, h9, h10, h5, hlt]
      have : l = [] := List.eq_nil_of_length_eq_zero (by omega)
      simp [this, toL]
    · simp [h2, hH, hg, h8, h9, h10, h5, hH2, hlt]
      rw [List.take_of_length_le (by omega)]

def allP (p : Int) : List Int := (List.range p.toNat).map fun i : Nat => (i : Int)
def okTk (t : Tsk) (m : Msg) (p : Int) : Int := if okT t then (if t.kd ≠ 3 ∨ ofE p ≠ 0 then 2 else if okMsg m = false ∨ (m.kd ≠ 1 ∧ m.kd ≠ 2) then 8 else if 0 < (t.pd.length : Int) then 18 else 0) else 8
def takeL (m : Msg) (p : Int) : List Snd := if m.kd = 1 then toL m [ofV m.r.k p] else toL m (allP p)
def takeT (t : Tsk) (m : Msg) (p : Int) : Tsk := if okTk t m p = 0 then pendT t (takeL m p) else zT
def takeE (t : Tsk) (m : Msg) (p : Int) : Int := if okTk t m p = 0 then sndE t (takeL m p) else okTk t m p
@[simp] def S91 : Spec
  | [] => some (True, .agg (eTsk ⟨3, 0, 0, [], [], [], [], [], []⟩), [])
  | _ => none
set_option maxRecDepth 100000 in
theorem S91_ok : SOK 91 S91 := by
  intro xs q r bs h hq
  unfold S91 at h
  split at h <;> cases h
  refine FS_wk ?_
  simp only [List.map_cons, List.map_nil, wk2, wk1]
  refine fs_of_awp mixed (sg_ok noS_ok) Try.func91 rfl (ent_of Try.func91 rfl rfl) [] (by rw [Try.ntmps91]; exact Nat.le_of_ble_eq_true rfl) (by simp) (by simp) (by simp) true ?_
  rw [Try.ntmps91, Try.results91]
  simp
@[simp] def S51 : Spec
  | [.int .i64 k, .int .i64 p, .int .i64 w] => some (True, .bool (ofE p == 0 && ofV k p == w), [])
  | _ => none
set_option maxRecDepth 100000 in
theorem S51_ok : SOK 51 S51 := by
  intro xs q r bs h hq
  unfold S51 at h
  split at h <;> cases h
  rename_i k p w
  refine FS_wk ?_
  simp only [List.map_cons, List.map_nil, wk2, wk1]
  refine fs_of_awp mixed (sg_ok (gc_ok S44_ok noS_ok)) Try.func51 rfl (ent_of Try.func51 rfl rfl) [] (by rw [Try.ntmps51]; exact Nat.le_of_ble_eq_true rfl) (by simp) (by simp) (by simp) true ?_
  rw [Try.ntmps51, Try.results51]
  by_cases h : ofE p = 0 <;> simp [h] <;> try grind

theorem allP_succ (i : Nat) : ((List.range (i + 1)).map fun i : Nat => (i : Int)) = ((List.range i).map fun i : Nat => (i : Int)) ++ [(i : Int)] := by
  rw [List.range_succ, List.map_append]; rfl
@[simp] def S49 : Spec
  | [.agg ct, .agg cm, .int .i64 p] => some ((kTsk ct = true) ∧ (kMsg cm = true) ∧ (bT (uTsk ct)), .tup [.agg (eTsk (takeT (uTsk ct) (uMsg cm) p)), .int .i64 (takeE (uTsk ct) (uMsg cm) p)], [])
  | _ => none
set_option maxHeartbeats 8000000 in
set_option maxRecDepth 100000 in
theorem S49_ok : SOK 49 S49 := by
  intro xs q r bs h hq
  unfold S49 at h
  split at h <;> cases h
  rename_i ct cm p
  obtain ⟨hq1, hq2, hq3⟩ := hq
  refine FS_wk ?_
  simp only [List.map_cons, List.map_nil, wk2, wk1]
  rw [kTsk_wk hq1]
  generalize uTsk ct = t at *
  rw [kMsg_wk hq2]
  generalize uMsg cm = m at *
  refine fs_of_awp mixed (sg_ok (gc_ok S59_ok (gc_ok S44_ok (gc_ok S83_ok (gc_ok S93_ok (gc_ok S41_ok noS_ok)))))) Try.func49 rfl (ent_of Try.func49 rfl rfl) [] (by rw [Try.ntmps49]; exact Nat.le_of_ble_eq_true rfl) (by simp) (by simp) (by simp) true ?_
  rw [Try.ntmps49, Try.results49]
  obtain ⟨x1, x2, x3, x4, x5, x6⟩ := hq3
  by_cases c1 : okT t = true
  rotate_left
  · have e : okTk t m p = 8 := by simp [okTk, c1]
    simp [x1, x2, x3, x4, x5, x6, takeT, takeE, e, zT, c1]
  by_cases c2 : t.kd = 3
  rotate_left
  · have e : okTk t m p = 2 := by simp [okTk, c1, c2]
    simp [x1, x2, x3, x4, x5, x6, takeT, takeE, e, zT, c1, c2]
  by_cases c3 : ofE p = 0
  rotate_left
  · have e : okTk t m p = 2 := by simp [okTk, c1, eq_true c2, c3]
    simp [x1, x2, x3, x4, x5, x6, takeT, takeE, e, zT, c1, eq_true c2, c3]
  by_cases c4 : okMsg m = true
  rotate_left
  · have e : okTk t m p = 8 := by simp [okTk, c1, eq_true c2, c3, c4]
    simp [x1, x2, x3, x4, x5, x6, takeT, takeE, e, zT, c1, eq_true c2, c3, c4]
  by_cases c5 : m.kd = 1 ∨ m.kd = 2
  rotate_left
  · have c5' : m.kd ≠ 1 ∧ m.kd ≠ 2 := by omega
    have e : okTk t m p = 8 := by simp [okTk, c1, eq_true c2, c3, c4, c5']
    simp [x1, x2, x3, x4, x5, x6, takeT, takeE, e, zT, c1, eq_true c2, c3, c4, c5']
  by_cases c6 : t.pd = []
  rotate_left
  · have c6' : 0 < t.pd.length := List.length_pos_iff.2 c6
    have e : okTk t m p = 18 := by simp [okTk, c1, eq_true c2, c3, c4, c6]; omega
    simp [x1, x2, x3, x4, x5, x6, takeT, takeE, e, zT, c1, eq_true c2, c3, c4, c6, c6']
    omega
  have c6l : ¬ 0 < t.pd.length := by rw [c6]; simp
  have e : okTk t m p = 0 := by
    unfold okTk
    rw [if_pos c1, if_neg (by simp [c2, c3]), if_neg (by simp [c4]; omega), if_neg (by omega)]
  by_cases c7 : m.kd = 1
  · simp [x1, x2, x3, x4, x5, x6, takeT, takeE, takeL, e, c1, eq_true c2, c3, c4, eq_true c6, c6l, eq_true c7]
    exact ⟨by simp [toL], by rfl⟩
  have c8 : m.kd = 2 := by omega
  have hp : 1 ≤ p ∧ p ≤ 3 := by unfold ofE at c3; grind
  simp [x1, x2, x3, x4, x5, x6, takeT, takeE, takeL, e, c1, eq_true c2, c3, c4, eq_true c6, c6l, c7, eq_true c8]
  refine awp_loop (fun σ => ∃ i : Nat, (i : Int) ≤ p ∧ σ.T 3 = .ptr (3, 0) 1 0 ∧ σ.T 4 = .ptr (4, 0) 1 0 ∧ σ.T 6 = .ptr (6, 0) 1 0 ∧ σ.H (3, 0) = some (.var (eTsk t)) ∧ σ.H (4, 0) = some (.var (eMsg m)) ∧ σ.H (6, 0) = some (.var z31) ∧ σ.γ (3, 0) = 1 ∧ σ.γ (4, 0) = 1 ∧ σ.γ (6, 0) = 1 ∧ σ.T 70 = .int .i64 p ∧ σ.T 71 = .int .i64 i ∧ ((i = 0 ∧ σ.T 11 = .sl true []) ∨ (0 < i ∧ σ.T 11 = .own (77, 0) (σ.γ (77, 0)) ∧ σ.H (77, 0) = some (.rows 1 (((List.range i).map fun i : Nat => (i : Int)).map eInt))))) (fun σ => p.toNat - (ival (σ.T 71)).toNat) ⟨0, by simp; omega⟩ ?_
  rintro σ ⟨i, hi, h3, h4, h6, hH3, hH4, hH6, hg3, hg4, hg6, h70, h71, hb⟩ J hJ
  by_cases hlt : (i : Int) < p
  · have hw : IntKind.i64.wrap ((i : Int) + 1) = (i : Int) + 1 := wrap_i64 _ (by omega) (by omega)
    rcases hb with ⟨h0, h11⟩ | ⟨h0, h11, hH11⟩
    · simp [h3, h4, h6, hH3, hH4, hH6, hg3, hg4, hg6, h70, h71, h11, hlt, hw]
      exact hJ _ ⟨i + 1, by omega, by simp [h3], by simp [h4], by simp [h6], by simp [hH3], by simp [hH4], by simp [hH6], by simp [hg3], by simp [hg4], by simp [hg6], by simp [h70], by simp, .inr ⟨by omega, by simp, by subst h0; simp [List.range_succ]⟩⟩ (by simp [h71]; omega)
    · simp [h3, h4, h6, hH3, hH4, hH6, hg3, hg4, hg6, h70, h71, h11, hH11, hlt, hw]
      refine ⟨⟨by omega, by omega⟩, hJ _ ⟨i + 1, by omega, by simp [h3], by simp [h4], by simp [h6], by simp [hH3], by simp [hH4], by simp [hH6], by simp [hg3], by simp [hg4], by simp [hg6], by simp [h70], by simp, .inr ⟨by omega, by simp, by rw [allP_succ]; simp⟩⟩ (by simp [h71]; omega)⟩
  · rcases hb with ⟨h0, h11⟩ | ⟨h0, h11, hH11⟩
    · omega
    · have hip : p = i := by omega
      subst hip
      simp [h3, h4, h6, hH3, hH4, hH6, hg3, hg4, hg6, h70, h71, h11, hH11, allP]
      rw [show (uInt ∘ eInt ∘ fun i : Nat => (i : Int)) = fun i : Nat => (i : Int) from rfl]
      refine ⟨⟨by omega, by omega⟩, ⟨by simp [toL]; omega, ⟨x1, x2, x3, x4, x5, x6⟩, by simp [toL]; omega⟩, ?_⟩
      refine ⟨by rfl, ?_⟩
      simp

end Go.Proofs.Ytedhhjmjlpnlpaa.VW
