/- The reference of parts. -/
import Derived.Test.YtedhhjmjlpnlpaaXB
import Derived.Test.YtedhhjmjlpnlpaaX5
namespace Go.Proofs.Ytedhhjmjlpnlpaa.VW
open Go Go.RowKit
set_option linter.unusedVariables false
set_option linter.unusedSimpArgs false

attribute [simp] immR_append immL_append
def newPE (n : Int) : Int := if n < 0 ∨ 4 ≤ n then 2 else 0
def newP (n : Int) : Tsk := if newPE n = 0 then ⟨3, n, 0, [], [], [], [], [], []⟩ else zT
@[simp] def bL (t : Tsk) : Prop := t.pd.length ≤ 9223372036854775807 ∧ t.mx.length ≤ 9223372036854775807 ∧ t.st.length ≤ 9223372036854775807 ∧ t.ev.length ≤ 9223372036854775807 ∧ t.rw.length ≤ 9223372036854775807 ∧ t.lt.length ≤ 9223372036854775807
def gr1 (n : Nat) : Bool := (decide (100 < n) && decide (n < 3990)) || decide (4010 < n)
def grT (t : Tsk) : Bool := gr1 t.pd.length || gr1 t.rw.length || gr1 t.lt.length || decide (100 < t.st.length) || decide (100 < t.ev.length) || decide (20 < t.mx.length)
theorem grT_b {t : Tsk} (h : grT t = false) : bT t ∧ t.pd.length ≤ 4010 ∧ t.rw.length ≤ 4010 ∧ t.lt.length ≤ 4010 := by
  unfold grT gr1 at h
  simp only [Bool.or_eq_false_iff, Bool.and_eq_false_iff, decide_eq_false_iff_not] at h
  simp only [bT]
  omega
@[simp] def S47 : Spec
  | [.int .i64 n] => some (True, .tup [.agg (eTsk (newP n)), .int .i64 (newPE n)], [])
  | _ => none
set_option maxRecDepth 100000 in
theorem S47_ok : SOK 47 S47 := by
  intro xs q r bs h hq
  unfold S47 at h
  split at h <;> cases h
  rename_i n
  refine FS_wk ?_
  simp only [List.map_cons, List.map_nil, wk2, wk1]
  refine fs_of_awp mixed (sg_ok noS_ok) Try.func47 rfl (ent_of Try.func47 rfl rfl) [] (by rw [Try.ntmps47]; exact Nat.le_of_ble_eq_true rfl) (by simp) (by simp) (by simp) true ?_
  rw [Try.ntmps47, Try.results47]
  simp
  grind (splits := 40) [newP, newPE, zT]
@[simp] def S48 : Spec
  | [.int .i64 n] => some (True, .tup [.agg (eTsk (newP n)), .int .i64 (newPE n)], [])
  | _ => none
set_option maxRecDepth 100000 in
theorem S48_ok : SOK 48 S48 := by
  intro xs q r bs h hq
  unfold S48 at h
  split at h <;> cases h
  rename_i n
  refine FS_wk ?_
  simp only [List.map_cons, List.map_nil, wk2, wk1]
  refine fs_of_awp mixed (sg_ok noS_ok) Try.func48 rfl (ent_of Try.func48 rfl rfl) [] (by rw [Try.ntmps48]; exact Nat.le_of_ble_eq_true rfl) (by simp) (by simp) (by simp) true ?_
  rw [Try.ntmps48, Try.results48]
  simp
  grind (splits := 40) [newP, newPE, zT]
@[simp] def S92 : Spec
  | [.int .i64 k, .int .i64 p] => some ((1 ≤ p ∧ p ≤ 3), .int .i64 (ofV k p), [])
  | _ => none
set_option maxRecDepth 100000 in
theorem S92_ok : SOK 92 S92 := by
  intro xs q r bs h hq
  unfold S92 at h
  split at h <;> cases h
  rename_i k p
  have hq1 := hq
  refine FS_wk ?_
  simp only [List.map_cons, List.map_nil, wk2, wk1]
  refine fs_of_awp mixed (sg_ok noS_ok) Try.func92 rfl (ent_of Try.func92 rfl rfl) [] (by rw [Try.ntmps92]; exact Nat.le_of_ble_eq_true rfl) (by simp) (by simp) (by simp) true ?_
  rw [Try.ntmps92, Try.results92]
  have e : ofE p = 0 := by unfold ofE; rw [if_neg (by omega)]
  have t1 := Int.lt_tmod_of_pos k (show 0 < p by omega)
  have t2 := Int.tmod_lt_of_pos k (show 0 < p by omega)
  have m1 := @tmod_emod k p
  have r := ofV_emod (k := k) e
  have p0 : p ≠ 0 := by omega
  have hp : p = 1 ∨ p = 2 ∨ p = 3 := by omega
  by_cases h : k.tmod p < 0
  · have hw : IntKind.i64.wrap (k.tmod p + p) = k.tmod p + p := wrap_i64 _ (by omega) (by omega)
    simp [h, hw, p0]
    rw [r]
    rcases hp with rfl | rfl | rfl <;> omega
  · simp [h, p0]
    rw [r]
    rcases hp with rfl | rfl | rfl <;> omega
@[simp] def S46 : Spec
  | [.int .i64 k, .int .i64 p] => some (True, .tup [.int .i64 (ofV k p), .int .i64 (ofE p)], [])
  | _ => none
set_option maxRecDepth 100000 in
theorem S46_ok : SOK 46 S46 := by
  intro xs q r bs h hq
  unfold S46 at h
  split at h <;> cases h
  rename_i k p
  refine FS_wk ?_
  simp only [List.map_cons, List.map_nil, wk2, wk1]
  refine fs_of_awp mixed (sg_ok (gc_ok S92_ok noS_ok)) Try.func46 rfl (ent_of Try.func46 rfl rfl) [] (by rw [Try.ntmps46]; exact Nat.le_of_ble_eq_true rfl) (by simp) (by simp) (by simp) true ?_
  rw [Try.ntmps46, Try.results46]
  by_cases h : p < 1 ∨ 3 < p
  · have e : ofE p = 2 := by unfold ofE; rw [if_pos h]
    have v : ofV k p = 0 := by unfold ofV; rw [if_neg (by rw [e]; decide)]
    rw [e, v]
    rcases h with h | h
    · simp [h]
    · have h' : ¬ p < 1 := by omega
      simp [h, h']
  · have e : ofE p = 0 := by unfold ofE; rw [if_neg h]
    have h1 : ¬ p < 1 := by omega
    have h2 : ¬ 3 < p := by omega
    have h3 : 1 ≤ p := by omega
    have h4 : p ≤ 3 := by omega
    simp [e, h1, h2, h3, h4]
@[simp] def S52 : Spec
  | [.agg cm] => some ((kMsg cm = true), .bool (okMsg (uMsg cm) && (((uMsg cm)).kd == 1 || ((uMsg cm)).kd == 2)), [])
  | _ => none
set_option maxRecDepth 100000 in
theorem S52_ok : SOK 52 S52 := by
  intro xs q r bs h hq
  unfold S52 at h
  split at h <;> cases h
  rename_i cm
  have hq1 := hq
  refine FS_wk ?_
  simp only [List.map_cons, List.map_nil, wk2, wk1]
  rw [kMsg_wk hq1]
  generalize uMsg cm = m at *
  refine fs_of_awp mixed (sg_ok (gc_ok S37_ok noS_ok)) Try.func52 rfl (ent_of Try.func52 rfl rfl) [] (by rw [Try.ntmps52]; exact Nat.le_of_ble_eq_true rfl) (by simp) (by simp) (by simp) true ?_
  rw [Try.ntmps52, Try.results52]
  by_cases h : okMsg m = true <;> simp [h] <;> grind
@[simp] def S45 : Spec
  | [.agg ct] => some ((kTsk ct = true) ∧ (bT (uTsk ct)), .agg [.int .u8 ((uTsk ct)).kd, .int .i64 ((uTsk ct)).n, .int .i64 ((uTsk ct)).tn, .own (0, 0) 0, .sl false (((uTsk ct)).mx.map eInt), .sl false (((uTsk ct)).st.map eEnt), .sl false (((uTsk ct)).ev.map eEv), .sl false (((uTsk ct)).rw.map eRow), .sl false (((uTsk ct)).lt.map eRec)], [.rows 11 (((uTsk ct)).pd.map eSnd)])
  | _ => none
set_option maxHeartbeats 2000000 in
set_option maxRecDepth 100000 in
theorem S45_ok : SOK 45 S45 := by
  intro xs q r bs h hq
  unfold S45 at h
  split at h <;> cases h
  rename_i ct
  obtain ⟨hq1, hq2⟩ := hq
  refine FS_wk ?_
  simp only [List.map_cons, List.map_nil, wk2, wk1]
  rw [kTsk_wk hq1]
  generalize uTsk ct = t at *
  refine fs_of_awp mixed (sg_ok noS_ok) Try.func45 rfl (ent_of Try.func45 rfl rfl) [(6, 0)] (by rw [Try.ntmps45]; exact Nat.le_of_ble_eq_true rfl) (by simp) (by simp) (by simp) true ?_
  rw [Try.ntmps45, Try.results45]
  obtain ⟨x1, x2, x3, x4, x5, x6⟩ := hq2
  simp
  (repeat' first | refine And.intro ?_ ?_ | intro _) <;> first | omega | rfl

def tkB (m : Msg) (n : Int) (j : Nat) : Bool := m.kd == 2 || (j : Int) == ofV m.r.k n
def tkL (m : Msg) (n : Int) (i : Nat) : List Snd := ((List.range i).filter (tkB m n)).map fun j : Nat => ⟨(j : Int), m⟩
theorem tkL_succ (m : Msg) (n : Int) (i : Nat) : tkL m n (i + 1) = tkL m n i ++ if tkB m n i then [⟨(i : Int), m⟩] else [] := by
  unfold tkL
  rw [List.range_succ, List.filter_append, List.map_append]
  by_cases h : tkB m n i = true <;> simp [h]
theorem tkL_len (m : Msg) (n : Int) (i : Nat) : (tkL m n i).length ≤ i := by
  unfold tkL
  rw [List.length_map]
  have := List.length_filter_le (tkB m n) (List.range i)
  simpa using this
theorem tkL_all {m : Msg} {n : Int} (h1 : 1 ≤ n) (h3 : n ≤ 3) (hk : m.kd = 1 ∨ m.kd = 2) : tkL m n n.toNat = takeL m n := by
  have e : ofE n = 0 := by unfold ofE; rw [if_neg (by omega)]
  have r := @ofV_r m.r.k n e
  have hn : n = 1 ∨ n = 2 ∨ n = 3 := by omega
  unfold tkL takeL tkB toL allP
  rcases hk with hk | hk
  · have hv : ofV m.r.k n = 0 ∨ ofV m.r.k n = 1 ∨ ofV m.r.k n = 2 := by omega
    rcases hn with rfl | rfl | rfl <;> rcases hv with hv | hv | hv <;> first | omega | simp [hk, hv, List.range_succ]
  · rcases hn with rfl | rfl | rfl <;> simp [hk, List.range_succ]
@[simp] def oT (t : Tsk) (x : AV) : List AV := [.int .u8 t.kd, .int .i64 t.n, .int .i64 t.tn, x, .sl false (t.mx.map eInt), .sl false (t.st.map eEnt), .sl false (t.ev.map eEv), .sl false (t.rw.map eRow), .sl false (t.lt.map eRec)]
@[simp] def S94 : Spec
  | [.agg ct, .agg cm, .int .i64 n] => some ((kTsk ct = true) ∧ (kMsg cm = true) ∧ (bT (uTsk ct) ∧ 1 ≤ n ∧ n ≤ 3 ∧ (((uMsg cm)).kd = 1 ∨ ((uMsg cm)).kd = 2)), .agg (eTsk { (uTsk ct) with pd := ((uTsk ct)).pd ++ takeL (uMsg cm) n }), [])
  | _ => none
set_option maxHeartbeats 8000000 in
set_option maxRecDepth 100000 in
theorem S94_ok : SOK 94 S94 := by
  intro xs q r bs h hq
  unfold S94 at h
  split at h <;> cases h
  rename_i ct cm n
  obtain ⟨hq1, hq2, hq3⟩ := hq
  refine FS_wk ?_
  simp only [List.map_cons, List.map_nil, wk2, wk1]
  rw [kTsk_wk hq1]
  generalize uTsk ct = t at *
  rw [kMsg_wk hq2]
  generalize uMsg cm = m at *
  refine fs_of_awp mixed (sg_ok (gc_ok S45_ok (gc_ok S92_ok noS_ok))) Try.func94 rfl (ent_of Try.func94 rfl rfl) [] (by rw [Try.ntmps94]; exact Nat.le_of_ble_eq_true rfl) (by simp) (by simp) (by simp) true ?_
  rw [Try.ntmps94, Try.results94]
  have hq2 := hq2
  obtain ⟨⟨x1, x2, x3, x4, x5, x6⟩, n1, n3, hk⟩ := hq3
  simp [x1, x2, x3, x4, x5, x6]
  refine awp_loop (fun σ => ∃ i : Nat, (i : Int) ≤ n ∧ σ.T 2 = .int .i64 n ∧ σ.T 4 = .ptr (4, 0) 1 0 ∧ σ.H (4, 0) = some (.var (eMsg m)) ∧ σ.γ (4, 0) = 1 ∧ σ.T 6 = .ptr (6, 0) 1 0 ∧ σ.H (6, 0) = some (.var z31) ∧ σ.γ (6, 0) = 1 ∧ σ.T 7 = .ptr (7, 0) 1 0 ∧ σ.γ (7, 0) = 1 ∧ σ.T 8 = .int .i64 i ∧ ((σ.H (7, 0) = some (.var (oT t (.own (10, 1) (σ.γ (10, 1))))) ∧ σ.H (10, 1) = some (.rows 11 ((t.pd ++ tkL m n i).map eSnd))) ∨ (σ.H (7, 0) = some (.var (oT t (.own (34, 0) (σ.γ (34, 0))))) ∧ σ.H (34, 0) = some (.rows 11 ((t.pd ++ tkL m n i).map eSnd))))) (fun σ => n.toNat - (ival (σ.T 8)).toNat) ⟨0, by simp [tkL]; omega⟩ ?_
  rintro σ ⟨i, hi, h2, h4, hH4, hg4, h6, hH6, hg6, h7, hg7, h8, hp⟩ J hJ
  by_cases hlt : (i : Int) < n
  · have hw : IntKind.i64.wrap ((i : Int) + 1) = (i : Int) + 1 := wrap_i64 _ (by omega) (by omega)
    rcases hp with ⟨hH7, hHk⟩ | ⟨hH7, hHk⟩
    · by_cases hb : tkB m n i = true
      · have hlen : (tkL m n i).length ≤ i := tkL_len m n i
        have hs : tkL m n (i + 1) = tkL m n i ++ [⟨(i : Int), m⟩] := by rw [tkL_succ, if_pos hb]
        by_cases hk2 : m.kd = 2
        · simp [h2, h4, hH4, hg4, h6, hH6, hg6, h7, hg7, h8, hH7, hHk, hlt, hw, eq_true hk2]
          exact ⟨⟨by omega, by omega⟩, hJ _ ⟨i + 1, by omega, by simp [h2], by simp [h4], by simp [hH4], by simp [hg4], by simp [h6], by simp [hH6], by simp [hg6], by simp [h7], by simp [hg7], by simp, .inr ⟨by simp [hH7], by simp [hs]⟩⟩ (by simp [h8]; omega)⟩
        · have hv : (i : Int) = ofV m.r.k n := by unfold tkB at hb; simpa [hk2] using hb
          simp [h2, h4, hH4, hg4, h6, hH6, hg6, h7, hg7, h8, hH7, hHk, hlt, hw, hk2, ← hv]
          exact ⟨⟨by omega, by omega⟩, ⟨by omega, by omega⟩, hJ _ ⟨i + 1, by omega, by simp [h2], by simp [h4], by simp [hH4], by simp [hg4], by simp [h6], by simp [hH6], by simp [hg6], by simp [h7], by simp [hg7], by simp, .inr ⟨by simp [hH7], by simp [hs]⟩⟩ (by simp [h8]; omega)⟩
      · have hs : tkL m n (i + 1) = tkL m n i := by rw [tkL_succ, if_neg hb, List.append_nil]
        have hk2 : ¬ m.kd = 2 := by unfold tkB at hb; simp at hb; exact hb.1
        have hv : ¬ (i : Int) = ofV m.r.k n := by unfold tkB at hb; simp at hb; exact hb.2
        simp [h2, h4, hH4, hg4, h6, hH6, hg6, h7, hg7, h8, hH7, hHk, hlt, hw, hk2, hv]
        exact ⟨⟨by omega, by omega⟩, hJ _ ⟨i + 1, by omega, by simp [h2], by simp [h4], by simp [hH4], by simp [hg4], by simp [h6], by simp [hH6], by simp [hg6], by simp [h7], by simp [hg7], by simp, .inl ⟨by simp [hH7], by simp [hs, hHk]⟩⟩ (by simp [h8]; omega)⟩
    · by_cases hb : tkB m n i = true
      · have hlen : (tkL m n i).length ≤ i := tkL_len m n i
        have hs : tkL m n (i + 1) = tkL m n i ++ [⟨(i : Int), m⟩] := by rw [tkL_succ, if_pos hb]
        by_cases hk2 : m.kd = 2
        · simp [h2, h4, hH4, hg4, h6, hH6, hg6, h7, hg7, h8, hH7, hHk, hlt, hw, eq_true hk2]
          exact ⟨⟨by omega, by omega⟩, hJ _ ⟨i + 1, by omega, by simp [h2], by simp [h4], by simp [hH4], by simp [hg4], by simp [h6], by simp [hH6], by simp [hg6], by simp [h7], by simp [hg7], by simp, .inr ⟨by simp [hH7], by simp [hs]⟩⟩ (by simp [h8]; omega)⟩
        · have hv : (i : Int) = ofV m.r.k n := by unfold tkB at hb; simpa [hk2] using hb
          simp [h2, h4, hH4, hg4, h6, hH6, hg6, h7, hg7, h8, hH7, hHk, hlt, hw, hk2, ← hv]
          exact ⟨⟨by omega, by omega⟩, ⟨by omega, by omega⟩, hJ _ ⟨i + 1, by omega, by simp [h2], by simp [h4], by simp [hH4], by simp [hg4], by simp [h6], by simp [hH6], by simp [hg6], by simp [h7], by simp [hg7], by simp, .inr ⟨by simp [hH7], by simp [hs]⟩⟩ (by simp [h8]; omega)⟩
      · have hs : tkL m n (i + 1) = tkL m n i := by rw [tkL_succ, if_neg hb, List.append_nil]
        have hk2 : ¬ m.kd = 2 := by unfold tkB at hb; simp at hb; exact hb.1
        have hv : ¬ (i : Int) = ofV m.r.k n := by unfold tkB at hb; simp at hb; exact hb.2
        simp [h2, h4, hH4, hg4, h6, hH6, hg6, h7, hg7, h8, hH7, hHk, hlt, hw, hk2, hv]
        exact ⟨⟨by omega, by omega⟩, hJ _ ⟨i + 1, by omega, by simp [h2], by simp [h4], by simp [hH4], by simp [hg4], by simp [h6], by simp [hH6], by simp [hg6], by simp [h7], by simp [hg7], by simp, .inr ⟨by simp [hH7], by simp [hs, hHk]⟩⟩ (by simp [h8]; omega)⟩
  · have hin : n.toNat = i := by omega
    have ht := tkL_all n1 n3 hk
    rw [hin] at ht
    rcases hp with ⟨hH7, hHk⟩ | ⟨hH7, hHk⟩ <;> simp [h2, h4, hH4, hg4, h6, hH6, hg6, h7, hg7, h8, hH7, hHk, hlt, ht]

end Go.Proofs.Ytedhhjmjlpnlpaa.VW
