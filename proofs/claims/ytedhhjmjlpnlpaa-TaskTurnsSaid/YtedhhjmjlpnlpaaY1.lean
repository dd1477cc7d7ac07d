/- Queues, turns. -/
import Derived.Test.YtedhhjmjlpnlpaaXZ
import Derived.Test.YtedhhjmjlpnlpaaXF
namespace Go.Proofs.Ytedhhjmjlpnlpaa.VW
open Go Go.RowKit
set_option linter.unusedVariables false
set_option linter.unusedSimpArgs false

instance : Inhabited Que := ⟨⟨0, []⟩⟩
def grQ (q : Que) : Bool := decide (20 < q.l.length)
def grA (l : List Que) : Bool := !(decide (l.length ≤ 10) && allL (fun q => !grQ q) l)
@[simp] def bA (l : List Que) : Prop := ∀ q ∈ l, q.l.length ≤ 100000
def askE (t : Tsk) (a b : List Que) : Int := if okT t then (if 4 < a.length ∨ 3 < b.length then 4 else if allL okQ (a ++ b) then 0 else 8) else 8
def goQ (l : List Que) (s : Nat) : Nat → Nat → Int
  | 0, _ => -1
  | f + 1, i => if 0 < (l.getD ((s + i) % l.length) default).l.length then (((s + i) % l.length : Nat) : Int) else goQ l s f (i + 1)
def stQ (tn : Int) (l : List Que) : Nat := if (l.length : Int) ≤ tn then 0 else tn.toNat
def firstQ (tn : Int) (l : List Que) : Int := goQ l (stQ tn l) l.length 0
theorem tmod_nat (a b : Nat) : ((a : Int)).tmod (b : Int) = ((a % b : Nat) : Int) := by
  rw [Int.tmod_eq_emod_of_nonneg (by omega)]; rfl
@[simp] def S39 : Spec
  | [.int .i64 t] => some (True, .agg (eMsg ⟨2, ⟨0, 0, 0⟩, t, ⟨0, 0, 0, 0, 0⟩⟩), [])
  | _ => none
set_option maxRecDepth 100000 in
theorem S39_ok : SOK 39 S39 := by
  intro xs q r bs h hq
  unfold S39 at h
  split at h <;> cases h
  rename_i t
  refine FS_wk ?_
  simp only [List.map_cons, List.map_nil, wk2, wk1]
  refine fs_of_awp mixed (sg_ok noS_ok) Try.func39 rfl (ent_of Try.func39 rfl rfl) [] (by rw [Try.ntmps39]; exact Nat.le_of_ble_eq_true rfl) (by simp) (by simp) (by simp) true ?_
  rw [Try.ntmps39, Try.results39]
  simp
@[simp] def S40 : Spec
  | [.sl _ cl] => some ((cl.all kMsg = true ∧ cl.length ≤ 9223372036854775807), .agg (eQue ⟨2, (cl.map uMsg)⟩), [])
  | _ => none
set_option maxRecDepth 100000 in
theorem S40_ok : SOK 40 S40 := by
  intro xs q r bs h hq
  unfold S40 at h
  split at h <;> cases h
  rename_i exl cl
  have hq1 := hq
  refine FS_wk ?_
  simp only [List.map_cons, List.map_nil, wk2, wk1]
  obtain ⟨l, rfl⟩ := rows_ex (fun c hc => kMsg_ok hc) hq1.1
  have hll := hq1.2
  simp only [List.length_map] at hll
  try simp only [List.map_map, ue_Rec, ue_Ev, ue_Row, ue_Msg, ue_Snd, ue_Ent, ue_Int, ue_Que, List.map_id] at *
  refine fs_of_awp mixed (sg_ok noS_ok) Try.func40 rfl (ent_of Try.func40 rfl rfl) [] (by rw [Try.ntmps40]; exact Nat.le_of_ble_eq_true rfl) (by simp) (by simp) (by simp) true ?_
  rw [Try.ntmps40, Try.results40]
  simp
@[simp] def S38 : Spec
  | [.sl _ cl] => some ((cl.all kSnd = true ∧ cl.length ≤ 9223372036854775807), .agg (eTsk ⟨2, 0, 0, (cl.map uSnd), [-9223372036854775808], [], [], [], []⟩), [])
  | _ => none
set_option maxRecDepth 100000 in
theorem S38_ok : SOK 38 S38 := by
  intro xs q r bs h hq
  unfold S38 at h
  split at h <;> cases h
  rename_i exl cl
  have hq1 := hq
  refine FS_wk ?_
  simp only [List.map_cons, List.map_nil, wk2, wk1]
  obtain ⟨l, rfl⟩ := rows_ex (fun c hc => kSnd_ok hc) hq1.1
  have hll := hq1.2
  simp only [List.length_map] at hll
  try simp only [List.map_map, ue_Rec, ue_Ev, ue_Row, ue_Msg, ue_Snd, ue_Ent, ue_Int, ue_Que, List.map_id] at *
  refine fs_of_awp mixed (sg_ok noS_ok) Try.func38 rfl (ent_of Try.func38 rfl rfl) [] (by rw [Try.ntmps38]; exact Nat.le_of_ble_eq_true rfl) (by simp) (by simp) (by simp) true ?_
  rw [Try.ntmps38, Try.results38]
  simp
@[simp] def S71 : Spec
  | [.agg cq] => some ((kQue cq = true) ∧ (((uQue cq)).l.length ≤ 9223372036854775807), .bool (grQ (uQue cq)), [])
  | _ => none
set_option maxRecDepth 100000 in
theorem S71_ok : SOK 71 S71 := by
  intro xs q r bs h hq
  unfold S71 at h
  split at h <;> cases h
  rename_i cq
  obtain ⟨hq1, hq2⟩ := hq
  refine FS_wk ?_
  simp only [List.map_cons, List.map_nil, wk2, wk1]
  rw [kQue_wk hq1]
  generalize uQue cq = q at *
  refine fs_of_awp mixed (sg_ok noS_ok) Try.func71 rfl (ent_of Try.func71 rfl rfl) [] (by rw [Try.ntmps71]; exact Nat.le_of_ble_eq_true rfl) (by simp) (by simp) (by simp) true ?_
  rw [Try.ntmps71, Try.results71]
  simp [grQ] at *
  try omega
@[simp] def S60 : Spec
  | [.agg cq] => some ((kQue cq = true) ∧ (bQ (uQue cq)), .int .i64 (if okQ (uQue cq) then 0 else 8), [])
  | _ => none
set_option maxRecDepth 100000 in
theorem S60_ok : SOK 60 S60 := by
  intro xs q r bs h hq
  unfold S60 at h
  split at h <;> cases h
  rename_i cq
  obtain ⟨hq1, hq2⟩ := hq
  refine FS_wk ?_
  simp only [List.map_cons, List.map_nil, wk2, wk1]
  rw [kQue_wk hq1]
  generalize uQue cq = q at *
  refine fs_of_awp mixed (sg_ok (gc_ok S37_ok noS_ok)) Try.func60 rfl (ent_of Try.func60 rfl rfl) [] (by rw [Try.ntmps60]; exact Nat.le_of_ble_eq_true rfl) (by simp) (by simp) (by simp) true ?_
  rw [Try.ntmps60, Try.results60]
  have hb := hq2
  simp only [bQ] at hb
  simp
  refine ⟨by unfold okQ; grind, ?_⟩
  intro c1 c2 c3
  refine awp_loop (fun σ => ∃ i : Nat, i ≤ q.l.length ∧ σ.T 1 = .ptr (1, 0) 1 0 ∧ σ.H (1, 0) = some (.var (eQue q)) ∧ σ.γ (1, 0) = 1 ∧ σ.T 3 = .int .i64 i ∧ allL okMsg (q.l.take i) = true) (fun σ => q.l.length - (ival (σ.T 3)).toNat) ⟨0, by simp⟩ ?_
  rintro σ ⟨i, hi, h1, hH, hg, h3, hp⟩ J hJ
  simp only [eQue] at hH
  by_cases hlt : i < q.l.length
  · have hw : IntKind.i64.wrap ((i : Int) + 1) = (i : Int) + 1 := wrap_i64 _ (by omega) (by omega)
    by_cases hm : okMsg q.l[i] = true
    · simp [h1, hH, hg, h3, hlt, getD_map, getQ_map, hw, hm]
      exact hJ _ ⟨i + 1, hlt, by simp [h1], by simp [hH], by simp [hg], by simp, allL_step hlt hp hm⟩ (by simp [h3]; omega)
    · simp [h1, hH, hg, h3, hlt, getD_map, getQ_map, hw, hm]
      have hn := allL_no hlt (by simpa using hm)
      unfold okQ; grind
  · simp [h1, hH, hg, h3, hlt]
    have hall := allL_all hlt hp
    unfold okQ; grind
@[simp] def S26 : Spec
  | [.sl _ cl] => some ((cl.all kQue = true ∧ cl.length ≤ 9223372036854775807) ∧ (∀ q ∈ (cl.map uQue), q.l.length ≤ 9223372036854775807), .bool (grA (cl.map uQue)), [])
  | _ => none
set_option maxRecDepth 100000 in
theorem S26_ok : SOK 26 S26 := by
  intro xs q r bs h hq
  unfold S26 at h
  split at h <;> cases h
  rename_i exl cl
  obtain ⟨hq1, hq2⟩ := hq
  refine FS_wk ?_
  simp only [List.map_cons, List.map_nil, wk2, wk1]
  obtain ⟨l, rfl⟩ := rows_ex (fun c hc => kQue_ok hc) hq1.1
  have hll := hq1.2
  simp only [List.length_map] at hll
  try simp only [List.map_map, ue_Rec, ue_Ev, ue_Row, ue_Msg, ue_Snd, ue_Ent, ue_Int, ue_Que, List.map_id] at *
  refine fs_of_awp mixed (sg_ok (gc_ok S71_ok noS_ok)) Try.func26 rfl (ent_of Try.func26 rfl rfl) [] (by rw [Try.ntmps26]; exact Nat.le_of_ble_eq_true rfl) (by simp) (by simp) (by simp) true ?_
  rw [Try.ntmps26, Try.results26]
  simp
  refine awp_loop (fun σ => ∃ i : Nat, i ≤ l.length ∧ i ≤ 11 ∧ σ.T 0 = .sl false (l.map eQue) ∧ σ.T 3 = .int .i64 i ∧ allL (fun q => !grQ q) (l.take i) = true) (fun σ => l.length - (ival (σ.T 3)).toNat) ⟨0, by simp⟩ ?_
  rintro σ ⟨i, hi, hi2, h0, h3, hp⟩ J hJ
  by_cases hgo : i < l.length ∧ i ≤ 10
  · obtain ⟨hlt, hle⟩ := hgo
    have hle' : (i : Int) ≤ 10 := by omega
    have hw : IntKind.i64.wrap ((i : Int) + 1) = (i : Int) + 1 := wrap_i64 _ (by omega) (by omega)
    have hqi := hq2 l[i] (List.getElem_mem hlt)
    by_cases hm : grQ l[i] = true
    · have hn := allL_no (p := fun q => !grQ q) hlt (by simp [hm])
      simp [h0, h3, hlt, hle', getD_map, getQ_map, hw, hm, hqi, grA, hn]
    · simp [h0, h3, hlt, hle', getD_map, getQ_map, hw, hm, hqi]
      exact hJ _ ⟨i + 1, by omega, by omega, by simp [h0], by simp, allL_step hlt hp (by simpa using hm)⟩ (by simp [h3]; omega)
  · by_cases hlt : i < l.length
    · have hle' : ¬ (i : Int) ≤ 10 := by omega
      have hl10 : ¬ l.length ≤ 10 := by omega
      have hl10' : (10 : Int) < l.length := by omega
      simp [h0, h3, hlt, hle', grA, hl10, hl10']
    · have hall := allL_all hlt hp
      simp [h0, h3, hlt, grA, hall]
      (repeat' first | refine And.intro ?_ ?_ | intro _) <;> first | omega | grind
@[simp] def S78 : Spec
  | [.int .i64 tn, .sl _ cl] => some ((cl.all kQue = true ∧ cl.length ≤ 9223372036854775807) ∧ (0 ≤ tn ∧ ((cl.map uQue)).length ≤ 100000 ∧ bA (cl.map uQue)), .int .i64 (firstQ tn (cl.map uQue)), [])
  | _ => none
set_option maxHeartbeats 4000000 in
set_option maxRecDepth 100000 in
theorem S78_ok : SOK 78 S78 := by
  intro xs q r bs h hq
  unfold S78 at h
  split at h <;> cases h
  rename_i tn exl cl
  obtain ⟨hq1, hq2⟩ := hq
  refine FS_wk ?_
  simp only [List.map_cons, List.map_nil, wk2, wk1]
  obtain ⟨l, rfl⟩ := rows_ex (fun c hc => kQue_ok hc) hq1.1
  have hll := hq1.2
  simp only [List.length_map] at hll
  try simp only [List.map_map, ue_Rec, ue_Ev, ue_Row, ue_Msg, ue_Snd, ue_Ent, ue_Int, ue_Que, List.map_id] at *
  refine fs_of_awp mixed (sg_ok noS_ok) Try.func78 rfl (ent_of Try.func78 rfl rfl) [] (by rw [Try.ntmps78]; exact Nat.le_of_ble_eq_true rfl) (by simp) (by simp) (by simp) true ?_
  rw [Try.ntmps78, Try.results78]
  obtain ⟨t0, t1, hb⟩ := hq2
  have key : ∀ σ0 : St, σ0.T 0 = .int .i64 (stQ tn l) → σ0.T 1 = .sl false (l.map eQue) → σ0.T 13 = .int .i64 0 → σ0.T 12 = .int .i64 l.length → ∃ i : Nat, i ≤ l.length ∧ σ0.T 0 = .int .i64 (stQ tn l) ∧ σ0.T 1 = .sl false (l.map eQue) ∧ σ0.T 12 = .int .i64 l.length ∧ σ0.T 13 = .int .i64 i ∧ goQ l (stQ tn l) (l.length - i) i = firstQ tn l := fun σ0 a1 a2 a3 a4 => ⟨0, by omega, a1, a2, a4, a3, rfl⟩
  have body : ∀ (σ : St) (i : Nat), i ≤ l.length → goQ l (stQ tn l) (l.length - i) i = firstQ tn l → i < l.length → 0 < (l.getD ((stQ tn l + i) % l.length) default).l.length → (((stQ tn l + i) % l.length : Nat) : Int) = firstQ tn l := by
    intro σ i hi hp hlt h
    rw [← hp, show l.length - i = (l.length - (i + 1)) + 1 by omega, goQ, if_pos h]
  have body2 : ∀ (σ : St) (i : Nat), i ≤ l.length → goQ l (stQ tn l) (l.length - i) i = firstQ tn l → i < l.length → ¬ 0 < (l.getD ((stQ tn l + i) % l.length) default).l.length → goQ l (stQ tn l) (l.length - (i + 1)) (i + 1) = firstQ tn l := by
    intro σ i hi hp hlt h
    rw [← hp, show l.length - i = (l.length - (i + 1)) + 1 by omega, goQ, if_neg h]
  have hst : stQ tn l ≤ l.length := by unfold stQ; split <;> omega
  by_cases hc : (l.length : Int) ≤ tn
  all_goals
    have hs0 : ((stQ tn l : Nat) : Int) = if (l.length : Int) ≤ tn then 0 else tn := by unfold stQ; split <;> omega
    simp [hc] at hs0
    simp [hc]
    refine awp_loop (fun σ => ∃ i : Nat, i ≤ l.length ∧ σ.T 0 = .int .i64 (stQ tn l) ∧ σ.T 1 = .sl false (l.map eQue) ∧ σ.T 12 = .int .i64 l.length ∧ σ.T 13 = .int .i64 i ∧ goQ l (stQ tn l) (l.length - i) i = firstQ tn l) (fun σ => l.length - (ival (σ.T 13)).toNat) (by apply key <;> simp [hs0]) ?_
    rintro σ ⟨i, hi, h0, h1, h12, h13, hp⟩ J hJ
    by_cases hlt : i < l.length
    · have hw : IntKind.i64.wrap ((i : Int) + 1) = (i : Int) + 1 := wrap_i64 _ (by omega) (by omega)
      have hw2 : IntKind.i64.wrap ((stQ tn l : Int) + i) = (stQ tn l : Int) + i := wrap_i64 _ (by omega) (by omega)
      have hm : ((stQ tn l : Int) + i).tmod l.length = (((stQ tn l + i) % l.length : Nat) : Int) := by have h := tmod_nat (stQ tn l + i) l.length; rwa [Int.natCast_add] at h
      have hk : (stQ tn l + i) % l.length < l.length := Nat.mod_lt _ (by omega)
      have hne : (l.length : Int) ≠ 0 := by omega
      have hne' : ¬ l = [] := by intro h; rw [h] at hlt; simp at hlt
      have hkI : (((stQ tn l + i) % l.length : Nat) : Int) < (l.length : Int) := by omega
      generalize hkk : (stQ tn l + i) % l.length = k at *
      have hbk := hb l[k] (List.getElem_mem hk)
      have hgd : l.getD k default = l[k] := by simp [hk]
      by_cases hpos : 0 < l[k].l.length
      · have hr := body σ i hi hp hlt (by rw [hkk, hgd]; exact hpos)
        rw [hkk] at hr
        simp [h0, h1, h12, h13, hlt, getD_map, getQ_map, hw, hw2, hm, hk, hne', hpos]
        exact hr
      · have hr := body2 σ i hi hp hlt (by rw [hkk, hgd]; exact hpos)
        have hnil : l[k].l = [] := List.eq_nil_of_length_eq_zero (by omega)
        simp [h0, h1, h12, h13, hlt, getD_map, getQ_map, hw, hw2, hm, hk, hne', hpos, hnil]
        exact hJ _ ⟨i + 1, hlt, by simp [h0], by simp [h1], by simp [h12], by simp, hr⟩ (by simp [h13]; omega)
    · simp [h0, h1, h12, h13, hlt]
      rw [← hp, show l.length - i = 0 by omega, goQ]
@[simp] def S102 : Spec
  | [.int .i64 tn, .sl _ cl] => some ((cl.all kQue = true ∧ cl.length ≤ 9223372036854775807) ∧ (0 ≤ tn ∧ ((cl.map uQue)).length ≤ 100000 ∧ bA (cl.map uQue)), .int .i64 (firstQ tn (cl.map uQue)), [])
  | _ => none
set_option maxHeartbeats 4000000 in
set_option maxRecDepth 100000 in
theorem S102_ok : SOK 102 S102 := by
  intro xs q r bs h hq
  unfold S102 at h
  split at h <;> cases h
  rename_i tn exl cl
  obtain ⟨hq1, hq2⟩ := hq
  refine FS_wk ?_
  simp only [List.map_cons, List.map_nil, wk2, wk1]
  obtain ⟨l, rfl⟩ := rows_ex (fun c hc => kQue_ok hc) hq1.1
  have hll := hq1.2
  simp only [List.length_map] at hll
  try simp only [List.map_map, ue_Rec, ue_Ev, ue_Row, ue_Msg, ue_Snd, ue_Ent, ue_Int, ue_Que, List.map_id] at *
  refine fs_of_awp mixed (sg_ok noS_ok) Try.func102 rfl (ent_of Try.func102 rfl rfl) [] (by rw [Try.ntmps102]; exact Nat.le_of_ble_eq_true rfl) (by simp) (by simp) (by simp) true ?_
  rw [Try.ntmps102, Try.results102]
  obtain ⟨t0, t1, hb⟩ := hq2
  have key : ∀ σ0 : St, σ0.T 0 = .int .i64 (stQ tn l) → σ0.T 1 = .sl false (l.map eQue) → σ0.T 5 = .int .i64 0 → ∃ i : Nat, i ≤ l.length ∧ σ0.T 0 = .int .i64 (stQ tn l) ∧ σ0.T 1 = .sl false (l.map eQue) ∧ σ0.T 5 = .int .i64 i ∧ goQ l (stQ tn l) (l.length - i) i = firstQ tn l := fun σ0 a1 a2 a3 => ⟨0, by omega, a1, a2, a3, rfl⟩
  have body : ∀ (σ : St) (i : Nat), i ≤ l.length → goQ l (stQ tn l) (l.length - i) i = firstQ tn l → i < l.length → 0 < (l.getD ((stQ tn l + i) % l.length) default).l.length → (((stQ tn l + i) % l.length : Nat) : Int) = firstQ tn l := by
    intro σ i hi hp hlt h
    rw [← hp, show l.length - i = (l.length - (i + 1)) + 1 by omega, goQ, if_pos h]
  have body2 : ∀ (σ : St) (i : Nat), i ≤ l.length → goQ l (stQ tn l) (l.length - i) i = firstQ tn l → i < l.length → ¬ 0 < (l.getD ((stQ tn l + i) % l.length) default).l.length → goQ l (stQ tn l) (l.length - (i + 1)) (i + 1) = firstQ tn l := by
    intro σ i hi hp hlt h
    rw [← hp, show l.length - i = (l.length - (i + 1)) + 1 by omega, goQ, if_neg h]
  have hst : stQ tn l ≤ l.length := by unfold stQ; split <;> omega
  by_cases hc : (l.length : Int) ≤ tn
  all_goals
    have hs0 : ((stQ tn l : Nat) : Int) = if (l.length : Int) ≤ tn then 0 else tn := by unfold stQ; split <;> omega
    simp [hc] at hs0
    simp [hc]
    refine awp_loop (fun σ => ∃ i : Nat, i ≤ l.length ∧ σ.T 0 = .int .i64 (stQ tn l) ∧ σ.T 1 = .sl false (l.map eQue) ∧ σ.T 5 = .int .i64 i ∧ goQ l (stQ tn l) (l.length - i) i = firstQ tn l) (fun σ => l.length - (ival (σ.T 5)).toNat) (by apply key <;> simp [hs0]) ?_
    rintro σ ⟨i, hi, h0, h1, h13, hp⟩ J hJ
    by_cases hlt : i < l.length
    · have hw : IntKind.i64.wrap ((i : Int) + 1) = (i : Int) + 1 := wrap_i64 _ (by omega) (by omega)
      have hw2 : IntKind.i64.wrap ((stQ tn l : Int) + i) = (stQ tn l : Int) + i := wrap_i64 _ (by omega) (by omega)
      have hm : ((stQ tn l : Int) + i).tmod l.length = (((stQ tn l + i) % l.length : Nat) : Int) := by have h := tmod_nat (stQ tn l + i) l.length; rwa [Int.natCast_add] at h
      have hk : (stQ tn l + i) % l.length < l.length := Nat.mod_lt _ (by omega)
      have hne : (l.length : Int) ≠ 0 := by omega
      have hne' : ¬ l = [] := by intro h; rw [h] at hlt; simp at hlt
      have hkI : (((stQ tn l + i) % l.length : Nat) : Int) < (l.length : Int) := by omega
      generalize hkk : (stQ tn l + i) % l.length = k at *
      have hbk := hb l[k] (List.getElem_mem hk)
      have hgd : l.getD k default = l[k] := by simp [hk]
      by_cases hpos : 0 < l[k].l.length
      · have hr := body σ i hi hp hlt (by rw [hkk, hgd]; exact hpos)
        rw [hkk] at hr
        simp [h0, h1, h13, hlt, getD_map, getQ_map, hw, hw2, hm, hk, hne', hpos]
        exact hr
      · have hr := body2 σ i hi hp hlt (by rw [hkk, hgd]; exact hpos)
        have hnil : l[k].l = [] := List.eq_nil_of_length_eq_zero (by omega)
        simp [h0, h1, h13, hlt, getD_map, getQ_map, hw, hw2, hm, hk, hne', hpos, hnil]
        exact hJ _ ⟨i + 1, hlt, by simp [h0], by simp [h1], by simp, hr⟩ (by simp [h13]; omega)
    · simp [h0, h1, h13, hlt]
      rw [← hp, show l.length - i = 0 by omega, goQ]

end Go.Proofs.Ytedhhjmjlpnlpaa.VW
