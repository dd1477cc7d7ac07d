/- alive, Turn. -/
import Derived.Test.YtedhhjmjlpnlpaaY3
namespace Go.Proofs.Ytedhhjmjlpnlpaa.VW
open Go Go.RowKit
set_option linter.unusedVariables false
set_option linter.unusedSimpArgs false
theorem n24_0 : enE ⟨2, 0, 0, [], [-9223372036854775808], [], [], [], []⟩ [⟨2, [⟨2, ⟨0, 0, 0⟩, 1, ⟨0, 0, 0, 0, 0⟩⟩, ⟨2, ⟨0, 0, 0⟩, 2, ⟨0, 0, 0, 0, 0⟩⟩]⟩] [⟨2, [⟨2, ⟨0, 0, 0⟩, 3, ⟨0, 0, 0, 0, 0⟩⟩, ⟨2, ⟨0, 0, 0⟩, 4, ⟨0, 0, 0, 0, 0⟩⟩]⟩] = 0 := by decide
theorem n24_1 : enB ⟨2, 0, 0, [], [-9223372036854775808], [], [], [], []⟩ [⟨2, [⟨2, ⟨0, 0, 0⟩, 1, ⟨0, 0, 0, 0, 0⟩⟩, ⟨2, ⟨0, 0, 0⟩, 2, ⟨0, 0, 0, 0, 0⟩⟩]⟩] [⟨2, [⟨2, ⟨0, 0, 0⟩, 3, ⟨0, 0, 0, 0, 0⟩⟩, ⟨2, ⟨0, 0, 0⟩, 4, ⟨0, 0, 0, 0, 0⟩⟩]⟩] = true := by decide
theorem n24_2 : enE ⟨2, 0, 0, [⟨0, ⟨2, ⟨0, 0, 0⟩, 5, ⟨0, 0, 0, 0, 0⟩⟩⟩], [-9223372036854775808], [], [], [], []⟩ [⟨2, [⟨2, ⟨0, 0, 0⟩, 1, ⟨0, 0, 0, 0, 0⟩⟩, ⟨2, ⟨0, 0, 0⟩, 2, ⟨0, 0, 0, 0, 0⟩⟩]⟩] [⟨2, [⟨2, ⟨0, 0, 0⟩, 3, ⟨0, 0, 0, 0, 0⟩⟩, ⟨2, ⟨0, 0, 0⟩, 4, ⟨0, 0, 0, 0, 0⟩⟩]⟩] = 0 := by decide
theorem n24_3 : enB ⟨2, 0, 0, [⟨0, ⟨2, ⟨0, 0, 0⟩, 5, ⟨0, 0, 0, 0, 0⟩⟩⟩], [-9223372036854775808], [], [], [], []⟩ [⟨2, [⟨2, ⟨0, 0, 0⟩, 1, ⟨0, 0, 0, 0, 0⟩⟩, ⟨2, ⟨0, 0, 0⟩, 2, ⟨0, 0, 0, 0, 0⟩⟩]⟩] [⟨2, [⟨2, ⟨0, 0, 0⟩, 3, ⟨0, 0, 0, 0, 0⟩⟩, ⟨2, ⟨0, 0, 0⟩, 4, ⟨0, 0, 0, 0, 0⟩⟩]⟩] = false := by decide
theorem n24_4 : enE ⟨2, 0, 0, [⟨0, ⟨2, ⟨0, 0, 0⟩, 5, ⟨0, 0, 0, 0, 0⟩⟩⟩], [-9223372036854775808], [], [], [], []⟩ [⟨2, [⟨2, ⟨0, 0, 0⟩, 1, ⟨0, 0, 0, 0, 0⟩⟩, ⟨2, ⟨0, 0, 0⟩, 2, ⟨0, 0, 0, 0, 0⟩⟩]⟩] [⟨2, [⟨2, ⟨0, 0, 0⟩, 3, ⟨0, 0, 0, 0, 0⟩⟩]⟩] = 0 := by decide
theorem n24_5 : enB ⟨2, 0, 0, [⟨0, ⟨2, ⟨0, 0, 0⟩, 5, ⟨0, 0, 0, 0, 0⟩⟩⟩], [-9223372036854775808], [], [], [], []⟩ [⟨2, [⟨2, ⟨0, 0, 0⟩, 1, ⟨0, 0, 0, 0, 0⟩⟩, ⟨2, ⟨0, 0, 0⟩, 2, ⟨0, 0, 0, 0, 0⟩⟩]⟩] [⟨2, [⟨2, ⟨0, 0, 0⟩, 3, ⟨0, 0, 0, 0, 0⟩⟩]⟩] = true := by decide
@[simp] def S24 : Spec
  | [] => some (True, .bool true, [])
  | _ => none
set_option maxHeartbeats 4000000 in
set_option maxRecDepth 100000 in
theorem S24_ok : SOK 24 S24 := by
  intro xs q r bs h hq
  unfold S24 at h
  split at h <;> cases h
  refine FS_wk ?_
  simp only [List.map_cons, List.map_nil, wk2, wk1]
  refine fs_of_awp mixed (sg_ok (gc_ok S39_ok (gc_ok S40_ok (gc_ok S38_ok (gc_ok S70_ok noS_ok))))) Try.func24 rfl (ent_of Try.func24 rfl rfl) [] (by rw [Try.ntmps24]; exact Nat.le_of_ble_eq_true rfl) (by simp) (by simp) (by simp) true ?_
  rw [Try.ntmps24, Try.results24]
  simp [n24_0, n24_1, n24_2, n24_3, n24_4, n24_5]

def turnE (t : Tsk) (a : List Que) : Int := if askE t a [] ≠ 0 then askE t a [] else if firstQ t.tn a < 0 ∨ 0 < t.pd.length then 6 else 0
def turnK (t : Tsk) (a : List Que) : Int := if turnE t a = 0 then firstQ t.tn a else 0
def turnT (t : Tsk) (a : List Que) : Tsk := if turnE t a = 0 then { t with tn := (firstQ t.tn a + 1).tmod a.length } else zT
theorem goQ_r (l : List Que) (s : Nat) : ∀ (f i : Nat), goQ l s f i = -1 ∨ ∃ k : Nat, goQ l s f i = k ∧ 0 < (l.getD k default).l.length ∧ (0 < l.length → k < l.length)
  | 0, i => .inl rfl
  | f + 1, i => by
    rw [goQ]
    split
    · rename_i h
      exact .inr ⟨_, rfl, h, fun h0 => Nat.mod_lt _ h0⟩
    · exact goQ_r l s f (i + 1)
theorem getD_nil (k : Nat) : ([] : List Que).getD k default = default := rfl
theorem firstQ_r (tn : Int) (l : List Que) : firstQ tn l = -1 ∨ ∃ k : Nat, firstQ tn l = k ∧ ∃ h : k < l.length, 0 < l[k].l.length := by
  rcases goQ_r l (stQ tn l) l.length 0 with h | ⟨k, h1, h2, h3⟩
  · exact .inl h
  · right
    have h0 : 0 < l.length := by
      rcases Nat.eq_zero_or_pos l.length with h | h
      · have : l = [] := List.eq_nil_of_length_eq_zero h
        rw [this, getD_nil] at h2; exact absurd h2 (by decide)
      · exact h
    refine ⟨k, h1, h3 h0, ?_⟩
    have := h3 h0
    simpa [this] using h2
theorem okT_tn {t : Tsk} (h : okT t = true) : 0 ≤ t.tn ∧ t.tn < 20 := by
  unfold okT okNum at h; simp only [Bool.and_eq_true, decide_eq_true_eq] at h; grind
theorem bA_nil : bA [] := fun q h => by cases h
@[simp] def S30 : Spec
  | [.agg ct, .sl _ ca] => some ((kTsk ct = true) ∧ (ca.all kQue = true ∧ ca.length ≤ 9223372036854775807) ∧ (bT (uTsk ct) ∧ bA (ca.map uQue)), .tup [.int .i64 (turnK (uTsk ct) (ca.map uQue)), .agg (eTsk (turnT (uTsk ct) (ca.map uQue))), .int .i64 (turnE (uTsk ct) (ca.map uQue))], [])
  | _ => none
set_option maxHeartbeats 8000000 in
set_option maxRecDepth 100000 in
theorem S30_ok : SOK 30 S30 := by
  intro xs q r bs h hq
  unfold S30 at h
  split at h <;> cases h
  rename_i ct exa ca
  obtain ⟨hq1, hq2, hq3⟩ := hq
  refine FS_wk ?_
  simp only [List.map_cons, List.map_nil, wk2, wk1]
  rw [kTsk_wk hq1]
  generalize uTsk ct = t at *
  obtain ⟨a, rfl⟩ := rows_ex (fun c hc => kQue_ok hc) hq2.1
  have hla := hq2.2
  simp only [List.length_map] at hla
  try simp only [List.map_map, ue_Rec, ue_Ev, ue_Row, ue_Msg, ue_Snd, ue_Ent, ue_Int, ue_Que, List.map_id] at *
  refine fs_of_awp mixed (sg_ok (gc_ok S76_ok (gc_ok S78_ok (gc_ok S81_ok noS_ok)))) Try.func30 rfl (ent_of Try.func30 rfl rfl) [] (by rw [Try.ntmps30]; exact Nat.le_of_ble_eq_true rfl) (by simp) (by simp) (by simp) true ?_
  rw [Try.ntmps30, Try.results30]
  obtain ⟨⟨x1, x2, x3, x4, x5, x6⟩, ha⟩ := hq3
  by_cases e0 : askE t a [] = 0
  rotate_left
  · have f1 : turnE t a = askE t a [] := by unfold turnE; rw [if_pos e0]
    have f2 : turnK t a = 0 := by unfold turnK; rw [if_neg (by rw [f1]; exact e0)]
    have f3 : turnT t a = zT := by unfold turnT; rw [if_neg (by rw [f1]; exact e0)]
    simp [x1, x2, x3, x4, x5, x6, e0, f1, f2, f3, zT]
    all_goals ((repeat' first | refine And.intro ?_ ?_ | intro _) <;> first | assumption | omega | rfl | (apply ha; assumption))
  obtain ⟨hok, hal, hcl, hqa, hqc⟩ := askE_0 e0
  have htn := okT_tn hok
  have hal' : a.length ≤ 100000 := by omega
  by_cases hbad : firstQ t.tn a < 0 ∨ 0 < t.pd.length
  · have f1 : turnE t a = 6 := by unfold turnE; rw [if_neg (by simp [e0]), if_pos hbad]
    have f2 : turnK t a = 0 := by unfold turnK; rw [if_neg (by rw [f1]; decide)]
    have f3 : turnT t a = zT := by unfold turnT; rw [if_neg (by rw [f1]; decide)]
    by_cases hf : firstQ t.tn a < 0
    · simp [x1, x2, x3, x4, x5, x6, e0, f1, f2, f3, zT, htn.1, hal', hf]
      all_goals ((repeat' first | refine And.intro ?_ ?_ | intro _) <;> first | assumption | omega | rfl | (apply ha; assumption))
    · have hp : 0 < t.pd.length := by rcases hbad with h | h; exact absurd h hf; exact h
      simp [x1, x2, x3, x4, x5, x6, e0, f1, f2, f3, zT, htn.1, hal', hf, hp]
      all_goals ((repeat' first | refine And.intro ?_ ?_ | intro _) <;> first | assumption | omega | rfl | (apply ha; assumption))
  · have f1 : turnE t a = 0 := by unfold turnE; rw [if_neg (by simp [e0]), if_neg hbad]
    have f2 : turnK t a = firstQ t.tn a := by unfold turnK; rw [if_pos f1]
    have f3 : turnT t a = { t with tn := (firstQ t.tn a + 1).tmod a.length } := by unfold turnT; rw [if_pos f1]
    have hf : ¬ firstQ t.tn a < 0 := fun h => hbad (.inl h)
    have hp : ¬ 0 < t.pd.length := fun h => hbad (.inr h)
    have hpd : t.pd = [] := List.eq_nil_of_length_eq_zero (by omega)
    obtain ⟨k, k1, k2, k3⟩ : ∃ k : Nat, firstQ t.tn a = k ∧ ∃ h : k < a.length, 0 < a[k].l.length := by
      rcases firstQ_r t.tn a with h | h
      · omega
      · exact h
    have hw : IntKind.i64.wrap (firstQ t.tn a + 1) = firstQ t.tn a + 1 := wrap_i64 _ (by omega) (by omega)
    have hne : ¬ a = [] := by intro h; rw [h] at k2; simp at k2
    rw [f1, f2, f3]
    simp [x1, x2, x3, x4, x5, x6, e0, htn.1, hal', hf, hp, eq_true hpd, hw, hne]
    all_goals ((repeat' first | refine And.intro ?_ ?_ | intro _) <;> first | assumption | omega | rfl | (apply ha; assumption))
@[simp] def S58 : Spec
  | [.agg ct, .sl _ ca] => some ((kTsk ct = true) ∧ (ca.all kQue = true ∧ ca.length ≤ 9223372036854775807) ∧ (bT (uTsk ct) ∧ bA (ca.map uQue)), .tup [.int .i64 (turnK (uTsk ct) (ca.map uQue)), .agg (eTsk (turnT (uTsk ct) (ca.map uQue))), .int .i64 (turnE (uTsk ct) (ca.map uQue))], [])
  | _ => none
set_option maxHeartbeats 8000000 in
set_option maxRecDepth 100000 in
theorem S58_ok : SOK 58 S58 := by
  intro xs q r bs h hq
  unfold S58 at h
  split at h <;> cases h
  rename_i ct exa ca
  obtain ⟨hq1, hq2, hq3⟩ := hq
  refine FS_wk ?_
  simp only [List.map_cons, List.map_nil, wk2, wk1]
  rw [kTsk_wk hq1]
  generalize uTsk ct = t at *
  obtain ⟨a, rfl⟩ := rows_ex (fun c hc => kQue_ok hc) hq2.1
  have hla := hq2.2
  simp only [List.length_map] at hla
  try simp only [List.map_map, ue_Rec, ue_Ev, ue_Row, ue_Msg, ue_Snd, ue_Ent, ue_Int, ue_Que, List.map_id] at *
  refine fs_of_awp mixed (sg_ok (gc_ok S100_ok (gc_ok S102_ok (gc_ok S45_ok noS_ok)))) Try.func58 rfl (ent_of Try.func58 rfl rfl) [] (by rw [Try.ntmps58]; exact Nat.le_of_ble_eq_true rfl) (by simp) (by simp) (by simp) true ?_
  rw [Try.ntmps58, Try.results58]
  obtain ⟨⟨x1, x2, x3, x4, x5, x6⟩, ha⟩ := hq3
  by_cases e0 : askE t a [] = 0
  rotate_left
  · have f1 : turnE t a = askE t a [] := by unfold turnE; rw [if_pos e0]
    have f2 : turnK t a = 0 := by unfold turnK; rw [if_neg (by rw [f1]; exact e0)]
    have f3 : turnT t a = zT := by unfold turnT; rw [if_neg (by rw [f1]; exact e0)]
    simp [x1, x2, x3, x4, x5, x6, e0, f1, f2, f3, zT]
    all_goals ((repeat' first | refine And.intro ?_ ?_ | intro _) <;> first | assumption | omega | rfl | (apply ha; assumption))
  obtain ⟨hok, hal, hcl, hqa, hqc⟩ := askE_0 e0
  have htn := okT_tn hok
  have hal' : a.length ≤ 100000 := by omega
  by_cases hbad : firstQ t.tn a < 0 ∨ 0 < t.pd.length
  · have f1 : turnE t a = 6 := by unfold turnE; rw [if_neg (by simp [e0]), if_pos hbad]
    have f2 : turnK t a = 0 := by unfold turnK; rw [if_neg (by rw [f1]; decide)]
    have f3 : turnT t a = zT := by unfold turnT; rw [if_neg (by rw [f1]; decide)]
    by_cases hf : firstQ t.tn a < 0
    · simp [x1, x2, x3, x4, x5, x6, e0, f1, f2, f3, zT, htn.1, hal', hf]
      all_goals ((repeat' first | refine And.intro ?_ ?_ | intro _) <;> first | assumption | omega | rfl | (apply ha; assumption))
    · have hp : 0 < t.pd.length := by rcases hbad with h | h; exact absurd h hf; exact h
      simp [x1, x2, x3, x4, x5, x6, e0, f1, f2, f3, zT, htn.1, hal', hf, hp]
      all_goals ((repeat' first | refine And.intro ?_ ?_ | intro _) <;> first | assumption | omega | rfl | (apply ha; assumption))
  · have f1 : turnE t a = 0 := by unfold turnE; rw [if_neg (by simp [e0]), if_neg hbad]
    have f2 : turnK t a = firstQ t.tn a := by unfold turnK; rw [if_pos f1]
    have f3 : turnT t a = { t with tn := (firstQ t.tn a + 1).tmod a.length } := by unfold turnT; rw [if_pos f1]
    have hf : ¬ firstQ t.tn a < 0 := fun h => hbad (.inl h)
    have hp : ¬ 0 < t.pd.length := fun h => hbad (.inr h)
    have hpd : t.pd = [] := List.eq_nil_of_length_eq_zero (by omega)
    obtain ⟨k, k1, k2, k3⟩ : ∃ k : Nat, firstQ t.tn a = k ∧ ∃ h : k < a.length, 0 < a[k].l.length := by
      rcases firstQ_r t.tn a with h | h
      · omega
      · exact h
    have hw : IntKind.i64.wrap (firstQ t.tn a + 1) = firstQ t.tn a + 1 := wrap_i64 _ (by omega) (by omega)
    have hne : ¬ a = [] := by intro h; rw [h] at k2; simp at k2
    rw [f1, f2, f3]
    simp [x1, x2, x3, x4, x5, x6, e0, htn.1, hal', hf, hp, eq_true hpd, hw, hne]
    all_goals ((repeat' first | refine And.intro ?_ ?_ | intro _) <;> first | assumption | omega | rfl | (apply ha; assumption))

end Go.Proofs.Ytedhhjmjlpnlpaa.VW
