/- Times, marks, messages, events. -/
import Derived.Test.YtedhhjmjlpnlpaaW2
namespace Go.Proofs.Ytedhhjmjlpnlpaa.VW
open Go Go.RowKit
set_option linter.unusedVariables false
set_option linter.unusedSimpArgs false

@[simp] def isTime (t : Int) : Bool := decide (-1099511627776 ≤ t) && decide (t ≤ 1099511627776)
@[simp] def isMark (t : Int) : Bool := isTime t || t == 9223372036854775807
def okRow (x : Row) : Bool := decide (-2199023255552 ≤ x.s) && decide (x.s < x.e) && decide (x.e ≤ 2199023255552)
def okMsg (m : Msg) : Bool :=
  if m.kd = 1 ∨ m.kd = 4 then isTime m.r.t && m.t == 0 && m.w.k == 0 && m.w.s == 0 && m.w.e == 0 && m.w.a == 0 && m.w.b == 0
  else if m.kd = 2 then isMark m.t && m.r.k == 0 && m.r.t == 0 && m.r.v == 0 && m.w.k == 0 && m.w.s == 0 && m.w.e == 0 && m.w.a == 0 && m.w.b == 0
  else if m.kd = 3 then decide (-2199023255552 ≤ m.w.s) && decide (m.w.s < m.w.e) && decide (m.w.e ≤ 2199023255552) && m.r.k == 0 && m.r.t == 0 && m.r.v == 0 && m.t == 0
  else false
def zM : Msg := ⟨0, ⟨0, 0, 0⟩, 0, ⟨0, 0, 0, 0, 0⟩⟩
def okEv (e : Ev) : Bool := if e.m then isMark e.t && e.r.k == 0 && e.r.t == 0 && e.r.v == 0 else e.t == 0 && isTime e.r.t
def toldM (e : Ev) : Msg := if e.m then ⟨2, ⟨0, 0, 0⟩, e.t, ⟨0, 0, 0, 0, 0⟩⟩ else ⟨1, e.r, 0, ⟨0, 0, 0, 0, 0⟩⟩
def okSnd (s : Snd) : Bool := decide (0 ≤ s.o) && decide (s.o < 3) && okMsg s.m
@[simp] def S99 : Spec
  | [.int .i64 t] => some (True, .bool (isTime t), [])
  | _ => none
set_option maxRecDepth 100000 in
theorem S99_ok : SOK 99 S99 := by
  intro xs q r bs h hq
  unfold S99 at h
  split at h <;> cases h
  rename_i t
  refine FS_wk ?_
  simp only [List.map_cons, List.map_nil, wk2, wk1]
  refine fs_of_awp mixed (sg_ok noS_ok) Try.func99 rfl (ent_of Try.func99 rfl rfl) [] (by rw [Try.ntmps99]; exact Nat.le_of_ble_eq_true rfl) (by simp) (by simp) (by simp) true ?_
  rw [Try.ntmps99, Try.results99]
  simp
@[simp] def S98 : Spec
  | [.int .i64 t] => some (True, .bool (isMark t), [])
  | _ => none
set_option maxRecDepth 100000 in
theorem S98_ok : SOK 98 S98 := by
  intro xs q r bs h hq
  unfold S98 at h
  split at h <;> cases h
  rename_i t
  refine FS_wk ?_
  simp only [List.map_cons, List.map_nil, wk2, wk1]
  refine fs_of_awp mixed (sg_ok (gc_ok S99_ok noS_ok)) Try.func98 rfl (ent_of Try.func98 rfl rfl) [] (by rw [Try.ntmps98]; exact Nat.le_of_ble_eq_true rfl) (by simp) (by simp) (by simp) true ?_
  rw [Try.ntmps98, Try.results98]
  simp
@[simp] def S83 : Spec
  | [.agg cm] => some ((kMsg cm = true), .int .i64 (if okMsg (uMsg cm) then 0 else 8), [])
  | _ => none
set_option maxRecDepth 100000 in
theorem S83_ok : SOK 83 S83 := by
  intro xs q r bs h hq
  unfold S83 at h
  split at h <;> cases h
  rename_i cm
  have hq1 := hq
  refine FS_wk ?_
  simp only [List.map_cons, List.map_nil, wk2, wk1]
  rw [kMsg_wk hq1]
  generalize uMsg cm = m at *
  refine fs_of_awp mixed (sg_ok (gc_ok S99_ok (gc_ok S98_ok noS_ok))) Try.func83 rfl (ent_of Try.func83 rfl rfl) [] (by rw [Try.ntmps83]; exact Nat.le_of_ble_eq_true rfl) (by simp) (by simp) (by simp) true ?_
  rw [Try.ntmps83, Try.results83]
  simp [okMsg]
  grind
@[simp] def S56 : Spec
  | [.agg ce] => some ((kEv ce = true), .tup [.agg (eMsg (if okEv (uEv ce) then toldM (uEv ce) else zM)), .int .i64 (if okEv (uEv ce) then 0 else 8)], [])
  | _ => none
set_option maxRecDepth 100000 in
theorem S56_ok : SOK 56 S56 := by
  intro xs q r bs h hq
  unfold S56 at h
  split at h <;> cases h
  rename_i ce
  have hq1 := hq
  refine FS_wk ?_
  simp only [List.map_cons, List.map_nil, wk2, wk1]
  rw [kEv_wk hq1]
  generalize uEv ce = e at *
  refine fs_of_awp mixed (sg_ok (gc_ok S99_ok (gc_ok S98_ok noS_ok))) Try.func56 rfl (ent_of Try.func56 rfl rfl) [] (by rw [Try.ntmps56]; exact Nat.le_of_ble_eq_true rfl) (by simp) (by simp) (by simp) true ?_
  rw [Try.ntmps56, Try.results56]
  rcases e with ⟨m, t, r⟩
  cases m <;> simp [okEv, toldM, zM] <;> grind
@[simp] def S66 : Spec
  | [.agg ce] => some ((kEv ce = true), .int .i64 (if okEv (uEv ce) then 0 else 8), [])
  | _ => none
set_option maxRecDepth 100000 in
theorem S66_ok : SOK 66 S66 := by
  intro xs q r bs h hq
  unfold S66 at h
  split at h <;> cases h
  rename_i ce
  have hq1 := hq
  refine FS_wk ?_
  simp only [List.map_cons, List.map_nil, wk2, wk1]
  rw [kEv_wk hq1]
  generalize uEv ce = e at *
  refine fs_of_awp mixed (sg_ok (gc_ok S56_ok noS_ok)) Try.func66 rfl (ent_of Try.func66 rfl rfl) [] (by rw [Try.ntmps66]; exact Nat.le_of_ble_eq_true rfl) (by simp) (by simp) (by simp) true ?_
  rw [Try.ntmps66, Try.results66]
  simp
  try rfl
@[simp] def S86 : Spec
  | [.agg cr0] => some ((kRec cr0 = true), .bool (isTime ((uRec cr0)).t), [])
  | _ => none
set_option maxRecDepth 100000 in
theorem S86_ok : SOK 86 S86 := by
  intro xs q r bs h hq
  unfold S86 at h
  split at h <;> cases h
  rename_i cr0
  have hq1 := hq
  refine FS_wk ?_
  simp only [List.map_cons, List.map_nil, wk2, wk1]
  rw [kRec_wk hq1]
  generalize uRec cr0 = r0 at *
  refine fs_of_awp mixed (sg_ok noS_ok) Try.func86 rfl (ent_of Try.func86 rfl rfl) [] (by rw [Try.ntmps86]; exact Nat.le_of_ble_eq_true rfl) (by simp) (by simp) (by simp) true ?_
  rw [Try.ntmps86, Try.results86]
  simp
@[simp] def S87 : Spec
  | [.int .i64 t] => some (True, .bool (isMark t), [])
  | _ => none
set_option maxRecDepth 100000 in
theorem S87_ok : SOK 87 S87 := by
  intro xs q r bs h hq
  unfold S87 at h
  split at h <;> cases h
  rename_i t
  refine FS_wk ?_
  simp only [List.map_cons, List.map_nil, wk2, wk1]
  refine fs_of_awp mixed (sg_ok noS_ok) Try.func87 rfl (ent_of Try.func87 rfl rfl) [] (by rw [Try.ntmps87]; exact Nat.le_of_ble_eq_true rfl) (by simp) (by simp) (by simp) true ?_
  rw [Try.ntmps87, Try.results87]
  simp
@[simp] def S88 : Spec
  | [.agg cx] => some ((kRow cx = true), .bool (okRow (uRow cx)), [])
  | _ => none
set_option maxRecDepth 100000 in
theorem S88_ok : SOK 88 S88 := by
  intro xs q r bs h hq
  unfold S88 at h
  split at h <;> cases h
  rename_i cx
  have hq1 := hq
  refine FS_wk ?_
  simp only [List.map_cons, List.map_nil, wk2, wk1]
  rw [kRow_wk hq1]
  generalize uRow cx = x at *
  refine fs_of_awp mixed (sg_ok noS_ok) Try.func88 rfl (ent_of Try.func88 rfl rfl) [] (by rw [Try.ntmps88]; exact Nat.le_of_ble_eq_true rfl) (by simp) (by simp) (by simp) true ?_
  rw [Try.ntmps88, Try.results88]
  simp [okRow]
  try grind
@[simp] def S37 : Spec
  | [.agg cm] => some ((kMsg cm = true), .bool (okMsg (uMsg cm)), [])
  | _ => none
set_option maxRecDepth 100000 in
theorem S37_ok : SOK 37 S37 := by
  intro xs q r bs h hq
  unfold S37 at h
  split at h <;> cases h
  rename_i cm
  have hq1 := hq
  refine FS_wk ?_
  simp only [List.map_cons, List.map_nil, wk2, wk1]
  rw [kMsg_wk hq1]
  generalize uMsg cm = m at *
  refine fs_of_awp mixed (sg_ok (gc_ok S86_ok (gc_ok S87_ok (gc_ok S88_ok noS_ok)))) Try.func37 rfl (ent_of Try.func37 rfl rfl) [] (by rw [Try.ntmps37]; exact Nat.le_of_ble_eq_true rfl) (by simp) (by simp) (by simp) true ?_
  rw [Try.ntmps37, Try.results37]
  simp [okMsg, okRow]
  try grind
@[simp] def S69 : Spec
  | [.agg ce] => some ((kEv ce = true), .int .i64 (if okEv (uEv ce) then 0 else 8), [])
  | _ => none
set_option maxRecDepth 100000 in
theorem S69_ok : SOK 69 S69 := by
  intro xs q r bs h hq
  unfold S69 at h
  split at h <;> cases h
  rename_i ce
  have hq1 := hq
  refine FS_wk ?_
  simp only [List.map_cons, List.map_nil, wk2, wk1]
  rw [kEv_wk hq1]
  generalize uEv ce = e at *
  refine fs_of_awp mixed (sg_ok (gc_ok S86_ok (gc_ok S87_ok noS_ok))) Try.func69 rfl (ent_of Try.func69 rfl rfl) [] (by rw [Try.ntmps69]; exact Nat.le_of_ble_eq_true rfl) (by simp) (by simp) (by simp) true ?_
  rw [Try.ntmps69, Try.results69]
  rcases e with ⟨m, t, r⟩
  cases m <;> simp [okEv] <;> grind
@[simp] def S97 : Spec
  | [.agg ce] => some ((kEv ce = true), .agg (eMsg (toldM (uEv ce))), [])
  | _ => none
set_option maxRecDepth 100000 in
theorem S97_ok : SOK 97 S97 := by
  intro xs q r bs h hq
  unfold S97 at h
  split at h <;> cases h
  rename_i ce
  have hq1 := hq
  refine FS_wk ?_
  simp only [List.map_cons, List.map_nil, wk2, wk1]
  rw [kEv_wk hq1]
  generalize uEv ce = e at *
  refine fs_of_awp mixed (sg_ok noS_ok) Try.func97 rfl (ent_of Try.func97 rfl rfl) [] (by rw [Try.ntmps97]; exact Nat.le_of_ble_eq_true rfl) (by simp) (by simp) (by simp) true ?_
  rw [Try.ntmps97, Try.results97]
  rcases e with ⟨m, t, r⟩
  cases m <;> simp [toldM]
@[simp] def S65 : Spec
  | [.agg ce] => some ((kEv ce = true), .bool (!okEv (uEv ce)), [])
  | _ => none
set_option maxRecDepth 100000 in
theorem S65_ok : SOK 65 S65 := by
  intro xs q r bs h hq
  unfold S65 at h
  split at h <;> cases h
  rename_i ce
  have hq1 := hq
  refine FS_wk ?_
  simp only [List.map_cons, List.map_nil, wk2, wk1]
  rw [kEv_wk hq1]
  generalize uEv ce = e at *
  refine fs_of_awp mixed (sg_ok (gc_ok S66_ok noS_ok)) Try.func65 rfl (ent_of Try.func65 rfl rfl) [] (by rw [Try.ntmps65]; exact Nat.le_of_ble_eq_true rfl) (by simp) (by simp) (by simp) true ?_
  rw [Try.ntmps65, Try.results65]
  simp
  try grind

end Go.Proofs.Ytedhhjmjlpnlpaa.VW
