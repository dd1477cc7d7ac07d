/- Numbers, accumulators, entries. -/
import Derived.Test.YtedhhjmjlpnlpaaX2
namespace Go.Proofs.Ytedhhjmjlpnlpaa.VW
open Go Go.RowKit
set_option linter.unusedVariables false
set_option linter.unusedSimpArgs false

/-! 'all' below a number -/
def allN (n : Nat) (p : Nat → Bool) : Bool := (List.range n).all p
theorem allN_step {p : Nat → Bool} {i : Nat} (h : allN i p = true) (hi : p i = true) : allN (i + 1) p = true := by
  unfold allN at *; rw [List.range_succ, List.all_append, h]; simp [hi]
theorem allN_no {p : Nat → Bool} {i n : Nat} (h : i < n) (hi : p i = false) : allN n p = false := by
  unfold allN; rw [Bool.eq_false_iff]; intro ha
  rw [List.all_eq_true] at ha
  rw [ha i (by simpa using h)] at hi; cases hi
theorem allN_all {p : Nat → Bool} {i n : Nat} (h : ¬ i < n) (hi : i ≤ n) (hp : allN i p = true) : allN n p = true := by
  rwa [show n = i by omega]
@[simp] theorem allN_zero (p : Nat → Bool) : allN 0 p = true := rfl
def cmpI (a b : Int) : Int := if a < b then -1 else if b < a then 1 else 0
def orI (a b : Int) : Int := if a = 0 then b else a
def ordI (a b : Etr) : Int := orI (cmpI a.e b.e) (orI (cmpI a.s b.s) (cmpI a.k b.k))
def okAcc (a : Acc) : Bool := if a.c = 0 then a.s == 0 && a.l == 0 && a.g == 0 else if a.c = 1 then a.s == a.l && a.s == a.g else decide (1 < a.c) && decide (a.c ≤ 1073741824) && decide (a.l ≤ a.g)
def okEnt (x : Etr) : Bool := decide (-1100585369600 ≤ x.s) && decide (x.s < x.e) && decide (x.e ≤ 1100585369600) && okAcc x.a && okAcc x.b && decide (0 < x.a.c + x.b.c)
theorem okAcc_c {a : Acc} (h : okAcc a = true) : 0 ≤ a.c ∧ a.c ≤ 1073741824 := by
  unfold okAcc at h; split at h
  · omega
  · split at h
    · omega
    · simp at h; omega
instance : Inhabited Etr := ⟨⟨0, 0, 0, ⟨0, 0, 0, 0⟩, ⟨0, 0, 0, 0⟩⟩⟩
def okAt (l : List Etr) (i : Nat) : Bool := okEnt (l.getD i default) && (i == 0 || decide (ordI (l.getD (i - 1) default) (l.getD i default) < 0))
def stE (l : List Etr) : Int := if 4000 < l.length then 4 else if allN l.length (okAt l) then 0 else 8
@[simp] def S125 : Spec
  | [.int .i64 x] => some (True, .bool false, [])
  | _ => none
set_option maxRecDepth 100000 in
theorem S125_ok : SOK 125 S125 := by
  intro xs q r bs h hq
  unfold S125 at h
  split at h <;> cases h
  rename_i x
  refine FS_wk ?_
  simp only [List.map_cons, List.map_nil, wk2, wk1]
  refine fs_of_awp mixed (sg_ok noS_ok) Try.func125 rfl (ent_of Try.func125 rfl rfl) [] (by rw [Try.ntmps125]; exact Nat.le_of_ble_eq_true rfl) (by simp) (by simp) (by simp) true ?_
  rw [Try.ntmps125, Try.results125]
  simp
@[simp] def S124 : Spec
  | [.int .i64 x, .int .i64 y] => some (True, .int .i64 (cmpI x y), [])
  | _ => none
set_option maxRecDepth 100000 in
theorem S124_ok : SOK 124 S124 := by
  intro xs q r bs h hq
  unfold S124 at h
  split at h <;> cases h
  rename_i x y
  refine FS_wk ?_
  simp only [List.map_cons, List.map_nil, wk2, wk1]
  refine fs_of_awp mixed (sg_ok (gc_ok S125_ok noS_ok)) Try.func124 rfl (ent_of Try.func124 rfl rfl) [] (by rw [Try.ntmps124]; exact Nat.le_of_ble_eq_true rfl) (by simp) (by simp) (by simp) true ?_
  rw [Try.ntmps124, Try.results124]
  simp [cmpI]
  grind

def orL : List Int → Int
  | [] => 0
  | x :: l => orI x (orL l)
theorem orL_step {l : List Int} {i : Nat} {r : Int} (h : i < l.length) (hz : orL (l.drop (i + 1)) = r) : orL (l.drop i) = orI l[i] r := by
  rw [List.drop_eq_getElem_cons h, orL, hz]
@[simp] def S123 : Spec
  | [.sl _ cl] => some ((cl.all kInt = true ∧ cl.length ≤ 9223372036854775807), .int .i64 (orL (cl.map uInt)), [])
  | _ => none
set_option maxRecDepth 100000 in
theorem S123_ok : SOK 123 S123 := by
  intro xs q r bs h hq
  unfold S123 at h
  split at h <;> cases h
  rename_i exl cl
  have hq1 := hq
  refine FS_wk ?_
  simp only [List.map_cons, List.map_nil, wk2, wk1]
  obtain ⟨l, rfl⟩ := rows_ex (fun c hc => kInt_ok hc) hq1.1
  have hll := hq1.2
  simp only [List.length_map] at hll
  try simp only [List.map_map, ue_Rec, ue_Ev, ue_Row, ue_Msg, ue_Snd, ue_Ent, ue_Int, ue_Que, List.map_id] at *
  refine fs_of_awp mixed (sg_ok noS_ok) Try.func123 rfl (ent_of Try.func123 rfl rfl) [] (by rw [Try.ntmps123]; exact Nat.le_of_ble_eq_true rfl) (by simp) (by simp) (by simp) true ?_
  rw [Try.ntmps123, Try.results123]
  simp
  refine awp_loop (fun σ => ∃ i : Nat, i ≤ l.length ∧ σ.T 6 = .sl false (l.map eInt) ∧ σ.T 7 = .int .i64 l.length ∧ σ.T 3 = .int .i64 0 ∧ σ.T 8 = .int .i64 i ∧ orL (l.drop i) = orL l) (fun σ => l.length - (ival (σ.T 8)).toNat) ⟨0, by simp⟩ ?_
  rintro σ ⟨i, hi, h6, h7, h3, h8, hp⟩ J hJ
  by_cases hlt : i < l.length
  · have hw : IntKind.i64.wrap ((i : Int) + 1) = (i : Int) + 1 := wrap_i64 _ (by omega) (by omega)
    have hs := orL_step hlt rfl
    rw [hp, orI] at hs
    simp [h6, h7, h3, h8, hlt, getD_map, getQ_map, hw]
    refine ⟨fun h => by rw [hs, if_neg h], fun h => hJ _ ⟨i + 1, hlt, by simp [h6], by simp [h7], by simp [h3], by simp, by rw [hs, if_pos h]⟩ (by simp [h8]; omega)⟩
  · simp [h6, h7, h3, h8, hlt]
    rw [← hp, List.drop_eq_nil_of_le (by omega), orL]
@[simp] def S122 : Spec
  | [.agg ca] => some ((kAcc ca = true), .int .i64 (if okAcc (uAcc ca) then 0 else 8), [])
  | _ => none
set_option maxRecDepth 100000 in
theorem S122_ok : SOK 122 S122 := by
  intro xs q r bs h hq
  unfold S122 at h
  split at h <;> cases h
  rename_i ca
  have hq1 := hq
  refine FS_wk ?_
  simp only [List.map_cons, List.map_nil, wk2, wk1]
  rw [kAcc_wk hq1]
  generalize uAcc ca = a at *
  refine fs_of_awp mixed (sg_ok noS_ok) Try.func122 rfl (ent_of Try.func122 rfl rfl) [] (by rw [Try.ntmps122]; exact Nat.le_of_ble_eq_true rfl) (by simp) (by simp) (by simp) true ?_
  rw [Try.ntmps122, Try.results122]
  simp [okAcc]
  grind
@[simp] def S120 : Spec
  | [.agg cx, .agg cy] => some ((kEnt cx = true) ∧ (kEnt cy = true), .int .i64 (ordI (uEnt cx) (uEnt cy)), [])
  | _ => none
set_option maxRecDepth 100000 in
theorem S120_ok : SOK 120 S120 := by
  intro xs q r bs h hq
  unfold S120 at h
  split at h <;> cases h
  rename_i cx cy
  obtain ⟨hq1, hq2⟩ := hq
  refine FS_wk ?_
  simp only [List.map_cons, List.map_nil, wk2, wk1]
  rw [kEnt_wk hq1]
  generalize uEnt cx = x at *
  rw [kEnt_wk hq2]
  generalize uEnt cy = y at *
  refine fs_of_awp mixed (sg_ok (gc_ok S123_ok (gc_ok S124_ok noS_ok))) Try.func120 rfl (ent_of Try.func120 rfl rfl) [] (by rw [Try.ntmps120]; exact Nat.le_of_ble_eq_true rfl) (by simp) (by simp) (by simp) true ?_
  rw [Try.ntmps120, Try.results120]
  simp [orL, ordI]
  refine ⟨by rfl, ?_⟩
  grind [orI]
@[simp] def S119 : Spec
  | [.agg cx] => some ((kEnt cx = true), .bool (okEnt (uEnt cx)), [])
  | _ => none
set_option maxRecDepth 100000 in
theorem S119_ok : SOK 119 S119 := by
  intro xs q r bs h hq
  unfold S119 at h
  split at h <;> cases h
  rename_i cx
  have hq1 := hq
  refine FS_wk ?_
  simp only [List.map_cons, List.map_nil, wk2, wk1]
  rw [kEnt_wk hq1]
  generalize uEnt cx = x at *
  refine fs_of_awp mixed (sg_ok (gc_ok S122_ok noS_ok)) Try.func119 rfl (ent_of Try.func119 rfl rfl) [] (by rw [Try.ntmps119]; exact Nat.le_of_ble_eq_true rfl) (by simp) (by simp) (by simp) true ?_
  rw [Try.ntmps119, Try.results119]
  have h1 := @okAcc_c x.a
  have h2 := @okAcc_c x.b
  have hw : okAcc x.a = true → okAcc x.b = true → IntKind.i64.wrap (x.a.c + x.b.c) = x.a.c + x.b.c := fun k1 k2 => wrap_i64 _ (by have := h1 k1; have := h2 k2; omega) (by have := h1 k1; have := h2 k2; omega)
  by_cases k1 : okAcc x.a = true <;> by_cases k2 : okAcc x.b = true <;> simp_all [okEnt] <;> grind
@[simp] def S104 : Spec
  | [.bool h, .int .i64 n] => some (True, .int .i64 (if h then n else 0), [])
  | _ => none
set_option maxRecDepth 100000 in
theorem S104_ok : SOK 104 S104 := by
  intro xs q r bs h hq
  unfold S104 at h
  split at h <;> cases h
  rename_i h n
  refine FS_wk ?_
  simp only [List.map_cons, List.map_nil, wk2, wk1]
  refine fs_of_awp mixed (sg_ok noS_ok) Try.func104 rfl (ent_of Try.func104 rfl rfl) [] (by rw [Try.ntmps104]; exact Nat.le_of_ble_eq_true rfl) (by simp) (by simp) (by simp) true ?_
  rw [Try.ntmps104, Try.results104]
  cases h <;> simp
@[simp] def S106 : Spec
  | [.int .i64 t] => some (True, .bool (t == -9223372036854775808 || isMark t), [])
  | _ => none
set_option maxRecDepth 100000 in
theorem S106_ok : SOK 106 S106 := by
  intro xs q r bs h hq
  unfold S106 at h
  split at h <;> cases h
  rename_i t
  refine FS_wk ?_
  simp only [List.map_cons, List.map_nil, wk2, wk1]
  refine fs_of_awp mixed (sg_ok (gc_ok S83_ok noS_ok)) Try.func106 rfl (ent_of Try.func106 rfl rfl) [] (by rw [Try.ntmps106]; exact Nat.le_of_ble_eq_true rfl) (by simp) (by simp) (by simp) true ?_
  rw [Try.ntmps106, Try.results106]
  by_cases h : t = -9223372036854775808 <;> simp [h, okMsg] <;> grind

def limL (k : Int) : Int := if k = 2 ∨ k = 4 then 1 else if k = 5 then 2 else if k = 1 ∨ k = 3 ∨ k = 6 ∨ k = 7 then 0 else 1
def limM (k : Int) : Int := if k = 2 then 1 else if k = 4 then 4 else if k = 5 then 2 else 0
@[simp] def S103 : Spec
  | [.int .u8 k] => some (True, .tup [.int .i64 (limL k), .int .i64 (limM k), .bool (k == 4 || k == 5), .bool (k == 1), .bool (k == 6), .bool (k == 7)], [])
  | _ => none
set_option maxRecDepth 100000 in
theorem S103_ok : SOK 103 S103 := by
  intro xs q r bs h hq
  unfold S103 at h
  split at h <;> cases h
  rename_i k
  refine FS_wk ?_
  simp only [List.map_cons, List.map_nil, wk2, wk1]
  refine fs_of_awp mixed (sg_ok noS_ok) Try.func103 rfl (ent_of Try.func103 rfl rfl) [] (by rw [Try.ntmps103]; exact Nat.le_of_ble_eq_true rfl) (by simp) (by simp) (by simp) true ?_
  rw [Try.ntmps103, Try.results103]
  simp
  (repeat' first | refine And.intro ?_ ?_ | intro _) <;> grind [limL, limM]
@[simp] def S105 : Spec
  | [.sl _ cl] => some ((cl.all kEnt = true ∧ cl.length ≤ 9223372036854775807), .int .i64 (stE (cl.map uEnt)), [])
  | _ => none
set_option maxHeartbeats 2000000 in
set_option maxRecDepth 100000 in
theorem S105_ok : SOK 105 S105 := by
  intro xs q r bs h hq
  unfold S105 at h
  split at h <;> cases h
  rename_i exl cl
  have hq1 := hq
  refine FS_wk ?_
  simp only [List.map_cons, List.map_nil, wk2, wk1]
  obtain ⟨l, rfl⟩ := rows_ex (fun c hc => kEnt_ok hc) hq1.1
  have hll := hq1.2
  simp only [List.length_map] at hll
  try simp only [List.map_map, ue_Rec, ue_Ev, ue_Row, ue_Msg, ue_Snd, ue_Ent, ue_Int, ue_Que, List.map_id] at *
  refine fs_of_awp mixed (sg_ok (gc_ok S119_ok (gc_ok S120_ok noS_ok))) Try.func105 rfl (ent_of Try.func105 rfl rfl) [] (by rw [Try.ntmps105]; exact Nat.le_of_ble_eq_true rfl) (by simp) (by simp) (by simp) true ?_
  rw [Try.ntmps105, Try.results105]
  simp
  refine ⟨fun h => by unfold stE; rw [if_pos (by omega)], fun hle => ?_⟩
  refine awp_loop (fun σ => ∃ i : Nat, i ≤ l.length ∧ σ.T 0 = .sl false (l.map eEnt) ∧ σ.T 8 = .sl false (l.map eEnt) ∧ σ.T 9 = .int .i64 l.length ∧ σ.T 10 = .int .i64 i ∧ allN i (okAt l) = true) (fun σ => l.length - (ival (σ.T 10)).toNat) ⟨0, by simp⟩ ?_
  rintro σ ⟨i, hi, h0, h8, h9, h10, hp⟩ J hJ
  by_cases hlt : i < l.length
  · have hw : IntKind.i64.wrap ((i : Int) + 1) = (i : Int) + 1 := wrap_i64 _ (by omega) (by omega)
    have hw2 : IntKind.i64.wrap ((i : Int) - 1) = (i : Int) - 1 := wrap_i64 _ (by omega) (by omega)
    have hlt2 : i - 1 < l.length := by omega
    simp [h0, h8, h9, h10, hlt, hlt2, getD_map, getQ_map, hw, hw2]
    have ho : okAt l i = (okEnt l[i] && (i == 0 || decide (ordI l[i - 1] l[i] < 0))) := by unfold okAt; simp [hlt, hlt2]
    refine ⟨fun _ _ => ⟨by omega, by omega⟩, by rfl, fun h => ?_, fun h1 h2 => hJ _ ⟨i + 1, hlt, by simp [h0], by simp [h8], by simp [h9], by simp, allN_step hp ?_⟩ (by simp [h10]; omega)⟩
    · have := allN_no hlt (show okAt l i = false by rw [ho]; grind)
      unfold stE; rw [if_neg (by omega), this]; rfl
    · rw [ho]; grind
  · simp [h0, h8, h9, h10, hlt]
    have := allN_all hlt hi hp
    unfold stE; rw [if_neg (by omega), if_pos this]

end Go.Proofs.Ytedhhjmjlpnlpaa.VW
