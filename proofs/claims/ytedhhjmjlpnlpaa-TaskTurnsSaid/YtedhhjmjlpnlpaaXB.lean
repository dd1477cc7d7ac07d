/- Laws of parts. -/
import Derived.Test.YtedhhjmjlpnlpaaXA
import Derived.Test.YtedhhjmjlpnlpaaX4
import Derived.Test.YtedhhjmjlpnlpaaXO
namespace Go.Proofs.Ytedhhjmjlpnlpaa.VW
open Go Go.RowKit
set_option linter.unusedVariables false
set_option linter.unusedSimpArgs false

theorem tmod_emod {k p : Int} : (k.tmod p) % p = k % p := by
  rw [Int.tmod_def, Int.sub_mul_emod_self_left]
theorem ofV_emod {k p : Int} (h : ofE p = 0) : ofV k p = k % p := by
  have hp : 1 ≤ p ∧ p ≤ 3 := by unfold ofE at h; grind
  have h1 := Int.lt_tmod_of_pos k (show 0 < p by omega)
  unfold ofV; rw [if_pos h, Int.tmod_eq_emod_of_nonneg (by omega), Int.add_emod_right, tmod_emod]
@[simp] def S43 : Spec
  | [] => some (True, .bool true, [])
  | _ => none
set_option maxHeartbeats 2000000 in
set_option maxRecDepth 100000 in
theorem S43_ok : SOK 43 S43 := by
  intro xs q r bs h hq
  unfold S43 at h
  split at h <;> cases h
  refine FS_wk ?_
  simp only [List.map_cons, List.map_nil, wk2, wk1]
  refine fs_of_awp mixed (sg_ok (gc_ok S91_ok (gc_ok S49_ok (gc_ok S51_ok (gc_ok S31_ok noS_ok))))) Try.func43 rfl (ent_of Try.func43 rfl rfl) [] (by rw [Try.ntmps43]; exact Nat.le_of_ble_eq_true rfl) (by simp) (by simp) (by simp) true ?_
  rw [Try.ntmps43, Try.results43]
  simp
  refine ⟨by rfl, ?_⟩
  decide
@[simp] def S7 : Spec
  | [.int .i64 a, .int .i64 c, .int .i64 p] => some ((inI a ∧ inI c ∧ inI p), .bool true, [])
  | _ => none
set_option maxRecDepth 100000 in
theorem S7_ok : SOK 7 S7 := by
  intro xs q r bs h hq
  unfold S7 at h
  split at h <;> cases h
  rename_i a c p
  have hq1 := hq
  refine FS_wk ?_
  simp only [List.map_cons, List.map_nil, wk2, wk1]
  refine fs_of_awp mixed (sg_ok (gc_ok S43_ok (gc_ok S44_ok noS_ok))) Try.func7 rfl (ent_of Try.func7 rfl rfl) [] (by rw [Try.ntmps7]; exact Nat.le_of_ble_eq_true rfl) (by simp) (by simp) (by simp) true ?_
  rw [Try.ntmps7, Try.results7]
  obtain ⟨⟨a1, a2⟩, ⟨b1, b2⟩, p1, p2⟩ := hq
  simp
  intro h1 h2
  have e : ofE p = 0 := by unfold ofE; rw [if_neg (by omega)]
  have r := @ofV_r a p e
  have r' := @ofV_r c p e
  have e1 : ofE 1 = 0 := by decide
  have e2 : ofV a 1 = 0 := by rw [ofV_emod e1]; omega
  refine ⟨⟨⟨⟨⟨⟨⟨e, r.1⟩, r.2⟩, r'.1⟩, r'.2⟩, e1⟩, e2⟩, ?_⟩
  intros
  refine ⟨by omega, by rfl, ?_⟩
  have t1 := Int.lt_tmod_of_pos a (show 0 < p by omega)
  have t2 := Int.tmod_lt_of_pos a (show 0 < p by omega)
  have t3 := Int.lt_tmod_of_pos c (show 0 < p by omega)
  have t4 := Int.tmod_lt_of_pos c (show 0 < p by omega)
  have m1 := @tmod_emod a p
  have m2 := @tmod_emod c p
  rw [wrap_i64 _ (by omega) (by omega), Bool.eq_iff_iff, beq_iff_eq, beq_iff_eq, ofV_emod e, ofV_emod e, ← Int.dvd_iff_tmod_eq_zero]
  have : p = 1 ∨ p = 2 ∨ p = 3 := by omega
  rcases this with rfl | rfl | rfl <;> omega
@[simp] def S8 : Spec
  | [.int .i64 a, .int .i64 p] => some ((inI a ∧ inI p), .bool true, [])
  | _ => none
set_option maxRecDepth 100000 in
theorem S8_ok : SOK 8 S8 := by
  intro xs q r bs h hq
  unfold S8 at h
  split at h <;> cases h
  rename_i a p
  have hq1 := hq
  refine FS_wk ?_
  simp only [List.map_cons, List.map_nil, wk2, wk1]
  refine fs_of_awp mixed (sg_ok (gc_ok S43_ok (gc_ok S44_ok noS_ok))) Try.func8 rfl (ent_of Try.func8 rfl rfl) [] (by rw [Try.ntmps8]; exact Nat.le_of_ble_eq_true rfl) (by simp) (by simp) (by simp) true ?_
  rw [Try.ntmps8, Try.results8]
  obtain ⟨⟨a1, a2⟩, p1, p2⟩ := hq
  simp
  intro h1 h2 h3
  have e : ofE p = 0 := by unfold ofE; rw [if_neg (by omega)]
  have r := @ofV_r a p e
  refine ⟨e, ?_⟩
  rw [wrap_i64 (a + 1) (by omega) (by omega), wrap_i64 (ofV a p + 1) (by omega) (by omega), wrap_i64 (p - 1) (by omega) (by omega), ofV_emod e, ofV_emod e]
  have : p = 1 ∨ p = 2 ∨ p = 3 := by omega
  rcases this with rfl | rfl | rfl <;> omega

end Go.Proofs.Ytedhhjmjlpnlpaa.VW
