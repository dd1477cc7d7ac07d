/- wrong. -/
import Derived.Test.YtedhhjmjlpnlpaaYD
namespace Go.Proofs.Ytedhhjmjlpnlpaa.VW
open Go Go.RowKit
set_option linter.unusedVariables false
set_option linter.unusedSimpArgs false
set_option maxRecDepth 100000 in
theorem n42_0 : okT ⟨0, 0, 0, [], [], [], [], [], []⟩ = false := by decide
set_option maxRecDepth 100000 in
theorem n42_1 : okT ⟨8, 0, 0, [], [], [], [], [], []⟩ = false := by decide
set_option maxRecDepth 100000 in
theorem n42_2 : okT ⟨3, 4, 0, [], [], [], [], [], []⟩ = false := by decide
set_option maxRecDepth 100000 in
theorem n42_3 : okT ⟨3, -1, 0, [], [], [], [], [], []⟩ = false := by decide
set_option maxRecDepth 100000 in
theorem n42_4 : okT ⟨3, 0, 20, [], [], [], [], [], []⟩ = false := by decide
set_option maxRecDepth 100000 in
theorem n42_5 : okT ⟨3, 0, -1, [], [], [], [], [], []⟩ = false := by decide
set_option maxRecDepth 100000 in
theorem n42_6 : okT ⟨3, 0, 0, [], [-9223372036854775808], [], [], [], []⟩ = false := by decide
set_option maxRecDepth 100000 in
theorem n42_7 : okT ⟨2, 0, 0, [], [], [], [], [], []⟩ = false := by decide
set_option maxRecDepth 100000 in
theorem n42_8 : okT ⟨2, 0, 0, [], [-9223372036854775807], [], [], [], []⟩ = false := by decide
set_option maxRecDepth 100000 in
theorem n42_9 : okT ⟨2, 0, 0, [], [-9223372036854775808], [], [], [⟨0, 0, 0, 0, 0⟩], []⟩ = false := by decide
set_option maxRecDepth 100000 in
theorem n42_10 : okT ⟨4, 0, 0, [], [], [], [], [], []⟩ = false := by decide
set_option maxRecDepth 100000 in
theorem n42_11 : okT ⟨4, 0, 0, [], (List.replicate 5 0), [], [], [], []⟩ = false := by decide
set_option maxRecDepth 100000 in
theorem n42_12 : okT ⟨5, 0, 0, [], [-9223372036854775808], [], [], [], []⟩ = false := by decide
set_option maxRecDepth 100000 in
theorem n42_13 : okT ⟨1, 0, 0, [], [], [], (List.replicate 61 ⟨false, 0, ⟨0, 0, 0⟩⟩), [], []⟩ = false := by decide
set_option maxRecDepth 100000 in
theorem n42_14 : okT ⟨1, 0, 0, [], [], [], [⟨false, 1, ⟨0, 0, 0⟩⟩], [], []⟩ = false := by decide
set_option maxRecDepth 100000 in
theorem n42_15 : okT ⟨6, 0, 0, [], [], [], [], [⟨0, 0, 0, 0, 0⟩], []⟩ = false := by decide
set_option maxRecDepth 100000 in
theorem n42_16 : okT ⟨6, 0, 0, [], [], [], [], [], [⟨0, 0, 0⟩]⟩ = false := by decide
set_option maxRecDepth 100000 in
theorem n42_17 : okT ⟨7, 0, 0, [], [], [], [], [], [⟨0, 9223372036854775807, 0⟩]⟩ = false := by decide
set_option maxRecDepth 100000 in
theorem n42_18 : okT ⟨2, 0, 0, [], [-9223372036854775808], [⟨0, 0, 0, ⟨0, 0, 0, 0⟩, ⟨0, 0, 0, 0⟩⟩], [], [], []⟩ = false := by decide
set_option maxRecDepth 100000 in
theorem n42_19 : okT ⟨4, 0, 0, [], [-9223372036854775808], [⟨0, 0, 0, ⟨0, 0, 0, 0⟩, ⟨0, 0, 0, 0⟩⟩], [], [], []⟩ = false := by decide
set_option maxRecDepth 100000 in
theorem n42_20 : okT ⟨2, 0, 0, [⟨3, ⟨2, ⟨0, 0, 0⟩, 1, ⟨0, 0, 0, 0, 0⟩⟩⟩], [-9223372036854775808], [], [], [], []⟩ = false := by decide
set_option maxRecDepth 100000 in
theorem n42_21 : okT ⟨2, 0, 0, [⟨-1, ⟨2, ⟨0, 0, 0⟩, 1, ⟨0, 0, 0, 0, 0⟩⟩⟩], [-9223372036854775808], [], [], [], []⟩ = false := by decide
set_option maxRecDepth 100000 in
theorem n42_22 : okT ⟨2, 0, 0, [⟨0, ⟨0, ⟨0, 0, 0⟩, 0, ⟨0, 0, 0, 0, 0⟩⟩⟩], [-9223372036854775808], [], [], [], []⟩ = false := by decide
@[simp] def R42 : List (List AV) := [[.int .u8 0, .int .i64 0, .int .i64 0, .sl false [], .sl false [], .sl false [], .sl false [], .sl false [], .sl false []],
  [.int .u8 8, .int .i64 0, .int .i64 0, .sl false [], .sl false [], .sl false [], .sl false [], .sl false [], .sl false []],
  [.int .u8 3, .int .i64 4, .int .i64 0, .sl false [], .sl false [], .sl false [], .sl false [], .sl false [], .sl false []],
  [.int .u8 3, .int .i64 (-1), .int .i64 0, .sl false [], .sl false [], .sl false [], .sl false [], .sl false [], .sl false []],
  [.int .u8 3, .int .i64 0, .int .i64 20, .sl false [], .sl false [], .sl false [], .sl false [], .sl false [], .sl false []],
  [.int .u8 3, .int .i64 0, .int .i64 (-1), .sl false [], .sl false [], .sl false [], .sl false [], .sl false [], .sl false []],
  [.int .u8 3, .int .i64 0, .int .i64 0, .sl false [], .sl false [[.int .i64 (-9223372036854775808)]], .sl false [], .sl false [], .sl false [], .sl false []],
  [.int .u8 2, .int .i64 0, .int .i64 0, .sl false [], .sl false [], .sl false [], .sl false [], .sl false [], .sl false []],
  [.int .u8 2, .int .i64 0, .int .i64 0, .sl false [], .sl false [[.int .i64 (-9223372036854775807)]], .sl false [], .sl false [], .sl false [], .sl false []],
  [.int .u8 2, .int .i64 0, .int .i64 0, .sl false [], .sl false [[.int .i64 (-9223372036854775808)]], .sl false [], .sl false [], .own (31, 0) 1, .sl false []],
  [.int .u8 4, .int .i64 0, .int .i64 0, .sl false [], .sl false [], .sl false [], .sl false [], .sl false [], .sl false []],
  [.int .u8 4, .int .i64 0, .int .i64 0, .sl false [], .own (36, 0) 1, .sl false [], .sl false [], .sl false [], .sl false []],
  [.int .u8 5, .int .i64 0, .int .i64 0, .sl false [], .sl false [[.int .i64 (-9223372036854775808)]], .sl false [], .sl false [], .sl false [], .sl false []],
  [.int .u8 1, .int .i64 0, .int .i64 0, .sl false [], .sl false [], .sl false [], .own (42, 0) 1, .sl false [], .sl false []],
  [.int .u8 1, .int .i64 0, .int .i64 0, .sl false [], .sl false [], .sl false [], .sl false [[.bool false, .int .i64 1, .int .i64 0, .int .i64 0, .int .i64 0]], .sl false [], .sl false []],
  [.int .u8 6, .int .i64 0, .int .i64 0, .sl false [], .sl false [], .sl false [], .sl false [], .own (49, 0) 1, .sl false []],
  [.int .u8 6, .int .i64 0, .int .i64 0, .sl false [], .sl false [], .sl false [], .sl false [], .sl false [], .own (52, 0) 1],
  [.int .u8 7, .int .i64 0, .int .i64 0, .sl false [], .sl false [], .sl false [], .sl false [], .sl false [], .sl false [[.int .i64 0, .int .i64 9223372036854775807, .int .i64 0]]],
  [.int .u8 2, .int .i64 0, .int .i64 0, .sl false [], .sl false [[.int .i64 (-9223372036854775808)]], .own (60, 0) 1, .sl false [], .sl false [], .sl false []],
  [.int .u8 4, .int .i64 0, .int .i64 0, .sl false [], .sl false [[.int .i64 (-9223372036854775808)]], .own (64, 0) 1, .sl false [], .sl false [], .sl false []],
  [.int .u8 2, .int .i64 0, .int .i64 0, .sl false [[.int .i64 3, .int .u8 2, .int .i64 0, .int .i64 0, .int .i64 0, .int .i64 1, .int .i64 0, .int .i64 0, .int .i64 0, .int .i64 0, .int .i64 0]], .sl false [[.int .i64 (-9223372036854775808)]], .sl false [], .sl false [], .sl false [], .sl false []],
  [.int .u8 2, .int .i64 0, .int .i64 0, .sl false [[.int .i64 (-1), .int .u8 2, .int .i64 0, .int .i64 0, .int .i64 0, .int .i64 1, .int .i64 0, .int .i64 0, .int .i64 0, .int .i64 0, .int .i64 0]], .sl false [[.int .i64 (-9223372036854775808)]], .sl false [], .sl false [], .sl false [], .sl false []],
  [.int .u8 2, .int .i64 0, .int .i64 0, .sl false [[.int .i64 0, .int .u8 0, .int .i64 0, .int .i64 0, .int .i64 0, .int .i64 0, .int .i64 0, .int .i64 0, .int .i64 0, .int .i64 0, .int .i64 0]], .sl false [[.int .i64 (-9223372036854775808)]], .sl false [], .sl false [], .sl false [], .sl false []]]
def I42 (σ : St) : Prop := σ.T 3 = .sl true R42 ∧ σ.γ (31, 0) = 1 ∧ σ.γ (36, 0) = 1 ∧ σ.γ (42, 0) = 1 ∧ σ.γ (49, 0) = 1 ∧ σ.γ (52, 0) = 1 ∧ σ.γ (60, 0) = 1 ∧ σ.γ (64, 0) = 1 ∧ (σ.H (31, 0) = some (.rows 5 [[.int .i64 0, .int .i64 0, .int .i64 0, .int .i64 0, .int .i64 0]]) ∨ σ.H (31, 0) = some (.frz [[.int .i64 0, .int .i64 0, .int .i64 0, .int .i64 0, .int .i64 0]])) ∧ (σ.H (36, 0) = some (.rows 1 (List.replicate 5 [.int .i64 0])) ∨ σ.H (36, 0) = some (.frz (List.replicate 5 [.int .i64 0]))) ∧ (σ.H (42, 0) = some (.rows 5 (List.replicate 61 [.bool false, .int .i64 0, .int .i64 0, .int .i64 0, .int .i64 0])) ∨ σ.H (42, 0) = some (.frz (List.replicate 61 [.bool false, .int .i64 0, .int .i64 0, .int .i64 0, .int .i64 0]))) ∧ (σ.H (49, 0) = some (.rows 5 [[.int .i64 0, .int .i64 0, .int .i64 0, .int .i64 0, .int .i64 0]]) ∨ σ.H (49, 0) = some (.frz [[.int .i64 0, .int .i64 0, .int .i64 0, .int .i64 0, .int .i64 0]])) ∧ (σ.H (52, 0) = some (.rows 3 [[.int .i64 0, .int .i64 0, .int .i64 0]]) ∨ σ.H (52, 0) = some (.frz [[.int .i64 0, .int .i64 0, .int .i64 0]])) ∧ (σ.H (60, 0) = some (.rows 11 [[.int .i64 0, .int .i64 0, .int .i64 0, .int .i64 0, .int .i64 0, .int .i64 0, .int .i64 0, .int .i64 0, .int .i64 0, .int .i64 0, .int .i64 0]]) ∨ σ.H (60, 0) = some (.frz [[.int .i64 0, .int .i64 0, .int .i64 0, .int .i64 0, .int .i64 0, .int .i64 0, .int .i64 0, .int .i64 0, .int .i64 0, .int .i64 0, .int .i64 0]])) ∧ (σ.H (64, 0) = some (.rows 11 [[.int .i64 0, .int .i64 0, .int .i64 0, .int .i64 0, .int .i64 0, .int .i64 0, .int .i64 0, .int .i64 0, .int .i64 0, .int .i64 0, .int .i64 0]]) ∨ σ.H (64, 0) = some (.frz [[.int .i64 0, .int .i64 0, .int .i64 0, .int .i64 0, .int .i64 0, .int .i64 0, .int .i64 0, .int .i64 0, .int .i64 0, .int .i64 0, .int .i64 0]]))

@[simp] def S38x : Spec
  | [.sl true []] => some (True, .agg [.int .u8 2, .int .i64 0, .int .i64 0, .sl true [], .sl true [[.int .i64 (-9223372036854775808)]], .sl true [], .sl true [], .sl true [], .sl true []], [])
  | [.sl _ cl] => some ((cl.all kSnd = true ∧ cl.length ≤ 9223372036854775807), .agg (eTsk ⟨2, 0, 0, cl.map uSnd, [-9223372036854775808], [], [], [], []⟩), [])
  | _ => none
theorem S38x_ok : SOK 38 S38x := by
  intro xs q r bs h hq
  unfold S38x at h
  split at h
  · cases h
    refine fs_of_awp mixed (sg_ok noS_ok) Try.func38 rfl (ent_of Try.func38 rfl rfl) [] (by rw [Try.ntmps38]; exact Nat.le_of_ble_eq_true rfl) (by simp) (by simp) (by simp) false ?_
    rw [Try.ntmps38, Try.results38]
    simp
  · cases h
    exact S38_ok _ _ _ _ rfl hq
  · cases h
@[simp] def S42 : Spec
  | [] => some (True, .bool true, [])
  | _ => none
set_option maxHeartbeats 8000000 in
set_option maxRecDepth 100000 in
theorem S42_ok : SOK 42 S42 := by
  intro xs q r bs h hq
  unfold S42 at h
  split at h <;> cases h
  refine FS_wk ?_
  simp only [List.map_cons, List.map_nil, wk2, wk1]
  refine fs_of_awp mixed (sg_ok (gc_ok S39_ok (gc_ok S38x_ok (gc_ok S90_ok noS_ok)))) Try.func42 rfl (ent_of Try.func42 rfl rfl) [] (by rw [Try.ntmps42]; exact Nat.le_of_ble_eq_true rfl) (by simp) (by simp) (by simp) true ?_
  rw [Try.ntmps42, Try.results42]
  simp (maxSteps := 1000000)
  refine ⟨by kernel_rfl, ?_⟩
  refine awp_loop (fun σ => ∃ i : Nat, i ≤ 4001 ∧ I42 σ ∧ σ.T 1 = .ptr (1, 0) 1 0 ∧ σ.H (1, 0) = some (.var (eSnd ⟨0, ⟨2, ⟨0, 0, 0⟩, 1, ⟨0, 0, 0, 0, 0⟩⟩⟩)) ∧ σ.γ (1, 0) = 1 ∧ σ.T 4 = .ptr (4, 0) 1 0 ∧ σ.γ (4, 0) = 1 ∧ σ.T 5 = .int .i64 i ∧ ((i = 0 ∧ σ.H (4, 0) = some (.var [.int .u8 2, .int .i64 0, .int .i64 0, .sl true [], .sl true [[.int .i64 (-9223372036854775808)]], .sl true [], .sl true [], .sl true [], .sl true []])) ∨ (0 < i ∧ σ.H (4, 0) = some (.var [.int .u8 2, .int .i64 0, .int .i64 0, .own (87, 0) (σ.γ (87, 0)), .sl true [[.int .i64 (-9223372036854775808)]], .sl true [], .sl true [], .sl true [], .sl true []]) ∧ σ.H (87, 0) = some (.rows 11 (List.replicate i (eSnd ⟨0, ⟨2, ⟨0, 0, 0⟩, 1, ⟨0, 0, 0, 0, 0⟩⟩⟩)))))) (fun σ => 4001 - (ival (σ.T 5)).toNat) ⟨0, by omega, by simp [I42], by simp⟩ ?_
  rintro σ ⟨i, hi, hI, h1, hH1, hg1, h4, hg4, h5, hO⟩ J hJ
  simp only [eSnd] at hH1
  by_cases hlt : i < 4001
  · have hltI : (i : Int) < 4001 := by omega
    have hw : IntKind.i64.wrap ((i : Int) + 1) = (i : Int) + 1 := wrap_i64 _ (by omega) (by omega)
    have hs : List.replicate (i + 1) (eSnd ⟨0, ⟨2, ⟨0, 0, 0⟩, 1, ⟨0, 0, 0, 0, 0⟩⟩⟩) = List.replicate i (eSnd ⟨0, ⟨2, ⟨0, 0, 0⟩, 1, ⟨0, 0, 0, 0, 0⟩⟩⟩) ++ [eSnd ⟨0, ⟨2, ⟨0, 0, 0⟩, 1, ⟨0, 0, 0, 0, 0⟩⟩⟩] := List.replicate_succ'
    rcases hO with ⟨h0, hO⟩ | ⟨h0, hO, hR⟩
    · simp (maxSteps := 1000000) [-List.reduceReplicate, h1, hH1, hg1, h4, hg4, h5, hO, hltI, hw]
      exact hJ _ ⟨i + 1, by omega, by unfold I42 at hI ⊢; simpa [-List.reduceReplicate] using hI, by simp [h1], by simp [hH1], by simp [hg1], by simp [h4], by simp [hg4], by simp, .inr ⟨by omega, by simp, by subst h0; simp⟩⟩ (by simp [h5]; omega)
    · simp (maxSteps := 1000000) [-List.reduceReplicate, h1, hH1, hg1, h4, hg4, h5, hO, hR, hltI, hw]
      repeat ((with_reducible refine And.intro ?_ ?_); (· ((repeat' first | refine And.intro ?_ ?_ | intro _) <;> omega)))
      exact hJ _ ⟨i + 1, by omega, by unfold I42 at hI ⊢; simpa [-List.reduceReplicate] using hI, by simp [h1], by simp [hH1], by simp [hg1], by simp [h4], by simp [hg4], by simp, .inr ⟨by omega, by simp, by rw [hs]; simp⟩⟩ (by simp [h5]; omega)
  have hie : i = 4001 := by omega
  subst hie
  have hltI : ¬ ((4001 : Nat) : Int) < 4001 := by omega
  rcases hO with ⟨h0, hO⟩ | ⟨h0, hO, hR⟩
  · omega
  simp (maxSteps := 1000000) [-List.reduceReplicate, h1, hH1, hg1, h4, hg4, h5, hO, hR]
  refine awp_loop (fun σ => ∃ i : Nat, i ≤ 23 ∧ I42 σ ∧ σ.T 4 = .ptr (4, 0) 1 0 ∧ σ.γ (4, 0) = 1 ∧ σ.H (4, 0) = some (.var [.int .u8 2, .int .i64 0, .int .i64 0, .own (87, 0) (σ.γ (87, 0)), .sl true [[.int .i64 (-9223372036854775808)]], .sl true [], .sl true [], .sl true [], .sl true []]) ∧ σ.H (87, 0) = some (.rows 11 (List.replicate 4001 (eSnd ⟨0, ⟨2, ⟨0, 0, 0⟩, 1, ⟨0, 0, 0, 0, 0⟩⟩⟩))) ∧ σ.T 6 = .int .i64 i) (fun σ => 23 - (ival (σ.T 6)).toNat) ⟨0, by omega, by unfold I42 at hI ⊢; simpa [-List.reduceReplicate] using hI, by simp [-List.reduceReplicate, h4, hg4, hO, hR]⟩ ?_
  clear hI h1 hH1 hg1 h4 hg4 h5 hO hR hltI h0 hi hlt hJ
  rintro σ ⟨i, hi, hI, h4, hg4, hO, hR, h6⟩ J hJ
  by_cases hlt : i < 23
  · have hltI : (i : Int) < 23 := by omega
    unfold I42 at hI
    obtain ⟨h3, g31, g36, g42, g49, g52, g60, g64, v31, v36, v42, v49, v52, v60, v64⟩ := hI
    have hcases : i = 0 ∨ i = 1 ∨ i = 2 ∨ i = 3 ∨ i = 4 ∨ i = 5 ∨ i = 6 ∨ i = 7 ∨ i = 8 ∨ i = 9 ∨ i = 10 ∨ i = 11 ∨ i = 12 ∨ i = 13 ∨ i = 14 ∨ i = 15 ∨ i = 16 ∨ i = 17 ∨ i = 18 ∨ i = 19 ∨ i = 20 ∨ i = 21 ∨ i = 22 := by omega
    rcases hcases with rfl | rfl | rfl | rfl | rfl | rfl | rfl | rfl | rfl | rfl | rfl | rfl | rfl | rfl | rfl | rfl | rfl | rfl | rfl | rfl | rfl | rfl | rfl
    · simp (maxSteps := 1000000) [-List.reduceReplicate, h3, h6, n42_0]
      refine hJ _ ⟨1, by omega, ?_, by simp [h4], by simp [hg4], by simp [-List.reduceReplicate, hO], by simp [-List.reduceReplicate, hR], by simp⟩ (by simp [h6])
      unfold I42
      refine ⟨?_, ?_, ?_, ?_, ?_, ?_, ?_, ?_, ?_, ?_, ?_, ?_, ?_, ?_, ?_⟩ <;> simp [-List.reduceReplicate, *]
    · simp (maxSteps := 1000000) [-List.reduceReplicate, h3, h6, n42_1]
      refine hJ _ ⟨2, by omega, ?_, by simp [h4], by simp [hg4], by simp [-List.reduceReplicate, hO], by simp [-List.reduceReplicate, hR], by simp⟩ (by simp [h6])
      unfold I42
      refine ⟨?_, ?_, ?_, ?_, ?_, ?_, ?_, ?_, ?_, ?_, ?_, ?_, ?_, ?_, ?_⟩ <;> simp [-List.reduceReplicate, *]
    · simp (maxSteps := 1000000) [-List.reduceReplicate, h3, h6, n42_2]
      refine hJ _ ⟨3, by omega, ?_, by simp [h4], by simp [hg4], by simp [-List.reduceReplicate, hO], by simp [-List.reduceReplicate, hR], by simp⟩ (by simp [h6])
      unfold I42
      refine ⟨?_, ?_, ?_, ?_, ?_, ?_, ?_, ?_, ?_, ?_, ?_, ?_, ?_, ?_, ?_⟩ <;> simp [-List.reduceReplicate, *]
    · simp (maxSteps := 1000000) [-List.reduceReplicate, h3, h6, n42_3]
      refine hJ _ ⟨4, by omega, ?_, by simp [h4], by simp [hg4], by simp [-List.reduceReplicate, hO], by simp [-List.reduceReplicate, hR], by simp⟩ (by simp [h6])
      unfold I42
      refine ⟨?_, ?_, ?_, ?_, ?_, ?_, ?_, ?_, ?_, ?_, ?_, ?_, ?_, ?_, ?_⟩ <;> simp [-List.reduceReplicate, *]
    · simp (maxSteps := 1000000) [-List.reduceReplicate, h3, h6, n42_4]
      refine hJ _ ⟨5, by omega, ?_, by simp [h4], by simp [hg4], by simp [-List.reduceReplicate, hO], by simp [-List.reduceReplicate, hR], by simp⟩ (by simp [h6])
      unfold I42
      refine ⟨?_, ?_, ?_, ?_, ?_, ?_, ?_, ?_, ?_, ?_, ?_, ?_, ?_, ?_, ?_⟩ <;> simp [-List.reduceReplicate, *]
    · simp (maxSteps := 1000000) [-List.reduceReplicate, h3, h6, n42_5]
      refine hJ _ ⟨6, by omega, ?_, by simp [h4], by simp [hg4], by simp [-List.reduceReplicate, hO], by simp [-List.reduceReplicate, hR], by simp⟩ (by simp [h6])
      unfold I42
      refine ⟨?_, ?_, ?_, ?_, ?_, ?_, ?_, ?_, ?_, ?_, ?_, ?_, ?_, ?_, ?_⟩ <;> simp [-List.reduceReplicate, *]
    · simp (maxSteps := 1000000) [-List.reduceReplicate, h3, h6, n42_6]
      refine hJ _ ⟨7, by omega, ?_, by simp [h4], by simp [hg4], by simp [-List.reduceReplicate, hO], by simp [-List.reduceReplicate, hR], by simp⟩ (by simp [h6])
      unfold I42
      refine ⟨?_, ?_, ?_, ?_, ?_, ?_, ?_, ?_, ?_, ?_, ?_, ?_, ?_, ?_, ?_⟩ <;> simp [-List.reduceReplicate, *]
    · simp (maxSteps := 1000000) [-List.reduceReplicate, h3, h6, n42_7]
      refine hJ _ ⟨8, by omega, ?_, by simp [h4], by simp [hg4], by simp [-List.reduceReplicate, hO], by simp [-List.reduceReplicate, hR], by simp⟩ (by simp [h6])
      unfold I42
      refine ⟨?_, ?_, ?_, ?_, ?_, ?_, ?_, ?_, ?_, ?_, ?_, ?_, ?_, ?_, ?_⟩ <;> simp [-List.reduceReplicate, *]
    · simp (maxSteps := 1000000) [-List.reduceReplicate, h3, h6, n42_8]
      refine hJ _ ⟨9, by omega, ?_, by simp [h4], by simp [hg4], by simp [-List.reduceReplicate, hO], by simp [-List.reduceReplicate, hR], by simp⟩ (by simp [h6])
      unfold I42
      refine ⟨?_, ?_, ?_, ?_, ?_, ?_, ?_, ?_, ?_, ?_, ?_, ?_, ?_, ?_, ?_⟩ <;> simp [-List.reduceReplicate, *]
    · rcases v31 with v31 | v31
      all_goals
        have vv := v31
        simp (maxSteps := 1000000) [-List.reduceReplicate, h3, h6, n42_9, v31, g31]
        refine hJ _ ⟨10, by omega, ?_, by simp [h4], by simp [hg4], by simp [-List.reduceReplicate, hO], by simp [-List.reduceReplicate, hR], by simp⟩ (by simp [h6])
        unfold I42
        refine ⟨?_, ?_, ?_, ?_, ?_, ?_, ?_, ?_, ?_, ?_, ?_, ?_, ?_, ?_, ?_⟩ <;> simp [-List.reduceReplicate, *]
    · simp (maxSteps := 1000000) [-List.reduceReplicate, h3, h6, n42_10]
      refine hJ _ ⟨11, by omega, ?_, by simp [h4], by simp [hg4], by simp [-List.reduceReplicate, hO], by simp [-List.reduceReplicate, hR], by simp⟩ (by simp [h6])
      unfold I42
      refine ⟨?_, ?_, ?_, ?_, ?_, ?_, ?_, ?_, ?_, ?_, ?_, ?_, ?_, ?_, ?_⟩ <;> simp [-List.reduceReplicate, *]
    · rcases v36 with v36 | v36
      all_goals
        have vv := v36
        simp (maxSteps := 1000000) [-List.reduceReplicate, h3, h6, n42_11, v36, g36]
        refine hJ _ ⟨12, by omega, ?_, by simp [h4], by simp [hg4], by simp [-List.reduceReplicate, hO], by simp [-List.reduceReplicate, hR], by simp⟩ (by simp [h6])
        unfold I42
        refine ⟨?_, ?_, ?_, ?_, ?_, ?_, ?_, ?_, ?_, ?_, ?_, ?_, ?_, ?_, ?_⟩ <;> simp [-List.reduceReplicate, *]
    · simp (maxSteps := 1000000) [-List.reduceReplicate, h3, h6, n42_12]
      refine hJ _ ⟨13, by omega, ?_, by simp [h4], by simp [hg4], by simp [-List.reduceReplicate, hO], by simp [-List.reduceReplicate, hR], by simp⟩ (by simp [h6])
      unfold I42
      refine ⟨?_, ?_, ?_, ?_, ?_, ?_, ?_, ?_, ?_, ?_, ?_, ?_, ?_, ?_, ?_⟩ <;> simp [-List.reduceReplicate, *]
    · rcases v42 with v42 | v42
      all_goals
        have vv := v42
        simp (maxSteps := 1000000) [-List.reduceReplicate, h3, h6, n42_13, v42, g42]
        refine hJ _ ⟨14, by omega, ?_, by simp [h4], by simp [hg4], by simp [-List.reduceReplicate, hO], by simp [-List.reduceReplicate, hR], by simp⟩ (by simp [h6])
        unfold I42
        refine ⟨?_, ?_, ?_, ?_, ?_, ?_, ?_, ?_, ?_, ?_, ?_, ?_, ?_, ?_, ?_⟩ <;> simp [-List.reduceReplicate, *]
    · simp (maxSteps := 1000000) [-List.reduceReplicate, h3, h6, n42_14]
      refine hJ _ ⟨15, by omega, ?_, by simp [h4], by simp [hg4], by simp [-List.reduceReplicate, hO], by simp [-List.reduceReplicate, hR], by simp⟩ (by simp [h6])
      unfold I42
      refine ⟨?_, ?_, ?_, ?_, ?_, ?_, ?_, ?_, ?_, ?_, ?_, ?_, ?_, ?_, ?_⟩ <;> simp [-List.reduceReplicate, *]
    · rcases v49 with v49 | v49
      all_goals
        have vv := v49
        simp (maxSteps := 1000000) [-List.reduceReplicate, h3, h6, n42_15, v49, g49]
        refine hJ _ ⟨16, by omega, ?_, by simp [h4], by simp [hg4], by simp [-List.reduceReplicate, hO], by simp [-List.reduceReplicate, hR], by simp⟩ (by simp [h6])
        unfold I42
        refine ⟨?_, ?_, ?_, ?_, ?_, ?_, ?_, ?_, ?_, ?_, ?_, ?_, ?_, ?_, ?_⟩ <;> simp [-List.reduceReplicate, *]
    · rcases v52 with v52 | v52
      all_goals
        have vv := v52
        simp (maxSteps := 1000000) [-List.reduceReplicate, h3, h6, n42_16, v52, g52]
        refine hJ _ ⟨17, by omega, ?_, by simp [h4], by simp [hg4], by simp [-List.reduceReplicate, hO], by simp [-List.reduceReplicate, hR], by simp⟩ (by simp [h6])
        unfold I42
        refine ⟨?_, ?_, ?_, ?_, ?_, ?_, ?_, ?_, ?_, ?_, ?_, ?_, ?_, ?_, ?_⟩ <;> simp [-List.reduceReplicate, *]
    · simp (maxSteps := 1000000) [-List.reduceReplicate, h3, h6, n42_17]
      refine hJ _ ⟨18, by omega, ?_, by simp [h4], by simp [hg4], by simp [-List.reduceReplicate, hO], by simp [-List.reduceReplicate, hR], by simp⟩ (by simp [h6])
      unfold I42
      refine ⟨?_, ?_, ?_, ?_, ?_, ?_, ?_, ?_, ?_, ?_, ?_, ?_, ?_, ?_, ?_⟩ <;> simp [-List.reduceReplicate, *]
    · rcases v60 with v60 | v60
      all_goals
        have vv := v60
        simp (maxSteps := 1000000) [-List.reduceReplicate, h3, h6, n42_18, v60, g60]
        refine hJ _ ⟨19, by omega, ?_, by simp [h4], by simp [hg4], by simp [-List.reduceReplicate, hO], by simp [-List.reduceReplicate, hR], by simp⟩ (by simp [h6])
        unfold I42
        refine ⟨?_, ?_, ?_, ?_, ?_, ?_, ?_, ?_, ?_, ?_, ?_, ?_, ?_, ?_, ?_⟩ <;> simp [-List.reduceReplicate, *]
    · rcases v64 with v64 | v64
      all_goals
        have vv := v64
        simp (maxSteps := 1000000) [-List.reduceReplicate, h3, h6, n42_19, v64, g64]
        refine hJ _ ⟨20, by omega, ?_, by simp [h4], by simp [hg4], by simp [-List.reduceReplicate, hO], by simp [-List.reduceReplicate, hR], by simp⟩ (by simp [h6])
        unfold I42
        refine ⟨?_, ?_, ?_, ?_, ?_, ?_, ?_, ?_, ?_, ?_, ?_, ?_, ?_, ?_, ?_⟩ <;> simp [-List.reduceReplicate, *]
    · simp (maxSteps := 1000000) [-List.reduceReplicate, h3, h6, n42_20]
      refine hJ _ ⟨21, by omega, ?_, by simp [h4], by simp [hg4], by simp [-List.reduceReplicate, hO], by simp [-List.reduceReplicate, hR], by simp⟩ (by simp [h6])
      unfold I42
      refine ⟨?_, ?_, ?_, ?_, ?_, ?_, ?_, ?_, ?_, ?_, ?_, ?_, ?_, ?_, ?_⟩ <;> simp [-List.reduceReplicate, *]
    · simp (maxSteps := 1000000) [-List.reduceReplicate, h3, h6, n42_21]
      refine hJ _ ⟨22, by omega, ?_, by simp [h4], by simp [hg4], by simp [-List.reduceReplicate, hO], by simp [-List.reduceReplicate, hR], by simp⟩ (by simp [h6])
      unfold I42
      refine ⟨?_, ?_, ?_, ?_, ?_, ?_, ?_, ?_, ?_, ?_, ?_, ?_, ?_, ?_, ?_⟩ <;> simp [-List.reduceReplicate, *]
    · simp (maxSteps := 1000000) [-List.reduceReplicate, h3, h6, n42_22]
      refine hJ _ ⟨23, by omega, ?_, by simp [h4], by simp [hg4], by simp [-List.reduceReplicate, hO], by simp [-List.reduceReplicate, hR], by simp⟩ (by simp [h6])
      unfold I42
      refine ⟨?_, ?_, ?_, ?_, ?_, ?_, ?_, ?_, ?_, ?_, ?_, ?_, ?_, ?_, ?_⟩ <;> simp [-List.reduceReplicate, *]

  · have hie : i = 23 := by omega
    subst hie
    unfold I42 at hI
    have hbig : okT ⟨2, 0, 0, List.replicate 4001 ⟨0, ⟨2, ⟨0, 0, 0⟩, 1, ⟨0, 0, 0, 0, 0⟩⟩⟩, [-9223372036854775808], [], [], [], []⟩ = false := by
      unfold okT okSiz; simp [-List.reduceReplicate]
    simp (maxSteps := 1000000) [-List.reduceReplicate, h4, hg4, hO, hR, h6, hI.1, hbig]

end Go.Proofs.Ytedhhjmjlpnlpaa.VW
