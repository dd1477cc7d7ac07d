/- Plain mathematics on timers, second part: Pop, Until, Same; the pure law TimersTells. -/
import Derived.Test.YtdhajbodlpeheaaC1Th1
namespace Go.Proofs.Ytdhajbodlpeheaa.Th
open Go.RowKit Go.Proofs.Ytdhajbodlpeheaa.Q Go.Proofs.YtdhajbodlpeheaaW.PrintWords
set_option linter.unusedVariables false
set_option linter.unusedSimpArgs false
theorem chk_len {l : List T} (h : chk l = 0) : l.length ≤ 4000 := by
  unfold chk at h
  split at h
  · cases h
  · omega
def popR (l : List T) : Int × Int × Int × List T × Int :=
  if chk l = 0 then (if l.length = 0 then (0, 0, 0, [], 6) else ((el l 0).f0.f0, (el l 0).f0.f1, (el l 0).f1, popped l, 0)) else (0, 0, 0, [], chk l)
theorem Pop_eq (l : List T) (hl : l.length < LIM) {k : Nat} (hk : 3 * l.length + 10 < k) : timers_Pop.f k l = some (popR l) := by
  unfold timers_Pop.f popR
  rw [check_eq l hl (by omega)]
  simp only [Option.bind_some]
  by_cases hc : chk l = 0
  · have := chk_len hc
    rw [if_pos hc, if_pos hc]
    by_cases h0 : l.length = 0
    · rw [if_pos (by omega), if_pos h0]
    · rw [if_neg (by omega), if_neg h0, room_eq l (by omega)]
      simp only [Option.bind_some]
      rw [pop_eq l (by omega) (by omega) (by omega)]
      rfl
  · rw [if_neg hc, if_neg hc]
theorem rPop_eq (l : List T) (hl : l.length < LIM) {k : Nat} (hk : 7 * l.length + 20 < k) : tailwaterref18_Pop.f k l = some (popR l) := by
  unfold tailwaterref18_Pop.f popR
  rw [rcheck_eq l (by omega)]
  simp only [Option.bind_some]
  by_cases hc : chk l = 0
  · have := chk_len hc
    rw [if_pos hc, if_pos hc]
    by_cases h0 : l.length = 0
    · rw [if_pos (by omega), if_pos h0]
    · rw [if_neg (by omega), if_neg h0, if_pos (by omega), rpopped_eq l (by omega) (by omega) (by omega)]
      simp only [Option.bind_some]
      rw [show rd_T34 l 0 = el l 0 from rd_el l 0]
  · rw [if_neg hc, if_neg hc]
def unt (a : Int) (l out : List T) : List T × List T × Int :=
  if h : 0 < l.length ∧ (el l 0).f0.f1 ≤ a then unt a (popped l) (out ++ [el l 0]) else (out, l, 0)
termination_by l.length
decreasing_by
  rw [popped_length]
  omega
theorem until_loop (a : Int) (d : Nat) : ∀ (l out : List T) (k : Nat), l.length ≤ d → l.length + out.length ≤ 4000 → 4 * d + 20 < k → timers_Until.l0 k a l out = some (unt a l out) := by
  induction d with
  | zero =>
    intro l out k hd hl hk
    obtain ⟨k, rfl⟩ : ∃ m, k = m + 1 := ⟨k - 1, by omega⟩
    simp only [timers_Until.l0]
    rw [if_neg (by omega), unt, dif_neg (by omega)]
  | succ d ih =>
    intro l out k hd hl hk
    obtain ⟨k, rfl⟩ : ∃ m, k = m + 1 := ⟨k - 1, by omega⟩
    simp only [timers_Until.l0]
    rw [show rd_T34 l 0 = el l 0 from rd_el l 0]
    by_cases h0 : 0 < l.length
    · rw [if_pos (by omega), if_pos (by omega)]
      by_cases hm : (el l 0).f0.f1 ≤ a
      · rw [if_pos hm, pop_eq l h0 (by omega) (by omega)]
        simp only [Option.bind_some]
        rw [if_pos (by omega), unt, dif_pos ⟨h0, hm⟩]
        exact ih _ _ _ (by rw [popped_length]; omega) (by rw [popped_length, List.length_append]; simp only [List.length_singleton]; omega) (by omega)
      · rw [if_neg hm, unt, dif_neg (fun h => hm h.2)]
    · rw [if_neg (by omega), unt, dif_neg (by omega)]
theorem runtil_loop (a : Int) (d : Nat) : ∀ (l out : List T) (k : Nat), l.length ≤ d → l.length + out.length ≤ 4000 → 8 * d + 20 < k → tailwaterref18_Until.l0 k a out l = some (unt a l out) := by
  induction d with
  | zero =>
    intro l out k hd hl hk
    obtain ⟨k, rfl⟩ : ∃ m, k = m + 1 := ⟨k - 1, by omega⟩
    simp only [tailwaterref18_Until.l0]
    rw [if_neg (by omega), unt, dif_neg (by omega)]
  | succ d ih =>
    intro l out k hd hl hk
    obtain ⟨k, rfl⟩ : ∃ m, k = m + 1 := ⟨k - 1, by omega⟩
    simp only [tailwaterref18_Until.l0]
    rw [show rd_T34 l 0 = el l 0 from rd_el l 0]
    by_cases h0 : 0 < l.length
    · rw [if_pos (by omega), if_pos (by omega)]
      by_cases hm : (el l 0).f0.f1 ≤ a
      · rw [if_pos hm, if_pos (by omega), rpopped_eq l h0 (by omega) (by omega)]
        simp only [Option.bind_some]
        rw [unt, dif_pos ⟨h0, hm⟩]
        exact ih _ _ _ (by rw [popped_length]; omega) (by rw [popped_length, List.length_append]; simp only [List.length_singleton]; omega) (by omega)
      · rw [if_neg hm, unt, dif_neg (fun h => hm h.2)]
    · rw [if_neg (by omega), unt, dif_neg (by omega)]
def untR (l : List T) (a : Int) : List T × List T × Int := if chk l = 0 then unt a l [] else ([], [], chk l)
theorem Until_eq (l : List T) (a : Int) (hl : l.length < LIM) {k : Nat} (hk : 4 * l.length + 20 < k) : timers_Until.f k l a = some (untR l a) := by
  unfold timers_Until.f untR
  rw [check_eq l hl (by omega)]
  simp only [Option.bind_some]
  by_cases hc : chk l = 0
  · have := chk_len hc
    rw [if_pos hc, if_pos hc, room_eq l (by omega)]
    simp only [Option.bind_some]
    exact until_loop a l.length l [] k (Nat.le_refl _) (by simpa using this) hk
  · rw [if_neg hc, if_neg hc]
theorem rUntil_eq (l : List T) (a : Int) (hl : l.length < LIM) {k : Nat} (hk : 8 * l.length + 20 < k) : tailwaterref18_Until.f k l a = some (untR l a) := by
  unfold tailwaterref18_Until.f untR
  rw [rcheck_eq l (by omega)]
  simp only [Option.bind_some]
  by_cases hc : chk l = 0
  · have := chk_len hc
    rw [if_pos hc, if_pos hc, if_pos (by simp only [List.length_nil]; omega)]
    exact runtil_loop a l.length l [] k (Nat.le_refl _) (by simpa using this) hk
  · rw [if_neg hc, if_neg hc]
theorem same_loop (l : List T) (hl : l.length < LIM) (d : Nat) : ∀ (k i : Nat), i + d = l.length → d < k → tailwaterref18_Same.l0 k l l (i : Int) = some true := by
  induction d with
  | zero =>
    intro k i hi hk
    obtain ⟨k, rfl⟩ : ∃ m, k = m + 1 := ⟨k - 1, by omega⟩
    simp only [tailwaterref18_Same.l0]
    rw [if_neg (by omega)]
  | succ d ih =>
    intro k i hi hk
    obtain ⟨k, rfl⟩ : ∃ m, k = m + 1 := ⟨k - 1, by omega⟩
    simp only [tailwaterref18_Same.l0]
    rw [if_pos (by omega), if_pos (by omega), if_pos (by omega), if_neg (by simp), succ_wrap i (by omega)]
    exact ih k (i + 1) (by omega) (by omega)
theorem same_refl (l : List T) (hl : l.length < LIM) {k : Nat} (hk : l.length < k) : tailwaterref18_Same.f k l l = some true := by
  unfold tailwaterref18_Same.f
  rw [if_pos rfl]
  exact same_loop l hl l.length k 0 (by omega) hk
theorem up_length (d : Nat) : ∀ (l : List T) (i : Nat), i ≤ d → (up l i).length = l.length := by
  induction d with
  | zero =>
    intro l i hi
    rw [up, dif_neg (by omega)]
  | succ d ih =>
    intro l i hi
    rw [up]
    split
    · split
      · rw [ih _ _ (by omega), swap_length]
      · rfl
    · rfl
theorem pushed_length (l : List T) (t : T) : (pushed l t).length = l.length + 1 := by
  unfold pushed
  rw [up_length _ _ _ (Nat.le_refl _)]
  simp
theorem unt_length (a : Int) (d : Nat) : ∀ (l out : List T), l.length ≤ d → (unt a l out).1.length ≤ l.length + out.length ∧ (unt a l out).2.1.length ≤ l.length := by
  induction d with
  | zero =>
    intro l out hd
    rw [unt, dif_neg (by omega)]
    exact ⟨by simp, Nat.le_refl _⟩
  | succ d ih =>
    intro l out hd
    rw [unt]
    split
    · rename_i h
      have := ih (popped l) (out ++ [el l 0]) (by rw [popped_length]; omega)
      rw [popped_length, List.length_append, List.length_singleton] at this
      omega
    · exact ⟨by simp, Nat.le_refl _⟩
def pushR (l : List T) (t : T) : List T × Int := if chk l = 0 then (if right t = true then (if l.length = 4000 then ([], 18) else (pushed l t, 0)) else ([], 8)) else ([], chk l)
theorem pushR_length (l : List T) (t : T) : (pushR l t).1.length ≤ l.length + 1 := by
  unfold pushR
  repeat' split
  all_goals simp [pushed_length]
theorem popR_length (l : List T) : (popR l).2.2.2.1.length ≤ l.length := by
  unfold popR
  repeat' split
  all_goals simp [popped_length]
theorem untR_length (l : List T) (a : Int) : (untR l a).1.length ≤ l.length ∧ (untR l a).2.1.length ≤ l.length := by
  unfold untR
  split
  · simpa using unt_length a l.length l [] (Nat.le_refl _)
  · simp
end Go.Proofs.Ytdhajbodlpeheaa.Th
