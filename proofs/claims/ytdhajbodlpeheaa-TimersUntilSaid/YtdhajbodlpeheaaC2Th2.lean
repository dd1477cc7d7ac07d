/- Plain mathematics on timers, second part: Pop, Until, Same; the pure law TimersTells. -/
import Derived.Test.YtdhajbodlpeheaaC2Th1
namespace Go.Proofs.Ytdhajbodlpeheaa.Th
open Go.RowKit Go.Proofs.Ytdhajbodlpeheaa.Q Go.Proofs.YtdhajbodlpeheaaW.PrintWords
set_option linter.unusedVariables false
set_option linter.unusedSimpArgs false
theorem chk_len {l : List T} (h : chk l = 0) : l.length ≤ 4000 := by
  unfold chk at h
  split at h
  · cases h
  · omega
theorem chk_zero {l : List T} : chk l = 0 ↔ l.length ≤ 4000 ∧ Good l := by
  unfold chk
  split
  · exact ⟨fun h => (by cases h), fun h => absurd h.1 (by omega)⟩
  · split
    · rename_i h g
      exact ⟨fun _ => ⟨by omega, g⟩, fun _ => rfl⟩
    · rename_i h g
      exact ⟨fun h => (by cases h), fun h => absurd h.2 g⟩
def unt (a : Int) (l out : List T) : List T × List T × Int :=
  if h : 0 < l.length ∧ (el l 0).f0.f1 ≤ a then unt a (popped l) (out ++ [el l 0]) else (out, l, 0)
termination_by l.length
decreasing_by
  rw [popped_length]
  omega
theorem until_loop (a : Int) (d : Nat) : ∀ (l out : List T) (k : Nat), l.length ≤ d → l.length + out.length ≤ 4000 → 4 * d + 20 < k → timers_Until.l0 k a l out = some (unt a l out) := by
  induction d with
  | zero =>
    intro l out k hd hl hk
    obtain ⟨k, rfl⟩ : ∃ m, k = m + 1 := ⟨k - 1, by omega⟩
    simp only [timers_Until.l0]
    rw [if_neg (by omega), unt, dif_neg (by omega)]
  | succ d ih =>
    intro l out k hd hl hk
    obtain ⟨k, rfl⟩ : ∃ m, k = m + 1 := ⟨k - 1, by omega⟩
    simp only [timers_Until.l0]
    rw [show rd_T34 l 0 = el l 0 from rd_el l 0]
    by_cases h0 : 0 < l.length
    · rw [if_pos (by omega), if_pos (by omega)]
      by_cases hm : (el l 0).f0.f1 ≤ a
      · rw [if_pos hm, pop_eq l h0 (by omega) (by omega)]
        simp only [Option.bind_some]
        rw [if_pos (by omega), unt, dif_pos ⟨h0, hm⟩]
        exact ih _ _ _ (by rw [popped_length]; omega) (by rw [popped_length, List.length_append]; simp only [List.length_singleton]; omega) (by omega)
      · rw [if_neg hm, unt, dif_neg (fun h => hm h.2)]
    · rw [if_neg (by omega), unt, dif_neg (by omega)]
def untR (l : List T) (a : Int) : List T × List T × Int := if chk l = 0 then unt a l [] else ([], [], chk l)
theorem Until_eq (l : List T) (a : Int) (hl : l.length < LIM) {k : Nat} (hk : 4 * l.length + 20 < k) : timers_Until.f k l a = some (untR l a) := by
  unfold timers_Until.f untR
  rw [check_eq l hl (by omega)]
  simp only [Option.bind_some]
  by_cases hc : chk l = 0
  · have := chk_len hc
    rw [if_pos hc, if_pos hc, room_eq l (by omega)]
    simp only [Option.bind_some]
    exact until_loop a l.length l [] k (Nat.le_refl _) (by simpa using this) hk
  · rw [if_neg hc, if_neg hc]
theorem same_loop (l : List T) (hl : l.length < LIM) (d : Nat) : ∀ (k i : Nat), i + d = l.length → d < k → tailwaterref18_Same.l0 k l l (i : Int) = some true := by
  induction d with
  | zero =>
    intro k i hi hk
    obtain ⟨k, rfl⟩ : ∃ m, k = m + 1 := ⟨k - 1, by omega⟩
    simp only [tailwaterref18_Same.l0]
    rw [if_neg (by omega)]
  | succ d ih =>
    intro k i hi hk
    obtain ⟨k, rfl⟩ : ∃ m, k = m + 1 := ⟨k - 1, by omega⟩
    simp only [tailwaterref18_Same.l0]
    rw [if_pos (by omega), if_pos (by omega), if_pos (by omega), if_neg (by simp), succ_wrap i (by omega)]
    exact ih k (i + 1) (by omega) (by omega)
theorem same_refl (l : List T) (hl : l.length < LIM) {k : Nat} (hk : l.length < k) : tailwaterref18_Same.f k l l = some true := by
  unfold tailwaterref18_Same.f
  rw [if_pos rfl]
  exact same_loop l hl l.length k 0 (by omega) hk
end Go.Proofs.Ytdhajbodlpeheaa.Th
