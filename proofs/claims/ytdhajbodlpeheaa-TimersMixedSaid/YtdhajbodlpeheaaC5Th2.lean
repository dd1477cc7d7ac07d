/- Plain mathematics on timers, second part: Pop, Until, Same; the pure law TimersTells. -/
import Derived.Test.YtdhajbodlpeheaaC5Th1
namespace Go.Proofs.Ytdhajbodlpeheaa.Th
open Go.RowKit Go.Proofs.Ytdhajbodlpeheaa.Q Go.Proofs.YtdhajbodlpeheaaW.PrintWords
set_option linter.unusedVariables false
set_option linter.unusedSimpArgs false
theorem chk_len {l : List T} (h : chk l = 0) : l.length ≤ 4000 := by
  unfold chk at h
  split at h
  · cases h
  · omega
theorem chk_zero {l : List T} : chk l = 0 ↔ l.length ≤ 4000 ∧ Good l := by
  unfold chk
  split
  · exact ⟨fun h => (by cases h), fun h => absurd h.1 (by omega)⟩
  · split
    · rename_i h g
      exact ⟨fun _ => ⟨by omega, g⟩, fun _ => rfl⟩
    · rename_i h g
      exact ⟨fun h => (by cases h), fun h => absurd h.2 g⟩
def popR (l : List T) : Int × Int × Int × List T × Int :=
  if chk l = 0 then (if l.length = 0 then (0, 0, 0, [], 6) else ((el l 0).f0.f0, (el l 0).f0.f1, (el l 0).f1, popped l, 0)) else (0, 0, 0, [], chk l)
theorem Pop_eq (l : List T) (hl : l.length < LIM) {k : Nat} (hk : 3 * l.length + 10 < k) : timers_Pop.f k l = some (popR l) := by
  unfold timers_Pop.f popR
  rw [check_eq l hl (by omega)]
  simp only [Option.bind_some]
  by_cases hc : chk l = 0
  · have := chk_len hc
    rw [if_pos hc, if_pos hc]
    by_cases h0 : l.length = 0
    · rw [if_pos (by omega), if_pos h0]
    · rw [if_neg (by omega), if_neg h0, room_eq l (by omega)]
      simp only [Option.bind_some]
      rw [pop_eq l (by omega) (by omega) (by omega)]
      rfl
  · rw [if_neg hc, if_neg hc]
theorem same_loop (l : List T) (hl : l.length < LIM) (d : Nat) : ∀ (k i : Nat), i + d = l.length → d < k → tailwaterref18_Same.l0 k l l (i : Int) = some true := by
  induction d with
  | zero =>
    intro k i hi hk
    obtain ⟨k, rfl⟩ : ∃ m, k = m + 1 := ⟨k - 1, by omega⟩
    simp only [tailwaterref18_Same.l0]
    rw [if_neg (by omega)]
  | succ d ih =>
    intro k i hi hk
    obtain ⟨k, rfl⟩ : ∃ m, k = m + 1 := ⟨k - 1, by omega⟩
    simp only [tailwaterref18_Same.l0]
    rw [if_pos (by omega), if_pos (by omega), if_pos (by omega), if_neg (by simp), succ_wrap i (by omega)]
    exact ih k (i + 1) (by omega) (by omega)
theorem same_refl (l : List T) (hl : l.length < LIM) {k : Nat} (hk : l.length < k) : tailwaterref18_Same.f k l l = some true := by
  unfold tailwaterref18_Same.f
  rw [if_pos rfl]
  exact same_loop l hl l.length k 0 (by omega) hk
theorem up_length (d : Nat) : ∀ (l : List T) (i : Nat), i ≤ d → (up l i).length = l.length := by
  induction d with
  | zero =>
    intro l i hi
    rw [up, dif_neg (by omega)]
  | succ d ih =>
    intro l i hi
    rw [up]
    split
    · split
      · rw [ih _ _ (by omega), swap_length]
      · rfl
    · rfl
theorem pushed_length (l : List T) (t : T) : (pushed l t).length = l.length + 1 := by
  unfold pushed
  rw [up_length _ _ _ (Nat.le_refl _)]
  simp
end Go.Proofs.Ytdhajbodlpeheaa.Th
