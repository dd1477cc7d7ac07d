/- Plain mathematics on timers, second part: Pop, Until, Same; the pure law TimersTells. -/
import Derived.Test.YtdhajbodlpeheaaC3Th1
namespace Go.Proofs.Ytdhajbodlpeheaa.Th
open Go.RowKit Go.Proofs.Ytdhajbodlpeheaa.Q Go.Proofs.YtdhajbodlpeheaaW.PrintWords
set_option linter.unusedVariables false
set_option linter.unusedSimpArgs false
theorem chk_zero {l : List T} : chk l = 0 ↔ l.length ≤ 4000 ∧ Good l := by
  unfold chk
  split
  · exact ⟨fun h => (by cases h), fun h => absurd h.1 (by omega)⟩
  · split
    · rename_i h g
      exact ⟨fun _ => ⟨by omega, g⟩, fun _ => rfl⟩
    · rename_i h g
      exact ⟨fun h => (by cases h), fun h => absurd h.2 g⟩
theorem same_loop (l : List T) (hl : l.length < LIM) (d : Nat) : ∀ (k i : Nat), i + d = l.length → d < k → tailwaterref18_Same.l0 k l l (i : Int) = some true := by
  induction d with
  | zero =>
    intro k i hi hk
    obtain ⟨k, rfl⟩ : ∃ m, k = m + 1 := ⟨k - 1, by omega⟩
    simp only [tailwaterref18_Same.l0]
    rw [if_neg (by omega)]
  | succ d ih =>
    intro k i hi hk
    obtain ⟨k, rfl⟩ : ∃ m, k = m + 1 := ⟨k - 1, by omega⟩
    simp only [tailwaterref18_Same.l0]
    rw [if_pos (by omega), if_pos (by omega), if_pos (by omega), if_neg (by simp), succ_wrap i (by omega)]
    exact ih k (i + 1) (by omega) (by omega)
theorem same_refl (l : List T) (hl : l.length < LIM) {k : Nat} (hk : l.length < k) : tailwaterref18_Same.f k l l = some true := by
  unfold tailwaterref18_Same.f
  rw [if_pos rfl]
  exact same_loop l hl l.length k 0 (by omega) hk
theorem up_length (d : Nat) : ∀ (l : List T) (i : Nat), i ≤ d → (up l i).length = l.length := by
  induction d with
  | zero =>
    intro l i hi
    rw [up, dif_neg (by omega)]
  | succ d ih =>
    intro l i hi
    rw [up]
    split
    · split
      · rw [ih _ _ (by omega), swap_length]
      · rfl
    · rfl
theorem pushed_length (l : List T) (t : T) : (pushed l t).length = l.length + 1 := by
  unfold pushed
  rw [up_length _ _ _ (Nat.le_refl _)]
  simp
end Go.Proofs.Ytdhajbodlpeheaa.Th
