/- The law TimersTells, over the printed functions. -/
import Derived.Test.YtdhajbodlpeheaaC1STimersTells
import Derived.Test.YtdhajbodlpeheaaC1Th2
namespace Go.Proofs.Ytdhajbodlpeheaa.Pure
open Go.RowKit Go.Proofs.Ytdhajbodlpeheaa.Q Go.Proofs.Ytdhajbodlpeheaa.Th Go.Proofs.YtdhajbodlpeheaaW.PrintWords
theorem TimersTells : tailwaterlaw18_TimersTells.Pure := by
  intro l t a hlen _ _ _
  by_cases hbig : l.length > 4002
  · refine ⟨0, ?_⟩
    unfold tailwaterlaw18_TimersTells.f tailwaterref18_Great.f
    rw [if_pos (by omega), if_neg (by omega)]
    simp only [Option.bind_some]
    rw [if_pos (by simp; omega)]
  · refine ⟨8 * l.length + 30, ?_⟩
    unfold tailwaterlaw18_TimersTells.f
    have hg : tailwaterref18_Great.f l = some true ∨ tailwaterref18_Great.f l = some false := by
      unfold tailwaterref18_Great.f
      repeat' split
      all_goals first | exact Or.inl rfl | exact Or.inr (by simp; omega)
    rcases hg with hg | hg
    · rw [hg]; rfl
    · rw [hg]
      simp only [Option.bind_some, List.nil_append, List.length_nil]
      rw [if_neg (by simp), if_pos (by omega), push_eq l t (by simp only [LIM]; omega) (by omega), rpush_eq l t (by omega), Pop_eq l (by simp only [LIM]; omega) (by omega), rPop_eq l (by simp only [LIM]; omega) (by omega), Until_eq l a (by simp only [LIM]; omega) (by omega), rUntil_eq l a (by simp only [LIM]; omega) (by omega)]
      simp only [Option.bind_some]
      have h1 := pushR_length l t
      have h2 := popR_length l
      have h3 := untR_length l a
      have h0 : l.length < LIM := by simp only [LIM]; omega
      unfold pushR at h1
      rw [same_refl _ (by simp only [LIM]; omega) (by omega)]
      simp only [Option.bind_some, if_true]
      rw [if_pos (by simp), same_refl _ (by simp only [LIM]; omega) (by omega)]
      simp only [Option.bind_some, if_true]
      rw [same_refl _ (by simp only [LIM]; omega) (by omega)]
      simp only [Option.bind_some, if_true]
      rw [same_refl _ (by simp only [LIM]; omega) (by omega)]
      simp only [Option.bind_some, if_true]
      rw [check_eq l h0 (by omega), rcheck_eq l (by omega)]
      simp only [Option.bind_some, if_true]
      rw [same_refl _ h0 (by omega)]
      rfl
end Go.Proofs.Ytdhajbodlpeheaa.Pure
