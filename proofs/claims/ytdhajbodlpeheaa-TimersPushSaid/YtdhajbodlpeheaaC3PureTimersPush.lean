/- The law TimersPush, over the printed functions. -/
import Derived.Test.YtdhajbodlpeheaaC3STimersPush
import Derived.Test.YtdhajbodlpeheaaC3Th4
namespace Go.Proofs.Ytdhajbodlpeheaa.Pure
open Go.RowKit Go.Proofs.Ytdhajbodlpeheaa.Q Go.Proofs.Ytdhajbodlpeheaa.Th Go.Proofs.YtdhajbodlpeheaaW.PrintWords
set_option linter.unusedVariables false
set_option linter.unusedSimpArgs false
theorem j0_true (l : List T) (b : Bool) (x y z : Int) (k : Nat) : tailwaterlaw18_TimersPush.j0 (k + 1) l b true x y z = some b := by
  simp only [tailwaterlaw18_TimersPush.j0]
  rw [if_pos trivial]
theorem same_head {a b : T} (h : a = b) : (a.f0.f0 == b.f0.f0 && (a.f0.f1 == b.f0.f1) && (a.f1 == b.f1)) = true := by subst h; simp
theorem TimersPush : tailwaterlaw18_TimersPush.Pure := by
  intro l t hlen _ _
  by_cases hbig : l.length > 120
  · refine ⟨100, ?_⟩
    unfold tailwaterlaw18_TimersPush.f
    rw [alive_eq (Nat.le_refl _)]
    simp only [Option.bind_some]
    rw [if_pos (by omega), j0_true _ _ _ _ _ 99]
  · by_cases hc : chk l = 0
    · by_cases hr : right t = true
      · have hg := pushed_good hc (by omega) hr
        have hlp : (pushed l t).length = l.length + 1 := pushed_length l t
        obtain ⟨p, hpp, hps, n1, e1⟩ := sorted_ev (pushed l t) (by omega)
        obtain ⟨q, hqp, hqs, n2, e2⟩ := sorted_ev (l ++ [t]) (by simp; omega)
        have hpq : p = q := srt_unique hps hqs (hpp.trans (hg.2.trans ((List.perm_append_comm (l₁ := [t])).trans hqp.symm)))
        have hpl := hpp.length_eq
        have h0 : 0 < (pushed l t).length := by omega
        have hmin := fun y hy => least hg.1 (y := y) hy
        refine ⟨n1 + n2 + 3000, ?_⟩
        unfold tailwaterlaw18_TimersPush.f
        rw [alive_eq (by omega)]
        simp only [Option.bind_some]
        rw [if_neg (by omega), rcheck_eq l (by omega), hc]
        simp only [Option.bind_some, if_true]
        rw [rright_eq, hr]
        simp only [Option.bind_some, if_true]
        rw [show n1 + n2 + 3000 = (n1 + n2 + 2998) + 1 + 1 from rfl]
        simp only [tailwaterlaw18_TimersPush.j0]
        rw [if_neg (by simp), push_ok hc (by omega) hr (by omega)]
        simp only [Option.bind_some, if_true]
        rw [check_eq _ (by simp only [LIM]; omega) (by omega), hg.1]
        simp only [Option.bind_some, if_true, List.nil_append, List.length_nil, List.length_singleton]
        rw [e1 _ (by omega)]
        simp only [Option.bind_some]
        rw [if_pos (by omega), if_pos (by omega), show (⟨⟨t.f0.f0, t.f0.f1⟩, t.f1⟩ : S34) = t from rfl, e2 _ (by omega)]
        simp only [Option.bind_some]
        rw [hpq, same_refl q (by rw [← hpq]; simp only [LIM]; omega) (by rw [← hpq]; omega)]
        simp only [Option.bind_some, tailwaterlaw18_TimersPush.j1]
        rw [if_neg (by simp), show rd_T34 l 0 = el l 0 from rd_el l 0, show rd_T34 (pushed l t) 0 = el (pushed l t) 0 from rd_el _ 0]
        have hmem : ∀ y, y ∈ pushed l t ↔ y = t ∨ y ∈ l := fun y => by rw [hg.2.mem_iff, List.mem_cons]
        have htm := hmin t ((hmem t).2 (Or.inl rfl))
        have hm0 := (hmem _).1 (el_mem h0)
        by_cases hl0 : 0 < l.length
        · rw [if_pos (by omega), if_pos (by omega), less_eq]
          simp only [Option.bind_some]
          have hlm := hmin (el l 0) ((hmem _).2 (Or.inr (el_mem hl0)))
          by_cases hlt : lt t (el l 0) = true
          · rw [if_pos hlt, if_pos trivial, if_pos (by omega), if_pos (by omega), same_head]
            rcases hm0 with h | h
            · exact h
            · exact lt_total (le_trans (lt_asymm hlt) (least hc h)) htm |>.symm ▸ rfl
          · rw [if_neg hlt, if_pos trivial, if_pos (by omega), if_pos (by omega), same_head]
            rcases hm0 with h | h
            · rw [h] at hlm ⊢
              exact lt_total (by simpa using hlt) hlm
            · exact lt_total (least hc h) hlm
        · obtain rfl : l = [] := List.length_eq_zero_iff.1 (by omega)
          rw [if_neg (by simp), if_pos trivial, if_pos (by omega), if_pos (by omega), same_head]
          rcases hm0 with h | h
          · exact h
          · cases h
      · refine ⟨3000, ?_⟩
        unfold tailwaterlaw18_TimersPush.f
        rw [alive_eq (by omega)]
        simp only [Option.bind_some]
        rw [if_neg (by omega), rcheck_eq l (by omega), hc]
        simp only [Option.bind_some, if_true]
        rw [rright_eq]
        simp only [Option.bind_some]
        rw [if_neg hr, j0_true _ _ _ _ _ 2999]
    · refine ⟨3000, ?_⟩
      unfold tailwaterlaw18_TimersPush.f
      rw [alive_eq (by omega)]
      simp only [Option.bind_some]
      rw [if_neg (by omega), rcheck_eq l (by omega)]
      simp only [Option.bind_some]
      rw [if_neg hc, j0_true _ _ _ _ _ 2999]
end Go.Proofs.Ytdhajbodlpeheaa.Pure
