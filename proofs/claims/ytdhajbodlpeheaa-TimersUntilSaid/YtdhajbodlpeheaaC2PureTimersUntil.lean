/- The law TimersUntil, over the printed functions. -/
import Derived.Test.YtdhajbodlpeheaaC2STimersUntil
import Derived.Test.YtdhajbodlpeheaaC2Th4
namespace Go.Proofs.Ytdhajbodlpeheaa.Pure
open Go.RowKit Go.Proofs.Ytdhajbodlpeheaa.Q Go.Proofs.Ytdhajbodlpeheaa.Th Go.Proofs.YtdhajbodlpeheaaW.PrintWords
set_option linter.unusedVariables false
set_option linter.unusedSimpArgs false
theorem until_tail (a : Int) (o r : List T) (hle : ∀ x ∈ o, x.f0.f1 ≤ a) (hr : 0 < r.length → a < (el r 0).f0.f1) (ho : o.length < LIM) (d : Nat) : ∀ (k i : Nat), i + d = o.length → d < k →
    tailwaterlaw18_TimersUntil.l0 k a true o r (i : Int) = some true := by
  induction d with
  | zero =>
    intro k i hi hk
    obtain ⟨k, rfl⟩ : ∃ m, k = m + 1 := ⟨k - 1, by omega⟩
    simp only [tailwaterlaw18_TimersUntil.l0]
    rw [if_neg (by omega), if_pos trivial]
    by_cases h0 : 0 < r.length
    · rw [if_neg (by omega), if_pos (by omega), show rd_T34 r 0 = el r 0 from rd_el r 0]
      simpa using hr h0
    · rw [if_pos (by omega)]
  | succ d ih =>
    intro k i hi hk
    obtain ⟨k, rfl⟩ : ∃ m, k = m + 1 := ⟨k - 1, by omega⟩
    simp only [tailwaterlaw18_TimersUntil.l0]
    have := hle _ (el_mem (l := o) (i := i) (by omega))
    rw [if_pos (by omega), if_pos (by omega), rd_el, if_neg (by omega), succ_wrap i (by omega)]
    exact ih k (i + 1) (by omega) (by omega)
theorem TimersUntil : tailwaterlaw18_TimersUntil.Pure := by
  intro l a hlen _ _
  by_cases hbig : l.length > 120
  · refine ⟨100, ?_⟩
    unfold tailwaterlaw18_TimersUntil.f
    rw [alive_eq (Nat.le_refl _)]
    simp only [Option.bind_some]
    rw [if_pos (by omega)]
  · by_cases hc : chk l = 0
    · obtain ⟨o, r, hu, hcr, hp, hs, hor, hle, hr⟩ := unt_spec a l.length l [] (Nat.le_refl _) hc List.Pairwise.nil (by simp) (by simp)
      have hpl := hp.length_eq
      simp only [List.length_append, List.length_nil, Nat.zero_add] at hpl
      obtain ⟨r', hr'p, hr's, n1, e1⟩ := sorted_ev r (by omega)
      obtain ⟨l', hl'p, hl's, n2, e2⟩ := sorted_ev l (by omega)
      have hsame : o ++ r' = l' := srt_unique (srt_app hs hr's (fun x hx y hy => hor x hx y (hr'p.mem_iff.1 hy))) hl's
        ((List.Perm.append_left o hr'p).trans (hp.trans (by simpa using hl'p.symm)))
      have h1 := hr'p.length_eq
      have h2 := hl'p.length_eq
      refine ⟨n1 + n2 + 3000, ?_⟩
      unfold tailwaterlaw18_TimersUntil.f
      rw [alive_eq (by omega)]
      simp only [Option.bind_some]
      rw [if_neg (by omega), rcheck_eq l (by omega), hc]
      simp only [Option.bind_some, if_true]
      rw [Until_eq l a (by simp only [LIM]; omega) (by omega)]
      unfold untR
      rw [if_pos hc, hu]
      simp only [Option.bind_some, if_true]
      rw [check_eq r (by simp only [LIM]; omega) (by omega), hcr]
      simp only [Option.bind_some, if_true, List.nil_append, List.length_nil]
      rw [if_pos (by omega), e1 _ (by omega), e2 _ (by omega)]
      simp only [Option.bind_some]
      rw [if_pos (by omega), hsame, same_refl l' (by simp only [LIM]; omega) (by omega)]
      simp only [Option.bind_some, if_true]
      exact until_tail a o r hle hr (by simp only [LIM]; omega) o.length _ 0 (by omega) (by omega)
    · refine ⟨3000, ?_⟩
      unfold tailwaterlaw18_TimersUntil.f
      rw [alive_eq (by omega)]
      simp only [Option.bind_some]
      rw [if_neg (by omega), rcheck_eq l (by omega)]
      simp only [Option.bind_some]
      rw [if_neg hc]
end Go.Proofs.Ytdhajbodlpeheaa.Pure
