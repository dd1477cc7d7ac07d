/- Plain mathematics on timers, fourth part: alive, few, pushed, Until. -/
import Derived.Test.YtdhajbodlpeheaaC2Th3
import Derived.KernelRfl
namespace Go.Proofs.Ytdhajbodlpeheaa.Th
open Go.RowKit Go.Proofs.Ytdhajbodlpeheaa.Q Go.Proofs.YtdhajbodlpeheaaW.PrintWords
set_option linter.unusedVariables false
set_option linter.unusedSimpArgs false
theorem alive_at (k : Nat) : tailwaterlaw18_alive.f (k + 100) = some true := by kernel_rfl
theorem alive_eq {k : Nat} (h : 100 ≤ k) : tailwaterlaw18_alive.f k = some true := by
  obtain ⟨m, rfl⟩ : ∃ m, k = m + 100 := ⟨k - 100, by omega⟩
  exact alive_at m
theorem srt_app {p q : List T} (hp : Srt p) (hq : Srt q) (h : ∀ x ∈ p, ∀ y ∈ q, lt y x = false) : Srt (p ++ q) := List.pairwise_append.2 ⟨hp, hq, h⟩
theorem unt_spec (a : Int) (d : Nat) : ∀ (l out : List T), l.length ≤ d → chk l = 0 → Srt out → (∀ x ∈ out, ∀ y ∈ l, lt y x = false) → (∀ x ∈ out, x.f0.f1 ≤ a) →
    ∃ o r, unt a l out = (o, r, 0) ∧ chk r = 0 ∧ (o ++ r).Perm (out ++ l) ∧ Srt o ∧ (∀ x ∈ o, ∀ y ∈ r, lt y x = false) ∧ (∀ x ∈ o, x.f0.f1 ≤ a) ∧ (0 < r.length → a < (el r 0).f0.f1) := by
  induction d with
  | zero =>
    intro l out hd hc hs ho hle
    rw [unt, dif_neg (by omega)]
    exact ⟨out, l, rfl, hc, List.Perm.refl _, hs, ho, hle, fun h => by omega⟩
  | succ d ih =>
    intro l out hd hc hs ho hle
    rw [unt]
    by_cases h : 0 < l.length ∧ (el l 0).f0.f1 ≤ a
    · rw [dif_pos h]
      have hg := popped_good hc h.1
      have hm : ∀ y ∈ popped l, y ∈ l := fun y hy => hg.2.mem_iff.1 (List.mem_cons_of_mem _ hy)
      obtain ⟨o, r, he, hr, hp, h1, h2, h3, h4⟩ := ih (popped l) (out ++ [el l 0]) (by rw [popped_length]; omega) hg.1
        (srt_app hs (List.pairwise_singleton _ _) (fun x hx y hy => by rw [List.mem_singleton.1 hy]; exact ho x hx _ (el_mem h.1)))
        (fun x hx y hy => by
          rcases List.mem_append.1 hx with hx | hx
          · exact ho x hx y (hm y hy)
          · rw [List.mem_singleton.1 hx]; exact least hc (hm y hy))
        (fun x hx => by
          rcases List.mem_append.1 hx with hx | hx
          · exact hle x hx
          · rw [List.mem_singleton.1 hx]; exact h.2)
      refine ⟨o, r, he, hr, hp.trans ?_, h1, h2, h3, h4⟩
      rw [List.append_assoc]
      exact List.Perm.append_left _ hg.2
    · rw [dif_neg h]
      exact ⟨out, l, rfl, hc, List.Perm.refl _, hs, ho, hle, fun h0 => by
        have := fun h' => h ⟨h0, h'⟩
        omega⟩
end Go.Proofs.Ytdhajbodlpeheaa.Th
