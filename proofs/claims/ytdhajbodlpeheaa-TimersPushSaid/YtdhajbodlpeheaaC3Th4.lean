/- Plain mathematics on timers, fourth part: alive, few, pushed, Until. -/
import Derived.Test.YtdhajbodlpeheaaC3Th3
import Derived.KernelRfl
namespace Go.Proofs.Ytdhajbodlpeheaa.Th
open Go.RowKit Go.Proofs.Ytdhajbodlpeheaa.Q Go.Proofs.YtdhajbodlpeheaaW.PrintWords
set_option linter.unusedVariables false
set_option linter.unusedSimpArgs false
theorem alive_at (k : Nat) : tailwaterlaw18_alive.f (k + 100) = some true := by kernel_rfl
theorem alive_eq {k : Nat} (h : 100 ≤ k) : tailwaterlaw18_alive.f k = some true := by
  obtain ⟨m, rfl⟩ : ∃ m, k = m + 100 := ⟨k - 100, by omega⟩
  exact alive_at m
theorem push_ok {l : List T} {t : T} (h : chk l = 0) (hl : l.length < 4000) (hr : right t = true) {k : Nat} (hk : 2 * l.length + 10 < k) : timers_Push.f k l t.f0.f0 t.f0.f1 t.f1 = some (pushed l t, 0) := by
  rw [push_eq l t (by simp only [LIM]; omega) hk, if_pos h, if_pos hr, if_neg (by omega)]
end Go.Proofs.Ytdhajbodlpeheaa.Th
