/- Plain mathematics on timers, fourth part: alive, few, pushed, Until. -/
import Derived.Test.YtdhajbodlpeheaaC5Th3
import Derived.KernelRfl
namespace Go.Proofs.Ytdhajbodlpeheaa.Th
open Go.RowKit Go.Proofs.Ytdhajbodlpeheaa.Q Go.Proofs.YtdhajbodlpeheaaW.PrintWords
set_option linter.unusedVariables false
set_option linter.unusedSimpArgs false
theorem alive_at (k : Nat) : tailwaterlaw18_alive.f (k + 100) = some true := by kernel_rfl
theorem alive_eq {k : Nat} (h : 100 ≤ k) : tailwaterlaw18_alive.f k = some true := by
  obtain ⟨m, rfl⟩ : ∃ m, k = m + 100 := ⟨k - 100, by omega⟩
  exact alive_at m
theorem few_loop (l : List T) (d : Nat) : ∀ (i : Nat), i + d = 60 → i ≤ l.length →
    ∃ b, (b = true → l.length ≤ 60 ∧ ∀ j, i ≤ j → j < l.length → right (el l j) = true) ∧ ∀ k, 2 * d + 2 < k → tailwaterlaw18_few.l0 k l (i : Int) = some b := by
  induction d with
  | zero =>
    intro i hi hil
    refine ⟨decide (l.length ≤ 60), fun h => ⟨by simpa using h, fun j hj hjl => by have : l.length ≤ 60 := (by simpa using h); omega⟩, fun k hk => ?_⟩
    obtain ⟨k, rfl⟩ : ∃ m, k = m + 2 := ⟨k - 2, by omega⟩
    simp only [tailwaterlaw18_few.l0]
    have e : (decide ((l.length : Int) ≤ 60)) = decide (l.length ≤ 60) := by rw [decide_eq_decide]; omega
    split
    · rw [show (decide ((i : Int) < 60)) = false by simp; omega]
      simp only [tailwaterlaw18_few.j1]
      rw [if_neg (by simp), e]
    · simp only [tailwaterlaw18_few.j1]
      rw [if_neg (by simp), e]
  | succ d ih =>
    intro i hi hil
    by_cases hlt : i < l.length
    · have step : ∀ k, tailwaterlaw18_few.l0 (k + 2) l (i : Int) = if right (el l i) = true then tailwaterlaw18_few.l0 k l ((i + 1 : Nat) : Int) else some false := by
        intro k
        simp only [tailwaterlaw18_few.l0]
        rw [if_pos (by omega), show (decide ((i : Int) < 60)) = true by simp; omega]
        simp only [tailwaterlaw18_few.j1]
        rw [if_pos trivial, if_pos (by omega), if_pos (by omega), rd_el, rright_eq]
        simp only [Option.bind_some]
        rw [succ_wrap i (by simp only [LIM]; omega)]
      by_cases hr : right (el l i) = true
      · obtain ⟨b, hb, he⟩ := ih (i + 1) (by omega) (by omega)
        refine ⟨b, fun h => ⟨(hb h).1, fun j hj hjl => ?_⟩, fun k hk => ?_⟩
        · by_cases hji : j = i
          · rw [hji]; exact hr
          · exact (hb h).2 j (by omega) hjl
        · obtain ⟨k, rfl⟩ : ∃ m, k = m + 2 := ⟨k - 2, by omega⟩
          rw [step, if_pos hr]
          exact he k (by omega)
      · refine ⟨false, fun h => (nomatch h), fun k hk => ?_⟩
        obtain ⟨k, rfl⟩ : ∃ m, k = m + 2 := ⟨k - 2, by omega⟩
        rw [step, if_neg hr]
    · refine ⟨true, fun h => ⟨by omega, fun j hj hjl => by omega⟩, fun k hk => ?_⟩
      obtain ⟨k, rfl⟩ : ∃ m, k = m + 2 := ⟨k - 2, by omega⟩
      simp only [tailwaterlaw18_few.l0]
      rw [if_neg (by omega)]
      simp only [tailwaterlaw18_few.j1]
      rw [if_neg (by simp)]
      simp
      omega
theorem few_eq (l : List T) : ∃ b, (b = true → l.length ≤ 60 ∧ ∀ y ∈ l, right y = true) ∧ ∀ k, 130 ≤ k → tailwaterlaw18_few.f k l = some b := by
  obtain ⟨b, hb, he⟩ := few_loop l 60 0 (by omega) (by omega)
  exact ⟨b, fun h => ⟨(hb h).1, fun y hy => by obtain ⟨i, hi, rfl⟩ := mem_el hy; exact (hb h).2 i (by omega) hi⟩, fun k hk => he k (by omega)⟩
theorem push_ok {l : List T} {t : T} (h : chk l = 0) (hl : l.length < 4000) (hr : right t = true) {k : Nat} (hk : 2 * l.length + 10 < k) : timers_Push.f k l t.f0.f0 t.f0.f1 t.f1 = some (pushed l t, 0) := by
  rw [push_eq l t (by simp only [LIM]; omega) hk, if_pos h, if_pos hr, if_neg (by omega)]
theorem pop_ok {l : List T} (h : chk l = 0) (h0 : 0 < l.length) {k : Nat} (hk : 3 * l.length + 10 < k) : timers_Pop.f k l = some ((el l 0).f0.f0, (el l 0).f0.f1, (el l 0).f1, popped l, 0) := by
  have := chk_len h
  rw [Pop_eq l (by simp only [LIM]; omega) hk]
  unfold popR
  rw [if_pos h, if_neg (by omega)]
theorem check_nil : chk ([] : List T) = 0 := chk_zero.2 ⟨by simp, fun i hi => absurd hi (by simp)⟩
theorem least_eq {h : List T} {s : List T} (hc : chk h = 0) (h0 : 0 < h.length) (hs : Srt s) (hp : h.Perm s) : el h 0 = el s 0 := by
  have hl := hp.length_eq
  obtain ⟨a, r, rfl⟩ : ∃ a r, s = a :: r := by
    cases s with
    | nil => simp at hl; rw [hl] at h0; simp at h0
    | cons a r => exact ⟨a, r, rfl⟩
  have e : el (a :: r) 0 = a := rfl
  rw [e]
  have h1 : lt a (el h 0) = false := least hc (hp.mem_iff.2 (List.mem_cons_self ..))
  rcases List.mem_cons.1 (hp.mem_iff.1 (el_mem h0)) with h2 | h2
  · exact h2
  · exact lt_total ((List.pairwise_cons.1 hs).1 _ h2) h1
end Go.Proofs.Ytdhajbodlpeheaa.Th
