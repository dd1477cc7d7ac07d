/- The law TimersMixed, over the printed functions. -/
import Derived.Test.YtdhajbodlpeheaaC5STimersMixed
import Derived.Test.YtdhajbodlpeheaaC5Th4
namespace Go.Proofs.Ytdhajbodlpeheaa.Pure
open Go.RowKit Go.Proofs.Ytdhajbodlpeheaa.Q Go.Proofs.Ytdhajbodlpeheaa.Th Go.Proofs.YtdhajbodlpeheaaW.PrintWords
set_option linter.unusedVariables false
set_option linter.unusedSimpArgs false
theorem push_ex {l : List T} {t : T} (h : chk l = 0) (hl : l.length < 4000) (hr : right t = true) : ∃ P, (∀ k, 2 * l.length + 10 < k → timers_Push.f k l t.f0.f0 t.f0.f1 t.f1 = some (P, 0)) ∧ chk P = 0 ∧ P.Perm (t :: l) ∧ P.length = l.length + 1 :=
  ⟨_, fun k hk => push_ok h hl hr hk, (pushed_good h hl hr).1, (pushed_good h hl hr).2, pushed_length l t⟩
theorem pop_ex {l : List T} (h : chk l = 0) (h0 : 0 < l.length) : ∃ Q, (∀ k, 3 * l.length + 10 < k → timers_Pop.f k l = some ((el l 0).f0.f0, (el l 0).f0.f1, (el l 0).f1, Q, 0)) ∧ chk Q = 0 ∧ (el l 0 :: Q).Perm l ∧ Q.length = l.length - 1 :=
  ⟨_, fun k hk => pop_ok h h0 hk, (popped_good h h0).1, (popped_good h h0).2, popped_length l⟩
theorem mixed_loop (l : List T) (b : List Bool) (hb : b.length = l.length) (hl : l.length ≤ 60) (hr : ∀ y ∈ l, right y = true) (d : Nat) : ∀ (i : Nat) (h s : List T), i + d = l.length → h.length ≤ i → chk h = 0 → Srt s → s.Perm h →
    ∃ n, ∀ k, n < k → tailwaterlaw18_TimersMixed.l0 k l b true h s (i : Int) = some true := by
  induction d with
  | zero =>
    intro i h s hi hh hc hs hp
    obtain ⟨r, hrp, hrs, n, e⟩ := sorted_ev h (by omega)
    have hrl := hrp.length_eq
    refine ⟨n + 100, fun k hk => ?_⟩
    obtain ⟨k, rfl⟩ : ∃ m, k = m + 1 := ⟨k - 1, by omega⟩
    simp only [tailwaterlaw18_TimersMixed.l0]
    rw [if_neg (by omega), if_pos trivial, e k (by omega)]
    simp only [Option.bind_some]
    rw [srt_unique hs hrs (hp.trans hrp.symm), same_refl r (by simp only [LIM]; omega) (by omega)]
    simp only [Option.bind_some]
  | succ d ih =>
    intro i h s hi hh hc hs hp
    have hre := hr _ (el_mem (l := l) (i := i) (by omega))
    obtain ⟨P, hP, hPc, hPp, hpl⟩ := push_ex hc (by omega) hre
    have hsl := hp.length_eq
    obtain ⟨r, hrp, hrs, n, e⟩ := sorted_ev (s ++ [el l i]) (by simp; omega)
    have hrl := hrp.length_eq
    simp only [List.length_append, List.length_singleton] at hrl
    have hpr : P.Perm r := hPp.trans (((List.Perm.cons _ hp.symm).trans (List.perm_append_comm (l₁ := [el l i]))).trans hrp.symm)
    obtain ⟨Q, hQ, hQc, hQp, hql⟩ := pop_ex hPc (by omega)
    have hle := least_eq hPc (by omega) hrs hpr
    have go : ∀ k, n + 1000 < k → tailwaterlaw18_TimersMixed.l0 (k + 1) l b true h s (i : Int) =
        if rdOf false b (i : Int) = true then tailwaterlaw18_TimersMixed.l0 k l b true Q (r.drop 1) ((i + 1 : Nat) : Int) else tailwaterlaw18_TimersMixed.l0 k l b true P r ((i + 1 : Nat) : Int) := by
      intro k hk
      simp only [tailwaterlaw18_TimersMixed.l0]
      rw [if_pos (by omega), if_pos (by omega), rd_el, hP k (by omega), Option.bind_some, if_pos rfl, hpl, succ_wrap h.length (by simp only [LIM]; omega), if_pos rfl, if_pos (by omega), show (⟨⟨(el l i).f0.f0, (el l i).f0.f1⟩, (el l i).f1⟩ : S34) = el l i from rfl, e k (by omega), Option.bind_some, if_pos (by omega), succ_wrap i (by simp only [LIM]; omega)]
      by_cases hbi : rdOf false b (i : Int) = true
      · rw [if_pos hbi, if_pos hbi, hQ k (by omega), Option.bind_some, if_pos rfl, if_pos (by omega), show rd_T34 r 0 = el r 0 from rd_el r 0, hle, if_neg (by simp), if_pos (by omega), show ((1 : Int)).toNat = 1 from rfl]
      · rw [if_neg hbi, if_neg hbi]
    by_cases hbi : rdOf false b (i : Int) = true
    · have hd : (r.drop 1).Perm Q := by
        have h1 := hQp.trans hpr
        rw [hle] at h1
        obtain ⟨a, r', rfl⟩ : ∃ a r', r = a :: r' := by
          cases r with
          | nil => simp at hrl
          | cons a r => exact ⟨a, r, rfl⟩
        exact (h1.cons_inv).symm
      obtain ⟨m, hm⟩ := ih (i + 1) Q (r.drop 1) (by omega) (by omega) hQc (List.Pairwise.drop hrs) hd
      refine ⟨n + m + 2000, fun k hk => ?_⟩
      obtain ⟨k, rfl⟩ : ∃ m, k = m + 1 := ⟨k - 1, by omega⟩
      rw [go k (by omega), if_pos hbi]
      exact hm k (by omega)
    · obtain ⟨m, hm⟩ := ih (i + 1) P r (by omega) (by omega) hPc hrs hpr.symm
      refine ⟨n + m + 2000, fun k hk => ?_⟩
      obtain ⟨k, rfl⟩ : ∃ m, k = m + 1 := ⟨k - 1, by omega⟩
      rw [go k (by omega), if_neg hbi]
      exact hm k (by omega)
theorem TimersMixed : tailwaterlaw18_TimersMixed.Pure := by
  intro l bs hlen _ _ _
  obtain ⟨b, hb, hf⟩ := few_eq l
  cases b with
  | false =>
    refine ⟨1000, ?_⟩
    unfold tailwaterlaw18_TimersMixed.f
    rw [alive_eq (by omega), hf _ (by omega)]
    simp only [Option.bind_some]
    rw [if_neg (by simp)]
  | true =>
    obtain ⟨hl, hr⟩ := hb rfl
    by_cases he : bs.length = l.length
    · obtain ⟨n, hn⟩ := mixed_loop l bs he hl hr l.length 0 [] [] (by omega) (by simp) check_nil List.Pairwise.nil (List.Perm.refl _)
      refine ⟨n + 1000, ?_⟩
      unfold tailwaterlaw18_TimersMixed.f
      rw [alive_eq (by omega), hf _ (by omega)]
      simp only [Option.bind_some, if_true]
      rw [if_pos (by omega)]
      have := hn (n + 1000) (by omega)
      rw [show ((0 : Nat) : Int) = 0 from rfl] at this
      exact this
    · refine ⟨1000, ?_⟩
      unfold tailwaterlaw18_TimersMixed.f
      rw [alive_eq (by omega), hf _ (by omega)]
      simp only [Option.bind_some, if_true]
      rw [if_neg (by omega)]
end Go.Proofs.Ytdhajbodlpeheaa.Pure
