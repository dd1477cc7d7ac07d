/- The law TimersFirst, over the printed functions. -/
import Derived.Test.YtdhajbodlpeheaaC4STimersFirst
import Derived.Test.YtdhajbodlpeheaaC4Th4
namespace Go.Proofs.Ytdhajbodlpeheaa.Pure
open Go.RowKit Go.Proofs.Ytdhajbodlpeheaa.Q Go.Proofs.Ytdhajbodlpeheaa.Th Go.Proofs.YtdhajbodlpeheaaW.PrintWords
set_option linter.unusedVariables false
set_option linter.unusedSimpArgs false
theorem first_loop (s : List T) (hl : s.length ≤ 60) (hs : Srt s) (d : Nat) : ∀ (k i : Nat) (h : List T), i + d = s.length → h.Perm (s.drop i) → chk h = 0 → d + 400 < k →
    tailwaterlaw18_TimersFirst.l0 k true h s (i : Int) = some true := by
  induction d with
  | zero =>
    intro k i h hi hp hc hk
    obtain ⟨k, rfl⟩ : ∃ m, k = m + 1 := ⟨k - 1, by omega⟩
    rw [List.drop_of_length_le (by omega)] at hp
    obtain rfl := hp.eq_nil
    simp only [tailwaterlaw18_TimersFirst.l0]
    rw [if_neg (by omega), pop_none (by omega)]
    simp only [Option.bind_some, if_true]
    rfl
  | succ d ih =>
    intro k i h hi hp hc hk
    obtain ⟨k, rfl⟩ : ∃ m, k = m + 1 := ⟨k - 1, by omega⟩
    have hlh : h.length = s.length - i := by rw [hp.length_eq, List.length_drop]
    have h0 : 0 < h.length := by omega
    have hg := popped_good hc h0
    have hd : s.drop i = el s i :: s.drop (i + 1) := by rw [List.drop_eq_getElem_cons (by omega), el_lt (by omega)]
    have hle := least_eq hc h0 (List.Pairwise.drop hs) hp
    rw [hd] at hle hp
    have e : el h 0 = el s i := hle
    simp only [tailwaterlaw18_TimersFirst.l0]
    rw [if_pos (by omega), pop_ok hc h0 (by omega)]
    simp only [Option.bind_some, if_true]
    rw [if_pos (by omega), rd_el, e, if_neg (by simp), len1_wrap _ h0 (by simp only [LIM]; omega), popped_length, if_pos rfl, check_eq _ (by rw [popped_length]; simp only [LIM]; omega) (by rw [popped_length]; omega), hg.1]
    simp only [Option.bind_some, if_true]
    rw [succ_wrap i (by simp only [LIM]; omega)]
    refine ih k (i + 1) _ (by omega) ?_ hg.1 (by omega)
    have := hg.2.trans hp
    rw [e] at this
    exact this.cons_inv
theorem TimersFirst : tailwaterlaw18_TimersFirst.Pure := by
  intro l hlen _
  obtain ⟨b, hb, hf⟩ := few_eq l
  cases b with
  | false =>
    refine ⟨1000, ?_⟩
    unfold tailwaterlaw18_TimersFirst.f
    rw [alive_eq (by omega), hf _ (by omega)]
    simp only [Option.bind_some]
    rw [if_neg (by simp)]
  | true =>
    obtain ⟨hl, hr⟩ := hb rfl
    obtain ⟨s, hsp, hss, n, e⟩ := sorted_ev l (by omega)
    have hsl := hsp.length_eq
    refine ⟨n + 3000, ?_⟩
    unfold tailwaterlaw18_TimersFirst.f
    obtain ⟨h, hpe, hc, hp⟩ := pushed_eq l hl hr (k := n + 3000) (by omega)
    rw [alive_eq (by omega), hf _ (by omega)]
    simp only [Option.bind_some, if_true]
    rw [hpe]
    simp only [Option.bind_some, if_true]
    have hhl := hp.length_eq
    rw [check_eq h (by simp only [LIM]; omega) (by omega), hc]
    simp only [Option.bind_some, if_true]
    rw [e _ (by omega)]
    simp only [Option.bind_some]
    have := first_loop s (by omega) hss s.length (n + 3000) 0 h (by omega) (hp.trans hsp.symm) hc (by omega)
    rw [show ((0 : Nat) : Int) = 0 from rfl] at this
    exact this
end Go.Proofs.Ytdhajbodlpeheaa.Pure
