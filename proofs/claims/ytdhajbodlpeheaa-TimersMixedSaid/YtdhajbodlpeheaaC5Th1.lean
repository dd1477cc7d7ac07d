/- Plain mathematics on timers: what the printed functions before, Check, Push, Pop, Until (and the reference's) come to. -/
import Derived.Test.YtdhajbodlpeheaaC5Qx15
import Derived.Test.YtdhajbodlpeheaaC5Qx17
import Derived.Test.YtdhajbodlpeheaaC5Opens
namespace Go.Proofs.Ytdhajbodlpeheaa.Th
open Go.RowKit Go.Proofs.Ytdhajbodlpeheaa.Q Go.Proofs.YtdhajbodlpeheaaW.PrintWords
set_option linter.unusedVariables false
set_option linter.unusedSimpArgs false
abbrev T := S34
abbrev el (l : List T) (i : Nat) : T := l.getD i z34
def lt (a b : T) : Bool := if a.f0.f1 = b.f0.f1 then (if a.f0.f0 = b.f0.f0 then decide (a.f1 < b.f1) else decide (a.f0.f0 < b.f0.f0)) else decide (a.f0.f1 < b.f0.f1)
def right (a : T) : Bool := decide (a.f0.f0 ≥ -1100585369600 ∧ a.f0.f0 < a.f0.f1 ∧ a.f0.f1 ≤ 1100585369600)
abbrev LIM : Nat := 9223372036854775000
theorem rd_el (l : List T) (i : Nat) : rd_T34 l (i : Int) = el l i := by simp [rd_T34, el]
theorem wrap_small (x : Int) (h0 : -9223372036854775808 ≤ x) (h : x ≤ 9223372036854775807) : wrap64 x = x := by unfold wrap64; omega
theorem succ_wrap (i : Nat) (h : i < LIM) : wrap64 ((i : Int) + 1) = ((i + 1 : Nat) : Int) := by
  rw [wrap_small _ (by omega) (by simp only [LIM] at h; omega)]
  omega
theorem par_wrap (i : Nat) (h0 : 0 < i) (h : i < LIM) : wrap64 (Int.tdiv (wrap64 ((i : Int) - 1)) 2) = (((i - 1) / 2 : Nat) : Int) := by
  simp only [LIM] at h
  rw [wrap_small ((i : Int) - 1) (by omega) (by omega), Int.tdiv_eq_ediv_of_nonneg (by omega), wrap_small _ (by omega) (by omega)]
  omega
theorem lt_irrefl (a : T) : lt a a = false := by simp [lt]
theorem lt_trans {a b c : T} (h : lt a b = true) (h' : lt b c = true) : lt a c = true := by
  unfold lt at *
  repeat' split at h
  all_goals (repeat' split at h')
  all_goals (repeat' split)
  all_goals simp only [decide_eq_true_eq] at *
  all_goals omega
theorem lt_asymm {a b : T} (h : lt a b = true) : lt b a = false := by
  cases h' : lt b a with
  | false => rfl
  | true => have := lt_trans h h'; rw [lt_irrefl] at this; cases this
theorem lt_total {a b : T} (h : lt a b = false) (h' : lt b a = false) : a = b := by
  obtain ⟨⟨a0, a1⟩, a2⟩ := a
  obtain ⟨⟨b0, b1⟩, b2⟩ := b
  unfold lt at *
  simp only at h h'
  repeat' split at h
  all_goals (repeat' split at h')
  all_goals simp only [decide_eq_false_iff_not] at *
  all_goals first | omega | (have e0 : a0 = b0 := by omega); (have e1 : a1 = b1 := by omega); (have e2 : a2 = b2 := by omega); subst e0 e1 e2; rfl
theorem le_trans {a b c : T} (h : lt b a = false) (h' : lt c b = false) : lt c a = false := by
  cases hc : lt c a with
  | false => rfl
  | true =>
    cases hb : lt a b with
    | true => have := lt_trans hc hb; rw [h'] at this; cases this
    | false => rw [lt_total hb h] at hc; rw [h'] at hc; cases hc
theorem less_eq (a b : T) : tailwaterref18_Less.f a.f0.f0 a.f0.f1 a.f1 b.f0.f0 b.f0.f1 b.f1 = some (lt a b) := by
  unfold tailwaterref18_Less.f tailwaterref17_Less.f lt
  repeat' split
  all_goals simp_all
theorem compare_eq (a b : Int) : cmp_Compare_int64.f a b = some (if a < b then -1 else if a > b then 1 else 0) := by
  unfold cmp_Compare_int64.f cmp_isNaN_int64.f
  simp
  repeat' split
  all_goals simp_all
theorem or3 (m : Nat) (x y z : Int) : cmp_Or_int.f (m + 5) [x, y, z] = some (if x = 0 then (if y = 0 then z else y) else x) := by
  have w1 : wrap64 (0 + 1) = 1 := wrap_small _ (by omega) (by omega)
  have w2 : wrap64 (1 + 1) = 2 := wrap_small _ (by omega) (by omega)
  have w3 : wrap64 (2 + 1) = 3 := wrap_small _ (by omega) (by omega)
  have r0 : rd [x, y, z] 0 = x := rfl
  have r1 : rd [x, y, z] 1 = y := rfl
  have r2 : rd [x, y, z] 2 = z := rfl
  have hl : (([x, y, z] : List Int).length : Int) = 3 := rfl
  unfold cmp_Or_int.f
  rw [hl]
  simp only [cmp_Or_int.l0, hl, w1, w2, w3, r0, r1, r2]
  by_cases hx : x = 0
  · by_cases hy : y = 0
    · by_cases hz : z = 0
      · simp [hx, hy, hz]
      · simp [hx, hy, hz]
    · simp [hx, hy]
  · simp [hx]
theorem before_eq {k : Nat} (hk : 5 ≤ k) (a b : T) : timers_before.f k a.f0.f0 a.f0.f1 a.f1 b.f0.f0 b.f0.f1 b.f1 = some (lt a b) := by
  obtain ⟨m, rfl⟩ : ∃ m, k = m + 5 := ⟨k - 5, by omega⟩
  unfold timers_before.f lt
  simp only [compare_eq, Option.bind_some, or3]
  congr 1
  repeat' split
  all_goals first | omega | (simp only [decide_eq_decide]; omega)
theorem right_eq (a : T) : timers_right.f a.f0.f0 a.f0.f1 a.f1 = some (right a) := by
  unfold timers_right.f right
  repeat' split
  all_goals simp_all
  all_goals omega
theorem rright_eq (a : T) : tailwaterref18_Right.f a.f0.f0 a.f0.f1 a.f1 = some (right a) := by
  unfold tailwaterref18_Right.f right
  repeat' split
  all_goals simp_all
  all_goals omega
def okAt (l : List T) (i : Nat) : Prop := right (el l i) = true ∧ (0 < i → lt (el l i) (el l ((i - 1) / 2)) = false)
instance (l : List T) (i : Nat) : Decidable (okAt l i) := by unfold okAt; infer_instance
def Good (l : List T) : Prop := ∀ i, i < l.length → okAt l i
instance (l : List T) : Decidable (Good l) := by unfold Good; infer_instance
def chk (l : List T) : Int := if l.length > 4000 then 4 else if Good l then 0 else 8
theorem pcheck_loop (l : List T) (hl : l.length < LIM) (d : Nat) : ∀ (k i : Nat), i + d = l.length → 2 * d + 6 < k →
    timers_Check.l0 k l l (l.length : Int) (i : Int) = some (if ∀ j, j < l.length → i ≤ j → okAt l j then 0 else 8) := by
  induction d with
  | zero =>
    intro k i hi hk
    obtain ⟨k, rfl⟩ : ∃ m, k = m + 1 := ⟨k - 1, by omega⟩
    simp only [timers_Check.l0]
    rw [if_neg (by omega), if_pos (fun j hj hij => by omega)]
  | succ d ih =>
    intro k i hi hk
    obtain ⟨k, rfl⟩ : ∃ m, k = m + 2 := ⟨k - 2, by omega⟩
    simp only [timers_Check.l0]
    rw [if_pos (by omega), if_pos (by omega), if_pos (by omega), rd_el, right_eq]
    simp only [Option.bind_some]
    have next : (∀ j, j < l.length → i ≤ j → okAt l j) ↔ okAt l i ∧ ∀ j, j < l.length → i + 1 ≤ j → okAt l j :=
      ⟨fun h => ⟨h i (by omega) (Nat.le_refl _), fun j hj hij => h j hj (by omega)⟩, fun h j hj hij => by
        rcases Nat.lt_or_ge i j with h1 | h1
        · exact h.2 j hj h1
        · obtain rfl : i = j := by omega
          exact h.1⟩
    by_cases hr : right (el l i) = true
    · rw [if_pos hr]
      by_cases h0 : 0 < i
      · rw [if_pos (by omega), par_wrap i h0 (by omega), if_pos (by omega), if_pos (by omega), rd_el, before_eq (by omega)]
        simp only [Option.bind_some, timers_Check.j1]
        by_cases hb : lt (el l i) (el l ((i - 1) / 2)) = true
        · rw [if_pos hb, if_neg (fun h => by have := (next.1 h).1.2 h0; rw [hb] at this; cases this)]
        · rw [if_neg hb, succ_wrap i (by omega), ih k (i + 1) (by omega) (by omega)]
          have hok : okAt l i := ⟨hr, fun _ => by simpa using hb⟩
          simp only [next, hok, true_and]
      · rw [if_neg (by omega)]
        simp only [timers_Check.j1]
        rw [if_neg (by simp), succ_wrap i (by omega), ih k (i + 1) (by omega) (by omega)]
        have hok : okAt l i := ⟨hr, fun h => absurd h h0⟩
        simp only [next, hok, true_and]
    · rw [if_neg hr]
      simp only [timers_Check.j1]
      rw [if_pos trivial, if_neg (fun h => hr (next.1 h).1.1)]
theorem check_eq (l : List T) (hl : l.length < LIM) {k : Nat} (hk : 2 * l.length + 6 < k) : timers_Check.f k l = some (chk l) := by
  unfold timers_Check.f chk
  by_cases h : l.length > 4000
  · rw [if_pos (by omega), if_pos h]
  · rw [if_neg (by omega), if_neg h]
    have := pcheck_loop l hl l.length k 0 (by omega) hk
    rw [show ((0 : Nat) : Int) = 0 from rfl] at this
    rw [this]
    have e : (∀ j, j < l.length → 0 ≤ j → okAt l j) ↔ Good l := ⟨fun h i hi => h i hi (Nat.zero_le _), fun h i hi _ => h i hi⟩
    simp only [e]
theorem ch1_wrap (i : Nat) (h : i < 1000000) : wrap64 (wrap64 (2 * (i : Int)) + 1) = ((2 * i + 1 : Nat) : Int) := by
  rw [wrap_small (2 * (i : Int)) (by omega) (by omega), wrap_small _ (by omega) (by omega)]
  omega
def okC (l : List T) (i : Nat) : Prop := right (el l i) = true ∧ (2 * i + 1 < l.length → lt (el l (2 * i + 1)) (el l i) = false) ∧ (2 * i + 2 < l.length → lt (el l (2 * i + 2)) (el l i) = false)
instance (l : List T) (i : Nat) : Decidable (okC l i) := by unfold okC; infer_instance
def swap (l : List T) (i j : Nat) : List T := (l.set i (el l j)).set j (el l i)
@[simp] theorem swap_length (l : List T) (i j : Nat) : (swap l i j).length = l.length := by simp [swap]
def up (l : List T) (i : Nat) : List T := if h : 0 < i then (if lt (el l i) (el l ((i - 1) / 2)) = true then up (swap l i ((i - 1) / 2)) ((i - 1) / 2) else l) else l
termination_by i
decreasing_by omega
theorem pup (d : Nat) : ∀ (k i : Nat) (l : List T), i < l.length → l.length < LIM → i ≤ d → d + 6 < k → timers_Push.l0 k l (i : Int) = some (up l i, 0) := by
  induction d with
  | zero =>
    intro k i l hi hl hd hk
    obtain ⟨k, rfl⟩ : ∃ m, k = m + 1 := ⟨k - 1, by omega⟩
    obtain rfl : i = 0 := by omega
    simp only [timers_Push.l0]
    rw [if_neg (by omega), up, dif_neg (by omega)]
  | succ d ih =>
    intro k i l hi hl hd hk
    obtain ⟨k, rfl⟩ : ∃ m, k = m + 1 := ⟨k - 1, by omega⟩
    by_cases h0 : 0 < i
    · simp only [timers_Push.l0]
      rw [if_pos (by omega), if_pos (by omega), if_pos (by omega), par_wrap i h0 (by omega), if_pos (by omega), if_pos (by omega), rd_el, rd_el, before_eq (by omega)]
      simp only [Option.bind_some]
      rw [up, dif_pos h0]
      by_cases hb : lt (el l i) (el l ((i - 1) / 2)) = true
      · rw [if_pos hb, if_pos hb]
        exact ih k _ (swap l i ((i - 1) / 2)) (by rw [swap_length]; omega) (by rw [swap_length]; exact hl) (by omega) (by omega)
      · rw [if_neg hb, if_neg hb]
    · simp only [timers_Push.l0]
      rw [if_neg (by omega), up, dif_neg h0]
theorem room_eq (l : List T) (h : l.length < 11728124029610) : timers_room.f l = some l := by unfold timers_room.f; rw [if_pos h]
def pushed (l : List T) (t : T) : List T := up (l ++ [t]) l.length
theorem push_eq (l : List T) (t : T) (hl : l.length < LIM) {k : Nat} (hk : 2 * l.length + 10 < k) :
    timers_Push.f k l t.f0.f0 t.f0.f1 t.f1 = some (if chk l = 0 then (if right t = true then (if l.length = 4000 then ([], 18) else (pushed l t, 0)) else ([], 8)) else ([], chk l)) := by
  unfold timers_Push.f
  rw [check_eq l hl (by omega)]
  simp only [Option.bind_some]
  by_cases hc : chk l = 0
  · have hlen : l.length ≤ 4000 := by
      unfold chk at hc
      split at hc
      · cases hc
      · omega
    rw [if_pos hc, if_pos hc, right_eq]
    simp only [Option.bind_some]
    by_cases hr : right t = true
    · rw [if_pos hr, if_pos hr]
      by_cases h4 : l.length = 4000
      · rw [if_pos (by omega), if_pos h4]
      · rw [if_neg (by omega), if_neg h4, room_eq l (by omega)]
        simp only [Option.bind_some, List.length_append, List.length_singleton]
        rw [if_pos (by omega), show wrap64 (((l.length + 1 : Nat) : Int) - 1) = ((l.length : Nat) : Int) by rw [wrap_small _ (by omega) (by omega)]; omega]
        exact pup l.length k l.length (l ++ [t]) (by simp) (by simp only [List.length_append, List.length_singleton, LIM]; omega) (Nat.le_refl _) (by omega)
    · rw [if_neg hr, if_neg hr]
  · rw [if_neg hc, if_neg hc]
def best (l : List T) (i : Nat) : Nat :=
  if 2 * i + 1 < l.length then
    if 2 * i + 2 < l.length ∧ lt (el l (2 * i + 2)) (el l (2 * i + 1)) = true then (if lt (el l (2 * i + 2)) (el l i) = true then 2 * i + 2 else i)
    else (if lt (el l (2 * i + 1)) (el l i) = true then 2 * i + 1 else i)
  else i
theorem best_lt (l : List T) (i : Nat) (h : best l i ≠ i) : i < best l i ∧ best l i < l.length := by
  unfold best at *
  repeat' split at h
  all_goals (repeat' split)
  all_goals omega
def down (l : List T) (i : Nat) : List T := if h : best l i = i then l else down (swap l i (best l i)) (best l i)
termination_by l.length - i
decreasing_by
  have := best_lt l i h
  rw [swap_length]
  omega
theorem pj2 (k : Nat) (l : List T) (n : Nat) (i c : Nat) (hn : l.length = n) (hi : i < n) (hc : c < n) (hk : 5 ≤ k) (y0 y1 y2 : Int) :
    timers_pop.j2 (k + 1) l (n : Int) (i : Int) (c : Int) y0 y1 y2 = if lt (el l c) (el l i) = true then timers_pop.l0 k (swap l i c) (n : Int) (c : Int) y0 y1 y2 else some (y0, y1, y2, l) := by
  simp only [timers_pop.j2]
  rw [if_pos (by omega), if_pos (by omega), if_pos (by omega), if_pos (by omega), rd_el, rd_el, before_eq hk]
  simp only [Option.bind_some]
  rfl
theorem pdown (n : Nat) (hn4 : n ≤ 5000) (d : Nat) : ∀ (k i : Nat) (l : List T), l.length = n → i ≤ n → n - i ≤ d → 3 * d + 10 < k → ∀ y0 y1 y2 : Int,
    timers_pop.l0 k l (n : Int) (i : Int) y0 y1 y2 = some (y0, y1, y2, down l i) := by
  induction d with
  | zero =>
    intro k i l hl hi hd hk y0 y1 y2
    obtain ⟨k, rfl⟩ : ∃ m, k = m + 1 := ⟨k - 1, by omega⟩
    simp only [timers_pop.l0]
    rw [ch1_wrap i (by omega), if_neg (by omega)]
    have hb : best l i = i := by unfold best; rw [if_neg (by omega)]
    rw [down, dif_pos hb]
  | succ d ih =>
    intro k i l hl hi hd hk y0 y1 y2
    obtain ⟨k, rfl⟩ : ∃ m, k = m + 3 := ⟨k - 3, by omega⟩
    simp only [timers_pop.l0]
    rw [ch1_wrap i (by omega), succ_wrap (2 * i + 1) (by simp only [LIM]; omega)]
    by_cases h1 : 2 * i + 1 < n
    · rw [if_pos (by omega)]
      by_cases h2 : 2 * i + 2 < n
      · rw [if_pos (by omega), if_pos (by omega), if_pos (by omega), if_pos (by omega), if_pos (by omega), rd_el, rd_el, before_eq (by omega)]
        simp only [Option.bind_some, timers_pop.j1]
        by_cases hb : lt (el l (2 * i + 1 + 1)) (el l (2 * i + 1)) = true
        · rw [if_pos hb, succ_wrap (2 * i + 1) (by simp only [LIM]; omega), pj2 _ l n i _ hl (by omega) (by omega) (by omega)]
          by_cases hc : lt (el l (2 * i + 1 + 1)) (el l i) = true
          · have e : best l i = 2 * i + 2 := by unfold best; rw [if_pos (by omega), if_pos ⟨by omega, hb⟩, if_pos hc]
            rw [if_pos hc, down, dif_neg (by omega), e]
            exact ih k _ _ (by rw [swap_length]; exact hl) (by omega) (by omega) (by omega) y0 y1 y2
          · have e : best l i = i := by unfold best; rw [if_pos (by omega), if_pos ⟨by omega, hb⟩, if_neg hc]
            rw [if_neg hc, down, dif_pos e]
        · rw [if_neg hb, pj2 _ l n i _ hl (by omega) (by omega) (by omega)]
          by_cases hc : lt (el l (2 * i + 1)) (el l i) = true
          · have e : best l i = 2 * i + 1 := by unfold best; rw [if_pos (by omega), if_neg (fun h => hb h.2), if_pos hc]
            rw [if_pos hc, down, dif_neg (by omega), e]
            exact ih k _ _ (by rw [swap_length]; exact hl) (by omega) (by omega) (by omega) y0 y1 y2
          · have e : best l i = i := by unfold best; rw [if_pos (by omega), if_neg (fun h => hb h.2), if_neg hc]
            rw [if_neg hc, down, dif_pos e]
      · rw [if_neg (by omega)]
        simp only [timers_pop.j1]
        rw [if_neg (by simp), pj2 _ l n i _ hl (by omega) (by omega) (by omega)]
        by_cases hc : lt (el l (2 * i + 1)) (el l i) = true
        · have e : best l i = 2 * i + 1 := by unfold best; rw [if_pos (by omega), if_neg (fun h => h2 (by omega)), if_pos hc]
          rw [if_pos hc, down, dif_neg (by omega), e]
          exact ih k _ _ (by rw [swap_length]; exact hl) (by omega) (by omega) (by omega) y0 y1 y2
        · have e : best l i = i := by unfold best; rw [if_pos (by omega), if_neg (fun h => h2 (by omega)), if_neg hc]
          rw [if_neg hc, down, dif_pos e]
    · rw [if_neg (by omega)]
      have hb : best l i = i := by unfold best; rw [if_neg (by omega)]
      rw [down, dif_pos hb]
def popped (l : List T) : List T := down ((l.set 0 (el l (l.length - 1))).take (l.length - 1)) 0
theorem down_length (d : Nat) : ∀ (l : List T) (i : Nat), l.length - i ≤ d → (down l i).length = l.length := by
  induction d with
  | zero =>
    intro l i hd
    have hb : best l i = i := by unfold best; rw [if_neg (by omega)]
    rw [down, dif_pos hb]
  | succ d ih =>
    intro l i hd
    rw [down]
    split
    · rfl
    · rename_i h
      have := best_lt l i h
      rw [ih _ _ (by rw [swap_length]; omega), swap_length]
theorem popped_length (l : List T) : (popped l).length = l.length - 1 := by
  unfold popped
  rw [down_length _ _ _ (Nat.le_refl _)]
  simp
theorem len1_wrap (n : Nat) (h0 : 0 < n) (h : n < LIM) : wrap64 ((n : Int) - 1) = ((n - 1 : Nat) : Int) := by
  simp only [LIM] at h
  rw [wrap_small _ (by omega) (by omega)]
  omega
theorem pop_eq (l : List T) (h0 : 0 < l.length) (hl : l.length ≤ 5000) {k : Nat} (hk : 3 * l.length + 10 < k) : timers_pop.f k l = some ((el l 0).f0.f0, (el l 0).f0.f1, (el l 0).f1, popped l) := by
  unfold timers_pop.f
  rw [if_pos (by omega), len1_wrap _ h0 (by simp only [LIM]; omega), if_pos (by omega), if_pos (by omega), if_pos (by omega)]
  rw [rd_el, show rd_T34 l 0 = el l 0 from rd_el l 0]
  have e : (((l.length - 1 : Nat) : Int)).toNat = l.length - 1 := by omega
  rw [e]
  have := pdown (l.length - 1) (by omega) (l.length - 1) k 0 ((l.set 0 (el l (l.length - 1))).take (l.length - 1)) (by simp) (by omega) (by omega) (by omega) (el l 0).f0.f0 (el l 0).f0.f1 (el l 0).f1
  exact this
end Go.Proofs.Ytdhajbodlpeheaa.Th
