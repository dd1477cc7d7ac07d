/- Plain mathematics on timers: what the printed functions before, Check, Push, Pop, Until (and the reference's) come to. -/
import Derived.Test.YtdhajbodlpeheaaC3Qx15
import Derived.Test.YtdhajbodlpeheaaC3Qx17
import Derived.Test.YtdhajbodlpeheaaC3Opens
namespace Go.Proofs.Ytdhajbodlpeheaa.Th
open Go.RowKit Go.Proofs.Ytdhajbodlpeheaa.Q Go.Proofs.YtdhajbodlpeheaaW.PrintWords
set_option linter.unusedVariables false
set_option linter.unusedSimpArgs false
abbrev T := S34
abbrev el (l : List T) (i : Nat) : T := l.getD i z34
def lt (a b : T) : Bool := if a.f0.f1 = b.f0.f1 then (if a.f0.f0 = b.f0.f0 then decide (a.f1 < b.f1) else decide (a.f0.f0 < b.f0.f0)) else decide (a.f0.f1 < b.f0.f1)
def right (a : T) : Bool := decide (a.f0.f0 ≥ -1100585369600 ∧ a.f0.f0 < a.f0.f1 ∧ a.f0.f1 ≤ 1100585369600)
abbrev LIM : Nat := 9223372036854775000
theorem rd_el (l : List T) (i : Nat) : rd_T34 l (i : Int) = el l i := by simp [rd_T34, el]
theorem wrap_small (x : Int) (h0 : -9223372036854775808 ≤ x) (h : x ≤ 9223372036854775807) : wrap64 x = x := by unfold wrap64; omega
theorem succ_wrap (i : Nat) (h : i < LIM) : wrap64 ((i : Int) + 1) = ((i + 1 : Nat) : Int) := by
  rw [wrap_small _ (by omega) (by simp only [LIM] at h; omega)]
  omega
theorem par_wrap (i : Nat) (h0 : 0 < i) (h : i < LIM) : wrap64 (Int.tdiv (wrap64 ((i : Int) - 1)) 2) = (((i - 1) / 2 : Nat) : Int) := by
  simp only [LIM] at h
  rw [wrap_small ((i : Int) - 1) (by omega) (by omega), Int.tdiv_eq_ediv_of_nonneg (by omega), wrap_small _ (by omega) (by omega)]
  omega
theorem lt_irrefl (a : T) : lt a a = false := by simp [lt]
theorem lt_trans {a b c : T} (h : lt a b = true) (h' : lt b c = true) : lt a c = true := by
  unfold lt at *
  repeat' split at h
  all_goals (repeat' split at h')
  all_goals (repeat' split)
  all_goals simp only [decide_eq_true_eq] at *
  all_goals omega
theorem lt_asymm {a b : T} (h : lt a b = true) : lt b a = false := by
  cases h' : lt b a with
  | false => rfl
  | true => have := lt_trans h h'; rw [lt_irrefl] at this; cases this
theorem lt_total {a b : T} (h : lt a b = false) (h' : lt b a = false) : a = b := by
  obtain ⟨⟨a0, a1⟩, a2⟩ := a
  obtain ⟨⟨b0, b1⟩, b2⟩ := b
  unfold lt at *
  simp only at h h'
  repeat' split at h
  all_goals (repeat' split at h')
  all_goals simp only [decide_eq_false_iff_not] at *
  all_goals first | omega | (have e0 : a0 = b0 := by omega); (have e1 : a1 = b1 := by omega); (have e2 : a2 = b2 := by omega); subst e0 e1 e2; rfl
theorem le_trans {a b c : T} (h : lt b a = false) (h' : lt c b = false) : lt c a = false := by
  cases hc : lt c a with
  | false => rfl
  | true =>
    cases hb : lt a b with
    | true => have := lt_trans hc hb; rw [h'] at this; cases this
    | false => rw [lt_total hb h] at hc; rw [h'] at hc; cases hc
theorem less_eq (a b : T) : tailwaterref18_Less.f a.f0.f0 a.f0.f1 a.f1 b.f0.f0 b.f0.f1 b.f1 = some (lt a b) := by
  unfold tailwaterref18_Less.f tailwaterref17_Less.f lt
  repeat' split
  all_goals simp_all
theorem compare_eq (a b : Int) : cmp_Compare_int64.f a b = some (if a < b then -1 else if a > b then 1 else 0) := by
  unfold cmp_Compare_int64.f cmp_isNaN_int64.f
  simp
  repeat' split
  all_goals simp_all
theorem or3 (m : Nat) (x y z : Int) : cmp_Or_int.f (m + 5) [x, y, z] = some (if x = 0 then (if y = 0 then z else y) else x) := by
  have w1 : wrap64 (0 + 1) = 1 := wrap_small _ (by omega) (by omega)
  have w2 : wrap64 (1 + 1) = 2 := wrap_small _ (by omega) (by omega)
  have w3 : wrap64 (2 + 1) = 3 := wrap_small _ (by omega) (by omega)
  have r0 : rd [x, y, z] 0 = x := rfl
  have r1 : rd [x, y, z] 1 = y := rfl
  have r2 : rd [x, y, z] 2 = z := rfl
  have hl : (([x, y, z] : List Int).length : Int) = 3 := rfl
  unfold cmp_Or_int.f
  rw [hl]
  simp only [cmp_Or_int.l0, hl, w1, w2, w3, r0, r1, r2]
  by_cases hx : x = 0
  · by_cases hy : y = 0
    · by_cases hz : z = 0
      · simp [hx, hy, hz]
      · simp [hx, hy, hz]
    · simp [hx, hy]
  · simp [hx]
theorem before_eq {k : Nat} (hk : 5 ≤ k) (a b : T) : timers_before.f k a.f0.f0 a.f0.f1 a.f1 b.f0.f0 b.f0.f1 b.f1 = some (lt a b) := by
  obtain ⟨m, rfl⟩ : ∃ m, k = m + 5 := ⟨k - 5, by omega⟩
  unfold timers_before.f lt
  simp only [compare_eq, Option.bind_some, or3]
  congr 1
  repeat' split
  all_goals first | omega | (simp only [decide_eq_decide]; omega)
theorem right_eq (a : T) : timers_right.f a.f0.f0 a.f0.f1 a.f1 = some (right a) := by
  unfold timers_right.f right
  repeat' split
  all_goals simp_all
  all_goals omega
theorem rright_eq (a : T) : tailwaterref18_Right.f a.f0.f0 a.f0.f1 a.f1 = some (right a) := by
  unfold tailwaterref18_Right.f right
  repeat' split
  all_goals simp_all
  all_goals omega
def okAt (l : List T) (i : Nat) : Prop := right (el l i) = true ∧ (0 < i → lt (el l i) (el l ((i - 1) / 2)) = false)
instance (l : List T) (i : Nat) : Decidable (okAt l i) := by unfold okAt; infer_instance
def Good (l : List T) : Prop := ∀ i, i < l.length → okAt l i
instance (l : List T) : Decidable (Good l) := by unfold Good; infer_instance
def chk (l : List T) : Int := if l.length > 4000 then 4 else if Good l then 0 else 8
theorem pcheck_loop (l : List T) (hl : l.length < LIM) (d : Nat) : ∀ (k i : Nat), i + d = l.length → 2 * d + 6 < k →
    timers_Check.l0 k l l (l.length : Int) (i : Int) = some (if ∀ j, j < l.length → i ≤ j → okAt l j then 0 else 8) := by
  induction d with
  | zero =>
    intro k i hi hk
    obtain ⟨k, rfl⟩ : ∃ m, k = m + 1 := ⟨k - 1, by omega⟩
    simp only [timers_Check.l0]
    rw [if_neg (by omega), if_pos (fun j hj hij => by omega)]
  | succ d ih =>
    intro k i hi hk
    obtain ⟨k, rfl⟩ : ∃ m, k = m + 2 := ⟨k - 2, by omega⟩
    simp only [timers_Check.l0]
    rw [if_pos (by omega), if_pos (by omega), if_pos (by omega), rd_el, right_eq]
    simp only [Option.bind_some]
    have next : (∀ j, j < l.length → i ≤ j → okAt l j) ↔ okAt l i ∧ ∀ j, j < l.length → i + 1 ≤ j → okAt l j :=
      ⟨fun h => ⟨h i (by omega) (Nat.le_refl _), fun j hj hij => h j hj (by omega)⟩, fun h j hj hij => by
        rcases Nat.lt_or_ge i j with h1 | h1
        · exact h.2 j hj h1
        · obtain rfl : i = j := by omega
          exact h.1⟩
    by_cases hr : right (el l i) = true
    · rw [if_pos hr]
      by_cases h0 : 0 < i
      · rw [if_pos (by omega), par_wrap i h0 (by omega), if_pos (by omega), if_pos (by omega), rd_el, before_eq (by omega)]
        simp only [Option.bind_some, timers_Check.j1]
        by_cases hb : lt (el l i) (el l ((i - 1) / 2)) = true
        · rw [if_pos hb, if_neg (fun h => by have := (next.1 h).1.2 h0; rw [hb] at this; cases this)]
        · rw [if_neg hb, succ_wrap i (by omega), ih k (i + 1) (by omega) (by omega)]
          have hok : okAt l i := ⟨hr, fun _ => by simpa using hb⟩
          simp only [next, hok, true_and]
      · rw [if_neg (by omega)]
        simp only [timers_Check.j1]
        rw [if_neg (by simp), succ_wrap i (by omega), ih k (i + 1) (by omega) (by omega)]
        have hok : okAt l i := ⟨hr, fun h => absurd h h0⟩
        simp only [next, hok, true_and]
    · rw [if_neg hr]
      simp only [timers_Check.j1]
      rw [if_pos trivial, if_neg (fun h => hr (next.1 h).1.1)]
theorem check_eq (l : List T) (hl : l.length < LIM) {k : Nat} (hk : 2 * l.length + 6 < k) : timers_Check.f k l = some (chk l) := by
  unfold timers_Check.f chk
  by_cases h : l.length > 4000
  · rw [if_pos (by omega), if_pos h]
  · rw [if_neg (by omega), if_neg h]
    have := pcheck_loop l hl l.length k 0 (by omega) hk
    rw [show ((0 : Nat) : Int) = 0 from rfl] at this
    rw [this]
    have e : (∀ j, j < l.length → 0 ≤ j → okAt l j) ↔ Good l := ⟨fun h i hi => h i hi (Nat.zero_le _), fun h i hi _ => h i hi⟩
    simp only [e]
theorem ch1_wrap (i : Nat) (h : i < 1000000) : wrap64 (wrap64 (2 * (i : Int)) + 1) = ((2 * i + 1 : Nat) : Int) := by
  rw [wrap_small (2 * (i : Int)) (by omega) (by omega), wrap_small _ (by omega) (by omega)]
  omega
theorem ch2_wrap (i : Nat) (h : i < 1000000) : wrap64 (wrap64 (2 * (i : Int)) + 2) = ((2 * i + 2 : Nat) : Int) := by
  rw [wrap_small (2 * (i : Int)) (by omega) (by omega), wrap_small _ (by omega) (by omega)]
  omega
def okC (l : List T) (i : Nat) : Prop := right (el l i) = true ∧ (2 * i + 1 < l.length → lt (el l (2 * i + 1)) (el l i) = false) ∧ (2 * i + 2 < l.length → lt (el l (2 * i + 2)) (el l i) = false)
instance (l : List T) (i : Nat) : Decidable (okC l i) := by unfold okC; infer_instance
theorem good_iff (l : List T) : (∀ i, i < l.length → okC l i) ↔ Good l := by
  constructor
  · intro h i hi
    refine ⟨(h i hi).1, fun h0 => ?_⟩
    have hp := h ((i - 1) / 2) (by omega)
    rcases Nat.lt_or_ge ((i - 1) % 2) 1 with he | he
    · have e : 2 * ((i - 1) / 2) + 1 = i := by omega
      have := hp.2.1
      rw [e] at this
      exact this hi
    · have e : 2 * ((i - 1) / 2) + 2 = i := by omega
      have := hp.2.2
      rw [e] at this
      exact this hi
  · intro h i hi
    refine ⟨(h i hi).1, fun hc => ?_, fun hc => ?_⟩
    · have := (h _ hc).2 (by omega)
      rwa [show (2 * i + 1 - 1) / 2 = i by omega] at this
    · have := (h _ hc).2 (by omega)
      rwa [show (2 * i + 2 - 1) / 2 = i by omega] at this
theorem rcheck_child (l : List T) (hl : l.length ≤ 4000) (i : Nat) (hi : i < l.length) (k j : Nat) (hj : j ≤ 2 * i + 2) (hjl : j < l.length) :
    tailwaterref18_Check.l1 (k + 2) l (i : Int) (j : Int) = if lt (el l j) (el l i) = true then some 8 else tailwaterref18_Check.l1 k l (i : Int) ((j + 1 : Nat) : Int) := by
  simp only [tailwaterref18_Check.l1]
  rw [ch2_wrap i (by omega), if_pos (by omega)]
  simp only [tailwaterref18_Check.j2]
  rw [if_pos (by simp; omega), if_pos (by omega), if_pos (by omega), if_pos (by omega), if_pos (by omega), rd_el, rd_el, less_eq]
  simp only [Option.bind_some]
  rw [succ_wrap j (by simp only [LIM]; omega)]
theorem rcheck_past (l : List T) (hl : l.length ≤ 4000) (i : Nat) (hi : i < l.length) (k j : Nat) (hj : 2 * i + 2 < j ∨ l.length ≤ j) :
    tailwaterref18_Check.l1 (k + 2) l (i : Int) (j : Int) = tailwaterref18_Check.l0 k l ((i + 1 : Nat) : Int) := by
  simp only [tailwaterref18_Check.l1]
  rw [ch2_wrap i (by omega)]
  have key : ∀ b : Bool, b = false → tailwaterref18_Check.j2 (k + 1) l (i : Int) (j : Int) b = tailwaterref18_Check.l0 k l ((i + 1 : Nat) : Int) := by
    intro b hb
    subst hb
    simp only [tailwaterref18_Check.j2]
    rw [if_neg (by simp), succ_wrap i (by simp only [LIM]; omega)]
  split
  · exact key _ (by simp; omega)
  · exact key _ rfl
theorem rcheck_loop (l : List T) (hl : l.length ≤ 4000) (d : Nat) : ∀ (k i : Nat), i + d = l.length → 7 * d + 7 < k →
    tailwaterref18_Check.l0 k l (i : Int) = some (if ∀ j, j < l.length → i ≤ j → okC l j then 0 else 8) := by
  induction d with
  | zero =>
    intro k i hi hk
    obtain ⟨k, rfl⟩ : ∃ m, k = m + 1 := ⟨k - 1, by omega⟩
    simp only [tailwaterref18_Check.l0]
    rw [if_neg (by omega), if_pos (fun j hj hij => by omega)]
  | succ d ih =>
    intro k i hi hk
    obtain ⟨k, rfl⟩ : ∃ m, k = m + 1 := ⟨k - 1, by omega⟩
    simp only [tailwaterref18_Check.l0]
    rw [if_pos (by omega), if_pos (by omega), rd_el, rright_eq]
    simp only [Option.bind_some]
    have next : (∀ j, j < l.length → i ≤ j → okC l j) ↔ okC l i ∧ ∀ j, j < l.length → i + 1 ≤ j → okC l j :=
      ⟨fun h => ⟨h i (by omega) (Nat.le_refl _), fun j hj hij => h j hj (by omega)⟩, fun h j hj hij => by
        rcases Nat.lt_or_ge i j with h1 | h1
        · exact h.2 j hj h1
        · obtain rfl : i = j := by omega
          exact h.1⟩
    by_cases hr : right (el l i) = true
    · rw [if_pos hr, ch1_wrap i (by omega)]
      by_cases h1 : 2 * i + 1 < l.length
      · obtain ⟨k, rfl⟩ : ∃ m, k = m + 2 := ⟨k - 2, by omega⟩
        rw [rcheck_child l hl i (by omega) k _ (by omega) h1]
        by_cases hb : lt (el l (2 * i + 1)) (el l i) = true
        · rw [if_pos hb, if_neg (fun h => by have := (next.1 h).1.2.1 h1; rw [hb] at this; cases this)]
        · rw [if_neg hb]
          by_cases h2 : 2 * i + 1 + 1 < l.length
          · obtain ⟨k, rfl⟩ : ∃ m, k = m + 2 := ⟨k - 2, by omega⟩
            rw [rcheck_child l hl i (by omega) k _ (by omega) h2]
            by_cases hb2 : lt (el l (2 * i + 1 + 1)) (el l i) = true
            · rw [if_pos hb2, if_neg (fun h => by have := (next.1 h).1.2.2 h2; rw [hb2] at this; cases this)]
            · obtain ⟨k, rfl⟩ : ∃ m, k = m + 2 := ⟨k - 2, by omega⟩
              rw [if_neg hb2, rcheck_past l hl i (by omega) k _ (Or.inl (by omega)), ih k (i + 1) (by omega) (by omega)]
              have hok : okC l i := ⟨hr, fun _ => by simpa using hb, fun _ => by simpa using hb2⟩
              simp only [next, hok, true_and]
          · obtain ⟨k, rfl⟩ : ∃ m, k = m + 2 := ⟨k - 2, by omega⟩
            rw [rcheck_past l hl i (by omega) k _ (Or.inr (by omega)), ih k (i + 1) (by omega) (by omega)]
            have hok : okC l i := ⟨hr, fun _ => by simpa using hb, fun h => absurd h h2⟩
            simp only [next, hok, true_and]
      · obtain ⟨k, rfl⟩ : ∃ m, k = m + 2 := ⟨k - 2, by omega⟩
        rw [rcheck_past l hl i (by omega) k _ (Or.inr (by omega)), ih k (i + 1) (by omega) (by omega)]
        have hok : okC l i := ⟨hr, fun h => absurd h h1, fun h => absurd h (by omega)⟩
        simp only [next, hok, true_and]
    · rw [if_neg hr, if_neg (fun h => hr (next.1 h).1.1)]
theorem rcheck_eq (l : List T) {k : Nat} (hk : 7 * l.length + 7 < k) : tailwaterref18_Check.f k l = some (chk l) := by
  unfold tailwaterref18_Check.f chk
  by_cases h : l.length > 4000
  · rw [if_pos (by omega), if_pos h]
  · rw [if_neg (by omega), if_neg h]
    have := rcheck_loop l (by omega) l.length k 0 (by omega) hk
    rw [show ((0 : Nat) : Int) = 0 from rfl] at this
    rw [this]
    have e : (∀ j, j < l.length → 0 ≤ j → okC l j) ↔ Good l := (⟨fun h i hi => h i hi (Nat.zero_le _), fun h i hi _ => h i hi⟩ : _ ↔ ∀ i, i < l.length → okC l i).trans (good_iff l)
    simp only [e]
def swap (l : List T) (i j : Nat) : List T := (l.set i (el l j)).set j (el l i)
@[simp] theorem swap_length (l : List T) (i j : Nat) : (swap l i j).length = l.length := by simp [swap]
def up (l : List T) (i : Nat) : List T := if h : 0 < i then (if lt (el l i) (el l ((i - 1) / 2)) = true then up (swap l i ((i - 1) / 2)) ((i - 1) / 2) else l) else l
termination_by i
decreasing_by omega
theorem pup (d : Nat) : ∀ (k i : Nat) (l : List T), i < l.length → l.length < LIM → i ≤ d → d + 6 < k → timers_Push.l0 k l (i : Int) = some (up l i, 0) := by
  induction d with
  | zero =>
    intro k i l hi hl hd hk
    obtain ⟨k, rfl⟩ : ∃ m, k = m + 1 := ⟨k - 1, by omega⟩
    obtain rfl : i = 0 := by omega
    simp only [timers_Push.l0]
    rw [if_neg (by omega), up, dif_neg (by omega)]
  | succ d ih =>
    intro k i l hi hl hd hk
    obtain ⟨k, rfl⟩ : ∃ m, k = m + 1 := ⟨k - 1, by omega⟩
    by_cases h0 : 0 < i
    · simp only [timers_Push.l0]
      rw [if_pos (by omega), if_pos (by omega), if_pos (by omega), par_wrap i h0 (by omega), if_pos (by omega), if_pos (by omega), rd_el, rd_el, before_eq (by omega)]
      simp only [Option.bind_some]
      rw [up, dif_pos h0]
      by_cases hb : lt (el l i) (el l ((i - 1) / 2)) = true
      · rw [if_pos hb, if_pos hb]
        exact ih k _ (swap l i ((i - 1) / 2)) (by rw [swap_length]; omega) (by rw [swap_length]; exact hl) (by omega) (by omega)
      · rw [if_neg hb, if_neg hb]
    · simp only [timers_Push.l0]
      rw [if_neg (by omega), up, dif_neg h0]
theorem room_eq (l : List T) (h : l.length < 11728124029610) : timers_room.f l = some l := by unfold timers_room.f; rw [if_pos h]
def pushed (l : List T) (t : T) : List T := up (l ++ [t]) l.length
theorem push_eq (l : List T) (t : T) (hl : l.length < LIM) {k : Nat} (hk : 2 * l.length + 10 < k) :
    timers_Push.f k l t.f0.f0 t.f0.f1 t.f1 = some (if chk l = 0 then (if right t = true then (if l.length = 4000 then ([], 18) else (pushed l t, 0)) else ([], 8)) else ([], chk l)) := by
  unfold timers_Push.f
  rw [check_eq l hl (by omega)]
  simp only [Option.bind_some]
  by_cases hc : chk l = 0
  · have hlen : l.length ≤ 4000 := by
      unfold chk at hc
      split at hc
      · cases hc
      · omega
    rw [if_pos hc, if_pos hc, right_eq]
    simp only [Option.bind_some]
    by_cases hr : right t = true
    · rw [if_pos hr, if_pos hr]
      by_cases h4 : l.length = 4000
      · rw [if_pos (by omega), if_pos h4]
      · rw [if_neg (by omega), if_neg h4, room_eq l (by omega)]
        simp only [Option.bind_some, List.length_append, List.length_singleton]
        rw [if_pos (by omega), show wrap64 (((l.length + 1 : Nat) : Int) - 1) = ((l.length : Nat) : Int) by rw [wrap_small _ (by omega) (by omega)]; omega]
        exact pup l.length k l.length (l ++ [t]) (by simp) (by simp only [List.length_append, List.length_singleton, LIM]; omega) (Nat.le_refl _) (by omega)
    · rw [if_neg hr, if_neg hr]
  · rw [if_neg hc, if_neg hc]
end Go.Proofs.Ytdhajbodlpeheaa.Th
