/- Plain mathematics on timers, third part: heaps, sorting. -/
import Derived.Test.YtdhajbodlpeheaaC5Th2
import Derived.Test.YtdhajbodlpeheaaC5Qx9
namespace Go.Proofs.Ytdhajbodlpeheaa.Th
open Go.RowKit Go.Proofs.Ytdhajbodlpeheaa.Q Go.Proofs.YtdhajbodlpeheaaW.PrintWords
set_option linter.unusedVariables false
set_option linter.unusedSimpArgs false
theorem el_lt {l : List T} {i : Nat} (h : i < l.length) : el l i = l[i] := by simp [el, List.getD, h]
theorem el_mem {l : List T} {i : Nat} (h : i < l.length) : el l i ∈ l := by rw [el_lt h]; exact List.getElem_mem h
theorem mem_el {l : List T} {y : T} (h : y ∈ l) : ∃ i, i < l.length ∧ el l i = y := by
  obtain ⟨i, hi, e⟩ := List.getElem_of_mem h
  exact ⟨i, hi, by rw [el_lt hi]; exact e⟩
theorem swap_perm {l : List T} {i j : Nat} (hi : i < l.length) (hj : j < l.length) : (swap l i j).Perm l := by
  unfold swap
  rw [el_lt hi, el_lt hj]
  exact List.set_set_perm hi hj
theorem el_swap {l : List T} {i j : Nat} (hi : i < l.length) (hj : j < l.length) (m : Nat) : el (swap l i j) m = if m = j then el l i else if m = i then el l j else el l m := by
  unfold swap el
  simp only [List.getD_eq_getElem?_getD, List.getElem?_set, List.length_set]
  by_cases h1 : m = j
  · subst h1; simp [hj]
  · by_cases h2 : m = i
    · subst h2; simp [hi, h1, Ne.symm h1]
    · simp [h1, h2, Ne.symm h1, Ne.symm h2]
def par (j : Nat) : Nat := (j - 1) / 2
def HeapB (l : List T) : Prop := ∀ j, 0 < j → j < l.length → lt (el l j) (el l (par j)) = false
theorem good_split (l : List T) : Good l ↔ (∀ y ∈ l, right y = true) ∧ HeapB l := by
  constructor
  · intro h
    exact ⟨fun y hy => by obtain ⟨i, hi, rfl⟩ := mem_el hy; exact (h i hi).1, fun j h0 hj => (h j hj).2 h0⟩
  · intro h i hi
    exact ⟨h.1 _ (el_mem hi), fun h0 => h.2 i h0 hi⟩
def UpInv (l : List T) (i : Nat) : Prop := (∀ j, 0 < j → j < l.length → j ≠ i → lt (el l j) (el l (par j)) = false) ∧ (0 < i → ∀ j, 0 < j → j < l.length → par j = i → lt (el l j) (el l (par i)) = false)
theorem par_lt {j : Nat} (h : 0 < j) : par j < j := by unfold par; omega
theorem up_heap (d : Nat) : ∀ (l : List T) (i : Nat), i ≤ d → i < l.length → UpInv l i → HeapB (up l i) ∧ (up l i).Perm l := by
  induction d with
  | zero =>
    intro l i hd hi h
    obtain rfl : i = 0 := by omega
    rw [up, dif_neg (by omega)]
    exact ⟨fun j h0 hj => h.1 j h0 hj (by omega), List.Perm.refl _⟩
  | succ d ih =>
    intro l i hd hi h
    rw [up]
    by_cases h0 : 0 < i
    · rw [dif_pos h0]
      have hp : par i < i := par_lt h0
      have hpl : par i < l.length := by omega
      change HeapB (if lt (el l i) (el l (par i)) = true then up (swap l i (par i)) (par i) else l) ∧ _
      by_cases hb : lt (el l i) (el l (par i)) = true
      · have e := el_swap hi hpl
        have hlen : (swap l i (par i)).length = l.length := swap_length ..
        have inv : UpInv (swap l i (par i)) (par i) := by
          constructor
          · intro j hj0 hj hjp
            rw [hlen] at hj
            have hpj := par_lt hj0
            rw [e, e]
            rw [if_neg hjp]
            by_cases hji : j = i
            · subst hji
              rw [if_pos rfl, if_pos rfl]
              exact lt_asymm hb
            · rw [if_neg hji]
              by_cases h1 : par j = par i
              · rw [if_pos h1]
                have := h.1 j hj0 hj hji
                rw [h1] at this
                exact le_trans (lt_asymm hb) this
              · rw [if_neg h1]
                by_cases h2 : par j = i
                · rw [if_pos h2]
                  exact h.2 h0 j hj0 hj h2
                · rw [if_neg h2]
                  exact h.1 j hj0 hj hji
          · intro hp0 j hj0 hj hjp
            rw [hlen] at hj
            have hpj := par_lt hj0
            have hpp := par_lt hp0
            rw [e, e]
            rw [if_neg (show j ≠ par i by omega), if_neg (show par (par i) ≠ par i by omega), if_neg (show par (par i) ≠ i by omega)]
            have hpo := h.1 (par i) hp0 hpl (by omega)
            by_cases hji : j = i
            · rw [if_pos hji]
              exact hpo
            · rw [if_neg hji]
              have := h.1 j hj0 hj hji
              rw [hjp] at this
              exact le_trans hpo this
        have := ih (swap l i (par i)) (par i) (by omega) (by rw [hlen]; exact hpl) inv
        rw [if_pos hb]
        simp only [show (i - 1) / 2 = par i from rfl]
        rw [if_pos hb]
        exact ⟨this.1, this.2.trans (swap_perm hi hpl)⟩
      · simp only [show (i - 1) / 2 = par i from rfl]
        rw [if_neg hb]
        refine ⟨fun j hj0 hj => ?_, List.Perm.refl _⟩
        by_cases hji : j = i
        · subst hji
          simpa using hb
        · exact h.1 j hj0 hj hji
    · rw [dif_neg h0]
      exact ⟨fun j hj0 hj => h.1 j hj0 hj (by omega), List.Perm.refl _⟩
theorem el_append_left {l r : List T} {i : Nat} (h : i < l.length) : el (l ++ r) i = el l i := by
  rw [el_lt (by simp; omega), el_lt h, List.getElem_append_left h]
theorem pushed_heap {l : List T} (t : T) (h : HeapB l) : HeapB (pushed l t) ∧ (pushed l t).Perm (t :: l) := by
  unfold pushed
  have := up_heap l.length (l ++ [t]) l.length (Nat.le_refl _) (by simp) ⟨fun j hj0 hj hji => by
    rw [List.length_append, List.length_singleton] at hj
    have := par_lt hj0
    rw [el_append_left (by omega), el_append_left (by omega)]
    exact h j hj0 (by omega), fun h0 j hj0 hj hjp => by
    rw [List.length_append, List.length_singleton] at hj
    have := par_lt hj0
    omega⟩
  exact ⟨this.1, this.2.trans (List.perm_append_comm.trans (by simp))⟩
theorem pushed_good {l : List T} {t : T} (h : chk l = 0) (hl : l.length < 4000) (hr : right t = true) : chk (pushed l t) = 0 ∧ (pushed l t).Perm (t :: l) := by
  rw [chk_zero] at *
  have := pushed_heap t ((good_split l).1 h.2).2
  refine ⟨⟨by rw [pushed_length]; omega, (good_split _).2 ⟨fun y hy => ?_, this.1⟩⟩, this.2⟩
  rcases List.mem_cons.1 (this.2.mem_iff.1 hy) with rfl | hy
  · exact hr
  · exact ((good_split l).1 h.2).1 y hy
def DownInv (l : List T) (i : Nat) : Prop := (∀ j, 0 < j → j < l.length → par j ≠ i → lt (el l j) (el l (par j)) = false) ∧ (0 < i → ∀ j, 0 < j → j < l.length → par j = i → lt (el l j) (el l (par i)) = false)
theorem best_spec (l : List T) (i : Nat) : (best l i = i ∧ ∀ j, 0 < j → j < l.length → par j = i → lt (el l j) (el l i) = false) ∨
    (0 < best l i ∧ best l i < l.length ∧ par (best l i) = i ∧ lt (el l (best l i)) (el l i) = true ∧ ∀ j, 0 < j → j < l.length → par j = i → lt (el l j) (el l (best l i)) = false) := by
  have ch : ∀ j, 0 < j → par j = i → j = 2 * i + 1 ∨ j = 2 * i + 2 := by intro j h0 h; unfold par at h; omega
  unfold best
  by_cases h1 : 2 * i + 1 < l.length
  · rw [if_pos h1]
    by_cases h2 : 2 * i + 2 < l.length ∧ lt (el l (2 * i + 2)) (el l (2 * i + 1)) = true
    · rw [if_pos h2]
      by_cases h3 : lt (el l (2 * i + 2)) (el l i) = true
      · rw [if_pos h3]
        refine Or.inr ⟨by omega, h2.1, by unfold par; omega, h3, fun j h0 hj hp => ?_⟩
        rcases ch j h0 hp with rfl | rfl
        · exact lt_asymm h2.2
        · exact lt_irrefl _
      · rw [if_neg h3]
        refine Or.inl ⟨rfl, fun j h0 hj hp => ?_⟩
        rcases ch j h0 hp with rfl | rfl
        · exact le_trans (by simpa using h3) (lt_asymm h2.2)
        · simpa using h3
    · rw [if_neg h2]
      have h21 : 2 * i + 2 < l.length → lt (el l (2 * i + 2)) (el l (2 * i + 1)) = false := by
        intro h
        cases hc : lt (el l (2 * i + 2)) (el l (2 * i + 1)) with
        | false => rfl
        | true => exact absurd ⟨h, hc⟩ h2
      by_cases h3 : lt (el l (2 * i + 1)) (el l i) = true
      · rw [if_pos h3]
        refine Or.inr ⟨by omega, h1, by unfold par; omega, h3, fun j h0 hj hp => ?_⟩
        rcases ch j h0 hp with rfl | rfl
        · exact lt_irrefl _
        · exact h21 hj
      · rw [if_neg h3]
        refine Or.inl ⟨rfl, fun j h0 hj hp => ?_⟩
        rcases ch j h0 hp with rfl | rfl
        · simpa using h3
        · exact le_trans (by simpa using h3) (h21 hj)
  · rw [if_neg h1]
    refine Or.inl ⟨rfl, fun j h0 hj hp => ?_⟩
    rcases ch j h0 hp with rfl | rfl <;> omega
theorem down_heap (d : Nat) : ∀ (l : List T) (i : Nat), l.length - i ≤ d → DownInv l i → HeapB (down l i) ∧ (down l i).Perm l := by
  induction d with
  | zero =>
    intro l i hd h
    have hb : best l i = i := by unfold best; rw [if_neg (by omega)]
    rw [down, dif_pos hb]
    refine ⟨fun j h0 hj => h.1 j h0 hj ?_, List.Perm.refl _⟩
    have := par_lt h0
    omega
  | succ d ih =>
    intro l i hd h
    rw [down]
    rcases best_spec l i with ⟨hb, hs⟩ | ⟨hb0, hbl, hbp, hlt, hs⟩
    · rw [dif_pos hb]
      refine ⟨fun j h0 hj => ?_, List.Perm.refl _⟩
      by_cases hp : par j = i
      · rw [hp]
        exact hs j h0 hj hp
      · exact h.1 j h0 hj hp
    · have hib : i < best l i := by have := par_lt hb0; omega
      have hil : i < l.length := by omega
      rw [dif_neg (by omega)]
      generalize best l i = b at *
      have e := el_swap hil hbl
      have hlen : (swap l i b).length = l.length := swap_length ..
      have inv : DownInv (swap l i b) b := by
        constructor
        · intro j hj0 hj hjp
          rw [hlen] at hj
          have hpj := par_lt hj0
          rw [e, e, if_neg hjp]
          by_cases hjb : j = b
          · subst hjb
            rw [if_pos rfl, if_pos hbp]
            exact lt_asymm hlt
          · rw [if_neg hjb]
            by_cases h1 : par j = i
            · rw [if_neg (show j ≠ i by omega), if_pos h1]
              exact hs j hj0 hj h1
            · rw [if_neg h1]
              by_cases hji : j = i
              · subst hji
                rw [if_pos rfl]
                exact h.2 hj0 b hb0 hbl hbp
              · rw [if_neg hji]
                exact h.1 j hj0 hj h1
        · intro _ j hj0 hj hjp
          rw [hlen] at hj
          have hpj := par_lt hj0
          rw [e, e, hbp, if_neg (show j ≠ b by omega), if_neg (show j ≠ i by omega), if_neg (show i ≠ b by omega), if_pos rfl]
          have := h.1 j hj0 hj (by omega)
          rwa [hjp] at this
      have := ih (swap l i b) b (by rw [hlen]; omega) inv
      exact ⟨this.1, this.2.trans (swap_perm hil hbl)⟩
theorem popped_heap {l : List T} (h0 : 0 < l.length) (h : HeapB l) : HeapB (popped l) ∧ (el l 0 :: popped l).Perm l := by
  unfold popped
  have e : ∀ j, j < l.length - 1 → el ((l.set 0 (el l (l.length - 1))).take (l.length - 1)) j = if j = 0 then el l (l.length - 1) else el l j := by
    intro j hj
    rw [el_lt (by simp; omega), List.getElem_take, List.getElem_set]
    by_cases hj0 : j = 0
    · rw [if_pos hj0.symm, if_pos hj0]
    · rw [if_neg (Ne.symm hj0), if_neg hj0]
      exact (el_lt (by omega)).symm
  have := down_heap _ ((l.set 0 (el l (l.length - 1))).take (l.length - 1)) 0 (Nat.le_refl _) ⟨fun j hj0 hj hp => by
    have hj' : j < l.length - 1 := by simpa using hj
    have hpj := par_lt hj0
    rw [e j hj', e _ (by omega), if_neg (by omega), if_neg hp]
    exact h j hj0 (by omega), fun hc => absurd hc (by omega)⟩
  refine ⟨this.1, (List.Perm.cons _ this.2).trans ?_⟩
  obtain ⟨a, r, rfl⟩ : ∃ a r, l = a :: r := by
    cases l with
    | nil => simp at h0
    | cons a r => exact ⟨a, r, rfl⟩
  rcases List.eq_nil_or_concat r with rfl | ⟨m, z, rfl⟩
  · simp [el]
  · have hz : el (a :: m.concat z) ((a :: m.concat z).length - 1) = z := by
      simp [el]
    rw [hz]
    simp only [List.concat_eq_append, List.set_cons_zero, List.length_cons, List.length_append, List.length_nil, Nat.zero_add, Nat.add_sub_cancel]
    rw [List.take_succ_cons, List.take_left' rfl]
    exact List.Perm.cons _ (List.perm_append_comm (l₁ := [z]) (l₂ := m))
theorem heap_least {l : List T} (h : HeapB l) (d : Nat) : ∀ j, j ≤ d → j < l.length → lt (el l j) (el l 0) = false := by
  induction d with
  | zero =>
    intro j hd hj
    obtain rfl : j = 0 := by omega
    exact lt_irrefl _
  | succ d ih =>
    intro j hd hj
    by_cases h0 : 0 < j
    · have := par_lt h0
      exact le_trans (ih (par j) (by omega) (by omega)) (h j h0 hj)
    · obtain rfl : j = 0 := by omega
      exact lt_irrefl _
theorem least {l : List T} (h : chk l = 0) {y : T} (hy : y ∈ l) : lt y (el l 0) = false := by
  obtain ⟨i, hi, rfl⟩ := mem_el hy
  exact heap_least ((good_split l).1 (chk_zero.1 h).2).2 i i (Nat.le_refl _) hi
theorem popped_good {l : List T} (h : chk l = 0) (h0 : 0 < l.length) : chk (popped l) = 0 ∧ (el l 0 :: popped l).Perm l := by
  rw [chk_zero] at *
  have hs := (good_split l).1 h.2
  have := popped_heap h0 hs.2
  exact ⟨⟨by rw [popped_length]; omega, (good_split _).2 ⟨fun y hy => hs.1 y (this.2.mem_iff.1 (List.mem_cons_of_mem _ hy)), this.1⟩⟩, this.2⟩
def Srt (l : List T) : Prop := l.Pairwise (fun a b => lt b a = false)
theorem srt_unique : ∀ {l r : List T}, Srt l → Srt r → l.Perm r → l = r
  | [], r, _, _, h => (List.Perm.nil_eq h)
  | a :: l, [], _, _, h => absurd h.length_eq (by simp)
  | a :: l, b :: r, hl, hr, h => by
    have ha := List.pairwise_cons.1 hl
    have hb := List.pairwise_cons.1 hr
    have e : a = b := by
      rcases List.mem_cons.1 (h.mem_iff.1 (List.mem_cons_self (a := a) (l := l))) with e | hm
      · exact e
      · rcases List.mem_cons.1 (h.mem_iff.2 (List.mem_cons_self (a := b) (l := r))) with e | hm'
        · exact e.symm
        · exact lt_total (hb.1 a hm) (ha.1 b hm')
    subst e
    rw [srt_unique ha.2 hb.2 (h.cons_inv)]
def Ev {α : Type} (F : Nat → Option α) (v : α) : Prop := ∃ n, ∀ k, n < k → F k = some v
theorem Ev.step {α : Type} {F G : Nat → Option α} {v : α} (h : ∀ k, F (k + 1) = G k) (hG : Ev G v) : Ev F v := by
  obtain ⟨n, hn⟩ := hG
  refine ⟨n + 1, fun k hk => ?_⟩
  obtain ⟨k, rfl⟩ : ∃ m, k = m + 1 := ⟨k - 1, by omega⟩
  rw [h]
  exact hn k (by omega)
theorem ins_swap (p q : List T) (x y : T) : ((((p ++ [y]) ++ x :: q).set (p.length + 1) y).set p.length x) = p ++ x :: y :: q := by
  simp
theorem srt_ins {p q : List T} {x : T} (h : Srt (p ++ q)) (hp : ∀ z ∈ p, lt x z = false) (hq : ∀ z ∈ q, lt z x = false) : Srt (p ++ x :: q) := by
  unfold Srt at *
  rw [List.pairwise_append] at *
  refine ⟨h.1, List.pairwise_cons.2 ⟨hq, h.2.1⟩, fun a ha b hb => ?_⟩
  rcases List.mem_cons.1 hb with rfl | hb
  · exact hp a ha
  · exact h.2.2 a ha b hb
theorem sorted_inner (x0 : List T) (i : Int) (v : List T) (d : Nat) : ∀ (p q : List T) (x : T), p.length = d → p.length < 5000 → Srt (p ++ q) → (∀ z ∈ q, lt z x = false) →
    (∀ r, r.Perm (p ++ x :: q) → Srt r → Ev (fun k => tailwaterref18_Sorted.l0 k x0 r (wrap64 (i + 1))) v) → Ev (fun k => tailwaterref18_Sorted.l1 k x0 (p ++ x :: q) i (p.length : Int)) v := by
  induction d with
  | zero =>
    intro p q x hd _ hs hq hk
    refine Ev.step (fun k => ?_) (hk (p ++ x :: q) (List.Perm.refl _) (srt_ins hs (by
      obtain rfl : p = [] := List.length_eq_zero_iff.1 hd
      simp) hq))
    simp only [tailwaterref18_Sorted.l1]
    rw [if_neg (by omega)]
  | succ d ih =>
    intro p q x hd hp hs hq hk
    rcases List.eq_nil_or_concat p with rfl | ⟨m, y, rfl⟩
    · simp at hd
    · rw [List.concat_eq_append] at *
      simp only [List.length_append, List.length_singleton] at hd hp
      have ex : el (m ++ [y] ++ x :: q) (m.length + 1) = x := by simp [el]
      have ey : el (m ++ [y] ++ x :: q) m.length = y := by simp [el]
      have step : ∀ k, tailwaterref18_Sorted.l1 (k + 1) x0 (m ++ [y] ++ x :: q) i (((m ++ [y]).length : Nat) : Int) = if lt x y = true then tailwaterref18_Sorted.l1 k x0 (m ++ x :: y :: q) i (m.length : Int) else tailwaterref18_Sorted.l0 k x0 (m ++ [y] ++ x :: q) (wrap64 (i + 1)) := by
        intro k
        have hl : (m ++ [y]).length = m.length + 1 := by simp
        rw [hl]
        simp only [tailwaterref18_Sorted.l1]
        have hw : wrap64 (((m.length + 1 : Nat) : Int) - 1) = ((m.length : Nat) : Int) := by rw [wrap_small _ (by omega) (by omega)]; omega
        have hll : (m ++ [y] ++ x :: q).length = m.length + 1 + (q.length + 1) := by simp; omega
        rw [hw, hll, if_pos (by omega), if_pos (by omega), if_pos (by omega), if_pos (by omega), if_pos (by omega), rd_el, rd_el, ex, ey, less_eq]
        simp only [Option.bind_some]
        rw [show ((((m.length + 1 : Nat) : Int)).toNat) = m.length + 1 by omega, show (((m.length : Int)).toNat) = m.length by omega]
        have := ins_swap m q x y
        rw [show (⟨⟨y.f0.f0, y.f0.f1⟩, y.f1⟩ : S34) = y from rfl, show (⟨⟨x.f0.f0, x.f0.f1⟩, x.f1⟩ : S34) = x from rfl, this]
      by_cases hxy : lt x y = true
      · refine Ev.step (fun k => (step k).trans (if_pos hxy)) (ih m (y :: q) x (by omega) (by omega) (by simpa using hs) (fun z hz => ?_) (fun r hr hsr => hk r (hr.trans ?_) hsr))
        · rcases List.mem_cons.1 hz with rfl | hz
          · exact lt_asymm hxy
          · exact hq z hz
        · rw [List.append_assoc]
          exact List.Perm.append_left m (List.Perm.swap ..)
      · refine Ev.step (fun k => (step k).trans (if_neg hxy)) (hk _ (List.Perm.refl _) (srt_ins hs (fun z hz => ?_) hq))
        have hyx : lt x y = false := by simpa using hxy
        rcases List.mem_append.1 hz with hz | hz
        · have := (List.pairwise_append.1 (List.pairwise_append.1 hs).1).2.2 z hz y (List.mem_singleton.2 rfl)
          exact le_trans this hyx
        · rw [List.mem_singleton.1 hz]
          exact hyx
theorem sorted_loop (x0 : List T) (hx : x0.length < 4500) (d : Nat) : ∀ (i : Nat) (out : List T), i + d = x0.length → out.Perm (x0.take i) → Srt out →
    ∃ r, r.Perm x0 ∧ Srt r ∧ Ev (fun k => tailwaterref18_Sorted.l0 k x0 out (i : Int)) r := by
  induction d with
  | zero =>
    intro i out hi hp hs
    refine ⟨out, by rwa [List.take_of_length_le (by omega)] at hp, hs, 0, fun k hk => ?_⟩
    obtain ⟨k, rfl⟩ : ∃ m, k = m + 1 := ⟨k - 1, by omega⟩
    simp only [tailwaterref18_Sorted.l0]
    rw [if_neg (by omega)]
  | succ d ih =>
    intro i out hi hp hs
    have hlo : out.length = i := by rw [hp.length_eq, List.length_take]; omega
    have hsrt : ∃ w, w.Perm (out ++ [el x0 i]) ∧ Srt w := by
      exact ⟨(out ++ [el x0 i]).mergeSort (fun a b => !lt b a), List.mergeSort_perm _ _, by
        have := List.pairwise_mergeSort (le := fun a b => !lt b a) (fun a b c h h' => by
          simp only [Bool.not_eq_true'] at *
          exact le_trans h h') (fun a b => by
          simp only [Bool.or_eq_true, Bool.not_eq_true']
          cases h : lt b a with
          | false => exact Or.inl rfl
          | true => exact Or.inr (lt_asymm h)) (out ++ [el x0 i])
        exact this.imp (fun h => by simpa using h)⟩
    obtain ⟨w, hwp, hws⟩ := hsrt
    have hw : w.Perm (x0.take (i + 1)) := by
      refine hwp.trans ?_
      rw [List.take_add_one, List.getElem?_eq_getElem (by omega)]
      rw [el_lt (by omega)]
      exact List.Perm.append_right _ hp
    obtain ⟨r, hr, hrs, hev⟩ := ih (i + 1) w (by omega) hw hws
    refine ⟨r, hr, hrs, ?_⟩
    have := sorted_inner x0 (i : Int) r out.length out [] (el x0 i) rfl (by omega) (by simpa using hs) (by simp) (fun r' hr' hs' => by
      rw [srt_unique hs' hws (hr'.trans hwp.symm), succ_wrap i (by simp only [LIM]; omega)]
      exact hev)
    refine Ev.step (fun k => ?_) this
    simp only [tailwaterref18_Sorted.l0]
    rw [if_pos (by omega), if_pos (by omega), if_pos (by omega), rd_el]
    simp only [Option.bind_some, List.length_append, List.length_singleton]
    rw [show wrap64 (((out.length + 1 : Nat) : Int) - 1) = ((out.length : Nat) : Int) by rw [wrap_small _ (by omega) (by omega)]; omega]
theorem sorted_ev (l : List T) (h : l.length < 4500) : ∃ r, r.Perm l ∧ Srt r ∧ ∃ n, ∀ k, n < k → tailwaterref18_Sorted.f k l = some r := by
  have := sorted_loop l h l.length 0 [] (by omega) (by simp) (List.Pairwise.nil)
  exact this
end Go.Proofs.Ytdhajbodlpeheaa.Th
