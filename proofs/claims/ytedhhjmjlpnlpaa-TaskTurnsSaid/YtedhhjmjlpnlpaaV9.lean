/- The walk over values: calls. -/
import Derived.Test.YtedhhjmjlpnlpaaV8
namespace Go.Proofs.Ytedhhjmjlpnlpaa.VW
open Go Go.RowKit
set_option linter.unusedVariables false
set_option linter.unusedSimpArgs false
theorem wr_append (σ : St) : ∀ l r : List Wr, σ.wr (l ++ r) = (σ.wr l).wr r
  | [], r => rfl
  | x :: l, r => by rw [List.cons_append, St.wr, St.wr, wr_append (σ.wr1 x) l r]
theorem wr_T (σ : St) : ∀ l : List Wr, (σ.wr l).T = σ.T
  | [] => rfl
  | x :: l => by rw [St.wr, wr_T]; rfl
section
variable {P : Program} {S : Sg} {w0 w w' : World} {F0 F F' : Nat → Prop} {E E' : Key → Inf} {N : Nat} {σ σ' : St} {a : Act} {k kb : Key} {g : Bool}

theorem wr1_same {rs : List (List AV)} (h : σ.H k = some (.frz rs)) : σ.wr1 (k, σ.γ k, some (.frz rs)) = σ := by
  unfold St.wr1
  have u1 : updK σ.H k (some (.frz rs)) = σ.H := by funext q; simp only [updK]; split; (rename_i e; rw [e, h]); rfl
  have u2 : updK σ.γ k (σ.γ k) = σ.γ := by funext q; simp only [updK]; split; (rename_i e; rw [e]); rfl
  simp only [u1, u2]
def frzW (τ : St) (x : Wr) : Prop := ∃ st rs, x.2.1 = τ.γ x.1 ∧ x.2.2 = some (.frz rs) ∧ (τ.H x.1 = some (.rows st rs) ∨ τ.H x.1 = some (.frz rs))
theorem frz_list : ∀ (l : List Wr) (τ : St) (F : Nat → Prop), (∀ x ∈ l, frzW τ x) → Rl w0 F0 N τ a w F E →
    ∃ F', (∀ b, F b → F' b) ∧ Rl w0 F0 N (τ.wr l) a w F' E ∧ (∀ x ∈ l, (τ.wr l).H x.1 = x.2.2) ∧ (∀ k rs, τ.H k = some (.frz rs) → (τ.wr l).H k = some (.frz rs)) ∧ (τ.wr l).γ = τ.γ
  | [], τ, F, _, h => ⟨F, fun _ h => h, h, (fun x hx => absurd hx List.not_mem_nil), fun _ _ h => h, rfl⟩
  | x :: l, τ, F, hl, h => by
    obtain ⟨kx, gx, bx⟩ := x
    obtain ⟨st, rs, e1, e2, e3⟩ := hl _ (List.mem_cons_self)
    simp only at e1 e2 e3
    subst e1; subst e2
    have step : ∃ F', (∀ b, F b → F' b) ∧ Rl w0 F0 N (τ.wr1 (kx, τ.γ kx, some (.frz rs))) a w F' E := by
      rcases e3 with e3 | e3
      · obtain ⟨F', h1, h2, _⟩ := h.freeze e3; exact ⟨F', h1, h2⟩
      · rw [wr1_same e3]; exact ⟨F, fun _ h => h, h⟩
    obtain ⟨F1, h1, h2⟩ := step
    have hγ : (τ.wr1 (kx, τ.γ kx, some (.frz rs))).γ = τ.γ := by
      funext q; simp only [St.wr1, updK]; split; (rename_i e; rw [e]); rfl
    have hHx : (τ.wr1 (kx, τ.γ kx, some (.frz rs))).H kx = some (.frz rs) := by simp [St.wr1, updK]
    have hHo : ∀ q, q ≠ kx → (τ.wr1 (kx, τ.γ kx, some (.frz rs))).H q = τ.H q := fun q hq => by simp [St.wr1, updK, hq]
    obtain ⟨F2, k1, k2, k3, k4, k5⟩ := frz_list l (τ.wr1 (kx, τ.γ kx, some (.frz rs))) F1 (fun y hy => by
      obtain ⟨st', rs', f1, f2, f3⟩ := hl y (List.mem_cons_of_mem _ hy)
      refine ⟨st', rs', by rw [hγ]; exact f1, f2, ?_⟩
      by_cases e : y.1 = kx
      · rw [e] at f3 ⊢
        right
        have : rs' = rs := by
          rcases e3 with e3 | e3 <;> rcases f3 with f3 | f3 <;> rw [e3] at f3 <;> cases f3 <;> rfl
        rw [hHx, this]
      · rw [hHo _ e]; exact f3) h2
    refine ⟨F2, fun b hb => k1 b (h1 b hb), k2, ?_, ?_, by rw [St.wr, k5, hγ]⟩
    · intro y hy
      rcases List.mem_cons.1 hy with rfl | hy
      · exact k4 kx rs hHx
      · exact k3 y hy
    · intro q rs' hq
      refine k4 q rs' ?_
      by_cases e : q = kx
      · subst e
        have : rs' = rs := by
          rcases e3 with e3 | e3 <;> rw [e3] at hq <;> cases hq; rfl
        rw [hHx, this]
      · rw [hHo _ e]; exact hq
theorem frzB_ok {gg : Nat} : ∀ x ∈ frzB k gg (σ.γ k) (σ.H k), frzW σ x := by
  intro x hx
  unfold frzB at hx
  split at hx
  · rename_i st rs hk
    rw [List.mem_singleton] at hx; subst hx
    exact ⟨st, rs, rfl, rfl, .inl hk⟩
  · cases hx
theorem frz1_ok (v : AV) : ∀ x ∈ frz1 σ v, frzW σ x := by
  intro x hx
  cases v with
  | own k gg => exact frzB_ok (σ := σ) (k := k) (gg := gg) x hx
  | _ => exact absurd hx List.not_mem_nil
theorem frz_ok (v : AV) : ∀ x ∈ frz σ v, frzW σ x := by
  intro x hx
  cases v with
  | own k gg => exact frzB_ok (σ := σ) (k := k) (gg := gg) x hx
  | agg cs =>
    obtain ⟨l, hl, hx⟩ := List.mem_flatten.1 hx
    obtain ⟨c, _, rfl⟩ := List.mem_map.1 hl
    exact frz1_ok c x hx
  | _ => exact absurd hx List.not_mem_nil

theorem own_sl {τ : St} (h : Rl w0 F0 N τ a w F E) {rs : List (List AV)} (hk : τ.H k = some (.frz rs)) {gg : Nat} (hg : gg = τ.γ k) {v : Value} (hv : R w F E (.own k gg) v) : R w F E (.sl false rs) v := by
  obtain ⟨b1, b2, b3⟩ := h.blk k _ hk
  rw [R] at hv; rw [R]
  rcases hv.2.1 (by rw [h.gen]; exact hg) with ⟨hal, rfl⟩ | ⟨hal, hl0, ad, rfl⟩
  · refine ⟨_, _, _, rfl, b1, b2, fun hf => by simp at hf, fun hf => by simp at hf, ?_⟩
    rcases b3 with ⟨b3, _⟩ | ⟨_, b4, b5⟩
    · rw [b3] at hal; exact absurd hal (by simp)
    · exact .inr ⟨_, _, _, rfl, b4, b5⟩
  · exact ⟨ad, 0, 0, rfl, by omega, Nat.le_refl _, fun hf => by simp at hf, fun _ => rfl, .inl (List.length_eq_zero_iff.1 (by omega))⟩
theorem view1_ok {l : List Wr} (h : Rl w0 F0 N (σ.wr l) a w F E) (hγ : (σ.wr l).γ = σ.γ) (h1 : ∀ x ∈ l, (σ.wr l).H x.1 = x.2.2) (h2 : ∀ k rs, σ.H k = some (.frz rs) → (σ.wr l).H k = some (.frz rs)) {x : AV} (hx : ∀ y ∈ frz1 σ x, y ∈ l) {v : Value} (hv : R w F E x v) :
    R w F E (view1 σ x) v := by
  cases x <;> try exact hv
  rename_i k gg
  simp only [view1, viewB]
  split
  · rename_i st rs hk
    split
    · rename_i hg
      refine own_sl h ?_ (by rw [hγ]; exact hg) hv
      have := h1 (k, σ.γ k, some (.frz rs)) (hx _ (by simp [frz1, frzB, hk]))
      exact this
    · rw [R]; trivial
  · rename_i rs hk
    split
    · rename_i hg
      exact own_sl h (h2 k rs hk) (by rw [hγ]; exact hg) hv
    · rw [R]; trivial
  · rw [R]; trivial
theorem view_ok {l : List Wr} (h : Rl w0 F0 N (σ.wr l) a w F E) (hγ : (σ.wr l).γ = σ.γ) (h1 : ∀ x ∈ l, (σ.wr l).H x.1 = x.2.2) (h2 : ∀ k rs, σ.H k = some (.frz rs) → (σ.wr l).H k = some (.frz rs)) {x : AV} (hx : ∀ y ∈ frz σ x, y ∈ l) {v : Value} (hv : R w F E x v) :
    R w F E (view σ x) v := by
  by_cases ha : ∃ cs, x = .agg cs
  · obtain ⟨cs, rfl⟩ := ha
    simp only [view]
    rw [R] at hv ⊢
    obtain ⟨vs, rfl, hr⟩ := hv
    refine ⟨vs, rfl, ?_⟩
    have hx' : ∀ c ∈ cs, ∀ y ∈ frz1 σ c, y ∈ l := fun c hc y hy => hx y (List.mem_flatten.2 ⟨_, List.mem_map.2 ⟨c, hc, rfl⟩, hy⟩)
    clear hx
    revert vs
    induction cs with
    | nil => intro vs hr; exact hr
    | cons c cs ih =>
      intro vs hr
      rw [RA] at hr
      obtain ⟨v, us, rfl, a1, a2⟩ := hr
      exact RA_cons (view1_ok h hγ h1 h2 (hx' c (by simp)) a1) (ih (fun c' hc' => hx' c' (by simp [hc'])) us a2)
  · have e1 : view σ x = view1 σ x := by cases x <;> first | rfl | exact absurd ⟨_, rfl⟩ ha
    have e2 : frz σ x = frz1 σ x := by cases x <;> first | rfl | exact absurd ⟨_, rfl⟩ ha
    rw [e1]; rw [e2] at hx
    exact view1_ok h hγ h1 h2 hx hv
theorem views_ok {l : List Wr} (h : Rl w0 F0 N (σ.wr l) a w F E) (hγ : (σ.wr l).γ = σ.γ) (h1 : ∀ x ∈ l, (σ.wr l).H x.1 = x.2.2) (h2 : ∀ k rs, σ.H k = some (.frz rs) → (σ.wr l).H k = some (.frz rs)) :
    ∀ {xs : List AV} {vs : List Value}, (∀ x ∈ xs, ∀ y ∈ frz σ x, y ∈ l) → RA w F E xs vs → RA w F E (xs.map (view σ)) vs
  | [], vs, _, hr => hr
  | x :: xs, vs, hx, hr => by
    rw [RA] at hr
    obtain ⟨v, us, rfl, a1, a2⟩ := hr
    exact RA_cons (view_ok h hγ h1 h2 (hx x (by simp)) a1) (views_ok h hγ h1 h2 (fun y hy => hx y (by simp [hy])) a2)
end
end Go.Proofs.Ytedhhjmjlpnlpaa.VW
