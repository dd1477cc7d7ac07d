/- The walk over values: an abstract state and a world, and how the two go on together. -/
import Derived.Test.YtedhhjmjlpnlpaaV2
namespace Go.Proofs.Ytedhhjmjlpnlpaa.VW
open Go Go.RowKit
set_option linter.unusedVariables false
set_option linter.unusedSimpArgs false

def BX (w : World) (b n : Nat) : Prop := ∃ c t, w.heap[b]? = some (.cells c t (0, 0)) ∧ n ≤ c.size
theorem BX.lt {w : World} {b n : Nat} (h : BX w b n) : b < w.heap.size := by
  obtain ⟨c, t, h, _⟩ := h
  rcases Nat.lt_or_ge b w.heap.size with h' | h'
  · exact h'
  · simp [Array.getElem?_eq_none h'] at h
theorem BX.there {w : World} {b n o m : Nat} (h : BX w b n) (ho : o + m ≤ n) : w.there b o m := by
  obtain ⟨c, t, h, hn⟩ := h
  intro j hj
  have : o + j < c.size := by omega
  exact ⟨by simp [World.cell?, h, this], by simp [World.frozen?, h]⟩
def RB (w : World) (F : Nat → Prop) (E : Key → Inf) (base : Nat) (k : Key) : Blk → Prop
  | .var cs => base ≤ (E k).b ∧ ¬ F (E k).b ∧ BX w (E k).b cs.length ∧ RC w F E (E k).b cs 0
  | .rows st rs => (E k).len = rs.length ∧ (E k).st = st ∧ (E k).len ≤ (E k).cap ∧
      (((E k).al = false ∧ rs = []) ∨ ((E k).al = true ∧ base ≤ (E k).b ∧ ¬ F (E k).b ∧ BX w (E k).b ((E k).cap * st) ∧ RR w F E (E k).b st rs 0))
  | .frz rs => (E k).len = rs.length ∧ (E k).len ≤ (E k).cap ∧ (((E k).al = false ∧ rs = []) ∨ ((E k).al = true ∧ F (E k).b ∧ RR w F E (E k).b (E k).st rs 0))
def ownB (al : Bool) : Option Blk → Prop
  | some (.var _) => True
  | some (.rows _ _) => al = true
  | _ => False

structure Rl (w0 : World) (F0 : Nat → Prop) (N : Nat) (σ : St) (a : Act) (w : World) (F : Nat → Prop) (E : Key → Inf) : Prop where
  defs : a.defers = []
  size : a.tmps.size = N
  tmp : ∀ t, R w F E (σ.T t) (a.tmps.getD t undef)
  gen : ∀ k, (E k).gen = σ.γ k
  blk : ∀ k B, σ.H k = some B → RB w F E w0.heap.size k B
  inj : ∀ k k', ownB (E k).al (σ.H k) → ownB (E k').al (σ.H k') → (E k).b = (E k').b → k = k'
  bnd : ∀ b, F b → b < w.heap.size
  sub : ∀ b, F0 b → F b
  new : ∀ b, F b → b < w0.heap.size → F0 b
  below : Below w0.heap.size w0 w

section
variable {w0 w w' : World} {F0 F F' : Nat → Prop} {E E' : Key → Inf} {N : Nat} {σ σ' : St} {a : Act} {k : Key} {B : Blk}

theorem cells_of_heap {b : Nat} (h : w'.heap[b]? = w.heap[b]?) (o : Nat) : w'.cell? ⟨b, o, none⟩ = w.cell? ⟨b, o, none⟩ :=
  World.cell?_of_block (w := w) h
theorem BX_mono {b n : Nat} (h : w'.heap[b]? = w.heap[b]?) (hb : BX w b n) : BX w' b n := by
  obtain ⟨c, t, e, hn⟩ := hb; exact ⟨c, t, h.trans e, hn⟩
theorem RB_mono {base : Nat} (hF : ∀ b, F b → F' b) (hc : ∀ b o, F b → w'.cell? ⟨b, o, none⟩ = w.cell? ⟨b, o, none⟩) (hE : ∀ k, E' k = E k ∨ (E k).gen < (E' k).gen)
    (hk : E' k = E k) (hn : ownB (E k).al (some B) → ¬ F' (E k).b) (hb : ownB (E k).al (some B) → w'.heap[(E k).b]? = w.heap[(E k).b]?) (h : RB w F E base k B) : RB w' F' E' base k B := by
  cases B with
  | var cs =>
    obtain ⟨h1, h2, h3, h4⟩ := h
    rw [RB, hk]
    exact ⟨h1, hn trivial, BX_mono (hb trivial) h3, RC_mono hF hc hE _ (cells_of_heap (hb trivial)) _ _ h4⟩
  | rows st rs =>
    obtain ⟨h1, h2, h3, h4⟩ := h
    rw [RB, hk]
    refine ⟨h1, h2, h3, ?_⟩
    rcases h4 with h4 | ⟨h4, h5, h6, h7, h8⟩
    · exact .inl h4
    · exact .inr ⟨h4, h5, hn h4, BX_mono (hb h4) h7, RR_mono hF hc hE _ _ (cells_of_heap (hb h4)) _ _ h8⟩
  | frz rs =>
    obtain ⟨h1, h3, h4⟩ := h
    rw [RB, hk]
    refine ⟨h1, h3, ?_⟩
    rcases h4 with h4 | ⟨h4, h5, h6⟩
    · exact .inl h4
    · exact .inr ⟨h4, hF _ h5, RR_mono hF hc hE _ _ (fun o => hc _ o h5) _ _ h6⟩
theorem RB_own {base : Nat} (h : RB w F E base k B) (ho : ownB (E k).al (some B)) : base ≤ (E k).b ∧ ¬ F (E k).b ∧ (E k).b < w.heap.size := by
  cases B with
  | var cs => obtain ⟨h1, h2, h3, _⟩ := h; exact ⟨h1, h2, h3.lt⟩
  | rows st rs =>
    obtain ⟨_, _, _, h4⟩ := h
    rcases h4 with ⟨h4, _⟩ | ⟨_, h5, h6, h7, _⟩
    · rw [ownB, h4] at ho; exact absurd ho (by simp)
    · exact ⟨h5, h6, h7.lt⟩
  | frz rs => exact ho.elim
theorem Rl.own (h : Rl w0 F0 N σ a w F E) (ho : ownB (E k).al (σ.H k)) : w0.heap.size ≤ (E k).b ∧ ¬ F (E k).b ∧ (E k).b < w.heap.size := by
  cases hk : σ.H k with
  | none => rw [hk] at ho; exact ho.elim
  | some B => rw [hk] at ho; exact RB_own (h.blk k B hk) ho

/-- A value into a slot. -/
theorem Rl.put (h : Rl w0 F0 N σ a w F E) {dst : Option Nat} (hd : okDst N dst = true) {x : AV} {v : Value} (hv : R w F E x v) :
    Rl w0 F0 N (σ.put dst x) (a.put dst v) w F E := by
  cases dst with
  | none => exact h
  | some d =>
    have hd' : d < N := by simpa [okDst] using hd
    have hs : d < a.tmps.size := by rw [h.size]; exact hd'
    refine { h with size := ?_, tmp := ?_ }
    · simp [Act.put, h.size]
    · intro t
      simp only [St.put, Act.put, upd]
      by_cases e : t = d
      · subst e
        simp [hs, hv]
      · have := h.tmp t
        simp only [if_neg e]
        simpa [Array.getElem?_setIfInBounds_ne (Ne.symm e)] using this
theorem Rl.putAny (h : Rl w0 F0 N σ a w F E) (dst : Option Nat) (hd : okDst N dst = true) (v : Value) :
    Rl w0 F0 N (σ.put dst .dead) (a.put dst v) w F E := h.put hd (by rw [R]; trivial)

/-- New memory alone: what was there stays. -/
theorem Rl.grow (h : Rl w0 F0 N σ a w F E) (hb : Below w.heap.size w w') (hF : ∀ b, F b → F' b) (hF2 : ∀ b, F' b → b < w'.heap.size) (hF3 : ∀ b, F' b → b < w.heap.size → F b)
    (hT : σ'.T = σ.T) (hE : ∀ k, E' k = E k ∨ (E k).gen < (E' k).gen) (hg : ∀ k, (E' k).gen = σ'.γ k)
    (hk : ∀ k B, σ'.H k = some B → (σ.H k = some B ∧ E' k = E k) ∨ (RB w' F' E' w.heap.size k B))
    (hi : ∀ k k', ownB (E' k).al (σ'.H k) → ownB (E' k').al (σ'.H k') → w.heap.size ≤ (E' k).b → w.heap.size ≤ (E' k').b → (E' k).b = (E' k').b → k = k') :
    Rl w0 F0 N σ' a w' F' E' := by
  have hc : ∀ b o, F b → w'.cell? ⟨b, o, none⟩ = w.cell? ⟨b, o, none⟩ := fun b o hbF => hb.cell (p := ⟨b, o, none⟩) (h.bnd b hbF)
  have hw : w0.heap.size ≤ w.heap.size := h.below.size
  refine ⟨h.defs, h.size, ?_, hg, ?_, ?_, hF2, fun b hb' => hF b (h.sub b hb'), ?_, h.below.trans (hb.mono hw)⟩
  · intro t; rw [hT]; exact R_mono hF hc hE _ _ (h.tmp t)
  · intro k B hB
    rcases hk k B hB with ⟨h1, h2⟩ | h1
    · have hr := h.blk k B h1
      refine RB_mono hF hc hE h2 (fun ho => ?_) (fun ho => ?_) hr
      · obtain ⟨_, h5, h6⟩ := RB_own hr ho
        exact fun hf => h5 (hF3 _ hf h6)
      · obtain ⟨_, h5, h6⟩ := RB_own hr ho
        exact hb.block _ h6
    · cases B with
      | var cs => exact ⟨Nat.le_trans hw h1.1, h1.2⟩
      | rows st rs =>
        obtain ⟨h1, h2, h3, h4⟩ := h1
        refine ⟨h1, h2, h3, ?_⟩
        rcases h4 with h4 | ⟨h4, h5, h6⟩
        · exact .inl h4
        · exact .inr ⟨h4, Nat.le_trans hw h5, h6⟩
      | frz rs => exact h1
  · intro k k' ho ho' e
    have split : ∀ q, ownB (E' q).al (σ'.H q) → (ownB (E q).al (σ.H q) ∧ E' q = E q ∧ (E q).b < w.heap.size) ∨ w.heap.size ≤ (E' q).b := by
      intro q hq
      cases hB : σ'.H q with
      | none => rw [hB] at hq; exact hq.elim
      | some B =>
        rcases hk q B hB with ⟨h1, h2⟩ | h1
        · left
          have h3 : ownB (E q).al (σ.H q) := by rw [h1, ← h2, ← hB]; exact hq
          exact ⟨h3, h2, (h.own h3).2.2⟩
        · right; rw [hB] at hq; exact (RB_own h1 hq).1
    rcases split k ho with ⟨h1, h2, h3⟩ | h1 <;> rcases split k' ho' with ⟨h1', h2', h3'⟩ | h1'
    · rw [h2, h2'] at e; exact h.inj k k' h1 h1' e
    · rw [h2] at e; omega
    · rw [h2'] at e; omega
    · exact hi k k' ho ho' h1 h1' e
  · intro b hb' hlt
    exact h.new b (hF3 b hb' (Nat.lt_of_lt_of_le hlt hw)) hlt

theorem frozen_cells (h : Rl w0 F0 N σ a w F E) {b : Nat} (hb : ¬ F b) (o : Nat) (vs : List Value) : ∀ b' o', F b' → (w.setCells b o vs).cell? ⟨b', o', none⟩ = w.cell? ⟨b', o', none⟩ := by
  intro b' o' hF
  refine World.cell?_setCells_out b vs o w ⟨b', o', none⟩ (fun e _ => ?_)
  exact absurd hF (by simp only at e; rw [e]; exact hb)
theorem heap_setCells_other (b : Nat) : ∀ (vs : List Value) (o : Nat) (w : World) (b' : Nat), b' ≠ b → (w.setCells b o vs).heap[b']? = w.heap[b']?
  | [], o, w, b', _ => rfl
  | v :: vs, o, w, b', h => by
    rw [World.setCells, heap_setCells_other b vs (o + 1) _ b' h]
    exact Below.heap_setCell _ _ _ _ h
theorem setCells_below {base b : Nat} (hb : base ≤ b) : ∀ (vs : List Value) (o : Nat) (w0 w : World), Below base w0 w → Below base w0 (w.setCells b o vs)
  | [], o, w0, w, h => h
  | v :: vs, o, w0, w, h => by
    rw [World.setCells]; exact setCells_below hb vs (o + 1) w0 _ (h.setCell hb v)
theorem size_setCells (b : Nat) : ∀ (vs : List Value) (o : Nat) (w : World), (w.setCells b o vs).heap.size = w.heap.size
  | [], o, w => rfl
  | v :: vs, o, w => by rw [World.setCells, size_setCells b vs]; simp
theorem BX_setCells {b n : Nat} : ∀ (vs : List Value) (o : Nat) (w : World), BX w b n → BX (w.setCells b o vs) b n
  | [], o, w, h => h
  | v :: vs, o, w, h => by
    rw [World.setCells]
    refine BX_setCells vs (o + 1) _ ?_
    obtain ⟨c, t, e, hn⟩ := h
    refine ⟨c.setIfInBounds o v, t, ?_, by simpa using hn⟩
    simp only [World.setCell, Array.getElem?_modify, if_true, e, Option.map_some]
    rfl

/-- Cells of one own block written. -/
theorem Rl.store (h : Rl w0 F0 N σ a w F E) (hk : ownB (E k).al (σ.H k)) (o : Nat) (vs : List Value) (ho : ownB (E k).al (some B))
    (hB : RB (w.setCells (E k).b o vs) F E w0.heap.size k B) : Rl w0 F0 N (σ.wr1 (k, σ.γ k, some B)) a (w.setCells (E k).b o vs) F E := by
  obtain ⟨hb1, hb2, hb3⟩ := h.own hk
  have hc := frozen_cells h hb2 o vs
  have hE : ∀ k, E k = E k ∨ (E k).gen < (E k).gen := fun _ => .inl rfl
  refine ⟨h.defs, h.size, fun t => R_mono (fun _ h => h) hc hE _ _ (h.tmp t), ?_, ?_, ?_, ?_, h.sub, h.new, setCells_below hb1 vs o _ _ h.below⟩
  · intro q; simp only [St.wr1, updK]; split
    · rename_i e; subst e; exact h.gen q
    · exact h.gen q
  · intro q B' hq
    simp only [St.wr1, updK] at hq
    split at hq
    · rename_i e; subst e; cases hq; exact hB
    · rename_i e
      have hr := h.blk q B' hq
      refine RB_mono (fun _ h => h) hc hE rfl (fun hO => (RB_own hr hO).2.1) (fun hO => ?_) hr
      exact heap_setCells_other _ _ _ _ _ (fun e' => e (h.inj q k (by rw [hq]; exact hO) hk e'))
  · intro q q' h1 h2 e
    refine h.inj q q' ?_ ?_ e
    · simp only [St.wr1, updK] at h1; split at h1
      · rename_i e; subst e; exact hk
      · exact h1
    · simp only [St.wr1, updK] at h2; split at h2
      · rename_i e; subst e; exact hk
      · exact h2
  · intro b hb; rw [size_setCells]; exact h.bnd b hb

/-- An own row is written no more. -/
theorem Rl.freeze (h : Rl w0 F0 N σ a w F E) {st : Nat} {rs : List (List AV)} (hk : σ.H k = some (.rows st rs)) :
    ∃ F', (∀ b, F b → F' b) ∧ Rl w0 F0 N (σ.wr1 (k, σ.γ k, some (.frz rs))) a w F' E ∧ RB w F' E w0.heap.size k (.frz rs) := by
  have hr := h.blk k _ hk
  have hr0 := hr
  obtain ⟨h1, h2, h3, h4⟩ := hr
  refine ⟨fun b => F b ∨ ((E k).al = true ∧ b = (E k).b), fun b hb => .inl hb, ?_, ?_⟩
  · have hF : ∀ b, F b → (F b ∨ ((E k).al = true ∧ b = (E k).b)) := fun b hb => .inl hb
    have hc : ∀ b o, F b → w.cell? ⟨b, o, none⟩ = w.cell? ⟨b, o, none⟩ := fun _ _ _ => rfl
    have hE : ∀ k, E k = E k ∨ (E k).gen < (E k).gen := fun _ => .inl rfl
    have hown : ∀ q, ownB (E q).al ((σ.wr1 (k, σ.γ k, some (.frz rs))).H q) → q ≠ k ∧ ownB (E q).al (σ.H q) := by
      intro q hq
      simp only [St.wr1, updK] at hq
      split at hq
      · exact hq.elim
      · rename_i e; exact ⟨e, hq⟩
    refine ⟨h.defs, h.size, fun t => R_mono hF hc hE _ _ (h.tmp t), ?_, ?_, ?_, ?_, fun b hb => .inl (h.sub b hb), ?_, h.below⟩
    · intro q; simp only [St.wr1, updK]; split
      · rename_i e; subst e; exact h.gen q
      · exact h.gen q
    · intro q B' hq
      have hq0 := hq
      simp only [St.wr1, updK] at hq
      split at hq
      · rename_i e; subst e; cases hq
        refine ⟨h1, h3, ?_⟩
        rcases h4 with h4 | ⟨h4, h5, h6, h7, h8⟩
        · exact .inl h4
        · exact .inr ⟨h4, .inr ⟨h4, rfl⟩, by rw [h2]; exact RR_mono hF hc hE _ _ (fun _ => rfl) _ _ h8⟩
      · rename_i e
        have hr := h.blk q B' hq
        refine RB_mono hF hc hE rfl (fun hO => ?_) (fun _ => rfl) hr
        rintro (hf | ⟨hal, hf⟩)
        · exact (RB_own hr hO).2.1 hf
        · exact e (h.inj q k (by rw [hq]; exact hO) (by rw [hk]; exact hal) hf)
    · intro q q' h1 h2 e
      exact h.inj q q' (hown q h1).2 (hown q' h2).2 e
    · rintro b (hb | ⟨hal, rfl⟩)
      · exact h.bnd b hb
      · rcases h4 with ⟨h4, _⟩ | ⟨h4, h5, h6, h7, h8⟩
        · rw [h4] at hal; exact absurd hal (by simp)
        · exact h7.lt
    · rintro b (hb | ⟨hal, rfl⟩) hlt
      · exact h.new b hb hlt
      · rcases h4 with ⟨h4, _⟩ | ⟨h4, h5, h6, h7, h8⟩
        · rw [h4] at hal; exact absurd hal (by simp)
        · omega
  · refine ⟨h1, h3, ?_⟩
    rcases h4 with h4 | ⟨h4, h5, h6, h7, h8⟩
    · exact .inl h4
    · exact .inr ⟨h4, .inr ⟨h4, rfl⟩, by rw [h2]; exact RR_mono (fun b hb => .inl hb) (fun _ _ _ => rfl) (fun _ => .inl rfl) _ _ (fun _ => rfl) _ _ h8⟩
end
end Go.Proofs.Ytedhhjmjlpnlpaa.VW
