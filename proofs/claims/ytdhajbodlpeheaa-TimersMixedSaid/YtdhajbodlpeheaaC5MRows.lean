/- Words of our own: what an argument is read as, told by the print's kinds. -/
import Derived.Test.YtdhajbodlpeheaaC5MWords
import Derived.Deep.Slices
import Derived.ChangeArms
namespace Go.Proofs.YtdhajbodlpeheaaW.PrintWords
open Go.RowKit
variable {P : Program}
def Opens {α : Type} (P : Program) (t : TypeId) (d : Kd α) (Wf : α → Prop) : Prop :=
  ∀ (H : Type) (enc : TypeId × Value → H) (w : World) (base : Nat) (spare : Nat → Bool) (held : Bool) (fuel : Nat) (cs : List Value) (x : DataW H × List MemPlace),
    DataW.trod enc P w base spare held fuel t cs = some x → ∃ a, d.K w a cs ∧ Wf a
def OpensL {α : Type} (P : Program) (fs : List Field) (off total : Nat) (d : Kd α) (Wf : α → Prop) : Prop :=
  ∀ (H : Type) (enc : TypeId × Value → H) (w : World) (base : Nat) (spare : Nat → Bool) (held : Bool) (fuel : Nat) (cs : List Value) (ys : List (DataW H × List MemPlace)),
    cs.length = total → (fs.mapM fun f => DataW.trod enc P w base spare held fuel f.type ((cs.drop f.offset).take (P.cellsOf f.type))) = some ys → ∃ a, d.K w a (cs.drop off) ∧ Wf a
theorem opens_int {t : TypeId} {k : IntKind} (hu : P.underlying t = some (.int k)) : Opens P t (Kd.int k) (fun n => (Lit.int k n).wf = true) := by
  intro H enc w base spare held fuel cs x h
  obtain ⟨n, rfl, _, hw⟩ := DataW.trod_int hu h
  exact ⟨n, rfl, hw⟩
theorem opens_bool {t : TypeId} (hu : P.underlying t = some .bool) : Opens P t Kd.bool (fun _ => True) := by
  intro H enc w base spare held fuel cs x h
  obtain ⟨b, rfl, _⟩ := DataW.trod_bool hu h
  exact ⟨b, rfl, trivial⟩
theorem opens_iso {α β : Type} {t : TypeId} {d : Kd α} {W : α → Prop} (f : β → α) (g : α → β) (hfg : ∀ a, f (g a) = a) (h : Opens P t d W) : Opens P t (Kd.iso d f) (fun x => W (f x)) := by
  intro H enc w base spare held fuel cs x hx
  obtain ⟨a, hk, hw⟩ := h H enc w base spare held fuel cs x hx
  exact ⟨g a, by show d.K w (f (g a)) cs; rw [hfg]; exact hk, by show W (f (g a)); rw [hfg]; exact hw⟩
theorem opensL_last {α : Type} {f : Field} {off total : Nat} {d : Kd α} {W : α → Prop} (ho : f.offset = off) (ht : off + P.cellsOf f.type = total) (h : Opens P f.type d W) : OpensL P [f] off total d W := by
  intro H enc w base spare held fuel cs ys hc hm
  simp only [List.mapM_cons, List.mapM_nil] at hm
  cases h1 : DataW.trod enc P w base spare held fuel f.type ((cs.drop f.offset).take (P.cellsOf f.type)) with
  | none => simp [h1] at hm
  | some y =>
    obtain ⟨a, hk, hw⟩ := h H enc w base spare held fuel _ y h1
    rw [ho, List.take_of_length_le (by rw [List.length_drop, hc]; omega)] at hk
    exact ⟨a, hk, hw⟩
theorem opensL_cons {α β : Type} {f : Field} {fs : List Field} {off next total : Nat} {d : Kd α} {e : Kd β} {W : α → Prop} {V : β → Prop} (ho : f.offset = off) (ht : off + P.cellsOf f.type = next) (h : Opens P f.type d W) (hs : OpensL P fs next total e V) :
    OpensL P (f :: fs) off total (Kd.pair d e) (fun x => W x.1 ∧ V x.2) := by
  intro H enc w base spare held fuel cs ys hc hm
  simp only [List.mapM_cons] at hm
  cases h1 : DataW.trod enc P w base spare held fuel f.type ((cs.drop f.offset).take (P.cellsOf f.type)) with
  | none => simp [h1] at hm
  | some y =>
    cases h2 : fs.mapM fun f => DataW.trod enc P w base spare held fuel f.type ((cs.drop f.offset).take (P.cellsOf f.type)) with
    | none => simp [h1, h2] at hm
    | some zs =>
      obtain ⟨a, hk, hw⟩ := h H enc w base spare held fuel _ y h1
      obtain ⟨b, hk2, hw2⟩ := hs H enc w base spare held fuel cs zs hc h2
      rw [ho] at hk
      refine ⟨(a, b), ⟨_, _, ?_, hk, hk2⟩, hw, hw2⟩
      rw [← ht, ← List.drop_drop, List.take_append_drop]
theorem opens_struct {α : Type} {t : TypeId} {fs : Array Field} {d : Kd α} {W : α → Prop} (hu : P.underlying t = some (.struct fs)) (h : OpensL P fs.toList 0 (P.cellsOf t) d W) : Opens P t d W := by
  intro H enc w base spare held fuel cs x hx
  cases fuel with
  | zero => simp [DataW.trod] at hx
  | succ fuel =>
    simp only [DataW.trod, hu] at hx
    split at hx
    · rename_i hc
      cases h1 : fs.toList.mapM fun f => DataW.trod enc P w base spare held fuel f.type ((cs.drop f.offset).take (P.cellsOf f.type)) with
      | none => simp [h1] at hx
      | some ys =>
        obtain ⟨a, hk, hw⟩ := h H enc w base spare held fuel cs ys hc h1
        exact ⟨a, by simpa using hk, hw⟩
    · cases hx
theorem mapM_each {α β : Type} {f : α → Option β} : ∀ {l : List α} {ys : List β}, l.mapM f = some ys → ys.length = l.length ∧ ∀ (i : Nat) (x : α), l[i]? = some x → ∃ y, ys[i]? = some y ∧ f x = some y
  | [], ys, h => by
    simp only [List.mapM_nil] at h
    injection h with h
    subst h
    exact ⟨rfl, fun i x hx => by simp at hx⟩
  | a :: l, ys, h => by
    simp only [List.mapM_cons] at h
    cases h1 : f a with
    | none => simp [h1] at h
    | some y =>
      cases h2 : l.mapM f with
      | none => simp [h1, h2] at h
      | some zs =>
        simp only [h1, h2] at h
        injection h with h
        subst h
        obtain ⟨h3, h4⟩ := mapM_each h2
        refine ⟨by simp [h3], fun i x hx => ?_⟩
        cases i with
        | zero =>
          simp only [List.getElem?_cons_zero, Option.some.injEq] at hx
          subst hx
          exact ⟨y, rfl, h1⟩
        | succ i => simpa using h4 i x (by simpa using hx)
theorem cells_of_cells? {w : World} {base : Nat} {a : Addr} {n : Nat} {cs : List Value} (h : w.cells? base a n = some cs) : cs.length = n ∧ ∀ i u, cs[i]? = some u → w.cell? (a.add i) = some u := by
  unfold World.cells? at h
  split at h
  · obtain ⟨h1, h2⟩ := mapM_each h
    rw [List.length_range] at h1
    refine ⟨h1, fun i u hu => ?_⟩
    have hi : i < n := by rw [← h1]; exact (List.getElem?_eq_some_iff.1 hu).1
    obtain ⟨y, hy, hc⟩ := h2 i i (by simp [hi])
    rw [hu] at hy
    injection hy with hy
    rw [hy]
    exact hc
  · cases h
theorem opens_slice {α : Type} {t e : TypeId} {d : Kd α} {W : α → Prop} [Inhabited α] (hu : P.underlying t = some (.slice e)) (hs : P.cellsOf e = d.sz) (h : Opens P e d W) : Opens P t (Kd.slice e d) (fun xs => ∀ x ∈ xs, W x) := by
  intro H enc w base spare held fuel cs x hx
  rcases Go.Deep.open_slice hu hx with ⟨rfl, rfl⟩ | ⟨a, len, cap, m, n, D, Pl, rfl, hb, hl, hm, hmm, rfl, hel⟩
  · exact ⟨[], ⟨none, 0, rfl, Nat.le_refl _, rfl, by simp, fun h0 => absurd h0 (by simp)⟩, fun x hx => by cases hx⟩
  · have hle : len ≤ m := by rw [hmm]; split <;> omega
    obtain ⟨X, hX⟩ := Go.Deep.choose_lt (α := α) (p := fun i y => (∃ cs', w.cells? base (a.add (i * P.cellsOf e)) (P.cellsOf e) = some cs' ∧ d.K w y cs') ∧ W y) (n := len) (fun i hi => by
      obtain ⟨cs', h1, h2⟩ := hel i (by omega)
      obtain ⟨y, hk, hw⟩ := h H enc w base spare held n cs' _ h2
      exact ⟨y, ⟨cs', h1, hk⟩, hw⟩)
    refine ⟨(List.range len).map X, ⟨some a, cap, by simp, by simpa using hl, by simp, by simp only [List.length_map, List.length_range]; unfold maxLen at hm; omega, fun _ => ⟨a, rfl, fun j p hj => ?_⟩⟩, fun y hy => ?_⟩
    · obtain ⟨hjl, hp⟩ := List.getElem?_eq_some_iff.1 hj
      simp only [List.length_map, List.length_range] at hjl
      simp only [List.getElem_map, List.getElem_range] at hp
      subst hp
      obtain ⟨⟨cs', h1, hk⟩, _⟩ := hX j hjl
      obtain ⟨h2, h3⟩ := cells_of_cells? h1
      refine ⟨cs', d.K_len hk, hk, fun i u hi => ?_⟩
      have := h3 i u hi
      rwa [Go.Deep.add_add, hs] at this
    · obtain ⟨i, hi, rfl⟩ := List.mem_map.1 hy
      exact (hX i (List.mem_range.1 hi)).2
end Go.Proofs.YtdhajbodlpeheaaW.PrintWords
