/- What a law's arguments are read as, in abstract values. -/
import Derived.Test.YtedhhjmjlpnlpaaW2
import Derived.Deep.Slices
import Derived.ChangeArms
import Derived.ChangeOld
namespace Go.Proofs.Ytedhhjmjlpnlpaa.VW
open Go Go.RowKit
set_option linter.unusedVariables false
set_option linter.unusedSimpArgs false

def Op (P : Program) (t n : Nat) (Sh : List AV → Prop) : Prop :=
  ∀ (H : Type) (enc : TypeId × Value → H) (w : World) (base : Nat) (spare : Nat → Bool) (held : Bool) (fuel : Nat) (cs : List Value) (x : DataW H × List MemPlace),
    DataW.trod enc P w base spare held fuel t cs = some x → ∃ xs : List AV, RA w (fun b => b < w.heap.size) E0 xs cs ∧ xs.length = n ∧ Sh xs
def OpL (P : Program) (fs : List Field) (off total : Nat) (Sh : List AV → Prop) : Prop :=
  ∀ (H : Type) (enc : TypeId × Value → H) (w : World) (base : Nat) (spare : Nat → Bool) (held : Bool) (fuel : Nat) (cs : List Value) (ys : List (DataW H × List MemPlace)),
    cs.length = total → (fs.mapM fun f => DataW.trod enc P w base spare held fuel f.type ((cs.drop f.offset).take (P.cellsOf f.type))) = some ys → ∃ xs : List AV, RA w (fun b => b < w.heap.size) E0 xs (cs.drop off) ∧ off + xs.length = total ∧ Sh xs
section
variable {P : Program}
def shI (k : IntKind) (xs : List AV) : Prop := ∃ n, xs = [.int k n] ∧ (Lit.int k n).wf = true
def shB (xs : List AV) : Prop := ∃ b, xs = [.bool b]
def shP (A B : List AV → Prop) (zs : List AV) : Prop := ∃ xs ys, zs = xs ++ ys ∧ A xs ∧ B ys
def shS (A : List AV → Prop) (zs : List AV) : Prop := ∃ rows, zs = [.sl false rows] ∧ rows.length ≤ 9223372036854775807 ∧ ∀ r ∈ rows, A r
theorem op_mono {t n : Nat} {A B : List AV → Prop} (h : Op P t n A) (hAB : ∀ xs, A xs → B xs) : Op P t n B := by
  intro H enc w base spare held fuel cs x hx
  obtain ⟨xs, h1, h2, h3⟩ := h H enc w base spare held fuel cs x hx
  exact ⟨xs, h1, h2, hAB _ h3⟩
theorem op_int {t : TypeId} {k : IntKind} (hu : P.underlying t = some (.int k)) : Op P t 1 (shI k) := by
  intro H enc w base spare held fuel cs x h
  obtain ⟨n, rfl, _, hw⟩ := DataW.trod_int hu h
  exact ⟨[.int k n], RA_cons (by rw [R]) RA_nil, rfl, n, rfl, hw⟩
theorem op_bool {t : TypeId} (hu : P.underlying t = some .bool) : Op P t 1 shB := by
  intro H enc w base spare held fuel cs x h
  obtain ⟨b, rfl, _⟩ := DataW.trod_bool hu h
  exact ⟨[.bool b], RA_cons (by rw [R]) RA_nil, rfl, b, rfl⟩
theorem opL_last {f : Field} {off total n : Nat} {A : List AV → Prop} (ho : f.offset = off) (hn : P.cellsOf f.type = n) (ht : off + n = total) (h : Op P f.type n A) : OpL P [f] off total A := by
  intro H enc w base spare held fuel cs ys hc hm
  simp only [List.mapM_cons, List.mapM_nil] at hm
  cases h1 : DataW.trod enc P w base spare held fuel f.type ((cs.drop f.offset).take (P.cellsOf f.type)) with
  | none => simp [h1] at hm
  | some y =>
    obtain ⟨xs, hk, hl, hw⟩ := h H enc w base spare held fuel _ y h1
    rw [ho, hn, List.take_of_length_le (by rw [List.length_drop, hc]; omega)] at hk
    exact ⟨xs, hk, by omega, hw⟩
theorem opL_cons {f : Field} {fs : List Field} {off next total n : Nat} {A B : List AV → Prop} (ho : f.offset = off) (hn : P.cellsOf f.type = n) (ht : off + n = next) (h : Op P f.type n A) (hs : OpL P fs next total B) :
    OpL P (f :: fs) off total (shP A B) := by
  intro H enc w base spare held fuel cs ys hc hm
  simp only [List.mapM_cons] at hm
  cases h1 : DataW.trod enc P w base spare held fuel f.type ((cs.drop f.offset).take (P.cellsOf f.type)) with
  | none => simp [h1] at hm
  | some y =>
    cases h2 : fs.mapM fun f => DataW.trod enc P w base spare held fuel f.type ((cs.drop f.offset).take (P.cellsOf f.type)) with
    | none => simp [h1, h2] at hm
    | some zs =>
      obtain ⟨a, hk, hl, hw⟩ := h H enc w base spare held fuel _ y h1
      obtain ⟨b, hk2, hl2, hw2⟩ := hs H enc w base spare held fuel cs zs hc h2
      rw [ho, hn] at hk
      refine ⟨a ++ b, ?_, by rw [List.length_append]; omega, a, b, rfl, hw, hw2⟩
      have := RA_append hk hk2
      rwa [← ht, ← List.drop_drop, List.take_append_drop] at this
theorem op_struct {t n : Nat} {fs : Array Field} {A : List AV → Prop} (hu : P.underlying t = some (.struct fs)) (hn : P.cellsOf t = n) (h : OpL P fs.toList 0 n A) : Op P t n A := by
  intro H enc w base spare held fuel cs x hx
  cases fuel with
  | zero => simp [DataW.trod] at hx
  | succ fuel =>
    simp only [DataW.trod, hu] at hx
    split at hx
    · rename_i hc
      cases h1 : fs.toList.mapM fun f => DataW.trod enc P w base spare held fuel f.type ((cs.drop f.offset).take (P.cellsOf f.type)) with
      | none => simp [h1] at hx
      | some ys =>
        obtain ⟨a, hk, hl, hw⟩ := h H enc w base spare held fuel cs ys (by omega) h1
        exact ⟨a, by simpa using hk, by omega, hw⟩
    · cases hx
theorem op_arr2 {t e n m : Nat} {A : List AV → Prop} (hu : P.underlying t = some (.array 2 e)) (hn : P.cellsOf e = n) (hm : P.cellsOf t = n + n) (h : Op P e n A) (hs : n + n = m) : Op P t m (shP A A) := by
  intro H enc w base spare held fuel cs x hx
  cases fuel with
  | zero => simp [DataW.trod] at hx
  | succ fuel =>
    simp only [DataW.trod, hu] at hx
    split at hx
    · rename_i hc
      rw [hm] at hc
      simp only [show List.range 2 = [0, 1] from rfl, List.mapM_cons, List.mapM_nil, Nat.zero_mul, Nat.one_mul, List.drop_zero] at hx
      cases h1 : DataW.trod enc P w base spare held fuel e (cs.take (P.cellsOf e)) with
      | none => simp [h1] at hx
      | some y =>
        cases h2 : DataW.trod enc P w base spare held fuel e ((cs.drop (P.cellsOf e)).take (P.cellsOf e)) with
        | none => simp [h1, h2] at hx
        | some z =>
          obtain ⟨a, hk, hl, hw⟩ := h H enc w base spare held fuel _ y h1
          obtain ⟨b, hk2, hl2, hw2⟩ := h H enc w base spare held fuel _ z h2
          rw [List.take_of_length_le (by rw [List.length_drop, hc]; omega)] at hk2
          refine ⟨a ++ b, ?_, by rw [List.length_append]; omega, a, b, rfl, hw, hw2⟩
          have := RA_append hk hk2
          rwa [List.take_append_drop] at this
    · cases hx
theorem RR_of_get {w : World} {F : Nat → Prop} {E : Key → Inf} {b st : Nat} : ∀ {rs : List (List AV)} {o : Nat}, (∀ i r, rs[i]? = some r → r.length = st ∧ RC w F E b r (o + i * st)) → RR w F E b st rs o
  | [], o, _ => by rw [RR]; trivial
  | r :: rs, o, h => by
    rw [RR]
    have h0 := h 0 r rfl
    rw [Nat.zero_mul, Nat.add_zero] at h0
    refine ⟨h0.1, h0.2, RR_of_get fun i r' hi => ?_⟩
    have := h (i + 1) r' (by simpa using hi)
    rwa [Nat.succ_mul, Nat.add_comm (i * st) st, ← Nat.add_assoc] at this
theorem RC_of_cells {w : World} {F : Nat → Prop} {E : Key → Inf} {b : Nat} : ∀ {xs : List AV} {cs : List Value} {o : Nat}, RA w F E xs cs → (∀ i c, cs[i]? = some c → w.cell? ⟨b, o + i, none⟩ = some c) → RC w F E b xs o
  | [], cs, o, _, _ => by rw [RC]; trivial
  | x :: xs, cs, o, h, hc => by
    rw [RA] at h
    obtain ⟨v, us, rfl, h1, h2⟩ := h
    rw [RC]
    refine ⟨⟨v, by simpa using hc 0 v rfl, h1⟩, RC_of_cells h2 fun i c hi => ?_⟩
    have := hc (i + 1) c (by simpa using hi)
    rwa [Nat.add_assoc, Nat.add_comm 1 i]
theorem op_slice {t e n : Nat} {A : List AV → Prop} (hu : P.underlying t = some (.slice e)) (hn : P.cellsOf e = n) (h0 : 0 < n) (h : Op P e n A) : Op P t 1 (shS A) := by
  intro H enc w base spare held fuel cs x hx
  rcases Go.Deep.open_slice hu hx with ⟨rfl, rfl⟩ | ⟨a, len, cap, m, k, D, Pl, rfl, hb, hl, hm, hmm, rfl, hel⟩
  · refine ⟨[.sl false []], RA_cons ?_ RA_nil, rfl, [], rfl, by simp, fun r hr => by cases hr⟩
    rw [R]; exact ⟨none, 0, 0, rfl, rfl, Nat.le_refl _, (fun h => by cases h), fun _ => rfl, .inl rfl⟩
  · have hle : len ≤ m := by rw [hmm]; split <;> omega
    obtain ⟨X, hX⟩ := Go.Deep.choose_lt (α := List AV) (p := fun i y => y.length = n ∧ A y ∧ ∃ cs', RA w (fun b => b < w.heap.size) E0 y cs' ∧ ∀ j c, cs'[j]? = some c → w.cell? ((a.add (i * n)).add j) = some c) (n := len) (fun i hi => by
      obtain ⟨cs', h1, h2⟩ := hel i (by omega)
      obtain ⟨y, hk, hl', hw⟩ := h H enc w base spare held k cs' _ h2
      rw [hn] at h1
      obtain ⟨_, hlen, hcell⟩ := World.cells?_some h1
      refine ⟨y, hl', hw, cs', hk, fun j c hj => ?_⟩
      have hjl : j < n := by rw [← hlen]; exact (List.getElem?_eq_some_iff.1 hj).1
      rw [← hj]; exact hcell j hjl)
    refine ⟨[.sl false ((List.range len).map X)], RA_cons ?_ RA_nil, rfl, (List.range len).map X, rfl, by rw [List.length_map, List.length_range]; unfold maxLen at hm; omega, fun r hr => ?_⟩
    · rw [R]
      refine ⟨some a, len, cap, rfl, by simp, hl, (fun h => by cases h), (fun h => by cases h), ?_⟩
      by_cases hz : len = 0
      · left; subst hz; rfl
      · right
        obtain ⟨hl0, _, cs0, hk0, hc0⟩ := hX 0 (by omega)
        have hlen0 : cs0.length = n := by rw [RA_length hk0, hl0]
        obtain ⟨c0, hc00⟩ : ∃ c, cs0[0]? = some c := ⟨cs0[0]'(by omega), by simp [hlen0, h0]⟩
        have hcell0 := hc0 0 c0 hc00
        have hspot := World.cell?_spot hcell0
        obtain ⟨b, o, spot⟩ := a
        have hs : spot = none := by simpa [Addr.add] using hspot
        subst hs
        have hbl : b < w.heap.size := by
          unfold World.cell? at hcell0
          split at hcell0
          · rename_i e
            have := (Array.getElem?_eq_some_iff.1 e).1
            simpa [Addr.add] using this
          · cases hcell0
        refine ⟨b, o, n, rfl, hbl, RR_of_get fun i r hi => ?_⟩
        have hil : i < len := by
          have := (List.getElem?_eq_some_iff.1 hi).1
          simpa using this
        have hr : r = X i := by simpa [hil] using hi.symm
        subst hr
        obtain ⟨hli, _, cs', hk, hc⟩ := hX i hil
        refine ⟨hli, RC_of_cells hk fun j c hj => ?_⟩
        have := hc j c hj
        rw [Addr.add_mid, Addr.add_mid] at this; exact this
    · obtain ⟨i, hi, rfl⟩ := List.mem_map.1 hr
      exact (hX i (List.mem_range.1 hi)).2.1
theorem sh_rows {α : Type} {A : List AV → Prop} {e : α → List AV} {wf : α → Prop} (hA : ∀ xs, A xs → ∃ a, xs = e a ∧ wf a) : ∀ {rows : List (List AV)}, (∀ r ∈ rows, A r) → ∃ l : List α, rows = l.map e ∧ ∀ a ∈ l, wf a
  | [], _ => ⟨[], rfl, fun a h => by cases h⟩
  | r :: rows, h => by
    obtain ⟨a, rfl, ha⟩ := hA r (h r (by simp))
    obtain ⟨l, rfl, hl⟩ := sh_rows hA (rows := rows) fun x hx => h x (by simp [hx])
    exact ⟨a :: l, rfl, fun x hx => by rcases List.mem_cons.1 hx with rfl | hx; exact ha; exact hl x hx⟩
end
/-! numbers in their ranges -/
def inI (n : Int) : Prop := -9223372036854775808 ≤ n ∧ n ≤ 9223372036854775807
def inU (n : Int) : Prop := 0 ≤ n ∧ n ≤ 255
theorem wfI {n : Int} (h : (Lit.int .i64 n).wf = true) : inI n := by
  simp [Lit.wf, IntKind.min, IntKind.max, IntKind.signed, IntKind.bits] at h
  exact ⟨by omega, by omega⟩
theorem wfU {n : Int} (h : (Lit.int .u8 n).wf = true) : inU n := by
  simp [Lit.wf, IntKind.min, IntKind.max, IntKind.signed, IntKind.bits] at h
  exact ⟨by omega, by omega⟩
end Go.Proofs.Ytedhhjmjlpnlpaa.VW
