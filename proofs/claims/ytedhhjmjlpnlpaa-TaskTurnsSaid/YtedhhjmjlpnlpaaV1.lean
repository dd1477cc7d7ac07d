/- Abstract values, and what they say of a world: the words of a walk over values. -/
import Derived.Orders
import Derived.Deep.MidRow
import Derived.Laws.AppendOwn
import Derived.Laws.MakeOwn
import Derived.Below
import Derived.Laws.StructEq
import Derived.Laws.CopyRow
import Derived.Laws.Build
namespace Go.Proofs.Ytedhhjmjlpnlpaa.VW
open Go Go.RowKit
set_option linter.unusedVariables false
set_option linter.unusedSimpArgs false

abbrev Key := Nat × Nat

inductive AV where
  | int (k : IntKind) (n : Int)
  | bool (b : Bool)
  | agg (cs : List AV)
  | tup (vs : List AV)
  | sl (ex : Bool) (rows : List (List AV))
  | own (k : Key) (g : Nat)
  | ptr (k : Key) (g off : Nat)
  | eptr (k : Key) (g i j : Nat)
  | iptr (cs : List AV)
  | fn (f : Nat) (caps : List AV)
  | opt (b : Bool) (v : AV)
  | isnil (z : Bool)
  | dead
instance : Inhabited AV := ⟨.dead⟩

structure Inf where
  b : Nat
  gen : Nat
  len : Nat
  st : Nat
  cap : Nat
  al : Bool

mutual
def R (w : World) (F : Nat → Prop) (E : Key → Inf) : AV → Value → Prop
  | .int k n, v => v = .int k n
  | .bool b, v => v = .bool b
  | .agg cs, v => ∃ vs : List Value, v = .agg vs.toArray ∧ RA w F E cs vs
  | .tup cs, v => ∃ vs : List Value, v = .tuple vs.toArray ∧ RA w F E cs vs
  | .sl ex rows, v => ∃ a len cap, v = .slice a len cap ∧ len = rows.length ∧ len ≤ cap ∧ (ex = true → cap = len) ∧ (a = none → cap = 0) ∧
      (rows = [] ∨ ∃ b o st, a = some ⟨b, o, none⟩ ∧ F b ∧ RR w F E b st rows o)
  | .own k g, v => g ≤ (E k).gen ∧ (g = (E k).gen → ((E k).al = true ∧ v = .slice (some ⟨(E k).b, 0, none⟩) (E k).len (E k).cap) ∨ ((E k).al = false ∧ (E k).len = 0 ∧ ∃ a, v = .slice a 0 0)) ∧ v.oneCell' = true
  | .ptr k g off, v => g ≤ (E k).gen ∧ (g = (E k).gen → v = .pointer (some ⟨(E k).b, off, none⟩)) ∧ v.oneCell' = true
  | .eptr k g i j, v => g ≤ (E k).gen ∧ (g = (E k).gen → v = .pointer (some ⟨(E k).b, i * (E k).st + j, none⟩)) ∧ v.oneCell' = true
  | .iptr cs, v => ∃ b o, v = .pointer (some ⟨b, o, none⟩) ∧ F b ∧ RC w F E b cs o
  | .fn f caps, v => ∃ us : List Value, v = .func (.func f) #[] us.toArray ∧ RA w F E caps us
  | .opt b x, v => (b = true → R w F E x v) ∧ (b = false → v = .tuple #[])
  | .isnil z, v => ∃ b, v = .bool b ∧ (b = true → z = true)
  | .dead, _ => True
def RA (w : World) (F : Nat → Prop) (E : Key → Inf) : List AV → List Value → Prop
  | [], vs => vs = []
  | x :: xs, vs => ∃ v us, vs = v :: us ∧ R w F E x v ∧ RA w F E xs us
def RC (w : World) (F : Nat → Prop) (E : Key → Inf) (b : Nat) : List AV → Nat → Prop
  | [], _ => True
  | x :: xs, o => (∃ c, w.cell? ⟨b, o, none⟩ = some c ∧ R w F E x c) ∧ RC w F E b xs (o + 1)
def RR (w : World) (F : Nat → Prop) (E : Key → Inf) (b st : Nat) : List (List AV) → Nat → Prop
  | [], _ => True
  | r :: rs, o => r.length = st ∧ RC w F E b r o ∧ RR w F E b st rs (o + st)
end

section
variable {w w' : World} {F F' : Nat → Prop} {E E' : Key → Inf}

mutual
theorem R_mono (hF : ∀ b, F b → F' b) (hc : ∀ b o, F b → w'.cell? ⟨b, o, none⟩ = w.cell? ⟨b, o, none⟩) (hE : ∀ k, E' k = E k ∨ (E k).gen < (E' k).gen) :
    ∀ (x : AV) (v : Value), R w F E x v → R w' F' E' x v
  | .int k n, v, h => by simpa only [R] using h
  | .bool b, v, h => by simpa only [R] using h
  | .agg cs, v, h => by
    rw [R] at h ⊢; obtain ⟨vs, e, ha⟩ := h; exact ⟨vs, e, RA_mono hF hc hE cs vs ha⟩
  | .tup cs, v, h => by
    rw [R] at h ⊢; obtain ⟨vs, e, ha⟩ := h; exact ⟨vs, e, RA_mono hF hc hE cs vs ha⟩
  | .sl ex rows, v, h => by
    rw [R] at h ⊢; obtain ⟨a, len, cap, e, h1, h2, h3, h4, h5⟩ := h
    refine ⟨a, len, cap, e, h1, h2, h3, h4, ?_⟩
    rcases h5 with h5 | ⟨b, o, st, ha, hb, hr⟩
    · exact .inl h5
    · exact .inr ⟨b, o, st, ha, hF b hb, RR_mono hF hc hE b st (fun o => hc b o hb) rows o hr⟩
  | .own k g, v, h => by
    rw [R] at h ⊢
    rcases hE k with he | he
    · rw [he]; exact h
    · exact ⟨by omega, fun e => by omega, h.2.2⟩
  | .ptr k g off, v, h => by
    rw [R] at h ⊢
    rcases hE k with he | he
    · rw [he]; exact h
    · exact ⟨by omega, fun e => by omega, h.2.2⟩
  | .eptr k g i j, v, h => by
    rw [R] at h ⊢
    rcases hE k with he | he
    · rw [he]; exact h
    · exact ⟨by omega, fun e => by omega, h.2.2⟩
  | .iptr cs, v, h => by
    rw [R] at h ⊢; obtain ⟨b, o, e, hb, hr⟩ := h
    exact ⟨b, o, e, hF b hb, RC_mono hF hc hE b (fun o => hc b o hb) cs o hr⟩
  | .fn f caps, v, h => by
    rw [R] at h ⊢; obtain ⟨us, e, ha⟩ := h; exact ⟨us, e, RA_mono hF hc hE caps us ha⟩
  | .opt b x, v, h => by
    rw [R] at h ⊢; exact ⟨fun hb => R_mono hF hc hE x v (h.1 hb), h.2⟩
  | .isnil z, v, h => by rw [R] at h ⊢; exact h
  | .dead, v, h => by rw [R]; trivial
theorem RA_mono (hF : ∀ b, F b → F' b) (hc : ∀ b o, F b → w'.cell? ⟨b, o, none⟩ = w.cell? ⟨b, o, none⟩) (hE : ∀ k, E' k = E k ∨ (E k).gen < (E' k).gen) :
    ∀ (xs : List AV) (vs : List Value), RA w F E xs vs → RA w' F' E' xs vs
  | [], vs, h => by rw [RA] at h ⊢; exact h
  | x :: xs, vs, h => by
    rw [RA] at h ⊢; obtain ⟨v, us, e, h1, h2⟩ := h
    exact ⟨v, us, e, R_mono hF hc hE x v h1, RA_mono hF hc hE xs us h2⟩
theorem RC_mono (hF : ∀ b, F b → F' b) (hc : ∀ b o, F b → w'.cell? ⟨b, o, none⟩ = w.cell? ⟨b, o, none⟩) (hE : ∀ k, E' k = E k ∨ (E k).gen < (E' k).gen)
    (b : Nat) (hb : ∀ o, w'.cell? ⟨b, o, none⟩ = w.cell? ⟨b, o, none⟩) : ∀ (xs : List AV) (o : Nat), RC w F E b xs o → RC w' F' E' b xs o
  | [], o, h => by rw [RC]; trivial
  | x :: xs, o, h => by
    rw [RC] at h ⊢; obtain ⟨⟨c, h1, h2⟩, h3⟩ := h
    exact ⟨⟨c, (hb o).trans h1, R_mono hF hc hE x c h2⟩, RC_mono hF hc hE b hb xs (o + 1) h3⟩
theorem RR_mono (hF : ∀ b, F b → F' b) (hc : ∀ b o, F b → w'.cell? ⟨b, o, none⟩ = w.cell? ⟨b, o, none⟩) (hE : ∀ k, E' k = E k ∨ (E k).gen < (E' k).gen)
    (b st : Nat) (hb : ∀ o, w'.cell? ⟨b, o, none⟩ = w.cell? ⟨b, o, none⟩) : ∀ (rs : List (List AV)) (o : Nat), RR w F E b st rs o → RR w' F' E' b st rs o
  | [], o, h => by rw [RR]; trivial
  | r :: rs, o, h => by
    rw [RR] at h ⊢; obtain ⟨h1, h2, h3⟩ := h
    exact ⟨h1, RC_mono hF hc hE b hb r o h2, RR_mono hF hc hE b st hb rs (o + st) h3⟩
end

/-! what holds no key of ours -/
mutual
def imm : AV → Bool
  | .int _ _ => true
  | .bool _ => true
  | .agg cs => immL cs
  | .tup cs => immL cs
  | .sl _ rows => immR rows
  | .own _ _ => false
  | .ptr _ _ _ => false
  | .eptr _ _ _ _ => false
  | .iptr cs => immL cs
  | .fn _ caps => immL caps
  | .opt _ x => imm x
  | .isnil _ => true
  | .dead => true
def immL : List AV → Bool
  | [] => true
  | x :: xs => imm x && immL xs
def immR : List (List AV) → Bool
  | [] => true
  | r :: rs => immL r && immR rs
end
theorem immL_append (xs ys : List AV) : immL (xs ++ ys) = (immL xs && immL ys) := by
  induction xs with
  | nil => simp [immL]
  | cons x xs ih => simp [immL, ih, Bool.and_assoc]
theorem immR_append (xs ys : List (List AV)) : immR (xs ++ ys) = (immR xs && immR ys) := by
  induction xs with
  | nil => simp [immR]
  | cons x xs ih => simp [immR, ih, Bool.and_assoc]
theorem immR_iff (rs : List (List AV)) : immR rs = true ↔ ∀ r ∈ rs, immL r = true := by
  induction rs with
  | nil => simp [immR]
  | cons x xs ih => simp [immR, ih]
theorem immL_iff (rs : List AV) : immL rs = true ↔ ∀ r ∈ rs, imm r = true := by
  induction rs with
  | nil => simp [immL]
  | cons x xs ih => simp [immL, ih]
theorem immR_map {α : Type} (f : α → List AV) (l : List α) (h : ∀ x, immL (f x) = true) : immR (l.map f) = true := by
  rw [immR_iff]; intro r hr; obtain ⟨x, _, rfl⟩ := List.mem_map.1 hr; exact h x

mutual
theorem R_env : ∀ (x : AV) (v : Value), imm x = true → R w F E x v → R w F E' x v
  | .int k n, v, _, h => by simpa only [R] using h
  | .bool b, v, _, h => by simpa only [R] using h
  | .agg cs, v, hi, h => by
    rw [R] at h ⊢; obtain ⟨vs, e, ha⟩ := h; exact ⟨vs, e, RA_env cs vs (by simpa only [imm] using hi) ha⟩
  | .tup cs, v, hi, h => by
    rw [R] at h ⊢; obtain ⟨vs, e, ha⟩ := h; exact ⟨vs, e, RA_env cs vs (by simpa only [imm] using hi) ha⟩
  | .sl ex rows, v, hi, h => by
    rw [R] at h ⊢; obtain ⟨a, len, cap, e, h1, h2, h3, h4, h5⟩ := h
    refine ⟨a, len, cap, e, h1, h2, h3, h4, ?_⟩
    rcases h5 with h5 | ⟨b, o, st, ha, hb, hr⟩
    · exact .inl h5
    · exact .inr ⟨b, o, st, ha, hb, RR_env b st rows o (by simpa only [imm] using hi) hr⟩
  | .own k g, v, hi, h => by simp [imm] at hi
  | .ptr k g off, v, hi, h => by simp [imm] at hi
  | .eptr k g i j, v, hi, h => by simp [imm] at hi
  | .iptr cs, v, hi, h => by
    rw [R] at h ⊢; obtain ⟨b, o, e, hb, hr⟩ := h
    exact ⟨b, o, e, hb, RC_env b cs o (by simpa only [imm] using hi) hr⟩
  | .fn f caps, v, hi, h => by
    rw [R] at h ⊢; obtain ⟨us, e, ha⟩ := h; exact ⟨us, e, RA_env caps us (by simpa only [imm] using hi) ha⟩
  | .opt b x, v, hi, h => by
    rw [R] at h ⊢; exact ⟨fun hb => R_env x v (by simpa only [imm] using hi) (h.1 hb), h.2⟩
  | .isnil z, v, _, h => by rw [R] at h ⊢; exact h
  | .dead, v, _, h => by rw [R]; trivial
theorem RA_env : ∀ (xs : List AV) (vs : List Value), immL xs = true → RA w F E xs vs → RA w F E' xs vs
  | [], vs, _, h => by rw [RA] at h ⊢; exact h
  | x :: xs, vs, hi, h => by
    rw [RA] at h ⊢; obtain ⟨v, us, e, h1, h2⟩ := h
    have hi' : imm x = true ∧ immL xs = true := by simpa only [immL, Bool.and_eq_true] using hi
    exact ⟨v, us, e, R_env x v hi'.1 h1, RA_env xs us hi'.2 h2⟩
theorem RC_env (b : Nat) : ∀ (xs : List AV) (o : Nat), immL xs = true → RC w F E b xs o → RC w F E' b xs o
  | [], o, _, h => by rw [RC]; trivial
  | x :: xs, o, hi, h => by
    rw [RC] at h ⊢; obtain ⟨⟨c, h1, h2⟩, h3⟩ := h
    have hi' : imm x = true ∧ immL xs = true := by simpa only [immL, Bool.and_eq_true] using hi
    exact ⟨⟨c, h1, R_env x c hi'.1 h2⟩, RC_env b xs (o + 1) hi'.2 h3⟩
theorem RR_env (b st : Nat) : ∀ (rs : List (List AV)) (o : Nat), immR rs = true → RR w F E b st rs o → RR w F E' b st rs o
  | [], o, _, h => by rw [RR]; trivial
  | r :: rs, o, hi, h => by
    rw [RR] at h ⊢; obtain ⟨h1, h2, h3⟩ := h
    have hi' : immL r = true ∧ immR rs = true := by simpa only [immR, Bool.and_eq_true] using hi
    exact ⟨h1, RC_env b r o hi'.1 h2, RR_env b st rs (o + st) hi'.2 h3⟩
end

/-! lists -/
theorem RA_length : ∀ {xs : List AV} {vs : List Value}, RA w F E xs vs → vs.length = xs.length
  | [], vs, h => by rw [RA] at h; subst h; rfl
  | x :: xs, vs, h => by
    rw [RA] at h; obtain ⟨v, us, rfl, _, h2⟩ := h
    simp [RA_length h2]
theorem RA_cons {x : AV} {xs : List AV} {v : Value} {vs : List Value} (h1 : R w F E x v) (h2 : RA w F E xs vs) : RA w F E (x :: xs) (v :: vs) := by
  rw [RA]; exact ⟨v, vs, rfl, h1, h2⟩
theorem RA_nil : RA w F E [] [] := by rw [RA]
theorem RA_append : ∀ {xs : List AV} {vs : List Value} {ys us}, RA w F E xs vs → RA w F E ys us → RA w F E (xs ++ ys) (vs ++ us)
  | [], vs, ys, us, h, k => by rw [RA] at h; subst h; exact k
  | x :: xs, vs, ys, us, h, k => by
    rw [RA] at h; obtain ⟨v, vs', rfl, h1, h2⟩ := h
    exact RA_cons h1 (RA_append h2 k)
theorem RA_get : ∀ {xs : List AV} {vs : List Value} {j : Nat} {x : AV}, RA w F E xs vs → xs[j]? = some x → ∃ v, vs[j]? = some v ∧ R w F E x v
  | [], vs, j, x, h, k => by simp at k
  | y :: ys, vs, 0, x, h, k => by
    rw [RA] at h; obtain ⟨v, vs', rfl, h1, h2⟩ := h
    simp at k; subst k; exact ⟨v, by simp, h1⟩
  | y :: ys, vs, j + 1, x, h, k => by
    rw [RA] at h; obtain ⟨v, vs', rfl, h1, h2⟩ := h
    simpa using RA_get h2 (by simpa using k)
theorem RA_take : ∀ {xs : List AV} {vs : List Value} (n : Nat), RA w F E xs vs → RA w F E (xs.take n) (vs.take n)
  | [], vs, n, h => by rw [RA] at h; subst h; simp [RA]
  | x :: xs, vs, 0, h => by simp [RA]
  | x :: xs, vs, n + 1, h => by
    rw [RA] at h; obtain ⟨v, vs', rfl, h1, h2⟩ := h
    exact RA_cons h1 (RA_take n h2)
theorem RA_drop : ∀ {xs : List AV} {vs : List Value} (n : Nat), RA w F E xs vs → RA w F E (xs.drop n) (vs.drop n)
  | [], vs, n, h => by rw [RA] at h; subst h; simp [RA]
  | x :: xs, vs, 0, h => h
  | x :: xs, vs, n + 1, h => by
    rw [RA] at h; obtain ⟨v, vs', rfl, h1, h2⟩ := h
    exact RA_drop n h2
theorem RA_replicate {x : AV} {v : Value} (h : R w F E x v) : ∀ n, RA w F E (List.replicate n x) (List.replicate n v)
  | 0 => RA_nil
  | n + 1 => RA_cons h (RA_replicate h n)

theorem RC_append (b : Nat) : ∀ {xs ys : List AV} {o : Nat}, RC w F E b (xs ++ ys) o ↔ RC w F E b xs o ∧ RC w F E b ys (o + xs.length)
  | [], ys, o => by simp [RC]
  | x :: xs, ys, o => by
    rw [List.cons_append, RC, RC, RC_append b, List.length_cons]
    have : o + 1 + xs.length = o + (xs.length + 1) := by omega
    rw [this, and_assoc]
theorem RC_range {b : Nat} : ∀ {xs : List AV} {o : Nat}, RC w F E b xs o → ∃ vs, RA w F E xs vs ∧ w.rangeAt b o vs
  | [], o, h => ⟨[], RA_nil, fun j v hv => by simp at hv⟩
  | x :: xs, o, h => by
    rw [RC] at h; obtain ⟨⟨c, h1, h2⟩, h3⟩ := h
    obtain ⟨vs, hv, hr⟩ := RC_range h3
    refine ⟨c :: vs, RA_cons h2 hv, fun j v hj => ?_⟩
    cases j with
    | zero => simp at hj; subst hj; exact h1
    | succ j =>
      have := hr j v (by simpa using hj)
      rwa [show o + 1 + j = o + (j + 1) by omega] at this
theorem RC_of_range {b : Nat} : ∀ {xs : List AV} {vs : List Value} {o : Nat}, RA w F E xs vs → w.rangeAt b o vs → RC w F E b xs o
  | [], vs, o, h, k => by rw [RC]; trivial
  | x :: xs, vs, o, h, k => by
    rw [RA] at h; obtain ⟨v, us, rfl, h1, h2⟩ := h
    rw [RC]
    refine ⟨⟨v, k 0 v (by simp), h1⟩, RC_of_range h2 fun j u hj => ?_⟩
    have := k (j + 1) u (by simpa using hj)
    rwa [show o + (j + 1) = o + 1 + j by omega] at this
theorem RC_take {b : Nat} {xs : List AV} {o : Nat} (n : Nat) (h : RC w F E b xs o) : RC w F E b (xs.take n) o := by
  rw [← List.take_append_drop n xs, RC_append] at h; exact h.1
theorem RC_drop {b : Nat} {xs : List AV} {o : Nat} (n : Nat) (hn : n ≤ xs.length) (h : RC w F E b xs o) : RC w F E b (xs.drop n) (o + n) := by
  rw [← List.take_append_drop n xs, RC_append] at h
  simpa [Nat.min_eq_left hn] using h.2
theorem RC_drop' {b : Nat} {xs : List AV} {o : Nat} (n : Nat) (h : RC w F E b xs o) : RC w F E b (xs.drop n) (o + n) := by
  by_cases hn : n ≤ xs.length
  · exact RC_drop n hn h
  · rw [List.drop_eq_nil_of_le (by omega), RC]; trivial
theorem RR_flat (b st : Nat) : ∀ {rs : List (List AV)} {o : Nat}, RR w F E b st rs o ↔ (∀ r ∈ rs, r.length = st) ∧ RC w F E b rs.flatten o
  | [], o => by simp [RR, RC]
  | r :: rs, o => by
    rw [RR, List.flatten_cons, RC_append, RR_flat b st]
    constructor
    · rintro ⟨h1, h2, h3, h4⟩
      refine ⟨?_, h2, by rw [h1]; exact h4⟩
      intro x hx
      rcases List.mem_cons.1 hx with rfl | hx
      · exact h1
      · exact h3 x hx
    · rintro ⟨h1, h2, h3⟩
      have e := h1 r (by simp)
      exact ⟨e, h2, fun x hx => h1 x (by simp [hx]), by rw [← e]; exact h3⟩
theorem RR_get {b st : Nat} : ∀ {rs : List (List AV)} {o i : Nat} {r : List AV}, RR w F E b st rs o → rs[i]? = some r → r.length = st ∧ RC w F E b r (o + i * st)
  | [], o, i, r, h, k => by simp at k
  | x :: xs, o, 0, r, h, k => by
    rw [RR] at h; simp at k; subst k; simpa using ⟨h.1, h.2.1⟩
  | x :: xs, o, i + 1, r, h, k => by
    rw [RR] at h
    have := RR_get (i := i) h.2.2 (by simpa using k)
    rwa [show o + st + i * st = o + (i + 1) * st by rw [Nat.add_mul]; omega] at this
theorem RR_append (b st : Nat) : ∀ {xs ys : List (List AV)} {o : Nat}, RR w F E b st (xs ++ ys) o ↔ RR w F E b st xs o ∧ RR w F E b st ys (o + xs.length * st)
  | [], ys, o => by simp [RR]
  | x :: xs, ys, o => by
    rw [List.cons_append, RR, RR, RR_append b st, List.length_cons]
    rw [show o + st + xs.length * st = o + (xs.length + 1) * st by rw [Nat.add_mul]; omega, and_assoc, and_assoc]
theorem RR_drop {b st : Nat} {xs : List (List AV)} {o : Nat} (n : Nat) (hn : n ≤ xs.length) (h : RR w F E b st xs o) : RR w F E b st (xs.drop n) (o + n * st) := by
  rw [← List.take_append_drop n xs, RR_append] at h
  simpa [Nat.min_eq_left hn] using h.2
theorem RR_take {b st : Nat} {xs : List (List AV)} {o : Nat} (n : Nat) (h : RR w F E b st xs o) : RR w F E b st (xs.take n) o := by
  rw [← List.take_append_drop n xs, RR_append] at h; exact h.1
theorem flatten_length {α : Type} {st : Nat} : ∀ {rs : List (List α)}, (∀ r ∈ rs, r.length = st) → rs.flatten.length = rs.length * st
  | [], _ => by simp
  | r :: rs, h => by
    rw [List.flatten_cons, List.length_append, flatten_length (fun x hx => h x (by simp [hx])), h r (by simp), List.length_cons, Nat.add_mul]; omega
/-- One row of several, by itself and with what may turn in it. -/
theorem RR_set {b st : Nat} : ∀ {rs : List (List AV)} {o i : Nat} {r : List AV}, RR w F E b st rs o → r.length = st → RC w' F' E' b r (o + i * st) →
    (∀ (j : Nat) (x : List AV), j ≠ i → rs[j]? = some x → RC w' F' E' b x (o + j * st)) → RR w' F' E' b st (rs.set i r) o
  | [], o, i, r, h, hl, hr, ho => by simp [RR]
  | x :: xs, o, 0, r, h, hl, hr, ho => by
    rw [RR] at h
    rw [List.set_cons_zero, RR]
    refine ⟨hl, by simpa using hr, ?_⟩
    have := RR_set (rs := xs) (o := o + st) (i := xs.length) (r := r) h.2.2 hl
    clear this
    rw [RR_flat]
    have hx := (RR_flat b st).1 h.2.2
    refine ⟨hx.1, ?_⟩
    clear hx
    have key : ∀ (ys : List (List AV)) (p : Nat), (∀ r ∈ ys, r.length = st) → (∀ (j : Nat) (x : List AV), ys[j]? = some x → RC w' F' E' b x (p + j * st)) → RC w' F' E' b ys.flatten p := by
      intro ys
      induction ys with
      | nil => intro p _ _; simp [RC]
      | cons y ys ih =>
        intro p hy hz
        rw [List.flatten_cons, RC_append, hy y (by simp)]
        refine ⟨by simpa using hz 0 y (by simp), ih _ (fun r hr => hy r (by simp [hr])) fun j x hj => ?_⟩
        have := hz (j + 1) x (by simpa using hj)
        rwa [show p + (j + 1) * st = p + st + j * st by rw [Nat.add_mul]; omega] at this
    refine key xs _ ((RR_flat b st).1 h.2.2).1 fun j x hj => ?_
    have := ho (j + 1) x (by omega) (by simpa using hj)
    rwa [show o + (j + 1) * st = o + st + j * st by rw [Nat.add_mul]; omega] at this
  | x :: xs, o, i + 1, r, h, hl, hr, ho => by
    rw [RR] at h
    rw [List.set_cons_succ, RR]
    refine ⟨h.1, by simpa using ho 0 x (by omega) (by simp), RR_set (o := o + st) (i := i) h.2.2 hl ?_ fun j y hj hy => ?_⟩
    · rwa [show o + st + i * st = o + (i + 1) * st by rw [Nat.add_mul]; omega]
    · have := ho (j + 1) y (by omega) (by simpa using hy)
      rwa [show o + (j + 1) * st = o + st + j * st by rw [Nat.add_mul]; omega] at this
end
end Go.Proofs.Ytedhhjmjlpnlpaa.VW
