/- The walk over values: a call whose body runs on the caller's own memory (a closure that writes what it captured). -/
import Derived.Test.YtedhhjmjlpnlpaaVG
namespace Go.Proofs.Ytedhhjmjlpnlpaa.VW
open Go Go.RowKit
set_option linter.unusedVariables false
set_option linter.unusedSimpArgs false

def opdIn (M : Nat) : Operand → Bool
  | .tmp t => decide (t < M)
  | _ => true
def opIn (M : Nat) (o : Oper) : Bool := o.guard.isNone && okDst M o.dst && o.op.operands.toList.all (opdIn M) && (match o.op with
  | .select _ _ => false
  | _ => true)
structure Emb (M : Nat) (rest : Array Value) (b a : Act) : Prop where
  size : b.tmps.size = M
  defs : b.defers = []
  tmps : a.tmps = b.tmps ++ rest
def regsK (S : Sg) (fr N : Nat) : List (Array Oper) → (St → Prop) → St → Prop
  | [], K, σ => K σ
  | ops :: r, K, σ => stepsK S fr N ops ops.toList (regsK S fr N r K) σ
def inlK (S : Sg) (fr N M : Nat) (regs : List (Array Oper)) (xs : List AV) (d : Option Nat) (K : St → Prop) (σ : St) : Prop :=
  regsK S fr (M + N) regs (fun τ => K (St.put ⟨fun t => τ.T (M + t), τ.H, τ.γ⟩ d (.tup []))) ⟨fun t => if t < M then xs.getD t .dead else σ.T (t - M), σ.H, σ.γ⟩
def stepsI (S : Sg) (fr fr' N : Nat) (ops : Array Oper) (fid M : Nat) (regs : List (Array Oper)) : List Oper → (St → Prop) → St → Prop
  | [], _, _ => False
  | [o], K, σ => o.guard = none ∧ okDst N o.dst = true ∧ match o.op with
    | .call ⟨.value f, xs, _⟩ => match strip true (σ.ev f) with
      | ⟨p, .fn f' caps⟩ => p ∧ f' = fid ∧ (args true σ xs.toList).p ∧ ((args true σ xs.toList).l ++ caps).length ≤ M ∧ inlK S fr' N M regs ((args true σ xs.toList).l ++ caps) o.dst K σ
      | _ => False
    | _ => False
  | o :: r, K, σ => stepK S fr N ops o (stepsI S fr fr' N ops fid M regs r K) σ
def codeOf : List (Array Oper) → Nat → Code
  | [], _ => .skip
  | [r], i => .region i r false
  | r :: q, i => .seq (.region i r false) (codeOf q (i + 1))
section
variable {P : Program} {S : Sg} {w0 w w' : World} {F0 F F' : Nat → Prop} {E E' : Key → Inf} {N M fr : Nat} {σ σ' : St} {a b : Act} {ops : Array Oper} {g : Bool} {k : Key} {rest : Array Value}

theorem Emb.get (h : Emb M rest b a) {t : Nat} (ht : t < M) : a.tmps.getD t undef = b.tmps.getD t undef := by
  rw [h.tmps]
  have : t < b.tmps.size := by rw [h.size]; exact ht
  simp [Array.getD, Array.getElem_append, this]
  intro hc; omega
theorem Emb.out (h : Emb M rest b a) (t : Nat) : a.tmps.getD (M + t) undef = rest.getD t undef := by
  rw [h.tmps]
  simp only [Array.getD_eq_getD_getElem?]
  rw [Array.getElem?_append_right (by rw [h.size]; omega), h.size, Nat.add_sub_cancel_left]
theorem Emb.eval (h : Emb M rest b a) {x : Operand} (hx : opdIn M x = true) : b.eval x = a.eval x := by
  cases x with
  | tmp t => exact (h.get (by simpa [opdIn] using hx)).symm
  | const v => rfl
  | global g => rfl
  | func f => rfl
theorem Emb.put (h : Emb M rest b a) {d : Option Nat} (hd : okDst M d = true) (v : Value) : Emb M rest (b.put d v) (a.put d v) := by
  cases d with
  | none => exact h
  | some d =>
    have hd' : d < M := by simpa [okDst] using hd
    refine ⟨by simp [Act.put, h.size], h.defs, ?_⟩
    simp only [Act.put]
    rw [h.tmps]
    apply Array.ext'
    simp only [Array.toList_setIfInBounds, Array.toList_append]
    rw [List.set_append_left _ _ (by simp [h.size]; exact hd')]
theorem put_inj {d : Option Nat} (hd : okDst a.tmps.size d = true) {v v' : Value} (e : a.put d v = a.put d v') : d = none ∨ v = v' := by
  cases d with
  | none => exact .inl rfl
  | some d =>
    right
    have hd' : d < a.tmps.size := by simpa [okDst] using hd
    have e2 : (a.put (some d) v).tmps = (a.put (some d) v').tmps := by rw [e]
    simp only [Act.put] at e2
    have e3 : (a.tmps.setIfInBounds d v)[d]? = (a.tmps.setIfInBounds d v')[d]? := by rw [e2]
    simpa [hd'] using e3
theorem upon_emb {o : Oper} {next next' : Act → World → Prop} {Q : Exit → Act → World → Prop} (hd : okDst a.tmps.size o.dst = true) {r : Result Next}
    (h : o.upon P a (fun a1 w1 => ∃ v, a1 = a.put o.dst v ∧ next' (a.put o.dst v) w1) (fun _ _ _ => False) r) (hn : ∀ v w1, next' (a.put o.dst v) w1 → next (b.put o.dst v) w1) : o.upon P b next Q r := by
  have key : ∀ v w1, (∃ v', a.put o.dst v = a.put o.dst v' ∧ next' (a.put o.dst v') w1) → next (b.put o.dst v) w1 := by
    rintro v w1 ⟨v', e, h'⟩
    rcases put_inj hd e with e' | rfl
    · have := hn v' w1 h'
      rw [e'] at this ⊢; exact this
    · exact hn v w1 h'
  unfold Oper.upon at h ⊢
  split at h
  · exact key _ _ h
  · exact key _ _ h
  · rename_i d w1
    obtain ⟨v, e, _⟩ := h
    exfalso
    have e2 : (({ a with defers := d :: a.defers } : Act).put o.dst undef).defers = (a.put o.dst v).defers := by rw [e]
    cases hdd : o.dst with
    | none => simp [hdd, Act.put] at e2
    | some q => simp [hdd, Act.put] at e2
  · refine Calls.mono h ?_
    intro e w1 he
    cases e with
    | returned v => exact key _ _ he
    | panicked c => exact he.elim
    | outgrown => obtain ⟨_, _, hf⟩ := he; exact hf.elim
  · exact Rows.mono h fun v w1 hv => key _ _ hv
  · exact h.elim
  · exact h.elim
theorem Rl.defs' (h : Rl w0 F0 N σ a w F E) : a.defers = [] := h.defs
theorem stepsE_ok (hS : OK P S) {ops : Array Oper} {K : St → Prop} {Q : Exit → Act → World → Prop} (hM : M ≤ N) (hn : ∀ σ' a' b' w' F' E', K σ' → Rl w0 F0 N σ' a' w' F' E' → Emb M rest b' a' → Q .normal b' w') :
    ∀ (l : List Oper) (pre : List Oper), ops.toList = pre ++ l → l.all (opIn M) = true → ∀ (σ : St) (a b : Act) (w : World) (F : Nat → Prop) (E : Key → Inf), Rl w0 F0 N σ a w F E → Emb M rest b a → stepsK S fr N ops l K σ → wpOps P ops Q (List.range' pre.length l.length) b w
  | [], pre, _, _, σ, a, b, w, F, E, h, hb, hk => by
    simp only [List.length_nil, List.range'_zero, wpOps]
    exact hn _ _ _ _ _ _ hk h hb
  | o :: l, pre, he, hin, σ, a, b, w, F, E, h, hb, hk => by
    rw [List.length_cons, List.range'_succ]
    rw [List.all_cons, Bool.and_eq_true] at hin
    obtain ⟨hin1, hin2⟩ := hin
    unfold opIn at hin1
    simp only [Bool.and_eq_true] at hin1
    obtain ⟨⟨⟨i1, i2⟩, i3⟩, i4⟩ := hin1
    have hgd : o.guard = none := by simpa using i1
    have hget : ops[pre.length]? = some o := by rw [← Array.getElem?_toList, he]; simp
    have hw : Region.wanted o (yielded ops b.tmps) = true := by unfold Region.wanted; rw [hgd]
    simp only [wpOps, hget, hw, if_true]
    left
    rw [stepsK, stepK] at hk
    rw [hgd] at hk
    obtain ⟨k1, k2, k3⟩ := hk
    have hsel : ∀ cs d, o.op ≠ .select cs d := by intro cs d e; rw [e] at i4; simp at i4
    unfold Oper.wp
    rw [execOp_congr (ρ' := a.eval) o hsel fun x hx => hb.eval (by rw [List.all_eq_true] at i3; exact i3 x (by simpa using hx))]
    have hdN : okDst a.tmps.size o.dst = true := by
      rw [h.size]
      cases hd : o.dst with
      | none => rfl
      | some d => rw [hd] at i2; simp [okDst] at i2 ⊢; omega
    refine upon_emb (a := a) (next' := fun a1 w1 => ∃ σ' F' E', stepsK S fr N ops l K σ' ∧ Rl w0 F0 N σ' a1 w1 F' E') hdN ?_ ?_
    · have := op_ok (g := true) (Q := fun _ _ _ => False) (next := fun a1 w1 => ∃ v, a1 = a.put o.dst v ∧ ∃ σ' F' E', stepsK S fr N ops l K σ' ∧ Rl w0 F0 N σ' (a.put o.dst v) w1 F' E') hS h rfl k2 fun v w' F' E' h1 h2 => ⟨v, rfl, _, F', E', k3, h1.put k1 h2⟩
      exact this
    · rintro v w1 ⟨σ', F', E', k4, h4⟩
      have := stepsE_ok hS hM hn l (pre ++ [o]) (by rw [he]; simp) hin2 σ' _ _ w1 F' E' h4 (hb.put i2 v) k4
      simpa using this
theorem regionE_ok (hS : OK P S) (hM : M ≤ N) {id : Nat} {K : St → Prop} {Q : Exit → Act → World → Prop} (hin : ops.toList.all (opIn M) = true) (h : Rl w0 F0 N σ a w F E) (hb : Emb M rest b a) (hk : stepsK S fr N ops ops.toList K σ)
    (hn : ∀ σ' a' b' w' F' E', K σ' → Rl w0 F0 N σ' a' w' F' E' → Emb M rest b' a' → Q .normal b' w') : (Code.region id ops false).wp P Q b w := by
  refine wp_region ?_
  have := stepsE_ok (P := P) (fr := fr) hS hM hn ops.toList [] (by simp) hin σ a b w F E h hb hk
  rw [List.range_eq_range']
  simpa using this
theorem regsE_ok (hS : OK P S) (hM : M ≤ N) {K : St → Prop} {Q : Exit → Act → World → Prop} (hn : ∀ σ' a' b' w' F' E', K σ' → Rl w0 F0 N σ' a' w' F' E' → Emb M rest b' a' → Q .normal b' w') :
    ∀ (regs : List (Array Oper)) (i : Nat) (σ : St) (a b : Act) (w : World) (F : Nat → Prop) (E : Key → Inf), regs.all (fun r => r.toList.all (opIn M)) = true → Rl w0 F0 N σ a w F E → Emb M rest b a → regsK S fr N regs K σ → (codeOf regs i).wp P Q b w
  | [], i, σ, a, b, w, F, E, hin, h, hb, hk => wp_skip (hn _ _ _ _ _ _ hk h hb)
  | [r], i, σ, a, b, w, F, E, hin, h, hb, hk => by
    rw [List.all_cons, Bool.and_eq_true] at hin
    exact regionE_ok hS hM hin.1 h hb hk hn
  | r :: r2 :: q, i, σ, a, b, w, F, E, hin, h, hb, hk => by
    rw [List.all_cons, Bool.and_eq_true] at hin
    refine wp_seq (regionE_ok hS hM hin.1 h hb hk ?_)
    intro σ' a' b' w' F' E' hk' h' hb'
    exact regsE_ok hS hM hn (r2 :: q) (i + 1) σ' a' b' w' F' E' hin.2 h' hb' hk'

/-- The caller's frame behind the callee's. -/
theorem Rl.emb (h : Rl w0 F0 N σ a w F E) {b : Act} (hb : b.tmps.size = M) {xs : List AV} (hx : ∀ t, t < M → R w F E (xs.getD t .dead) (b.tmps.getD t undef)) :
    Rl w0 F0 (M + N) ⟨fun t => if t < M then xs.getD t .dead else σ.T (t - M), σ.H, σ.γ⟩ { tmps := b.tmps ++ a.tmps, defers := [] } w F E := by
  have he : Emb M a.tmps { b with defers := [] } { tmps := b.tmps ++ a.tmps, defers := [] } := ⟨hb, rfl, rfl⟩
  refine { h with defs := rfl, size := by simp [hb, h.size], tmp := fun t => ?_ }
  show R w F E (if t < M then xs.getD t .dead else σ.T (t - M)) _
  by_cases ht : t < M
  · rw [if_pos ht, he.get ht]; exact hx t ht
  · rw [if_neg ht]
    obtain ⟨j, rfl⟩ : ∃ j, t = M + j := ⟨t - M, by omega⟩
    rw [Nat.add_sub_cancel_left, he.out]; exact h.tmp j
theorem Rl.unemb {N' : Nat} {τ : St} {a' : Act} (h : Rl w0 F0 N' τ a' w' F' E') {b' : Act} {a : Act} (hb : Emb M a.tmps b' a') (ha : a.defers = []) (hs : a.tmps.size = N) :
    Rl w0 F0 N ⟨fun t => τ.T (M + t), τ.H, τ.γ⟩ a w' F' E' := by
  refine { h with defs := ha, size := hs, tmp := fun t => ?_ }
  have := h.tmp (M + t)
  rwa [hb.out] at this
theorem stepsI_ok (hS : OK P S) {fid : Nat} {fn : Func} {regs : List (Array Oper)} (hf : P.funcs[fid]? = some fn) (hbody : fn.body = some (codeOf regs 0)) (hM : fn.ntmps = M) (hres : fn.results = #[]) (hent : Ent P fid) (hin : regs.all (fun r => r.toList.all (opIn M)) = true)
    {ops : Array Oper} {K : St → Prop} {Q : Exit → Act → World → Prop} (hn : ∀ σ' a' w' F' E', K σ' → Rl w0 F0 N σ' a' w' F' E' → Q .normal a' w') {fr' : Nat} :
    ∀ (l : List Oper) (pre : List Oper), ops.toList = pre ++ l → ∀ (σ : St) (a : Act) (w : World) (F : Nat → Prop) (E : Key → Inf), Rl w0 F0 N σ a w F E → stepsI S fr fr' N ops fid M regs l K σ → wpOps P ops Q (List.range' pre.length l.length) a w
  | [], pre, _, σ, a, w, F, E, h, hk => hk.elim
  | [o], pre, he, σ, a, w, F, E, h, hk => by
    rw [List.length_cons, List.range'_succ]
    have hget : ops[pre.length]? = some o := by rw [← Array.getElem?_toList, he]; simp
    obtain ⟨hgd, hd, hk⟩ := hk
    have hw : Region.wanted o (yielded ops a.tmps) = true := by unfold Region.wanted; rw [hgd]
    simp only [wpOps, hget, hw, if_true, List.length_nil, List.range'_zero]
    left
    split at hk
    · rename_i f xs ts hop
      split at hk
      · rename_i p f' caps ef
        obtain ⟨p1, rfl, p2, p3, hk⟩ := hk
        have hfv := h.sv (g := true) rfl (x := f) (by rw [ef]; exact p1)
        rw [ef, R] at hfv
        obtain ⟨us, hfv, hcaps⟩ := hfv
        have hargs := RA_append (h.svA (g := true) rfl p2) hcaps
        unfold Oper.wp execOp
        simp only [hop]
        have hrun : (do let dd ← resolve a.eval ⟨.value f, xs, ts⟩ o.type; invoke dd.target dd.args).run P w = .ok (.enter f' (xs.toList.map a.eval ++ us).toArray) w := by
          simp only [resolve, hfv, Deferred.ofValue, Sem.run_bind, Sem.run_pure, Result.andThen_ok, invoke]
          have := hent (xs.toList.map a.eval ++ us).toArray w
          rw [← this]
          congr 2
          simp
        rw [hrun, Oper.upon_enter]
        have hl := RA_length hargs
        clear hrun p2 hcaps
        generalize (args true σ xs.toList).l ++ caps = L at *
        generalize xs.toList.map a.eval ++ us = VS at *
        refine Calls.mono (R := fun e w' => ∃ v, e = .returned v ∧ Q .normal (a.put o.dst v) w') (calls_of_wp hf hbody ?_) ?_
        · refine regsE_ok (N := M + N) (rest := a.tmps) hS (by omega) ?_ regs 0 _ _ _ w F E hin (h.emb (b := { tmps := VS.toArray ++ Array.replicate (fn.ntmps - VS.toArray.size) undef, defers := [] }) (M := M) ?_ (xs := L) ?_) ⟨?_, rfl, rfl⟩ hk
          · intro σ' a' b' w' F' E' hk' h' hb'
            refine ⟨hb'.defs, .tuple #[], ?_, _, rfl, ?_⟩
            · unfold results
              rw [hres]
              simp
            · exact hn _ _ _ _ _ hk' ((h'.unemb hb' h.defs h.size).put hd (by rw [R]; exact ⟨[], rfl, RA_nil⟩))
          · simp [hM]; omega
          · intro t ht
            by_cases h1 : t < L.length
            · obtain ⟨v, g1, g2⟩ := RA_get hargs (j := t) (x := L[t]) (by simp [h1])
              have e1 : L.getD t .dead = L[t] := by simp [List.getD, h1]
              rw [e1]
              have e2 : (VS.toArray ++ Array.replicate (fn.ntmps - VS.toArray.size) undef).getD t undef = v := by
                have ht' : t < VS.length := by omega
                rw [List.getElem?_eq_getElem ht', Option.some.injEq] at g1
                rw [← g1]
                simp only [Array.getD_eq_getD_getElem?]
                rw [Array.getElem?_append_left (by simpa using ht')]
                simp [ht']
              simp only
              rw [e2]; exact g2
            · have e1 : L.getD t .dead = .dead := by simp [List.getD, List.getElem?_eq_none (Nat.le_of_not_lt h1)]
              rw [e1, R]; trivial
          · simp [hM]; omega
        · rintro e w' ⟨v, rfl, hq⟩
          exact hq
      · exact hk.elim
    · exact hk.elim
  | o :: o2 :: l, pre, he, σ, a, w, F, E, h, hk => by
    rw [List.length_cons, List.range'_succ]
    have hget : ops[pre.length]? = some o := by rw [← Array.getElem?_toList, he]; simp
    simp only [wpOps, hget]
    refine stepK_ok hS h hk fun σ' a' w' F' E' hk' h' => ?_
    have := stepsI_ok hS hf hbody hM hres hent hin hn (o2 :: l) (pre ++ [o]) (by rw [he]; simp) σ' a' w' F' E' h' hk'
    simpa using this
/-- A region whose last operation is such a call. -/
theorem regionI_ok (hS : OK P S) {fid : Nat} {fn : Func} {regs : List (Array Oper)} (hf : P.funcs[fid]? = some fn) (hbody : fn.body = some (codeOf regs 0)) (hM : fn.ntmps = M) (hres : fn.results = #[]) (hent : Ent P fid) (hin : regs.all (fun r => r.toList.all (opIn M)) = true)
    {id : Nat} {K : St → Prop} {Q : Exit → Act → World → Prop} {fr' : Nat} (h : Rl w0 F0 N σ a w F E) (hk : stepsI S fr fr' N ops fid M regs ops.toList K σ) (hn : ∀ σ' a' w' F' E', K σ' → Rl w0 F0 N σ' a' w' F' E' → Q .normal a' w') : (Code.region id ops false).wp P Q a w := by
  refine wp_region ?_
  have := stepsI_ok (P := P) (fr := fr) (ops := ops) hS hf hbody hM hres hent hin hn ops.toList [] (by simp) σ a w F E h hk
  rw [List.range_eq_range']
  simpa using this
end
end Go.Proofs.Ytedhhjmjlpnlpaa.VW
