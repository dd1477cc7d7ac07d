/- The walk over values: a function's contract out of its body. -/
import Derived.Test.YtedhhjmjlpnlpaaVF
namespace Go.Proofs.Ytedhhjmjlpnlpaa.VW
open Go Go.RowKit
set_option linter.unusedVariables false
set_option linter.unusedSimpArgs false

def kidx : List Key → Key → Option Nat
  | [], _ => none
  | q :: r, k => if q = k then some 0 else (kidx r k).map (· + 1)
def ex1 (ks : List Key) (σ : St) : AV → AV
  | .own k g => match kidx ks k with
    | some i => if g = σ.γ k then .own (i, 0) 0 else .dead
    | none => viewB g (σ.γ k) (σ.H k)
  | x => x
def ex2 (ks : List Key) (σ : St) : AV → AV
  | .own k g => match kidx ks k with
    | some i => if g = σ.γ k then .own (i, 0) 0 else .dead
    | none => viewB g (σ.γ k) (σ.H k)
  | .agg cs => .agg (cs.map (ex1 ks σ))
  | x => x
def ex3 (ks : List Key) (σ : St) : AV → AV
  | .tup cs => .tup (cs.map (ex2 ks σ))
  | x => ex2 ks σ x
def fz1 (ks : List Key) (σ : St) : AV → List Wr
  | .own k g => match kidx ks k with
    | some _ => []
    | none => frzB k g (σ.γ k) (σ.H k)
  | _ => []
def fz2 (ks : List Key) (σ : St) : AV → List Wr
  | .agg cs => (cs.map (fz1 ks σ)).flatten
  | x => fz1 ks σ x
def fz3 (ks : List Key) (σ : St) : AV → List Wr
  | .tup cs => (cs.map (fz2 ks σ)).flatten
  | x => fz2 ks σ x
def expB : List Key → List Blk → St → Prop
  | [], [], _ => True
  | k :: ks, B :: bs, σ => σ.H k = some B ∧ expB ks bs σ
  | _, _, _ => False
def isEnd : Ex → Bool
  | .nrm => true
  | .ret => true
  | _ => false
def nz3 (nz : Bool) (x : AV) : AV := match nz with
  | true => wk3 x
  | false => x
def finK (nz : Bool) (S : Sg) (rs : List ResultVar) (ks : List Key) (bs : List Blk) (r : AV) : Ex → St → Prop := fun e σ =>
  isEnd e = true ∧ (resL S σ rs).p ∧ exOK bs.length (ex3 ks σ (resV (resL S σ rs).l)) = true ∧ nz3 nz (ex3 ks σ (resV (resL S σ rs).l)) = r ∧ expB ks bs σ
def init (xs : List AV) : St := ⟨fun t => xs.getD t .dead, fun _ => none, fun _ => 0⟩

section
variable {P : Program} {S : Sg} {w0 w w' : World} {F0 F F' : Nat → Prop} {E E' : Key → Inf} {N fr : Nat} {σ σ' τ : St} {a : Act} {ops : Array Oper} {g : Bool} {k : Key} {ks : List Key} {bs : List Blk}

theorem kidx_some : ∀ {ks : List Key} {k : Key} {i : Nat}, kidx ks k = some i → ks[i]? = some k
  | [], k, i, h => by simp [kidx] at h
  | q :: r, k, i, h => by
    unfold kidx at h
    split at h
    · rename_i e; cases h; simp [e]
    · obtain ⟨j, hj, rfl⟩ := Option.map_eq_some_iff.1 h
      simpa using kidx_some hj
theorem kidx_none : ∀ {ks : List Key} {k : Key}, kidx ks k = none → k ∉ ks
  | [], k, h => by simp
  | q :: r, k, h => by
    unfold kidx at h
    split at h
    · cases h
    · rename_i e
      have : kidx r k = none := by simpa using h
      simp [Ne.symm e, kidx_none this]
theorem expB_get : ∀ {ks : List Key} {bs : List Blk} {i : Nat} {B : Blk}, expB ks bs σ → bs[i]? = some B → ∃ k, ks[i]? = some k ∧ σ.H k = some B
  | [], [], i, B, _, h => by simp at h
  | [], _ :: _, i, B, h, _ => h.elim
  | _ :: _, [], i, B, h, _ => h.elim
  | k :: ks, B' :: bs, 0, B, h, e => by simp at e; subst e; exact ⟨k, by simp, h.1⟩
  | k :: ks, B' :: bs, i + 1, B, h, e => by simpa using expB_get h.2 (by simpa using e)
theorem expB_len : ∀ {ks : List Key} {bs : List Blk}, expB ks bs σ → ks.length = bs.length
  | [], [], _ => rfl
  | [], _ :: _, h => h.elim
  | _ :: _, [], h => h.elim
  | k :: ks, B' :: bs, h => by simp [expB_len h.2]

theorem fz1_ok (v : AV) : ∀ x ∈ fz1 ks σ v, frzW σ x ∧ x.1 ∉ ks := by
  intro x hx
  cases v with
  | own k gg =>
    simp only [fz1] at hx
    split at hx
    · cases hx
    · rename_i e
      refine ⟨frzB_ok (σ := σ) (k := k) (gg := gg) x hx, ?_⟩
      have : x.1 = k := by
        unfold frzB at hx
        split at hx
        · rw [List.mem_singleton] at hx; subst hx; rfl
        · cases hx
      rw [this]; exact kidx_none e
  | _ => exact absurd hx List.not_mem_nil
theorem fz2_ok (v : AV) : ∀ x ∈ fz2 ks σ v, frzW σ x ∧ x.1 ∉ ks := by
  intro x hx
  by_cases ha : ∃ cs, v = .agg cs
  · obtain ⟨cs, rfl⟩ := ha
    obtain ⟨l, hl, hx⟩ := List.mem_flatten.1 hx
    obtain ⟨c, _, rfl⟩ := List.mem_map.1 hl
    exact fz1_ok c x hx
  · have e : fz2 ks σ v = fz1 ks σ v := by cases v <;> first | rfl | exact absurd ⟨_, rfl⟩ ha
    rw [e] at hx; exact fz1_ok v x hx
theorem fz3_ok (v : AV) : ∀ x ∈ fz3 ks σ v, frzW σ x ∧ x.1 ∉ ks := by
  intro x hx
  by_cases ha : ∃ cs, v = .tup cs
  · obtain ⟨cs, rfl⟩ := ha
    obtain ⟨l, hl, hx⟩ := List.mem_flatten.1 hx
    obtain ⟨c, _, rfl⟩ := List.mem_map.1 hl
    exact fz2_ok c x hx
  · have e : fz3 ks σ v = fz2 ks σ v := by cases v <;> first | rfl | exact absurd ⟨_, rfl⟩ ha
    rw [e] at hx; exact fz2_ok v x hx

def exEnv (ks : List Key) (E : Key → Inf) : Key → Inf := fun q => match ks[q.1]? with
  | some k => { E k with gen := 0 }
  | none => ⟨0, 0, 0, 0, 0, false⟩
/-- the value as the caller has it. -/
theorem ex1_ok {l : List Wr} (h : Rl w0 F0 N (σ.wr l) a w F E) (hγ : (σ.wr l).γ = σ.γ) (h1 : ∀ x ∈ l, (σ.wr l).H x.1 = x.2.2) (h2 : ∀ k rs, σ.H k = some (.frz rs) → (σ.wr l).H k = some (.frz rs)) {n : Nat} {x : AV} (hx : ∀ y ∈ fz1 ks σ x, y ∈ l) (hi : exOK1 n (ex1 ks σ x) = true) {v : Value} (hv : R w F E x v) :
    R w F (exEnv ks E) (ex1 ks σ x) v := by
  by_cases ho : ∃ k gg, x = .own k gg
  · obtain ⟨k, gg, rfl⟩ := ho
    simp only [ex1] at hi ⊢
    cases hk : kidx ks k with
    | some i =>
      simp only [hk] at hi ⊢
      split
      · rename_i hg
        rw [R] at hv ⊢
        have hki := kidx_some hk
        have he : exEnv ks E (i, 0) = { E k with gen := 0 } := by unfold exEnv; simp [hki]
        rw [he]
        exact ⟨Nat.le_refl _, fun _ => hv.2.1 (by rw [h.gen, hγ]; exact hg), hv.2.2⟩
      · rw [R]; trivial
    | none =>
      simp only [hk] at hi ⊢
      have hv' := view1_ok (x := .own k gg) h hγ h1 h2 (fun y hy => hx y (by simp only [fz1, hk]; exact hy)) hv
      simp only [view1] at hv'
      have hne : ∀ k' g', viewB gg (σ.γ k) (σ.H k) ≠ .own k' g' := by
        intro k' g' e; unfold viewB at e; (repeat' split at e) <;> cases e
      have : exOK1 n (viewB gg (σ.γ k) (σ.H k)) = imm (viewB gg (σ.γ k) (σ.H k)) := by
        cases hq : viewB gg (σ.γ k) (σ.H k) <;> first | rfl | exact absurd hq (hne _ _)
      rw [this] at hi
      exact R_env _ _ hi hv'
  · have e1 : ex1 ks σ x = x := by cases x <;> first | rfl | exact absurd ⟨_, _, rfl⟩ ho
    rw [e1] at hi ⊢
    have e2 : exOK1 n x = imm x := by cases x <;> first | rfl | exact absurd ⟨_, _, rfl⟩ ho
    rw [e2] at hi
    exact R_env _ _ hi hv
theorem ex1s_ok {l : List Wr} (h : Rl w0 F0 N (σ.wr l) a w F E) (hγ : (σ.wr l).γ = σ.γ) (h1 : ∀ x ∈ l, (σ.wr l).H x.1 = x.2.2) (h2 : ∀ k rs, σ.H k = some (.frz rs) → (σ.wr l).H k = some (.frz rs)) {n : Nat} :
    ∀ {xs : List AV} {vs : List Value}, (∀ x ∈ xs, ∀ y ∈ fz1 ks σ x, y ∈ l) → (xs.map (ex1 ks σ)).all (exOK1 n) = true → RA w F E xs vs → RA w F (exEnv ks E) (xs.map (ex1 ks σ)) vs
  | [], vs, _, _, hr => by rw [RA] at hr; subst hr; exact RA_nil
  | x :: xs, vs, hx, hi, hr => by
    rw [RA] at hr; obtain ⟨v, us, rfl, a1, a2⟩ := hr
    rw [List.map_cons, List.all_cons, Bool.and_eq_true] at hi
    exact RA_cons (ex1_ok h hγ h1 h2 (hx x (by simp)) hi.1 a1) (ex1s_ok h hγ h1 h2 (fun y hy => hx y (by simp [hy])) hi.2 a2)
theorem ex2_ok {l : List Wr} (h : Rl w0 F0 N (σ.wr l) a w F E) (hγ : (σ.wr l).γ = σ.γ) (h1 : ∀ x ∈ l, (σ.wr l).H x.1 = x.2.2) (h2 : ∀ k rs, σ.H k = some (.frz rs) → (σ.wr l).H k = some (.frz rs)) {n : Nat} {x : AV} (hx : ∀ y ∈ fz2 ks σ x, y ∈ l) (hi : exOK2 n (ex2 ks σ x) = true) {v : Value} (hv : R w F E x v) :
    R w F (exEnv ks E) (ex2 ks σ x) v := by
  by_cases ha : ∃ cs, x = .agg cs
  · obtain ⟨cs, rfl⟩ := ha
    rw [R] at hv
    obtain ⟨vs, rfl, hr⟩ := hv
    simp only [ex2] at hi ⊢
    rw [R]
    exact ⟨vs, rfl, ex1s_ok h hγ h1 h2 (fun c hc y hy => hx y (List.mem_flatten.2 ⟨_, List.mem_map.2 ⟨c, hc, rfl⟩, hy⟩)) hi hr⟩
  · have e1 : ex2 ks σ x = ex1 ks σ x := by cases x <;> first | rfl | exact absurd ⟨_, rfl⟩ ha
    have e2 : fz2 ks σ x = fz1 ks σ x := by cases x <;> first | rfl | exact absurd ⟨_, rfl⟩ ha
    have e3 : ∀ y : AV, (∀ cs, y ≠ .agg cs) → exOK2 n y = exOK1 n y := by intro y hy; cases y <;> first | rfl | exact absurd rfl (hy _)
    have e4 : ∀ cs, ex1 ks σ x ≠ .agg cs := by
      intro cs e
      cases x <;> first | (exact ha ⟨_, e⟩) | (simp only [ex1, viewB] at e; (repeat' split at e) <;> cases e) | cases e
    rw [e1] at hi ⊢; rw [e2] at hx; rw [e3 _ e4] at hi
    exact ex1_ok h hγ h1 h2 hx hi hv
theorem ex2s_ok {l : List Wr} (h : Rl w0 F0 N (σ.wr l) a w F E) (hγ : (σ.wr l).γ = σ.γ) (h1 : ∀ x ∈ l, (σ.wr l).H x.1 = x.2.2) (h2 : ∀ k rs, σ.H k = some (.frz rs) → (σ.wr l).H k = some (.frz rs)) {n : Nat} :
    ∀ {xs : List AV} {vs : List Value}, (∀ x ∈ xs, ∀ y ∈ fz2 ks σ x, y ∈ l) → (xs.map (ex2 ks σ)).all (exOK2 n) = true → RA w F E xs vs → RA w F (exEnv ks E) (xs.map (ex2 ks σ)) vs
  | [], vs, _, _, hr => by rw [RA] at hr; subst hr; exact RA_nil
  | x :: xs, vs, hx, hi, hr => by
    rw [RA] at hr; obtain ⟨v, us, rfl, a1, a2⟩ := hr
    rw [List.map_cons, List.all_cons, Bool.and_eq_true] at hi
    exact RA_cons (ex2_ok h hγ h1 h2 (hx x (by simp)) hi.1 a1) (ex2s_ok h hγ h1 h2 (fun y hy => hx y (by simp [hy])) hi.2 a2)
theorem ex3_ok {l : List Wr} (h : Rl w0 F0 N (σ.wr l) a w F E) (hγ : (σ.wr l).γ = σ.γ) (h1 : ∀ x ∈ l, (σ.wr l).H x.1 = x.2.2) (h2 : ∀ k rs, σ.H k = some (.frz rs) → (σ.wr l).H k = some (.frz rs)) {n : Nat} {x : AV} (hx : ∀ y ∈ fz3 ks σ x, y ∈ l) (hi : exOK n (ex3 ks σ x) = true) {v : Value} (hv : R w F E x v) :
    R w F (exEnv ks E) (ex3 ks σ x) v := by
  by_cases ha : ∃ cs, x = .tup cs
  · obtain ⟨cs, rfl⟩ := ha
    rw [R] at hv
    obtain ⟨vs, rfl, hr⟩ := hv
    simp only [ex3] at hi ⊢
    rw [R]
    exact ⟨vs, rfl, ex2s_ok h hγ h1 h2 (fun c hc y hy => hx y (List.mem_flatten.2 ⟨_, List.mem_map.2 ⟨c, hc, rfl⟩, hy⟩)) hi hr⟩
  · have e1 : ex3 ks σ x = ex2 ks σ x := by cases x <;> first | rfl | exact absurd ⟨_, rfl⟩ ha
    have e2 : fz3 ks σ x = fz2 ks σ x := by cases x <;> first | rfl | exact absurd ⟨_, rfl⟩ ha
    have e3 : ∀ y : AV, (∀ cs, y ≠ .tup cs) → exOK n y = exOK2 n y := by intro y hy; cases y <;> first | rfl | exact absurd rfl (hy _)
    have e4 : ∀ cs, ex2 ks σ x ≠ .tup cs := by
      intro cs e
      cases x <;> first | (exact ha ⟨_, e⟩) | (simp only [ex2, viewB] at e; (repeat' split at e) <;> cases e) | cases e
    rw [e1] at hi ⊢; rw [e2] at hx; rw [e3 _ e4] at hi
    exact ex2_ok h hγ h1 h2 hx hi hv

theorem ret_ok (h : Rl w0 F0 N σ a w F E) {r : AV} {v : Value} (hF0 : ∀ b, F0 b → b < w0.heap.size) (hv : R w F E r v) (hi : exOK bs.length (ex3 ks σ r) = true) (hb : bs.all blkImm = true) (hnd : ks.Nodup) (he : expB ks bs σ) : Ret w0 w F0 (ex3 ks σ r) bs v := by
  obtain ⟨F1, hF1, hR1, k3, k4, k5⟩ := frz_list (fz3 ks σ r) σ F (fun x hx => (fz3_ok r x hx).1) h
  have hv1 := R_mono hF1 (fun _ _ _ => rfl) (fun _ => .inl rfl) _ _ hv
  have hkeep : ∀ q ∈ ks, (σ.wr (fz3 ks σ r)).H q = σ.H q := by
    intro q hq
    refine (wr_out _ _ _ fun hm => ?_).1
    obtain ⟨x, hx, rfl⟩ := List.mem_map.1 hm
    exact (fz3_ok r x hx).2 hq
  have hrows : ∀ i B, bs[i]? = some B → ∃ q st rs, ks[i]? = some q ∧ B = .rows st rs ∧ immR rs = true ∧ exEnv ks E (i, 0) = { E q with gen := 0 } ∧ (σ.wr (fz3 ks σ r)).H q = some (.rows st rs) := by
    intro i B hB
    obtain ⟨q, hq1, hq2⟩ := expB_get he hB
    have hbi : blkImm B = true := by
      rw [List.all_eq_true] at hb; exact hb _ (List.mem_of_getElem? hB)
    cases B with
    | rows st rs => exact ⟨q, st, rs, hq1, rfl, hbi, by unfold exEnv; simp [hq1], by rw [hkeep q (List.mem_of_getElem? hq1)]; exact hq2⟩
    | var cs => exact absurd hbi (by simp [blkImm])
    | frz rs => exact absurd hbi (by simp [blkImm])
  refine ⟨F1, exEnv ks E, h.below, hR1.sub, hR1.bnd, hR1.new, ex3_ok hR1 k5 k3 k4 (fun _ h => h) hi hv1, ?_, ?_⟩
  · intro i B hB
    obtain ⟨q, st, rs, hq1, rfl, hq3, hq4, hq5⟩ := hrows i B hB
    obtain ⟨c1, c2, c3, c4⟩ := hR1.blk q _ hq5
    rw [RB, hq4]
    refine ⟨⟨c1, c2, c3, ?_⟩, rfl⟩
    rcases c4 with c4 | ⟨c4, c5, c6, c7, c8⟩
    · exact .inl c4
    · exact .inr ⟨c4, c5, c6, c7, RR_env _ _ _ _ hq3 c8⟩
  · intro i j B B' hB hB' ha1 ha2 eb
    obtain ⟨q, st, rs, hq1, rfl, hq3, hq4, hq5⟩ := hrows i B hB
    obtain ⟨q', st', rs', hq1', rfl, hq3', hq4', hq5'⟩ := hrows j B' hB'
    rw [hq4] at ha1 eb; rw [hq4'] at ha2 eb
    have e := hR1.inj q q' (by rw [hq5]; exact ha1) (by rw [hq5']; exact ha2) eb
    subst e
    have hi1 := List.getElem?_eq_some_iff.1 hq1
    have hj1 := List.getElem?_eq_some_iff.1 hq1'
    exact (List.getElem_inj hnd).1 (hi1.2.trans hj1.2.symm)

theorem fs_of_awpK (hm : P.follows .mixedOrders = true) (hS : OK P S) {f : Nat} {fn : Func} {c : Code} (hf : P.funcs[f]? = some fn) (hb : fn.body = some c) (hent : Ent P f) {xs : List AV} {r : AV} {bs : List Blk} (ks : List Key)
    (hlen : xs.length ≤ fn.ntmps) (hex : exOK bs.length r = true) (hbs : bs.all blkImm = true) (hnd : ks.Nodup) (nz : Bool) (K : Ex → St → Prop)
    (hK : ∀ (e : Ex) (σ : St) (w0 : World) (F0 : Nat → Prop) (a : Act) (w : World) (F : Nat → Prop) (E : Key → Inf), K e σ → Rl w0 F0 fn.ntmps σ a w F E → ∃ σ' E', Rl w0 F0 fn.ntmps σ' a w F E' ∧ finK nz S fn.results.toList ks bs r e σ')
    (h : awp S 0 fn.ntmps c K (init xs)) : FS P f xs r bs := by
  refine ⟨hent, hex, hbs, fun w F vs hF hra => ?_⟩
  have hl := RA_length hra
  refine calls_of_wp hf hb ?_
  have hinit : Rl w F fn.ntmps (init xs) { tmps := vs.toArray ++ Array.replicate (fn.ntmps - vs.toArray.size) undef, defers := [] } w F E0 := by
    refine ⟨rfl, by simp; omega, ?_, fun _ => rfl, (fun k B hk => by cases hk), (fun k k' ho => absurd ho id), hF, fun _ h => h, fun _ h _ => h, Below.refl _ _⟩
    intro t
    by_cases ht : t < xs.length
    · obtain ⟨v, h1, h2⟩ := RA_get hra (j := t) (x := xs[t]) (by simp [ht])
      have e1 : (init xs).T t = xs[t] := by simp [init, ht]
      have e2 : (vs.toArray ++ Array.replicate (fn.ntmps - vs.toArray.size) undef).getD t undef = v := by
        have ht' : t < vs.length := by omega
        rw [List.getElem?_eq_getElem ht', Option.some.injEq] at h1
        rw [← h1]
        simp [Array.getD, Array.getElem_append, ht']
        omega
      show R w F E0 ((init xs).T t) _
      rw [e1]
      simp only
      rw [e2]; exact h2
    · have e1 : (init xs).T t = .dead := by simp [init, List.getD, List.getElem?_eq_none (Nat.le_of_not_lt ht)]
      rw [e1, R]; trivial
  refine awp_ok hm hS c _ _ _ _ _ _ _ h hinit fun e σ' a' w' F' E' hk h' => ?_
  obtain ⟨σ', E', h', hk⟩ := hK _ _ _ _ _ _ _ _ hk h'
  obtain ⟨k1, k2, k0, k3, k4⟩ := hk
  obtain ⟨v, hv1, hv2⟩ := results_ok hS h' k2
  have hret := ret_ok h' hF hv2 k0 hbs hnd k4
  replace hret : Ret w w' F r bs v := by
    rw [← k3]
    cases nz with
    | false => exact hret
    | true =>
      obtain ⟨F', E', c1, c2, c3, c4, c5, c6⟩ := hret.out
      exact ⟨F', E', c1, c2, c3, c4, R_wk3 c5, c6⟩
  cases e with
  | nrm => exact ⟨h'.defs, v, hv1, v, rfl, hret⟩
  | ret => exact ⟨h'.defs, v, hv1, v, rfl, hret⟩
  | ext i => exact absurd k1 (by simp [isEnd])
theorem fs_of_awp (hm : P.follows .mixedOrders = true) (hS : OK P S) {f : Nat} {fn : Func} {c : Code} (hf : P.funcs[f]? = some fn) (hb : fn.body = some c) (hent : Ent P f) {xs : List AV} {r : AV} {bs : List Blk} (ks : List Key)
    (hlen : xs.length ≤ fn.ntmps) (hex : exOK bs.length r = true) (hbs : bs.all blkImm = true) (hnd : ks.Nodup) (nz : Bool)
    (h : awp S 0 fn.ntmps c (finK nz S fn.results.toList ks bs r) (init xs)) : FS P f xs r bs :=
  fs_of_awpK hm hS hf hb hent ks hlen hex hbs hnd nz _ (fun e σ w0 F0 a w F E hk h' => ⟨σ, E, h', hk⟩) h
/-- nil, as an own list without rows. -/
def St.nilOwn (σ : St) (t st : Nat) (k : Key) : St := ⟨upd σ.T t (.own k (σ.γ k + 1)), updK σ.H k (some (.rows st [])), updK σ.γ k (σ.γ k + 1)⟩
theorem Rl.nilOwn (h : Rl w0 F0 N σ a w F E) {t st : Nat} (ht : σ.T t = .sl true []) : Rl w0 F0 N (σ.nilOwn t st k) a w F (updK E k ⟨0, σ.γ k + 1, 0, st, 0, false⟩) := by
  have h' := h.empty (k := k) (gen := σ.γ k + 1) (st := st) (by rw [h.gen k]; omega)
  refine { h' with tmp := fun q => ?_ }
  show R _ _ _ (upd σ.T t (.own k (σ.γ k + 1)) q) _
  unfold upd
  split
  · rename_i e
    subst e
    have hv := h.tmp q
    rw [ht, R] at hv
    obtain ⟨b, len, cap, hv, hl, hc, hx, hn, _⟩ := hv
    have hc0 : cap = len := hx rfl
    simp only [List.length_nil] at hl
    rw [hv, R]
    subst hl; subst hc0
    simp only [updK, if_true]
    exact ⟨Nat.le_refl _, fun _ => .inr ⟨trivial, trivial, b, rfl⟩, by simp [Value.oneCell']⟩
  · exact h'.tmp q
def finK2 (t st : Nat) (k : Key) (nz : Bool) (S : Sg) (rs : List ResultVar) (ks : List Key) (bs : List Blk) (r : AV) : Ex → St → Prop := fun e σ =>
  finK nz S rs ks bs r e σ ∨ (σ.T t = .sl true [] ∧ finK nz S rs ks bs r e (σ.nilOwn t st k))
theorem fs_of_awp2 (hm : P.follows .mixedOrders = true) (hS : OK P S) {f : Nat} {fn : Func} {c : Code} (hf : P.funcs[f]? = some fn) (hb : fn.body = some c) (hent : Ent P f) {xs : List AV} {r : AV} {bs : List Blk} (ks : List Key)
    (hlen : xs.length ≤ fn.ntmps) (hex : exOK bs.length r = true) (hbs : bs.all blkImm = true) (hnd : ks.Nodup) (nz : Bool) (t st : Nat) (k : Key)
    (h : awp S 0 fn.ntmps c (finK2 t st k nz S fn.results.toList ks bs r) (init xs)) : FS P f xs r bs :=
  fs_of_awpK hm hS hf hb hent ks hlen hex hbs hnd nz _ (fun e σ w0 F0 a w F E hk h' => by
    rcases hk with hk | ⟨ht, hk⟩
    · exact ⟨σ, E, h', hk⟩
    · exact ⟨_, _, h'.nilOwn ht, hk⟩) h
/-- A contract for more arguments. -/
theorem FS_wk {f : Nat} {xs : List AV} {r : AV} {bs : List Blk} (h : FS P f (xs.map wk2) r bs) : FS P f xs r bs :=
  ⟨h.1, h.2.1, h.2.2.1, fun w F vs hF hr => h.2.2.2 w F vs hF (RA_wk2 hr)⟩
theorem ent_of {f : Nat} {fn : Func} (hf : P.funcs[f]? = some fn) (hn : (fn.name == "runtime.NumGoroutine") = false) (hb : fn.body.isNone = false) : Ent P f := by
  intro vs w
  unfold callFunc
  simp only [Sem.run_bind, run_program, Result.andThen_ok, hf, hn, hb, Bool.false_eq_true, if_false, Sem.run_pure]
end
end Go.Proofs.Ytedhhjmjlpnlpaa.VW
