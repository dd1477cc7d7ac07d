/- The walk over values: a region that draws its order. One run, in the text's order, and a check of numbers and keys, speak for every order. -/
import Derived.Test.YtedhhjmjlpnlpaaVC
namespace Go.Proofs.Ytedhhjmjlpnlpaa.VW
open Go Go.RowKit
set_option linter.unusedVariables false
set_option linter.unusedSimpArgs false

structure Lg where
  dst : Option Nat
  look : List Nat
  touch : List Key
  wr : List Key
  dk : Nat
structure DL where
  p : Prop
  ws : List Wr
  v : AV
/-- what one operation does, without a split. -/
def dOut (N : Nat) (o : Oper) (gv : Option Bool) (out : Bool → Out) : DL := match o.guard with
  | none => ⟨okDst N o.dst = true ∧ (out true).pre, (out true).ws, (out true).v⟩
  | some _ => match gv with
    | none => ⟨False, [], .dead⟩
    | some g => match (out g).ws with
      | [] => ⟨okDst N o.dst = true ∧ (g = true → (out g).pre), [], .opt g (out g).v⟩
      | x :: ws => match g with
        | true => ⟨okDst N o.dst = true ∧ (out true).pre, x :: ws, .opt true (out true).v⟩
        | false => ⟨okDst N o.dst = true, [], .opt false .dead⟩
def dOf (S : Sg) (fr N : Nat) (ops : Array Oper) (o : Oper) (σ : St) : DL := dOut N o (gval ops σ o) (fun g => opOut S fr g σ (o.dst.getD 0) o.op)
def St.app (σ : St) (o : Oper) (D : DL) : St := (σ.wr D.ws).put o.dst D.v
def lgOf (fr : Nat) (ops : Array Oper) (o : Oper) (σ : St) (ws : List Wr) : Lg :=
  ⟨o.dst, o.looksAt ops, ((o.looksAt ops).map fun t => keysAV (σ.T t)).flatten, ws.map (·.1), fr + o.dst.getD 0⟩
def indB (a b : Lg) : Bool :=
  (match a.dst with
    | some d => !b.look.contains d && b.dst != some d
    | none => true) &&
  (match b.dst with
    | some d => !a.look.contains d
    | none => true) &&
  a.wr.all (fun k => !b.touch.contains k && !b.wr.contains k && k.1 != b.dk) && b.wr.all (fun k => !a.touch.contains k && k.1 != a.dk)
def runD (S : Sg) (fr N : Nat) (ops : Array Oper) : List Oper → (List Lg → St → Prop) → List Lg → St → Prop
  | [], K, lg, σ => K lg.reverse σ
  | o :: r, K, lg, σ => (dOf S fr N ops o σ).p ∧ runD S fr N ops r K (lgOf fr ops o σ (dOf S fr N ops o σ).ws :: lg) (σ.app o (dOf S fr N ops o σ))
def direct (ops : Array Oper) (i : Nat) : List Nat := match ops[i]? with
  | some o => (o.after.toList.filter fun e => Region.binds .any e).map (·.on)
  | none => []
def deps (ops : Array Oper) : Nat → List Nat → List Nat → List Nat
  | 0, _, acc => acc
  | _ + 1, [], acc => acc
  | f + 1, x :: xs, acc => if acc.contains x then deps ops f xs acc else deps ops f (direct ops x ++ xs) (x :: acc)
def pairsOK (ops : Array Oper) (n : Nat) (lgs : List Lg) : Bool := (List.range n).all fun j =>
  (direct ops j).all (fun e => decide (e < j)) && (List.range j).all fun i => match lgs[i]?, lgs[j]? with
    | some a, some b => indB a b || (deps ops (n * n + n) (direct ops j) []).contains i
    | _, _ => false
def chkD (ops : Array Oper) (lgs : List Lg) : Bool := lgs.length == ops.size && pairsOK ops ops.size lgs
def drawK (S : Sg) (fr N : Nat) (ops : Array Oper) (K : St → Prop) (σ : St) : Prop :=
  runD S fr N ops ops.toList (fun lgs σ' => chkD ops lgs = true ∧ K σ') [] σ

section
variable {P : Program} {S : Sg} {w0 w w' : World} {F0 F F' : Nat → Prop} {E E' : Key → Inf} {N fr : Nat} {σ σ' : St} {a : Act} {ops : Array Oper}

theorem dOf_ok (hS : OK P S) (h : Rl w0 F0 N σ a w F E) {o : Oper} (hp : (dOf S fr N ops o σ).p) {next : Act → World → Prop} {Q : Exit → Act → World → Prop}
    (hn : ∀ a' w' F' E', Rl w0 F0 N (σ.app o (dOf S fr N ops o σ)) a' w' F' E' → next a' w') :
    if Region.wanted o (yielded ops a.tmps) then o.wp P a w next Q ∨ (o.asks P a w ∧ LetsOut Q) else next (a.put o.dst undef) w := by
  refine stepK_ok (S := S) (fr := fr) (K := fun τ => τ = σ.app o (dOf S fr N ops o σ)) hS h ?_ fun σ' a' w' F' E' e h' => by rw [e] at h'; exact hn _ _ _ _ h'
  unfold stepK
  unfold dOf dOut at hp ⊢
  cases hg : o.guard with
  | none =>
    simp only [hg] at hp ⊢
    exact ⟨hp.1, hp.2, rfl⟩
  | some x =>
    simp only [hg] at hp ⊢
    cases hv : gval ops σ o with
    | none => simp only [hv] at hp
    | some g =>
      simp only [hv] at hp ⊢
      cases hw : (opOut S fr g σ (o.dst.getD 0) o.op).ws with
      | nil =>
        simp only [hw] at hp ⊢
        exact ⟨hp.1, hp.2, rfl⟩
      | cons y ws =>
        simp only [hw] at hp ⊢
        cases g with
        | true => exact ⟨hp.1, fun _ => ⟨hp.2, rfl⟩, fun hf => by simp at hf⟩
        | false => exact ⟨hp, fun hf => by simp at hf, fun _ => rfl⟩

/-! an operation, and another one that it does not touch -/
def looksT (o : Oper) (ops : Array Oper) : List Nat := o.looksAt ops
theorem tmp_looks {o : Oper} {t : Nat} (h : Operand.tmp t ∈ o.op.operands.toList) : t ∈ o.looksAt ops := by
  unfold Oper.looksAt
  refine List.mem_append_left _ (List.mem_filterMap.2 ⟨_, h, rfl⟩)
theorem gval_loc {o : Oper} (h : ∀ t ∈ o.looksAt ops, σ.T t = σ'.T t) : gval ops σ o = gval ops σ' o := by
  unfold gval
  cases hg : o.guard with
  | none => rfl
  | some x =>
    obtain ⟨j, want⟩ := x
    simp only
    cases hd : (ops[j]?).bind (·.dst) with
    | none => rfl
    | some d =>
      simp only
      rw [h d (List.mem_append_right _ (by rw [hg]; simp [hd]))]
theorem dOf_loc {o : Oper} (h : ∀ t ∈ o.looksAt ops, σ.T t = σ'.T t) (hk : ∀ t ∈ o.looksAt ops, ∀ k ∈ keysAV (σ.T t), AgK σ σ' k) (hd : ∀ k : Key, k.1 = fr + o.dst.getD 0 → AgK σ σ' k) :
    dOf S fr N ops o σ = dOf S fr N ops o σ' := by
  unfold dOf
  rw [gval_loc h]
  congr 1
  funext g
  refine loc_op (fun x hx => ?_) hd
  cases x with
  | tmp t => exact ⟨h t (tmp_looks hx), hk t (tmp_looks hx)⟩
  | const v => exact ⟨rfl, fun k hk => by
      have : keysAV (cav v) = [] := by unfold cav; split <;> rfl
      rw [show σ.ev (.const v) = cav v from rfl, this] at hk; cases hk⟩
  | global g => exact ⟨rfl, fun k hk => by cases hk⟩
  | func f => exact ⟨rfl, fun k hk => by cases hk⟩
theorem wr_out : ∀ (ws : List Wr) (σ : St) (k : Key), k ∉ ws.map (·.1) → (σ.wr ws).H k = σ.H k ∧ (σ.wr ws).γ k = σ.γ k
  | [], σ, k, _ => ⟨rfl, rfl⟩
  | x :: ws, σ, k, h => by
    rw [List.map_cons, List.mem_cons, not_or] at h
    rw [St.wr]
    obtain ⟨h1, h2⟩ := wr_out ws (σ.wr1 x) k h.2
    rw [h1, h2]
    simp [St.wr1, updK, h.1]
theorem wr_in : ∀ (ws : List Wr) (σ σ' : St) (k : Key), k ∈ ws.map (·.1) → (σ.wr ws).H k = (σ'.wr ws).H k ∧ (σ.wr ws).γ k = (σ'.wr ws).γ k
  | [], σ, σ', k, h => by cases h
  | x :: ws, σ, σ', k, h => by
    rw [St.wr, St.wr]
    by_cases hk : k ∈ ws.map (·.1)
    · exact wr_in ws _ _ k hk
    · have hx : k = x.1 := by rcases List.mem_cons.1 h with h | h; exact h; exact absurd h hk
      obtain ⟨h1, h2⟩ := wr_out ws (σ.wr1 x) k hk
      obtain ⟨h3, h4⟩ := wr_out ws (σ'.wr1 x) k hk
      rw [h1, h2, h3, h4]
      simp [St.wr1, updK, hx]
theorem put_HT (σ : St) (d : Option Nat) (v : AV) : (σ.put d v).H = σ.H ∧ (σ.put d v).γ = σ.γ := by cases d <;> exact ⟨rfl, rfl⟩
theorem app_T (σ : St) (o : Oper) (D : DL) (t : Nat) : (σ.app o D).T t = if o.dst = some t then D.v else σ.T t := by
  unfold St.app
  cases hd : o.dst with
  | none => simp [St.put, wr_T]
  | some d =>
    simp only [St.put, upd, wr_T]
    by_cases e : t = d
    · subst e; simp
    · rw [if_neg e, if_neg (by simpa using Ne.symm e)]
theorem app_H (σ : St) (o : Oper) (D : DL) (k : Key) : (σ.app o D).H k = (σ.wr D.ws).H k ∧ (σ.app o D).γ k = (σ.wr D.ws).γ k := by
  unfold St.app
  rw [(put_HT _ _ _).1, (put_HT _ _ _).2]; exact ⟨rfl, rfl⟩
theorem St.ext' {σ τ : St} (h1 : ∀ t, σ.T t = τ.T t) (h2 : ∀ k, σ.H k = τ.H k ∧ σ.γ k = τ.γ k) : σ = τ := by
  cases σ; cases τ
  simp only at h1 h2
  congr
  · exact funext h1
  · exact funext fun k => (h2 k).1
  · exact funext fun k => (h2 k).2

/-- Two neighbours that do not touch each other may change places. -/
theorem swap_ok {oi oj : Oper} (hi : (dOf S fr N ops oi σ).p) (hj : (dOf S fr N ops oj (σ.app oi (dOf S fr N ops oi σ))).p)
    (hind : indB (lgOf fr ops oi σ (dOf S fr N ops oi σ).ws) (lgOf fr ops oj (σ.app oi (dOf S fr N ops oi σ)) (dOf S fr N ops oj (σ.app oi (dOf S fr N ops oi σ))).ws) = true) :
    dOf S fr N ops oj (σ.app oi (dOf S fr N ops oi σ)) = dOf S fr N ops oj σ ∧ dOf S fr N ops oi (σ.app oj (dOf S fr N ops oj σ)) = dOf S fr N ops oi σ ∧
    lgOf fr ops oj (σ.app oi (dOf S fr N ops oi σ)) (dOf S fr N ops oj (σ.app oi (dOf S fr N ops oi σ))).ws = lgOf fr ops oj σ (dOf S fr N ops oj σ).ws ∧
    lgOf fr ops oi (σ.app oj (dOf S fr N ops oj σ)) (dOf S fr N ops oi (σ.app oj (dOf S fr N ops oj σ))).ws = lgOf fr ops oi σ (dOf S fr N ops oi σ).ws ∧
    (σ.app oi (dOf S fr N ops oi σ)).app oj (dOf S fr N ops oj (σ.app oi (dOf S fr N ops oi σ))) = (σ.app oj (dOf S fr N ops oj σ)).app oi (dOf S fr N ops oi (σ.app oj (dOf S fr N ops oj σ))) := by
  generalize hDi : dOf S fr N ops oi σ = Di at *
  generalize hDj : dOf S fr N ops oj (σ.app oi Di) = Dj at *
  simp only [indB, lgOf, Bool.and_eq_true, List.all_eq_true, bne_iff_ne, Bool.not_eq_true', List.mem_map, forall_exists_index, and_imp, forall_apply_eq_imp_iff₂] at hind
  obtain ⟨⟨⟨c1, c2⟩, c3⟩, c4⟩ := hind
  have d1 : ∀ d, oi.dst = some d → d ∉ oj.looksAt ops ∧ oj.dst ≠ some d := by
    intro d hd
    rw [hd] at c1
    simp only [Bool.and_eq_true, bne_iff_ne, Bool.not_eq_true'] at c1
    exact ⟨by simpa using c1.1, c1.2⟩
  have d2 : ∀ d, oj.dst = some d → d ∉ oi.looksAt ops := by
    intro d hd
    rw [hd] at c2
    simpa using c2
  have T1 : ∀ t ∈ oj.looksAt ops, (σ.app oi Di).T t = σ.T t := by
    intro t ht
    rw [app_T, if_neg]
    intro e; exact (d1 t e).1 ht
  have K1 : ∀ k, k ∉ Di.ws.map (·.1) → AgK (σ.app oi Di) σ k := by
    intro k hk
    have h1 := app_H σ oi Di k
    have h2 := wr_out Di.ws σ k hk
    exact ⟨h1.1.trans h2.1, h1.2.trans h2.2⟩
  have c3' : ∀ x ∈ Di.ws, (x.1 ∉ ((oj.looksAt ops).map fun t => keysAV ((σ.app oi Di).T t)).flatten) ∧ (∀ y ∈ Dj.ws, y.1 ≠ x.1) ∧ x.1.1 ≠ fr + oj.dst.getD 0 := by
    intro x hx
    have := c3 x hx
    refine ⟨by simpa using this.1.1, ?_, this.2⟩
    intro y hy e
    have h2 := this.1.2
    have : (Dj.ws.map (·.1)).contains x.1 = true := List.contains_iff_mem.2 (List.mem_map.2 ⟨y, hy, e⟩)
    rw [this] at h2; cases h2
  have c4' : ∀ x ∈ Dj.ws, (x.1 ∉ ((oi.looksAt ops).map fun t => keysAV (σ.T t)).flatten) ∧ x.1.1 ≠ fr + oi.dst.getD 0 := by
    intro x hx
    have := c4 x hx
    exact ⟨by simpa using this.1, this.2⟩
  have eDj : Dj = dOf S fr N ops oj σ := by
    rw [← hDj]
    refine dOf_loc T1 (fun t ht k hk => K1 k fun hm => ?_) (fun k hk => K1 k fun hm => ?_)
    · obtain ⟨x, hx, e⟩ := List.mem_map.1 hm
      exact (c3' x hx).1 (List.mem_flatten.2 ⟨_, List.mem_map.2 ⟨t, ht, rfl⟩, by rw [e]; exact hk⟩)
    · obtain ⟨x, hx, e⟩ := List.mem_map.1 hm
      exact (c3' x hx).2.2 (by rw [e]; exact hk)
  rw [← eDj]
  have T2 : ∀ t ∈ oi.looksAt ops, (σ.app oj Dj).T t = σ.T t := by
    intro t ht
    rw [app_T, if_neg]
    intro e; exact d2 t e ht
  have K2 : ∀ k, k ∉ Dj.ws.map (·.1) → AgK (σ.app oj Dj) σ k := by
    intro k hk
    have h1 := app_H σ oj Dj k
    have h2 := wr_out Dj.ws σ k hk
    exact ⟨h1.1.trans h2.1, h1.2.trans h2.2⟩
  have eDi : dOf S fr N ops oi (σ.app oj Dj) = Di := by
    rw [← hDi]
    refine dOf_loc T2 (fun t ht k hk => K2 k fun hm => ?_) (fun k hk => K2 k fun hm => ?_)
    · obtain ⟨x, hx, e⟩ := List.mem_map.1 hm
      exact (c4' x hx).1 (List.mem_flatten.2 ⟨_, List.mem_map.2 ⟨t, ht, rfl⟩, by rw [e, ← T2 t ht]; exact hk⟩)
    · obtain ⟨x, hx, e⟩ := List.mem_map.1 hm
      exact (c4' x hx).2 (by rw [e]; exact hk)
  rw [eDi]
  refine ⟨rfl, rfl, ?_, ?_, ?_⟩
  · unfold lgOf
    congr 2
    exact List.map_congr_left fun t ht => by rw [T1 t ht]
  · unfold lgOf
    congr 2
    exact List.map_congr_left fun t ht => by rw [T2 t ht]
  · refine St.ext' (fun t => ?_) (fun k => ?_)
    · simp only [app_T]
      by_cases e1 : oi.dst = some t <;> by_cases e2 : oj.dst = some t
      · exact absurd e2 (d1 t e1).2
      · simp [e1, e2]
      · simp [e1, e2]
      · simp [e1, e2]
    · rw [(app_H _ oj Dj k).1, (app_H _ oj Dj k).2, (app_H _ oi Di k).1, (app_H _ oi Di k).2]
      by_cases m1 : k ∈ Di.ws.map (·.1)
      · have m2 : k ∉ Dj.ws.map (·.1) := by
          intro m2
          obtain ⟨x, hx, rfl⟩ := List.mem_map.1 m1
          obtain ⟨y, hy, e⟩ := List.mem_map.1 m2
          exact (c3' x hx).2.1 y hy e
        rw [(wr_out Dj.ws _ k m2).1, (wr_out Dj.ws _ k m2).2, (app_H _ oi Di k).1, (app_H _ oi Di k).2]
        exact wr_in Di.ws _ _ k m1
      · rw [(wr_out Di.ws _ k m1).1, (wr_out Di.ws _ k m1).2, (app_H _ oj Dj k).1, (app_H _ oj Dj k).2]
        by_cases m2 : k ∈ Dj.ws.map (·.1)
        · exact wr_in Dj.ws _ _ k m2
        · rw [(wr_out Dj.ws _ k m2).1, (wr_out Dj.ws _ k m2).2, (wr_out Dj.ws _ k m2).1, (wr_out Dj.ws _ k m2).2, (app_H _ oi Di k).1, (app_H _ oi Di k).2]
          exact wr_out Di.ws _ k m1
end
end Go.Proofs.Ytedhhjmjlpnlpaa.VW
