/- The walk over values: regions in any order; code; a function's contract out of its body. -/
import Derived.Test.YtedhhjmjlpnlpaaVD
namespace Go.Proofs.Ytedhhjmjlpnlpaa.VW
open Go Go.RowKit
set_option linter.unusedVariables false
set_option linter.unusedSimpArgs false
section
variable {P : Program} {S : Sg} {w0 w w' : World} {F0 F F' : Nat → Prop} {E E' : Key → Inf} {N fr : Nat} {σ σ' τ : St} {a : Act} {ops : Array Oper}

def runsTo (S : Sg) (fr N : Nat) (ops : Array Oper) : List (Nat × Lg) → St → St → Prop
  | [], σ, τ => σ = τ
  | (i, lg) :: r, σ, τ => ∃ o, ops[i]? = some o ∧ (dOf S fr N ops o σ).p ∧ lg = lgOf fr ops o σ (dOf S fr N ops o σ).ws ∧ runsTo S fr N ops r (σ.app o (dOf S fr N ops o σ)) τ
theorem pull {j : Nat} {lj : Lg} {B : List (Nat × Lg)} : ∀ (A : List (Nat × Lg)) (σ : St), runsTo S fr N ops (A ++ (j, lj) :: B) σ τ → (∀ x ∈ A, indB x.2 lj = true) → runsTo S fr N ops ((j, lj) :: (A ++ B)) σ τ
  | [], σ, h, _ => h
  | (i, li) :: A, σ, h, hi => by
    obtain ⟨oi, e1, p1, l1, r1⟩ := h
    have := pull A _ r1 fun x hx => hi x (by simp [hx])
    obtain ⟨oj, e2, p2, l2, r2⟩ := this
    have hind : indB li lj = true := hi (i, li) (by simp)
    rw [l1, l2] at hind
    obtain ⟨s1, s2, s3, s4, s5⟩ := swap_ok p1 p2 hind
    refine ⟨oj, e2, by rw [← s1]; exact p2, by rw [← s3]; exact l2, oi, e1, by rw [s2]; exact p1, by rw [s4]; exact l1, ?_⟩
    rw [← s5]; exact r2
theorem runD_runs : ∀ (l pre : List Oper) (K : List Lg → St → Prop) (lg : List Lg) (σ : St), ops.toList = pre ++ l → runD S fr N ops l K lg σ →
    ∃ lgs τ, K (lg.reverse ++ lgs) τ ∧ lgs.length = l.length ∧ runsTo S fr N ops ((List.range' pre.length l.length).zip lgs) σ τ
  | [], pre, K, lg, σ, _, h => ⟨[], σ, by simpa [runD] using h, rfl, rfl⟩
  | o :: l, pre, K, lg, σ, he, h => by
    rw [runD] at h
    obtain ⟨h1, h2⟩ := h
    obtain ⟨lgs, τ, k1, k2, k3⟩ := runD_runs l (pre ++ [o]) K _ _ (by rw [he]; simp) h2
    refine ⟨lgOf fr ops o σ (dOf S fr N ops o σ).ws :: lgs, τ, by simpa using k1, by simp [k2], ?_⟩
    rw [List.length_cons, List.range'_succ, List.zip_cons_cons]
    refine ⟨o, by rw [← Array.getElem?_toList, he]; simp, h1, rfl, ?_⟩
    simpa using k3
theorem deps_ok {L : Nat → Prop} (hL : ∀ x, L x → ∀ y ∈ direct ops x, L y) : ∀ (f : Nat) (fr acc : List Nat), (∀ x ∈ fr, L x) → (∀ x ∈ acc, L x) → ∀ y ∈ deps ops f fr acc, L y
  | 0, fr, acc, _, ha, y, hy => ha y hy
  | f + 1, [], acc, _, ha, y, hy => ha y hy
  | f + 1, x :: xs, acc, hf, ha, y, hy => by
    rw [deps] at hy
    split at hy
    · exact deps_ok hL f xs acc (fun z hz => hf z (by simp [hz])) ha y hy
    · refine deps_ok hL f _ _ (fun z hz => ?_) (fun z hz => ?_) y hy
      · rcases List.mem_append.1 hz with hz | hz
        · exact hL x (hf x (by simp)) z hz
        · exact hf z (by simp [hz])
      · rcases List.mem_cons.1 hz with rfl | hz
        · exact hf _ (by simp)
        · exact ha z hz
theorem ready_iff {listed : Array Bool} {i : Nat} : i ∈ Region.ready .any ops listed ↔ i < ops.size ∧ listed.getD i true = false ∧ ∀ e ∈ direct ops i, listed.getD e false = true := by
  unfold Region.ready
  rw [List.mem_filter, List.mem_range]
  constructor
  · rintro ⟨h1, h2⟩
    rw [Bool.and_eq_true] at h2
    refine ⟨h1, by simpa using h2.1, ?_⟩
    intro e he
    have hsome : ops[i]? = some ops[i] := by simp [h1]
    have h3 := h2.2
    unfold direct at he
    rw [hsome] at he h3
    simp only [Option.map_some, Option.getD_some, Array.all_eq_true_iff_forall_mem, Bool.or_eq_true, Bool.not_eq_true'] at h3
    obtain ⟨ed, hed, rfl⟩ := List.mem_map.1 he
    rw [List.mem_filter] at hed
    rcases h3 ed (by simpa using hed.1) with h4 | h4
    · rw [hed.2] at h4; cases h4
    · exact h4
  · rintro ⟨h1, h2, h3⟩
    refine ⟨h1, ?_⟩
    rw [Bool.and_eq_true]
    refine ⟨by simpa using h2, ?_⟩
    have hsome : ops[i]? = some ops[i] := by simp [h1]
    unfold direct at h3
    rw [hsome] at h3 ⊢
    simp only [Option.map_some, Option.getD_some, Array.all_eq_true_iff_forall_mem, Bool.or_eq_true, Bool.not_eq_true']
    intro ed hed
    cases hb : Region.binds .any ed with
    | false => exact .inl rfl
    | true => exact .inr (h3 ed.on (List.mem_map.2 ⟨ed, List.mem_filter.2 ⟨by simpa using hed, hb⟩, rfl⟩))
theorem pairsOK_out {n : Nat} {lgs : List Lg} (h : pairsOK ops n lgs = true) {j : Nat} (hj : j < n) : (∀ e ∈ direct ops j, e < j) ∧ ∀ i, i < j → ∃ a b, lgs[i]? = some a ∧ lgs[j]? = some b ∧ (indB a b = true ∨ i ∈ deps ops (n * n + n) (direct ops j) []) := by
  unfold pairsOK at h
  rw [List.all_eq_true] at h
  have := h j (List.mem_range.2 hj)
  rw [Bool.and_eq_true, List.all_eq_true, List.all_eq_true] at this
  refine ⟨fun e he => by simpa using this.1 e he, fun i hi => ?_⟩
  have h2 := this.2 i (List.mem_range.2 hi)
  split at h2
  · rename_i a b e1 e2
    rw [Bool.or_eq_true] at h2
    exact ⟨a, b, e1, e2, h2.imp id (fun h => List.contains_iff_mem.1 h)⟩
  · cases h2

theorem any_ok (hS : OK P S) {lgs : List Lg} (hchk : pairsOK ops ops.size lgs = true) {K : St → Prop} {Q : Exit → Act → World → Prop} (hn : ∀ σ' a' w' F' E', K σ' → Rl w0 F0 N σ' a' w' F' E' → Q .normal a' w') (hτ : K τ) :
    ∀ (fuel : Nat) (Rm : List (Nat × Lg)) (listed : Array Bool) (σ : St) (a : Act) (w : World) (F : Nat → Prop) (E : Key → Inf), Rm.length = fuel → listed.size = ops.size →
      (∀ i, i < ops.size → (listed.getD i true = false ↔ i ∈ Rm.map (·.1))) → (Rm.map (·.1)).Pairwise (· < ·) → (∀ x ∈ Rm, x.1 < ops.size ∧ lgs[x.1]? = some x.2) →
      (∀ i, i < ops.size → listed.getD i false = true → ∀ e ∈ direct ops i, e < ops.size ∧ listed.getD e false = true) → runsTo S fr N ops Rm σ τ → Rl w0 F0 N σ a w F E → wpAny P .any ops Q fuel listed a w := by
  intro fuel
  induction fuel with
  | zero =>
    intro Rm listed σ a w F E hl hsz hlist _ _ _ hruns h
    have : Rm = [] := List.length_eq_zero_iff.1 hl
    subst this
    cases hruns
    refine ⟨?_, hn _ _ _ _ _ hτ h⟩
    rw [List.eq_nil_iff_forall_not_mem]
    intro i hi
    obtain ⟨h1, h2, _⟩ := ready_iff.1 hi
    exact absurd ((hlist i h1).1 h2) (by simp)
  | succ fuel ih =>
    intro Rm listed σ a w F E hl hsz hlist hsort hlgs hdown hruns h
    have hgd : ∀ e, e < ops.size → (listed.getD e false = true ↔ e ∉ Rm.map (·.1)) := by
      intro e he
      have h1 := hlist e he
      have h2 : listed.getD e true = listed.getD e false := by simp [hsz, he]
      rw [← h1, h2]; simp
    refine ⟨fun hnil => ?_, fun i hi => ?_⟩
    · exfalso
      cases Rm with
      | nil => simp at hl
      | cons x Rm =>
        have hx := (hlgs x (by simp)).1
        have : x.1 ∈ Region.ready .any ops listed := by
          refine ready_iff.2 ⟨hx, (hlist _ hx).2 (by simp), fun e he => ?_⟩
          have hlt := (pairsOK_out hchk hx).1 e he
          refine (hgd e (by omega)).2 fun hm => ?_
          rw [List.map_cons, List.pairwise_cons] at hsort
          rcases List.mem_cons.1 hm with hm | hm
          · have hm' : e = x.1 := hm
            omega
          · have : x.1 < e := hsort.1 e hm
            omega
        rw [hnil] at this; cases this
    · obtain ⟨hi1, hi2, hi3⟩ := ready_iff.1 hi
      obtain ⟨⟨i', lg⟩, hmem, rfl⟩ := List.mem_map.1 ((hlist i hi1).1 hi2)
      obtain ⟨A, B, rfl⟩ := List.append_of_mem hmem
      simp only at hi1 hi2 hi3 ⊢
      have hsort' := hsort
      rw [List.map_append, List.map_cons, List.pairwise_append] at hsort'
      obtain ⟨sA, sB, sAB⟩ := hsort'
      have hind : ∀ x ∈ A, indB x.2 lg = true := by
        intro x hx
        have hxi : x.1 < i' := sAB x.1 (List.mem_map.2 ⟨x, hx, rfl⟩) i' (by simp)
        obtain ⟨a', b', e1, e2, hor⟩ := (pairsOK_out hchk hi1).2 x.1 hxi
        have e1' := (hlgs x (by simp [hx])).2
        have e2' := (hlgs (i', lg) (by simp)).2
        simp only at e2'
        rw [e1] at e1'; rw [e2] at e2'
        cases e1'; cases e2'
        rcases hor with hor | hor
        · exact hor
        · exfalso
          have hxs := (hlgs x (by simp [hx])).1
          have hall := deps_ok (ops := ops) (L := fun y => y < ops.size ∧ listed.getD y false = true) (fun y hy z hz => hdown y hy.1 hy.2 z hz) (ops.size * ops.size + ops.size) (direct ops i') []
            (fun z hz => ⟨by have := (pairsOK_out hchk hi1).1 z hz; omega, hi3 z hz⟩) (fun z hz => by cases hz) x.1 hor
          exact (hgd x.1 hxs).1 hall.2 (by simp; exact .inl ⟨x.2, by simpa using hx⟩)
      obtain ⟨o, eo, hp, hlg, hr⟩ := pull A σ hruns hind
      unfold wpOp
      rw [eo]
      simp only
      refine dOf_ok hS h hp fun a' w' F' E' h' => ?_
      have hidx : ∀ q, q ∈ (A ++ B).map (·.1) ↔ q ∈ (A ++ (i', lg) :: B).map (·.1) ∧ q ≠ i' := by
        intro q
        constructor
        · intro hq
          refine ⟨by simp only [List.map_append, List.map_cons, List.mem_append, List.mem_cons] at hq ⊢; rcases hq with hq | hq; exact .inl hq; exact .inr (.inr hq), ?_⟩
          rw [List.map_append, List.mem_append] at hq
          rcases hq with hq | hq
          · have := sAB q hq i' (by simp); omega
          · rw [List.pairwise_cons] at sB
            have := sB.1 q hq; omega
        · rintro ⟨hq, hne⟩
          simp only [List.map_append, List.map_cons, List.mem_append, List.mem_cons] at hq ⊢
          rcases hq with hq | hq | hq
          · exact .inl hq
          · exact absurd hq hne
          · exact .inr hq
      have hset : ∀ q b, q < ops.size → (listed.setIfInBounds i' true).getD q b = if q = i' then true else listed.getD q b := by
        intro q b hq
        by_cases e : q = i'
        · subst e; simp [hsz, hq]
        · simp [hsz, hq, Array.getElem_setIfInBounds, Ne.symm e, e]
      refine ih (A ++ B) (listed.setIfInBounds i' true) _ a' w' F' E' (by simp at hl ⊢; omega) (by simp [hsz]) ?_ ?_ ?_ ?_ hr h'
      · intro q hq
        rw [hset q true hq, hidx q]
        by_cases e : q = i'
        · simp [e]
        · simp only [if_neg e]
          rw [hlist q hq]; simp [e]
      · rw [List.map_append, List.pairwise_append]
        rw [List.pairwise_cons] at sB
        exact ⟨sA, sB.2, fun x hx y hy => sAB x hx y (by simp at hy ⊢; exact .inr hy)⟩
      · intro x hx
        refine hlgs x ?_
        rcases List.mem_append.1 hx with hx | hx
        · simp [hx]
        · simp [hx]
      · intro q hq hl' e he
        rw [hset q false hq] at hl'
        by_cases eq : q = i'
        · subst eq
          have hlt := (pairsOK_out hchk hq).1 e he
          refine ⟨by omega, ?_⟩
          rw [hset e false (by omega), if_neg (by omega)]
          exact hi3 e he
        · rw [if_neg eq] at hl'
          obtain ⟨h1, h2⟩ := hdown q hq hl' e he
          refine ⟨h1, ?_⟩
          rw [hset e false h1]
          split
          · rfl
          · exact h2

theorem Rl.drew (h : Rl w0 F0 N σ a w F E) : Rl w0 F0 N σ a w.drew F E := by
  refine Rl.grow h ((Below.refl _ _).drew) (fun _ h => h) h.bnd (fun _ h _ => h) rfl (fun _ => .inl rfl) h.gen (fun k B hk => .inl ⟨hk, rfl⟩) ?_
  intro q q' h1 h2 h3 h4 e
  have := (h.own h1).2.2; omega
theorem draw_ok (hm : P.follows .mixedOrders = true) (hS : OK P S) (h : Rl w0 F0 N σ a w F E) {id : Nat} {K : St → Prop} {Q : Exit → Act → World → Prop} (hk : drawK S fr N ops K σ)
    (hn : ∀ σ' a' w' F' E', K σ' → Rl w0 F0 N σ' a' w' F' E' → Q .normal a' w') : (Code.region id ops true).wp P Q a w := by
  refine wp_region_any hm ?_
  obtain ⟨lgs, τ, ⟨k1, k2⟩, k3, k4⟩ := runD_runs ops.toList [] _ [] σ (by simp) hk
  rw [List.reverse_nil, List.nil_append] at k1
  unfold chkD at k1
  rw [Bool.and_eq_true, beq_iff_eq] at k1
  have hz : ((List.range' 0 ops.size).zip lgs).map (·.1) = List.range' 0 ops.size := by
    rw [List.map_fst_zip]; simp [k1.1]
  have hk4 : runsTo S fr N ops ((List.range' 0 ops.size).zip lgs) σ τ := by simpa using k4
  refine any_ok hS k1.2 hn k2 ops.size ((List.range' 0 ops.size).zip lgs) _ σ a w.drew F E (by simp [k1.1]) (by simp) ?_ ?_ ?_ ?_ hk4 h.drew
  · intro i hi
    rw [hz]; simp [hi]
  · rw [hz]; exact List.pairwise_lt_range'
  · intro x hx
    obtain ⟨i, hi, e⟩ := List.mem_iff_getElem.1 hx
    simp only [List.getElem_zip, List.getElem_range'] at e
    subst e
    simp at hi
    simp; omega
  · intro i hi hl
    simp [hi] at hl
end
end Go.Proofs.Ytedhhjmjlpnlpaa.VW
