/- The walk over values: one operation, a region, code; a function's contract out of its body. -/
import Derived.Test.YtedhhjmjlpnlpaaVA
namespace Go.Proofs.Ytedhhjmjlpnlpaa.VW
open Go Go.RowKit
set_option linter.unusedVariables false
set_option linter.unusedSimpArgs false
section
variable {P : Program} {S : Sg} {w0 w w' : World} {F0 F F' : Nat → Prop} {E E' : Key → Inf} {N fr : Nat} {σ σ' : St} {a : Act} {k kb : Key} {g : Bool}

theorem mapA {α β : Type} (f : α → β) (xs : Array α) : xs.map f = (xs.toList.map f).toArray := by rw [← Array.toList_map, Array.toArray_toList]
theorem wp_good {o : Oper} {s : Sem Value} {out : Out} {next : Act → World → Prop} {Q : Exit → Act → World → Prop} (hs : execOp a.eval o = (do pure (.value (← s)))) (hG : Good P w0 F0 N σ a w out s)
    (hn : ∀ v w' F' E', Rl w0 F0 N (σ.wr out.ws) a w' F' E' → R w' F' E' out.v v → next (a.put o.dst v) w') : o.wp P a w next Q := by
  obtain ⟨v, w', F', E', h1, h2, h3⟩ := hG
  unfold Oper.wp
  rw [hs, Sem.run_bind, h1, Result.andThen_ok, Sem.run_pure, Oper.upon_value]
  exact hn v w' F' E' h2 h3

theorem bi_ok (hS : OK P S) (h : Rl w0 F0 N σ a w F E) (hg : g = true) {d ty : Nat} {b : Builtin} {xs : List Operand} {ts : List Nat} (hp : (biOut S fr g σ d b xs ts).pre) :
    ∃ s, (∀ consts, builtin b ts.toArray ty consts (xs.map a.eval).toArray = (do pure (.value (← s)))) ∧ Good P w0 F0 N σ a w (biOut S fr g σ d b xs ts) s := by
  unfold biOut at hp ⊢
  split at hp
  · exact ⟨_, fun _ => rfl, len_ok (ty := ty) hS h hg hp⟩
  · exact ⟨_, fun _ => rfl, cap_ok (ty := ty) hS h hg hp⟩
  · exact ⟨_, fun _ => rfl, append_ok (ty := ty) hS h hg hp⟩
  · exact ⟨_, fun _ => rfl, copy_ok (ty := ty) hS h hg hp⟩
  · refine ⟨Builtin.min_ ts.toArray ty #[a.eval _, a.eval _], fun _ => rfl, ?_⟩
    exact minmax_ok (ts := ts.toArray) (ty := ty) (mx := false) h hg hp
  · refine ⟨Builtin.max_ ts.toArray ty #[a.eval _, a.eval _], fun _ => rfl, ?_⟩
    exact minmax_ok (ts := ts.toArray) (ty := ty) (mx := true) h hg hp
  · exact hp.elim
theorem op_ok (hS : OK P S) (h : Rl w0 F0 N σ a w F E) (hg : g = true) {o : Oper} (hp : (opOut S fr g σ (o.dst.getD 0) o.op).pre) {next : Act → World → Prop} {Q : Exit → Act → World → Prop}
    (hn : ∀ v w' F' E', Rl w0 F0 N (σ.wr (opOut S fr g σ (o.dst.getD 0) o.op).ws) a w' F' E' → R w' F' E' (opOut S fr g σ (o.dst.getD 0) o.op).v v → next (a.put o.dst v) w') : o.wp P a w next Q := by
  obtain ⟨dst, op, type, pos, after, guard⟩ := o
  simp only at hp hn
  unfold opOut at hp hn
  split at hp <;> (try dsimp only at hn hp)
  · rename_i x
    exact wp_good (s := pure (a.eval x)) (by simp [execOp]) (out := oMove g σ x) (Good.pure h rfl (h.sv hg hp)) hn
  · rename_i x
    exact wp_good (s := pure (a.eval x)) (by simp [execOp]) (out := oMove g σ x) (Good.pure h rfl (h.sv hg hp)) hn
  · rename_i c x y
    exact wp_good (by simp [execOp]) (pick_ok h hg hp) hn
  · exact wp_good rfl (alloc_ok hS h hg hp) hn
  · exact wp_good rfl (box_ok h hg hp) hn
  · rename_i t ps
    exact wp_good (by simp only [execOp]; rw [mapA]) (build_ok hS h hg hp) hn
  · rename_i t n ps
    exact wp_good (by simp only [execOp]; rw [mapA]) (buildSlice_ok hS h hg hp) hn
  · exact wp_good rfl (load_ok hS h hg hp) hn
  · rename_i t x y
    obtain ⟨w', F', E', h1, h2⟩ := store_ok hS h hg hp
    have hv : (oStore S g σ t x y).v = .dead := by
      unfold oStore stBlk stRow
      (repeat' split) <;> rfl
    have := hn undef w' F' E' h2 (by rw [hv, R]; trivial)
    unfold Oper.wp execOp
    simp only [Sem.run_bind, h1, Result.andThen_ok, Sem.run_pure, Oper.upon_skip]
    exact this
  · exact wp_good rfl (field_ok hS h hg hp) hn
  · exact wp_good rfl (index_ok hS h hg hp) hn
  · exact wp_good rfl (slice_ok hS h hg hp) hn
  · exact wp_good rfl (make_ok hS h hg hp) hn
  · exact wp_good rfl (bin_ok hS h hg hp) hn
  · exact wp_good rfl (un_ok h hg hp) hn
  · exact wp_good rfl (extract_ok h hg hp) hn
  · rename_i f first caps
    obtain ⟨p1, p2⟩ := hp
    have hf : first = #[] := by
      have : first.toList = [] := by simpa using p1
      exact Array.toList_inj.1 (by simpa using this)
    subst hf
    exact wp_good (s := Instr.makeFunc (.func f) #[] (caps.toList.map a.eval).toArray) (by simp only [execOp]; rw [mapA a.eval caps]; simp) (func_ok (q := True) h hg p2) hn
  · rename_i c
    obtain ⟨callee, xs, ts⟩ := c
    cases callee with
    | value f => exact call_ok hS h hg rfl hp hn
    | invoke r m => exact hp.elim
    | builtin b =>
      obtain ⟨s, h1, h2⟩ := bi_ok (ty := type) hS h hg hp
      refine wp_good ?_ h2 hn
      simp only [Array.toArray_toList] at h1
      simp only [execOp, resolve, pure_bind, invoke]
      rw [mapA a.eval xs]
      exact h1 _
  · exact hp.elim

theorem gval_ok (h : Rl w0 F0 N σ a w F E) {ops : Array Oper} {o : Oper} (hgd : o.guard.isSome = true) (hv : gval ops σ o = some g) : Region.wanted o (yielded ops a.tmps) = g := by
  unfold gval at hv
  unfold Region.wanted
  split at hv
  · rename_i e; rw [e] at hgd; exact absurd hgd (by simp)
  · rename_i j want e
    simp only [e]
    split at hv
    · rename_i d hd
      have ht := h.tmp d
      have hy : ∀ b, a.tmps.getD d undef = .bool b → yielded ops a.tmps j = some b := by
        intro b hb
        unfold yielded
        rw [hd]
        simp only [Option.bind_some]
        have : a.tmps[d]? = some (.bool b) := by
          cases hq : a.tmps[d]? with
          | none => simp [hq, undef] at hb
          | some v => simp [hq] at hb; rw [hb]
        simp [this]
      have hn : a.tmps.getD d undef = .tuple #[] → yielded ops a.tmps j = none := by
        intro hb
        unfold yielded
        rw [hd]
        simp only [Option.bind_some]
        cases hq : a.tmps[d]? with
        | none => rfl
        | some v => simp [hq] at hb; rw [hb]
      split at hv
      · rename_i c ec
        cases hv
        rw [ec, R] at ht
        rw [hy c ht]
        cases c <;> cases want <;> rfl
      · rename_i b c ec
        cases hv
        rw [ec, R] at ht
        cases b
        · rw [hn (ht.2 rfl)]; rfl
        · have h1 := ht.1 rfl
          rw [R] at h1
          rw [hy c h1]
          cases c <;> cases want <;> rfl
      · cases hv
    · cases hv

/-- how code left, with the state there. -/
theorem stepK_ok (hS : OK P S) (h : Rl w0 F0 N σ a w F E) {ops : Array Oper} {o : Oper} {K : St → Prop} (hk : stepK S fr N ops o K σ) {next : Act → World → Prop} {Q : Exit → Act → World → Prop}
    (hn : ∀ σ' a' w' F' E', K σ' → Rl w0 F0 N σ' a' w' F' E' → next a' w') :
    if Region.wanted o (yielded ops a.tmps) then o.wp P a w next Q ∨ (o.asks P a w ∧ LetsOut Q) else next (a.put o.dst undef) w := by
  unfold stepK at hk
  obtain ⟨hd, hk⟩ := hk
  split at hk
  · rename_i eg
    have hw : Region.wanted o (yielded ops a.tmps) = true := by unfold Region.wanted; rw [eg]
    rw [if_pos hw]
    left
    refine op_ok (g := true) hS h rfl hk.1 fun v w' F' E' h1 h2 => ?_
    exact hn _ _ _ _ _ hk.2 (h1.put hd h2)
  · rename_i x eg
    split at hk
    · exact hk.elim
    · rename_i g hv
      have hw := gval_ok h (by rw [eg]; rfl) hv
      split at hk
      · rename_i ews
        cases hgb : g with
        | false =>
          rw [hgb] at hw hk
          rw [if_neg (by rw [hw]; simp)]
          exact hn _ _ _ _ _ hk.2 (h.put hd (by rw [R]; exact ⟨fun hf => by simp at hf, fun _ => rfl⟩))
        | true =>
          rw [hgb] at hw hk ews
          rw [if_pos hw]
          left
          refine op_ok (g := true) hS h rfl (hk.1 rfl) fun v w' F' E' h1 h2 => ?_
          rw [ews] at h1
          exact hn _ _ _ _ _ hk.2 (h1.put hd (by rw [R]; exact ⟨fun _ => h2, fun hf => by simp at hf⟩))
      · rename_i y ws ews
        cases hgb : g with
        | false =>
          rw [hgb] at hw hk
          rw [if_neg (by rw [hw]; simp)]
          exact hn _ _ _ _ _ (hk.2 rfl) (h.put hd (by rw [R]; exact ⟨fun hf => by simp at hf, fun _ => rfl⟩))
        | true =>
          rw [hgb] at hw hk ews
          rw [if_pos hw]
          left
          obtain ⟨hk1, hk2⟩ := hk.1 rfl
          refine op_ok (g := true) hS h rfl hk1 fun v w' F' E' h1 h2 => ?_
          rw [ews] at h1
          exact hn _ _ _ _ _ hk2 (h1.put hd (by rw [R]; exact ⟨fun _ => h2, fun hf => by simp at hf⟩))
theorem stepsK_ok (hS : OK P S) {ops : Array Oper} {K : St → Prop} {Q : Exit → Act → World → Prop} (hn : ∀ σ' a' w' F' E', K σ' → Rl w0 F0 N σ' a' w' F' E' → Q .normal a' w') :
    ∀ (l : List Oper) (pre : List Oper), ops.toList = pre ++ l → ∀ (σ : St) (a : Act) (w : World) (F : Nat → Prop) (E : Key → Inf), Rl w0 F0 N σ a w F E → stepsK S fr N ops l K σ → wpOps P ops Q (List.range' pre.length l.length) a w
  | [], pre, _, σ, a, w, F, E, h, hk => by
    simp only [List.length_nil, List.range'_zero, wpOps]
    exact hn _ _ _ _ _ hk h
  | o :: l, pre, he, σ, a, w, F, E, h, hk => by
    rw [List.length_cons, List.range'_succ]
    have hget : ops[pre.length]? = some o := by
      rw [← Array.getElem?_toList, he]; simp
    simp only [wpOps, hget]
    refine stepK_ok hS h hk fun σ' a' w' F' E' hk' h' => ?_
    have := stepsK_ok hS hn l (pre ++ [o]) (by rw [he]; simp) σ' a' w' F' E' h' hk'
    simpa using this
theorem region_ok (hS : OK P S) (h : Rl w0 F0 N σ a w F E) {id : Nat} {ops : Array Oper} {K : St → Prop} {Q : Exit → Act → World → Prop} (hk : stepsK S fr N ops ops.toList K σ)
    (hn : ∀ σ' a' w' F' E', K σ' → Rl w0 F0 N σ' a' w' F' E' → Q .normal a' w') : (Code.region id ops false).wp P Q a w := by
  refine wp_region ?_
  have := stepsK_ok (P := P) (fr := fr) hS hn ops.toList [] (by simp) σ a w F E h hk
  rw [List.range_eq_range']
  simpa using this
end
end Go.Proofs.Ytedhhjmjlpnlpaa.VW
