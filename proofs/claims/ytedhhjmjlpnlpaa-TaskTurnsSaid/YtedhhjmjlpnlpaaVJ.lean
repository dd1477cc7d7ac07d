/- The walk over values: two operations of slices.Grow, append of zeroes and the cut to nothing. -/
import Derived.Test.YtedhhjmjlpnlpaaVH
namespace Go.Proofs.Ytedhhjmjlpnlpaa.VW
open Go Go.RowKit
set_option linter.unusedVariables false
set_option linter.unusedSimpArgs false

def oApM (S : Sg) (g : Bool) (σ : St) (k : Key) (t : Nat) (x y : Operand) : Out := match S.τ t with
  | some ⟨.slice e, _, _, _⟩ => match S.τ e with
    | some ie => match strip g (σ.ev x), strip g (σ.ev y) with
      | ⟨p, .sl true []⟩, ⟨q, .int .i64 n⟩ => ⟨g = true ∧ p ∧ q ∧ 0 < n ∧ n ≤ 1000 ∧ ie.bytes ≤ 1000 ∧ 0 < ie.size, .own k (σ.γ k + 1), [(k, σ.γ k + 1, some (.rows ie.size (List.replicate n.toNat (ie.zero.map wk1))))]⟩
      | _, _ => bad
    | none => bad
  | _ => bad
def oRe (S : Sg) (g : Bool) (σ : St) (t : Nat) (x h : Operand) : Out := match S.τ t with
  | some ⟨.slice e, _, _, _⟩ => match S.τ e with
    | some ie => match strip g (σ.ev x), strip g (σ.ev h) with
      | ⟨p, .sl true []⟩, ⟨q, .int _ n⟩ => ⟨g = true ∧ p ∧ q ∧ n = 0, .sl true [], []⟩
      | ⟨p, .own k g'⟩, ⟨q, .int _ n⟩ => match σ.H k with
        | some (.rows st rs) => ⟨g = true ∧ p ∧ q ∧ n = 0 ∧ g' = σ.γ k, .own k (σ.γ k + 1), [(k, σ.γ k + 1, some (.rows st []))]⟩
        | _ => bad
      | _, _ => bad
    | none => bad
  | _ => bad
def isInt (S : Sg) (t : Nat) : Bool := match S.τ t with
  | some ⟨.int _, _, _, _⟩ => true
  | _ => false
section
variable {P : Program} {S : Sg} {w0 w w' : World} {F0 F F' : Nat → Prop} {E E' : Key → Inf} {N fr : Nat} {σ σ' : St} {a : Act} {ops : Array Oper} {g : Bool} {k : Key}

theorem run_app_make (t ti ty e : TypeId) (ki : IntKind) (i : TypeInfo) (z : Value) (ht : P.underlying t = some (.slice e)) (hti : P.underlying ti = some (.int ki)) (hi : P.info? e = some i) (hz : i.zero = some z)
    (ad : Option Addr) (n : Nat) (hn0 : 0 < n) (hn : n ≤ 1000) (hb : i.bytes ≤ 1000) (hs : 0 < i.size) :
    (Builtin.append_ #[t, ti] ty #[.slice ad 0 0, .int .i64 n]).run P w =
      .ok (.slice (some ⟨w.heap.size, 0, none⟩) n (grownCap w n 0 e))
        (w.drew.alloc (.cells (Builtin.zeroCells z.cells n ++ Builtin.zeroCells z.cells (grownCap w n 0 e - n)) e)) := by
  have hw : IntKind.i64.wrap (n : Int) = n := by rw [IntKind.wrap_i64]; omega
  have h1 : ¬ ((n : Int) < 0) := by omega
  have hnb : n * i.bytes ≤ 1000000 := Nat.mul_le_mul hn hb
  have h2 : ¬ (281474976710656 < (n : Int) * (i.bytes : Int)) := by
    have : ((n * i.bytes : Nat) : Int) ≤ 1000000 := by omega
    rw [Int.natCast_mul] at this; omega
  have h3 : ¬ n = 0 := by omega
  have h4 : ¬ (9223372036854775807 < (n : Int)) := by omega
  have h5 : ¬ (281474976710656 < Builtin.nextslicecap n 0 * i.bytes) := by
    have := growslice_fits (need := n) (old := 0) (bytes := i.bytes) (by omega) (by omega)
    omega
  have h6 : ¬ (n * i.size = 0) := by
    intro h; rcases Nat.mul_eq_zero.1 h with h | h <;> omega
  have hf : (Builtin.firstCells i.size 0 (.slice ad 0 0)).run P w.drew = .ok #[] w.drew := by
    cases ad with
    | none => exact run_firstCells_none w.drew _ _ _ _
    | some ad => exact run_firstCells_some w.drew _ _ ad _ _ [] (by simp) (fun j v hj => by simp at hj)
  simp [Builtin.append_, run_underlying ht, run_underlying hti, sizeOf, typeInfo, zeroValue, hi, hz, asInt, asIntOf, hw, h1, h2, h3, h4, h5, h6, Question.forced, newRow, grownCap, hf]

theorem appM_ok (hS : OK P S) (h : Rl w0 F0 N σ a w F E) {t t' ty : Nat} {ki : IntKind} (hti : P.underlying t' = some (.int ki)) {x y : Operand} (hp : (oApM S true σ k t x y).pre) :
    Good P w0 F0 N σ a w (oApM S true σ k t x y) (Builtin.append_ #[t, t'] ty #[a.eval x, a.eval y]) := by
  unfold oApM at *
  split at hp
  · rename_i e _ _ _ et
    obtain ⟨inf, d, z, hi0, hu, h1, h2, h3, h4⟩ := tOK_out (hS.τ _ _ et)
    obtain rfl := descOK_slice h3
    split at hp
    · rename_i ie ee
      obtain ⟨inf', d', z', hi', hu', hs', hb', hd', hag', hz', hzz', hzs'⟩ := tOK_out (hS.τ _ _ ee)
      split at hp
      · rename_i p q n e1 e2
        obtain ⟨_, p1, p2, p3, p4, p5, p6⟩ := hp
        have hx := h.sv (g := true) rfl (x := x) (by rw [e1]; exact p1)
        have hy := h.sv (g := true) rfl (x := y) (by rw [e2]; exact p2)
        rw [e1, R] at hx; rw [e2, R] at hy
        obtain ⟨ad, len, cap, hv, hl, hcap, hexc, hnil, _⟩ := hx
        have hcap0 : cap = len := hexc rfl
        simp only [List.length_nil] at hl
        subst hl; subst hcap0
        obtain ⟨m, rfl⟩ : ∃ m : Nat, n = m := ⟨n.toNat, by omega⟩
        have hgt := grownCap_ge w m 0 e
        have hzl : (ie.zero.map wk1).length = ie.size := by have := (zOK_imm hzz').2.2; simp at this; rw [List.length_map]; omega
        have hz0 : RA w F E (ie.zero.map wk1) z'.cells.toList := RA_wk1 (zOK_RA hzz')
        have hmade : RA w F E (List.replicate m (ie.zero.map wk1)).flatten (Builtin.zeroCells z'.cells m).toList := RA_madeCells hz0 m
        have hrun := run_app_make (P := P) (w := w) t t' ty e ki inf' z' hu hti hi' hz' ad m (by omega) (by omega) (by omega) (by omega)
        have hg := app_grown (k := k) (gen := σ.γ k + 1) (cap := grownCap w m 0 e) (e := e) (old := []) (new := List.replicate m (ie.zero.map wk1)) (olds := []) (news := (Builtin.zeroCells z'.cells m).toList) (rest := Builtin.zeroCells z'.cells (grownCap w m 0 e - m)) (ie := ie) h RA_nil hmade (fun r hr => by simp at hr) (repl_len hzl m) (by simp; omega) (by
          simp only [Array.size_append, List.size_toArray, List.length_nil, Array.length_toList, size_zeroCells, hzs']
          rw [Nat.zero_add, ← Nat.add_mul]
          exact Nat.mul_le_mul_right _ (by omega)) (by rw [h.gen]; exact Nat.lt_succ_self _)
        refine ⟨_, _, F, updK E k ⟨w.heap.size, σ.γ k + 1, m, ie.size, grownCap w m 0 e, true⟩, by rw [hv, hy]; exact hrun, ?_, ?_⟩
        · simpa [St.wr] using hg
        · show R _ _ _ (.own _ _) _
          rw [R]; simp [updK, Value.oneCell']
      · exact hp.elim
    · exact hp.elim
  · exact hp.elim
theorem run_cut0 {t e : TypeId} {i : TypeInfo} (hu : P.underlying t = some (.slice e)) (hi : P.info? e = some i) (ad : Option Addr) (len cap : Nat) (kk : IntKind) :
    (Instr.sliceAt t (.slice ad len cap) none (some (.int kk 0)) none).run P w = .ok (.slice (if cap = 0 then ad else ad.map (·.add 0)) 0 cap) w := by
  unfold Instr.sliceAt
  rw [Sem.run_bind, run_underlying hu, Result.andThen_ok]
  unfold Instr.slice
  simp [run_underlying hu, Instr.sliceBounds, Instr.sliceBound, asIntOf, sizeOf, typeInfo, hi]
theorem re_ok (hS : OK P S) (h : Rl w0 F0 N σ a w F E) {t : Nat} {x y : Operand} (hp : (oRe S true σ t x y).pre) :
    Good P w0 F0 N σ a w (oRe S true σ t x y) (Instr.sliceAt t (a.eval x) none (some (a.eval y)) none) := by
  unfold oRe at *
  split at hp
  · rename_i e _ _ _ et
    obtain ⟨inf, d, z, hi0, hu, h1, h2, h3, h4⟩ := tOK_out (hS.τ _ _ et)
    obtain rfl := descOK_slice h3
    split at hp
    · rename_i ie ee
      obtain ⟨inf', d', z', hi', hu', hs', hb', hd', hag', hz', hzz', hzs'⟩ := tOK_out (hS.τ _ _ ee)
      split at hp
      · rename_i p q kk n e1 e2
        obtain ⟨_, p1, p2, rfl⟩ := hp
        have hx := h.sv (g := true) rfl (x := x) (by rw [e1]; exact p1)
        have hy := h.sv (g := true) rfl (x := y) (by rw [e2]; exact p2)
        rw [e1, R] at hx; rw [e2, R] at hy
        obtain ⟨ad, len, cap, hv, hl, hcap, hexc, hnil, _⟩ := hx
        have hcap0 : cap = len := hexc rfl
        simp only [List.length_nil] at hl
        subst hl; subst hcap0
        refine Good.pure h (v := .slice ad 0 0) ?_ ?_
        · rw [hv, hy, run_cut0 hu hi']; simp
        · show R _ _ _ (.sl _ _) _
          rw [R]; exact ⟨ad, 0, 0, rfl, rfl, Nat.le_refl _, fun _ => rfl, fun _ => rfl, .inl rfl⟩
      · rename_i p k g' q kk n e1 e2
        split at hp
        · rename_i st rs hk
          obtain ⟨_, p1, p2, rfl, p4⟩ := hp
          have hx := h.sv (g := true) rfl (x := x) (by rw [e1]; exact p1)
          have hy := h.sv (g := true) rfl (x := y) (by rw [e2]; exact p2)
          rw [e1, R] at hx; rw [e2, R] at hy
          have hgen : g' = (E k).gen := by rw [h.gen]; exact p4
          obtain ⟨b1, b2, b3, b4⟩ := h.blk k _ hk
          rcases hx.2.1 hgen with ⟨hal, hv⟩ | ⟨hal, hl0, ad, hv⟩
          · rcases b4 with ⟨b4, _⟩ | ⟨_, b5, b6, b7, b8⟩
            · rw [b4] at hal; exact absurd hal (by simp)
            · have hE2 : ∀ q, updK E k { E k with gen := σ.γ k + 1, len := 0 } q = E q ∨ (E q).gen < (updK E k { E k with gen := σ.γ k + 1, len := 0 } q).gen := by
                intro q; simp only [updK]; split
                · rename_i e; subst e; right; show (E q).gen < σ.γ q + 1; rw [h.gen]; exact Nat.lt_succ_self _
                · exact .inl rfl
              refine ⟨.slice (some ⟨(E k).b, 0, none⟩) 0 (E k).cap, w, F, updK E k { E k with gen := σ.γ k + 1, len := 0 }, ?_, ?_, ?_⟩
              · rw [hv, hy, run_cut0 hu hi']
                simp [Addr.add_mid]
              · have := h.turn (σ' := σ.wr1 (k, σ.γ k + 1, some (.rows st []))) (k := k) (kb := k) (E' := updK E k { E k with gen := σ.γ k + 1, len := 0 }) (by rw [hk]; exact hal) 0 [] rfl hE2 ?_ ?_
                · exact this
                · intro q; simp only [updK, St.wr1]; split
                  · rfl
                  · exact h.gen q
                · intro q B' hq
                  simp only [updK, St.wr1] at hq
                  split at hq
                  · rename_i e
                    cases hq
                    right
                    refine ⟨e, by simp [updK], ?_⟩
                    refine ⟨by simp [updK], by simp [updK]; exact b2, by simp [updK], .inr ⟨by simp [updK]; exact hal, by simp [updK]; exact b5, by simpa [updK] using b6, by simpa [updK, World.setCells] using b7, ?_⟩⟩
                    rw [RR]; trivial
                  · rename_i e
                    exact .inl ⟨e, hq, by simp [updK, e]⟩
              · show R _ _ _ (.own _ _) _
                rw [R]; simp [updK, Value.oneCell', hal]
          · have hr0 : rs = [] := List.length_eq_zero_iff.1 (by omega)
            subst hr0
            refine ⟨.slice ad 0 0, w, F, _, ?_, h.empty (k := k) (gen := σ.γ k + 1) (st := st) (by rw [h.gen]; exact Nat.lt_succ_self _), ?_⟩
            · rw [hv, hy, run_cut0 hu hi']; simp
            · show R _ _ _ (.own _ _) _
              rw [R]; simp [updK, Value.oneCell']
        · exact hp.elim
      · exact hp.elim
    · exact hp.elim
  · exact hp.elim
theorem isInt_ok (hS : OK P S) {t : Nat} (h : isInt S t = true) : ∃ k, P.underlying t = some (.int k) := by
  unfold isInt at h
  split at h
  · rename_i k _ _ _ et
    obtain ⟨inf, d, z, hi, hu, h1, h2, h3, h4⟩ := tOK_out (hS.τ _ _ et)
    cases d <;> simp [descOK] at h3
    exact ⟨_, hu⟩
  · exact absurd h (by simp)
end
def xOut (S : Sg) (fr : Nat) (σ : St) (d : Nat) : Op → Option Out
  | .call ⟨.builtin .append, xs, ts⟩ => match xs.toList, ts.toList with
    | [x, y], [t, t'] => if isInt S t' = true then some (oApM S true σ (fr + d, 0) t x y) else none
    | _, _ => none
  | .slice t x none (some h) none => some (oRe S true σ t x h)
  | _ => none
def stepX (S : Sg) (fr N : Nat) (ops : Array Oper) (o : Oper) (K : St → Prop) (σ : St) : Prop := match xOut S fr σ (o.dst.getD 0) o.op with
  | some out => o.guard = none ∧ okDst N o.dst = true ∧ out.pre ∧ K ((σ.wr out.ws).put o.dst out.v)
  | none => stepK S fr N ops o K σ
def stepsX (S : Sg) (fr N : Nat) (ops : Array Oper) : List Oper → (St → Prop) → St → Prop
  | [], K, σ => K σ
  | o :: r, K, σ => stepX S fr N ops o (stepsX S fr N ops r K) σ
section
variable {P : Program} {S : Sg} {w0 w w' : World} {F0 F F' : Nat → Prop} {E E' : Key → Inf} {N fr : Nat} {σ σ' : St} {a : Act} {ops : Array Oper} {g : Bool} {k : Key}
theorem xop_ok (hS : OK P S) (h : Rl w0 F0 N σ a w F E) {o : Oper} {out : Out} (ho : xOut S fr σ (o.dst.getD 0) o.op = some out) (hp : out.pre) {next : Act → World → Prop} {Q : Exit → Act → World → Prop}
    (hn : ∀ v w' F' E', Rl w0 F0 N (σ.wr out.ws) a w' F' E' → R w' F' E' out.v v → next (a.put o.dst v) w') : o.wp P a w next Q := by
  obtain ⟨dst, op, type, pos, after, guard⟩ := o
  simp only at ho hn
  unfold xOut at ho
  split at ho
  · rename_i xs ts
    split at ho
    · rename_i x y t t' ex et
      split at ho
      · rename_i hi
        cases ho
        obtain ⟨ki, hti⟩ := isInt_ok hS hi
        refine wp_good ?_ (appM_ok (ty := type) hS h hti hp) hn
        obtain ⟨xs⟩ := xs
        obtain ⟨ts⟩ := ts
        simp only at ex et
        subst ex; subst et
        simp only [execOp, resolve, pure_bind, invoke]
        rw [mapA a.eval ⟨[x, y]⟩]
        rfl
      · cases ho
    · cases ho
  · rename_i t x y
    cases ho
    exact wp_good rfl (re_ok hS h hp) hn
  · cases ho
theorem stepsX_ok (hS : OK P S) {ops : Array Oper} {K : St → Prop} {Q : Exit → Act → World → Prop} (hn : ∀ σ' a' w' F' E', K σ' → Rl w0 F0 N σ' a' w' F' E' → Q .normal a' w') :
    ∀ (l : List Oper) (pre : List Oper), ops.toList = pre ++ l → ∀ (σ : St) (a : Act) (w : World) (F : Nat → Prop) (E : Key → Inf), Rl w0 F0 N σ a w F E → stepsX S fr N ops l K σ → wpOps P ops Q (List.range' pre.length l.length) a w
  | [], pre, _, σ, a, w, F, E, h, hk => by
    simp only [List.length_nil, List.range'_zero, wpOps]
    exact hn _ _ _ _ _ hk h
  | o :: l, pre, he, σ, a, w, F, E, h, hk => by
    rw [List.length_cons, List.range'_succ]
    have hget : ops[pre.length]? = some o := by rw [← Array.getElem?_toList, he]; simp
    simp only [wpOps, hget]
    rw [stepsX, stepX] at hk
    split at hk
    · rename_i out ho
      obtain ⟨hg, hd, hp, hk⟩ := hk
      have hw : Region.wanted o (yielded ops a.tmps) = true := by unfold Region.wanted; rw [hg]
      rw [if_pos hw]
      left
      refine xop_ok hS h ho hp fun v w' F' E' h1 h2 => ?_
      have := stepsX_ok hS hn l (pre ++ [o]) (by rw [he]; simp) _ _ w' F' E' (h1.put hd h2) hk
      simpa using this
    · refine stepK_ok hS h hk fun σ' a' w' F' E' hk' h' => ?_
      have := stepsX_ok hS hn l (pre ++ [o]) (by rw [he]; simp) σ' a' w' F' E' h' hk'
      simpa using this
theorem regionX_ok (hS : OK P S) (h : Rl w0 F0 N σ a w F E) {id : Nat} {K : St → Prop} {Q : Exit → Act → World → Prop} (hk : stepsX S fr N ops ops.toList K σ)
    (hn : ∀ σ' a' w' F' E', K σ' → Rl w0 F0 N σ' a' w' F' E' → Q .normal a' w') : (Code.region id ops false).wp P Q a w := by
  refine wp_region ?_
  have := stepsX_ok (P := P) (fr := fr) hS hn ops.toList [] (by simp) σ a w F E h hk
  rw [List.range_eq_range']
  simpa using this
end
end Go.Proofs.Ytedhhjmjlpnlpaa.VW
