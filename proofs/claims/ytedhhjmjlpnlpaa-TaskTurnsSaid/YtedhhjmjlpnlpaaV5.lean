/- The walk over values: built values, lengths, and operations that make memory. -/
import Derived.Test.YtedhhjmjlpnlpaaV4
namespace Go.Proofs.Ytedhhjmjlpnlpaa.VW
open Go Go.RowKit
set_option linter.unusedVariables false
set_option linter.unusedSimpArgs false
section
variable {P : Program} {S : Sg} {w0 w w' : World} {F0 F F' : Nat → Prop} {E E' : Key → Inf} {N : Nat} {σ σ' : St} {a : Act} {k : Key} {g : Bool}

theorem cellOK_one {x : AV} {v : Value} (h : cellOK x = true) (hr : R w F E x v) : v.oneCell' = true := by
  cases x <;> simp [cellOK] at h <;> rw [R] at hr
  · subst hr; rfl
  · subst hr; rfl
  · obtain ⟨_, _, _, rfl, _⟩ := hr; rfl
  · exact hr.2.2
  · exact hr.2.2
  · exact hr.2.2
  · obtain ⟨_, _, rfl, _⟩ := hr; rfl
  · obtain ⟨_, rfl, _⟩ := hr; rfl
  · obtain ⟨_, rfl, _⟩ := hr; rfl
theorem cellsOK_one : ∀ {xs : List AV} {vs : List Value}, xs.all cellOK = true → RA w F E xs vs → ∀ u ∈ vs, u.oneCell' = true
  | [], vs, h, hr, u, hu => by rw [RA] at hr; subst hr; cases hu
  | x :: xs, vs, h, hr, u, hu => by
    rw [RA] at hr; obtain ⟨v, us, rfl, h1, h2⟩ := hr
    rw [List.all_cons, Bool.and_eq_true] at h
    rcases List.mem_cons.1 hu with rfl | hu
    · exact cellOK_one h.1 h1
    · exact cellsOK_one h.2 h2 u hu
theorem vals_ok {x : AV} {v : Value} (h : valOK x = true) (hr : R w F E x v) : ∃ vs : List Value, v.cells = vs.toArray ∧ RA w F E (cellsOf x) vs ∧ ∀ u ∈ vs, u.oneCell' = true := by
  by_cases hx : ∃ cs, x = .agg cs
  · obtain ⟨cs, rfl⟩ := hx
    have hr' := hr
    rw [R] at hr'; obtain ⟨vs, rfl, h1⟩ := hr'
    exact ⟨vs, rfl, h1, cellsOK_one h h1⟩
  · have h1 : valOK x = cellOK x := by cases x <;> first | rfl | exact absurd ⟨_, rfl⟩ hx
    have h2 : cellsOf x = [x] := by cases x <;> first | rfl | exact absurd ⟨_, rfl⟩ hx
    rw [h1] at h
    have h3 := cellOK_one h hr
    refine ⟨[v], ?_, ?_, ?_⟩
    · cases v <;> first | rfl | exact absurd h3 (by simp [Value.oneCell'])
    · rw [h2]; exact RA_cons hr RA_nil
    · intro u hu; rw [List.mem_singleton.1 hu]; exact h3

theorem R_wk1 {x : AV} {v : Value} (h : R w F E x v) : R w F E (wk1 x) v := by
  cases x <;> try exact h
  rename_i ex rows
  rw [R] at h
  simp only [wk1]
  rw [R]
  obtain ⟨ad, len, cap, h1, h2, h3, h4, h5⟩ := h
  exact ⟨ad, len, cap, h1, h2, h3, fun hf => by simp at hf, h5⟩
theorem RA_wk1 : ∀ {xs : List AV} {vs : List Value}, RA w F E xs vs → RA w F E (xs.map wk1) vs
  | [], vs, h => by rw [RA] at h; subst h; exact RA_nil
  | x :: xs, vs, h => by
    rw [RA] at h; obtain ⟨v, us, rfl, h1, h2⟩ := h
    exact RA_cons (R_wk1 h1) (RA_wk1 h2)
theorem R_wk2 {x : AV} {v : Value} (h : R w F E x v) : R w F E (wk2 x) v := by
  by_cases ha : ∃ cs, x = .agg cs
  · obtain ⟨cs, rfl⟩ := ha
    rw [R] at h
    obtain ⟨vs, rfl, hr⟩ := h
    simp only [wk2]
    rw [R]
    exact ⟨vs, rfl, RA_wk1 hr⟩
  · have e1 : wk2 x = wk1 x := by cases x <;> first | rfl | exact absurd ⟨_, rfl⟩ ha
    rw [e1]; exact R_wk1 h
theorem RA_wk2 : ∀ {xs : List AV} {vs : List Value}, RA w F E xs vs → RA w F E (xs.map wk2) vs
  | [], vs, h => by rw [RA] at h; subst h; exact RA_nil
  | x :: xs, vs, h => by
    rw [RA] at h; obtain ⟨v, us, rfl, h1, h2⟩ := h
    exact RA_cons (R_wk2 h1) (RA_wk2 h2)
theorem R_wk3 {x : AV} {v : Value} (h : R w F E x v) : R w F E (wk3 x) v := by
  by_cases ha : ∃ cs, x = .tup cs
  · obtain ⟨cs, rfl⟩ := ha
    rw [R] at h
    obtain ⟨vs, rfl, hr⟩ := h
    simp only [wk3]
    rw [R]
    exact ⟨vs, rfl, RA_wk2 hr⟩
  · have e1 : wk3 x = wk2 x := by cases x <;> first | rfl | exact absurd ⟨_, rfl⟩ ha
    rw [e1]; exact R_wk2 h
theorem cell_wk1 (x : AV) : cellOK (wk1 x) = cellOK x := by cases x <;> rfl

/-! build -/
theorem foldSet (off : Nat) : ∀ (vs : List Value) (cs : List Value) (j : Nat), off + j + vs.length ≤ cs.length →
    ((vs.zipIdx j).foldl (fun cs c => cs.set (off + c.2) c.1) cs) = cs.take (off + j) ++ vs ++ cs.drop (off + j + vs.length)
  | [], cs, j, _ => by simp
  | v :: vs, cs, j, h => by
    rw [List.zipIdx_cons, List.foldl_cons, foldSet off vs _ (j + 1) (by simp at h ⊢; omega)]
    have := list_seg_step cs (off + j) v vs (by simpa using h)
    rw [show off + (j + 1) = off + j + 1 by omega]
    exact this
theorem foldSetA (off : Nat) (vs : List Value) (cs : Array Value) (h : off + vs.length ≤ cs.size) :
    (vs.toArray.zipIdx.foldl (fun cs (c, j) => cs.setIfInBounds (off + j) c) cs).toList = cs.toList.take off ++ (vs ++ cs.toList.drop (off + vs.length)) := by
  have key : ∀ (l : List (Value × Nat)) (cs : Array Value), (l.foldl (fun cs c => cs.setIfInBounds (off + c.2) c.1) cs).toList = l.foldl (fun cs c => cs.set (off + c.2) c.1) cs.toList := by
    intro l
    induction l with
    | nil => intro cs; rfl
    | cons x l ih => intro cs; rw [List.foldl_cons, List.foldl_cons, ih]; simp
  rw [← Array.foldl_toList]
  have hz : vs.toArray.zipIdx.toList = vs.zipIdx 0 := by simp
  rw [hz]
  have := foldSet off vs cs.toList 0 (by simpa using h)
  rw [show ((fun cs (x : Value × Nat) => match x with | (c, j) => cs.setIfInBounds (off + j) c) : Array Value → Value × Nat → Array Value) = fun cs c => cs.setIfInBounds (off + c.2) c.1 from rfl, key, this]
  simp
theorem RA_setR {cs c : List AV} {vs us : List Value} {o : Nat} (h : RA w F E cs vs) (k : RA w F E c us) (ho : o + c.length ≤ cs.length) : RA w F E (setR cs o c) (vs.take o ++ (us ++ vs.drop (o + us.length))) := by
  unfold setR
  rw [RA_length k]
  exact RA_append (RA_take o h) (RA_append k (RA_drop _ h))
theorem length_setR {cs c : List AV} {o : Nat} (ho : o + c.length ≤ cs.length) : (setR cs o c).length = cs.length := by
  simp only [setR, List.length_append, List.length_take, List.length_drop]; omega
theorem fill_ok (h : Rl w0 F0 N σ a w F E) (hg : g = true) (pl : Nat → Option (Nat × Nat)) : ∀ (ps : List (Nat × Operand)) (cs : List AV) (vs : Array Value), RA w F E cs vs.toList →
    (buildF pl g σ ps cs).p → ∃ us : Array Value, Instr.fill pl vs (ps.map fun p => (p.1, a.eval p.2)) = some us ∧ RA w F E (buildF pl g σ ps cs).l us.toList
  | [], cs, vs, hr, hp => ⟨vs, rfl, hr⟩
  | (i, x) :: r, cs, vs, hr, hp => by
    rw [buildF] at hp ⊢
    split at hp
    · exact hp.elim
    · rename_i off sz epl
      obtain ⟨⟨p1, p2, p3, p4⟩, p5⟩ := hp
      obtain ⟨us, hu, hra, _⟩ := vals_ok p2 (h.sv hg p1)
      have hl := RA_length hra
      have hl2 := RA_length hr
      have hsz : (a.eval x).cells.size = sz := by rw [hu]; simp [hl, p3]
      have hfit : ¬ off + (a.eval x).cells.size > vs.size := by rw [hu]; simp [hl]; simp at hl2; omega
      have hset := foldSetA off us vs (by simp at hl2; omega)
      obtain ⟨fs, hf1, hf2⟩ := fill_ok h hg pl r (setR cs off (cellsOf (strip g (σ.ev x)).v)) (us.toArray.zipIdx.foldl (fun cs (c, j) => cs.setIfInBounds (off + j) c) vs)
        (by rw [hset]; exact RA_setR hr hra p4) p5
      refine ⟨fs, ?_, hf2⟩
      rw [List.map_cons, Instr.fill]
      simp only [epl, hsz, hfit]
      simp only [hu]
      have hfit' : off + sz ≤ vs.size := by simp at hl2; omega
      simpa [hsz, ← hu, hfit'] using hf1
theorem mapM_info (hS : OK P S) : ∀ (fs : List Field) , ((fs.map (fun f => (f.offset, f.type))).all (fun f => (S.τ f.2).isSome) = true) →
    ∃ pl, fs.mapM (fun f => (P.info? f.type).map fun i => (f.offset, i.size)) = some pl ∧ ∀ i, pl[i]? = placesOf S (fs.map (fun f => (f.offset, f.type))) i
  | [], _ => ⟨[], rfl, fun i => by simp [placesOf]⟩
  | f :: fs, h => by
    simp only [List.map_cons, List.all_cons, Bool.and_eq_true] at h
    obtain ⟨pl, h1, h2⟩ := mapM_info hS fs h.2
    cases ht : S.τ f.type with
    | none => simp [ht] at h
    | some j =>
      obtain ⟨inf, d, z, hi, _, hs, _⟩ := tOK_out (hS.τ _ _ ht)
      refine ⟨(f.offset, j.size) :: pl, by simp [List.mapM_cons, hi, h1, hs], fun i => ?_⟩
      cases i with
      | zero => simp [placesOf, ht]
      | succ i => simpa [placesOf] using h2 i
theorem build_ok (hS : OK P S) (h : Rl w0 F0 N σ a w F E) (hg : g = true) {t : Nat} {ps : List (Nat × Operand)} (hp : (oBuild S g σ t ps).pre) :
    Good P w0 F0 N σ a w (oBuild S g σ t ps) (Instr.build t (ps.map fun p => (p.1, a.eval p.2)).toArray) := by
  unfold oBuild at *
  split at hp
  · rename_i fs _ _ z0 et
    obtain ⟨inf, d, z, hi, hu, h1, h2, h3, h3', hz, hzz, hzs⟩ := tOK_out (hS.τ _ _ et)
    obtain ⟨FS, rfl, hfs⟩ := descOK_struct h3
    obtain ⟨p1, p2⟩ := hp
    obtain ⟨us, hf, hr⟩ := fill_ok h hg (placesOf S fs) ps z0 z.cells (zOK_RA hzz) p1
    obtain ⟨pl, hpl1, hpl2⟩ := mapM_info hS FS.toList (by rw [hfs]; exact p2)
    refine Good.pure h (v := .agg us) ?_ (by simp only [R]; exact ⟨us.toList, by simp, hr⟩)
    refine run_build w t _ us ?_
    unfold Program.built
    simp only [hi, hu, hz, hpl1]
    have : (fun x => pl.toArray[x]?) = placesOf S fs := by funext i; rw [← hfs]; simpa using hpl2 i
    rw [this]; exact hf
  · rename_i n e _ _ z0 et
    obtain ⟨inf, d, z, hi, hu, h1, h2, h3, h3', hz, hzz, hzs⟩ := tOK_out (hS.τ _ _ et)
    obtain rfl := descOK_array h3
    split at hp
    · rename_i ie ee
      obtain ⟨inf', _, _, hi', _, hs', _⟩ := tOK_out (hS.τ _ _ ee)
      obtain ⟨us, hf, hr⟩ := fill_ok h hg _ ps z0 z.cells (zOK_RA hzz) hp
      refine Good.pure h (v := .agg us) ?_ (by simp only [R]; exact ⟨us.toList, by simp, hr⟩)
      refine run_build w t _ us ?_
      unfold Program.built
      simp only [hi, hu, hz, hi', hs']
      exact hf
    · exact hp.elim
  · exact hp.elim

/-! lengths -/
theorem rows_ok (h : Rl w0 F0 N σ a w F E) {x : AV} {v : Value} {q : Prop} {rs : List (List AV)} (hr : rowsOf σ x = some (q, rs)) (hq : q) (hv : R w F E x v) :
    ∃ ad len cap, v = .slice ad len cap ∧ len = rs.length ∧ len ≤ cap ∧ (rs = [] ∨ ∃ b o st, ad = some ⟨b, o, none⟩ ∧ RR w F E b st rs o) := by
  unfold rowsOf at hr
  split at hr
  · cases hr
    rw [R] at hv
    obtain ⟨ad, len, cap, e, h1, h2, _, _, h5⟩ := hv
    refine ⟨ad, len, cap, e, h1, h2, ?_⟩
    rcases h5 with h5 | ⟨b, o, st, h6, _, h7⟩
    · exact .inl h5
    · exact .inr ⟨b, o, st, h6, h7⟩
  · rename_i k gg
    rw [R] at hv
    split at hr
    · rename_i st rs' hk
      cases hr
      obtain ⟨b1, b2, b3, b4⟩ := h.blk k _ hk
      rcases hv.2.1 (by rw [h.gen]; exact hq) with ⟨hal, e⟩ | ⟨hal, hl0, ad, e⟩
      · rcases b4 with ⟨b4, _⟩ | ⟨_, _, _, _, b8⟩
        · rw [b4] at hal; exact absurd hal (by simp)
        · exact ⟨_, _, _, e, b1, b3, .inr ⟨_, _, _, rfl, b8⟩⟩
      · exact ⟨ad, 0, 0, e, by omega, Nat.le_refl _, .inl (List.length_eq_zero_iff.1 (by omega))⟩
    · rename_i rs' hk
      cases hr
      obtain ⟨b1, b3, b4⟩ := h.blk k _ hk
      rcases hv.2.1 (by rw [h.gen]; exact hq) with ⟨hal, e⟩ | ⟨hal, hl0, ad, e⟩
      · rcases b4 with ⟨b4, _⟩ | ⟨_, _, b8⟩
        · rw [b4] at hal; exact absurd hal (by simp)
        · exact ⟨_, _, _, e, b1, b3, .inr ⟨_, _, _, rfl, b8⟩⟩
      · exact ⟨ad, 0, 0, e, by omega, Nat.le_refl _, .inl (List.length_eq_zero_iff.1 (by omega))⟩
    · cases hr
  · cases hr
theorem isSl_ok (hS : OK P S) {t : Nat} (h : isSl S t = true) : ∃ e, P.underlying t = some (.slice e) := by
  unfold isSl at h
  split at h
  · rename_i e _ _ _ et
    obtain ⟨inf, d, z, hi, hu, h1, h2, h3, h4⟩ := tOK_out (hS.τ _ _ et)
    obtain rfl := descOK_slice h3
    exact ⟨_, hu⟩
  · exact absurd h (by simp)
theorem len_ok (hS : OK P S) (h : Rl w0 F0 N σ a w F E) (hg : g = true) {t ty : Nat} {x : Operand} (hp : (oLen S g σ t x).pre) :
    Good P w0 F0 N σ a w (oLen S g σ t x) (Builtin.len_ #[t] ty #[a.eval x]) := by
  unfold oLen at *
  split at hp
  · rename_i q rs er
    obtain ⟨p1, p2, p3⟩ := hp
    obtain ⟨e, hu⟩ := isSl_ok hS p3
    obtain ⟨ad, len, cap, hv, hl, _⟩ := rows_ok h er p2 (h.sv hg p1)
    refine Good.pure h (v := goInt rs.length) (by rw [hv, hl]; simp [Builtin.len_, run_underlying hu]) (by show R _ _ _ (.int _ _) _; rw [R]; rfl)
  · exact hp.elim
theorem cap_ok (hS : OK P S) (h : Rl w0 F0 N σ a w F E) (hg : g = true) {t ty : Nat} {x : Operand} (hp : (oCap S g σ t x).pre) :
    Good P w0 F0 N σ a w (oCap S g σ t x) (Builtin.cap_ #[t] ty #[a.eval x]) := by
  unfold oCap at *
  split at hp
  · rename_i p ex rs er
    obtain ⟨p1, p2, p3⟩ := hp
    obtain ⟨e, hu⟩ := isSl_ok hS p3
    have hx := h.sv hg (x := x) (by rw [er]; exact p1)
    rw [er, R] at hx
    obtain ⟨ad, len, cap, hv, hl, _, hc, _⟩ := hx
    refine Good.pure h (v := goInt rs.length) (by rw [hv, hc p2, hl]; simp [Builtin.cap_, run_underlying hu]) (by show R _ _ _ (.int _ _) _; rw [R]; rfl)
  · exact hp.elim
theorem minmax_ok (h : Rl w0 F0 N σ a w F E) (hg : g = true) {mx : Bool} {ty : Nat} {ts : Array Nat} {x y : Operand} (hp : (oMinMax mx g σ x y).pre) :
    Good P w0 F0 N σ a w (oMinMax mx g σ x y) (if mx then Builtin.max_ ts ty #[a.eval x, a.eval y] else Builtin.min_ ts ty #[a.eval x, a.eval y]) := by
  unfold oMinMax at *
  split at hp
  · rename_i p kk m q k' n e1 e2
    have hx := h.sv hg (x := x) (by rw [e1]; exact hp.1)
    have hy := h.sv hg (x := y) (by rw [e2]; exact hp.2)
    rw [e1, R] at hx; rw [e2, R] at hy
    refine Good.pure h (v := .int kk (if mx then (if m < n then n else m) else (if n < m then n else m))) ?_ (by show R _ _ _ (.int _ _) _; rw [R])
    rw [hx, hy]
    cases mx <;> simp [Builtin.max_, Builtin.min_, Builtin.max2, Builtin.min2, List.foldlM]
  · exact hp.elim
theorem func_ok (h : Rl w0 F0 N σ a w F E) (hg : g = true) {f : Nat} {cs : List Operand} (hp : (args g σ cs).p) :
    {q : Prop} → Good P w0 F0 N σ a w ⟨q, .fn f (args g σ cs).l, []⟩ (Instr.makeFunc (.func f) #[] (cs.map a.eval).toArray) := fun {q} =>
  Good.pure h (v := .func (.func f) #[] (cs.map a.eval).toArray) rfl (by simp only [R]; exact ⟨_, rfl, h.svA hg hp⟩)
end
end Go.Proofs.Ytedhhjmjlpnlpaa.VW
