/- The walk over values: appends and copies. -/
import Derived.Test.YtedhhjmjlpnlpaaV7
namespace Go.Proofs.Ytedhhjmjlpnlpaa.VW
open Go Go.RowKit
set_option linter.unusedVariables false
set_option linter.unusedSimpArgs false
section
variable {P : Program} {S : Sg} {w0 w w' : World} {F0 F F' : Nat → Prop} {E E' : Key → Inf} {N : Nat} {σ σ' : St} {a : Act} {k kb : Key} {g : Bool}

theorem allRows {rs : List (List AV)} {sz : Nat} (h : rs.all (fun r => r.length == sz && r.all cellOK) = true) : (∀ r ∈ rs, r.length = sz) ∧ rs.flatten.all cellOK = true := by
  simp only [List.all_eq_true, Bool.and_eq_true, beq_iff_eq] at h
  refine ⟨fun r hr => (h r hr).1, ?_⟩
  simp only [List.all_eq_true, List.mem_flatten]
  rintro x ⟨r, hr, hx⟩
  exact (h r hr).2 x hx
/-- What is appended or copied, as it is read. -/
theorem first_ok {ad : Option Addr} {len cap sz : Nat} {rs : List (List AV)} (hl : len = rs.length) (hr : rs = [] ∨ ∃ b o st, ad = some ⟨b, o, none⟩ ∧ RR w F E b st rs o) (hsz : ∀ r ∈ rs, r.length = sz) :
    ∃ news, RA w F E rs.flatten news ∧ news.length = rs.length * sz ∧ ∀ w' : World, (∀ x, w'.cell? x = w.cell? x) → (Builtin.firstCells sz len (.slice ad len cap)).run P w' = .ok news.toArray w' := by
  subst hl
  rcases hr with rfl | ⟨b, o, st, rfl, hr⟩
  · refine ⟨[], RA_nil, by simp, fun w' _ => ?_⟩
    cases ad with
    | none => exact run_firstCells_none w' sz _ _ _
    | some ad => exact run_firstCells_some w' sz _ ad _ _ [] (by simp) (fun j v hj => by simp at hj)
  · rw [RR_flat] at hr
    obtain ⟨vs, hv, hra⟩ := RC_range hr.2
    have hlen := RA_length hv
    rw [flatten_length hsz] at hlen
    refine ⟨vs, hv, hlen, fun w' hc => ?_⟩
    exact run_firstCells_some w' sz _ _ _ _ vs hlen (fun j v hj => by rw [Addr.add_mid, hc]; exact hra j v hj)

theorem run_app_grow (t ty e : TypeId) (i : TypeInfo) (z : Value) (ht : P.underlying t = some (.slice e)) (hi : P.info? e = some i) (hz : i.zero = some z)
    (ad : Option Addr) (sLen sCap : Nat) (olds : List Value) (hold : (Builtin.firstCells i.size sLen (.slice ad sLen sCap)).run P w.drew = .ok olds.toArray w.drew)
    (bd : Option Addr) (n c : Nat) (news : List Value) (hnew : (Builtin.firstCells i.size n (.slice bd n c)).run P w.drew = .ok news.toArray w.drew)
    (hg : sCap < sLen + n) (h63 : ((sLen + n : Nat) : Int) ≤ 9223372036854775807) (hfit : Builtin.nextslicecap (sLen + n) sCap * i.bytes ≤ 281474976710656) :
    (Builtin.append_ #[t, t] ty #[.slice ad sLen sCap, .slice bd n c]).run P w =
      .ok (.slice (some ⟨w.heap.size, 0, none⟩) (sLen + n) (grownCap w (sLen + n) sCap e))
        (w.drew.alloc (.cells (olds.toArray ++ news.toArray ++ Builtin.zeroCells z.cells (grownCap w (sLen + n) sCap e - (sLen + n))) e)) := by
  have hn : ¬ (sLen + n ≤ sCap) := by omega
  have h63' : ¬ (9223372036854775807 < ((sLen : Int) + (n : Int))) := by omega
  have h48' : ¬ (281474976710656 < Builtin.nextslicecap (sLen + n) sCap * i.bytes) := by omega
  simp [Builtin.append_, run_underlying ht, sizeOf, typeInfo, zeroValue, hi, hz, Builtin.lenOf, hn, h63', h48', Question.forced, hnew, hold, newRow, grownCap]
  congr 2
  apply Array.ext'
  simp [List.append_assoc]
theorem run_app_fit (t ty e : TypeId) (i : TypeInfo) (ht : P.underlying t = some (.slice e)) (hi : P.info? e = some i)
    (ad : Option Addr) (sLen sCap : Nat) (bd : Option Addr) (n c : Nat) (news : List Value) (hnew : (Builtin.firstCells i.size n (.slice bd n c)).run P w = .ok news.toArray w)
    (hg : sLen + n ≤ sCap) (hst : ∀ x, ad = some x → (storeCells (x.add (sLen * i.size)) news).run P w = .ok () w') (hn : ad = none → w' = w) :
    (Builtin.append_ #[t, t] ty #[.slice ad sLen sCap, .slice bd n c]).run P w = .ok (.slice ad (sLen + n) sCap) w' := by
  cases ad with
  | none =>
    rw [hn rfl]
    simp [Builtin.append_, run_underlying ht, sizeOf, typeInfo, hi, Builtin.lenOf, hg, hnew]
  | some x =>
    have := hst x rfl
    simp [Builtin.append_, run_underlying ht, sizeOf, typeInfo, hi, Builtin.lenOf, hg, hnew, this]
theorem below_grown (w : World) (o : Obj) : Below w.heap.size w (w.drew.alloc o) := ((Below.refl _ _).drew).alloc (Nat.le_refl _) o

theorem fit48 {sLen n cap : Nat} {bytes : Nat} (h : cap < sLen + n) (hb : ((sLen + n : Nat) : Int) * bytes ≤ 140737488355328) : Builtin.nextslicecap (sLen + n) cap * bytes ≤ 281474976710656 :=
  growslice_fits h (by
    have h2 : (((sLen + n) * bytes : Nat) : Int) ≤ 140737488355328 := by rw [Int.natCast_mul]; exact hb
    exact Int.ofNat_le.1 h2)

/-- A block that append made. -/
theorem app_grown (h : Rl w0 F0 N σ a w F E) {ie : TI} {old new : List (List AV)} {olds news : List Value} {e cap gen : Nat} {rest : Array Value} (hro : RA w F E old.flatten olds) (hrn : RA w F E new.flatten news)
    (hlo : ∀ r ∈ old, r.length = ie.size) (hln : ∀ r ∈ new, r.length = ie.size) (hcap : (old ++ new).length ≤ cap) (hsz : cap * ie.size ≤ (olds.toArray ++ news.toArray ++ rest).size)
    (hgen : (E k).gen < gen) :
    Rl w0 F0 N (σ.wr1 (k, gen, some (.rows ie.size (old ++ new)))) a (w.drew.alloc (.cells (olds.toArray ++ news.toArray ++ rest) e)) F (updK E k ⟨w.heap.size, gen, (old ++ new).length, ie.size, cap, true⟩) := by
  have hb := below_grown w (.cells (olds.toArray ++ news.toArray ++ rest) e)
  refine h.fresh (inf := ⟨w.heap.size, gen, (old ++ new).length, ie.size, cap, true⟩) hb hgen (Nat.le_refl _) ?_
  intro E' hE hk
  rw [RB, hk]
  refine ⟨rfl, rfl, hcap, .inr ⟨rfl, Nat.le_refl _, fun hF => Nat.lt_irrefl _ (h.bnd _ hF), ?_, ?_⟩⟩
  · exact BX_alloc w.drew _ e _ hsz
  · rw [RR_flat]
    refine ⟨fun r hr => ?_, ?_⟩
    · rcases List.mem_append.1 hr with hr | hr
      · exact hlo r hr
      · exact hln r hr
    · rw [List.flatten_append]
      have hra := RA_mono (E' := E') (F' := F) (w' := w.drew.alloc (.cells (olds.toArray ++ news.toArray ++ rest) e)) (fun _ h => h) (fun b o hF => hb.cell (p := ⟨b, o, none⟩) (h.bnd b hF)) hE _ _ (RA_append hro hrn)
      refine RC_of_range hra fun j v hj => ?_
      have := range_alloc w.drew (olds.toArray ++ news.toArray ++ rest) e j v (by
        simp only [Array.toList_append, List.append_assoc]
        rw [← List.append_assoc, List.getElem?_append_left (by have := (List.getElem?_eq_some_iff.1 hj).1; simpa using this)]
        exact hj)
      exact this

/-- An own row given up. -/
theorem Rl.consume (h : Rl w0 F0 N σ a w F E) : Rl w0 F0 N (σ.wr1 (kb, σ.γ kb + 1, none)) a w F (updK E kb { E kb with gen := σ.γ kb + 1 }) := by
  refine h.grow (Below.refl _ _) (fun _ h => h) h.bnd (fun _ h _ => h) rfl ?_ ?_ ?_ ?_
  · intro q; simp only [updK]; split
    · rename_i e; subst e; right; show (E q).gen < σ.γ q + 1; rw [h.gen]; exact Nat.lt_succ_self _
    · exact .inl rfl
  · intro q; simp only [updK, St.wr1]; split
    · rfl
    · exact h.gen q
  · intro q B' hq
    simp only [St.wr1, updK] at hq
    split at hq
    · cases hq
    · rename_i e; left; exact ⟨hq, by simp [updK, e]⟩
  · intro q q' ho ho' h1 h2 e
    have key : ∀ q, ownB (updK E kb { E kb with gen := σ.γ kb + 1 } q).al ((σ.wr1 (kb, σ.γ kb + 1, none)).H q) → w.heap.size ≤ (updK E kb { E kb with gen := σ.γ kb + 1 } q).b → False := by
      intro q hq hs
      by_cases e : q = kb
      · subst e; simp [updK, St.wr1, ownB] at hq
      · simp only [updK, St.wr1, if_neg e] at hq hs
        have := (h.own hq).2.2
        omega
    exact (key q ho h1).elim
/-- An empty row, with no block. -/
theorem Rl.empty (h : Rl w0 F0 N σ a w F E) {gen st : Nat} (hgen : (E k).gen < gen) : Rl w0 F0 N (σ.wr1 (k, gen, some (.rows st []))) a w F (updK E k ⟨0, gen, 0, st, 0, false⟩) := by
  refine h.grow (Below.refl _ _) (fun _ h => h) h.bnd (fun _ h _ => h) rfl ?_ ?_ ?_ ?_
  · intro q; simp only [updK]; split
    · rename_i e; subst e; exact .inr hgen
    · exact .inl rfl
  · intro q; simp only [updK, St.wr1]; split
    · rfl
    · exact h.gen q
  · intro q B' hq
    simp only [St.wr1, updK] at hq
    split at hq
    · rename_i e; cases hq; subst e; right; exact ⟨by simp [updK], by simp [updK], by simp [updK], .inl ⟨by simp [updK], rfl⟩⟩
    · rename_i e; left; exact ⟨hq, by simp [updK, e]⟩
  · intro q q' ho ho' h1 h2 e
    have key : ∀ q, ownB (updK E k ⟨0, gen, 0, st, 0, false⟩ q).al ((σ.wr1 (k, gen, some (.rows st []))).H q) → w.heap.size ≤ (updK E k ⟨0, gen, 0, st, 0, false⟩ q).b → False := by
      intro q hq hs
      by_cases e : q = k
      · subst e; simp [updK, St.wr1, ownB] at hq
      · simp only [updK, St.wr1, if_neg e] at hq hs
        have := (h.own hq).2.2
        omega
    exact (key q ho h1).elim

theorem append_ok (hS : OK P S) (h : Rl w0 F0 N σ a w F E) (hg : g = true) {t t' ty : Nat} {x y : Operand} (hp : (oAppend S g σ k t t' x y).pre) :
    Good P w0 F0 N σ a w (oAppend S g σ k t t' x y) (Builtin.append_ #[t, t'] ty #[a.eval x, a.eval y]) := by
  unfold oAppend at *
  split at hp
  · rename_i e _ _ _ et
    obtain ⟨inf, d, z, hi0, hu, h1, h2, h3, h4⟩ := tOK_out (hS.τ _ _ et)
    obtain rfl := descOK_slice h3
    split at hp
    · rename_i ie ee
      obtain ⟨inf', d', z', hi', hu', hs', hb', hd', hag', hz', hzz', hzs'⟩ := tOK_out (hS.τ _ _ ee)
      split at hp
      · rename_i q new er
        have zsz : ∀ n, (Builtin.zeroCells z'.cells n).size = n * ie.size := fun n => by rw [size_zeroCells, hzs']
        have hfl0 : ∀ ad w', (Builtin.firstCells inf'.size 0 (.slice ad 0 0)).run P w' = .ok ([] : List Value).toArray w' := by
          intro ad w'
          cases ad with
          | none => exact run_firstCells_none w' _ _ _ _
          | some ad => exact run_firstCells_some w' _ _ ad _ _ [] (by simp) (fun j v hj => by simp at hj)
        -- nothing onto nothing
        have none_case : ∀ (σ1 : St) (E1 : Key → Inf) (ad bd : Option Addr) (c gen : Nat) (news : List Value) , Rl w0 F0 N σ1 a w F E1 → (E1 k).gen < gen → news = [] →
            (Builtin.firstCells inf'.size 0 (.slice bd 0 c)).run P w = .ok news.toArray w → a.eval x = .slice ad 0 0 → a.eval y = .slice bd 0 c →
            ∃ v w' F' E', (Builtin.append_ #[t, t] ty #[a.eval x, a.eval y]).run P w = .ok v w' ∧ Rl w0 F0 N (σ1.wr1 (k, gen, some (.rows ie.size []))) a w' F' E' ∧ R w' F' E' (.own k gen) v := by
          intro σ1 E1 ad bd c gen news hr hgen hn0 hrun hv hy
          refine ⟨.slice ad 0 0, w, F, _, ?_, hr.empty hgen, ?_⟩
          · rw [hv, hy]
            have := run_app_fit (P := P) (w := w) (w' := w) t ty e inf' hu hi' ad 0 0 bd 0 c news hrun (Nat.le_refl _) (fun x' _ => by rw [hn0]; rfl) (fun _ => rfl)
            simpa using this
          · rw [R]; simp [updK, Value.oneCell']
        -- a new block
        have grow_case : ∀ (σ1 : St) (E1 : Key → Inf) (old : List (List AV)) (ad bd : Option Addr) (cap c gen n : Nat) (olds news : List Value) , Rl w0 F0 N σ1 a w F E1 → (E1 k).gen < gen → n = new.length →
            RA w F E1 old.flatten olds → olds.length = old.length * ie.size → RA w F E1 new.flatten news → news.length = new.length * ie.size → (∀ r ∈ old, r.length = ie.size) → (∀ r ∈ new, r.length = ie.size) →
            (Builtin.firstCells inf'.size old.length (.slice ad old.length cap)).run P w.drew = .ok olds.toArray w.drew →
            (Builtin.firstCells inf'.size n (.slice bd n c)).run P w.drew = .ok news.toArray w.drew → a.eval x = .slice ad old.length cap → a.eval y = .slice bd n c → cap < old.length + n →
            ((old ++ new).length : Int) * ie.bytes ≤ 140737488355328 → (old ++ new).length ≤ 140737488355328 →
            ∃ v w' F' E', (Builtin.append_ #[t, t] ty #[a.eval x, a.eval y]).run P w = .ok v w' ∧ Rl w0 F0 N (σ1.wr1 (k, gen, some (.rows ie.size (old ++ new)))) a w' F' E' ∧ R w' F' E' (.own k gen) v := by
          intro σ1 E1 old ad bd cap c gen n olds news hr hgen hn hro hol hrn hnl hlo hln hf1 hf2 hv hy hlt hb1 hb2
          have hge := grownCap_ge w (old.length + n) cap e
          refine ⟨_, _, F, _, by rw [hv, hy]; exact run_app_grow t ty e inf' z' hu hi' hz' ad _ cap olds hf1 bd n c news hf2 hlt (by simp at hb2; omega) (by rw [hb']; exact fit48 hlt (by rw [hn]; simpa using hb1)),
            app_grown (cap := grownCap w (old.length + n) cap e) hr hro hrn hlo hln (by simp; omega) ?_ hgen, ?_⟩
          · simp only [Array.size_append, List.size_toArray, zsz, hnl, hol]
            rw [← hn, ← Nat.add_mul, ← Nat.add_mul]
            exact Nat.mul_le_mul_right _ (by omega)
          · rw [R]; simp [updK, Value.oneCell', hn]
        split at hp
        · -- onto nothing
          rename_i p ex rs exx
          unfold apOut at hp ⊢
          obtain ⟨_, ⟨p1, p2, p3, p4, p5, p5'⟩, p6, p7, p8, p9, p10⟩ := hp
          subst p5'
          obtain ⟨hln, hcn⟩ := allRows p6
          have hx := h.sv hg (x := x) (by rw [exx]; exact p3)
          rw [exx, R] at hx
          obtain ⟨ad, len, cap, hv, hl, hcap, hexc, hnil, _⟩ := hx
          have hcap0 : cap = 0 := by have := hexc p4; omega
          subst hcap0
          have hl0 : len = 0 := by omega
          subst hl0
          obtain ⟨bd, n, c, hy, hn, hnc, hry⟩ := rows_ok h er p2 (h.sv hg p1)
          obtain ⟨news, hra, hnl, hrun⟩ := first_ok (P := P) (cap := c) hn hry hln
          rw [← hs'] at hrun
          have hgen : (E k).gen < σ.γ k + 1 := by rw [h.gen]; exact Nat.lt_succ_self _
          by_cases hn0 : n = 0
          · have hnew0 : new = [] := List.length_eq_zero_iff.1 (by omega)
            subst hn0
            subst hnew0
            exact none_case σ E ad bd c _ news h hgen (List.length_eq_zero_iff.1 (by simpa using hnl)) (hrun w (fun _ => rfl)) hv hy
          · exact grow_case σ E [] ad bd 0 c _ n [] news h hgen hn RA_nil (by simp) hra hnl (fun r hr => by simp at hr) hln (hfl0 ad _) (hrun w.drew (fun x => by simp)) hv hy (by simp; omega) p9 p10
        · -- onto an own row
          rename_i p kb g' exx
          split at hp
          · rename_i st rs hk
            unfold apOut at hp ⊢
            obtain ⟨_, ⟨p1, p2, p3, p4, p5, p5'⟩, p6, p7, p8, p9, p10⟩ := hp
            subst p5
            subst p5'
            obtain ⟨hln, hcn⟩ := allRows p6
            have hx := h.sv hg (x := x) (by rw [exx]; exact p3)
            rw [exx, R] at hx
            have hgen : g' = (E kb).gen := by rw [h.gen]; exact p4
            obtain ⟨bd, n, c, hy, hn, hnc, hry⟩ := rows_ok h er p2 (h.sv hg p1)
            obtain ⟨news, hra, hnl, hrun⟩ := first_ok (P := P) (cap := c) hn hry hln
            rw [← hs'] at hrun
            obtain ⟨b1, b2, b3, b4⟩ := h.blk kb _ hk
            have hcons := h.consume (kb := kb)
            have hE1 : ∀ q, updK E kb { E kb with gen := σ.γ kb + 1 } q = E q ∨ (E q).gen < (updK E kb { E kb with gen := σ.γ kb + 1 } q).gen := by
              intro q; simp only [updK]; split
              · rename_i e; subst e; right; show (E q).gen < σ.γ q + 1; rw [h.gen]; exact Nat.lt_succ_self _
              · exact .inl rfl
            have hra1 : RA w F (updK E kb { E kb with gen := σ.γ kb + 1 }) new.flatten news := RA_mono (fun _ h => h) (fun _ _ _ => rfl) hE1 _ _ hra
            have hg1 : (updK E kb { E kb with gen := σ.γ kb + 1 } k).gen < (if k = kb then σ.γ k + 1 else σ.γ k) + 1 := by
              simp only [updK]; split
              · rename_i e; subst e; exact Nat.lt_succ_self _
              · rw [h.gen]; exact Nat.lt_succ_self _
            rcases hx.2.1 hgen with ⟨hal, hv⟩ | ⟨hal, hl0, ad, hv⟩
            · rcases b4 with ⟨b4, _⟩ | ⟨_, b5, b6, b7, b8⟩
              · rw [b4] at hal; exact absurd hal (by simp)
              · rw [b1] at hv
                have hfr := (RR_flat _ _).1 b8
                by_cases hfit : rs.length + n ≤ (E kb).cap
                · -- in place
                  have hfit2 : rs.length * ie.size + news.length ≤ (E kb).cap * ie.size := by
                    rw [hnl, ← hn, ← Nat.add_mul]; exact Nat.mul_le_mul_right _ hfit
                  have hth : w.there (E kb).b (rs.length * ie.size) news.length := b7.there hfit2
                  have h1o : ∀ u ∈ news, u.oneCell' = true := cellsOK_one hcn hra
                  have hst := run_storeCells_cells (P := P) (E kb).b (rs.length * ie.size) news 0 w (fun j hj => by simpa using (hth j hj).1) (fun j hj => by simpa using (hth j hj).2) h1o
                  simp only [Nat.add_zero] at hst
                  refine ⟨.slice (some ⟨(E kb).b, 0, none⟩) (rs.length + n) (E kb).cap, w.setCells (E kb).b (rs.length * ie.size) news, F,
                    updK (updK E kb { E kb with gen := σ.γ kb + 1 }) k ⟨(E kb).b, (if k = kb then σ.γ k + 1 else σ.γ k) + 1, (rs ++ new).length, ie.size, (E kb).cap, true⟩, ?_, ?_, ?_⟩
                  · rw [hv, hy]
                    exact run_app_fit t ty e inf' hu hi' _ _ _ bd n c news (hrun w (fun _ => rfl)) hfit (fun x' hx' => by cases hx'; rw [hs', Addr.add_mid]; simpa using hst) (fun hf => by simp at hf)
                  · have hE2 : ∀ q, updK (updK E kb { E kb with gen := σ.γ kb + 1 }) k ⟨(E kb).b, (if k = kb then σ.γ k + 1 else σ.γ k) + 1, (rs ++ new).length, ie.size, (E kb).cap, true⟩ q = E q ∨
                        (E q).gen < (updK (updK E kb { E kb with gen := σ.γ kb + 1 }) k ⟨(E kb).b, (if k = kb then σ.γ k + 1 else σ.γ k) + 1, (rs ++ new).length, ie.size, (E kb).cap, true⟩ q).gen := by
                      intro q
                      by_cases e : q = k
                      · subst e
                        right
                        simp only [updK, if_true]
                        rw [h.gen]; split <;> omega
                      · simp only [updK, if_neg e]
                        exact hE1 q
                    refine h.turn (k := k) (kb := kb) (by rw [hk]; exact hal) (rs.length * ie.size) news rfl hE2 ?_ ?_
                    · intro q
                      simp only [updK, St.wr, St.wr1, List.cons_append, List.nil_append]
                      split
                      · rfl
                      · split
                        · rfl
                        · exact h.gen q
                    · intro q B' hq
                      simp only [updK, St.wr, St.wr1, List.cons_append, List.nil_append] at hq
                      split at hq
                      · rename_i e
                        cases hq
                        right
                        refine ⟨e, by simp [updK], ?_⟩
                        refine ⟨by simp [updK], by simp [updK], by simp [updK]; omega, .inr ⟨by simp [updK], by simp [updK]; exact b5, by simpa [updK] using b6, by simpa [updK] using BX_setCells news _ w b7, ?_⟩⟩
                        have hc := frozen_cells h b6 (rs.length * ie.size) news
                        have hbe : (updK (updK E kb { E kb with gen := σ.γ kb + 1 }) k ⟨(E kb).b, (if k = kb then σ.γ k + 1 else σ.γ k) + 1, (rs ++ new).length, ie.size, (E kb).cap, true⟩ k).b = (E kb).b := by simp [updK]
                        rw [hbe, RR_flat]
                        refine ⟨fun r hr => ?_, ?_⟩
                        · rcases List.mem_append.1 hr with hr | hr
                          · exact hfr.1 r hr
                          · exact hln r hr
                        · rw [List.flatten_append, RC_append, flatten_length hfr.1, Nat.zero_add]
                          refine ⟨?_, ?_⟩
                          · have := RC_setCells_out (us := news) (o := rs.length * ie.size) hfr.2 b6 (.inl (by rw [flatten_length hfr.1]; omega))
                            exact RC_mono (fun _ h => h) (fun _ _ _ => rfl) hE2 _ (fun _ => rfl) _ _ this
                          · refine RC_of_range (RA_mono (fun _ h => h) hc hE2 _ _ hra) ?_
                            exact World.rangeAt_setCells_same w _ _ news hth
                      · rename_i e
                        split at hq
                        · cases hq
                        · rename_i e2
                          exact .inl ⟨e2, hq, by simp [updK, e, e2]⟩
                  · rw [R]; simp [updK, Value.oneCell', hn]
                · -- a new block
                  obtain ⟨olds, ho1, ho2⟩ := RC_range hfr.2
                  have hol := RA_length ho1
                  rw [flatten_length hfr.1] at hol
                  refine grow_case _ _ rs _ bd (E kb).cap c _ n olds news hcons hg1 hn (RA_mono (fun _ h => h) (fun _ _ _ => rfl) hE1 _ _ ho1) hol hra1 hnl hfr.1 hln ?_ (hrun w.drew (fun x => by simp)) hv hy (by omega) p9 p10
                  exact run_firstCells_some w.drew _ _ _ _ _ olds (by rw [hs']; exact hol) (fun j v hj => by rw [Addr.add_mid]; simpa using ho2 j v hj)
            · have hr0 : rs = [] := List.length_eq_zero_iff.1 (by omega)
              subst hr0
              by_cases hn0 : n = 0
              · have hnew0 : new = [] := List.length_eq_zero_iff.1 (by omega)
                subst hn0
                subst hnew0
                exact none_case _ _ ad bd c _ news hcons hg1 (List.length_eq_zero_iff.1 (by simpa using hnl)) (hrun w (fun _ => rfl)) hv hy
              · exact grow_case _ _ [] ad bd 0 c _ n [] news hcons hg1 hn RA_nil (by simp) hra1 hnl (fun r hr => by simp at hr) hln (hfl0 ad _) (hrun w.drew (fun x => by simp)) hv hy (by simp; omega) p9 p10
          · exact hp.elim
        · exact hp.elim
      · exact hp.elim
    · exact hp.elim
  · exact hp.elim

theorem copy_ok (hS : OK P S) (h : Rl w0 F0 N σ a w F E) (hg : g = true) {t t' ty : Nat} {x y : Operand} (hp : (oCopy S g σ t t' x y).pre) :
    Good P w0 F0 N σ a w (oCopy S g σ t t' x y) (Builtin.copy_ #[t, t'] ty #[a.eval x, a.eval y]) := by
  unfold oCopy at *
  split at hp
  · rename_i e _ _ _ et
    obtain ⟨inf, d, z, hi0, hu, h1, h2, h3, h4⟩ := tOK_out (hS.τ _ _ et)
    obtain rfl := descOK_slice h3
    split at hp
    · rename_i ie ee
      obtain ⟨inf', d', z', hi', hu', hs', hb', hd', hag', hz', hzz', hzs'⟩ := tOK_out (hS.τ _ _ ee)
      split at hp
      · rename_i q new p kb g' er exx
        split at hp
        · rename_i st rs hk
          obtain ⟨_, p1, p2, p3, p4, p5, p6, p7⟩ := hp
          subst p5
          obtain ⟨hln, hcn⟩ := allRows p7
          have hx := h.sv hg (x := x) (by rw [exx]; exact p3)
          rw [exx, R] at hx
          have hgen : g' = (E kb).gen := by rw [h.gen]; exact p4
          obtain ⟨bd, n, c, hy, hn, hnc, hry⟩ := rows_ok h er p2 (h.sv hg p1)
          obtain ⟨news, hra, hnl, hrun⟩ := first_ok (P := P) (cap := c) hn hry hln
          rw [← hs'] at hrun
          obtain ⟨b1, b2, b3, b4⟩ := h.blk kb _ hk
          have run : ∀ ad cap w', a.eval x = .slice ad rs.length cap → (∀ y, ad = some y → (storeCells y news).run P w = .ok () w') → (ad = none → w' = w) →
              (Builtin.copy_ #[t, t'] ty #[a.eval x, a.eval y]).run P w = .ok (goInt new.length) w' := by
            intro ad cap w' hv hst hnn
            have hmin : Nat.min n rs.length = n := by
              show min n rs.length = n; omega
            have hr := hrun w (fun _ => rfl)
            rw [hv, hy]
            cases ad with
            | none =>
              rw [hnn rfl]
              rw [← hn]
              simp [Builtin.copy_, run_underlying hu, Builtin.lenOf, sizeOf, typeInfo, hi', hmin, hr]
            | some y =>
              have := hst y rfl
              rw [← hn]
              simp [Builtin.copy_, run_underlying hu, Builtin.lenOf, sizeOf, typeInfo, hi', hmin, hr, this]
          rcases hx.2.1 hgen with ⟨hal, hv⟩ | ⟨hal, hl0, ad, hv⟩
          · rcases b4 with ⟨b4, _⟩ | ⟨_, b5, b6, b7, b8⟩
            · rw [b4] at hal; exact absurd hal (by simp)
            · rw [b1] at hv
              have hfr := (RR_flat _ _).1 b8
              have hle : news.length ≤ (E kb).cap * ie.size := by rw [hnl]; exact Nat.mul_le_mul_right _ (by omega)
              have hth : w.there (E kb).b 0 news.length := b7.there (by omega)
              have h1o : ∀ u ∈ news, u.oneCell' = true := cellsOK_one hcn hra
              have hst := run_storeCells_cells (P := P) (E kb).b 0 news 0 w (fun j hj => by simpa using (hth j hj).1) (fun j hj => by simpa using (hth j hj).2) h1o
              simp only [Nat.add_zero] at hst
              refine ⟨goInt new.length, w.setCells (E kb).b 0 news, F, E, run _ _ _ hv (fun y hy => by cases hy; exact hst) (fun hf => by simp at hf), ?_, by show R _ _ _ (.int _ _) _; rw [R]; rfl⟩
              refine h.store (by rw [hk]; exact hal) 0 news hal ?_
              refine ⟨by rw [b1]; simp; omega, b2, b3, .inr ⟨hal, b5, b6, BX_setCells news _ w b7, ?_⟩⟩
              rw [RR_append]
              refine ⟨?_, ?_⟩
              · rw [RR_flat]
                exact ⟨hln, RC_of_range (RA_mono (fun _ h => h) (frozen_cells h b6 0 news) (fun _ => .inl rfl) _ _ hra) (World.rangeAt_setCells_same w _ _ news hth)⟩
              · have hd := RR_drop new.length p6 b8
                rw [RR_flat] at hd ⊢
                exact ⟨hd.1, RC_setCells_out hd.2 b6 (.inr (by omega))⟩
          · have hr0 : rs = [] := List.length_eq_zero_iff.1 (by omega)
            have hnew0 : new = [] := List.length_eq_zero_iff.1 (by rw [hr0] at p6; simpa using p6)
            have hnews0 : news = [] := List.length_eq_zero_iff.1 (by rw [hnl, hnew0]; simp)
            refine ⟨goInt new.length, w, F, E, run ad 0 w (by rw [hv, hr0]; rfl) (fun y _ => by rw [hnews0]; rfl) (fun _ => rfl), ?_, by show R _ _ _ (.int _ _) _; rw [R]; rfl⟩
            have e1 : new ++ rs.drop new.length = rs := by rw [hr0, hnew0]; rfl
            show Rl _ _ _ (σ.wr1 (kb, σ.γ kb, some (.rows ie.size (new ++ rs.drop new.length)))) a w F E
            rw [e1]
            have e2 : σ.wr1 (kb, σ.γ kb, some (.rows ie.size rs)) = σ := by
              unfold St.wr1
              have u1 : updK σ.H kb (some (.rows ie.size rs)) = σ.H := by funext q; simp only [updK]; split; (rename_i e; rw [e, hk]); rfl
              have u2 : updK σ.γ kb (σ.γ kb) = σ.γ := by funext q; simp only [updK]; split; (rename_i e; rw [e]); rfl
              simp only [u1, u2]
            rw [e2]; exact h
        · exact hp.elim
      · exact hp.elim
    · exact hp.elim
  · exact hp.elim
end
end Go.Proofs.Ytedhhjmjlpnlpaa.VW
