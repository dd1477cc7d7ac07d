/- The walk over values: stores, cuts, appends, copies. -/
import Derived.Test.YtedhhjmjlpnlpaaV6
namespace Go.Proofs.Ytedhhjmjlpnlpaa.VW
open Go Go.RowKit
set_option linter.unusedVariables false
set_option linter.unusedSimpArgs false
section
variable {P : Program} {S : Sg} {w0 w w' : World} {F0 F F' : Nat → Prop} {E E' : Key → Inf} {N : Nat} {σ σ' : St} {a : Act} {k kb : Key} {g : Bool}

/-- One own block written; its key may be another one behind it. -/
theorem Rl.turn (h : Rl w0 F0 N σ a w F E) (hk : ownB (E kb).al (σ.H kb)) (o : Nat) (vs : List Value) (hT : σ'.T = σ.T)
    (hE : ∀ q, E' q = E q ∨ (E q).gen < (E' q).gen) (hg : ∀ q, (E' q).gen = σ'.γ q)
    (hB : ∀ q B, σ'.H q = some B → (q ≠ kb ∧ σ.H q = some B ∧ E' q = E q) ∨ (q = k ∧ (E' k).b = (E kb).b ∧ RB (w.setCells (E kb).b o vs) F E' w0.heap.size k B)) :
    Rl w0 F0 N σ' a (w.setCells (E kb).b o vs) F E' := by
  obtain ⟨hb1, hb2, hb3⟩ := h.own hk
  have hc := frozen_cells h hb2 o vs
  refine ⟨h.defs, h.size, fun t => by rw [hT]; exact R_mono (fun _ h => h) hc hE _ _ (h.tmp t), hg, ?_, ?_, ?_, h.sub, h.new, setCells_below hb1 vs o _ _ h.below⟩
  · intro q B hq
    rcases hB q B hq with ⟨h1, h2, h3⟩ | ⟨rfl, _, h3⟩
    · have hr := h.blk q B h2
      refine RB_mono (fun _ h => h) hc hE h3 (fun hO => (RB_own hr hO).2.1) (fun hO => ?_) hr
      exact heap_setCells_other _ _ _ _ _ (fun e' => h1 (h.inj q kb (by rw [h2]; exact hO) hk e'))
    · exact h3
  · intro q q' h1 h2 e
    have key : ∀ q, ownB (E' q).al (σ'.H q) → (q ≠ kb ∧ ownB (E q).al (σ.H q) ∧ (E' q).b = (E q).b) ∨ (q = k ∧ (E' k).b = (E kb).b) := by
      intro q hq
      cases hq' : σ'.H q with
      | none => rw [hq'] at hq; exact hq.elim
      | some B =>
        rcases hB q B hq' with ⟨h1, h2, h3⟩ | ⟨rfl, h3, _⟩
        · left; refine ⟨h1, ?_, by rw [h3]⟩
          rw [hq', h3] at hq; rw [h2]; exact hq
        · exact .inr ⟨rfl, h3⟩
    rcases key q h1 with ⟨a1, a2, a3⟩ | ⟨rfl, a3⟩ <;> rcases key q' h2 with ⟨b1, b2, b3⟩ | ⟨rfl, b3⟩
    · exact h.inj q q' a2 b2 (by rw [← a3, ← b3]; exact e)
    · exact absurd (h.inj q kb a2 hk (by rw [← a3, ← b3]; exact e)) a1
    · exact absurd (h.inj q' kb b2 hk (by rw [← b3, ← a3]; exact e.symm)) b1
    · rfl
  · intro b hb; rw [size_setCells]; exact h.bnd b hb

theorem RC_setCells {b : Nat} {cs c : List AV} {us : List Value} {p o : Nat} (h : RC w F E b cs p) (hu : RA w F E c us) (hb : ¬ F b) (ho : o + c.length ≤ cs.length) (hth : w.there b (p + o) us.length) :
    RC (w.setCells b (p + o) us) F E b (setR cs o c) p := by
  have hl := RA_length hu
  have hc : ∀ b' o', F b' → (w.setCells b (p + o) us).cell? ⟨b', o', none⟩ = w.cell? ⟨b', o', none⟩ := fun b' o' hF =>
    World.cell?_setCells_out b us (p + o) w ⟨b', o', none⟩ (fun e _ => absurd hF (by simp only at e; rw [e]; exact hb))
  have mono : ∀ xs vs, RA w F E xs vs → RA (w.setCells b (p + o) us) F E xs vs := RA_mono (fun _ h => h) hc (fun _ => .inl rfl)
  obtain ⟨vs, hv, hr⟩ := RC_range h
  have hlv := RA_length hv
  refine RC_of_range (mono _ _ (RA_setR hv hu ho)) ?_
  intro j v hj
  by_cases h1 : j < o
  · have hj' : vs[j]? = some v := by
      rw [List.getElem?_append_left (by simp; omega)] at hj
      simpa [List.getElem?_take, h1] using hj
    rw [World.cell?_setCells_out b us (p + o) w ⟨b, p + j, none⟩ (fun _ _ => .inl (by show p + j < p + o; omega))]
    exact hr j v hj'
  · by_cases h2 : j < o + us.length
    · have hj' : us[j - o]? = some v := by
        rw [List.getElem?_append_right (by simp; omega), List.getElem?_append_left (by simp; omega)] at hj
        simp only [List.length_take] at hj
        rwa [show min o vs.length = o by omega] at hj
      have := World.cell?_setCells_in b us (p + o) w (fun i hi => (hth i hi).1) (j - o) (by omega)
      rw [show p + o + (j - o) = p + j by omega] at this
      rw [this, ← hj', List.getElem?_eq_getElem (by omega)]
    · have hj' : vs[j]? = some v := by
        rw [List.getElem?_append_right (by simp; omega), List.getElem?_append_right (by simp; omega)] at hj
        simp only [List.length_take, List.getElem?_drop] at hj
        rw [show min o vs.length = o by omega] at hj
        rwa [show o + us.length + (j - o - us.length) = j by omega] at hj
      rw [World.cell?_setCells_out b us (p + o) w ⟨b, p + j, none⟩ (fun _ _ => .inr (by show p + o + us.length ≤ p + j; omega))]
      exact hr j v hj'
theorem RC_setCells_out {b : Nat} {cs : List AV} {us : List Value} {p o : Nat} (h : RC w F E b cs p) (hb : ¬ F b) (ho : p + cs.length ≤ o ∨ o + us.length ≤ p) :
    RC (w.setCells b o us) F E b cs p := by
  have hc : ∀ b' o', F b' → (w.setCells b o us).cell? ⟨b', o', none⟩ = w.cell? ⟨b', o', none⟩ := fun b' o' hF =>
    World.cell?_setCells_out b us o w ⟨b', o', none⟩ (fun e _ => absurd hF (by simp only at e; rw [e]; exact hb))
  obtain ⟨vs, hv, hr⟩ := RC_range h
  have hlv := RA_length hv
  refine RC_of_range (RA_mono (fun _ h => h) hc (fun _ => .inl rfl) _ _ hv) fun j v hj => ?_
  have hj2 := (List.getElem?_eq_some_iff.1 hj).1
  rw [World.cell?_setCells_out b us o w ⟨b, p + j, none⟩ (fun _ _ => by show p + j < o ∨ o + us.length ≤ p + j; omega)]
  exact hr j v hj

theorem storeAt_ok {t : Nat} {i : TI} (hi : tOK P t i = true) {b o : Nat} {v : Value} {us : List Value} (hv : v.cells = us.toArray) (h1 : ∀ u ∈ us, u.oneCell' = true) (hl : us.length = i.size) (hth : w.there b o us.length) :
    (Instr.storeAt t (.pointer (some ⟨b, o, none⟩)) v).run P w = .ok () (w.setCells b o us) := by
  obtain ⟨inf, d, z, hi, hu, hs, _⟩ := tOK_out hi
  have := run_storeCells_cells (P := P) b o us 0 w (fun j hj => by simpa using (hth j hj).1) (fun j hj => by simpa using (hth j hj).2) h1
  simp only [Nat.add_zero] at this
  simp [Instr.storeAt, Instr.sureAddr, storeVar, sizeOf, typeInfo, hi, hv, hl, hs, this]

/-- As Good, for an operation without a value. -/
def GoodU (P : Program) (w0 : World) (F0 : Nat → Prop) (N : Nat) (σ : St) (a : Act) (w : World) (out : Out) (s : Sem Unit) : Prop :=
  ∃ w' F' E', s.run P w = .ok () w' ∧ Rl w0 F0 N (σ.wr out.ws) a w' F' E'
theorem store_ok (hS : OK P S) (h : Rl w0 F0 N σ a w F E) (hg : g = true) {t : Nat} {x y : Operand} (hp : (oStore S g σ t x y).pre) :
    GoodU P w0 F0 N σ a w (oStore S g σ t x y) (Instr.storeAt t (a.eval x) (a.eval y)) := by
  unfold oStore at *
  split at hp
  · rename_i i ei
    have hi := hS.τ _ _ ei
    split at hp
    · rename_i p k g' off ex
      unfold stBlk at *
      split at hp
      · rename_i cs hk
        obtain ⟨⟨_, p1, p2, p3, p4, p5⟩, p6⟩ := hp
        have hx := h.sv hg (x := x) (by rw [ex]; exact p1)
        rw [ex, R] at hx
        have hgen : g' = (E k).gen := by rw [h.gen]; exact p2
        obtain ⟨us, hu, hra, h1⟩ := vals_ok p4 (h.sv hg p3)
        have hl := RA_length hra
        obtain ⟨b1, b2, b3, b4⟩ := h.blk k _ hk
        have hth : w.there (E k).b off us.length := b3.there (by omega)
        refine ⟨w.setCells (E k).b off us, F, E, by rw [hx.2.1 hgen]; exact storeAt_ok hi hu h1 (by omega) hth, ?_⟩
        refine h.store (by rw [hk]; trivial) off us trivial ?_
        refine ⟨b1, b2, BX_setCells us off w (by rw [length_setR p6]; exact b3), ?_⟩
        have := RC_setCells (o := off) b4 hra b2 p6 (by rw [Nat.zero_add]; exact hth)
        rwa [Nat.zero_add] at this
      · exact hp.elim
    · rename_i p k g' r j ex
      unfold stRow at *
      split at hp
      · rename_i st rs hk
        obtain ⟨⟨_, p1, p2, p3, p4, p5⟩, p6, p7⟩ := hp
        have hx := h.sv hg (x := x) (by rw [ex]; exact p1)
        rw [ex, R] at hx
        have hgen : g' = (E k).gen := by rw [h.gen]; exact p2
        obtain ⟨us, hu, hra0, h1⟩ := vals_ok p4 (h.sv hg p3)
        have hra := RA_wk1 hra0
        have hl := RA_length hra
        have hl' := List.length_map (f := wk1) (as := cellsOf (strip g (σ.ev y)).v)
        obtain ⟨b1, b2, b3, b4⟩ := h.blk k _ hk
        rcases b4 with ⟨_, b4⟩ | ⟨b4, b5, b6, b7, b8⟩
        · rw [b4] at p6; simp at p6
        · have hget : rs[r]? = some (rs.getD r []) := by simp [List.getD, p6]
          obtain ⟨hst, hrc⟩ := RR_get b8 hget
          rw [Nat.zero_add] at hrc
          have hlt : (r + 1) * st ≤ (E k).cap * st := Nat.mul_le_mul_right _ (by omega)
          rw [Nat.add_mul, Nat.one_mul] at hlt
          have hth : w.there (E k).b (r * st + j) us.length := b7.there (by omega)
          refine ⟨w.setCells (E k).b (r * st + j) us, F, E, by rw [hx.2.1 hgen, b2]; exact storeAt_ok hi hu h1 (by omega) hth, ?_⟩
          refine h.store (by rw [hk]; exact b4) (r * st + j) us b4 ?_
          refine ⟨by rw [b1]; simp, b2, b3, .inr ⟨b4, b5, b6, BX_setCells us _ w b7, ?_⟩⟩
          refine RR_set b8 (by rw [length_setR (by omega)]; exact hst) ?_ ?_
          · rw [Nat.zero_add]
            exact RC_setCells hrc hra b6 (by omega) hth
          · intro q y hq hy
            obtain ⟨hyl, hyc⟩ := RR_get b8 hy
            refine RC_setCells_out hyc b6 ?_
            rw [Nat.zero_add, hyl]
            have : (q + 1) * st ≤ r * st ∨ (r + 1) * st ≤ q * st := by
              rcases Nat.lt_or_gt_of_ne hq with hq | hq
              · exact .inl (Nat.mul_le_mul_right _ hq)
              · exact .inr (Nat.mul_le_mul_right _ hq)
            simp only [Nat.add_mul, Nat.one_mul] at this
            omega
      · exact hp.elim
    · exact hp.elim
  · exact hp.elim

/-! cuts -/
theorem bnd_ok (h : Rl w0 F0 N σ a w F E) (hg : g = true) {d : Int} {x : Option Operand} (hp : (bnd g σ d x).p) :
    (x = none ∧ (bnd g σ d x).n = d) ∨ ∃ y kk, x = some y ∧ a.eval y = .int kk (bnd g σ d x).n := by
  cases x with
  | none => exact .inl ⟨rfl, rfl⟩
  | some y =>
    right
    unfold bnd at hp ⊢
    simp only at hp ⊢
    split at hp
    · rename_i p kk n e
      have hx := h.sv hg (x := y) (by rw [e]; exact hp)
      rw [e, R] at hx
      exact ⟨y, kk, rfl, hx⟩
    · exact hp.elim
theorem run_bound {kk : IntKind} {i : Int} {y : Nat} {code : BoundsCode} (h0 : 0 ≤ i) (h1 : i ≤ y) : (Instr.sliceBound (.int kk i) y code).run P w = .ok i.toNat w := by
  simp [Instr.sliceBound, asIntOf, h0, h1]
theorem sliceRun_ok (hS : OK P S) (h : Rl w0 F0 N σ a w F E) (hg : g = true) {t e : Nat} {ie : TI} (hu : P.underlying t = some (.slice e)) (hie : tOK P e ie = true) {lo hi mx : Option Operand} {Pp : Prop} {ex : Bool} {rs : List (List AV)} {ws : List Wr}
    (hp : (slOut g σ Pp ex rs lo hi mx ws).pre) {ad : Option Addr} {cap : Nat} (hcap : rs.length ≤ cap) (hexc : ex = true → cap = rs.length) :
    ∃ cap', (Instr.sliceAt t (.slice ad rs.length cap) (lo.map a.eval) (hi.map a.eval) (mx.map a.eval)).run P w =
      .ok (.slice (if cap' = 0 then ad else ad.map (·.add ((bnd g σ 0 lo).n.toNat * ie.size))) ((bnd g σ rs.length hi).n.toNat - (bnd g σ 0 lo).n.toNat) cap') w ∧
      (bnd g σ rs.length hi).n.toNat - (bnd g σ 0 lo).n.toNat ≤ cap' ∧ (exOf ex hi mx = true → cap' = (bnd g σ rs.length hi).n.toNat - (bnd g σ 0 lo).n.toNat) ∧ (ad = none → cap = 0 → cap' = 0) := by
  obtain ⟨_, p1, p2, p3, p4, p5, p6, p7, p8⟩ := hp
  obtain ⟨inf, d, z, hi', hu', hs', _⟩ := tOK_out hie
  generalize hl : (bnd g σ 0 lo).n = l at *
  generalize hh : (bnd g σ rs.length hi).n = hn at *
  have hL := bnd_ok h hg p1
  have hH := bnd_ok h hg p2
  have hM := bnd_ok h hg p3
  rw [hl] at hL; rw [hh] at hH
  have c1 : ∀ kk code, (Instr.sliceBound (.int kk hn) cap code).run P w = .ok hn.toNat w := fun kk code => run_bound (by omega) (by omega)
  have c2 : ∀ kk code, (Instr.sliceBound (.int kk hn) hn.toNat code).run P w = .ok hn.toNat w := fun kk code => run_bound (by omega) (by omega)
  have c3 : ∀ kk code, (Instr.sliceBound (.int kk l) hn.toNat code).run P w = .ok l.toNat w := fun kk code => run_bound (by omega) (by omega)
  have fin : ∀ m : Nat, hn.toNat ≤ m → (Instr.sliceBounds true rs.length cap (lo.map a.eval) (hi.map a.eval) (mx.map a.eval)).run P w = .ok (l.toNat, hn.toNat, m) w →
      (Instr.sliceAt t (.slice ad rs.length cap) (lo.map a.eval) (hi.map a.eval) (mx.map a.eval)).run P w = .ok (.slice (if m - l.toNat = 0 then ad else ad.map (·.add (l.toNat * ie.size))) (hn.toNat - l.toNat) (m - l.toNat)) w := by
    intro m hle hr
    have he : (m = l.toNat) = (m - l.toNat = 0) := by apply propext; omega
    unfold Instr.sliceAt
    rw [Sem.run_bind, run_underlying hu, Result.andThen_ok]
    unfold Instr.slice
    simp only [Sem.run_bind, run_underlying hu, Result.andThen_ok, hr, sizeOf, typeInfo, run_program, hi', hs', Sem.run_pure, he]
  cases mx with
  | none =>
    refine ⟨cap - l.toNat, fin cap (by omega) ?_, by omega, ?_, by omega⟩
    · rcases hL with ⟨rfl, hL⟩ | ⟨yl, kl, rfl, hL⟩ <;> rcases hH with ⟨rfl, hH⟩ | ⟨yh, kh, rfl, hH⟩
      · simp [Instr.sliceBounds, hL, hH]
      · simp [Instr.sliceBounds, hL, hH, c1]
      · have := c3 kl .sliceB
        rw [hH] at this ⊢
        simp only [Int.toNat_natCast] at this ⊢
        simp [Instr.sliceBounds, hL, this]
      · simp [Instr.sliceBounds, hL, hH, c1, c3]
    · intro he
      rcases hH with ⟨rfl, hH⟩ | ⟨yh, kh, rfl, hH⟩
      · have := hexc he; omega
      · simp [exOf] at he
  | some ym =>
    have hs := p8 rfl
    rcases hM with ⟨hM, _⟩ | ⟨ym', km, hM1, hM⟩
    · cases hM
    · cases hM1
      rw [p7] at hM
      rcases hH with ⟨rfl, hH⟩ | ⟨yh, kh, rfl, hH⟩
      · simp at hs
      · refine ⟨hn.toNat - l.toNat, fin hn.toNat (Nat.le_refl _) ?_, Nat.le_refl _, fun _ => rfl, by omega⟩
        rcases hL with ⟨rfl, hL⟩ | ⟨yl, kl, rfl, hL⟩
        · simp [Instr.sliceBounds, hL, hH, hM, c1, c2]
        · simp [Instr.sliceBounds, hL, hH, hM, c1, c2, c3]

theorem RR_sub {b st p : Nat} {rs : List (List AV)} (h : RR w F E b st rs p) (l n : Nat) (hl : l ≤ n) (hn : n ≤ rs.length) : RR w F E b st ((rs.take n).drop l) (p + l * st) :=
  RR_drop l (by simp; omega) (RR_take n h)
theorem slice_ok (hS : OK P S) (h : Rl w0 F0 N σ a w F E) (hg : g = true) {t : Nat} {x : Operand} {lo hi mx : Option Operand} (hp : (oSlice S g σ t x lo hi mx).pre) :
    Good P w0 F0 N σ a w (oSlice S g σ t x lo hi mx) (Instr.sliceAt t (a.eval x) (lo.map a.eval) (hi.map a.eval) (mx.map a.eval)) := by
  unfold oSlice at *
  split at hp
  · rename_i e _ _ _ et
    obtain ⟨inf, d, z, hi0, hu, h1, h2, h3, h4⟩ := tOK_out (hS.τ _ _ et)
    obtain rfl := descOK_slice h3
    split at hp
    · rename_i ie ee
      have hie := hS.τ _ _ ee
      -- what the cut rows are, wherever they lie
      have res : ∀ (F' : Nat → Prop) (ex : Bool) (rs : List (List AV)) (ad : Option Addr) (cap cap' : Nat) (Pp : Prop) (ws : List Wr), (slOut g σ Pp ex rs lo hi mx ws).pre →
          (rs = [] ∨ ∃ b o st, ad = some ⟨b, o, none⟩ ∧ F' b ∧ RR w F' E b st rs o) → (rs.all (fun r => r.length == ie.size) = true) →
          (ad = none → cap = 0) → (ad = none → cap = 0 → cap' = 0) → (bnd g σ rs.length hi).n.toNat - (bnd g σ 0 lo).n.toNat ≤ cap' →
          (exOf ex hi mx = true → cap' = (bnd g σ rs.length hi).n.toNat - (bnd g σ 0 lo).n.toNat) →
          R w F' E (slOut g σ Pp ex rs lo hi mx ws).v (.slice (if cap' = 0 then ad else ad.map (·.add ((bnd g σ 0 lo).n.toNat * ie.size))) ((bnd g σ rs.length hi).n.toNat - (bnd g σ 0 lo).n.toNat) cap') := by
        intro F' ex rs ad cap cap' Pp ws hq hr hall hn hn2 hle hex
        obtain ⟨_, p1, p2, p3, p4, p5, p6, p7, p8⟩ := hq
        show R _ _ _ (.sl _ _) _
        rw [R]
        have hlen : (((rs.take (bnd g σ rs.length hi).n.toNat).drop (bnd g σ 0 lo).n.toNat)).length = (bnd g σ rs.length hi).n.toNat - (bnd g σ 0 lo).n.toNat := by
          simp only [List.length_drop, List.length_take]; omega
        refine ⟨_, _, _, rfl, by rw [hlen], hle, hex, ?_, ?_⟩
        · intro hnone
          by_cases hc : cap' = 0
          · exact hc
          · rw [if_neg hc] at hnone
            have : ad = none := by cases ad <;> simp_all
            exact hn2 this (hn this)
        · rcases hr with rfl | ⟨b, o, st, rfl, hF, hrr⟩
          · left; simp
          · by_cases hc : cap' = 0
            · left; rw [← List.length_eq_zero_iff, hlen]; omega
            · by_cases h0 : rs = []
              · left; simp [h0]
              · right
                have hst : st = ie.size := by
                  cases rs with
                  | nil => exact absurd rfl h0
                  | cons r rs' =>
                    rw [RR] at hrr
                    rw [List.all_cons, Bool.and_eq_true, beq_iff_eq] at hall
                    rw [← hrr.1]; exact hall.1
                refine ⟨b, o + (bnd g σ 0 lo).n.toNat * ie.size, st, by rw [if_neg hc]; simp [Addr.add_mid], hF, ?_⟩
                rw [← hst]
                exact RR_sub hrr _ _ (by omega) (by omega)
      split at hp
      · rename_i p ex rs exx
        have hpre := hp
        obtain ⟨⟨q1, q2⟩, _⟩ := hp
        have hx := h.sv hg (x := x) (by rw [exx]; exact q1)
        rw [exx, R] at hx
        obtain ⟨ad, len, cap, hv, hl, hcap, hexc, hnil, hr⟩ := hx
        subst hl
        obtain ⟨cap', hrun, r1, r2, r3⟩ := sliceRun_ok hS h hg (ad := ad) hu hie hpre hcap hexc
        exact Good.pure h (by rw [hv]; exact hrun) (res F ex rs ad cap cap' _ [] hpre hr q2 hnil r3 r1 r2)
      · rename_i p k g' exx
        split at hp
        · rename_i st rs hk
          have hpre := hp
          obtain ⟨⟨q1, q2, q3⟩, _⟩ := hp
          have hx := h.sv hg (x := x) (by rw [exx]; exact q1)
          rw [exx, R] at hx
          have hgen : g' = (E k).gen := by rw [h.gen]; exact q2
          obtain ⟨F', hFF, hRl, hRB⟩ := h.freeze hk
          obtain ⟨b1, b2, b3, b4⟩ := h.blk k _ hk
          obtain ⟨c1, c2, c3⟩ := hRB
          have hrows : rs.all (fun r => r.length == ie.size) = true := by
            rcases b4 with ⟨_, b4⟩ | ⟨_, _, _, _, b8⟩
            · rw [b4]; rfl
            · have := ((RR_flat _ _).1 b8).1
              simp only [List.all_eq_true, beq_iff_eq]
              intro r hr; rw [this r hr, q3]
          rcases hx.2.1 hgen with ⟨hal, hv⟩ | ⟨hal, hl0, ad, hv⟩
          · rw [b1] at hv
            obtain ⟨cap', hrun, r1, r2, r3⟩ := sliceRun_ok hS h hg (ad := some ⟨(E k).b, 0, none⟩) (cap := (E k).cap) hu hie hpre (by omega) (fun hf => by simp at hf)
            refine ⟨_, w, F', E, by rw [hv]; exact hrun, hRl, res F' false rs _ (E k).cap cap' _ _ hpre ?_ hrows (fun hf => by simp at hf) r3 r1 r2⟩
            rcases c3 with ⟨c3, _⟩ | ⟨_, c4, c5⟩
            · rw [c3] at hal; exact absurd hal (by simp)
            · exact .inr ⟨_, _, _, rfl, c4, c5⟩
          · have hr0 : rs = [] := List.length_eq_zero_iff.1 (by omega)
            have hv' : a.eval x = .slice ad rs.length 0 := by rw [hv, hr0]; rfl
            obtain ⟨cap', hrun, r1, r2, r3⟩ := sliceRun_ok hS h hg (ad := ad) (cap := 0) hu hie hpre (by rw [hr0]; simp) (fun hf => by simp at hf)
            exact ⟨_, w, F', E, by rw [hv']; exact hrun, hRl, res F' false rs _ 0 cap' _ _ hpre (.inl hr0) hrows (fun _ => rfl) r3 r1 r2⟩
        · rename_i rs hk
          have hpre := hp
          obtain ⟨⟨q1, q2, q3⟩, _⟩ := hp
          have hx := h.sv hg (x := x) (by rw [exx]; exact q1)
          rw [exx, R] at hx
          have hgen : g' = (E k).gen := by rw [h.gen]; exact q2
          obtain ⟨c1, c2, c3⟩ := h.blk k _ hk
          rcases hx.2.1 hgen with ⟨hal, hv⟩ | ⟨hal, hl0, ad, hv⟩
          · rw [c1] at hv
            obtain ⟨cap', hrun, r1, r2, r3⟩ := sliceRun_ok hS h hg (ad := some ⟨(E k).b, 0, none⟩) (cap := (E k).cap) hu hie hpre (by omega) (fun hf => by simp at hf)
            refine Good.pure h (by rw [hv]; exact hrun) (res F false rs _ (E k).cap cap' _ _ hpre ?_ q3 (fun hf => by simp at hf) r3 r1 r2)
            rcases c3 with ⟨c3, _⟩ | ⟨_, c4, c5⟩
            · rw [c3] at hal; exact absurd hal (by simp)
            · exact .inr ⟨_, _, _, rfl, c4, c5⟩
          · have hr0 : rs = [] := List.length_eq_zero_iff.1 (by omega)
            have hv' : a.eval x = .slice ad rs.length 0 := by rw [hv, hr0]; rfl
            obtain ⟨cap', hrun, r1, r2, r3⟩ := sliceRun_ok hS h hg (ad := ad) (cap := 0) hu hie hpre (by rw [hr0]; simp) (fun hf => by simp at hf)
            exact Good.pure h (by rw [hv']; exact hrun) (res F false rs _ 0 cap' _ _ hpre (.inl hr0) q3 (fun _ => rfl) r3 r1 r2)
        · exact hp.elim
      · exact hp.elim
    · exact hp.elim
  · exact hp.elim
end
end Go.Proofs.Ytedhhjmjlpnlpaa.VW
