/- The walk over values: code, and a function's contract out of its body. -/
import Derived.Test.YtedhhjmjlpnlpaaVE
namespace Go.Proofs.Ytedhhjmjlpnlpaa.VW
open Go Go.RowKit
set_option linter.unusedVariables false
set_option linter.unusedSimpArgs false
section
variable {P : Program} {S : Sg} {w0 w w' : World} {F0 F F' : Nat → Prop} {E E' : Key → Inf} {N fr : Nat} {σ σ' τ : St} {a : Act} {ops : Array Oper} {g : Bool} {k : Key}

theorem load_pure (hS : OK P S) (h : Rl w0 F0 N σ a w F E) (hg : g = true) {t : Nat} {x : Operand} (hp : (oLoad S g σ t x).pre) :
    ∃ v, (Instr.loadAt t (a.eval x)).run P w = .ok v w ∧ R w F E (oLoad S g σ t x).v v := by
  unfold oLoad at *
  split at hp
  · rename_i i ei
    have hi := hS.τ _ _ ei
    split at hp
    · rename_i p k g' off ex
      unfold ldBlk at *
      split at hp
      · rename_i cs hk
        obtain ⟨⟨p1, p2⟩, p3⟩ := hp
        have hx := h.sv hg (x := x) (by rw [ex]; exact p1)
        rw [ex, R] at hx
        have hgen : g' = (E k).gen := by rw [h.gen]; exact p2
        obtain ⟨b1, b2, b3, b4⟩ := h.blk k _ hk
        obtain ⟨v, hv, hr⟩ := ld_ok (w := w) hi (RC_drop' off b4) (by simp; omega)
        exact ⟨v, (by rw [hx.2.1 hgen]; simpa using hv), hr⟩
      · exact hp.elim
    · rename_i p k g' r j ex
      unfold ldRow at *
      split at hp
      · rename_i st rs hk
        obtain ⟨⟨p1, p2⟩, p3, p4⟩ := hp
        have hx := h.sv hg (x := x) (by rw [ex]; exact p1)
        rw [ex, R] at hx
        have hgen : g' = (E k).gen := by rw [h.gen]; exact p2
        obtain ⟨b1, b2, b3, b4⟩ := h.blk k _ hk
        have hget : rs[r]? = some (rs.getD r []) := by simp [List.getD, p3]
        rcases b4 with ⟨_, b4⟩ | ⟨_, b5, b6, b7, b8⟩
        · rw [b4] at p3; simp at p3
        · obtain ⟨hst, hrc⟩ := RR_get b8 hget
          obtain ⟨v, hv, hr⟩ := ld_ok (w := w) hi (RC_drop' j hrc) (by simp only [List.length_drop]; omega)
          exact ⟨v, (by rw [hx.2.1 hgen, b2]; simpa using hv), hr⟩
      · rename_i rs hk
        obtain ⟨⟨p1, p2⟩, p3, p4⟩ := hp
        have hx := h.sv hg (x := x) (by rw [ex]; exact p1)
        rw [ex, R] at hx
        have hgen : g' = (E k).gen := by rw [h.gen]; exact p2
        obtain ⟨b1, b3, b4⟩ := h.blk k _ hk
        have hget : rs[r]? = some (rs.getD r []) := by simp [List.getD, p3]
        rcases b4 with ⟨_, b4⟩ | ⟨_, b5, b8⟩
        · rw [b4] at p3; simp at p3
        · obtain ⟨hst, hrc⟩ := RR_get b8 hget
          obtain ⟨v, hv, hr⟩ := ld_ok (w := w) hi (RC_drop' j hrc) (by simp only [List.length_drop]; omega)
          exact ⟨v, (by rw [hx.2.1 hgen]; simpa using hv), hr⟩
      · exact hp.elim
    · rename_i p cs ex
      obtain ⟨p1, p2⟩ := hp
      have hx := h.sv hg (x := x) (by rw [ex]; exact p1)
      rw [ex, R] at hx
      obtain ⟨b, o, hv, hF, hc⟩ := hx
      obtain ⟨v, hv', hr⟩ := ld_ok (w := w) hi hc p2
      exact ⟨v, (by rw [hv]; exact hv'), hr⟩
    · exact hp.elim
  · exact hp.elim


def awp (S : Sg) (fr N : Nat) : Code → (Ex → St → Prop) → St → Prop
  | .skip, K, σ => K .nrm σ
  | .region id ops draw, K, σ => match S.sp id with
    | some f => draw = false ∧ f N ops (K .nrm) σ
    | none => match draw with
      | true => drawK S fr N ops (K .nrm) σ
      | false => stepsK S fr N ops ops.toList (K .nrm) σ
  | .seq x y, K, σ => awp S fr N x (thenK (awp S fr N y K) K) σ
  | .cond c x y, K, σ => condK (σ.ev c) (awp S fr N x K σ) (awp S fr N y K σ)
  | .block id c, K, σ => awp S fr N c (blockK id K) σ
  | .loop c, K, σ => ∃ (I : St → Prop) (μ : St → Nat), I σ ∧ ∀ σ', I σ' → awp S fr N c (thenK (fun σ'' => I σ'' ∧ μ σ'' < μ σ') K) σ'
  | .exit id, K, σ => K (.ext id) σ
  | .ret, K, σ => K .ret σ
  | _, _, _ => False
def cex : Ex → Exit
  | .nrm => .normal
  | .ext i => .exit i
  | .ret => .ret
theorem exMin (p : Nat → Prop) (h : ∃ n, p n) : ∃ n, p n ∧ ∀ m, p m → n ≤ m := by
  obtain ⟨n, hn⟩ := h
  induction n using Nat.strongRecOn with
  | _ n ih =>
    by_cases hx : ∃ m, m < n ∧ p m
    · obtain ⟨m, h1, h2⟩ := hx; exact ih m h1 h2
    · refine ⟨n, hn, fun m hm => ?_⟩
      rcases Nat.lt_or_ge m n with h | h
      · exact absurd ⟨m, h, hm⟩ hx
      · exact h
theorem awp_ok (hm : P.follows .mixedOrders = true) (hS : OK P S) : ∀ (c : Code) (K : Ex → St → Prop) (Q : Exit → Act → World → Prop) (σ : St) (a : Act) (w : World) (F : Nat → Prop) (E : Key → Inf),
    awp S fr N c K σ → Rl w0 F0 N σ a w F E → (∀ e σ' a' w' F' E', K e σ' → Rl w0 F0 N σ' a' w' F' E' → Q (cex e) a' w') → c.wp P Q a w := by
  intro c
  induction c with
  | skip => intro K Q σ a w F E hk h hn; exact wp_skip (hn _ _ _ _ _ _ hk h)
  | region id ops draw =>
    intro K Q σ a w F E hk h hn
    unfold awp at hk
    split at hk
    · rename_i f hsp
      obtain ⟨rfl, hk⟩ := hk
      exact hS.sp id f hsp N ops _ σ hk w0 F0 a w F E Q h fun σ' a' w' F' E' hk' h' => hn _ _ _ _ _ _ hk' h'
    · cases draw with
      | true => exact draw_ok hm hS h hk fun σ' a' w' F' E' hk' h' => hn _ _ _ _ _ _ hk' h'
      | false => exact region_ok hS h hk fun σ' a' w' F' E' hk' h' => hn _ _ _ _ _ _ hk' h'
  | seq x y ihx ihy =>
    intro K Q σ a w F E hk h hn
    refine wp_seq (ihx _ _ _ _ _ _ _ hk h fun e σ' a' w' F' E' hk' h' => ?_)
    cases e with
    | nrm => exact ihy K Q _ _ _ _ _ hk' h' hn
    | ext i => exact hn _ _ _ _ _ _ hk' h'
    | ret => exact hn _ _ _ _ _ _ hk' h'
  | cond c x y ihx ihy =>
    intro K Q σ a w F E hk h hn
    have hc := h.ev c
    rw [awp] at hk
    unfold condK at hk
    split at hk
    · rename_i b e
      rw [e, R] at hc
      refine wp_cond_split hc (fun hb => ?_) (fun hb => ?_)
      · exact ihx K Q _ _ _ _ _ (hk.1 hb) h hn
      · exact ihy K Q _ _ _ _ _ (hk.2 hb) h hn
    · rename_i b' b e
      rw [e, R] at hc
      have hc1 := hc.1 hk.1
      rw [R] at hc1
      refine wp_cond_split hc1 (fun hb => ?_) (fun hb => ?_)
      · exact ihx K Q _ _ _ _ _ (hk.2.1 hb) h hn
      · exact ihy K Q _ _ _ _ _ (hk.2.2 hb) h hn
    · rename_i z e
      rw [e, R] at hc
      obtain ⟨b, hb, hz⟩ := hc
      refine wp_cond_split hb (fun hb => ?_) (fun hb => ?_)
      · exact ihx K Q _ _ _ _ _ (hk.1 (hz hb)) h hn
      · exact ihy K Q _ _ _ _ _ hk.2 h hn
    · exact hk.elim
  | block id c ih =>
    intro K Q σ a w F E hk h hn
    refine wp_block (ih _ _ _ _ _ _ _ hk h fun e σ' a' w' F' E' hk' h' => ?_)
    cases e with
    | nrm => exact hn _ _ _ _ _ _ hk' h'
    | ext i =>
      show (if i = id then Q .normal a' w' else Q (.exit i) a' w')
      unfold blockK at hk'
      simp only at hk'
      by_cases e : i = id
      · rw [if_pos e] at hk' ⊢
        exact hn _ _ _ _ _ _ hk' h'
      · rw [if_neg e] at hk' ⊢
        exact hn _ _ _ _ _ _ hk' h'
    | ret => exact hn _ _ _ _ _ _ hk' h'
  | loop c ih =>
    intro K Q σ a w F E hk h hn
    obtain ⟨I, μ, hI, hround⟩ := hk
    classical
    let ex : Act → World → Nat → Prop := fun a w n => ∃ σ F E, μ σ = n ∧ I σ ∧ Rl w0 F0 N σ a w F E
    let m : Act → World → Nat := fun a w => if hx : ∃ n, ex a w n then Classical.choose (exMin _ hx) else 0
    refine wp_loop (fun a w => ∃ n, ex a w n) m ⟨μ σ, σ, F, E, rfl, hI, h⟩ ?_
    intro a w hx
    have hm1 : m a w = Classical.choose (exMin _ hx) := dif_pos hx
    obtain ⟨σ1, F1, E1, e1, i1, r1⟩ := (Classical.choose_spec (exMin _ hx)).1
    refine ih _ _ _ _ _ _ _ (hround σ1 i1) r1 fun e σ' a' w' F' E' hk' h' => ?_
    cases e with
    | nrm =>
      have hx' : ∃ n, ex a' w' n := ⟨μ σ', σ', F', E', rfl, hk'.1, h'⟩
      refine ⟨hx', ?_⟩
      have : m a' w' = Classical.choose (exMin _ hx') := dif_pos hx'
      rw [this, hm1, ← e1]
      exact Nat.lt_of_le_of_lt ((Classical.choose_spec (exMin _ hx')).2 _ ⟨σ', F', E', rfl, hk'.1, h'⟩) hk'.2
    | ext i => exact hn _ _ _ _ _ _ hk' h'
    | ret => exact hn _ _ _ _ _ _ hk' h'
  | exit id => intro K Q σ a w F E hk h hn; exact wp_exit (hn (.ext id) _ _ _ _ _ hk h)
  | ret => intro K Q σ a w F E hk h hn; exact wp_ret (hn .ret _ _ _ _ _ hk h)
  | rangeFunc f p x y _ _ => intro K Q σ a w F E hk; exact hk.elim
  | scope c _ => intro K Q σ a w F E hk; exact hk.elim
  | label l => intro K Q σ a w F E hk; exact hk.elim
  | goto l => intro K Q σ a w F E hk; exact hk.elim
  | refuse s => intro K Q σ a w F E hk; exact hk.elim

/-! what a function returns -/
def resL (S : Sg) (σ : St) : List ResultVar → PL
  | [] => ⟨True, []⟩
  | .tmp t :: r => ⟨(strip true (σ.T t)).p ∧ (resL S σ r).p, (strip true (σ.T t)).v :: (resL S σ r).l⟩
  | .cell p t :: r => ⟨(oLoad S true σ t (.tmp p)).pre ∧ (resL S σ r).p, (oLoad S true σ t (.tmp p)).v :: (resL S σ r).l⟩
def resV : List AV → AV
  | [x] => x
  | l => .tup l
theorem resL_ok (hS : OK P S) (h : Rl w0 F0 N σ a w F E) : ∀ (l : List ResultVar), (resL S σ l).p → ∃ vs : List Value, (l.mapM fun (x : ResultVar) => match x with
      | .tmp t => (pure (a.tmps.getD t undef) : Sem Value)
      | .cell p t => do loadVar t (← asAddr (a.tmps.getD p undef))).run P w = Result.ok vs w ∧ RA w F E (resL S σ l).l vs
  | [], _ => ⟨[], rfl, RA_nil⟩
  | .tmp t :: r, hp => by
    obtain ⟨p1, p2⟩ := hp
    obtain ⟨vs, h1, h2⟩ := resL_ok hS h r p2
    have := strip_ok (g := true) rfl p1 (h.tmp t)
    refine ⟨a.tmps.getD t undef :: vs, ?_, RA_cons this h2⟩
    rw [List.mapM_cons, Sem.run_bind]
    simp only [Sem.run_pure, Result.andThen_ok, Sem.run_bind, h1]
  | .cell p t :: r, hp => by
    obtain ⟨p1, p2⟩ := hp
    obtain ⟨vs, h1, h2⟩ := resL_ok hS h r p2
    obtain ⟨v, h3, h4⟩ := load_pure hS h (g := true) rfl p1
    refine ⟨v :: vs, ?_, RA_cons h4 h2⟩
    have h5 : (do loadVar t (← asAddr (a.tmps.getD p undef)) : Sem Value).run P w = .ok v w := by
      have e : a.eval (.tmp p) = a.tmps.getD p undef := rfl
      rw [e] at h3
      unfold Instr.loadAt at h3
      revert h3
      generalize a.tmps.getD p undef = q
      intro h3
      cases q with
      | pointer ad => cases ad <;> simp_all [Instr.sureAddr, asAddr]
      | _ => simp [Instr.sureAddr] at h3
    rw [List.mapM_cons, Sem.run_bind]
    simp only [h5, Result.andThen_ok, Sem.run_bind, h1, Sem.run_pure]
theorem results_ok (hS : OK P S) (h : Rl w0 F0 N σ a w F E) {fn : Func} (hp : (resL S σ fn.results.toList).p) : ∃ v, (results fn a.tmps).run P w = .ok v w ∧ R w F E (resV (resL S σ fn.results.toList).l) v := by
  obtain ⟨vs, h1, h2⟩ := resL_ok hS h _ hp
  have hrun : (results fn a.tmps).run P w = .ok (if h : vs.toArray.size = 1 then vs.toArray[0] else .tuple vs.toArray) w := by
    unfold results
    rw [Sem.run_bind, Array.mapM_eq_mapM_toList]
    rw [Sem.run_map]
    exact (congrArg (fun r => (Result.andThen (Result.andThen r fun a w' => Result.ok a.toArray w') fun a w' => Sem.run P (pure (if h : a.size = 1 then a[0] else Value.tuple a)) w')) h1)
  refine ⟨_, hrun, ?_⟩
  have hl := RA_length h2
  by_cases h1 : vs.toArray.size = 1
  · rw [dif_pos h1]
    simp at h1
    rw [h1] at hl
    match hres : (resL S σ fn.results.toList).l, hl with
    | [x], _ =>
      rw [hres] at h2
      rw [RA] at h2
      obtain ⟨v, us, rfl, h3, h4⟩ := h2
      simpa [resV] using h3
  · rw [dif_neg h1]
    simp at h1
    have : resV (resL S σ fn.results.toList).l = .tup (resL S σ fn.results.toList).l := by
      match hres : (resL S σ fn.results.toList).l with
      | [] => rfl
      | [x] => rw [hres] at hl; simp at hl; omega
      | x :: y :: r => rfl
    rw [this, R]
    exact ⟨vs, rfl, h2⟩
end
end Go.Proofs.Ytedhhjmjlpnlpaa.VW
