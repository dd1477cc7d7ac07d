/- The walk over values: a call by its contract. -/
import Derived.Test.YtedhhjmjlpnlpaaV9
namespace Go.Proofs.Ytedhhjmjlpnlpaa.VW
open Go Go.RowKit
set_option linter.unusedVariables false
set_option linter.unusedSimpArgs false
section
variable {P : Program} {S : Sg} {w0 w w' : World} {F0 F F' : Nat → Prop} {E E' : Key → Inf} {N : Nat} {σ σ' : St} {a : Act} {k kb : Key} {g : Bool}

/-- what is known of keys behind a call's own rows. -/
theorem exWs_out (d : Nat) (γ : Key → Nat) : ∀ (bs : List Blk) (i : Nat) (τ : St) (q : Key), (∀ j, i ≤ j → j < i + bs.length → q ≠ (d, j + 1)) →
    (τ.wr (exWs d γ i bs)).H q = τ.H q ∧ (τ.wr (exWs d γ i bs)).γ q = τ.γ q
  | [], i, τ, q, _ => ⟨rfl, rfl⟩
  | B :: bs, i, τ, q, h => by
    rw [exWs, St.wr]
    have hq : q ≠ (d, i + 1) := h i (Nat.le_refl _) (by simp)
    obtain ⟨h1, h2⟩ := exWs_out d γ bs (i + 1) (τ.wr1 ((d, i + 1), γ (d, i + 1) + 1, some B)) q (fun j hj1 hj2 => h j (by omega) (by simp; omega))
    rw [h1, h2]
    simp [St.wr1, updK, hq]
theorem exWs_in (d : Nat) (γ : Key → Nat) : ∀ (bs : List Blk) (i : Nat) (τ : St) (j : Nat) (B : Blk), bs[j]? = some B →
    (τ.wr (exWs d γ i bs)).H (d, i + j + 1) = some B ∧ (τ.wr (exWs d γ i bs)).γ (d, i + j + 1) = γ (d, i + j + 1) + 1
  | [], i, τ, j, B, h => by simp at h
  | B :: bs, i, τ, 0, B', h => by
    rw [exWs, St.wr]
    simp at h; subst h
    obtain ⟨h1, h2⟩ := exWs_out d γ bs (i + 1) (τ.wr1 ((d, i + 1), γ (d, i + 1) + 1, some B)) (d, i + 0 + 1) (fun j hj1 hj2 e => by simp at e; omega)
    rw [h1, h2]
    simp [St.wr1, updK]
  | B :: bs, i, τ, j + 1, B', h => by
    rw [exWs, St.wr]
    have := exWs_in d γ bs (i + 1) (τ.wr1 ((d, i + 1), γ (d, i + 1) + 1, some B)) j B' (by simpa using h)
    rwa [show i + 1 + j + 1 = i + (j + 1) + 1 by omega] at this

def exE (d n : Nat) (γ : Key → Nat) (E E2 : Key → Inf) : Key → Inf := fun q =>
  if q.1 = d ∧ 1 ≤ q.2 ∧ q.2 ≤ n then { E2 (q.2 - 1, 0) with gen := γ q + 1 } else E q
theorem exE_in {d n : Nat} {γ : Key → Nat} {E2 : Key → Inf} {j : Nat} (h : j < n) : exE d n γ E E2 (d, j + 1) = { E2 (j, 0) with gen := γ (d, j + 1) + 1 } := by
  unfold exE
  rw [if_pos ⟨rfl, by simp, by simp; omega⟩]; simp
theorem exE_out {d n : Nat} {γ : Key → Nat} {E2 : Key → Inf} {q : Key} (h : ∀ j, j < n → q ≠ (d, j + 1)) : exE d n γ E E2 q = E q := by
  unfold exE
  rw [if_neg]
  rintro ⟨h1, h2, h3⟩
  exact h (q.2 - 1) (by omega) (by rw [← h1, show q.2 - 1 + 1 = q.2 by omega])

theorem ren1_ok {d n : Nat} {γ : Key → Nat} {E2 : Key → Inf} (hg : ∀ i, i < n → (E2 (i, 0)).gen = 0) {x : AV} {v : Value} (hx : exOK1 n x = true) (h : R w F E2 x v) : R w F (exE d n γ E E2) (ren1 (exKey d) γ x) v := by
  by_cases ho : ∃ k gg, x = .own k gg
  · obtain ⟨⟨i, j⟩, gg, rfl⟩ := ho
    simp only [exOK1, Bool.and_eq_true, beq_iff_eq, decide_eq_true_eq] at hx
    obtain ⟨⟨rfl, hi⟩, rfl⟩ := hx
    rw [R] at h
    simp only [ren1, exKey]
    rw [R, exE_in hi]
    refine ⟨Nat.le_refl _, fun _ => ?_, h.2.2⟩
    exact h.2.1 (hg i hi).symm
  · have e1 : ren1 (exKey d) γ x = x := by cases x <;> first | rfl | exact absurd ⟨_, _, rfl⟩ ho
    have e2 : exOK1 n x = imm x := by cases x <;> first | rfl | exact absurd ⟨_, _, rfl⟩ ho
    rw [e1]; rw [e2] at hx
    exact R_env x v hx h
theorem ren1s_ok {d n : Nat} {γ : Key → Nat} {E2 : Key → Inf} (hg : ∀ i, i < n → (E2 (i, 0)).gen = 0) : ∀ {xs : List AV} {vs : List Value}, xs.all (exOK1 n) = true → RA w F E2 xs vs → RA w F (exE d n γ E E2) (xs.map (ren1 (exKey d) γ)) vs
  | [], vs, _, h => by rw [RA] at h; subst h; exact RA_nil
  | x :: xs, vs, hx, h => by
    rw [RA] at h; obtain ⟨v, us, rfl, h1, h2⟩ := h
    rw [List.all_cons, Bool.and_eq_true] at hx
    exact RA_cons (ren1_ok hg hx.1 h1) (ren1s_ok hg hx.2 h2)
def ren2 (f : Key → Key) (γ : Key → Nat) : AV → AV
  | .own k _ => .own (f k) (γ (f k) + 1)
  | .agg cs => .agg (cs.map (ren1 f γ))
  | x => x
theorem ren2_ok {d n : Nat} {γ : Key → Nat} {E2 : Key → Inf} (hg : ∀ i, i < n → (E2 (i, 0)).gen = 0) {x : AV} {v : Value} (hx : exOK2 n x = true) (h : R w F E2 x v) : R w F (exE d n γ E E2) (ren2 (exKey d) γ x) v := by
  by_cases ha : ∃ cs, x = .agg cs
  · obtain ⟨cs, rfl⟩ := ha
    rw [R] at h
    obtain ⟨vs, rfl, hr⟩ := h
    simp only [ren2]
    rw [R]
    exact ⟨vs, rfl, ren1s_ok hg hx hr⟩
  · have e1 : ren2 (exKey d) γ x = ren1 (exKey d) γ x := by cases x <;> first | rfl | exact absurd ⟨_, rfl⟩ ha
    have e2 : exOK2 n x = exOK1 n x := by cases x <;> first | rfl | exact absurd ⟨_, rfl⟩ ha
    rw [e1]; rw [e2] at hx; exact ren1_ok hg hx h
theorem ren2s_ok {d n : Nat} {γ : Key → Nat} {E2 : Key → Inf} (hg : ∀ i, i < n → (E2 (i, 0)).gen = 0) : ∀ {xs : List AV} {vs : List Value}, xs.all (exOK2 n) = true → RA w F E2 xs vs → RA w F (exE d n γ E E2) (xs.map (ren2 (exKey d) γ)) vs
  | [], vs, _, h => by rw [RA] at h; subst h; exact RA_nil
  | x :: xs, vs, hx, h => by
    rw [RA] at h; obtain ⟨v, us, rfl, h1, h2⟩ := h
    rw [List.all_cons, Bool.and_eq_true] at hx
    exact RA_cons (ren2_ok hg hx.1 h1) (ren2s_ok hg hx.2 h2)
theorem ren_ok {d n : Nat} {γ : Key → Nat} {E2 : Key → Inf} (hg : ∀ i, i < n → (E2 (i, 0)).gen = 0) {x : AV} {v : Value} (hx : exOK n x = true) (h : R w F E2 x v) : R w F (exE d n γ E E2) (ren (exKey d) γ x) v := by
  by_cases ht : ∃ cs, x = .tup cs
  · obtain ⟨cs, rfl⟩ := ht
    rw [R] at h
    obtain ⟨vs, rfl, hr⟩ := h
    have e : ren (exKey d) γ (.tup cs) = .tup (cs.map (ren2 (exKey d) γ)) := by
      simp only [ren]
      congr 2
    rw [e, R]
    exact ⟨vs, rfl, ren2s_ok hg hx hr⟩
  · have e1 : ren (exKey d) γ x = ren2 (exKey d) γ x := by cases x <;> first | rfl | exact absurd ⟨_, rfl⟩ ht
    have e2 : exOK n x = exOK2 n x := by cases x <;> first | rfl | exact absurd ⟨_, rfl⟩ ht
    rw [e1]; rw [e2] at hx; exact ren2_ok hg hx h

theorem call_ok (hS : OK P S) (h : Rl w0 F0 N σ a w F E) (hg : g = true) {d : Nat} {f : Operand} {xs : Array Operand} {ts : Array Nat} {o : Oper} (ho : o.op = .call ⟨.value f, xs, ts⟩) (hp : (oCall S g σ d f xs.toList).pre)
    {next : Act → World → Prop} {Q : Exit → Act → World → Prop}
    (hn : ∀ v w' F' E', Rl w0 F0 N (σ.wr (oCall S g σ d f xs.toList).ws) a w' F' E' → R w' F' E' (oCall S g σ d f xs.toList).v v → next (a.put o.dst v) w') : o.wp P a w next Q := by
  unfold oCall at hp hn
  split at hp
  · rename_i p fid caps ef
    split at hp
    · rename_i q r bs eΓ
      obtain ⟨p1, p2, p3, p4, p5⟩ := hp
      simp only [ef, eΓ] at hn
      obtain ⟨hEnt, hex, him, hcalls⟩ := hS.Γ _ _ _ _ _ eΓ p4
      have hf := h.sv hg (x := f) (by rw [ef]; exact p1)
      rw [ef, R] at hf
      obtain ⟨us, hfv, hcaps⟩ := hf
      have hargs := RA_append (h.svA hg p2) hcaps
      obtain ⟨F1, hF1, hR1, k3, k4, k5⟩ := frz_list ((((args g σ xs.toList).l ++ caps).map (frz σ)).flatten) σ F (fun x hx => by
        obtain ⟨l, hl, hx⟩ := List.mem_flatten.1 hx
        obtain ⟨c, _, rfl⟩ := List.mem_map.1 hl
        exact frz_ok c x hx) h
      have hargs1 := RA_mono hF1 (fun _ _ _ => rfl) (fun _ => .inl rfl) _ _ hargs
      have hv := views_ok hR1 k5 k3 k4 (fun x hx y hy => List.mem_flatten.2 ⟨_, List.mem_map.2 ⟨x, hx, rfl⟩, hy⟩) hargs1
      have hv0 := RA_env (E' := E0) _ _ p3 hv
      have hc := hcalls w F1 _ hR1.bnd hv0
      unfold Oper.wp execOp
      simp only [ho]
      have hrun : (do let dd ← resolve a.eval ⟨.value f, xs, ts⟩ o.type; invoke dd.target dd.args).run P w = .ok (.enter fid (xs.toList.map a.eval ++ us).toArray) w := by
        simp only [resolve, hfv, Deferred.ofValue, Sem.run_bind, Sem.run_pure, Result.andThen_ok, invoke]
        have := hEnt (xs.toList.map a.eval ++ us).toArray w
        rw [← this]
        congr 2
        simp
      rw [hrun, Oper.upon_enter]
      refine hc.mono ?_
      rintro e w' ⟨v, rfl, hret⟩
      obtain ⟨F2, E2, hb, hF2, hF3, hF4, hrv, hbk, hinj⟩ := hret.out
      have hlen : ∀ i, i < bs.length → (E2 (i, 0)).gen = 0 := fun i hi => (hbk i bs[i] (by simp [hi])).2
      have hγ : ∀ q, (σ.wr ((((args g σ xs.toList).l ++ caps).map (frz σ)).flatten)).γ q = σ.γ q := fun q => by rw [k5]
      refine hn v w' F2 (exE d bs.length σ.γ E E2) ?_ (ren_ok hlen hex hrv)
      rw [wr_append]
      refine hR1.grow hb hF2 hF3 hF4 (wr_T _ _) ?_ ?_ ?_ ?_
      · intro q
        by_cases hq : ∃ j, j < bs.length ∧ q = (d, j + 1)
        · obtain ⟨j, hj, rfl⟩ := hq
          right; rw [exE_in hj]; show (E (d, j + 1)).gen < σ.γ (d, j + 1) + 1; rw [h.gen]; exact Nat.lt_succ_self _
        · left; exact exE_out fun j hj e => hq ⟨j, hj, e⟩
      · intro q
        by_cases hq : ∃ j, j < bs.length ∧ q = (d, j + 1)
        · obtain ⟨j, hj, rfl⟩ := hq
          rw [exE_in hj]
          have := (exWs_in d σ.γ bs 0 (σ.wr ((((args g σ xs.toList).l ++ caps).map (frz σ)).flatten)) j bs[j] (by simp [hj])).2
          rw [Nat.zero_add] at this
          rw [this]
        · have := (exWs_out d σ.γ bs 0 (σ.wr ((((args g σ xs.toList).l ++ caps).map (frz σ)).flatten)) q (fun j _ hj e => hq ⟨j, by omega, e⟩)).2
          rw [this, exE_out fun j hj e => hq ⟨j, hj, e⟩, hγ]
          exact h.gen q
      · intro q B hB
        by_cases hq : ∃ j, j < bs.length ∧ q = (d, j + 1)
        · obtain ⟨j, hj, rfl⟩ := hq
          right
          have h1 := (exWs_in d σ.γ bs 0 (σ.wr ((((args g σ xs.toList).l ++ caps).map (frz σ)).flatten)) j bs[j] (by simp [hj])).1
          rw [Nat.zero_add] at h1
          rw [h1] at hB
          cases hB
          obtain ⟨h2, _⟩ := hbk j bs[j] (by simp [hj])
          have h3 : blkImm bs[j] = true := by
            rw [List.all_eq_true] at him; exact him _ (List.getElem_mem hj)
          cases hbj : bs[j] with
          | var cs => rw [hbj] at h3; exact absurd h3 (by simp [blkImm])
          | frz rs => rw [hbj] at h3; exact absurd h3 (by simp [blkImm])
          | rows st rs =>
            rw [hbj] at h2 h3
            obtain ⟨c1, c2, c3, c4⟩ := h2
            rw [RB, exE_in hj]
            refine ⟨c1, c2, c3, ?_⟩
            rcases c4 with c4 | ⟨c4, c5, c6, c7, c8⟩
            · exact .inl c4
            · exact .inr ⟨c4, c5, c6, c7, RR_env _ _ _ _ h3 c8⟩
        · left
          have h1 := (exWs_out d σ.γ bs 0 (σ.wr ((((args g σ xs.toList).l ++ caps).map (frz σ)).flatten)) q (fun j _ hj e => hq ⟨j, by omega, e⟩)).1
          rw [h1] at hB
          exact ⟨hB, exE_out fun j hj e => hq ⟨j, hj, e⟩⟩
      · intro q q' ho1 ho2 h1 h2 e
        have key : ∀ q, ownB (exE d bs.length σ.γ E E2 q).al (((σ.wr ((((args g σ xs.toList).l ++ caps).map (frz σ)).flatten)).wr (exWs d σ.γ 0 bs)).H q) → w.heap.size ≤ (exE d bs.length σ.γ E E2 q).b →
            ∃ j, j < bs.length ∧ q = (d, j + 1) ∧ (E2 (j, 0)).al = true ∧ (exE d bs.length σ.γ E E2 q).b = (E2 (j, 0)).b := by
          intro q hq hs
          by_cases hj : ∃ j, j < bs.length ∧ q = (d, j + 1)
          · obtain ⟨j, hj, rfl⟩ := hj
            refine ⟨j, hj, rfl, ?_, by rw [exE_in hj]⟩
            have h1 := (exWs_in d σ.γ bs 0 (σ.wr ((((args g σ xs.toList).l ++ caps).map (frz σ)).flatten)) j bs[j] (by simp [hj])).1
            rw [Nat.zero_add] at h1
            rw [h1, exE_in hj] at hq
            have h3 : blkImm bs[j] = true := by
              rw [List.all_eq_true] at him; exact him _ (List.getElem_mem hj)
            cases hbj : bs[j] with
            | var cs => rw [hbj] at h3; exact absurd h3 (by simp [blkImm])
            | frz rs => rw [hbj] at h3; exact absurd h3 (by simp [blkImm])
            | rows st rs => rw [hbj] at hq; exact hq
          · have h1 := (exWs_out d σ.γ bs 0 (σ.wr ((((args g σ xs.toList).l ++ caps).map (frz σ)).flatten)) q (fun j _ hj' e => hj ⟨j, by omega, e⟩)).1
            have h2 := exE_out (E := E) (E2 := E2) (γ := σ.γ) (d := d) (n := bs.length) (q := q) (fun j hj' e => hj ⟨j, hj', e⟩)
            rw [h1, h2] at hq
            rw [h2] at hs
            have := (hR1.own hq).2.2
            omega
        obtain ⟨i, hi, rfl, a1, a2⟩ := key q ho1 h1
        obtain ⟨j, hj, rfl, b1, b2⟩ := key q' ho2 h2
        rw [a2, b2] at e
        have := hinj i j bs[i] bs[j] (by simp [hi]) (by simp [hj]) a1 b1 e
        rw [this]
    · exact hp.elim
  · exact hp.elim
end
end Go.Proofs.Ytedhhjmjlpnlpaa.VW
