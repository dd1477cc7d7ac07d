/- Concat. -/
import Derived.Test.YtedhhjmjlpnlpaaX9
import Derived.Test.YtedhhjmjlpnlpaaW3
import Derived.Test.YtedhhjmjlpnlpaaVJ
namespace Go.Proofs.Ytedhhjmjlpnlpaa.VW
open Go Go.RowKit
set_option linter.unusedVariables false
set_option linter.unusedSimpArgs false

def spG (Γ : Nat → Spec) : Nat → Option (Nat → Array Oper → (St → Prop) → St → Prop) := fun i => if i = 5 then some (fun N ops K σ => stepsX (sg Γ) 0 N ops ops.toList K σ) else none
def sgG (Γ : Nat → Spec) : Sg := ⟨tau, Γ, eqt, spG Γ⟩
theorem sgG_ok {Γ : Nat → Spec} (h : ∀ f, SOK f (Γ f)) : OK Try.prog (sgG Γ) := ⟨tau_ok, fun f xs q r bs e hq => h f xs q r bs e hq, eqt_ok, fun id f hf => by
  unfold sgG spG at hf
  simp only at hf
  split at hf
  · cases hf
    intro N ops K σ hk w0 F0 a w F E Q hR hn
    exact regionX_ok (sg_ok h) hR hk hn
  · cases hf⟩
theorem spG_none {Γ : Nat → Spec} {i : Nat} (h : i ≠ 5) : spG Γ i = none := by unfold spG; simp [h]
theorem awp_5 {Γ : Nat → Spec} {fr N : Nat} {K : Ex → St → Prop} {σ : St} {ops : Array Oper} : awp ⟨tau, Γ, eqt, spG Γ⟩ fr N (.region 5 ops false) K σ = stepsX (sg Γ) 0 N ops ops.toList (K .nrm) σ := by
  unfold awp spG; simp
@[simp] def S121 : Spec
  | [.sl true [], .int .i64 n] => some (0 ≤ n ∧ n ≤ 1000, .own (0, 0) 0, [.rows 2 []])
  | _ => none
set_option maxRecDepth 100000 in
theorem S121_ok : SOK 121 S121 := by
  intro xs q r bs h hq
  unfold S121 at h
  split at h <;> cases h
  rename_i n
  obtain ⟨h0, h1⟩ := hq
  refine fs_of_awp2 mixed (sgG_ok noS_ok) Try.func121 rfl (ent_of Try.func121 rfl rfl) [(22, 0)] (by rw [Try.ntmps121]; exact Nat.le_of_ble_eq_true rfl) (by simp) (by simp) (by simp) false 4 2 (22, 0) ?_
  rw [Try.ntmps121, Try.results121]
  have hn : ¬ n < 0 := by omega
  have hw : IntKind.i64.wrap n = n := wrap_i64 _ (by omega) (by omega)
  by_cases hp : 0 < n
  · simp [sgG, awp_regTS, awp_5, spG_none, stepsX, stepX, xOut, isInt, oApM, oRe, hn, hw, hp, h1]
  · have hz : n = 0 := by omega
    subst hz
    simp [sgG, awp_regTS, awp_5, spG_none]
@[simp] def S113 : Spec
  | [.sl _ [[.sl _ c], [.sl _ d]]] => some ((c.all kQue = true ∧ c.length ≤ 100) ∧ (d.all kQue = true ∧ d.length ≤ 100), .sl false (c ++ d), [])
  | _ => none
set_option maxHeartbeats 4000000 in
set_option maxRecDepth 100000 in
theorem S113_ok : SOK 113 S113 := by
  intro xs q r bs h hq
  unfold S113 at h
  split at h <;> cases h
  rename_i e0 e1 c e2 d
  obtain ⟨hq1, hq2⟩ := hq
  refine FS_wk ?_
  simp only [List.map_cons, List.map_nil, wk2, wk1]
  obtain ⟨x, rfl⟩ := rows_ex (fun c hc => kQue_ok hc) hq1.1
  have hlx := hq1.2
  simp only [List.length_map] at hlx
  obtain ⟨y, rfl⟩ := rows_ex (fun c hc => kQue_ok hc) hq2.1
  have hly := hq2.2
  simp only [List.length_map] at hly
  have hix : immR (x.map eQue) = true := imm_map _ _ (fun q => by simp)
  have hiy : immR (y.map eQue) = true := imm_map _ _ (fun q => by simp)
  refine fs_of_awp mixed (sg_ok (gc_ok S121_ok noS_ok)) Try.func113 rfl (ent_of Try.func113 rfl rfl) [] (by rw [Try.ntmps113]; exact Nat.le_of_ble_eq_true rfl) (by simp [hix, hiy, immR_append]) (by simp) (by simp) true ?_
  rw [Try.ntmps113, Try.results113]
  obtain ⟨cx, hcx⟩ : ∃ cx, x.map eQue = cx := ⟨_, rfl⟩
  obtain ⟨cy, hcy⟩ : ∃ cy, y.map eQue = cy := ⟨_, rfl⟩
  have lx : cx.length = x.length := by rw [← hcx]; simp
  have ly : cy.length = y.length := by rw [← hcy]; simp
  have ax : ∀ r ∈ cx, r.length = 2 ∧ r.all cellOK = true := by rw [← hcx]; intro r hr; obtain ⟨q, _, rfl⟩ := List.mem_map.1 hr; exact ⟨rfl, rfl⟩
  have ay : ∀ r ∈ cy, r.length = 2 ∧ r.all cellOK = true := by rw [← hcy]; intro r hr; obtain ⟨q, _, rfl⟩ := List.mem_map.1 hr; exact ⟨rfl, rfl⟩
  rw [hcx, hcy]
  rw [hcx] at hix
  rw [hcy] at hiy
  clear hcx hcy hq1 hq2
  simp
  refine awp_loop (fun σ => ∃ i : Nat, i ≤ 2 ∧ σ.T 0 = .sl false [[.sl e1 cx], [.sl e2 cy]] ∧ σ.T 9 = .sl false [[.sl e1 cx], [.sl e2 cy]] ∧ σ.T 10 = .int .i64 2 ∧ σ.T 11 = .int .i64 i ∧ σ.T 3 = .int .i64 (if i = 0 then 0 else if i = 1 then cx.length else cx.length + cy.length)) (fun σ => 2 - (ival (σ.T 11)).toNat) ⟨0, by simp⟩ ?_
  rintro σ ⟨i, hi, h0, h9, h10, h11, h3⟩ J hJ
  have hcases : i = 0 ∨ i = 1 ∨ i = 2 := by omega
  rcases hcases with rfl | rfl | rfl
  · have hw : IntKind.i64.wrap (cx.length : Int) = cx.length := wrap_i64 _ (by omega) (by omega)
    have hn : ¬ (cx.length : Int) < 0 := by omega
    have hw1 : IntKind.i64.wrap 1 = 1 := by decide
    simp [h0, h9, h10, h11, h3, hw, hn, hw1]
    exact hJ _ ⟨1, by omega, by simp [h0], by simp [h9], by simp [h10], by simp, by simp⟩ (by simp [h11])
  · have hw : IntKind.i64.wrap ((cx.length : Int) + cy.length) = (cx.length : Int) + cy.length := wrap_i64 _ (by omega) (by omega)
    have hn : ¬ (cx.length : Int) + cy.length < 0 := by omega
    have hw1 : IntKind.i64.wrap 2 = 2 := by decide
    simp [h0, h9, h10, h11, h3, hw, hn, hw1]
    exact hJ _ ⟨2, by omega, by simp [h0], by simp [h9], by simp [h10], by simp, by simp⟩ (by simp [h11])
  · simp [h0, h9, h10, h11, h3]
    refine ⟨⟨by omega, by omega⟩, ?_⟩
    refine awp_loop (fun σ => σ.T 25 = .sl false [[.sl e1 cx], [.sl e2 cy]] ∧ σ.T 26 = .int .i64 2 ∧ ((σ.T 27 = .int .i64 0 ∧ σ.T 6 = .own (24, 1) (σ.γ (24, 1)) ∧ σ.H (24, 1) = some (.rows 2 [])) ∨ (σ.T 27 = .int .i64 1 ∧ σ.T 6 = .own (33, 0) (σ.γ (33, 0)) ∧ σ.H (33, 0) = some (.rows 2 cx)) ∨ (σ.T 27 = .int .i64 2 ∧ σ.T 6 = .own (33, 0) (σ.γ (33, 0)) ∧ σ.H (33, 0) = some (.rows 2 (cx ++ cy))))) (fun σ => 2 - (ival (σ.T 27)).toNat) (by simp) ?_
    clear h0 h9 h10 h11 h3
    rintro σ ⟨h25, h26, ⟨h27, h6, hH⟩ | ⟨h27, h6, hH⟩ | ⟨h27, h6, hH⟩⟩ J2 hJ2
    · have hw1 : IntKind.i64.wrap 1 = 1 := by decide
      simp [h25, h26, h27, h6, hH, hw1]
      refine ⟨⟨?_, by omega, by omega⟩, hJ2 _ ⟨by simp [h25], by simp [h26], .inr (.inl ⟨by simp, by simp, by simp⟩)⟩ (by simp [h27])⟩
      simpa using ax
    · have hw1 : IntKind.i64.wrap 2 = 2 := by decide
      simp [h25, h26, h27, h6, hH, hw1]
      refine ⟨⟨?_, by omega, by omega⟩, hJ2 _ ⟨by simp [h25], by simp [h26], .inr (.inr ⟨by simp, by simp, by simp⟩)⟩ (by simp [h27])⟩
      simpa using ay
    · simp [h25, h26, h27, h6, hH, immR_append, hix, hiy]

end Go.Proofs.Ytedhhjmjlpnlpaa.VW
