/- The law PartTakes: for every input it returns true, and each argument reads as it did. No condition. -/
import Derived.Test.YtedhhjmjlpnlpaaRows
import Derived.Test.YtedhhjmjlpnlpaaXG
import Derived.Test.YtedhhjmjlpnlpaaXP
import Derived.Test.YtedhhjmjlpnlpaaXJ
import Derived.WalkKit
import Derived.ProofKit
import Derived.OpenShut
import Derived.ShutString
import Derived.ChangeOld
import Derived.Below
import Derived.SizedLaws
import Derived.WideShapes
import Derived.Carry
namespace Go.Proofs.Ytedhhjmjlpnlpaa.partTakes
open Go.ChangeShapes Go.WideShapes Go.ChangeAt Go.RowKit Go.Proofs.Ytedhhjmjlpnlpaa.VW
open Go.ChangeMaps (open_string shut_string)
set_option linter.unusedVariables false
theorem own : ownKnob Try.prog.godebug = none := by kernel_rfl
theorem laidOut : laidOutB Try.prog = true := by kernel_rfl
set_option maxRecDepth 100000 in
theorem lifted (os : Os) (started : os.Started) (H : Type) (enc : TypeId × Value → H) :
    ReturnsInHanded {} Try.checked os 9 .any (Rows.partTakesSpec.pre6 enc Try.prog Try.f9 Rows.partTakesRow.domain false) (Rows.partTakesSpec.post enc Try.prog Try.f9 false true false false) := by
  refine returnsInHanded_of_change_sized (C := Try.checked) own started (by kernel_rfl) Try.func9
    (ChangeSpec.witness6 (enc := enc) (C := Try.checked) false ⟨#[], #[.int .i64 0, .int .i64 0, .agg #[.int .u8 0, .int .i64 0, .int .i64 0, .slice none 0 0, .slice none 0 0, .slice none 0 0, .slice none 0 0, .slice none 0 0, .slice none 0 0], .agg #[.int .u8 0, .int .i64 0, .int .i64 0, .int .i64 0, .int .i64 0, .int .i64 0, .int .i64 0, .int .i64 0, .int .i64 0, .int .i64 0], .int .i64 0], []⟩ 8 (by kernel_rfl) (by kernel_rfl) (by kernel_rfl) (by kernel_rfl)) ?_
  intro W base args ds gs before hval0 hW hcnd hsz0 _
  have hval : ∀ (j : Nat) t v, Try.f9.params[j]? = some t → args[j]? = some v → Value.okWide Try.prog W .any base t v := hval0
  have hW' := hW
  obtain ⟨p, q, hA0, hV, rfl, hfz, hnd⟩ := hW
  have hA : DataW.TrodAll enc Try.prog W 0 (fun _ => true) true Try.f9.params.toList args.toList ds p := hA0
  rw [Try.params9] at hA hval
  obtain ⟨v0, vs0, d0, ds0, p0, q0, hargs, rfl, rfl, h0, r0⟩ := trodAll_cons hA
  obtain ⟨v1, vs1, d1, ds1, p1, q1, rfl, rfl, rfl, h1, r1⟩ := trodAll_cons r0
  obtain ⟨v2, vs2, d2, ds2, p2, q2, rfl, rfl, rfl, h2, r2⟩ := trodAll_cons r1
  obtain ⟨v3, vs3, d3, ds3, p3, q3, rfl, rfl, rfl, h3, r3⟩ := trodAll_cons r2
  obtain ⟨v4, vs4, d4, ds4, p4, q4, rfl, rfl, rfl, h4, r4⟩ := trodAll_cons r3
  obtain ⟨rfl, rfl, rfl⟩ := trodAll_nil r4
  obtain rfl : args = #[v0, v1, v2, v3, v4] := by cases args; simp_all
  obtain ⟨rfl, rfl⟩ := trodVars_none hV
  obtain ⟨a0, rfl, rfl, rfl, w0⟩ := open_int Try.underlying2 (hval 0 2 v0 rfl rfl) h0
  have R0 : R W (fun b => b < W.heap.size) E0 (.int .i64 a0) (.int .i64 a0) := by rw [R]
  have W0 := wfI w0
  obtain ⟨a1, rfl, rfl, rfl, w1⟩ := open_int Try.underlying3 (hval 1 3 v1 rfl rfl) h1
  have R1 : R W (fun b => b < W.heap.size) E0 (.int .i64 a1) (.int .i64 a1) := by rw [R]
  have W1 := wfI w1
  obtain ⟨cs2, rfl, _⟩ := okWide_struct Try.underlying31 (hval 2 31 v2 rfl rfl)
  have k2 := h2
  have lt2 : ∀ x ∈ p2, x.block < W.heap.size := by obtain ⟨m, hm⟩ := k2; exact DataW.trod_lt m _ _ _ hm
  obtain ⟨fuel2, hf2⟩ := h2
  obtain ⟨_, Q2, _, H2⟩ := op31 _ enc W _ _ _ _ _ _ hf2
  obtain ⟨x2, rfl, W2⟩ := H2
  have R2 := R_agg Q2
  obtain ⟨cs3, rfl, _⟩ := okWide_struct Try.underlying58 (hval 3 58 v3 rfl rfl)
  have k3 := h3
  have lt3 : ∀ x ∈ p3, x.block < W.heap.size := by obtain ⟨m, hm⟩ := k3; exact DataW.trod_lt m _ _ _ hm
  obtain ⟨fuel3, hf3⟩ := h3
  obtain ⟨_, Q3, _, H3⟩ := op58 _ enc W _ _ _ _ _ _ hf3
  obtain ⟨x3, rfl, W3⟩ := H3
  have R3 := R_agg Q3
  obtain ⟨a4, rfl, rfl, rfl, w4⟩ := open_int Try.underlying3 (hval 4 3 v4 rfl rfl) h4
  have R4 : R W (fun b => b < W.heap.size) E0 (.int .i64 a4) (.int .i64 a4) := by rw [R]
  have W4 := wfI w4
  clear hA0 hval0 hsz0
  have hc := (S9_ok [.int .i64 a0, .int .i64 a1, .agg (eTsk x2), .agg (eMsg x3), .int .i64 a4] _ _ _ rfl (⟨by simp, by simp, by simp [W2.pd.1, W2.mx.1, W2.st.1, W2.ev.1, W2.rw.1, W2.lt.1]⟩)).2.2.2 W (fun b => b < W.heap.size) [_, _, _, _, _] (fun b h => h) (RA_cons R0 (RA_cons R1 (RA_cons R2 (RA_cons R3 (RA_cons R4 RA_nil)))))
  refine hc.mono fun e W' ⟨v, he, hr⟩ => ?_
  obtain ⟨F', E', bel, _, _, _, hv, _⟩ := hr.out
  rw [R] at hv
  subst hv
  exact ⟨_, he, _, _, _, [], _, [], hW', trodAll_mk1 (shut_bool Try.underlying4 _), (trodAll_cons_mk (shut_int Try.underlying2 w0) (trodAll_cons_mk (shut_int Try.underlying3 w1) (trodAll_cons_mk (Below.trod laidOut (by kernel_rfl) (of_decide_eq_true (by kernel_rfl)) k2 bel lt2) (trodAll_cons_mk (Below.trod laidOut (by kernel_rfl) (of_decide_eq_true (by kernel_rfl)) k3 bel lt3) (trodAll_cons_mk (shut_int Try.underlying3 w4) trodAll_mk0))))), rfl, bel.frame _, fun h => by cases h⟩
theorem named : Try.pinned.checked.prog.funcNamed Rows.partTakesRow.func = some 9 := by kernel_rfl
theorem j1 : Rows.partTakesRow.wf (OpenSpec.ofChange Rows.partTakesSpec) = true := by kernel_rfl
theorem j4 : Try.f9.params.all (Try.prog.readableRec ·) = true := by kernel_rfl
theorem j5 : namedTie Try.prog Rows.partTakesRow.named Rows.partTakesSpec.vars = true := by kernel_rfl
theorem j6 : (Rows.partTakesRow.stops == []) = true := by kernel_rfl
theorem j8 : (Rows.partTakesRow.knobs == []) = true := by kernel_rfl
theorem j10 : (Rows.partTakesRow.inPlace == Try.prog.inPlace 9) = true := by kernel_rfl
theorem j11 : (Rows.partTakesRow.unfollowed == Try.prog.unfollowed 9) = true := by kernel_rfl
theorem j12 : (Rows.partTakesRow.recurses == Try.prog.recurses 9) = true := by kernel_rfl
theorem j13 : (Rows.partTakesRow.named == Try.prog.varsNamed 9) = true := by kernel_rfl
theorem j14 : (Rows.partTakesRow.maps == (Try.f9.params.toList ++ Rows.partTakesSpec.plain.varTypes Try.prog).any (Try.prog.mapsRec ·)) = true := by kernel_rfl
theorem j15 : (Rows.partTakesRow.ifaces == (Try.f9.params.toList ++ Rows.partTakesSpec.plain.varTypes Try.prog).any (Try.prog.ifacesRec ·)) = true := by kernel_rfl
theorem j16 : (Rows.partTakesRow.mapsOut == Try.prog.mapsAmong Try.f9.resultTypes.toList) = true := by kernel_rfl
theorem j17 : (Rows.partTakesRow.loops == (Try.f9.params.toList ++ Rows.partTakesSpec.plain.varTypes Try.prog).any (Try.prog.loopsFrom ·)) = true := by kernel_rfl
theorem j18 : (Rows.partTakesRow.wideKeys == (Try.f9.params.toList ++ Rows.partTakesSpec.plain.varTypes Try.prog ++ Try.f9.resultTypes.toList).any (Try.prog.wideKeysFrom ·)) = true := by kernel_rfl
theorem j19 : Rows.partTakesSpec.vars.all (Try.prog.varReadable ·) = true := by kernel_rfl
theorem j20 : Try.f9.resultTypes.all (fun t => Try.prog.readableRec t && decide (t < Try.prog.types.size)) = true := by kernel_rfl
theorem j21 : (Rows.partTakesRow.ifacesOut == Try.f9.resultTypes.toList.any (Try.prog.ifacesRec ·)) = true := by kernel_rfl
theorem j22 : (Rows.partTakesRow.loopsOut == Try.f9.resultTypes.toList.any (Try.prog.loopsFrom ·)) = true := by kernel_rfl
theorem j24 : Rows.partTakesRow.shortTexts.isNone = true := by kernel_rfl
theorem j29 : (Rows.partTakesRow.kinds == (if Rows.partTakesRow.domain.isEmpty then [] else Try.f9.params.toList.map fun t => match Try.prog.underlying t with | some (.int k) => some k | _ => none)) = true := by kernel_rfl
theorem j30 : (Rows.partTakesRow.pinned == Rows.partTakesRow.pinnedBy) = true := by kernel_rfl
theorem j31 : (Rows.partTakesRow.veiled == (Try.f9.params.toList ++ Rows.partTakesSpec.plain.varTypes Try.prog ++ Try.f9.resultTypes.toList).any (Try.prog.veiledRec ·)) = true := by kernel_rfl
theorem j32 : Rows.partTakesRow.veiledFits Try.prog Try.f9.params.toList (Try.f9.params.toList ++ Rows.partTakesSpec.plain.varTypes Try.prog ++ Try.f9.resultTypes.toList) = true := by kernel_rfl
set_option maxRecDepth 100000 in
theorem closed : joinedFacts Try.pinned.checked.prog 9 Try.f9 Rows.partTakesSpec Rows.partTakesRow = true := by
  unfold joinedFacts
  simp only [Bool.and_eq_true]
  repeat' refine And.intro ?_ ?_
  · exact j1
  · exact VW.j2
  · exact VW.j3
  · exact j4
  · exact j5
  · exact j6
  · exact VW.j7
  · exact j8
  · exact VW.j9
  · exact j10
  · exact j11
  · exact j12
  · exact j13
  · exact j14
  · exact j15
  · exact j16
  · exact j17
  · exact j18
  · exact j19
  · exact j20
  · exact j21
  · exact j22
  · exact VW.j23
  · exact j24
  · exact VW.j25
  · exact VW.j26
  · exact VW.j27
  · exact VW.j28
  · exact j29
  · exact j30
  · exact j31
  · exact j32
theorem over : Rows.partTakesRow.holds Try.pinned (OpenSpec.ofChange Rows.partTakesSpec) :=
  OpenClaim.holds_of_wide 9 Try.f9 rfl rfl rfl rfl rfl rfl rfl ⟨rfl, rfl, rfl, rfl, rfl⟩ rfl rfl rfl rfl rfl named Try.func9 closed
    (of_decide_eq_true (by kernel_rfl)) (by unfold Func.isWrapper; first | (rw [if_pos (by decide +kernel)]; kernel_rfl) | (rw [if_neg (by decide +kernel)]; exact ⟨rfl, rfl⟩))
    (fun os started H enc _ => lifted os started H enc)
theorem proved : Rows.PartTakesSaid := over
end Go.Proofs.Ytedhhjmjlpnlpaa.partTakes
namespace Go.Proofs.Ytedhhjmjlpnlpaa
/-- The row, under a short name, for the claim. -/
theorem partTakes_holds : Rows.PartTakesSaid := partTakes.proved
end Go.Proofs.Ytedhhjmjlpnlpaa
