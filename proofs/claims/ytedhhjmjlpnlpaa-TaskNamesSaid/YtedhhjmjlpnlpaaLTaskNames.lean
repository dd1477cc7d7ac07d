/- The law TaskNames: for every input it returns true, and each argument reads as it did. No condition. -/
import Derived.Test.YtedhhjmjlpnlpaaRows
import Derived.Test.YtedhhjmjlpnlpaaYB
import Derived.Test.YtedhhjmjlpnlpaaXP
import Derived.Test.YtedhhjmjlpnlpaaXJ
import Derived.WalkKit
import Derived.ProofKit
import Derived.OpenShut
import Derived.ShutString
import Derived.ChangeOld
import Derived.Below
import Derived.SizedLaws
import Derived.WideShapes
import Derived.Carry
namespace Go.Proofs.Ytedhhjmjlpnlpaa.taskNames
open Go.ChangeShapes Go.WideShapes Go.ChangeAt Go.RowKit Go.Proofs.Ytedhhjmjlpnlpaa.VW
open Go.ChangeMaps (open_string shut_string)
set_option linter.unusedVariables false
theorem own : ownKnob Try.prog.godebug = none := by kernel_rfl
theorem laidOut : laidOutB Try.prog = true := by kernel_rfl
set_option maxRecDepth 100000 in
theorem lifted (os : Os) (started : os.Started) (H : Type) (enc : TypeId × Value → H) :
    ReturnsInHanded {} Try.checked os 6 .any (Rows.taskNamesSpec.pre6 enc Try.prog Try.f6 Rows.taskNamesRow.domain false) (Rows.taskNamesSpec.post enc Try.prog Try.f6 false true false false) := by
  refine returnsInHanded_of_change_sized (C := Try.checked) own started (by kernel_rfl) Try.func6
    (ChangeSpec.witness6 (enc := enc) (C := Try.checked) false ⟨#[], #[], []⟩ 8 (by kernel_rfl) (by kernel_rfl) (by kernel_rfl) (by kernel_rfl)) ?_
  intro W base args ds gs before hval0 hW hcnd hsz0 _
  have hval : ∀ (j : Nat) t v, Try.f6.params[j]? = some t → args[j]? = some v → Value.okWide Try.prog W .any base t v := hval0
  have hW' := hW
  obtain ⟨p, q, hA0, hV, rfl, hfz, hnd⟩ := hW
  have hA : DataW.TrodAll enc Try.prog W 0 (fun _ => true) true Try.f6.params.toList args.toList ds p := hA0
  rw [Try.params6] at hA hval
  obtain ⟨rfl, rfl, rfl⟩ := trodAll_none hA
  obtain ⟨rfl, rfl⟩ := trodVars_none hV
  clear hA0 hval0 hsz0
  have hc := (S6_ok [] _ _ _ rfl (trivial)).2.2.2 W (fun b => b < W.heap.size) [] (fun b h => h) RA_nil
  refine hc.mono fun e W' ⟨v, he, hr⟩ => ?_
  obtain ⟨F', E', bel, _, _, _, hv, _⟩ := hr.out
  rw [R] at hv
  subst hv
  exact ⟨_, he, _, _, _, [], _, [], hW', trodAll_mk1 (shut_bool Try.underlying4 _), trodAll_mk0, rfl, bel.frame _, fun h => by cases h⟩
theorem named : Try.pinned.checked.prog.funcNamed Rows.taskNamesRow.func = some 6 := by kernel_rfl
theorem j1 : Rows.taskNamesRow.wf (OpenSpec.ofChange Rows.taskNamesSpec) = true := by kernel_rfl
theorem j4 : Try.f6.params.all (Try.prog.readableRec ·) = true := by kernel_rfl
theorem j5 : namedTie Try.prog Rows.taskNamesRow.named Rows.taskNamesSpec.vars = true := by kernel_rfl
theorem j6 : (Rows.taskNamesRow.stops == []) = true := by kernel_rfl
theorem j8 : (Rows.taskNamesRow.knobs == []) = true := by kernel_rfl
theorem j10 : (Rows.taskNamesRow.inPlace == Try.prog.inPlace 6) = true := by kernel_rfl
theorem j11 : (Rows.taskNamesRow.unfollowed == Try.prog.unfollowed 6) = true := by kernel_rfl
theorem j12 : (Rows.taskNamesRow.recurses == Try.prog.recurses 6) = true := by kernel_rfl
theorem j13 : (Rows.taskNamesRow.named == Try.prog.varsNamed 6) = true := by kernel_rfl
theorem j14 : (Rows.taskNamesRow.maps == (Try.f6.params.toList ++ Rows.taskNamesSpec.plain.varTypes Try.prog).any (Try.prog.mapsRec ·)) = true := by kernel_rfl
theorem j15 : (Rows.taskNamesRow.ifaces == (Try.f6.params.toList ++ Rows.taskNamesSpec.plain.varTypes Try.prog).any (Try.prog.ifacesRec ·)) = true := by kernel_rfl
theorem j16 : (Rows.taskNamesRow.mapsOut == Try.prog.mapsAmong Try.f6.resultTypes.toList) = true := by kernel_rfl
theorem j17 : (Rows.taskNamesRow.loops == (Try.f6.params.toList ++ Rows.taskNamesSpec.plain.varTypes Try.prog).any (Try.prog.loopsFrom ·)) = true := by kernel_rfl
theorem j18 : (Rows.taskNamesRow.wideKeys == (Try.f6.params.toList ++ Rows.taskNamesSpec.plain.varTypes Try.prog ++ Try.f6.resultTypes.toList).any (Try.prog.wideKeysFrom ·)) = true := by kernel_rfl
theorem j19 : Rows.taskNamesSpec.vars.all (Try.prog.varReadable ·) = true := by kernel_rfl
theorem j20 : Try.f6.resultTypes.all (fun t => Try.prog.readableRec t && decide (t < Try.prog.types.size)) = true := by kernel_rfl
theorem j21 : (Rows.taskNamesRow.ifacesOut == Try.f6.resultTypes.toList.any (Try.prog.ifacesRec ·)) = true := by kernel_rfl
theorem j22 : (Rows.taskNamesRow.loopsOut == Try.f6.resultTypes.toList.any (Try.prog.loopsFrom ·)) = true := by kernel_rfl
theorem j24 : Rows.taskNamesRow.shortTexts.isNone = true := by kernel_rfl
theorem j29 : (Rows.taskNamesRow.kinds == (if Rows.taskNamesRow.domain.isEmpty then [] else Try.f6.params.toList.map fun t => match Try.prog.underlying t with | some (.int k) => some k | _ => none)) = true := by kernel_rfl
theorem j30 : (Rows.taskNamesRow.pinned == Rows.taskNamesRow.pinnedBy) = true := by kernel_rfl
theorem j31 : (Rows.taskNamesRow.veiled == (Try.f6.params.toList ++ Rows.taskNamesSpec.plain.varTypes Try.prog ++ Try.f6.resultTypes.toList).any (Try.prog.veiledRec ·)) = true := by kernel_rfl
theorem j32 : Rows.taskNamesRow.veiledFits Try.prog Try.f6.params.toList (Try.f6.params.toList ++ Rows.taskNamesSpec.plain.varTypes Try.prog ++ Try.f6.resultTypes.toList) = true := by kernel_rfl
set_option maxRecDepth 100000 in
theorem closed : joinedFacts Try.pinned.checked.prog 6 Try.f6 Rows.taskNamesSpec Rows.taskNamesRow = true := by
  unfold joinedFacts
  simp only [Bool.and_eq_true]
  repeat' refine And.intro ?_ ?_
  · exact j1
  · exact VW.j2
  · exact VW.j3
  · exact j4
  · exact j5
  · exact j6
  · exact VW.j7
  · exact j8
  · exact VW.j9
  · exact j10
  · exact j11
  · exact j12
  · exact j13
  · exact j14
  · exact j15
  · exact j16
  · exact j17
  · exact j18
  · exact j19
  · exact j20
  · exact j21
  · exact j22
  · exact VW.j23
  · exact j24
  · exact VW.j25
  · exact VW.j26
  · exact VW.j27
  · exact VW.j28
  · exact j29
  · exact j30
  · exact j31
  · exact j32
theorem over : Rows.taskNamesRow.holds Try.pinned (OpenSpec.ofChange Rows.taskNamesSpec) :=
  OpenClaim.holds_of_wide 6 Try.f6 rfl rfl rfl rfl rfl rfl rfl ⟨rfl, rfl, rfl, rfl, rfl⟩ rfl rfl rfl rfl rfl named Try.func6 closed
    (of_decide_eq_true (by kernel_rfl)) (by unfold Func.isWrapper; first | (rw [if_pos (by decide +kernel)]; kernel_rfl) | (rw [if_neg (by decide +kernel)]; exact ⟨rfl, rfl⟩))
    (fun os started H enc _ => lifted os started H enc)
theorem proved : Rows.TaskNamesSaid := over
end Go.Proofs.Ytedhhjmjlpnlpaa.taskNames
namespace Go.Proofs.Ytedhhjmjlpnlpaa
/-- The row, under a short name, for the claim. -/
theorem taskNames_holds : Rows.TaskNamesSaid := taskNames.proved
end Go.Proofs.Ytedhhjmjlpnlpaa
