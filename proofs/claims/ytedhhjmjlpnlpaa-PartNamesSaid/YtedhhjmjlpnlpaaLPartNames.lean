/- The law PartNames: for every input it returns true, and each argument reads as it did. No condition. -/
import Derived.Test.YtedhhjmjlpnlpaaRows
import Derived.Test.YtedhhjmjlpnlpaaXH
import Derived.Test.YtedhhjmjlpnlpaaXP
import Derived.Test.YtedhhjmjlpnlpaaXJ
import Derived.WalkKit
import Derived.ProofKit
import Derived.OpenShut
import Derived.ShutString
import Derived.ChangeOld
import Derived.Below
import Derived.SizedLaws
import Derived.WideShapes
import Derived.Carry
namespace Go.Proofs.Ytedhhjmjlpnlpaa.partNames
open Go.ChangeShapes Go.WideShapes Go.ChangeAt Go.RowKit Go.Proofs.Ytedhhjmjlpnlpaa.VW
open Go.ChangeMaps (open_string shut_string)
set_option linter.unusedVariables false
theorem own : ownKnob Try.prog.godebug = none := by kernel_rfl
theorem laidOut : laidOutB Try.prog = true := by kernel_rfl
set_option maxRecDepth 100000 in
theorem lifted (os : Os) (started : os.Started) (H : Type) (enc : TypeId × Value → H) :
    ReturnsInHanded {} Try.checked os 10 .any (Rows.partNamesSpec.pre6 enc Try.prog Try.f10 Rows.partNamesRow.domain false) (Rows.partNamesSpec.post enc Try.prog Try.f10 false true false false) := by
  refine returnsInHanded_of_change_sized (C := Try.checked) own started (by kernel_rfl) Try.func10
    (ChangeSpec.witness6 (enc := enc) (C := Try.checked) false ⟨#[], #[], []⟩ 8 (by kernel_rfl) (by kernel_rfl) (by kernel_rfl) (by kernel_rfl)) ?_
  intro W base args ds gs before hval0 hW hcnd hsz0 _
  have hval : ∀ (j : Nat) t v, Try.f10.params[j]? = some t → args[j]? = some v → Value.okWide Try.prog W .any base t v := hval0
  have hW' := hW
  obtain ⟨p, q, hA0, hV, rfl, hfz, hnd⟩ := hW
  have hA : DataW.TrodAll enc Try.prog W 0 (fun _ => true) true Try.f10.params.toList args.toList ds p := hA0
  rw [Try.params10] at hA hval
  obtain ⟨rfl, rfl, rfl⟩ := trodAll_none hA
  obtain ⟨rfl, rfl⟩ := trodVars_none hV
  clear hA0 hval0 hsz0
  have hc := (S10_ok [] _ _ _ rfl (trivial)).2.2.2 W (fun b => b < W.heap.size) [] (fun b h => h) RA_nil
  refine hc.mono fun e W' ⟨v, he, hr⟩ => ?_
  obtain ⟨F', E', bel, _, _, _, hv, _⟩ := hr.out
  rw [R] at hv
  subst hv
  exact ⟨_, he, _, _, _, [], _, [], hW', trodAll_mk1 (shut_bool Try.underlying4 _), trodAll_mk0, rfl, bel.frame _, fun h => by cases h⟩
theorem named : Try.pinned.checked.prog.funcNamed Rows.partNamesRow.func = some 10 := by kernel_rfl
theorem j1 : Rows.partNamesRow.wf (OpenSpec.ofChange Rows.partNamesSpec) = true := by kernel_rfl
theorem j4 : Try.f10.params.all (Try.prog.readableRec ·) = true := by kernel_rfl
theorem j5 : namedTie Try.prog Rows.partNamesRow.named Rows.partNamesSpec.vars = true := by kernel_rfl
theorem j6 : (Rows.partNamesRow.stops == []) = true := by kernel_rfl
theorem j8 : (Rows.partNamesRow.knobs == []) = true := by kernel_rfl
theorem j10 : (Rows.partNamesRow.inPlace == Try.prog.inPlace 10) = true := by kernel_rfl
theorem j11 : (Rows.partNamesRow.unfollowed == Try.prog.unfollowed 10) = true := by kernel_rfl
theorem j12 : (Rows.partNamesRow.recurses == Try.prog.recurses 10) = true := by kernel_rfl
theorem j13 : (Rows.partNamesRow.named == Try.prog.varsNamed 10) = true := by kernel_rfl
theorem j14 : (Rows.partNamesRow.maps == (Try.f10.params.toList ++ Rows.partNamesSpec.plain.varTypes Try.prog).any (Try.prog.mapsRec ·)) = true := by kernel_rfl
theorem j15 : (Rows.partNamesRow.ifaces == (Try.f10.params.toList ++ Rows.partNamesSpec.plain.varTypes Try.prog).any (Try.prog.ifacesRec ·)) = true := by kernel_rfl
theorem j16 : (Rows.partNamesRow.mapsOut == Try.prog.mapsAmong Try.f10.resultTypes.toList) = true := by kernel_rfl
theorem j17 : (Rows.partNamesRow.loops == (Try.f10.params.toList ++ Rows.partNamesSpec.plain.varTypes Try.prog).any (Try.prog.loopsFrom ·)) = true := by kernel_rfl
theorem j18 : (Rows.partNamesRow.wideKeys == (Try.f10.params.toList ++ Rows.partNamesSpec.plain.varTypes Try.prog ++ Try.f10.resultTypes.toList).any (Try.prog.wideKeysFrom ·)) = true := by kernel_rfl
theorem j19 : Rows.partNamesSpec.vars.all (Try.prog.varReadable ·) = true := by kernel_rfl
theorem j20 : Try.f10.resultTypes.all (fun t => Try.prog.readableRec t && decide (t < Try.prog.types.size)) = true := by kernel_rfl
theorem j21 : (Rows.partNamesRow.ifacesOut == Try.f10.resultTypes.toList.any (Try.prog.ifacesRec ·)) = true := by kernel_rfl
theorem j22 : (Rows.partNamesRow.loopsOut == Try.f10.resultTypes.toList.any (Try.prog.loopsFrom ·)) = true := by kernel_rfl
theorem j24 : Rows.partNamesRow.shortTexts.isNone = true := by kernel_rfl
theorem j29 : (Rows.partNamesRow.kinds == (if Rows.partNamesRow.domain.isEmpty then [] else Try.f10.params.toList.map fun t => match Try.prog.underlying t with | some (.int k) => some k | _ => none)) = true := by kernel_rfl
theorem j30 : (Rows.partNamesRow.pinned == Rows.partNamesRow.pinnedBy) = true := by kernel_rfl
theorem j31 : (Rows.partNamesRow.veiled == (Try.f10.params.toList ++ Rows.partNamesSpec.plain.varTypes Try.prog ++ Try.f10.resultTypes.toList).any (Try.prog.veiledRec ·)) = true := by kernel_rfl
theorem j32 : Rows.partNamesRow.veiledFits Try.prog Try.f10.params.toList (Try.f10.params.toList ++ Rows.partNamesSpec.plain.varTypes Try.prog ++ Try.f10.resultTypes.toList) = true := by kernel_rfl
set_option maxRecDepth 100000 in
theorem closed : joinedFacts Try.pinned.checked.prog 10 Try.f10 Rows.partNamesSpec Rows.partNamesRow = true := by
  unfold joinedFacts
  simp only [Bool.and_eq_true]
  repeat' refine And.intro ?_ ?_
  · exact j1
  · exact VW.j2
  · exact VW.j3
  · exact j4
  · exact j5
  · exact j6
  · exact VW.j7
  · exact j8
  · exact VW.j9
  · exact j10
  · exact j11
  · exact j12
  · exact j13
  · exact j14
  · exact j15
  · exact j16
  · exact j17
  · exact j18
  · exact j19
  · exact j20
  · exact j21
  · exact j22
  · exact VW.j23
  · exact j24
  · exact VW.j25
  · exact VW.j26
  · exact VW.j27
  · exact VW.j28
  · exact j29
  · exact j30
  · exact j31
  · exact j32
theorem over : Rows.partNamesRow.holds Try.pinned (OpenSpec.ofChange Rows.partNamesSpec) :=
  OpenClaim.holds_of_wide 10 Try.f10 rfl rfl rfl rfl rfl rfl rfl ⟨rfl, rfl, rfl, rfl, rfl⟩ rfl rfl rfl rfl rfl named Try.func10 closed
    (of_decide_eq_true (by kernel_rfl)) (by unfold Func.isWrapper; first | (rw [if_pos (by decide +kernel)]; kernel_rfl) | (rw [if_neg (by decide +kernel)]; exact ⟨rfl, rfl⟩))
    (fun os started H enc _ => lifted os started H enc)
theorem proved : Rows.PartNamesSaid := over
end Go.Proofs.Ytedhhjmjlpnlpaa.partNames
namespace Go.Proofs.Ytedhhjmjlpnlpaa
/-- The row, under a short name, for the claim. -/
theorem partNames_holds : Rows.PartNamesSaid := partNames.proved
end Go.Proofs.Ytedhhjmjlpnlpaa
