/- The law TaskTurns: for every input it returns true, and each argument reads as it did. No condition. -/
import Derived.Test.YtedhhjmjlpnlpaaRows
import Derived.Test.YtedhhjmjlpnlpaaYA
import Derived.Test.YtedhhjmjlpnlpaaXP
import Derived.Test.YtedhhjmjlpnlpaaXJ
import Derived.WalkKit
import Derived.ProofKit
import Derived.OpenShut
import Derived.ShutString
import Derived.ChangeOld
import Derived.Below
import Derived.SizedLaws
import Derived.WideShapes
import Derived.Carry
namespace Go.Proofs.Ytedhhjmjlpnlpaa.taskTurns
open Go.ChangeShapes Go.WideShapes Go.ChangeAt Go.RowKit Go.Proofs.Ytedhhjmjlpnlpaa.VW
open Go.ChangeMaps (open_string shut_string)
set_option linter.unusedVariables false
theorem own : ownKnob Try.prog.godebug = none := by kernel_rfl
theorem laidOut : laidOutB Try.prog = true := by kernel_rfl
set_option maxRecDepth 100000 in
theorem lifted (os : Os) (started : os.Started) (H : Type) (enc : TypeId × Value → H) :
    ReturnsInHanded {} Try.checked os 18 .any (Rows.taskTurnsSpec.pre6 enc Try.prog Try.f18 Rows.taskTurnsRow.domain false) (Rows.taskTurnsSpec.post enc Try.prog Try.f18 false true false false) := by
  refine returnsInHanded_of_change_sized (C := Try.checked) own started (by kernel_rfl) Try.func18
    (ChangeSpec.witness6 (enc := enc) (C := Try.checked) false ⟨#[], #[.agg #[.int .u8 0, .int .i64 0, .int .i64 0, .slice none 0 0, .slice none 0 0, .slice none 0 0, .slice none 0 0, .slice none 0 0, .slice none 0 0], .slice none 0 0], []⟩ 8 (by kernel_rfl) (by kernel_rfl) (by kernel_rfl) (by kernel_rfl)) ?_
  intro W base args ds gs before hval0 hW hcnd hsz0 _
  have hval : ∀ (j : Nat) t v, Try.f18.params[j]? = some t → args[j]? = some v → Value.okWide Try.prog W .any base t v := hval0
  have hW' := hW
  obtain ⟨p, q, hA0, hV, rfl, hfz, hnd⟩ := hW
  have hA : DataW.TrodAll enc Try.prog W 0 (fun _ => true) true Try.f18.params.toList args.toList ds p := hA0
  rw [Try.params18] at hA hval
  obtain ⟨v0, vs0, d0, ds0, p0, q0, hargs, rfl, rfl, h0, r0⟩ := trodAll_cons hA
  obtain ⟨v1, vs1, d1, ds1, p1, q1, rfl, rfl, rfl, h1, r1⟩ := trodAll_cons r0
  obtain ⟨rfl, rfl, rfl⟩ := trodAll_nil r1
  obtain rfl : args = #[v0, v1] := by cases args; simp_all
  obtain ⟨rfl, rfl⟩ := trodVars_none hV
  obtain ⟨cs0, rfl, _⟩ := okWide_struct Try.underlying31 (hval 0 31 v0 rfl rfl)
  have k0 := h0
  have lt0 : ∀ x ∈ p0, x.block < W.heap.size := by obtain ⟨m, hm⟩ := k0; exact DataW.trod_lt m _ _ _ hm
  obtain ⟨fuel0, hf0⟩ := h0
  obtain ⟨_, Q0, _, H0⟩ := op31 _ enc W _ _ _ _ _ _ hf0
  obtain ⟨x0, rfl, W0⟩ := H0
  have R0 := R_agg Q0
  obtain ⟨a1, len1, cap1, rfl⟩ := okWide_slice Try.underlying39 (hval 1 39 v1 rfl rfl)
  have k1 := h1
  have lt1 : ∀ x ∈ p1, x.block < W.heap.size := by obtain ⟨m, hm⟩ := k1; exact DataW.trod_lt m _ _ _ hm
  obtain ⟨fuel1, hf1⟩ := h1
  obtain ⟨_, Q1, _, H1⟩ := op39 _ enc W _ _ _ _ _ _ hf1
  obtain ⟨x1, rfl, l1, W1⟩ := shS_rows H1
  have R1 := R_one Q1
  clear hA0 hval0 hsz0
  have hc := (S18_ok [.agg (eTsk x0), .sl false (x1.map eQue)] _ _ _ rfl (⟨by simp, ⟨by simp, by simpa using l1⟩, by simp [W0.pd.1, W0.mx.1, W0.st.1, W0.ev.1, W0.rw.1, W0.lt.1], (by simp only [List.map_map, ue_Que, List.map_id]; exact fun q hq => (W1 q hq).2.1)⟩)).2.2.2 W (fun b => b < W.heap.size) [_, _] (fun b h => h) (RA_cons R0 (RA_cons R1 RA_nil))
  refine hc.mono fun e W' ⟨v, he, hr⟩ => ?_
  obtain ⟨F', E', bel, _, _, _, hv, _⟩ := hr.out
  rw [R] at hv
  subst hv
  exact ⟨_, he, _, _, _, [], _, [], hW', trodAll_mk1 (shut_bool Try.underlying4 _), (trodAll_cons_mk (Below.trod laidOut (by kernel_rfl) (of_decide_eq_true (by kernel_rfl)) k0 bel lt0) (trodAll_cons_mk (Below.trod laidOut (by kernel_rfl) (of_decide_eq_true (by kernel_rfl)) k1 bel lt1) trodAll_mk0)), rfl, bel.frame _, fun h => by cases h⟩
theorem named : Try.pinned.checked.prog.funcNamed Rows.taskTurnsRow.func = some 18 := by kernel_rfl
theorem j1 : Rows.taskTurnsRow.wf (OpenSpec.ofChange Rows.taskTurnsSpec) = true := by kernel_rfl
theorem j4 : Try.f18.params.all (Try.prog.readableRec ·) = true := by kernel_rfl
theorem j5 : namedTie Try.prog Rows.taskTurnsRow.named Rows.taskTurnsSpec.vars = true := by kernel_rfl
theorem j6 : (Rows.taskTurnsRow.stops == []) = true := by kernel_rfl
theorem j8 : (Rows.taskTurnsRow.knobs == []) = true := by kernel_rfl
theorem j10 : (Rows.taskTurnsRow.inPlace == Try.prog.inPlace 18) = true := by kernel_rfl
theorem j11 : (Rows.taskTurnsRow.unfollowed == Try.prog.unfollowed 18) = true := by kernel_rfl
theorem j12 : (Rows.taskTurnsRow.recurses == Try.prog.recurses 18) = true := by kernel_rfl
theorem j13 : (Rows.taskTurnsRow.named == Try.prog.varsNamed 18) = true := by kernel_rfl
theorem j14 : (Rows.taskTurnsRow.maps == (Try.f18.params.toList ++ Rows.taskTurnsSpec.plain.varTypes Try.prog).any (Try.prog.mapsRec ·)) = true := by kernel_rfl
theorem j15 : (Rows.taskTurnsRow.ifaces == (Try.f18.params.toList ++ Rows.taskTurnsSpec.plain.varTypes Try.prog).any (Try.prog.ifacesRec ·)) = true := by kernel_rfl
theorem j16 : (Rows.taskTurnsRow.mapsOut == Try.prog.mapsAmong Try.f18.resultTypes.toList) = true := by kernel_rfl
theorem j17 : (Rows.taskTurnsRow.loops == (Try.f18.params.toList ++ Rows.taskTurnsSpec.plain.varTypes Try.prog).any (Try.prog.loopsFrom ·)) = true := by kernel_rfl
theorem j18 : (Rows.taskTurnsRow.wideKeys == (Try.f18.params.toList ++ Rows.taskTurnsSpec.plain.varTypes Try.prog ++ Try.f18.resultTypes.toList).any (Try.prog.wideKeysFrom ·)) = true := by kernel_rfl
theorem j19 : Rows.taskTurnsSpec.vars.all (Try.prog.varReadable ·) = true := by kernel_rfl
theorem j20 : Try.f18.resultTypes.all (fun t => Try.prog.readableRec t && decide (t < Try.prog.types.size)) = true := by kernel_rfl
theorem j21 : (Rows.taskTurnsRow.ifacesOut == Try.f18.resultTypes.toList.any (Try.prog.ifacesRec ·)) = true := by kernel_rfl
theorem j22 : (Rows.taskTurnsRow.loopsOut == Try.f18.resultTypes.toList.any (Try.prog.loopsFrom ·)) = true := by kernel_rfl
theorem j24 : Rows.taskTurnsRow.shortTexts.isNone = true := by kernel_rfl
theorem j29 : (Rows.taskTurnsRow.kinds == (if Rows.taskTurnsRow.domain.isEmpty then [] else Try.f18.params.toList.map fun t => match Try.prog.underlying t with | some (.int k) => some k | _ => none)) = true := by kernel_rfl
theorem j30 : (Rows.taskTurnsRow.pinned == Rows.taskTurnsRow.pinnedBy) = true := by kernel_rfl
theorem j31 : (Rows.taskTurnsRow.veiled == (Try.f18.params.toList ++ Rows.taskTurnsSpec.plain.varTypes Try.prog ++ Try.f18.resultTypes.toList).any (Try.prog.veiledRec ·)) = true := by kernel_rfl
theorem j32 : Rows.taskTurnsRow.veiledFits Try.prog Try.f18.params.toList (Try.f18.params.toList ++ Rows.taskTurnsSpec.plain.varTypes Try.prog ++ Try.f18.resultTypes.toList) = true := by kernel_rfl
set_option maxRecDepth 100000 in
theorem closed : joinedFacts Try.pinned.checked.prog 18 Try.f18 Rows.taskTurnsSpec Rows.taskTurnsRow = true := by
  unfold joinedFacts
  simp only [Bool.and_eq_true]
  repeat' refine And.intro ?_ ?_
  · exact j1
  · exact VW.j2
  · exact VW.j3
  · exact j4
  · exact j5
  · exact j6
  · exact VW.j7
  · exact j8
  · exact VW.j9
  · exact j10
  · exact j11
  · exact j12
  · exact j13
  · exact j14
  · exact j15
  · exact j16
  · exact j17
  · exact j18
  · exact j19
  · exact j20
  · exact j21
  · exact j22
  · exact VW.j23
  · exact j24
  · exact VW.j25
  · exact VW.j26
  · exact VW.j27
  · exact VW.j28
  · exact j29
  · exact j30
  · exact j31
  · exact j32
theorem over : Rows.taskTurnsRow.holds Try.pinned (OpenSpec.ofChange Rows.taskTurnsSpec) :=
  OpenClaim.holds_of_wide 18 Try.f18 rfl rfl rfl rfl rfl rfl rfl ⟨rfl, rfl, rfl, rfl, rfl⟩ rfl rfl rfl rfl rfl named Try.func18 closed
    (of_decide_eq_true (by kernel_rfl)) (by unfold Func.isWrapper; first | (rw [if_pos (by decide +kernel)]; kernel_rfl) | (rw [if_neg (by decide +kernel)]; exact ⟨rfl, rfl⟩))
    (fun os started H enc _ => lifted os started H enc)
theorem proved : Rows.TaskTurnsSaid := over
end Go.Proofs.Ytedhhjmjlpnlpaa.taskTurns
namespace Go.Proofs.Ytedhhjmjlpnlpaa
/-- The row, under a short name, for the claim. -/
theorem taskTurns_holds : Rows.TaskTurnsSaid := taskTurns.proved
end Go.Proofs.Ytedhhjmjlpnlpaa
