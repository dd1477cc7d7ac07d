/- The law TaskSent: for every input it returns true, and each argument reads as it did. No condition. -/
import Derived.Test.YtedhhjmjlpnlpaaRows
import Derived.Test.YtedhhjmjlpnlpaaYC
import Derived.Test.YtedhhjmjlpnlpaaXP
import Derived.Test.YtedhhjmjlpnlpaaXJ
import Derived.WalkKit
import Derived.ProofKit
import Derived.OpenShut
import Derived.ShutString
import Derived.ChangeOld
import Derived.Below
import Derived.SizedLaws
import Derived.WideShapes
import Derived.Carry
namespace Go.Proofs.Ytedhhjmjlpnlpaa.taskSent
open Go.ChangeShapes Go.WideShapes Go.ChangeAt Go.RowKit Go.Proofs.Ytedhhjmjlpnlpaa.VW
open Go.ChangeMaps (open_string shut_string)
set_option linter.unusedVariables false
theorem own : ownKnob Try.prog.godebug = none := by kernel_rfl
theorem laidOut : laidOutB Try.prog = true := by kernel_rfl
set_option maxRecDepth 100000 in
theorem lifted (os : Os) (started : os.Started) (H : Type) (enc : TypeId × Value → H) :
    ReturnsInHanded {} Try.checked os 4 .any (Rows.taskSentSpec.pre6 enc Try.prog Try.f4 Rows.taskSentRow.domain false) (Rows.taskSentSpec.post enc Try.prog Try.f4 false true false false) := by
  refine returnsInHanded_of_change_sized (C := Try.checked) own started (by kernel_rfl) Try.func4
    (ChangeSpec.witness6 (enc := enc) (C := Try.checked) false ⟨#[], #[.agg #[.int .u8 0, .int .i64 0, .int .i64 0, .slice none 0 0, .slice none 0 0, .slice none 0 0, .slice none 0 0, .slice none 0 0, .slice none 0 0], .slice none 0 0, .slice none 0 0], []⟩ 8 (by kernel_rfl) (by kernel_rfl) (by kernel_rfl) (by kernel_rfl)) ?_
  intro W base args ds gs before hval0 hW hcnd hsz0 _
  have hval : ∀ (j : Nat) t v, Try.f4.params[j]? = some t → args[j]? = some v → Value.okWide Try.prog W .any base t v := hval0
  have hW' := hW
  obtain ⟨p, q, hA0, hV, rfl, hfz, hnd⟩ := hW
  have hA : DataW.TrodAll enc Try.prog W 0 (fun _ => true) true Try.f4.params.toList args.toList ds p := hA0
  rw [Try.params4] at hA hval
  obtain ⟨v0, vs0, d0, ds0, p0, q0, hargs, rfl, rfl, h0, r0⟩ := trodAll_cons hA
  obtain ⟨v1, vs1, d1, ds1, p1, q1, rfl, rfl, rfl, h1, r1⟩ := trodAll_cons r0
  obtain ⟨v2, vs2, d2, ds2, p2, q2, rfl, rfl, rfl, h2, r2⟩ := trodAll_cons r1
  obtain ⟨rfl, rfl, rfl⟩ := trodAll_nil r2
  obtain rfl : args = #[v0, v1, v2] := by cases args; simp_all
  obtain ⟨rfl, rfl⟩ := trodVars_none hV
  obtain ⟨cs0, rfl, _⟩ := okWide_struct Try.underlying31 (hval 0 31 v0 rfl rfl)
  have k0 := h0
  have lt0 : ∀ x ∈ p0, x.block < W.heap.size := by obtain ⟨m, hm⟩ := k0; exact DataW.trod_lt m _ _ _ hm
  obtain ⟨fuel0, hf0⟩ := h0
  obtain ⟨_, Q0, _, H0⟩ := op31 _ enc W _ _ _ _ _ _ hf0
  obtain ⟨x0, rfl, W0⟩ := H0
  have R0 := R_agg Q0
  obtain ⟨a1, len1, cap1, rfl⟩ := okWide_slice Try.underlying39 (hval 1 39 v1 rfl rfl)
  have k1 := h1
  have lt1 : ∀ x ∈ p1, x.block < W.heap.size := by obtain ⟨m, hm⟩ := k1; exact DataW.trod_lt m _ _ _ hm
  obtain ⟨fuel1, hf1⟩ := h1
  obtain ⟨_, Q1, _, H1⟩ := op39 _ enc W _ _ _ _ _ _ hf1
  obtain ⟨x1, rfl, l1, W1⟩ := shS_rows H1
  have R1 := R_one Q1
  obtain ⟨a2, len2, cap2, rfl⟩ := okWide_slice Try.underlying39 (hval 2 39 v2 rfl rfl)
  have k2 := h2
  have lt2 : ∀ x ∈ p2, x.block < W.heap.size := by obtain ⟨m, hm⟩ := k2; exact DataW.trod_lt m _ _ _ hm
  obtain ⟨fuel2, hf2⟩ := h2
  obtain ⟨_, Q2, _, H2⟩ := op39 _ enc W _ _ _ _ _ _ hf2
  obtain ⟨x2, rfl, l2, W2⟩ := shS_rows H2
  have R2 := R_one Q2
  clear hA0 hval0 hsz0
  have hc := (S4_ok [.agg (eTsk x0), .sl false (x1.map eQue), .sl false (x2.map eQue)] _ _ _ rfl (⟨by simp, ⟨by simp, by simpa using l1⟩, ⟨by simp, by simpa using l2⟩, by simp [W0.pd.1, W0.mx.1, W0.st.1, W0.ev.1, W0.rw.1, W0.lt.1], (by simp only [List.map_map, ue_Que, List.map_id]; exact fun q hq => (W1 q hq).2.1), (by simp only [List.map_map, ue_Que, List.map_id]; exact fun q hq => (W2 q hq).2.1)⟩)).2.2.2 W (fun b => b < W.heap.size) [_, _, _] (fun b h => h) (RA_cons R0 (RA_cons R1 (RA_cons R2 RA_nil)))
  refine hc.mono fun e W' ⟨v, he, hr⟩ => ?_
  obtain ⟨F', E', bel, _, _, _, hv, _⟩ := hr.out
  rw [R] at hv
  subst hv
  exact ⟨_, he, _, _, _, [], _, [], hW', trodAll_mk1 (shut_bool Try.underlying4 _), (trodAll_cons_mk (Below.trod laidOut (by kernel_rfl) (of_decide_eq_true (by kernel_rfl)) k0 bel lt0) (trodAll_cons_mk (Below.trod laidOut (by kernel_rfl) (of_decide_eq_true (by kernel_rfl)) k1 bel lt1) (trodAll_cons_mk (Below.trod laidOut (by kernel_rfl) (of_decide_eq_true (by kernel_rfl)) k2 bel lt2) trodAll_mk0))), rfl, bel.frame _, fun h => by cases h⟩
theorem named : Try.pinned.checked.prog.funcNamed Rows.taskSentRow.func = some 4 := by kernel_rfl
theorem j1 : Rows.taskSentRow.wf (OpenSpec.ofChange Rows.taskSentSpec) = true := by kernel_rfl
theorem j4 : Try.f4.params.all (Try.prog.readableRec ·) = true := by kernel_rfl
theorem j5 : namedTie Try.prog Rows.taskSentRow.named Rows.taskSentSpec.vars = true := by kernel_rfl
theorem j6 : (Rows.taskSentRow.stops == []) = true := by kernel_rfl
theorem j8 : (Rows.taskSentRow.knobs == []) = true := by kernel_rfl
theorem j10 : (Rows.taskSentRow.inPlace == Try.prog.inPlace 4) = true := by kernel_rfl
theorem j11 : (Rows.taskSentRow.unfollowed == Try.prog.unfollowed 4) = true := by kernel_rfl
theorem j12 : (Rows.taskSentRow.recurses == Try.prog.recurses 4) = true := by kernel_rfl
theorem j13 : (Rows.taskSentRow.named == Try.prog.varsNamed 4) = true := by kernel_rfl
theorem j14 : (Rows.taskSentRow.maps == (Try.f4.params.toList ++ Rows.taskSentSpec.plain.varTypes Try.prog).any (Try.prog.mapsRec ·)) = true := by kernel_rfl
theorem j15 : (Rows.taskSentRow.ifaces == (Try.f4.params.toList ++ Rows.taskSentSpec.plain.varTypes Try.prog).any (Try.prog.ifacesRec ·)) = true := by kernel_rfl
theorem j16 : (Rows.taskSentRow.mapsOut == Try.prog.mapsAmong Try.f4.resultTypes.toList) = true := by kernel_rfl
theorem j17 : (Rows.taskSentRow.loops == (Try.f4.params.toList ++ Rows.taskSentSpec.plain.varTypes Try.prog).any (Try.prog.loopsFrom ·)) = true := by kernel_rfl
theorem j18 : (Rows.taskSentRow.wideKeys == (Try.f4.params.toList ++ Rows.taskSentSpec.plain.varTypes Try.prog ++ Try.f4.resultTypes.toList).any (Try.prog.wideKeysFrom ·)) = true := by kernel_rfl
theorem j19 : Rows.taskSentSpec.vars.all (Try.prog.varReadable ·) = true := by kernel_rfl
theorem j20 : Try.f4.resultTypes.all (fun t => Try.prog.readableRec t && decide (t < Try.prog.types.size)) = true := by kernel_rfl
theorem j21 : (Rows.taskSentRow.ifacesOut == Try.f4.resultTypes.toList.any (Try.prog.ifacesRec ·)) = true := by kernel_rfl
theorem j22 : (Rows.taskSentRow.loopsOut == Try.f4.resultTypes.toList.any (Try.prog.loopsFrom ·)) = true := by kernel_rfl
theorem j24 : Rows.taskSentRow.shortTexts.isNone = true := by kernel_rfl
theorem j29 : (Rows.taskSentRow.kinds == (if Rows.taskSentRow.domain.isEmpty then [] else Try.f4.params.toList.map fun t => match Try.prog.underlying t with | some (.int k) => some k | _ => none)) = true := by kernel_rfl
theorem j30 : (Rows.taskSentRow.pinned == Rows.taskSentRow.pinnedBy) = true := by kernel_rfl
theorem j31 : (Rows.taskSentRow.veiled == (Try.f4.params.toList ++ Rows.taskSentSpec.plain.varTypes Try.prog ++ Try.f4.resultTypes.toList).any (Try.prog.veiledRec ·)) = true := by kernel_rfl
theorem j32 : Rows.taskSentRow.veiledFits Try.prog Try.f4.params.toList (Try.f4.params.toList ++ Rows.taskSentSpec.plain.varTypes Try.prog ++ Try.f4.resultTypes.toList) = true := by kernel_rfl
set_option maxRecDepth 100000 in
theorem closed : joinedFacts Try.pinned.checked.prog 4 Try.f4 Rows.taskSentSpec Rows.taskSentRow = true := by
  unfold joinedFacts
  simp only [Bool.and_eq_true]
  repeat' refine And.intro ?_ ?_
  · exact j1
  · exact VW.j2
  · exact VW.j3
  · exact j4
  · exact j5
  · exact j6
  · exact VW.j7
  · exact j8
  · exact VW.j9
  · exact j10
  · exact j11
  · exact j12
  · exact j13
  · exact j14
  · exact j15
  · exact j16
  · exact j17
  · exact j18
  · exact j19
  · exact j20
  · exact j21
  · exact j22
  · exact VW.j23
  · exact j24
  · exact VW.j25
  · exact VW.j26
  · exact VW.j27
  · exact VW.j28
  · exact j29
  · exact j30
  · exact j31
  · exact j32
theorem over : Rows.taskSentRow.holds Try.pinned (OpenSpec.ofChange Rows.taskSentSpec) :=
  OpenClaim.holds_of_wide 4 Try.f4 rfl rfl rfl rfl rfl rfl rfl ⟨rfl, rfl, rfl, rfl, rfl⟩ rfl rfl rfl rfl rfl named Try.func4 closed
    (of_decide_eq_true (by kernel_rfl)) (by unfold Func.isWrapper; first | (rw [if_pos (by decide +kernel)]; kernel_rfl) | (rw [if_neg (by decide +kernel)]; exact ⟨rfl, rfl⟩))
    (fun os started H enc _ => lifted os started H enc)
theorem proved : Rows.TaskSentSaid := over
end Go.Proofs.Ytedhhjmjlpnlpaa.taskSent
namespace Go.Proofs.Ytedhhjmjlpnlpaa
/-- The row, under a short name, for the claim. -/
theorem taskSent_holds : Rows.TaskSentSaid := taskSent.proved
end Go.Proofs.Ytedhhjmjlpnlpaa
