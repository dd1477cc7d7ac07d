/- A text of the claim. -/
import Derived.Test.YtdhajbodlpeheaaC2Qx0
import Derived.Test.YtdhajbodlpeheaaC2Qx3
import Derived.Test.YtdhajbodlpeheaaC2Qx5
import Derived.Test.YtdhajbodlpeheaaC2Qx7
import Derived.Test.YtdhajbodlpeheaaC2Qx8
import Derived.Test.YtdhajbodlpeheaaC2Qx9
namespace Go.Proofs.Ytdhajbodlpeheaa.Q
open Go.RowKit Go.Proofs.YtdhajbodlpeheaaW.PrintWords Go.Proofs.YtdhajbodlpeheaaW.PrintLast Go.Proofs.YtdhajbodlpeheaaW.PrintMore
attribute [local go_sem] max2_int min2_int max_two min_two max_three min_three max_four min_four
set_option linter.unusedVariables false
set_option linter.unusedSimpArgs false
def tailwaterlaw18_TimersUntil.l0 : Nat → Int → Bool → List (S34) → List (S34) → Int → Option (Bool)
  | 0, _, _, _, _, _ => none
  | k + 1, x1, x5, x6, x7, x9 => if x9 < (x6.length : Int) then (if 0 ≤ x9 then (if ((rd_T34 x6 x9).f0.f1) > x1 then (none) else (tailwaterlaw18_TimersUntil.l0 k x1 x5 x6 x7 (wrap64 (x9 + 1)))) else (none)) else (if x5 = true then (if (x7.length : Int) = 0 then (some true) else (if 0 < (x7.length : Int) then (some (decide (((rd_T34 x7 0).f0.f1) > x1))) else (none))) else (none))
def tailwaterlaw18_TimersUntil.f (k : Nat) (l0 : List (S34)) (a1 : Int) : Option (Bool) := (tailwaterlaw18_alive.f k).bind fun t241 => (if (l0.length : Int) > 120 then (some t241) else ((tailwaterref18_Check.f k l0).bind fun t242 => (if t242 = 0 then (if t241 = true then ((timers_Until.f k l0 a1).bind fun bt243 => (if bt243.2.2 = 0 then ((timers_Check.f k bt243.2.1).bind fun t250 => (if t250 = 0 then ((some (([] : List (S34)) : List (S34))).bind fun y251 => (if y251.length + bt243.1.length < 5864062014805 then ((some (y251 ++ bt243.1 : List (S34))).bind fun y254 => ((tailwaterref18_Sorted.f k bt243.2.1).bind fun t257 => (if y254.length + t257.length < 5864062014805 then ((tailwaterref18_Sorted.f k l0).bind fun t263 => ((tailwaterref18_Same.f k (y254 ++ t257) t263).bind fun t266 => (if t266 = true then (tailwaterlaw18_TimersUntil.l0 k a1 t241 bt243.1 bt243.2.1 0) else (none)))) else (none)))) else (none))) else (none))) else (none))) else (none)) else (some t241))))
theorem tailwaterlaw18_TimersUntil.mono_l : ∀ k, (∀ y0 y1 y2 y3 y4, LeO (tailwaterlaw18_TimersUntil.l0 k y0 y1 y2 y3 y4) (tailwaterlaw18_TimersUntil.l0 (k + 1) y0 y1 y2 y3 y4))
  | 0 => fun _ _ _ _ _ r h => by simp [tailwaterlaw18_TimersUntil.l0] at h
  | k + 1 => by
    have ih0 := tailwaterlaw18_TimersUntil.mono_l k
    · intro y0 y1 y2 y3 y4
      unfold tailwaterlaw18_TimersUntil.l0
      repeat' first
      | (with_reducible exact ih0 _ _ _ _ _)
      | (with_reducible exact tailwaterlaw18_alive.mono _)
      | (with_reducible exact tailwaterref18_Check.mono _ _)
      | (with_reducible exact tailwaterref18_Same.mono _ _ _)
      | (with_reducible exact tailwaterref18_Sorted.mono _ _)
      | (with_reducible exact timers_Check.mono _ _)
      | (with_reducible exact timers_Until.mono _ _ _)
      | (with_reducible exact LeO.refl _)
      | (with_reducible exact LeO.none _)
      | (with_reducible refine LeO.ite ?_ ?_)
      | (with_reducible refine LeO.bind ?_ (fun _ => ?_))
      | exact ih0 _ _ _ _ _
      | exact tailwaterlaw18_alive.mono _
      | exact tailwaterref18_Check.mono _ _
      | exact tailwaterref18_Same.mono _ _ _
      | exact tailwaterref18_Sorted.mono _ _
      | exact timers_Check.mono _ _
      | exact timers_Until.mono _ _ _
      | exact LeO.none _
      | refine LeO.ite ?_ ?_
      | refine LeO.bind ?_ (fun _ => ?_)
theorem tailwaterlaw18_TimersUntil.mono : ∀ a0 a1 k, LeO (tailwaterlaw18_TimersUntil.f k a0 a1) (tailwaterlaw18_TimersUntil.f (k + 1) a0 a1) := by
  intro a0 a1 k
  have ih0 := tailwaterlaw18_TimersUntil.mono_l k
  unfold tailwaterlaw18_TimersUntil.f
  repeat' first
      | (with_reducible exact ih0 _ _ _ _ _)
      | (with_reducible exact tailwaterlaw18_alive.mono _)
      | (with_reducible exact tailwaterref18_Check.mono _ _)
      | (with_reducible exact tailwaterref18_Same.mono _ _ _)
      | (with_reducible exact tailwaterref18_Sorted.mono _ _)
      | (with_reducible exact timers_Check.mono _ _)
      | (with_reducible exact timers_Until.mono _ _ _)
      | (with_reducible exact LeO.refl _)
      | (with_reducible exact LeO.none _)
      | (with_reducible refine LeO.ite ?_ ?_)
      | (with_reducible refine LeO.bind ?_ (fun _ => ?_))
      | exact ih0 _ _ _ _ _
      | exact tailwaterlaw18_alive.mono _
      | exact tailwaterref18_Check.mono _ _
      | exact tailwaterref18_Same.mono _ _ _
      | exact tailwaterref18_Sorted.mono _ _
      | exact timers_Check.mono _ _
      | exact timers_Until.mono _ _ _
      | exact LeO.none _
      | refine LeO.ite ?_ ?_
      | refine LeO.bind ?_ (fun _ => ?_)
set_option maxHeartbeats 8000000 in
set_option maxRecDepth 100000 in
theorem tailwaterlaw18_TimersUntil.calls (k : Nat) (A0 : Option Addr) (c0 : Nat) (l0 : List (S34)) (a1 : Int) (r : Bool) (w : World) (hr0 : Kd.C k34 w A0 l0.length l0) (hc0 : l0.length ≤ c0) (h : tailwaterlaw18_TimersUntil.f k l0 a1 = some r) :
    Calls Try.prog 3 #[.slice A0 l0.length c0, .int .i64 a1] w fun e w' => e = .returned (.bool r) ∧ Below w.heap.size w w' := by
  have HR0 := Aside0.mk hr0
  have HC0 := Aside0.mk hc0
  clear hr0 hc0
  have HB := Aside0.mk (Below.refl w.heap.size w)
  have H : ((tailwaterlaw18_alive.f k).bind fun t241 => (if (l0.length : Int) > 120 then (some t241) else ((tailwaterref18_Check.f k l0).bind fun t242 => (if t242 = 0 then (if t241 = true then ((timers_Until.f k l0 a1).bind fun bt243 => (if bt243.2.2 = 0 then ((timers_Check.f k bt243.2.1).bind fun t250 => (if t250 = 0 then ((some (([] : List (S34)) : List (S34))).bind fun y251 => (if y251.length + bt243.1.length < 5864062014805 then ((some (y251 ++ bt243.1 : List (S34))).bind fun y254 => ((tailwaterref18_Sorted.f k bt243.2.1).bind fun t257 => (if y254.length + t257.length < 5864062014805 then ((tailwaterref18_Sorted.f k l0).bind fun t263 => ((tailwaterref18_Same.f k (y254 ++ t257) t263).bind fun t266 => (if t266 = true then (tailwaterlaw18_TimersUntil.l0 k a1 t241 bt243.1 bt243.2.1 0) else (none)))) else (none)))) else (none))) else (none))) else (none))) else (none)) else (some t241))))) = some r := h
  clear h
  replace H := Option.bind_eq_some_iff.mp H
  obtain ⟨t241, A30, H⟩ := H
  replace H : (if (l0.length : Int) > 120 then (some t241) else ((tailwaterref18_Check.f k l0).bind fun t242 => (if t242 = 0 then (if t241 = true then ((timers_Until.f k l0 a1).bind fun bt243 => (if bt243.2.2 = 0 then ((timers_Check.f k bt243.2.1).bind fun t250 => (if t250 = 0 then ((some (([] : List (S34)) : List (S34))).bind fun y251 => (if y251.length + bt243.1.length < 5864062014805 then ((some (y251 ++ bt243.1 : List (S34))).bind fun y254 => ((tailwaterref18_Sorted.f k bt243.2.1).bind fun t257 => (if y254.length + t257.length < 5864062014805 then ((tailwaterref18_Sorted.f k l0).bind fun t263 => ((tailwaterref18_Same.f k (y254 ++ t257) t263).bind fun t266 => (if t266 = true then (tailwaterlaw18_TimersUntil.l0 k a1 t241 bt243.1 bt243.2.1 0) else (none)))) else (none)))) else (none))) else (none))) else (none))) else (none)) else (some t241)))) = some r := H
  have A3 := Aside0.mk A30
  clear A30
  by_cases c4 : (l0.length : Int) > 120
  · rw [if_pos c4] at H
    have c4b0 : decide (120 < (l0.length : Int)) = true := decide_eq_true c4
    have c4b1 : decide (120 < l0.length) = true := decide_eq_true (by omega)
    clear c4
    obtain rfl := Option.some.inj H
    go_enter Try.func3, Try.ntmps3
    go_wp2_with (first | ((with_reducible refine gate_callee (f := 9) rfl ?_); refine goesL_ (some 10) rfl rfl Try.func9 (by kernel_rfl) rfl #[] rfl (by (try simp only [List.map_toArray, List.map_cons, List.map_nil]); first | done | rfl | (simp only [List.length_drop, List.length_take]; rfl)) ?_; (with_reducible refine (tailwaterlaw18_alive.calls k  t241 _ A3.out).mono ?_); rintro e w5 ⟨rfl, hb⟩; refine ⟨_, rfl, ?_⟩; have n0_ := Aside0.mk (below_step (by repeat (first | (with_reducible first | exact HB.out | apply below_alloc | apply pw_below_drewN | apply below_drew1) | exact HB.out)) hb); clear HB; have HB := n0_; clear n0_; (try clear hb); (try clear hb2); (try clear hk); (try clear hi)))
    go_ret
    exact ⟨by first | rfl | (simp [errW_none, errW_some] <;> rfl) | (simp [*, errW_none, errW_some] <;> rfl), by repeat (first | (with_reducible first | exact HB.out | apply below_alloc | apply pw_below_drewN | apply below_drew1) | exact HB.out)⟩
  · rw [if_neg c4] at H
    have c4b0 : decide (120 < (l0.length : Int)) = false := decide_eq_false c4
    have c4b1 : decide (120 < l0.length) = false := decide_eq_false (by omega)
    clear c4
    replace H := Option.bind_eq_some_iff.mp H
    obtain ⟨t242, A60, H⟩ := H
    replace H : (if t242 = 0 then (if t241 = true then ((timers_Until.f k l0 a1).bind fun bt243 => (if bt243.2.2 = 0 then ((timers_Check.f k bt243.2.1).bind fun t250 => (if t250 = 0 then ((some (([] : List (S34)) : List (S34))).bind fun y251 => (if y251.length + bt243.1.length < 5864062014805 then ((some (y251 ++ bt243.1 : List (S34))).bind fun y254 => ((tailwaterref18_Sorted.f k bt243.2.1).bind fun t257 => (if y254.length + t257.length < 5864062014805 then ((tailwaterref18_Sorted.f k l0).bind fun t263 => ((tailwaterref18_Same.f k (y254 ++ t257) t263).bind fun t266 => (if t266 = true then (tailwaterlaw18_TimersUntil.l0 k a1 t241 bt243.1 bt243.2.1 0) else (none)))) else (none)))) else (none))) else (none))) else (none))) else (none)) else (some t241)) = some r := H
    have A6 := Aside0.mk A60
    clear A60
    by_cases c7 : t242 = 0
    · rw [if_pos c7] at H
      have c7b0 : (t242 == 0) = true := beq_iff_eq.mpr c7
      have c7b1 : (t242 != 0) = false := bne_eq_false_iff_eq.mpr c7
      clear c7
      by_cases c8 : t241 = true
      · subst c8
        have H1 : ((timers_Until.f k l0 a1).bind fun bt243 => (if bt243.2.2 = 0 then ((timers_Check.f k bt243.2.1).bind fun t250 => (if t250 = 0 then ((some (([] : List (S34)) : List (S34))).bind fun y251 => (if y251.length + bt243.1.length < 5864062014805 then ((some (y251 ++ bt243.1 : List (S34))).bind fun y254 => ((tailwaterref18_Sorted.f k bt243.2.1).bind fun t257 => (if y254.length + t257.length < 5864062014805 then ((tailwaterref18_Sorted.f k l0).bind fun t263 => ((tailwaterref18_Same.f k (y254 ++ t257) t263).bind fun t266 => (if t266 = true then (tailwaterlaw18_TimersUntil.l0 k a1 true bt243.1 bt243.2.1 0) else (none)))) else (none)))) else (none))) else (none))) else (none))) = some r := by rw [if_pos rfl] at H; exact H
        clear H
        have H := H1
        clear H1
        replace H := Option.bind_eq_some_iff.mp H
        obtain ⟨⟨t243, t244, t245⟩, A90, H⟩ := H
        replace H : (if t245 = 0 then ((timers_Check.f k t244).bind fun t250 => (if t250 = 0 then ((some (([] : List (S34)) : List (S34))).bind fun y251 => (if y251.length + t243.length < 5864062014805 then ((some (y251 ++ t243 : List (S34))).bind fun y254 => ((tailwaterref18_Sorted.f k t244).bind fun t257 => (if y254.length + t257.length < 5864062014805 then ((tailwaterref18_Sorted.f k l0).bind fun t263 => ((tailwaterref18_Same.f k (y254 ++ t257) t263).bind fun t266 => (if t266 = true then (tailwaterlaw18_TimersUntil.l0 k a1 true t243 t244 0) else (none)))) else (none)))) else (none))) else (none))) else (none)) = some r := H
        have A9 := Aside0.mk A90
        clear A90
        by_cases c10 : t245 = 0
        · rw [if_pos c10] at H
          have c10b0 : (t245 == 0) = true := beq_iff_eq.mpr c10
          have c10b1 : (t245 != 0) = false := bne_eq_false_iff_eq.mpr c10
          clear c10
          replace H := Option.bind_eq_some_iff.mp H
          obtain ⟨t250, A110, H⟩ := H
          replace H : (if t250 = 0 then ((some (([] : List (S34)) : List (S34))).bind fun y251 => (if y251.length + t243.length < 5864062014805 then ((some (y251 ++ t243 : List (S34))).bind fun y254 => ((tailwaterref18_Sorted.f k t244).bind fun t257 => (if y254.length + t257.length < 5864062014805 then ((tailwaterref18_Sorted.f k l0).bind fun t263 => ((tailwaterref18_Same.f k (y254 ++ t257) t263).bind fun t266 => (if t266 = true then (tailwaterlaw18_TimersUntil.l0 k a1 true t243 t244 0) else (none)))) else (none)))) else (none))) else (none)) = some r := H
          have A11 := Aside0.mk A110
          clear A110
          by_cases c12 : t250 = 0
          · rw [if_pos c12] at H
            have c12b0 : (t250 == 0) = true := beq_iff_eq.mpr c12
            have c12b1 : (t250 != 0) = false := bne_eq_false_iff_eq.mpr c12
            clear c12
            obtain ⟨y251, hy251⟩ : ∃ y_ : List (S34), y_ = (([] : List (S34))) := ⟨_, rfl⟩
            replace H : (if y251.length + t243.length < 5864062014805 then ((some (y251 ++ t243 : List (S34))).bind fun y254 => ((tailwaterref18_Sorted.f k t244).bind fun t257 => (if y254.length + t257.length < 5864062014805 then ((tailwaterref18_Sorted.f k l0).bind fun t263 => ((tailwaterref18_Same.f k (y254 ++ t257) t263).bind fun t266 => (if t266 = true then (tailwaterlaw18_TimersUntil.l0 k a1 true t243 t244 0) else (none)))) else (none)))) else (none)) = some r := by first | (rw [hy251]; with_reducible exact H) | (have H2_ := (Option.bind_some _ _).symm.trans H; rw [hy251]; with_reducible exact H2_) | (have H2_ := (Option.bind_some _ _).symm.trans H; with_reducible exact H2_) | with_reducible exact H | (rw [hy251]; exact H) | exact H
            have Ny251 := Aside0.mk hy251
            clear hy251
            by_cases c13 : y251.length + t243.length < 5864062014805
            · rw [if_pos c13] at H
              have LMc13 := Aside0.mk c13
              clear c13
              obtain ⟨y254, hy254⟩ : ∃ y_ : List (S34), y_ = (y251 ++ t243) := ⟨_, rfl⟩
              replace H : ((tailwaterref18_Sorted.f k t244).bind fun t257 => (if y254.length + t257.length < 5864062014805 then ((tailwaterref18_Sorted.f k l0).bind fun t263 => ((tailwaterref18_Same.f k (y254 ++ t257) t263).bind fun t266 => (if t266 = true then (tailwaterlaw18_TimersUntil.l0 k a1 true t243 t244 0) else (none)))) else (none))) = some r := by first | (rw [hy254]; with_reducible exact H) | (have H2_ := (Option.bind_some _ _).symm.trans H; rw [hy254]; with_reducible exact H2_) | (have H2_ := (Option.bind_some _ _).symm.trans H; with_reducible exact H2_) | with_reducible exact H | (rw [hy254]; exact H) | exact H
              have Ny254 := Aside0.mk hy254
              clear hy254
              replace H := Option.bind_eq_some_iff.mp H
              obtain ⟨t257, A140, H⟩ := H
              replace H : (if y254.length + t257.length < 5864062014805 then ((tailwaterref18_Sorted.f k l0).bind fun t263 => ((tailwaterref18_Same.f k (y254 ++ t257) t263).bind fun t266 => (if t266 = true then (tailwaterlaw18_TimersUntil.l0 k a1 true t243 t244 0) else (none)))) else (none)) = some r := H
              have A14 := Aside0.mk A140
              clear A140
              by_cases c15 : y254.length + t257.length < 5864062014805
              · rw [if_pos c15] at H
                have LMc15 := Aside0.mk c15
                clear c15
                obtain ⟨y260, hy260⟩ : ∃ y_ : List (S34), y_ = (y254 ++ t257) := ⟨_, rfl⟩
                replace H : ((tailwaterref18_Sorted.f k l0).bind fun t263 => ((tailwaterref18_Same.f k y260 t263).bind fun t266 => (if t266 = true then (tailwaterlaw18_TimersUntil.l0 k a1 true t243 t244 0) else (none)))) = some r := by first | (rw [hy260]; with_reducible exact H) | (have H2_ := (Option.bind_some _ _).symm.trans H; rw [hy260]; with_reducible exact H2_) | (have H2_ := (Option.bind_some _ _).symm.trans H; with_reducible exact H2_) | with_reducible exact H | (rw [hy260]; exact H) | exact H
                have Ny260 := Aside0.mk hy260
                clear hy260
                replace H := Option.bind_eq_some_iff.mp H
                obtain ⟨t263, A160, H⟩ := H
                replace H : ((tailwaterref18_Same.f k y260 t263).bind fun t266 => (if t266 = true then (tailwaterlaw18_TimersUntil.l0 k a1 true t243 t244 0) else (none))) = some r := H
                have A16 := Aside0.mk A160
                clear A160
                replace H := Option.bind_eq_some_iff.mp H
                obtain ⟨t266, A170, H⟩ := H
                replace H : (if t266 = true then (tailwaterlaw18_TimersUntil.l0 k a1 true t243 t244 0) else (none)) = some r := H
                have A17 := Aside0.mk A170
                clear A170
                by_cases c18 : t266 = true
                · subst c18
                  have H1 : (tailwaterlaw18_TimersUntil.l0 k a1 true t243 t244 0) = some r := by rw [if_pos rfl] at H; exact H
                  clear H
                  have H := H1
                  clear H1
                  have H' := Aside0.mk H
                  clear H
                  go_enter Try.func3, Try.ntmps3
                  go_wp2_with (first | ((with_reducible refine gate_callee (f := 9) rfl ?_); refine goesL_ (some 10) rfl rfl Try.func9 (by kernel_rfl) rfl #[] rfl (by (try simp only [List.map_toArray, List.map_cons, List.map_nil]); first | done | rfl | (simp only [List.length_drop, List.length_take]; rfl)) ?_; (with_reducible refine (tailwaterlaw18_alive.calls k  true _ A3.out).mono ?_); rintro e w19 ⟨rfl, hb⟩; refine ⟨_, rfl, ?_⟩; have n0_ := Aside0.mk (below_step (by repeat (first | (with_reducible first | exact HB.out | apply below_alloc | apply pw_below_drewN | apply below_drew1) | exact HB.out)) hb); clear HB; have HB := n0_; clear n0_; (try clear hb); (try clear hb2); (try clear hk); (try clear hi)) | (go_at_call 10; (with_reducible refine (tailwaterref18_Check.calls k _ _ l0 t242 _ ?side1 ?side2 A6.out).mono ?_); (case side1 => repeat (first | exact (Kd.C_below HR0.out HB.out) | (with_reducible refine Kd.C_alloc ?_ _) | (with_reducible refine Kd.C_drewN ?_ _) | (with_reducible refine Kd.C_drew ?_))); (case side2 => exact HC0.out); rintro e w20 ⟨rfl, hb⟩; have n0_ := Aside0.mk (below_step (by repeat (first | (with_reducible first | exact HB.out | apply below_alloc | apply pw_below_drewN | apply below_drew1) | exact HB.out)) hb); clear HB; have HB := n0_; clear n0_; (try clear hb); (try clear hb2); (try clear hk); (try clear hi)) | ((with_reducible refine gate_callee (f := 11) rfl ?_); refine goesL_ (some 27) rfl rfl Try.func11 (by kernel_rfl) rfl #[.slice A0 l0.length c0, .int .i64 a1] rfl (by (try simp only [List.map_toArray, List.map_cons, List.map_nil]); first | done | rfl | (simp only [List.length_drop, List.length_take]; rfl)) ?_; (with_reducible refine (timers_Until.calls k _ _ l0 a1 t243 t244 t245 _ ?side1 ?side2 A9.out).mono ?_); (case side1 => repeat (first | exact (Kd.C_below HR0.out HB.out) | (with_reducible refine Kd.C_alloc ?_ _) | (with_reducible refine Kd.C_drewN ?_ _) | (with_reducible refine Kd.C_drew ?_))); (case side2 => exact HC0.out); rintro e w21 ⟨v246, v248, rfl, ho0, ho1, hb⟩; refine ⟨_, rfl, ?_⟩; have n0_ := Aside0.mk (Kd.R_lower ho0 (below_size (by repeat (first | (with_reducible first | exact HB.out | apply below_alloc | apply pw_below_drewN | apply below_drew1) | exact HB.out)))); have n1_ := Aside0.mk (Kd.R_lower ho1 (below_size (by repeat (first | (with_reducible first | exact HB.out | apply below_alloc | apply pw_below_drewN | apply below_drew1) | exact HB.out)))); have n2_ := Aside0.mk (below_step (by repeat (first | (with_reducible first | exact HB.out | apply below_alloc | apply pw_below_drewN | apply below_drew1) | exact HB.out)) hb); clear HB; have HO247 := n0_; have HO249 := n1_; have HB := n2_; clear n0_ n1_ n2_; (try clear hb); (try clear hb2); (try clear hk); (try clear hi); (try clear ho0); (try clear ho1); obtain ⟨Ao22, co22, eo22⟩ := Kd.R_slice HO249.out; subst eo22) | (go_at_call 12; (with_reducible refine (timers_Check.calls k _ _ t244 t250 _ ?side1 ?side2 A11.out).mono ?_); (case side1 => repeat (first | exact (Kd.R_reads' HO249.out).2.2 | (with_reducible refine Kd.C_alloc ?_ _) | (with_reducible refine Kd.C_drewN ?_ _) | (with_reducible refine Kd.C_drew ?_))); (case side2 => exact (Kd.R_reads' HO249.out).2.1); rintro e w23 ⟨rfl, hb⟩; have n0_ := Aside0.mk (Kd.R_below (by (with_reducible repeat (first | apply Kd.R_alloc | apply Kd.R_drewN | apply Kd.R_drew)); exact HO247.out) hb); have n1_ := Aside0.mk (Kd.R_below (by (with_reducible repeat (first | apply Kd.R_alloc | apply Kd.R_drewN | apply Kd.R_drew)); exact HO249.out) hb); have n2_ := Aside0.mk (below_step (by repeat (first | (with_reducible first | exact HB.out | apply below_alloc | apply pw_below_drewN | apply below_drew1) | exact HB.out)) hb); clear HO247; clear HO249; clear HB; have HO247 := n0_; have HO249 := n1_; have HB := n2_; clear n0_ n1_ n2_; (try clear hb); (try clear hb2); (try clear hk); (try clear hi)) | ((with_reducible refine gate_dst (N := 39) rfl ?_); (try (refine gate_guard (by rfl) ?_; dsimp only)); refine Kd.R_lit k34 _ 34 ?hg (N := 39) ?hd (xs := ([] : List (S34))) (inner := []) (ok := fun _ => True) (okp := fun _ => True) ?hr ?hp (fun _ hk => hk) trivial (Below.refl _ _) (Nat.le_refl _) (by simp) ?_; (case hd => rfl); (case hg => rfl); (case hr => first | (go_simp; done) | (go_simp; rfl)); (case hp => exact (Reps.none _ _)); intro v252 w24 ho25 hb hg_ hnew_; clear hg_ hnew_; (first | rw [← Ny251.out] at ho25 | (simp only [Int.reduceToNat] at ho25; rw [← Ny251.out] at ho25)); have n0_ := Aside0.mk (Kd.R_elder' (by (with_reducible repeat (first | apply Kd.R_alloc | apply Kd.R_drewN | apply Kd.R_drew)); exact HO247.out) (Kd.R_base ho25) hb); have n1_ := Aside0.mk (Kd.R_elder' (by (with_reducible repeat (first | apply Kd.R_alloc | apply Kd.R_drewN | apply Kd.R_drew)); exact HO249.out) (Kd.R_base ho25) hb); have n2_ := Aside0.mk (Kd.R_lower (Kd.R_new' (Kd.R_new' ho25 (Kd.R_lt (by (with_reducible repeat (first | apply Kd.R_alloc | apply Kd.R_drewN | apply Kd.R_drew)); exact HO247.out))) (Kd.R_lt (by (with_reducible repeat (first | apply Kd.R_alloc | apply Kd.R_drewN | apply Kd.R_drew)); exact HO249.out))) (below_size (by repeat (first | (with_reducible first | exact HB.out | apply below_alloc | apply pw_below_drewN | apply below_drew1) | exact HB.out)))); have n3_ := Aside0.mk (below_step (by repeat (first | (with_reducible first | exact HB.out | apply below_alloc | apply pw_below_drewN | apply below_drew1) | exact HB.out)) hb); clear HO247; clear HO249; clear HB; have HO247 := n0_; have HO249 := n1_; have HO253 := n2_; have HB := n3_; clear n0_ n1_ n2_ n3_; clear hb ho25; obtain ⟨Ao27, co27, eo27⟩ := Kd.R_slice HO247.out; subst eo27) | ((with_reducible refine gate_builtin (b := .append) (xs := #[.tmp 39, .tmp 40]) rfl ?_); (try (refine gate_guard (by rfl) ?_; dsimp only)); at_builtin; refine Kd.R_append_rows k34 (w0 := w) w.heap.size rfl (.tmp 39) (.tmp 40) 22 34 (.agg #[(.int .i64 0), (.int .i64 0), (.int .i64 0)]) 24 rfl Try.underlying22 info34 rfl (by decide) (by omega) v252 y251 t243 _ _ _ (fun k_ => some k_ ≠ (.slice Ao27 t243.length co27 : Value).ownBlock ∧ some k_ ≠ (.slice Ao22 t244.length co22 : Value).ownBlock) (fun _ => False) rfl rfl ?aO ?aR (fun _ _ h => h) (fun _ h => h.elim) ?aF ?aB ?aS ?aL ?_; (case aR => repeat (first | exact (Kd.R_reads' HO247.out).2.2 | (with_reducible refine Kd.C_alloc ?_ _) | (with_reducible refine Kd.C_drewN ?_ _) | (with_reducible refine Kd.C_drew ?_))); (case aB => exact (by repeat (first | (with_reducible first | exact HB.out | apply below_alloc | apply pw_below_drewN | apply below_drew1) | exact HB.out))); (case aF => exact (fun k_ hk => ⟨Kd.fresh' (Kd.R_lt (by (with_reducible repeat (first | apply Kd.R_alloc | apply Kd.R_drewN | apply Kd.R_drew)); exact HO247.out)) k_ hk, Kd.fresh' (Kd.R_lt (by (with_reducible repeat (first | apply Kd.R_alloc | apply Kd.R_drewN | apply Kd.R_drew)); exact HO249.out)) k_ hk⟩)); (case aO => exact (by (with_reducible repeat (first | apply Kd.R_alloc | apply Kd.R_drewN | apply Kd.R_drew)); exact Kd.R_mono HO253.out (fun _ hk => ⟨hk.1.2, hk.2⟩))); (case aS => exact (below_size (by repeat (first | (with_reducible first | exact HB.out | apply below_alloc | apply pw_below_drewN | apply below_drew1) | exact HB.out)))); (case aL => have := LMc13.out; omega); intro v255 w26 ho hb hg hat; rw [← Ny254.out] at ho; have n0_ := Aside0.mk (Kd.R_after (ok := (fun k_ => some k_ ≠ (.slice Ao22 t244.length co22 : Value).ownBlock)) (by (with_reducible repeat (first | apply Kd.R_alloc | apply Kd.R_drewN | apply Kd.R_drew)); exact HO247.out) hg hat); have n1_ := Aside0.mk (Kd.R_after (ok := (fun k_ => some k_ ≠ (.slice Ao27 t243.length co27 : Value).ownBlock)) (by (with_reducible repeat (first | apply Kd.R_alloc | apply Kd.R_drewN | apply Kd.R_drew)); exact HO249.out) hg hat); have n2_ := Aside0.mk (hb); have n3_ := Aside0.mk (ho); clear HO247; clear HO249; clear HB; clear HO253; have HO247 := n0_; have HO249 := n1_; have HB := n2_; have HO256 := n3_; clear n0_ n1_ n2_ n3_; clear ho hb hg hat) | (go_at_call 14; (with_reducible refine (tailwaterref18_Sorted.calls k _ _ t244 t257 _ ?side1 ?side2 A14.out).mono ?_); (case side1 => repeat (first | exact (Kd.R_reads' HO249.out).2.2 | (with_reducible refine Kd.C_alloc ?_ _) | (with_reducible refine Kd.C_drewN ?_ _) | (with_reducible refine Kd.C_drew ?_))); (case side2 => exact (Kd.R_reads' HO249.out).2.1); rintro e w28 ⟨v258, rfl, ho0, hb⟩; have n0_ := Aside0.mk (Kd.R_elder' (by (with_reducible repeat (first | apply Kd.R_alloc | apply Kd.R_drewN | apply Kd.R_drew)); exact HO247.out) (Kd.R_base ho0) hb); have n1_ := Aside0.mk (Kd.R_elder' (by (with_reducible repeat (first | apply Kd.R_alloc | apply Kd.R_drewN | apply Kd.R_drew)); exact HO249.out) (Kd.R_base ho0) hb); have n2_ := Aside0.mk (Kd.R_elder' (by (with_reducible repeat (first | apply Kd.R_alloc | apply Kd.R_drewN | apply Kd.R_drew)); exact HO256.out) (Kd.R_base ho0) hb); have n3_ := Aside0.mk (Kd.R_lower (Kd.R_new' (Kd.R_new' (Kd.R_new' ho0 (Kd.R_lt (by (with_reducible repeat (first | apply Kd.R_alloc | apply Kd.R_drewN | apply Kd.R_drew)); exact HO247.out))) (Kd.R_lt (by (with_reducible repeat (first | apply Kd.R_alloc | apply Kd.R_drewN | apply Kd.R_drew)); exact HO249.out))) (Kd.R_lt (by (with_reducible repeat (first | apply Kd.R_alloc | apply Kd.R_drewN | apply Kd.R_drew)); exact HO256.out))) (below_size (by repeat (first | (with_reducible first | exact HB.out | apply below_alloc | apply pw_below_drewN | apply below_drew1) | exact HB.out)))); have n4_ := Aside0.mk (below_step (by repeat (first | (with_reducible first | exact HB.out | apply below_alloc | apply pw_below_drewN | apply below_drew1) | exact HB.out)) hb); clear HO247; clear HO249; clear HO256; clear HB; have HO247 := n0_; have HO249 := n1_; have HO256 := n2_; have HO259 := n3_; have HB := n4_; clear n0_ n1_ n2_ n3_ n4_; (try clear hb); (try clear hb2); (try clear hk); (try clear hi); (try clear ho0); obtain ⟨Ao30, co30, eo30⟩ := Kd.R_slice HO259.out; subst eo30) | ((with_reducible refine gate_builtin (b := .append) (xs := #[.tmp 41, .tmp 43]) rfl ?_); (try (refine gate_guard (by rfl) ?_; dsimp only)); at_builtin; refine Kd.R_append_rows k34 (w0 := w) w.heap.size rfl (.tmp 41) (.tmp 43) 22 34 (.agg #[(.int .i64 0), (.int .i64 0), (.int .i64 0)]) 24 rfl Try.underlying22 info34 rfl (by decide) (by omega) v255 y254 t257 _ _ _ (fun k_ => some k_ ≠ (.slice Ao27 t243.length co27 : Value).ownBlock ∧ some k_ ≠ (.slice Ao22 t244.length co22 : Value).ownBlock ∧ some k_ ≠ (.slice Ao30 t257.length co30 : Value).ownBlock) (fun _ => False) rfl rfl ?aO ?aR (fun _ _ h => h) (fun _ h => h.elim) ?aF ?aB ?aS ?aL ?_; (case aR => repeat (first | exact (Kd.R_reads' HO259.out).2.2 | (with_reducible refine Kd.C_alloc ?_ _) | (with_reducible refine Kd.C_drewN ?_ _) | (with_reducible refine Kd.C_drew ?_))); (case aB => exact (by repeat (first | (with_reducible first | exact HB.out | apply below_alloc | apply pw_below_drewN | apply below_drew1) | exact HB.out))); (case aF => exact (fun k_ hk => ⟨Kd.fresh' (Kd.R_lt (by (with_reducible repeat (first | apply Kd.R_alloc | apply Kd.R_drewN | apply Kd.R_drew)); exact HO247.out)) k_ hk, Kd.fresh' (Kd.R_lt (by (with_reducible repeat (first | apply Kd.R_alloc | apply Kd.R_drewN | apply Kd.R_drew)); exact HO249.out)) k_ hk, Kd.fresh' (Kd.R_lt (by (with_reducible repeat (first | apply Kd.R_alloc | apply Kd.R_drewN | apply Kd.R_drew)); exact HO259.out)) k_ hk⟩)); (case aO => exact (by (with_reducible repeat (first | apply Kd.R_alloc | apply Kd.R_drewN | apply Kd.R_drew)); exact Kd.R_mono HO256.out (fun _ hk => ⟨hk.1.1, ⟨hk.1.2, hk.2⟩⟩))); (case aS => exact (below_size (by repeat (first | (with_reducible first | exact HB.out | apply below_alloc | apply pw_below_drewN | apply below_drew1) | exact HB.out)))); (case aL => have := LMc15.out; omega); intro v261 w29 ho hb hg hat; rw [← Ny260.out] at ho; have n0_ := Aside0.mk (Kd.R_after (ok := (fun k_ => some k_ ≠ (.slice Ao22 t244.length co22 : Value).ownBlock ∧ some k_ ≠ (.slice Ao30 t257.length co30 : Value).ownBlock)) (by (with_reducible repeat (first | apply Kd.R_alloc | apply Kd.R_drewN | apply Kd.R_drew)); exact Kd.R_mono HO247.out (fun _ hk => ⟨⟨hk.1.1, hk.2⟩, hk.1.2⟩)) hg hat); have n1_ := Aside0.mk (Kd.R_after (ok := (fun k_ => some k_ ≠ (.slice Ao27 t243.length co27 : Value).ownBlock ∧ some k_ ≠ (.slice Ao30 t257.length co30 : Value).ownBlock)) (by (with_reducible repeat (first | apply Kd.R_alloc | apply Kd.R_drewN | apply Kd.R_drew)); exact Kd.R_mono HO249.out (fun _ hk => ⟨⟨hk.1.1, hk.2⟩, hk.1.2⟩)) hg hat); have n2_ := Aside0.mk (Kd.R_after (ok := (fun k_ => some k_ ≠ (.slice Ao27 t243.length co27 : Value).ownBlock ∧ some k_ ≠ (.slice Ao22 t244.length co22 : Value).ownBlock)) (by (with_reducible repeat (first | apply Kd.R_alloc | apply Kd.R_drewN | apply Kd.R_drew)); exact Kd.R_mono HO259.out (fun _ hk => ⟨⟨hk.1.1.2, hk.1.2⟩, hk.2⟩)) hg hat); have n3_ := Aside0.mk (hb); have n4_ := Aside0.mk (ho); clear HO247; clear HO249; clear HO259; clear HB; clear HO256; have HO247 := n0_; have HO249 := n1_; have HO259 := n2_; have HB := n3_; have HO262 := n4_; clear n0_ n1_ n2_ n3_ n4_; clear ho hb hg hat) | (go_at_call 14; (with_reducible refine (tailwaterref18_Sorted.calls k _ _ l0 t263 _ ?side1 ?side2 A16.out).mono ?_); (case side1 => repeat (first | exact (Kd.C_below HR0.out HB.out) | (with_reducible refine Kd.C_alloc ?_ _) | (with_reducible refine Kd.C_drewN ?_ _) | (with_reducible refine Kd.C_drew ?_))); (case side2 => exact HC0.out); rintro e w31 ⟨v264, rfl, ho0, hb⟩; have n0_ := Aside0.mk (Kd.R_elder' (by (with_reducible repeat (first | apply Kd.R_alloc | apply Kd.R_drewN | apply Kd.R_drew)); exact HO247.out) (Kd.R_base ho0) hb); have n1_ := Aside0.mk (Kd.R_elder' (by (with_reducible repeat (first | apply Kd.R_alloc | apply Kd.R_drewN | apply Kd.R_drew)); exact HO249.out) (Kd.R_base ho0) hb); have n2_ := Aside0.mk (Kd.R_elder' (by (with_reducible repeat (first | apply Kd.R_alloc | apply Kd.R_drewN | apply Kd.R_drew)); exact HO259.out) (Kd.R_base ho0) hb); have n3_ := Aside0.mk (Kd.R_elder' (by (with_reducible repeat (first | apply Kd.R_alloc | apply Kd.R_drewN | apply Kd.R_drew)); exact HO262.out) (Kd.R_base ho0) hb); have n4_ := Aside0.mk (Kd.R_lower (Kd.R_new' (Kd.R_new' (Kd.R_new' (Kd.R_new' ho0 (Kd.R_lt (by (with_reducible repeat (first | apply Kd.R_alloc | apply Kd.R_drewN | apply Kd.R_drew)); exact HO247.out))) (Kd.R_lt (by (with_reducible repeat (first | apply Kd.R_alloc | apply Kd.R_drewN | apply Kd.R_drew)); exact HO249.out))) (Kd.R_lt (by (with_reducible repeat (first | apply Kd.R_alloc | apply Kd.R_drewN | apply Kd.R_drew)); exact HO259.out))) (Kd.R_lt (by (with_reducible repeat (first | apply Kd.R_alloc | apply Kd.R_drewN | apply Kd.R_drew)); exact HO262.out))) (below_size (by repeat (first | (with_reducible first | exact HB.out | apply below_alloc | apply pw_below_drewN | apply below_drew1) | exact HB.out)))); have n5_ := Aside0.mk (below_step (by repeat (first | (with_reducible first | exact HB.out | apply below_alloc | apply pw_below_drewN | apply below_drew1) | exact HB.out)) hb); clear HO247; clear HO249; clear HO259; clear HO262; clear HB; have HO247 := n0_; have HO249 := n1_; have HO259 := n2_; have HO262 := n3_; have HO265 := n4_; have HB := n5_; clear n0_ n1_ n2_ n3_ n4_ n5_; (try clear hb); (try clear hb2); (try clear hk); (try clear hi); (try clear ho0); obtain ⟨Ao32, co32, eo32⟩ := Kd.R_slice HO262.out; subst eo32; obtain ⟨Ao33, co33, eo33⟩ := Kd.R_slice HO265.out; subst eo33) | (go_at_call 13; (with_reducible refine (tailwaterref18_Same.calls k _ _ y260 _ _ t263 true _ ?side1 ?side2 ?side3 ?side4 A17.out).mono ?_); (case side1 => repeat (first | exact (Kd.R_reads' HO262.out).2.2 | (with_reducible refine Kd.C_alloc ?_ _) | (with_reducible refine Kd.C_drewN ?_ _) | (with_reducible refine Kd.C_drew ?_))); (case side2 => exact (Kd.R_reads' HO262.out).2.1); (case side3 => repeat (first | exact (Kd.R_reads' HO265.out).2.2 | (with_reducible refine Kd.C_alloc ?_ _) | (with_reducible refine Kd.C_drewN ?_ _) | (with_reducible refine Kd.C_drew ?_))); (case side4 => exact (Kd.R_reads' HO265.out).2.1); rintro e w' ⟨rfl, ⟨nd, rfl⟩⟩))
                  go_loopg [9] k (fun kq v9 w' => ∃ (x9_1 : Int), v9 = .int .i64 x9_1 ∧ Aside0 (tailwaterlaw18_TimersUntil.l0 kq a1 true t243 t244 x9_1 = some r) ∧ Aside0 (kq ≤ k) ∧ Aside0 (Kd.R k34 34 w' w.heap.size (fun k_ => some k_ ≠ ((.slice Ao22 t244.length co22) : Value).ownBlock) (.slice Ao27 t243.length co27) t243) ∧ Aside0 (Kd.R k34 34 w' w.heap.size (fun k_ => some k_ ≠ ((.slice Ao27 t243.length co27) : Value).ownBlock) (.slice Ao22 t244.length co22) t244) ∧ Aside0 (Below w.heap.size w w'))
                  case atStart => exact ⟨(0), (by first | rfl | (simp; done) | (simp [*]; done)), H', ⟨Nat.le_refl _⟩, ⟨by (with_reducible repeat (first | apply Kd.R_alloc | apply Kd.R_drewN | apply Kd.R_drew)); exact Kd.R_mono HO247.out (fun _ hk => hk.1.1.1)⟩, ⟨by (with_reducible repeat (first | apply Kd.R_alloc | apply Kd.R_drewN | apply Kd.R_drew)); exact Kd.R_mono HO249.out (fun _ hk => hk.1.1.1)⟩, ⟨by repeat (first | (with_reducible first | exact HB.out | apply below_alloc | apply pw_below_drewN | apply below_drew1) | exact HB.out)⟩⟩
                  case round =>
                    clear H'
                    try clear c1
                    try clear p2
                    try clear c3
                    try clear c4
                    try clear c4b0
                    try clear c4b1
                    try clear c7
                    try clear c7b0
                    try clear c7b1
                    try clear c8
                    try clear c9
                    try clear c10
                    try clear c10b0
                    try clear c10b1
                    try clear c11
                    try clear c12
                    try clear c12b0
                    try clear c12b1
                    try clear c13
                    try clear c15
                    try clear c18
                    obtain ⟨x9_1, rfl, HA, HK1, HO_6, HO_7, HB⟩ := hrel
                    cases gk with
                    | zero => exact absurd HA.out (by simp [tailwaterlaw18_TimersUntil.l0])
                    | succ k1 =>
                      have H := HA.out
                      clear HA
                      simp only [tailwaterlaw18_TimersUntil.l0] at H
                      by_cases c34 : x9_1 < (t243.length : Int)
                      · rw [if_pos c34] at H
                        have c34b0 : decide (x9_1 < (t243.length : Int)) = true := decide_eq_true c34
                        clear c34
                        by_cases c35 : 0 ≤ x9_1
                        · rw [if_pos c35] at H
                          have c35b0 : decide (0 ≤ x9_1) = true := decide_eq_true c35
                          clear c35
                          by_cases c36 : ((rd_T34 t243 x9_1).f0.f1) > a1
                          · rw [if_pos c36] at H
                            exact absurd H (by simp)
                          · rw [if_neg c36] at H
                            have c36b0 : decide (a1 < ((rd_T34 t243 x9_1).f0.f1)) = false := decide_eq_false c36
                            clear c36
                            have H' := Aside0.mk H
                            clear H
                            have p267 : 0 ≤ (x9_1 : Int) := of_decide_eq_true (by first | (with_reducible assumption) | assumption)
                            have q267 : x9_1 < (t243.length : Int) := of_decide_eq_true (by first | (with_reducible assumption) | assumption)
                            obtain ⟨ad267, e267, hx267_0, hx267_1, hx267_2⟩ := at_T34 (Kd.R_reads' HO_6.out).2.2 x9_1 p267 q267
                            cases e267
                            replace p267 := eq_true p267
                            replace q267 := eq_true q267
                            go_wp2
                            go_roundg k1
                            case measure => have := HK1.out; omega
                            case rel => exact ⟨(wrap64 (x9_1 + 1)), (by first | rfl | (simp; done) | (simp [*]; done)), H', ⟨by have := HK1.out; omega⟩, ⟨by (with_reducible repeat (first | apply Kd.R_alloc | apply Kd.R_drewN | apply Kd.R_drew)); exact HO_6.out⟩, ⟨by (with_reducible repeat (first | apply Kd.R_alloc | apply Kd.R_drewN | apply Kd.R_drew)); exact HO_7.out⟩, ⟨by repeat (first | (with_reducible first | exact HB.out | apply below_alloc | apply pw_below_drewN | apply below_drew1) | exact HB.out)⟩⟩
                        · rw [if_neg c35] at H
                          exact absurd H (by simp)
                      · rw [if_neg c34] at H
                        have c34b0 : decide (x9_1 < (t243.length : Int)) = false := decide_eq_false c34
                        clear c34
                        replace H : (if (t244.length : Int) = 0 then (some true) else (if 0 < (t244.length : Int) then (some (decide (((rd_T34 t244 0).f0.f1) > a1))) else (none))) = some r := by first | (rw [if_pos rfl] at H; exact H) | (rw [if_pos trivial] at H; exact H) | exact H
                        by_cases c37 : (t244.length : Int) = 0
                        · rw [if_pos c37] at H
                          have c37b0 : ((t244.length : Int) == 0) = true := beq_iff_eq.mpr c37
                          have c37b1 : ((t244.length : Int) != 0) = false := bne_eq_false_iff_eq.mpr c37
                          clear c37
                          obtain rfl := Option.some.inj H
                          go_wp2
                          go_ret
                          exact ⟨by first | rfl | (simp [errW_none, errW_some] <;> rfl) | (simp [*, errW_none, errW_some] <;> rfl), by repeat (first | (with_reducible first | exact HB.out | apply below_alloc | apply pw_below_drewN | apply below_drew1) | exact HB.out)⟩
                        · rw [if_neg c37] at H
                          have c37b0 : ((t244.length : Int) == 0) = false := beq_eq_false_iff_ne.mpr c37
                          have c37b1 : ((t244.length : Int) != 0) = true := bne_iff_ne.mpr c37
                          have c37b2 : ¬ (t244 = []) := fun h_ => c37 (by rw [h_]; rfl)
                          by_cases c38 : 0 < (t244.length : Int)
                          · rw [if_pos c38] at H
                            have c38b0 : decide (0 < (t244.length : Int)) = true := decide_eq_true c38
                            have c38b1 : decide (0 < t244.length) = true := decide_eq_true (by omega)
                            clear c38
                            obtain rfl := Option.some.inj H
                            have p268 : 0 ≤ (0 : Int) := (by omega)
                            have q268 : 0 < (t244.length : Int) := of_decide_eq_true (by first | (with_reducible assumption) | assumption)
                            obtain ⟨ad268, e268, hx268_0, hx268_1, hx268_2⟩ := at_T34 (Kd.R_reads' HO_7.out).2.2 0 p268 q268
                            cases e268
                            have qi268 : (0 < t244.length) = True := eq_true (by omega)
                            (try rw [show ((0 : Int)).toNat = 0 from rfl] at hx268_0)
                            (try rw [show 0 * 3 = 0 from rfl] at hx268_0)
                            (try rw [Addr.add_zero'] at hx268_0)
                            (try rw [show ((0 : Int)).toNat = 0 from rfl] at hx268_1)
                            (try rw [show 0 * 3 = 0 from rfl] at hx268_1)
                            (try rw [Addr.add_zero'] at hx268_1)
                            (try rw [show ((0 : Int)).toNat = 0 from rfl] at hx268_2)
                            (try rw [show 0 * 3 = 0 from rfl] at hx268_2)
                            (try rw [Addr.add_zero'] at hx268_2)
                            replace p268 := eq_true p268
                            replace q268 := eq_true q268
                            go_wp2
                            go_ret
                            exact ⟨by first | rfl | (simp [errW_none, errW_some] <;> rfl) | (simp [*, errW_none, errW_some] <;> rfl), by repeat (first | (with_reducible first | exact HB.out | apply below_alloc | apply pw_below_drewN | apply below_drew1) | exact HB.out)⟩
                          · rw [if_neg c38] at H
                            exact absurd H (by simp)
                · replace c18 := Bool.eq_false_iff.mpr c18
                  subst c18
                  have H1 : (none) = some r := by rw [if_neg (show ¬ (false = true) by decide)] at H; exact H
                  clear H
                  have H := H1
                  clear H1
                  exact absurd H (by simp)
              · rw [if_neg c15] at H
                exact absurd H (by simp)
            · rw [if_neg c13] at H
              exact absurd H (by simp)
          · rw [if_neg c12] at H
            exact absurd H (by simp)
        · rw [if_neg c10] at H
          exact absurd H (by simp)
      · replace c8 := Bool.eq_false_iff.mpr c8
        subst c8
        have H1 : (none) = some r := by rw [if_neg (show ¬ (false = true) by decide)] at H; exact H
        clear H
        have H := H1
        clear H1
        exact absurd H (by simp)
    · rw [if_neg c7] at H
      have c7b0 : (t242 == 0) = false := beq_eq_false_iff_ne.mpr c7
      have c7b1 : (t242 != 0) = true := bne_iff_ne.mpr c7
      obtain rfl := Option.some.inj H
      go_enter Try.func3, Try.ntmps3
      go_wp2_with (first | ((with_reducible refine gate_callee (f := 9) rfl ?_); refine goesL_ (some 10) rfl rfl Try.func9 (by kernel_rfl) rfl #[] rfl (by (try simp only [List.map_toArray, List.map_cons, List.map_nil]); first | done | rfl | (simp only [List.length_drop, List.length_take]; rfl)) ?_; (with_reducible refine (tailwaterlaw18_alive.calls k  t241 _ A3.out).mono ?_); rintro e w39 ⟨rfl, hb⟩; refine ⟨_, rfl, ?_⟩; have n0_ := Aside0.mk (below_step (by repeat (first | (with_reducible first | exact HB.out | apply below_alloc | apply pw_below_drewN | apply below_drew1) | exact HB.out)) hb); clear HB; have HB := n0_; clear n0_; (try clear hb); (try clear hb2); (try clear hk); (try clear hi)) | (go_at_call 10; (with_reducible refine (tailwaterref18_Check.calls k _ _ l0 t242 _ ?side1 ?side2 A6.out).mono ?_); (case side1 => repeat (first | exact (Kd.C_below HR0.out HB.out) | (with_reducible refine Kd.C_alloc ?_ _) | (with_reducible refine Kd.C_drewN ?_ _) | (with_reducible refine Kd.C_drew ?_))); (case side2 => exact HC0.out); rintro e w40 ⟨rfl, hb⟩; have n0_ := Aside0.mk (below_step (by repeat (first | (with_reducible first | exact HB.out | apply below_alloc | apply pw_below_drewN | apply below_drew1) | exact HB.out)) hb); clear HB; have HB := n0_; clear n0_; (try clear hb); (try clear hb2); (try clear hk); (try clear hi)))
      go_ret
      exact ⟨by first | rfl | (simp [errW_none, errW_some] <;> rfl) | (simp [*, errW_none, errW_some] <;> rfl), by repeat (first | (with_reducible first | exact HB.out | apply below_alloc | apply pw_below_drewN | apply below_drew1) | exact HB.out)⟩
end Go.Proofs.Ytdhajbodlpeheaa.Q
