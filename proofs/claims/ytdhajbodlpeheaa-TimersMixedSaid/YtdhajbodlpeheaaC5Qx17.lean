/- A text of the claim. -/
import Derived.Test.YtdhajbodlpeheaaC5Qx0
import Derived.Test.YtdhajbodlpeheaaC5Qx1
import Derived.Test.YtdhajbodlpeheaaC5Qx3
import Derived.Test.YtdhajbodlpeheaaC5Qx7
import Derived.Test.YtdhajbodlpeheaaC5Qx9
import Derived.Test.YtdhajbodlpeheaaC5Qx14
namespace Go.Proofs.Ytdhajbodlpeheaa.Q
open Go.RowKit Go.Proofs.YtdhajbodlpeheaaW.PrintWords Go.Proofs.YtdhajbodlpeheaaW.PrintLast Go.Proofs.YtdhajbodlpeheaaW.PrintMore
attribute [local go_sem] max2_int min2_int max_two min_two max_three min_three max_four min_four
set_option linter.unusedVariables false
set_option linter.unusedSimpArgs false
attribute [local go_sem high] eqA34
mutual
def tailwaterlaw18_few.l0 : Nat → List (S34) → Int → Option (Bool)
  | 0, _, _ => none
  | k + 1, x0, x3 => if x3 < (x0.length : Int) then (tailwaterlaw18_few.j1 k x0 x3 (decide (x3 < 60))) else (tailwaterlaw18_few.j1 k x0 x3 false)
def tailwaterlaw18_few.j1 : Nat → List (S34) → Int → Bool → Option (Bool)
  | 0, _, _, _ => none
  | k + 1, x0, x3, x11 => if x11 = true then (if 0 ≤ x3 then (if x3 < (x0.length : Int) then ((tailwaterref18_Right.f ((rd_T34 x0 x3).f0.f0) ((rd_T34 x0 x3).f0.f1) ((rd_T34 x0 x3).f1)).bind fun t629 => (if t629 = true then (tailwaterlaw18_few.l0 k x0 (wrap64 (x3 + 1))) else (some false))) else (none)) else (none)) else (some (decide ((x0.length : Int) ≤ 60)))
end
def tailwaterlaw18_few.f (k : Nat) (l0 : List (S34)) : Option (Bool) := tailwaterlaw18_few.l0 k l0 0
theorem tailwaterlaw18_few.mono_l : ∀ k, (∀ y0 y1, LeO (tailwaterlaw18_few.l0 k y0 y1) (tailwaterlaw18_few.l0 (k + 1) y0 y1)) ∧ (∀ y0 y1 y2, LeO (tailwaterlaw18_few.j1 k y0 y1 y2) (tailwaterlaw18_few.j1 (k + 1) y0 y1 y2))
  | 0 => ⟨fun _ _ r h => by simp [tailwaterlaw18_few.l0] at h, fun _ _ _ r h => by simp [tailwaterlaw18_few.j1] at h⟩
  | k + 1 => by
    obtain ⟨ih0, ih1⟩ := tailwaterlaw18_few.mono_l k
    refine ⟨?_, ?_⟩
    · intro y0 y1
      unfold tailwaterlaw18_few.l0
      repeat' first
      | (with_reducible exact ih0 _ _)
      | (with_reducible exact ih1 _ _ _)
      | (with_reducible exact LeO.refl _)
      | (with_reducible exact LeO.none _)
      | (with_reducible refine LeO.ite ?_ ?_)
      | (with_reducible refine LeO.bind ?_ (fun _ => ?_))
      | exact ih0 _ _
      | exact ih1 _ _ _
      | exact LeO.none _
      | refine LeO.ite ?_ ?_
      | refine LeO.bind ?_ (fun _ => ?_)
    · intro y0 y1 y2
      unfold tailwaterlaw18_few.j1
      repeat' first
      | (with_reducible exact ih0 _ _)
      | (with_reducible exact ih1 _ _ _)
      | (with_reducible exact LeO.refl _)
      | (with_reducible exact LeO.none _)
      | (with_reducible refine LeO.ite ?_ ?_)
      | (with_reducible refine LeO.bind ?_ (fun _ => ?_))
      | exact ih0 _ _
      | exact ih1 _ _ _
      | exact LeO.none _
      | refine LeO.ite ?_ ?_
      | refine LeO.bind ?_ (fun _ => ?_)
theorem tailwaterlaw18_few.mono : ∀ a0 k, LeO (tailwaterlaw18_few.f k a0) (tailwaterlaw18_few.f (k + 1) a0) := by
  intro a0 k
  obtain ⟨ih0, ih1⟩ := tailwaterlaw18_few.mono_l k
  unfold tailwaterlaw18_few.f
  repeat' first
      | (with_reducible exact ih0 _ _)
      | (with_reducible exact ih1 _ _ _)
      | (with_reducible exact LeO.refl _)
      | (with_reducible exact LeO.none _)
      | (with_reducible refine LeO.ite ?_ ?_)
      | (with_reducible refine LeO.bind ?_ (fun _ => ?_))
      | exact ih0 _ _
      | exact ih1 _ _ _
      | exact LeO.none _
      | refine LeO.ite ?_ ?_
      | refine LeO.bind ?_ (fun _ => ?_)
set_option maxHeartbeats 8000000 in
set_option maxRecDepth 100000 in
theorem tailwaterlaw18_few.calls (k : Nat) (A0 : Option Addr) (c0 : Nat) (l0 : List (S34)) (r : Bool) (w : World) (hr0 : Kd.C k34 w A0 l0.length l0) (hc0 : l0.length ≤ c0) (h : tailwaterlaw18_few.f k l0 = some r) :
    Calls Try.prog 25 #[.slice A0 l0.length c0] w fun e w' => e = .returned (.bool r) ∧ Below w.heap.size w w' := by
  have hu34 := Try.underlying34
  have HR0 := Aside0.mk hr0
  have HC0 := Aside0.mk hc0
  clear hr0 hc0
  have HB := Aside0.mk (Below.refl w.heap.size w)
  have H : (tailwaterlaw18_few.l0 k l0 0) = some r := h
  clear h
  have H' := Aside0.mk H
  clear H
  go_enter Try.func25, Try.ntmps25
  go_wp2
  go_loopg [3] k (fun kq v3 w' => ∃ (x3_1 : Int), v3 = .int .i64 x3_1 ∧ Aside0 (tailwaterlaw18_few.l0 kq l0 x3_1 = some r) ∧ Aside0 (kq ≤ k) ∧ Aside0 (Below w.heap.size w w'))
  case atStart => exact ⟨(0), (by first | rfl | (simp; done) | (simp [*]; done)), H', ⟨Nat.le_refl _⟩, ⟨by repeat (first | (with_reducible first | exact HB.out | apply below_alloc | apply pw_below_drewN | apply below_drew1) | exact HB.out)⟩⟩
  case round =>
    clear H'
    obtain ⟨x3_1, rfl, HA, HK1, HB⟩ := hrel
    cases gk with
    | zero => exact absurd HA.out (by simp [tailwaterlaw18_few.l0])
    | succ k1 =>
      have H := HA.out
      clear HA
      simp only [tailwaterlaw18_few.l0] at H
      have HC2 := Aside0.mk H
      clear H
      go_upto_region 2 with (fail)
      go_cut [11] (fun v11 wc => ∃ (kq : Nat) (x11_1 : Bool), v11 = .bool x11_1 ∧ Aside0 (tailwaterlaw18_few.j1 kq l0 x3_1 x11_1 = some r) ∧ Aside0 (kq ≤ k1) ∧ Aside0 (Below w.heap.size w wc))
      case first =>
        have H := HC2.out
        clear HC2
        by_cases c3 : x3_1 < (l0.length : Int)
        · rw [if_pos c3] at H
          have c3b0 : decide (x3_1 < (l0.length : Int)) = true := decide_eq_true c3
          clear c3
          (first | rw [c3b0] | (simp only [i64_w, i32_w]; rw [c3b0]) | skip)
          have H' := Aside0.mk H
          clear H
          go_wp2
          go_meet
          case rel => exact ⟨_, (decide (x3_1 < 60)), (by first | rfl | (simp; done) | (simp [*]; done)), H', ⟨by have := HK1.out; first | omega | exact Nat.le_refl _⟩, ⟨by repeat (first | (with_reducible first | exact HB.out | apply below_alloc | apply pw_below_drewN | apply below_drew1) | exact HB.out)⟩⟩
        · rw [if_neg c3] at H
          have c3b0 : decide (x3_1 < (l0.length : Int)) = false := decide_eq_false c3
          clear c3
          (first | rw [c3b0] | (simp only [i64_w, i32_w]; rw [c3b0]) | skip)
          have H' := Aside0.mk H
          clear H
          go_wp2
          go_meet
          case rel => exact ⟨_, (false), (by first | rfl | (simp; done) | (simp [*]; done)), H', ⟨by have := HK1.out; first | omega | exact Nat.le_refl _⟩, ⟨by repeat (first | (with_reducible first | exact HB.out | apply below_alloc | apply pw_below_drewN | apply below_drew1) | exact HB.out)⟩⟩
      case rest =>
        clear HC2
        try clear c2
        try clear p2
        try clear c3
        try clear c3b0
        obtain ⟨kq, x11_1, rfl, HA, HJ1, HB⟩ := hcut
        cases kq with
        | zero => exact absurd HA.out (by simp [tailwaterlaw18_few.j1])
        | succ kj1 =>
          have H := HA.out
          clear HA
          simp only [tailwaterlaw18_few.j1] at H
          by_cases c4 : x11_1 = true
          · subst c4
            have H1 : (if 0 ≤ x3_1 then (if x3_1 < (l0.length : Int) then ((tailwaterref18_Right.f ((rd_T34 l0 x3_1).f0.f0) ((rd_T34 l0 x3_1).f0.f1) ((rd_T34 l0 x3_1).f1)).bind fun t629 => (if t629 = true then (tailwaterlaw18_few.l0 kj1 l0 (wrap64 (x3_1 + 1))) else (some false))) else (none)) else (none)) = some r := by rw [if_pos rfl] at H; exact H
            clear H
            have H := H1
            clear H1
            by_cases c5 : 0 ≤ x3_1
            · rw [if_pos c5] at H
              have c5b0 : decide (0 ≤ x3_1) = true := decide_eq_true c5
              clear c5
              by_cases c6 : x3_1 < (l0.length : Int)
              · rw [if_pos c6] at H
                have c6b0 : decide (x3_1 < (l0.length : Int)) = true := decide_eq_true c6
                clear c6
                replace H := Option.bind_eq_some_iff.mp H
                obtain ⟨t629, A70, H⟩ := H
                replace H : (if t629 = true then (tailwaterlaw18_few.l0 kj1 l0 (wrap64 (x3_1 + 1))) else (some false)) = some r := H
                have A7 := Aside0.mk A70
                clear A70
                by_cases c8 : t629 = true
                · subst c8
                  have H1 : (tailwaterlaw18_few.l0 kj1 l0 (wrap64 (x3_1 + 1))) = some r := by rw [if_pos rfl] at H; exact H
                  clear H
                  have H := H1
                  clear H1
                  have H' := Aside0.mk H
                  clear H
                  have p628 : 0 ≤ (x3_1 : Int) := of_decide_eq_true (by first | (with_reducible assumption) | assumption)
                  have q628 : x3_1 < (l0.length : Int) := of_decide_eq_true (by first | (with_reducible assumption) | assumption)
                  obtain ⟨ad628, e628, hx628_0, hx628_1, hx628_2⟩ := at_T34 HR0.out x3_1 p628 q628
                  cases e628
                  replace hx628_0 := (HB.out.cell (World.block_lt_of_cell? w _ hx628_0)).trans hx628_0
                  replace hx628_1 := (HB.out.cell (World.block_lt_of_cell? w _ hx628_1)).trans hx628_1
                  replace hx628_2 := (HB.out.cell (World.block_lt_of_cell? w _ hx628_2)).trans hx628_2
                  replace p628 := eq_true p628
                  replace q628 := eq_true q628
                  go_wp2_with (first | ((with_reducible refine gate_callee (f := 15) rfl ?_); refine goesL_ (some 18) rfl rfl Try.func15 (by kernel_rfl) rfl #[.agg #[.int .i64 ((rd_T34 l0 x3_1).f0.f0), .int .i64 ((rd_T34 l0 x3_1).f0.f1), .int .i64 ((rd_T34 l0 x3_1).f1)]] rfl (by (try simp only [List.map_toArray, List.map_cons, List.map_nil]); first | done | rfl | (simp only [List.length_drop, List.length_take]; rfl)) ?_; (with_reducible refine (tailwaterref18_Right.calls ((rd_T34 l0 x3_1).f0.f0) ((rd_T34 l0 x3_1).f0.f1) ((rd_T34 l0 x3_1).f1) true _ A7.out).mono ?_); rintro e w9 ⟨rfl, hb⟩; refine ⟨_, rfl, ?_⟩; have n0_ := Aside0.mk (below_step (by repeat (first | (with_reducible first | exact HB.out | apply below_alloc | apply pw_below_drewN | apply below_drew1) | exact HB.out)) hb); clear HB; have HB := n0_; clear n0_; (try clear hb); (try clear hb2); (try clear hk); (try clear hi)))
                  go_roundg kj1
                  case measure => have := HK1.out; have := HJ1.out; omega
                  case rel => exact ⟨(wrap64 (x3_1 + 1)), (by first | rfl | (simp; done) | (simp [*]; done)), H', ⟨by have := HK1.out; have := HJ1.out; omega⟩, ⟨by repeat (first | (with_reducible first | exact HB.out | apply below_alloc | apply pw_below_drewN | apply below_drew1) | exact HB.out)⟩⟩
                · replace c8 := Bool.eq_false_iff.mpr c8
                  subst c8
                  have H1 : (some false) = some r := by rw [if_neg (show ¬ (false = true) by decide)] at H; exact H
                  clear H
                  have H := H1
                  clear H1
                  obtain rfl := Option.some.inj H
                  have p628 : 0 ≤ (x3_1 : Int) := of_decide_eq_true (by first | (with_reducible assumption) | assumption)
                  have q628 : x3_1 < (l0.length : Int) := of_decide_eq_true (by first | (with_reducible assumption) | assumption)
                  obtain ⟨ad628, e628, hx628_0, hx628_1, hx628_2⟩ := at_T34 HR0.out x3_1 p628 q628
                  cases e628
                  replace hx628_0 := (HB.out.cell (World.block_lt_of_cell? w _ hx628_0)).trans hx628_0
                  replace hx628_1 := (HB.out.cell (World.block_lt_of_cell? w _ hx628_1)).trans hx628_1
                  replace hx628_2 := (HB.out.cell (World.block_lt_of_cell? w _ hx628_2)).trans hx628_2
                  replace p628 := eq_true p628
                  replace q628 := eq_true q628
                  go_wp2_with (first | ((with_reducible refine gate_callee (f := 15) rfl ?_); refine goesL_ (some 18) rfl rfl Try.func15 (by kernel_rfl) rfl #[.agg #[.int .i64 ((rd_T34 l0 x3_1).f0.f0), .int .i64 ((rd_T34 l0 x3_1).f0.f1), .int .i64 ((rd_T34 l0 x3_1).f1)]] rfl (by (try simp only [List.map_toArray, List.map_cons, List.map_nil]); first | done | rfl | (simp only [List.length_drop, List.length_take]; rfl)) ?_; (with_reducible refine (tailwaterref18_Right.calls ((rd_T34 l0 x3_1).f0.f0) ((rd_T34 l0 x3_1).f0.f1) ((rd_T34 l0 x3_1).f1) false _ A7.out).mono ?_); rintro e w10 ⟨rfl, hb⟩; refine ⟨_, rfl, ?_⟩; have n0_ := Aside0.mk (below_step (by repeat (first | (with_reducible first | exact HB.out | apply below_alloc | apply pw_below_drewN | apply below_drew1) | exact HB.out)) hb); clear HB; have HB := n0_; clear n0_; (try clear hb); (try clear hb2); (try clear hk); (try clear hi)))
                  go_ret
                  exact ⟨by first | rfl | (simp [errW_none, errW_some] <;> rfl) | (simp [*, errW_none, errW_some] <;> rfl), by repeat (first | (with_reducible first | exact HB.out | apply below_alloc | apply pw_below_drewN | apply below_drew1) | exact HB.out)⟩
              · rw [if_neg c6] at H
                exact absurd H (by simp)
            · rw [if_neg c5] at H
              exact absurd H (by simp)
          · replace c4 := Bool.eq_false_iff.mpr c4
            subst c4
            have H1 : (some (decide ((l0.length : Int) ≤ 60))) = some r := by rw [if_neg (show ¬ (false = true) by decide)] at H; exact H
            clear H
            have H := H1
            clear H1
            obtain rfl := Option.some.inj H
            go_wp2
            go_ret
            exact ⟨by first | rfl | (simp [errW_none, errW_some] <;> rfl) | (simp [*, errW_none, errW_some] <;> rfl), by repeat (first | (with_reducible first | exact HB.out | apply below_alloc | apply pw_below_drewN | apply below_drew1) | exact HB.out)⟩
def tailwaterlaw18_TimersFirst.l0 : Nat → Bool → List (S34) → List (S34) → Int → Option (Bool)
  | 0, _, _, _, _ => none
  | k + 1, x3, x4, x6, x7 => if x7 < (x6.length : Int) then ((timers_Pop.f k x4).bind fun bt640 => (if bt640.2.2.2.2 = 0 then (if 0 ≤ x7 then (if ((!(bt640.1 == ((rd_T34 x6 x7).f0.f0)) || (!(bt640.2.1 == ((rd_T34 x6 x7).f0.f1)))) || (!(bt640.2.2.1 == ((rd_T34 x6 x7).f1)))) = true then (none) else (if (bt640.2.2.2.1.length : Int) = (wrap64 ((x4.length : Int) - 1)) then ((timers_Check.f k bt640.2.2.2.1).bind fun t649 => (if t649 = 0 then (tailwaterlaw18_TimersFirst.l0 k x3 bt640.2.2.2.1 x6 (wrap64 (x7 + 1))) else (none))) else (none))) else (none)) else (none))) else ((timers_Pop.f k x4).bind fun bt650 => (if x3 = true then (some (bt650.2.2.2.2 == 6)) else (none)))
def tailwaterlaw18_TimersFirst.f (k : Nat) (l0 : List (S34)) : Option (Bool) := (tailwaterlaw18_alive.f k).bind fun t630 => ((tailwaterlaw18_few.f k l0).bind fun t631 => (if t631 = true then (if t630 = true then ((tailwaterlaw18_pushed.f k l0).bind fun bt632 => (if bt632.2 = true then ((timers_Check.f k bt632.1).bind fun t636 => (if t636 = 0 then ((tailwaterref18_Sorted.f k l0).bind fun t637 => (tailwaterlaw18_TimersFirst.l0 k t630 bt632.1 t637 0)) else (none))) else (none))) else (none)) else (some t630)))
theorem tailwaterlaw18_TimersFirst.mono_l : ∀ k, (∀ y0 y1 y2 y3, LeO (tailwaterlaw18_TimersFirst.l0 k y0 y1 y2 y3) (tailwaterlaw18_TimersFirst.l0 (k + 1) y0 y1 y2 y3))
  | 0 => fun _ _ _ _ r h => by simp [tailwaterlaw18_TimersFirst.l0] at h
  | k + 1 => by
    have ih0 := tailwaterlaw18_TimersFirst.mono_l k
    · intro y0 y1 y2 y3
      unfold tailwaterlaw18_TimersFirst.l0
      repeat' first
      | (with_reducible exact ih0 _ _ _ _)
      | (with_reducible exact tailwaterlaw18_alive.mono _)
      | (with_reducible exact tailwaterlaw18_few.mono _ _)
      | (with_reducible exact tailwaterlaw18_pushed.mono _ _)
      | (with_reducible exact tailwaterref18_Sorted.mono _ _)
      | (with_reducible exact timers_Check.mono _ _)
      | (with_reducible exact timers_Pop.mono _ _)
      | (with_reducible exact LeO.refl _)
      | (with_reducible exact LeO.none _)
      | (with_reducible refine LeO.ite ?_ ?_)
      | (with_reducible refine LeO.bind ?_ (fun _ => ?_))
      | exact ih0 _ _ _ _
      | exact tailwaterlaw18_alive.mono _
      | exact tailwaterlaw18_few.mono _ _
      | exact tailwaterlaw18_pushed.mono _ _
      | exact tailwaterref18_Sorted.mono _ _
      | exact timers_Check.mono _ _
      | exact timers_Pop.mono _ _
      | exact LeO.none _
      | refine LeO.ite ?_ ?_
      | refine LeO.bind ?_ (fun _ => ?_)
theorem tailwaterlaw18_TimersFirst.mono : ∀ a0 k, LeO (tailwaterlaw18_TimersFirst.f k a0) (tailwaterlaw18_TimersFirst.f (k + 1) a0) := by
  intro a0 k
  have ih0 := tailwaterlaw18_TimersFirst.mono_l k
  unfold tailwaterlaw18_TimersFirst.f
  repeat' first
      | (with_reducible exact ih0 _ _ _ _)
      | (with_reducible exact tailwaterlaw18_alive.mono _)
      | (with_reducible exact tailwaterlaw18_few.mono _ _)
      | (with_reducible exact tailwaterlaw18_pushed.mono _ _)
      | (with_reducible exact tailwaterref18_Sorted.mono _ _)
      | (with_reducible exact timers_Check.mono _ _)
      | (with_reducible exact timers_Pop.mono _ _)
      | (with_reducible exact LeO.refl _)
      | (with_reducible exact LeO.none _)
      | (with_reducible refine LeO.ite ?_ ?_)
      | (with_reducible refine LeO.bind ?_ (fun _ => ?_))
      | exact ih0 _ _ _ _
      | exact tailwaterlaw18_alive.mono _
      | exact tailwaterlaw18_few.mono _ _
      | exact tailwaterlaw18_pushed.mono _ _
      | exact tailwaterref18_Sorted.mono _ _
      | exact timers_Check.mono _ _
      | exact timers_Pop.mono _ _
      | exact LeO.none _
      | refine LeO.ite ?_ ?_
      | refine LeO.bind ?_ (fun _ => ?_)
def tailwaterlaw18_TimersFirst.T12 : Bool × List (List Nat × List Nat) := (true, [([], []), ([0], [0]), ([1], [1]), ([2], [2]), ([2], [2]), ([2], [2]), ([4, 5, 2], [2, 4, 5]), ([6, 2], [2, 6]), ([3, 7, 2], [2, 3, 7]), ([2, 8], [2, 8]), ([9, 2], [9]), ([10], [10]), ([11, 10], [10, 11]), ([10], [10]), ([13, 10], [10, 13]), ([14, 10], [10, 14]), ([12, 15, 10], [10, 12, 15]), ([10, 16], [10, 16]), ([17, 10], [17]), ([18], [18]), ([19, 18, 18], [18, 19]), ([20, 18], [18, 20]), ([18, 21], [18, 21])])
def tailwaterlaw18_TimersFirst.B12 : List Nat := [0, 1, 3, 7, 7, 7, 55, 119, 255, 511, 1023, 2047, 4095, 2047, 10239, 26623, 65535, 131071, 262143, 524287, 1048575, 2097151, 4194303]
theorem tailwaterlaw18_TimersFirst.tab12 : rtab .any (opsOf Try.f7 12) = tailwaterlaw18_TimersFirst.T12 := by kernel_rfl
theorem tailwaterlaw18_TimersFirst.bits12 : waitsOk tailwaterlaw18_TimersFirst.T12.2 tailwaterlaw18_TimersFirst.B12 = true := by kernel_rfl
end Go.Proofs.Ytdhajbodlpeheaa.Q
