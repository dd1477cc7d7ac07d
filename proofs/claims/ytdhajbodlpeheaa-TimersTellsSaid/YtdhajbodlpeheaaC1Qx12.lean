/- A text of the claim. -/
import Derived.Test.YtdhajbodlpeheaaC1Qx0
namespace Go.Proofs.Ytdhajbodlpeheaa.Q
open Go.RowKit Go.Proofs.YtdhajbodlpeheaaW.PrintWords Go.Proofs.YtdhajbodlpeheaaW.PrintLast Go.Proofs.YtdhajbodlpeheaaW.PrintMore
attribute [local go_sem] max2_int min2_int max_two min_two max_three min_three max_four min_four
set_option linter.unusedVariables false
set_option linter.unusedSimpArgs false
def tailwaterref18_Great.f (l0 : List (S34)) : Option (Bool) := if (l0.length : Int) > 120 then (if (l0.length : Int) < 3999 then (some true) else (some (decide ((l0.length : Int) > 4002)))) else (some (decide ((l0.length : Int) > 4002)))
set_option maxHeartbeats 8000000 in
set_option maxRecDepth 100000 in
theorem tailwaterref18_Great.calls (A0 : Option Addr) (c0 : Nat) (l0 : List (S34)) (r : Bool) (w : World) (hr0 : Kd.C k34 w A0 l0.length l0) (hc0 : l0.length ≤ c0) (h : tailwaterref18_Great.f l0 = some r) :
    Calls Try.prog 18 #[.slice A0 l0.length c0] w fun e w' => e = .returned (.bool r) ∧ Drawn0 w w' := by
  have HR0 := Aside0.mk hr0
  have HC0 := Aside0.mk hc0
  clear hr0 hc0
  have H : (if (l0.length : Int) > 120 then (if (l0.length : Int) < 3999 then (some true) else (some (decide ((l0.length : Int) > 4002)))) else (some (decide ((l0.length : Int) > 4002)))) = some r := h
  clear h
  by_cases c2 : (l0.length : Int) > 120
  · rw [if_pos c2] at H
    have c2b0 : decide (120 < (l0.length : Int)) = true := decide_eq_true c2
    have c2b1 : decide (120 < l0.length) = true := decide_eq_true (by omega)
    clear c2
    by_cases c3 : (l0.length : Int) < 3999
    · rw [if_pos c3] at H
      have c3b0 : decide ((l0.length : Int) < 3999) = true := decide_eq_true c3
      have c3b1 : decide (l0.length < 3999) = true := decide_eq_true (by omega)
      clear c3
      obtain rfl := Option.some.inj H
      go_enter Try.func18, Try.ntmps18
      go_wp2
      go_ret
      exact ⟨by first | rfl | (simp; done) | (simp [*]; done), by repeat (first | exact Drawn0.refl _ | apply Drawn0.step)⟩
    · rw [if_neg c3] at H
      have c3b0 : decide ((l0.length : Int) < 3999) = false := decide_eq_false c3
      have c3b1 : decide (l0.length < 3999) = false := decide_eq_false (by omega)
      clear c3
      obtain rfl := Option.some.inj H
      go_enter Try.func18, Try.ntmps18
      go_wp2
      go_ret
      exact ⟨by first | rfl | (simp; done) | (simp [*]; done), by repeat (first | exact Drawn0.refl _ | apply Drawn0.step)⟩
  · rw [if_neg c2] at H
    have c2b0 : decide (120 < (l0.length : Int)) = false := decide_eq_false c2
    have c2b1 : decide (120 < l0.length) = false := decide_eq_false (by omega)
    clear c2
    obtain rfl := Option.some.inj H
    go_enter Try.func18, Try.ntmps18
    go_wp2
    go_ret
    exact ⟨by first | rfl | (simp; done) | (simp [*]; done), by repeat (first | exact Drawn0.refl _ | apply Drawn0.step)⟩
def tailwaterref18_swapped.f (l0 : List (S34)) (a1 : Int) (a2 : Int) : Option ((List (S34))) := (some (([] : List (S34)) : List (S34))).bind fun y304 => (if y304.length + l0.length < 5864062014805 then ((some (y304 ++ l0 : List (S34))).bind fun y307 => (if 0 ≤ a2 then (if a2 < (l0.length : Int) then (if 0 ≤ a1 then (if a1 < (l0.length : Int) then (if a1 < (y307.length : Int) then (if a2 < (y307.length : Int) then (some ((y307.set (a1 : Int).toNat (⟨(⟨(rd_T34 l0 a2).f0.f0, (rd_T34 l0 a2).f0.f1⟩ : S32), (rd_T34 l0 a2).f1⟩ : S34)).set (a2 : Int).toNat (⟨(⟨(rd_T34 l0 a1).f0.f0, (rd_T34 l0 a1).f0.f1⟩ : S32), (rd_T34 l0 a1).f1⟩ : S34))) else (none)) else (none)) else (none)) else (none)) else (none)) else (none))) else (none))
def tailwaterref18_swapped.T2 : Bool × List (List Nat × List Nat) := (true, [([], []), ([], []), ([], []), ([], []), ([], []), ([], []), ([4, 5], [4, 5]), ([6], [6]), ([], []), ([], []), ([8, 9], [8, 9]), ([10], [10]), ([0, 1, 0, 1, 4, 5, 6, 7, 11], [0, 1]), ([12, 7, 0, 1, 4, 5, 6, 7, 11], [7, 12]), ([2, 3, 0, 1, 2, 3, 4, 5, 6, 7, 8, 9, 10, 11, 12, 13], [2, 3]), ([14, 11, 13, 0, 1, 2, 3, 4, 5, 6, 7, 8, 9, 10, 11, 12, 13], [11, 14])])
def tailwaterref18_swapped.B2 : List Nat := [0, 0, 0, 0, 0, 0, 48, 112, 0, 0, 768, 1792, 4083, 8179, 16383, 32767]
theorem tailwaterref18_swapped.tab2 : rtab .any (opsOf Try.f36 2) = tailwaterref18_swapped.T2 := by kernel_rfl
theorem tailwaterref18_swapped.bits2 : waitsOk tailwaterref18_swapped.T2.2 tailwaterref18_swapped.B2 = true := by kernel_rfl
set_option maxHeartbeats 8000000 in
set_option maxRecDepth 100000 in
theorem tailwaterref18_swapped.calls (A0 : Option Addr) (c0 : Nat) (l0 : List (S34)) (a1 : Int) (a2 : Int) (r : List (S34)) (w : World) (hr0 : Kd.C k34 w A0 l0.length l0) (hc0 : l0.length ≤ c0) (h : tailwaterref18_swapped.f l0 a1 a2 = some r) :
    Calls Try.prog 36 #[.slice A0 l0.length c0, .int .i64 a1, .int .i64 a2] w fun e w' => ∃ v0_ : Value, e = .returned (v0_) ∧ Kd.R k34 34 w' w.heap.size (fun _ => True) v0_ r ∧ Below w.heap.size w w' := by
  have hu34 := Try.underlying34
  have HR0 := Aside0.mk hr0
  have HC0 := Aside0.mk hc0
  clear hr0 hc0
  have HB := Aside0.mk (Below.refl w.heap.size w)
  have H : ((some (([] : List (S34)) : List (S34))).bind fun y304 => (if y304.length + l0.length < 5864062014805 then ((some (y304 ++ l0 : List (S34))).bind fun y307 => (if 0 ≤ a2 then (if a2 < (l0.length : Int) then (if 0 ≤ a1 then (if a1 < (l0.length : Int) then (if a1 < (y307.length : Int) then (if a2 < (y307.length : Int) then (some ((y307.set (a1 : Int).toNat (⟨(⟨(rd_T34 l0 a2).f0.f0, (rd_T34 l0 a2).f0.f1⟩ : S32), (rd_T34 l0 a2).f1⟩ : S34)).set (a2 : Int).toNat (⟨(⟨(rd_T34 l0 a1).f0.f0, (rd_T34 l0 a1).f0.f1⟩ : S32), (rd_T34 l0 a1).f1⟩ : S34))) else (none)) else (none)) else (none)) else (none)) else (none)) else (none))) else (none))) = some r := h
  clear h
  obtain ⟨y304, hy304⟩ : ∃ y_ : List (S34), y_ = (([] : List (S34))) := ⟨_, rfl⟩
  replace H : (if y304.length + l0.length < 5864062014805 then ((some (y304 ++ l0 : List (S34))).bind fun y307 => (if 0 ≤ a2 then (if a2 < (l0.length : Int) then (if 0 ≤ a1 then (if a1 < (l0.length : Int) then (if a1 < (y307.length : Int) then (if a2 < (y307.length : Int) then (some ((y307.set (a1 : Int).toNat (⟨(⟨(rd_T34 l0 a2).f0.f0, (rd_T34 l0 a2).f0.f1⟩ : S32), (rd_T34 l0 a2).f1⟩ : S34)).set (a2 : Int).toNat (⟨(⟨(rd_T34 l0 a1).f0.f0, (rd_T34 l0 a1).f0.f1⟩ : S32), (rd_T34 l0 a1).f1⟩ : S34))) else (none)) else (none)) else (none)) else (none)) else (none)) else (none))) else (none)) = some r := by first | (rw [hy304]; with_reducible exact H) | (have H2_ := (Option.bind_some _ _).symm.trans H; rw [hy304]; with_reducible exact H2_) | (have H2_ := (Option.bind_some _ _).symm.trans H; with_reducible exact H2_) | with_reducible exact H | (rw [hy304]; exact H) | exact H
  have Ny304 := Aside0.mk hy304
  clear hy304
  by_cases c4 : y304.length + l0.length < 5864062014805
  · rw [if_pos c4] at H
    have LMc4 := Aside0.mk c4
    clear c4
    obtain ⟨y307, hy307⟩ : ∃ y_ : List (S34), y_ = (y304 ++ l0) := ⟨_, rfl⟩
    replace H : (if 0 ≤ a2 then (if a2 < (l0.length : Int) then (if 0 ≤ a1 then (if a1 < (l0.length : Int) then (if a1 < (y307.length : Int) then (if a2 < (y307.length : Int) then (some ((y307.set (a1 : Int).toNat (⟨(⟨(rd_T34 l0 a2).f0.f0, (rd_T34 l0 a2).f0.f1⟩ : S32), (rd_T34 l0 a2).f1⟩ : S34)).set (a2 : Int).toNat (⟨(⟨(rd_T34 l0 a1).f0.f0, (rd_T34 l0 a1).f0.f1⟩ : S32), (rd_T34 l0 a1).f1⟩ : S34))) else (none)) else (none)) else (none)) else (none)) else (none)) else (none)) = some r := by first | (rw [hy307]; with_reducible exact H) | (have H2_ := (Option.bind_some _ _).symm.trans H; rw [hy307]; with_reducible exact H2_) | (have H2_ := (Option.bind_some _ _).symm.trans H; with_reducible exact H2_) | with_reducible exact H | (rw [hy307]; exact H) | exact H
    have Ny307 := Aside0.mk hy307
    clear hy307
    by_cases c5 : 0 ≤ a2
    · rw [if_pos c5] at H
      have c5b0 : decide (0 ≤ a2) = true := decide_eq_true c5
      clear c5
      by_cases c6 : a2 < (l0.length : Int)
      · rw [if_pos c6] at H
        have c6b0 : decide (a2 < (l0.length : Int)) = true := decide_eq_true c6
        clear c6
        by_cases c7 : 0 ≤ a1
        · rw [if_pos c7] at H
          have c7b0 : decide (0 ≤ a1) = true := decide_eq_true c7
          clear c7
          by_cases c8 : a1 < (l0.length : Int)
          · rw [if_pos c8] at H
            have c8b0 : decide (a1 < (l0.length : Int)) = true := decide_eq_true c8
            clear c8
            by_cases c9 : a1 < (y307.length : Int)
            · rw [if_pos c9] at H
              have c9b0 : decide (a1 < (y307.length : Int)) = true := decide_eq_true c9
              clear c9
              obtain ⟨y312, hy312⟩ : ∃ y_ : List (S34), y_ = (y307.set (a1 : Int).toNat (⟨(⟨(rd_T34 l0 a2).f0.f0, (rd_T34 l0 a2).f0.f1⟩ : S32), (rd_T34 l0 a2).f1⟩ : S34)) := ⟨_, rfl⟩
              replace H : (if a2 < (y307.length : Int) then (some (y312.set (a2 : Int).toNat (⟨(⟨(rd_T34 l0 a1).f0.f0, (rd_T34 l0 a1).f0.f1⟩ : S32), (rd_T34 l0 a1).f1⟩ : S34))) else (none)) = some r := by first | (rw [hy312]; with_reducible exact H) | (have H2_ := (Option.bind_some _ _).symm.trans H; rw [hy312]; with_reducible exact H2_) | (have H2_ := (Option.bind_some _ _).symm.trans H; with_reducible exact H2_) | with_reducible exact H | (rw [hy312]; exact H) | exact H
              have Ny312 := Aside0.mk hy312
              clear hy312
              by_cases c11 : a2 < (y307.length : Int)
              · rw [if_pos c11] at H
                have c11b0 : decide (a2 < (y307.length : Int)) = true := decide_eq_true c11
                clear c11
                obtain ⟨y313, hy313⟩ : ∃ y_ : List (S34), y_ = (y312.set (a2 : Int).toNat (⟨(⟨(rd_T34 l0 a1).f0.f0, (rd_T34 l0 a1).f0.f1⟩ : S32), (rd_T34 l0 a1).f1⟩ : S34)) := ⟨_, rfl⟩
                replace H : (some y313) = some r := by first | (rw [hy313]; with_reducible exact H) | (have H2_ := (Option.bind_some _ _).symm.trans H; rw [hy313]; with_reducible exact H2_) | (have H2_ := (Option.bind_some _ _).symm.trans H; with_reducible exact H2_) | with_reducible exact H | (rw [hy313]; exact H) | exact H
                have Ny313 := Aside0.mk hy313
                clear hy313
                obtain rfl := Option.some.inj H
                go_enter Try.func36, Try.ntmps36
                try go_wp2_with (first | ((with_reducible refine gate_dst (N := 8) rfl ?_); refine Kd.R_lit k34 _ 34 ?hg (N := 8) ?hd (xs := ([] : List (S34))) (inner := []) (ok := fun _ => True) (okp := fun _ => True) ?hr ?hp (fun _ hk => hk) trivial (Below.refl _ _) (Nat.le_refl _) (by simp) ?_; (case hd => rfl); (case hg => rfl); (case hr => first | (go_simp; done) | (go_simp; rfl)); (case hp => exact (Reps.none _ _)); intro v305 w13 ho14 hb hg_ hnew_; clear hg_ hnew_; (first | rw [← Ny304.out] at ho14 | (simp only [Int.reduceToNat] at ho14; rw [← Ny304.out] at ho14)); have n0_ := Aside0.mk (Kd.R_lower ho14 (below_size (by repeat (first | (with_reducible first | exact HB.out | apply below_alloc | apply pw_below_drewN | apply below_drew1) | exact HB.out)))); have n1_ := Aside0.mk (below_step (by repeat (first | (with_reducible first | exact HB.out | apply below_alloc | apply pw_below_drewN | apply below_drew1) | exact HB.out)) hb); clear HB; have HO306 := n0_; have HB := n1_; clear n0_ n1_; clear hb ho14) | ((with_reducible refine gate_builtin (b := .append) (xs := #[.tmp 8, .tmp 9]) rfl ?_); at_builtin; refine Kd.R_append_rows k34 (w0 := w) w.heap.size rfl (.tmp 8) (.tmp 9) 22 34 (.agg #[(.int .i64 0), (.int .i64 0), (.int .i64 0)]) 24 rfl Try.underlying22 info34 rfl (by decide) (by omega) v305 y304 l0 _ _ _ (fun _ => True) (fun _ => False) rfl rfl ?aO ?aR (fun _ _ h => h) (fun _ h => h.elim) ?aF ?aB ?aS ?aL ?_; (case aR => repeat (first | exact (Kd.C_below HR0.out HB.out) | (with_reducible refine Kd.C_alloc ?_ _) | (with_reducible refine Kd.C_drewN ?_ _) | (with_reducible refine Kd.C_drew ?_))); (case aB => exact (by repeat (first | (with_reducible first | exact HB.out | apply below_alloc | apply pw_below_drewN | apply below_drew1) | exact HB.out))); (case aF => exact (fun _ _ => trivial)); (case aO => exact (by (with_reducible repeat (first | apply Kd.R_alloc | apply Kd.R_drewN | apply Kd.R_drew)); exact HO306.out)); (case aS => exact (below_size (by repeat (first | (with_reducible first | exact HB.out | apply below_alloc | apply pw_below_drewN | apply below_drew1) | exact HB.out)))); (case aL => have := LMc4.out; omega); intro v308 w15 ho hb hg hat; rw [← Ny307.out] at ho; have n0_ := Aside0.mk (hb); have n1_ := Aside0.mk (ho); clear HB; clear HO306; have HB := n0_; have HO309 := n1_; clear n0_ n1_; clear ho hb hg hat))
                have n0_ := Aside0.mk (Kd.R_drew HO309.out)
                have n1_ := Aside0.mk (below_drew1 HB.out)
                clear HO309
                clear HB
                have HO309 := n0_
                have HB := n1_
                clear n0_ n1_
                have p310 : 0 ≤ (a2 : Int) := of_decide_eq_true (by first | (with_reducible assumption) | assumption)
                have q310 : a2 < (l0.length : Int) := of_decide_eq_true (by first | (with_reducible assumption) | assumption)
                obtain ⟨ad310, e310, hx310_0, hx310_1, hx310_2⟩ := at_T34 HR0.out a2 p310 q310
                have hw310_2 := hx310_2
                have hw310_1 := hx310_1
                have hw310_0 := hx310_0
                cases e310
                replace hx310_0 := (HB.out.cell (World.block_lt_of_cell? w _ hx310_0)).trans hx310_0
                replace hx310_1 := (HB.out.cell (World.block_lt_of_cell? w _ hx310_1)).trans hx310_1
                replace hx310_2 := (HB.out.cell (World.block_lt_of_cell? w _ hx310_2)).trans hx310_2
                replace p310 := eq_true p310
                replace q310 := eq_true q310
                have p311 : 0 ≤ (a1 : Int) := of_decide_eq_true (by first | (with_reducible assumption) | assumption)
                have q311 : a1 < (l0.length : Int) := of_decide_eq_true (by first | (with_reducible assumption) | assumption)
                obtain ⟨ad311, e311, hx311_0, hx311_1, hx311_2⟩ := at_T34 HR0.out a1 p311 q311
                have hw311_2 := hx311_2
                have hw311_1 := hx311_1
                have hw311_0 := hx311_0
                obtain rfl : ad310 = ad311 := (by injection e311)
                replace hx311_0 := (HB.out.cell (World.block_lt_of_cell? w _ hx311_0)).trans hx311_0
                replace hx311_1 := (HB.out.cell (World.block_lt_of_cell? w _ hx311_1)).trans hx311_1
                replace hx311_2 := (HB.out.cell (World.block_lt_of_cell? w _ hx311_2)).trans hx311_2
                replace p311 := eq_true p311
                replace q311 := eq_true q311
                have p10 : 0 ≤ (a1 : Int) := of_decide_eq_true (by first | (with_reducible assumption) | assumption)
                have q10 : (a1 : Int) < ((y307.length : Int) : Int) := of_decide_eq_true (by first | (with_reducible assumption) | assumption)
                obtain ⟨go10, co10, eo10, gb10, gl10, cl10, HG10⟩ := Kd.R_form HO309.out (by omega)
                (first | cases eo10 | (injection eo10 with ea_ en_ ec_; (first | subst ea_ | (injection ea_ with ea_; subst ea_)); subst ec_; clear en_))
                have GB10 := Aside0.mk gb10
                have GG10 := Aside0.mk HG10
                clear gb10 gl10 HG10
                obtain ⟨ce10, hcl10, hM10, hcc10, hfr10⟩ := Kd.R_elem HO309.out z34 (a1 : Int) p10 q10
                obtain rfl := k34_openM hM10
                have hx10_0 : World.cell? _ ⟨go10, (a1 : Int).toNat * 3, none⟩ = some (.int .i64 ((rd_T34 y307 a1).f0.f0)) := hcc10 0 _ rfl
                have hx10_1 : World.cell? _ ⟨go10, (a1 : Int).toNat * 3 + 1, none⟩ = some (.int .i64 ((rd_T34 y307 a1).f0.f1)) := hcc10 1 _ rfl
                have hx10_2 : World.cell? _ ⟨go10, (a1 : Int).toNat * 3 + 2, none⟩ = some (.int .i64 ((rd_T34 y307 a1).f1)) := hcc10 2 _ rfl
                have hf10_0 : World.frozen? _ ⟨go10, (a1 : Int).toNat * 3, none⟩ = false := hfr10 0
                have hf10_1 : World.frozen? _ ⟨go10, (a1 : Int).toNat * 3 + 1, none⟩ = false := hfr10 1
                have hf10_2 : World.frozen? _ ⟨go10, (a1 : Int).toNat * 3 + 2, none⟩ = false := hfr10 2
                clear hcl10 hcc10 hfr10 hM10
                replace p10 := eq_true p10
                replace q10 := eq_true q10
                obtain ⟨ce17, hcl17, hM17, hcc17, hfr17⟩ := Kd.R_elem HO309.out z34 (a1 : Int) (of_decide_eq_true (by first | (with_reducible assumption) | assumption)) (by have h_ : (a1 : Int) < ((y307.length : Int) : Int) := of_decide_eq_true (by first | (with_reducible assumption) | assumption); first | exact h_ | (have e_ := (Kd.R_reads' HO309.out).1; omega) | simpa using h_)
                obtain rfl := k34_openM hM17
                have HP17 := (Kd.R_seg HO309.out (a1 : Int) (of_decide_eq_true (by first | (with_reducible assumption) | assumption)) (by have h_ : (a1 : Int) < ((y307.length : Int) : Int) := of_decide_eq_true (by first | (with_reducible assumption) | assumption); first | exact h_ | (have e_ := (Kd.R_reads' HO309.out).1; omega) | simpa using h_) (seg := [.int .i64 ((rd_T34 l0 a2).f0.f0), .int .i64 ((rd_T34 l0 a2).f0.f1), .int .i64 ((rd_T34 l0 a2).f1)]) (j := 0) hcl17 hcc17 (show 3 ≤ 3 from by decide) (x' := (⟨(⟨(rd_T34 l0 a2).f0.f0, (rd_T34 l0 a2).f0.f1⟩ : S32), (rd_T34 l0 a2).f1⟩ : S34)) (k34_mkM _ _ _ (⟨(⟨(rd_T34 l0 a2).f0.f0, (rd_T34 l0 a2).f0.f1⟩ : S32), (rd_T34 l0 a2).f1⟩ : S34) ) (fun _ hk => hk)).1
                rw [← Ny312.out] at HP17
                have HQ17 := Aside0.mk HP17
                clear hcl17 hcc17 hfr17 hM17 HP17
                have p12 : 0 ≤ (a2 : Int) := of_decide_eq_true (by first | (with_reducible assumption) | assumption)
                have q12 : (a2 : Int) < ((y307.length : Int) : Int) := of_decide_eq_true (by first | (with_reducible assumption) | assumption)
                obtain ⟨ce12, hcl12, hM12, hcc12, hfr12⟩ := Kd.R_elem HQ17.out z34 (a2 : Int) p12 q12
                obtain rfl := k34_openM hM12
                have hx12_0 : World.cell? _ ⟨go10, (a2 : Int).toNat * 3, none⟩ = some (.int .i64 ((rd_T34 y312 a2).f0.f0)) := hcc12 0 _ rfl
                have hx12_1 : World.cell? _ ⟨go10, (a2 : Int).toNat * 3 + 1, none⟩ = some (.int .i64 ((rd_T34 y312 a2).f0.f1)) := hcc12 1 _ rfl
                have hx12_2 : World.cell? _ ⟨go10, (a2 : Int).toNat * 3 + 2, none⟩ = some (.int .i64 ((rd_T34 y312 a2).f1)) := hcc12 2 _ rfl
                have hf12_0 : World.frozen? _ ⟨go10, (a2 : Int).toNat * 3, none⟩ = false := hfr12 0
                have hf12_1 : World.frozen? _ ⟨go10, (a2 : Int).toNat * 3 + 1, none⟩ = false := hfr12 1
                have hf12_2 : World.frozen? _ ⟨go10, (a2 : Int).toNat * 3 + 2, none⟩ = false := hfr12 2
                clear hcl12 hcc12 hfr12 hM12
                replace p12 := eq_true p12
                replace q12 := eq_true q12
                obtain ⟨ce18, hcl18, hM18, hcc18, hfr18⟩ := Kd.R_elem HQ17.out z34 (a2 : Int) (of_decide_eq_true (by first | (with_reducible assumption) | assumption)) (by have h_ : (a2 : Int) < ((y307.length : Int) : Int) := of_decide_eq_true (by first | (with_reducible assumption) | assumption); first | exact h_ | (have e_ := (Kd.R_reads' HO309.out).1; omega) | simpa using h_)
                obtain rfl := k34_openM hM18
                have HP18 := (Kd.R_seg HQ17.out (a2 : Int) (of_decide_eq_true (by first | (with_reducible assumption) | assumption)) (by have h_ : (a2 : Int) < ((y307.length : Int) : Int) := of_decide_eq_true (by first | (with_reducible assumption) | assumption); first | exact h_ | (have e_ := (Kd.R_reads' HO309.out).1; omega) | simpa using h_) (seg := [.int .i64 ((rd_T34 l0 a1).f0.f0), .int .i64 ((rd_T34 l0 a1).f0.f1), .int .i64 ((rd_T34 l0 a1).f1)]) (j := 0) hcl18 hcc18 (show 3 ≤ 3 from by decide) (x' := (⟨(⟨(rd_T34 l0 a1).f0.f0, (rd_T34 l0 a1).f0.f1⟩ : S32), (rd_T34 l0 a1).f1⟩ : S34)) (k34_mkM _ _ _ (⟨(⟨(rd_T34 l0 a1).f0.f0, (rd_T34 l0 a1).f0.f1⟩ : S32), (rd_T34 l0 a1).f1⟩ : S34) ) (fun _ hk => hk)).1
                rw [← Ny313.out] at HP18
                have HQ18 := Aside0.mk HP18
                clear hcl18 hcc18 hfr18 hM18 HP18
                obtain ⟨hyv18_0, hx18_0⟩ := cell_set_some (p := ⟨go10, (a1 : Int).toNat * 3, none⟩) (x := .int .i64 ((rd_T34 l0 a2).f0.f0)) ((cell_of_sets hx12_0).choose_spec)
                have hf18_0 := frozen_of_sets hf12_0
                obtain ⟨hyv18_1, hx18_1⟩ := cell_set_some (p := ⟨go10, (a1 : Int).toNat * 3 + 1, none⟩) (x := .int .i64 ((rd_T34 l0 a2).f0.f1)) (cell_set_some (p := ⟨go10, (a1 : Int).toNat * 3, none⟩) (x := .int .i64 ((rd_T34 l0 a2).f0.f0)) ((cell_of_sets hx12_1).choose_spec)).choose_spec
                have hf18_1 := frozen_of_sets hf12_1
                obtain ⟨hyv18_2, hx18_2⟩ := cell_set_some (p := ⟨go10, (a1 : Int).toNat * 3 + 2, none⟩) (x := .int .i64 ((rd_T34 l0 a2).f1)) (cell_set_some (p := ⟨go10, (a1 : Int).toNat * 3 + 1, none⟩) (x := .int .i64 ((rd_T34 l0 a2).f0.f1)) (cell_set_some (p := ⟨go10, (a1 : Int).toNat * 3, none⟩) (x := .int .i64 ((rd_T34 l0 a2).f0.f0)) ((cell_of_sets hx12_2).choose_spec)).choose_spec).choose_spec
                have hf18_2 := frozen_of_sets hf12_2
                refine start_ (n := 16) (S := fun w' => w'.cell? (ad310.add ((a2).toNat * 3)) = some (.int .i64 ((rd_T34 l0 a2).f0.f0)) ∧ w'.cell? ⟨(ad310.add ((a2).toNat * 3)).block, (ad310.add ((a2).toNat * 3)).off + 1, none⟩ = some (.int .i64 ((rd_T34 l0 a2).f0.f1)) ∧ w'.cell? ⟨(ad310.add ((a2).toNat * 3)).block, (ad310.add ((a2).toNat * 3)).off + 2, none⟩ = some (.int .i64 ((rd_T34 l0 a2).f1)) ∧ w'.cell? (ad310.add ((a1).toNat * 3)) = some (.int .i64 ((rd_T34 l0 a1).f0.f0)) ∧ w'.cell? ⟨(ad310.add ((a1).toNat * 3)).block, (ad310.add ((a1).toNat * 3)).off + 1, none⟩ = some (.int .i64 ((rd_T34 l0 a1).f0.f1)) ∧ w'.cell? ⟨(ad310.add ((a1).toNat * 3)).block, (ad310.add ((a1).toNat * 3)).off + 2, none⟩ = some (.int .i64 ((rd_T34 l0 a1).f1))) (ds := [13, 15]) #[false, false, false, false, false, false, false, false, false, false, false, false, false, false, false, false] (by kernel_rfl) rfl rfl ⟨((HB.out.cell (World.block_lt_of_cell? w _ hw310_0)).trans hw310_0), ((HB.out.cell (World.block_lt_of_cell? w _ hw310_1)).trans hw310_1), ((HB.out.cell (World.block_lt_of_cell? w _ hw310_2)).trans hw310_2), ((HB.out.cell (World.block_lt_of_cell? w _ hw311_0)).trans hw311_0), ((HB.out.cell (World.block_lt_of_cell? w _ hw311_1)).trans hw311_1), ((HB.out.cell (World.block_lt_of_cell? w _ hw311_2)).trans hw311_2)⟩ (fun hHeld => ?_); refine with_tabW tailwaterref18_swapped.tab2 tailwaterref18_swapped.bits2 (fun HT_ HW_ => ?_)
                generalize w15.drew = w16 at HO309 HB GG10 HQ17 HQ18 hf10_0 hf10_1 hf10_2 hf12_0 hf12_1 hf12_2 hf18_0 hf18_1 hf18_2 hx10_0 hx10_1 hx10_2 hx12_0 hx12_1 hx12_2 hx18_0 hx18_1 hx18_2 hx310_0 hx310_1 hx310_2 hx311_0 hx311_1 hx311_2 hHeld ⊢
                refine pure_ (i := 0) (N := some 11) (v := ?_) (a' := ?_) #[true, false, false, false, false, false, false, false, false, false, false, false, false, false, false, false] rfl rfl (any_of HT_.out (by kernel_rfl)) (fun _ _ _ h => h) (Or.inl ⟨by rfl, ?_⟩) ?_ ?_
                rotate_left
                · intro w'
                  go_simp
                  with_reducible rfl
                rotate_left
                · simp only [Act.put, List.setIfInBounds_toArray, List.set_cons_zero, List.set_cons_succ, i64_w, i32_w]
                  rfl
                refine pure_ (i := 1) (N := some 12) (v := ?_) (a' := ?_) #[true, true, false, false, false, false, false, false, false, false, false, false, false, false, false, false] rfl rfl (any_of HT_.out (by kernel_rfl)) (fun _ _ _ h => h) (Or.inl ⟨by rfl, ?_⟩) ?_ ?_
                rotate_left
                · intro w'
                  go_simp
                  with_reducible rfl
                rotate_left
                · simp only [Act.put, List.setIfInBounds_toArray, List.set_cons_zero, List.set_cons_succ, i64_w, i32_w]
                  rfl
                refine pure_ (i := 2) (N := some 13) (v := ?_) (a' := ?_) #[true, true, true, false, false, false, false, false, false, false, false, false, false, false, false, false] rfl rfl (any_of HT_.out (by kernel_rfl)) (fun _ _ _ h => h) (Or.inl ⟨by rfl, ?_⟩) ?_ ?_
                rotate_left
                · intro w'
                  go_simp
                  with_reducible rfl
                rotate_left
                · simp only [Act.put, List.setIfInBounds_toArray, List.set_cons_zero, List.set_cons_succ, i64_w, i32_w]
                  rfl
                refine pure_ (i := 3) (N := some 14) (v := ?_) (a' := ?_) #[true, true, true, true, false, false, false, false, false, false, false, false, false, false, false, false] rfl rfl (any_of HT_.out (by kernel_rfl)) (fun _ _ _ h => h) (Or.inl ⟨by rfl, ?_⟩) ?_ ?_
                rotate_left
                · intro w'
                  go_simp
                  with_reducible rfl
                rotate_left
                · simp only [Act.put, List.setIfInBounds_toArray, List.set_cons_zero, List.set_cons_succ, i64_w, i32_w]
                  rfl
                refine pure_ (i := 4) (N := some 15) (v := ?_) (a' := ?_) #[true, true, true, true, true, false, false, false, false, false, false, false, false, false, false, false] rfl rfl (any_of HT_.out (by kernel_rfl)) (fun _ _ _ h => h) (Or.inl ⟨by rfl, ?_⟩) ?_ ?_
                rotate_left
                · intro w'
                  go_simp
                  with_reducible rfl
                rotate_left
                · simp only [Act.put, List.setIfInBounds_toArray, List.set_cons_zero, List.set_cons_succ, i64_w, i32_w]
                  rfl
                refine pure_ (i := 5) (N := some 16) (v := ?_) (a' := ?_) #[true, true, true, true, true, true, false, false, false, false, false, false, false, false, false, false] rfl rfl (any_of HT_.out (by kernel_rfl)) (fun _ _ _ h => h) (Or.inl ⟨by rfl, ?_⟩) ?_ ?_
                rotate_left
                · intro w'
                  go_simp
                  with_reducible rfl
                rotate_left
                · simp only [Act.put, List.setIfInBounds_toArray, List.set_cons_zero, List.set_cons_succ, i64_w, i32_w]
                  rfl
                refine pure_ (i := 6) (N := some 17) (v := ?_) (a' := ?_) #[true, true, true, true, true, true, true, false, false, false, false, false, false, false, false, false] rfl rfl (any_of HT_.out (by kernel_rfl)) (fun _ _ _ h => h) (Or.inl ⟨by rfl, ?_⟩) ?_ ?_
                rotate_left
                · intro w'
                  go_simp
                  with_reducible rfl
                rotate_left
                · simp only [Act.put, List.setIfInBounds_toArray, List.set_cons_zero, List.set_cons_succ, i64_w, i32_w]
                  rfl
                refine pure_ (i := 8) (N := some 19) (v := ?_) (a' := ?_) #[true, true, true, true, true, true, true, false, true, false, false, false, false, false, false, false] rfl rfl (any_of HT_.out (by kernel_rfl)) (fun _ _ _ h => h) (Or.inl ⟨by rfl, ?_⟩) ?_ ?_
                rotate_left
                · intro w'
                  go_simp
                  with_reducible rfl
                rotate_left
                · simp only [Act.put, List.setIfInBounds_toArray, List.set_cons_zero, List.set_cons_succ, i64_w, i32_w]
                  rfl
                refine pure_ (i := 9) (N := some 20) (v := ?_) (a' := ?_) #[true, true, true, true, true, true, true, false, true, true, false, false, false, false, false, false] rfl rfl (any_of HT_.out (by kernel_rfl)) (fun _ _ _ h => h) (Or.inl ⟨by rfl, ?_⟩) ?_ ?_
                rotate_left
                · intro w'
                  go_simp
                  with_reducible rfl
                rotate_left
                · simp only [Act.put, List.setIfInBounds_toArray, List.set_cons_zero, List.set_cons_succ, i64_w, i32_w]
                  rfl
                refine pure_ (i := 10) (N := some 21) (v := ?_) (a' := ?_) #[true, true, true, true, true, true, true, false, true, true, true, false, false, false, false, false] rfl rfl (any_of HT_.out (by kernel_rfl)) (fun _ _ _ h => h) (Or.inl ⟨by rfl, ?_⟩) ?_ ?_
                rotate_left
                · intro w'
                  go_simp
                  with_reducible rfl
                rotate_left
                · simp only [Act.put, List.setIfInBounds_toArray, List.set_cons_zero, List.set_cons_succ, i64_w, i32_w]
                  rfl
                refine take_ (i := 7) (N := some 18) (v := ?_) (a' := ?_) #[true, true, true, true, true, true, true, true, true, true, true, false, false, false, false, false] rfl rfl (take_ofW HT_.out HW_.out (by kernel_rfl)) (fun _ _ _ h => h) (Or.inl ⟨by rfl, ?_⟩) hHeld ?_ ?_
                rotate_left
                · rintro w' ⟨s0, s1, s2, s3, s4, s5⟩
                  go_simp
                  with_reducible rfl
                rotate_left
                · simp only [Act.put, List.setIfInBounds_toArray, List.set_cons_zero, List.set_cons_succ, i64_w, i32_w]
                  rfl
                refine take_ (i := 11) (N := some 22) (v := ?_) (a' := ?_) #[true, true, true, true, true, true, true, true, true, true, true, true, false, false, false, false] rfl rfl (take_ofW HT_.out HW_.out (by kernel_rfl)) (fun _ _ _ h => h) (Or.inl ⟨by rfl, ?_⟩) hHeld ?_ ?_
                rotate_left
                · rintro w' ⟨s0, s1, s2, s3, s4, s5⟩
                  go_simp
                  with_reducible rfl
                rotate_left
                · simp only [Act.put, List.setIfInBounds_toArray, List.set_cons_zero, List.set_cons_succ, i64_w, i32_w]
                  rfl
                refine pure_ (i := 12) (N := some 23) (v := ?_) (a' := ?_) #[true, true, true, true, true, true, true, true, true, true, true, true, true, false, false, false] rfl rfl (any_of HT_.out (by kernel_rfl)) (fun _ _ _ h => h) (Or.inl ⟨by rfl, ?_⟩) ?_ ?_
                rotate_left
                · intro w'
                  go_simp
                  with_reducible rfl
                rotate_left
                · simp only [Act.put, List.setIfInBounds_toArray, List.set_cons_zero, List.set_cons_succ, i64_w, i32_w]
                  rfl
                refine last_ (i := 13) (N := none) #[true, true, true, true, true, true, true, true, true, true, true, true, true, true, false, false] rfl rfl (one_of HT_.out (by kernel_rfl)) (by decide) (fun K hK => ?_)
                refine skip_ (w1 := ?_) (by rfl) rfl ?_ ?_
                rotate_left
                · go_simp
                  rfl
                refine hK.out _ _ ?_
                clear hK K
                refine pure_ (i := 14) (N := some 24) (v := ?_) (a' := ?_) #[true, true, true, true, true, true, true, true, true, true, true, true, true, true, true, false] rfl rfl (any_of HT_.out (by kernel_rfl)) (fun _ _ _ h => h) (Or.inl ⟨by rfl, ?_⟩) ?_ ?_
                rotate_left
                · intro w'
                  go_simp
                  with_reducible rfl
                rotate_left
                · simp only [Act.put, List.setIfInBounds_toArray, List.set_cons_zero, List.set_cons_succ, i64_w, i32_w]
                  rfl
                refine last_ (i := 15) (N := none) #[true, true, true, true, true, true, true, true, true, true, true, true, true, true, true, true] rfl rfl (one_of HT_.out (by kernel_rfl)) (by decide) (fun K hK => ?_)
                refine skip_ (w1 := ?_) (by rfl) rfl ?_ ?_
                rotate_left
                · go_simp
                  rfl
                refine hK.out _ _ ?_
                clear hK K
                refine done_ (done_of HT_.out (by kernel_rfl)) ?_
                try go_wp2
                go_ret
                exact ⟨_, by first | rfl | (simp [errW_none, errW_some] <;> rfl) | (simp [*, errW_none, errW_some] <;> rfl), by (with_reducible repeat (first | apply Kd.R_alloc | apply Kd.R_drewN | apply Kd.R_drew)); exact HQ18.out, by repeat (first | (with_reducible first | exact HB.out | apply below_alloc | apply pw_below_drewN | apply below_drew1 | refine below_set ?_ GB10.out | refine below_set ?_ GB10.out | refine below_set ?_ GB10.out | refine below_set ?_ GB10.out | refine below_set ?_ GB10.out | refine below_set ?_ GB10.out) | exact HB.out)⟩
              · rw [if_neg c11] at H
                exact absurd H (by simp)
            · rw [if_neg c9] at H
              exact absurd H (by simp)
          · rw [if_neg c8] at H
            exact absurd H (by simp)
        · rw [if_neg c7] at H
          exact absurd H (by simp)
      · rw [if_neg c6] at H
        exact absurd H (by simp)
    · rw [if_neg c5] at H
      exact absurd H (by simp)
  · rw [if_neg c4] at H
    exact absurd H (by simp)
end Go.Proofs.Ytdhajbodlpeheaa.Q
