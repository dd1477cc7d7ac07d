/- TaskPends. -/
import Derived.Test.YtedhhjmjlpnlpaaY4
import Derived.Test.YtedhhjmjlpnlpaaXG
namespace Go.Proofs.Ytedhhjmjlpnlpaa.VW
open Go Go.RowKit
set_option linter.unusedVariables false
set_option linter.unusedSimpArgs false

@[simp] theorem all_take_map {α : Type} (f : α → List AV) (p : List AV → Bool) (l : List α) (n : Nat) (h : ∀ x, p (f x) = true) : ((l.map f).take n).all p = true := by
  rw [List.all_eq_true]; intro x hx; obtain ⟨y, _, rfl⟩ := List.mem_map.1 (List.mem_of_mem_take hx); exact h y
@[simp] theorem all_drop_map {α : Type} (f : α → List AV) (p : List AV → Bool) (l : List α) (n : Nat) (h : ∀ x, p (f x) = true) : ((l.map f).drop n).all p = true := by
  rw [List.all_eq_true]; intro x hx; obtain ⟨y, _, rfl⟩ := List.mem_map.1 (List.mem_of_mem_drop hx); exact h y
@[simp] theorem immR_take_map {α : Type} (f : α → List AV) (l : List α) (n : Nat) (h : ∀ x, immL (f x) = true) : immR ((l.map f).take n) = true := by
  rw [immR_iff]; intro x hx; obtain ⟨y, _, rfl⟩ := List.mem_map.1 (List.mem_of_mem_take hx); exact h y
@[simp] theorem immR_drop_map {α : Type} (f : α → List AV) (l : List α) (n : Nat) (h : ∀ x, immL (f x) = true) : immR ((l.map f).drop n) = true := by
  rw [immR_iff]; intro x hx; obtain ⟨y, _, rfl⟩ := List.mem_map.1 (List.mem_of_mem_drop hx); exact h y
theorem allL_take {α : Type} {p : α → Bool} {l : List α} (n : Nat) (h : allL p l = true) : allL p (l.take n) = true := by
  unfold allL at *
  rw [List.all_eq_true] at *
  exact fun x hx => h x (List.mem_of_mem_take hx)
theorem allL_app {α : Type} {p : α → Bool} {l m : List α} (h : allL p l = true) (k : allL p m = true) : allL p (l ++ m) = true := by
  unfold allL at *; rw [List.all_append, h, k]; rfl
theorem okT_pend {t : Tsk} {l : List Snd} (h : okT t = true) (hl : allL okSnd l = true) (hn : t.pd.length + l.length ≤ 4000) : okT { t with pd := t.pd ++ l } = true := by
  have h1 := allL_app (okT_pd h).1 hl
  unfold okT okNum okSiz at h ⊢
  simp only [Bool.and_eq_true, decide_eq_true_eq] at h ⊢
  have : ((t.pd ++ l).length : Int) ≤ 4000 := by rw [List.length_append]; omega
  grind
theorem pend_ok {t : Tsk} {l : List Snd} (h : okT t = true) (hl : allL okSnd l = true) (hn : t.pd.length + l.length ≤ 4000) : sndE t l = 0 ∧ pendT t l = { t with pd := t.pd ++ l } := by
  have e : sndE t l = 0 := by unfold sndE; rw [if_pos h, if_pos hl, if_neg (by omega)]
  exact ⟨e, by unfold pendT; rw [if_pos e]⟩
@[simp] def S19 : Spec
  | [.agg ct, .sl _ cl, .int .i64 n] => some ((kTsk ct = true) ∧ (cl.all kSnd = true ∧ cl.length ≤ 9223372036854775807) ∧ (bL (uTsk ct)), .bool true, [])
  | _ => none
set_option maxHeartbeats 8000000 in
set_option maxRecDepth 100000 in
theorem S19_ok : SOK 19 S19 := by
  intro xs q r bs h hq
  unfold S19 at h
  split at h <;> cases h
  rename_i ct exl cl n
  obtain ⟨hq1, hq2, hq3⟩ := hq
  refine FS_wk ?_
  simp only [List.map_cons, List.map_nil, wk2, wk1]
  rw [kTsk_wk hq1]
  generalize uTsk ct = t at *
  obtain ⟨l, rfl⟩ := rows_ex (fun c hc => kSnd_ok hc) hq2.1
  have hll := hq2.2
  simp only [List.length_map] at hll
  try simp only [List.map_map, ue_Rec, ue_Ev, ue_Row, ue_Msg, ue_Snd, ue_Ent, ue_Int, ue_Que, List.map_id] at *
  refine fs_of_awp mixed (sg_ok (gc_ok S24_ok (gc_ok S25_ok (gc_ok S27_ok (gc_ok S41_ok (gc_ok S37_ok (gc_ok S23_ok (gc_ok S31_ok noS_ok)))))))) Try.func19 rfl (ent_of Try.func19 rfl rfl) [] (by rw [Try.ntmps19]; exact Nat.le_of_ble_eq_true rfl) (by simp) (by simp) (by simp) true ?_
  rw [Try.ntmps19, Try.results19]
  obtain ⟨y1, y2, y3, y4, y5, y6⟩ := hq3
  by_cases hg : grT t = true
  · simp [y1, y2, y3, y4, y5, y6, hg]
  simp only [Bool.not_eq_true] at hg
  have hb0 := (grT_b hg).1
  simp only [bT] at hb0
  obtain ⟨x1, x2, x3, x4, x5, x6⟩ := hb0
  by_cases hok : okT t = true
  rotate_left
  · simp [y1, y2, y3, y4, y5, y6, x1, x2, x3, x4, x5, x6, hg, hok]
  by_cases g1 : 100 < (l.length : Int)
  · simp [y1, y2, y3, y4, y5, y6, x1, x2, x3, x4, x5, x6, hg, hok, g1, hll]
  by_cases g2 : n < 0
  · simp [y1, y2, y3, y4, y5, y6, x1, x2, x3, x4, x5, x6, hg, hok, g1, hll, g2]
  by_cases g3 : (l.length : Int) < n
  · simp [y1, y2, y3, y4, y5, y6, x1, x2, x3, x4, x5, x6, hg, hok, g1, hll, g2, g3]
  have hl5 : l.length ≤ 100000 := by omega
  have hpd := (okT_pd hok).2
  by_cases e0 : sndE t l = 0
  rotate_left
  · simp [y1, y2, y3, y4, y5, y6, x1, x2, x3, x4, x5, x6, hg, hok, g1, hll, g2, g3, hl5, e0]
    refine awp_loop (fun σ => ∃ i : Nat, i ≤ l.length ∧ σ.T 1 = .sl false (l.map eSnd) ∧ σ.T 3 = .ptr (3, 0) 1 0 ∧ σ.H (3, 0) = some (.var (eTsk t)) ∧ σ.γ (3, 0) = 1 ∧ σ.T 7 = .bool true ∧ σ.T 9 = .int .i64 (sndE t l) ∧ σ.T 11 = .int .i64 i ∧ σ.T 10 = .bool (allL okSnd (l.take i))) (fun σ => l.length - (ival (σ.T 11)).toNat) ⟨0, by simp⟩ ?_
    rintro σ ⟨i, hi, h1, h3, hH3, hg3, h7, h9, h11, h10⟩ J hJ
    simp only [eTsk] at hH3
    by_cases hlt : i < l.length
    · have hw : IntKind.i64.wrap ((i : Int) + 1) = (i : Int) + 1 := wrap_i64 _ (by omega) (by omega)
      have hs := allL_succ (p := okSnd) hlt
      cases hb : allL okSnd (l.take i) with
      | false =>
        rw [hb] at h10 hs
        simp [h1, h3, hH3, hg3, h7, h9, h11, h10, hlt, getD_map, getQ_map, hw]
        exact hJ _ ⟨i + 1, hlt, by simp [h1], by simp [h3], by simp [hH3], by simp [hg3], by simp [h7], by simp [h9], by simp, by simp [hs]⟩ (by simp [h11]; omega)
      | true =>
        rw [hb, Bool.true_and] at hs
        rw [hb] at h10
        simp [h1, h3, hH3, hg3, h7, h9, h11, h10, hlt, getD_map, getQ_map, hw]
        (repeat' first | refine And.intro ?_ ?_ | intro _) <;> exact hJ _ ⟨i + 1, hlt, by simp [h1], by simp [h3], by simp [hH3], by simp [hg3], by simp [h7], by simp [h9], by simp, by simp [hs]; unfold okSnd; grind⟩ (by simp [h11]; omega)
    · have hall : allL okSnd (l.take i) = allL okSnd l := by rw [List.take_of_length_le (by omega)]
      rw [hall] at h10
      have hw : IntKind.i64.wrap ((l.length : Int) + t.pd.length) = (l.length : Int) + t.pd.length := wrap_i64 _ (by omega) (by omega)
      have hE : sndE t l = if allL okSnd l then (if 4000 < (t.pd.length : Int) + l.length then 4 else 0) else 8 := by unfold sndE; rw [if_pos hok]
      cases hb : allL okSnd l with
      | false =>
        rw [hb] at h10 hE
        simp at hE
        rw [hE] at h9
        simp [h1, h3, hH3, hg3, h7, h9, h11, h10, hlt, hw]
      | true =>
        rw [hb] at h10 hE
        have h4 : 4000 < (t.pd.length : Int) + l.length := by
          by_cases h : 4000 < (t.pd.length : Int) + l.length
          · exact h
          · exfalso; apply e0; rw [hE]; simp [h]
        have h4' : 4000 < (l.length : Int) + t.pd.length := by omega
        have hE4 : sndE t l = 4 := by rw [hE]; simp [h4]
        rw [hE4] at h9
        simp [h1, h3, hH3, hg3, h7, h9, h11, h10, hlt, hw, h4']
  · have hls : allL okSnd l = true := by
      unfold sndE at e0; grind
    have hsz : t.pd.length + l.length ≤ 4000 := by
      unfold sndE at e0; rw [if_pos hok, if_pos hls] at e0
      by_cases h : 4000 < (t.pd.length : Int) + l.length
      · rw [if_pos h] at e0; exact absurd e0 (by decide)
      · omega
    have k1 := pend_ok hok hls hsz
    have hn0 : 0 ≤ n := by omega
    have hn1 : n ≤ (l.length : Int) := by omega
    have hk : n.toNat ≤ l.length := by omega
    have ht := allL_take n.toNat hls
    have hd := allL_drop n.toNat hls
    have k2 := pend_ok hok ht (by simp; omega)
    have k3 := okT_pend hok ht (by simp; omega)
    have k4 := pend_ok k3 hd (by simp; omega)
    have hcat : t.pd ++ l.take n.toNat ++ l.drop n.toNat = t.pd ++ l := by rw [List.append_assoc, List.take_append_drop]
    simp only at k4
    rw [hcat] at k4
    have hlen1 : (l.take n.toNat).length ≤ 100000 := by simp; omega
    have hlen2 : (l.drop n.toNat).length ≤ 100000 := by simp; omega
    have hlen3 : (t.pd ++ l).length ≤ 100000 := by simp; omega
    have hlen4 : (t.pd ++ l.take n.toNat).length ≤ 100000 := by simp; omega
    simp [y1, y2, y3, y4, y5, y6, x1, x2, x3, x4, x5, x6, hg, hok, g1, hll, g2, g3, hl5, e0, k1.2, k2.1, k2.2, k4.1, k4.2, hn0, hn1]
    all_goals ((repeat' first | refine And.intro ?_ ?_ | intro _) <;> first | assumption | omega | with_reducible rfl | (rename_i x hx; obtain ⟨y, _, rfl⟩ := List.mem_map.1 (List.mem_of_mem_take hx); rfl) | (rename_i x hx; obtain ⟨y, _, rfl⟩ := List.mem_map.1 (List.mem_of_mem_drop hx); rfl) | (refine (?_ : chkD _ _ = true); rfl))

end Go.Proofs.Ytedhhjmjlpnlpaa.VW
