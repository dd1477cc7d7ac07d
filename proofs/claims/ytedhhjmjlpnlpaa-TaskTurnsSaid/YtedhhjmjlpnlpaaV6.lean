/- The walk over values: operations that make or write memory. -/
import Derived.Test.YtedhhjmjlpnlpaaV5
import Derived.Great.BuildSlice
namespace Go.Proofs.Ytedhhjmjlpnlpaa.VW
open Go Go.RowKit
set_option linter.unusedVariables false
set_option linter.unusedSimpArgs false
section
variable {P : Program} {S : Sg} {w0 w w' : World} {F0 F F' : Nat → Prop} {E E' : Key → Inf} {N : Nat} {σ σ' : St} {a : Act} {k kb : Key} {g : Bool}

theorem below_alloc1 (w : World) (o : Obj) : Below w.heap.size w (w.alloc o) := (Below.refl _ _).alloc (Nat.le_refl _) o
theorem range_alloc (w : World) (vs : Array Value) (t : TypeId) : (w.alloc (.cells vs t)).rangeAt w.heap.size 0 vs.toList := fun j v hj => by
  rw [Nat.zero_add, World.cell?_alloc_new]; simpa using hj
theorem BX_alloc (w : World) (vs : Array Value) (t n : Nat) (h : n ≤ vs.size) : BX (w.alloc (.cells vs t)) w.heap.size n := ⟨vs, t, heap_alloc_new w _, h⟩

/-- one key has a new block. -/
theorem Rl.fresh (h : Rl w0 F0 N σ a w F E) {B : Blk} {inf : Inf} (hb : Below w.heap.size w w') (hg : (E k).gen < inf.gen) (hbl : w.heap.size ≤ inf.b)
    (hB : ∀ E', (∀ q, E' q = E q ∨ (E q).gen < (E' q).gen) → E' k = inf → RB w' F E' w.heap.size k B) :
    Rl w0 F0 N (σ.wr1 (k, inf.gen, some B)) a w' F (updK E k inf) := by
  have hE : ∀ q, updK E k inf q = E q ∨ (E q).gen < (updK E k inf q).gen := by
    intro q; simp only [updK]; split
    · rename_i e; subst e; exact .inr hg
    · exact .inl rfl
  have hbs := hb.size
  refine h.grow hb (fun _ h => h) (fun b hF => Nat.lt_of_lt_of_le (h.bnd b hF) hbs) (fun _ h _ => h) rfl hE ?_ ?_ ?_
  · intro q; simp only [updK, St.wr1]; split
    · rfl
    · exact h.gen q
  · intro q B' hq
    simp only [St.wr1, updK] at hq
    split at hq
    · rename_i e; cases hq; subst e; exact .inr (hB _ hE (by simp [updK]))
    · rename_i e; left; exact ⟨hq, by simp [updK, e]⟩
  · intro q q' ho ho' h1 h2 e
    have key : ∀ q, ownB (updK E k inf q).al ((σ.wr1 (k, inf.gen, some B)).H q) → w.heap.size ≤ (updK E k inf q).b → q = k := by
      intro q hq hs
      by_cases e : q = k
      · exact e
      · simp only [updK, St.wr1, if_neg e] at hq hs
        have := (h.own hq).2.2
        omega
    rw [key q ho h1, key q' ho' h2]

theorem new_ok (h : Rl w0 F0 N σ a w F E) {cs : List AV} {vs : Array Value} (hr : RA w F E cs vs.toList) (t : TypeId) (p : Prop) {s : Sem Value}
    (hs : s.run P w = .ok (.pointer (some ⟨w.heap.size, 0, none⟩)) (w.alloc (.cells vs t))) :
    Good P w0 F0 N σ a w (oNew g σ k p cs) s := by
  have hb := below_alloc1 w (.cells vs t)
  refine ⟨_, _, F, updK E k ⟨w.heap.size, σ.γ k + 1, 0, 0, 0, false⟩, hs, ?_, ?_⟩
  · refine h.fresh (inf := ⟨w.heap.size, σ.γ k + 1, 0, 0, 0, false⟩) hb (by rw [h.gen]; exact Nat.lt_succ_self _) (Nat.le_refl _) ?_
    intro E' hE hk
    rw [RB, hk]
    refine ⟨Nat.le_refl _, fun hF => Nat.lt_irrefl _ (h.bnd _ hF), BX_alloc w vs t _ (by have := RA_length hr; simp at this; omega), ?_⟩
    exact RC_of_range (RA_mono (fun _ h => h) (fun b o hF => hb.cell (p := ⟨b, o, none⟩) (h.bnd b hF)) hE _ _ hr) (range_alloc w vs t)
  · show R _ _ _ (.ptr _ _ _) _
    rw [R]; simp [updK, Value.oneCell']
theorem alloc_ok (hS : OK P S) (h : Rl w0 F0 N σ a w F E) (hg : g = true) {t : Nat} (hp : (oAlloc S g σ k t).pre) :
    Good P w0 F0 N σ a w (oAlloc S g σ k t) (Instr.alloc t true (.tuple #[])) := by
  unfold oAlloc at *
  split at hp
  · rename_i i ei
    obtain ⟨inf, d, z, hi, hu, h1, h2, h3, h3', hz, hzz, hzs⟩ := tOK_out (hS.τ _ _ ei)
    refine new_ok h (vs := z.cells) (zOK_RA hzz) t True ?_
    simp [Instr.alloc, zeroValue, typeInfo, hi, hz, newVar, newRow]
  · exact hp.elim
theorem box_ok (h : Rl w0 F0 N σ a w F E) (hg : g = true) {t : Nat} {x : Operand} (hp : (oBox g σ k x).pre) :
    Good P w0 F0 N σ a w (oBox g σ k x) (Instr.box t (a.eval x)) := by
  unfold oBox at *
  obtain ⟨_, p1, p2⟩ := hp
  obtain ⟨vs, hv, hr, _⟩ := vals_ok p2 (h.sv hg p1)
  refine new_ok h (vs := vs.toArray) (by simpa using hr) t _ ?_
  simp [Instr.box, newVar, newRow, hv]

/-! slices written out -/
theorem setR_row {sz : Nat} : ∀ {rs : List (List AV)} {i : Nat} {c : List AV}, (∀ r ∈ rs, r.length = sz) → c.length = sz → i < rs.length → (rs.set i c).flatten = setR rs.flatten (i * sz) c
  | [], i, c, _, _, h => by simp at h
  | r :: rs, 0, c, h1, h2, h => by
    have := h1 r (by simp)
    simp [setR, h2, ← this]
  | r :: rs, i + 1, c, h1, h2, h => by
    have hr := h1 r (by simp)
    rw [List.set_cons_succ, List.flatten_cons, List.flatten_cons, setR_row (fun x hx => h1 x (by simp [hx])) h2 (by simpa using h)]
    simp only [setR, h2, Nat.add_mul, Nat.one_mul]
    rw [← hr, Nat.add_comm (i * r.length) r.length, Nat.add_assoc, List.drop_append, List.take_append]
    have e1 : r.take (r.length + i * r.length) = r := List.take_of_length_le (by omega)
    have e2 : r.drop (r.length + (i * r.length + r.length)) = [] := List.drop_eq_nil_of_le (by omega)
    rw [e1, e2, List.nil_append, List.append_assoc]
    congr 3
    · congr 1; omega
    · congr 2; omega
theorem rowsF_ok (h : Rl w0 F0 N σ a w F E) (hg : g = true) (sz : Nat) : ∀ (ps : List (Nat × Operand)) (rs : List (List AV)) (vs : Array Value), (∀ r ∈ rs, r.length = sz) → RA w F E rs.flatten vs.toList →
    (rowsF sz g σ ps rs).p → ∃ us : Array Value, Instr.fill (fun i => some (i * sz, sz)) vs (ps.map fun p => (p.1, a.eval p.2)) = some us ∧ RA w F E (rowsF sz g σ ps rs).l.flatten us.toList ∧
      (∀ r ∈ (rowsF sz g σ ps rs).l, r.length = sz) ∧ (rowsF sz g σ ps rs).l.length = rs.length
  | [], rs, vs, hl, hr, hp => ⟨vs, rfl, hr, hl, rfl⟩
  | (i, x) :: r, rs, vs, hl, hr, hp => by
    rw [rowsF] at hp ⊢
    obtain ⟨⟨p1, p2, p3, p4⟩, p5⟩ := hp
    obtain ⟨us, hu, hra0, _⟩ := vals_ok p2 (h.sv hg p1)
    have hra := RA_wk1 hra0
    have p3 : ((cellsOf (strip g (σ.ev x)).v).map wk1).length = sz := by rw [List.length_map]; exact p3
    have hlu := RA_length hra
    have hlv := RA_length hr
    have hfl := flatten_length hl
    rw [hfl, Array.length_toList] at hlv
    have hsz : (a.eval x).cells.size = sz := by rw [hu]; simp [hlu, p3]
    have hfit : i * sz + sz ≤ vs.size := by
      have h1 : (i + 1) * sz ≤ rs.length * sz := Nat.mul_le_mul_right _ p4
      rw [Nat.add_mul, Nat.one_mul] at h1
      omega
    have hset := foldSetA (i * sz) us vs (by rw [hlu, p3]; exact hfit)
    have hl' : ∀ r ∈ rs.set i ((cellsOf (strip g (σ.ev x)).v).map wk1), r.length = sz := by
      intro q hq
      rcases List.mem_or_eq_of_mem_set hq with hq | rfl
      · exact hl q hq
      · exact p3
    obtain ⟨fs, hf1, hf2, hf3, hf4⟩ := rowsF_ok h hg sz r (rs.set i ((cellsOf (strip g (σ.ev x)).v).map wk1)) (us.toArray.zipIdx.foldl (fun cs (c, j) => cs.setIfInBounds (i * sz + j) c) vs) hl'
      (by rw [hset, setR_row hl p3 p4]; exact RA_setR hr hra (by rw [hfl, p3]; omega)) p5
    refine ⟨fs, ?_, hf2, hf3, by rw [hf4]; simp⟩
    rw [List.map_cons, Instr.fill]
    simp only [hu]
    simpa [hsz, ← hu, hfit] using hf1
theorem madeCells_flat (z : Array Value) : ∀ n, (madeCells z (n * z.size)).toList = (List.replicate n z.toList).flatten
  | 0 => by simp [madeCells]
  | n + 1 => by
    rw [List.replicate_succ', List.flatten_append, List.flatten_singleton, ← madeCells_flat z n]
    unfold madeCells
    rw [Nat.add_mul, Nat.one_mul]
    apply List.ext_getElem
    · simp
    · intro i h1 h2
      simp only [Array.toList_map, Array.toList_range, List.getElem_map, List.getElem_range]
      by_cases hi : i < n * z.size
      · rw [List.getElem_append_left (by simpa using hi)]; simp
      · rw [List.getElem_append_right (by simpa using hi)]
        simp at h1
        have hlt : i - n * z.size < z.size := by omega
        have : i % z.size = i - n * z.size := by
          conv => lhs; rw [show i = (i - n * z.size) + z.size * n by rw [Nat.mul_comm z.size n]; omega]
          rw [Nat.add_mul_mod_self_left, Nat.mod_eq_of_lt hlt]
        simp [this, hlt]
theorem RA_replF {zs : List AV} {vs : List Value} (hr : RA w F E zs vs) : ∀ n, RA w F E (List.replicate n zs).flatten (List.replicate n vs).flatten
  | 0 => RA_nil
  | n + 1 => by
    rw [List.replicate_succ, List.flatten_cons, List.replicate_succ, List.flatten_cons]
    exact RA_append hr (RA_replF hr n)
theorem RA_madeCells {z : Array Value} {zs : List AV} (hr : RA w F E zs z.toList) (n : Nat) : RA w F E (List.replicate n zs).flatten (madeCells z (n * z.size)).toList := by
  rw [madeCells_flat]; exact RA_replF hr n
theorem repl_len {zs : List AV} {sz : Nat} (h : zs.length = sz) (n : Nat) : ∀ r ∈ List.replicate n zs, r.length = sz := fun r hr => by
  rw [(List.mem_replicate.1 hr).2]; exact h

theorem buildSlice_ok (hS : OK P S) (h : Rl w0 F0 N σ a w F E) (hg : g = true) {t len : Nat} {ps : List (Nat × Operand)} (hp : (oBuildSlice S g σ t len ps).pre) :
    Good P w0 F0 N σ a w (oBuildSlice S g σ t len ps) (Instr.buildSlice t len (ps.map fun p => (p.1, a.eval p.2)).toArray) := by
  unfold oBuildSlice at *
  split at hp
  · rename_i e _ _ _ et
    obtain ⟨inf, d, z, hi, hu, h1, h2, h3, h4⟩ := tOK_out (hS.τ _ _ et)
    obtain rfl := descOK_slice h3
    split at hp
    · rename_i ie ee
      obtain ⟨inf', d', z', hi', hu', hs', hb', hd', hag', hz', hzz', hzs'⟩ := tOK_out (hS.τ _ _ ee)
      obtain ⟨p1, p2⟩ := hp
      have hzl : (ie.zero.map wk1).length = ie.size := by have := (zOK_imm hzz').2.2; simp at this; rw [List.length_map]; omega
      have hz0 : RA w F E (ie.zero.map wk1) z'.cells.toList := RA_wk1 (zOK_RA hzz')
      have hmade : RA w F E (List.replicate len (ie.zero.map wk1)).flatten (madeCells z'.cells (len * ie.size)).toList := by
        have := RA_madeCells hz0 len; rwa [hzs'] at this
      obtain ⟨us, hf, hr, hlr, hln⟩ := rowsF_ok h hg ie.size ps (List.replicate len (ie.zero.map wk1)) _ (repl_len hzl len) hmade p1
      have hrun : ∃ us' : Array Value, us'.toList = us.toList ∧ (Instr.buildSlice t len (ps.map fun p => (p.1, a.eval p.2)).toArray).run P w = .ok (.slice (some ⟨w.heap.size, 0, none⟩) len len) (w.alloc (.cells us' e)) := by
        by_cases h0 : len * ie.size = 0
        · refine ⟨us, rfl, ?_⟩
          have hm : madeCells z'.cells (len * ie.size) = #[] := by rw [h0]; simp [madeCells]
          rw [hm] at hf
          unfold Instr.buildSlice
          rw [← hs'] at hf h0
          rcases Nat.mul_eq_zero.1 h0 with h0 | h0
          · subst h0
            simp [run_underlying hu, sizeOf, typeInfo, zeroValue, hi', newRow]
            rw [show (Array.map (fun x => (default : Value)) (Array.range 0)) = #[] by simp, hf]
            simp
          · rw [h0] at hf
            simp [run_underlying hu, sizeOf, typeInfo, zeroValue, hi', newRow, h0]
            rw [show (Array.map (fun x => (default : Value)) (Array.range 0)) = #[] by simp]
            simp only [Nat.mul_zero] at hf
            rw [hf]
            simp
        · refine ⟨us, rfl, run_buildSlice w t e len _ us inf' z' hu hi' hz' (by rw [hs']; omega) (by rw [hs']; exact h0) (by rw [hs']; exact hf)⟩
      obtain ⟨us', hus, hrun⟩ := hrun
      have hb := below_alloc1 w (.cells us' e)
      have hF : ∀ b, F b → F b ∨ b = w.heap.size := fun b hb => .inl hb
      have hc : ∀ b o, F b → (w.alloc (.cells us' e)).cell? ⟨b, o, none⟩ = w.cell? ⟨b, o, none⟩ := fun b o hF => hb.cell (p := ⟨b, o, none⟩) (h.bnd b hF)
      refine ⟨_, _, fun b => F b ∨ b = w.heap.size, E, hrun, ?_, ?_⟩
      · refine h.grow (σ' := σ) hb hF ?_ ?_ rfl (fun _ => .inl rfl) h.gen (fun k B hk => .inl ⟨hk, rfl⟩) ?_
        · rintro b (hb' | rfl)
          · have := h.bnd b hb'; simp; omega
          · simp
        · rintro b (hb' | rfl) hlt
          · exact hb'
          · exact absurd hlt (Nat.lt_irrefl _)
        · intro q q' h1 h2 h3 h4 e
          have := (h.own h1).2.2; omega
      · show R _ _ _ (.sl _ _) _
        rw [R]
        refine ⟨_, _, _, rfl, by rw [hln]; simp, Nat.le_refl _, fun _ => rfl, fun hn => by simp at hn, .inr ⟨w.heap.size, 0, ie.size, rfl, .inr rfl, ?_⟩⟩
        rw [RR_flat]
        refine ⟨hlr, RC_of_range (RA_mono hF hc (fun _ => .inl rfl) _ _ hr) ?_⟩
        rw [← hus]; exact range_alloc w us' e
    · exact hp.elim
  · exact hp.elim

theorem make_ok (hS : OK P S) (h : Rl w0 F0 N σ a w F E) (hg : g = true) {t : Nat} {x y : Operand} (hp : (oMake S g σ k t x y).pre) :
    Good P w0 F0 N σ a w (oMake S g σ k t x y) (Instr.makeSlice t (a.eval x) (a.eval y)) := by
  unfold oMake at *
  split at hp
  · rename_i e _ _ _ et
    obtain ⟨inf, d, z, hi, hu, h1, h2, h3, h4⟩ := tOK_out (hS.τ _ _ et)
    obtain rfl := descOK_slice h3
    split at hp
    · rename_i ie ee
      obtain ⟨inf', d', z', hi', hu', hs', hb', hd', hag', hz', hzz', hzs'⟩ := tOK_out (hS.τ _ _ ee)
      split at hp
      · rename_i p kk n q kk' m e1 e2
        obtain ⟨_, p1, p2, rfl, p3, p4, p5, p6⟩ := hp
        have hx := h.sv hg (x := x) (by rw [e1]; exact p1)
        have hy := h.sv hg (x := y) (by rw [e2]; exact p2)
        rw [e1, R] at hx; rw [e2, R] at hy
        have hzl : (ie.zero.map wk1).length = ie.size := by have := (zOK_imm hzz').2.2; simp at this; rw [List.length_map]; omega
        have hz0 : RA w F E (ie.zero.map wk1) z'.cells.toList := RA_wk1 (zOK_RA hzz')
        have hmade : RA w F E (List.replicate m.toNat (ie.zero.map wk1)).flatten (madeCells z'.cells (m.toNat * ie.size)).toList := by
          have := RA_madeCells hz0 m.toNat; rwa [hzs'] at this
        have hrun := run_make w t e inf' z' hu hi' hz' kk kk' m m p3 (Int.le_refl _) (by rw [hb']; omega) (by omega)
        rw [hs'] at hrun
        have hb := below_alloc1 w (.cells (madeCells z'.cells (m.toNat * ie.size)) e)
        refine ⟨_, _, F, updK E k ⟨w.heap.size, σ.γ k + 1, m.toNat, ie.size, m.toNat, true⟩, by rw [hx, hy]; exact hrun, ?_, ?_⟩
        · refine h.fresh (inf := ⟨w.heap.size, σ.γ k + 1, m.toNat, ie.size, m.toNat, true⟩) hb (by rw [h.gen]; exact Nat.lt_succ_self _) (Nat.le_refl _) ?_
          intro E' hE hk
          rw [RB, hk]
          refine ⟨by simp, rfl, Nat.le_refl _, .inr ⟨rfl, Nat.le_refl _, fun hF => Nat.lt_irrefl _ (h.bnd _ hF), BX_alloc w _ e _ (by rw [size_madeCells]; exact Nat.le_refl _), ?_⟩⟩
          rw [RR_flat]
          exact ⟨repl_len hzl _, RC_of_range (RA_mono (fun _ h => h) (fun b o hF => hb.cell (p := ⟨b, o, none⟩) (h.bnd b hF)) hE _ _ hmade) (range_alloc w _ e)⟩
        · show R _ _ _ (.own _ _) _
          rw [R]; simp [updK, Value.oneCell']
      · exact hp.elim
    · exact hp.elim
  · exact hp.elim
end
end Go.Proofs.Ytedhhjmjlpnlpaa.VW
