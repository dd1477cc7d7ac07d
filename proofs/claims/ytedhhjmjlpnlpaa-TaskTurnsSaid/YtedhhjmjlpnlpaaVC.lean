/- The walk over values: what an operation looks at, and that it does the same where that is the same. -/
import Derived.Test.YtedhhjmjlpnlpaaVB
namespace Go.Proofs.Ytedhhjmjlpnlpaa.VW
open Go Go.RowKit
set_option linter.unusedVariables false
set_option linter.unusedSimpArgs false

def keys1 : AV → List Key
  | .own k _ => [k]
  | .ptr k _ _ => [k]
  | .eptr k _ _ _ => [k]
  | _ => []
def keys2 : AV → List Key
  | .agg cs => (cs.map keys1).flatten
  | x => keys1 x
def keysF : AV → List Key
  | .fn _ caps => (caps.map keys2).flatten
  | x => keys2 x
def strip1 : AV → AV
  | .opt _ v => v
  | v => v
def keysAV (x : AV) : List Key := keysF (strip1 x)
theorem strip_v (g : Bool) (x : AV) : (strip g x).v = strip1 x := by cases x <;> rfl

/-- Two states that an operand does not tell apart. -/
def AgK (σ σ' : St) (k : Key) : Prop := σ.H k = σ'.H k ∧ σ.γ k = σ'.γ k
def AgX (σ σ' : St) (x : Operand) : Prop := σ.ev x = σ'.ev x ∧ ∀ k ∈ keysAV (σ.ev x), AgK σ σ' k
section
variable {S : Sg} {fr d : Nat} {σ σ' : St} {g : Bool}
theorem AgX.k {x : Operand} (h : AgX σ σ' x) {k : Key} (hk : k ∈ keysF (strip g (σ.ev x)).v) : AgK σ σ' k := by
  rw [strip_v] at hk; exact h.2 k hk
theorem loc_load {t : Nat} {x : Operand} (h : AgX σ σ' x) : oLoad S g σ t x = oLoad S g σ' t x := by
  unfold oLoad
  rw [← h.1]
  split
  · split
    · rename_i e; have := h.k (g := g) (k := _) (by rw [e]; exact List.mem_singleton.2 rfl); rw [this.1, this.2]
    · rename_i e; have := h.k (g := g) (k := _) (by rw [e]; exact List.mem_singleton.2 rfl); rw [this.1, this.2]
    · rfl
    · rfl
  · rfl
theorem loc_store {t : Nat} {x y : Operand} (h : AgX σ σ' x) (h' : AgX σ σ' y) : oStore S g σ t x y = oStore S g σ' t x y := by
  unfold oStore
  rw [← h.1, ← h'.1]
  split
  · split
    · rename_i e; have := h.k (g := g) (k := _) (by rw [e]; exact List.mem_singleton.2 rfl); rw [this.1, this.2]
    · rename_i e; have := h.k (g := g) (k := _) (by rw [e]; exact List.mem_singleton.2 rfl); rw [this.1, this.2]
    · rfl
  · rfl
theorem loc_field {t f : Nat} {x : Operand} (h : AgX σ σ' x) : oField S g σ t x f = oField S g σ' t x f := by
  unfold oField
  rw [← h.1]
  split
  · split
    · split
      · rename_i e; have := h.k (g := g) (k := _) (by rw [e]; exact List.mem_singleton.2 rfl); rw [this.2]
      · rename_i e; have := h.k (g := g) (k := _) (by rw [e]; exact List.mem_singleton.2 rfl); rw [this.2]
      · rfl
      · rfl
    · rfl
  · rfl
theorem loc_index {t : Nat} {x i : Operand} (h : AgX σ σ' x) (h' : AgX σ σ' i) : oIndex S g σ t x i = oIndex S g σ' t x i := by
  unfold oIndex
  rw [← h.1, ← h'.1]
  split
  · split
    · split
      · split
        · rfl
        · rename_i e; have := h.k (g := g) (k := _) (by rw [e]; exact List.mem_singleton.2 rfl); rw [this.1, this.2]
        · rfl
      · rfl
    · rfl
  · split
    · split
      · split
        · rename_i e; have := h.k (g := g) (k := _) (by rw [e]; exact List.mem_singleton.2 rfl); rw [this.2]
        · rename_i e; have := h.k (g := g) (k := _) (by rw [e]; exact List.mem_singleton.2 rfl); rw [this.2]
        · rfl
        · rfl
      · rfl
    · rfl
  · rfl
theorem loc_bnd {n : Int} {x : Option Operand} (h : ∀ y, x = some y → AgX σ σ' y) : bnd g σ n x = bnd g σ' n x := by
  cases x with
  | none => rfl
  | some y => unfold bnd; simp only [(h y rfl).1]
theorem loc_slOut {Pp : Prop} {ex : Bool} {rs : List (List AV)} {ws : List Wr} {lo hi mx : Option Operand} (h1 : ∀ y, lo = some y → AgX σ σ' y) (h2 : ∀ y, hi = some y → AgX σ σ' y) (h3 : ∀ y, mx = some y → AgX σ σ' y) :
    slOut g σ Pp ex rs lo hi mx ws = slOut g σ' Pp ex rs lo hi mx ws := by
  unfold slOut
  rw [loc_bnd (g := g) (n := 0) h1, loc_bnd (g := g) (n := rs.length) h2, loc_bnd (g := g) h3]
theorem loc_slice {t : Nat} {x : Operand} {lo hi mx : Option Operand} (h : AgX σ σ' x) (h1 : ∀ y, lo = some y → AgX σ σ' y) (h2 : ∀ y, hi = some y → AgX σ σ' y) (h3 : ∀ y, mx = some y → AgX σ σ' y) :
    oSlice S g σ t x lo hi mx = oSlice S g σ' t x lo hi mx := by
  unfold oSlice
  simp only [fun Pp ex rs ws => loc_slOut (g := g) (Pp := Pp) (ex := ex) (rs := rs) (ws := ws) h1 h2 h3]
  rw [← h.1]
  split
  · split
    · split
      · rfl
      · rename_i e; have := h.k (g := g) (k := _) (by rw [e]; exact List.mem_singleton.2 rfl); rw [this.1, this.2]
      · rfl
    · rfl
  · rfl
theorem loc_make {t : Nat} {k : Key} {x y : Operand} (h : AgX σ σ' x) (h' : AgX σ σ' y) (hk : AgK σ σ' k) : oMake S g σ k t x y = oMake S g σ' k t x y := by
  unfold oMake; rw [h.1, h'.1, hk.2]
theorem loc_build {pl : Nat → Option (Nat × Nat)} : ∀ {ps : List (Nat × Operand)} {cs : List AV}, (∀ p ∈ ps, AgX σ σ' p.2) → buildF pl g σ ps cs = buildF pl g σ' ps cs
  | [], cs, _ => rfl
  | (i, x) :: r, cs, h => by
    unfold buildF
    rw [(h (i, x) (by simp)).1]
    simp only [fun cs => loc_build (pl := pl) (ps := r) (cs := cs) fun p hp => h p (by simp [hp])]
theorem loc_rows {sz : Nat} : ∀ {ps : List (Nat × Operand)} {rs : List (List AV)}, (∀ p ∈ ps, AgX σ σ' p.2) → rowsF sz g σ ps rs = rowsF sz g σ' ps rs
  | [], cs, _ => rfl
  | (i, x) :: r, cs, h => by
    unfold rowsF
    rw [(h (i, x) (by simp)).1]
    simp only [fun cs => loc_rows (sz := sz) (ps := r) (rs := cs) fun p hp => h p (by simp [hp])]
theorem loc_oBuild {t : Nat} {ps : List (Nat × Operand)} (h : ∀ p ∈ ps, AgX σ σ' p.2) : oBuild S g σ t ps = oBuild S g σ' t ps := by
  unfold oBuild
  simp only [fun pl cs => loc_build (g := g) (pl := pl) (cs := cs) h]
theorem loc_oBuildSlice {t n : Nat} {ps : List (Nat × Operand)} (h : ∀ p ∈ ps, AgX σ σ' p.2) : oBuildSlice S g σ t n ps = oBuildSlice S g σ' t n ps := by
  unfold oBuildSlice
  simp only [fun sz rs => loc_rows (g := g) (sz := sz) (rs := rs) h]
theorem loc_pick {c x y : Operand} (h : AgX σ σ' c) (h1 : AgX σ σ' x) (h2 : AgX σ σ' y) : oPick g σ c x y = oPick g σ' c x y := by
  unfold oPick; rw [h.1, h1.1, h2.1]
theorem loc_rowsOf {x : AV} (h : ∀ k ∈ keysF x, AgK σ σ' k) : rowsOf σ x = rowsOf σ' x := by
  cases x with
  | own k gg => have := h k (List.mem_singleton.2 rfl); simp only [rowsOf, this.1, this.2]
  | _ => rfl
theorem loc_len {t : Nat} {x : Operand} (h : AgX σ σ' x) : oLen S g σ t x = oLen S g σ' t x := by
  unfold oLen; rw [← h.1, loc_rowsOf fun k hk => h.k hk]
theorem loc_append {t t' : Nat} {k : Key} {x y : Operand} (h : AgX σ σ' x) (h' : AgX σ σ' y) (hk : AgK σ σ' k) : oAppend S g σ k t t' x y = oAppend S g σ' k t t' x y := by
  unfold oAppend apOut
  rw [← h.1, ← h'.1, loc_rowsOf fun k hk => h'.k hk, hk.2]
  split
  · split
    · split
      · split
        · rfl
        · rename_i e; have := h.k (g := g) (k := _) (by rw [e]; exact List.mem_singleton.2 rfl); rw [this.1, this.2]
        · rfl
      · rfl
    · rfl
  · rfl
theorem loc_copy {t t' : Nat} {x y : Operand} (h : AgX σ σ' x) (h' : AgX σ σ' y) : oCopy S g σ t t' x y = oCopy S g σ' t t' x y := by
  unfold oCopy
  rw [← h.1, ← h'.1, loc_rowsOf fun k hk => h'.k hk]
  split
  · split
    · split
      · rename_i e; have := h.k (g := g) (k := _) (by rw [e]; exact List.mem_singleton.2 rfl); rw [this.1, this.2]
      · rfl
    · rfl
  · rfl
theorem loc_args : ∀ {xs : List Operand}, (∀ x ∈ xs, AgX σ σ' x) → args g σ xs = args g σ' xs
  | [], _ => rfl
  | x :: xs, h => by
    unfold args
    rw [(h x (by simp)).1, loc_args fun y hy => h y (by simp [hy])]
theorem loc_view1 {x : AV} (h : ∀ k ∈ keys1 x, AgK σ σ' k) : view1 σ x = view1 σ' x ∧ frz1 σ x = frz1 σ' x := by
  cases x with
  | own k gg => have := h k (List.mem_singleton.2 rfl); simp only [view1, frz1, this.1, this.2, and_self]
  | _ => exact ⟨rfl, rfl⟩
theorem loc_view {x : AV} (h : ∀ k ∈ keys2 x, AgK σ σ' k) : view σ x = view σ' x ∧ frz σ x = frz σ' x := by
  cases x with
  | own k gg => have := h k (List.mem_singleton.2 rfl); simp only [view, frz, this.1, this.2, and_self]
  | agg cs =>
    have key : ∀ cs : List AV, (∀ k ∈ (cs.map keys1).flatten, AgK σ σ' k) → cs.map (view1 σ) = cs.map (view1 σ') ∧ (cs.map (frz1 σ)) = (cs.map (frz1 σ')) := by
      intro cs hc
      refine ⟨List.map_congr_left fun c hm => ?_, List.map_congr_left fun c hm => ?_⟩
      · exact (loc_view1 fun k hk => hc k (List.mem_flatten.2 ⟨_, List.mem_map.2 ⟨c, hm, rfl⟩, hk⟩)).1
      · exact (loc_view1 fun k hk => hc k (List.mem_flatten.2 ⟨_, List.mem_map.2 ⟨c, hm, rfl⟩, hk⟩)).2
    obtain ⟨h1, h2⟩ := key cs h
    simp only [view, frz, h1, h2, and_self]
  | _ => exact ⟨rfl, rfl⟩
theorem argsV : ∀ {xs : List Operand} {v : AV}, v ∈ (args g σ xs).l → ∃ x ∈ xs, v = (strip g (σ.ev x)).v
  | [], v, h => by cases h
  | x :: xs, v, h => by
    rcases List.mem_cons.1 h with rfl | h
    · exact ⟨x, by simp, rfl⟩
    · obtain ⟨y, hy, e⟩ := argsV h
      exact ⟨y, by simp [hy], e⟩
theorem keysF_2 {x : AV} {k : Key} (h : k ∈ keys2 x) : k ∈ keysF x := by
  cases x <;> first | exact h | cases h
theorem loc_call {dk : Nat} {f : Operand} {xs : List Operand} (hf : AgX σ σ' f) (hx : ∀ x ∈ xs, AgX σ σ' x) (hk : ∀ k : Key, k.1 = dk → AgK σ σ' k) : oCall S g σ dk f xs = oCall S g σ' dk f xs := by
  unfold oCall
  rw [← hf.1]
  split
  · rename_i p fid caps e
    have hcap : ∀ v ∈ caps, view σ v = view σ' v ∧ frz σ v = frz σ' v := fun v hv => loc_view fun k hk' => hf.k (g := g) (by rw [e]; exact List.mem_flatten.2 ⟨_, List.mem_map.2 ⟨v, hv, rfl⟩, hk'⟩)
    have harg : ∀ v ∈ (args g σ xs).l, view σ v = view σ' v ∧ frz σ v = frz σ' v := fun v hv => by
      obtain ⟨x, hxm, rfl⟩ := argsV hv
      exact loc_view fun k hk' => (hx x hxm).k (keysF_2 hk')
    have hall : ∀ v ∈ (args g σ xs).l ++ caps, view σ v = view σ' v ∧ frz σ v = frz σ' v := fun v hv => by
      rcases List.mem_append.1 hv with hv | hv
      · exact harg v hv
      · exact hcap v hv
    have e1 : ((args g σ xs).l ++ caps).map (view σ) = ((args g σ xs).l ++ caps).map (view σ') := List.map_congr_left fun v hv => (hall v hv).1
    have e2 : ((args g σ xs).l ++ caps).map (frz σ) = ((args g σ xs).l ++ caps).map (frz σ') := List.map_congr_left fun v hv => (hall v hv).2
    have e4 : ∀ x : AV, ren1 (exKey dk) σ.γ x = ren1 (exKey dk) σ'.γ x := by
      intro x; cases x <;> first | rfl | (simp only [ren1]; rw [(hk (exKey dk _) rfl).2])
    have e3 : ∀ r : AV, ren (exKey dk) σ.γ r = ren (exKey dk) σ'.γ r := by
      intro r
      cases r with
      | own k gg => simp only [ren]; rw [(hk (exKey dk k) rfl).2]
      | agg cs => simp only [ren]; congr 1; exact List.map_congr_left fun c _ => e4 c
      | tup cs =>
        simp only [ren]; congr 1
        refine List.map_congr_left fun c _ => ?_
        cases c with
        | own k gg => simp only; rw [(hk (exKey dk k) rfl).2]
        | agg cs => simp only; congr 1; exact List.map_congr_left fun c _ => e4 c
        | _ => rfl
      | _ => rfl
    have e5 : ∀ (bs : List Blk) (i : Nat), exWs dk σ.γ i bs = exWs dk σ'.γ i bs := by
      intro bs
      induction bs with
      | nil => intro i; rfl
      | cons B bs ih => intro i; simp only [exWs]; rw [(hk (dk, i + 1) rfl).2, ih]
    rw [← loc_args (g := g) hx, e1, e2]
    simp only [e3, e5]
  · rfl
theorem loc_op {op : Op} (h : ∀ x ∈ op.operands.toList, AgX σ σ' x) (hk : ∀ k : Key, k.1 = fr + d → AgK σ σ' k) : opOut S fr g σ d op = opOut S fr g σ' d op := by
  cases op <;> simp only [Op.operands] at h <;> simp only [opOut]
  case move x => unfold oMove; rw [(h x (by simp)).1]
  case assign x => unfold oMove; rw [(h x (by simp)).1]
  case pick c x y => exact loc_pick (h c (by simp)) (h x (by simp)) (h y (by simp))
  case alloc t => unfold oAlloc oNew; rw [(hk (fr + d, 0) rfl).2]
  case box t x => unfold oBox oNew; rw [(hk (fr + d, 0) rfl).2, (h x (by simp)).1]
  case build t ps => exact loc_oBuild fun p hp => h p.2 (by simp; exact ⟨p.1, by simpa using hp⟩)
  case buildSlice t n ps => exact loc_oBuildSlice fun p hp => h p.2 (by simp; exact ⟨p.1, by simpa using hp⟩)
  case load t x => exact loc_load (h x (by simp))
  case store t x y => exact loc_store (h x (by simp)) (h y (by simp))
  case binOp op t x y u => rw [(h x (by simp)).1, (h y (by simp)).1]
  case unOp op t x => unfold oUn; rw [(h x (by simp)).1]
  case makeSlice t x y => exact loc_make (h x (by simp)) (h y (by simp)) (hk _ rfl)
  case slice t x lo hi mx => exact loc_slice (h x (by simp)) (fun y e => h y (by simp [e])) (fun y e => h y (by simp [e])) (fun y e => h y (by simp [e]))
  case fieldAddr t x f => exact loc_field (h x (by simp))
  case indexAddr t x i => exact loc_index (h x (by simp)) (h i (by simp))
  case extract x i => unfold oExtract; rw [(h x (by simp)).1]
  case makeFunc f first caps =>
    cases f <;> simp only
    rw [loc_args (g := g) fun x hx => h x (by simp at hx ⊢; exact .inr hx)]
  case call c =>
    obtain ⟨callee, xs, ts⟩ := c
    simp only [Call.operands] at h
    cases callee <;> simp only [callOut]
    case value f => exact loc_call (h f (by simp)) (fun x hx => h x (by simp at hx ⊢; exact .inr hx)) hk
    case builtin b =>
      have h' : ∀ x ∈ xs.toList, AgX σ σ' x := fun x hx => h x (by simpa using hx)
      generalize xs.toList = l at h'
      generalize ts.toList = l2
      unfold biOut
      split
      · exact loc_len (h' _ (by simp))
      · unfold oCap; rw [(h' _ (by simp)).1]
      · exact loc_append (h' _ (by simp)) (h' _ (by simp)) (hk _ rfl)
      · exact loc_copy (h' _ (by simp)) (h' _ (by simp))
      · unfold oMinMax; rw [(h' _ (by simp)).1, (h' _ (by simp)).1]
      · unfold oMinMax; rw [(h' _ (by simp)).1, (h' _ (by simp)).1]
      · rfl
end
end Go.Proofs.Ytedhhjmjlpnlpaa.VW
