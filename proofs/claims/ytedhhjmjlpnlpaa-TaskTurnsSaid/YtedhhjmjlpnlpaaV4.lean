/- The walk over values: operations that only compute and read. -/
import Derived.Test.YtedhhjmjlpnlpaaV3
namespace Go.Proofs.Ytedhhjmjlpnlpaa.VW
open Go Go.RowKit
set_option linter.unusedVariables false
set_option linter.unusedSimpArgs false

def descOK : TypeDesc → Ty → Bool
  | .int k, .int k' => k == k'
  | .bool, .bool => true
  | .slice e, .slice e' => e == e'
  | .struct fs, .struct gs => fs.toList.map (fun f => (f.offset, f.type)) == gs
  | .array n e, .array n' e' => n == n' && e == e'
  | _, _ => false
def zOK : List AV → List Value → Bool
  | [], [] => true
  | .int k n :: r, .int k' m :: s => k == k' && n == m && zOK r s
  | .bool a :: r, .bool b :: s => a == b && zOK r s
  | .sl true [] :: r, .slice none 0 0 :: s => zOK r s
  | _, _ => false
def tOK (P : Program) (t : Nat) (i : TI) : Bool := match P.info? t, P.underlying t with
  | some inf, some d => inf.size == i.size && inf.bytes == i.bytes && (descOK d i.ty && (i.ty.isAgg || i.size == 1)) && (match inf.zero with
    | some z => zOK i.zero z.cells.toList && z.cells.size == i.size
    | none => false)
  | _, _ => false
def confV : List (Option IntKind) → List Value → Bool
  | [], [] => true
  | some k :: s, .int k' _ :: r => (k == k') && confV s r
  | none :: s, .bool _ :: r => confV s r
  | _, _ => false
def vEq : List Value → List Value → Bool
  | [], [] => true
  | .int _ a :: r, .int _ b :: s => (a == b) && vEq r s
  | .bool a :: r, .bool b :: s => (a == b) && vEq r s
  | _, _ => false
def E0 : Key → Inf := fun _ => ⟨0, 0, 0, 0, 0, false⟩
def blkImm : Blk → Bool
  | .rows _ rs => immR rs
  | _ => false
def exOK1 (n : Nat) : AV → Bool
  | .own k g => k.2 == 0 && decide (k.1 < n) && g == 0
  | x => imm x
def exOK2 (n : Nat) : AV → Bool
  | .own k g => k.2 == 0 && decide (k.1 < n) && g == 0
  | .agg cs => cs.all (exOK1 n)
  | x => imm x
def exOK (n : Nat) : AV → Bool
  | .tup vs => vs.all (exOK2 n)
  | x => exOK2 n x
structure Ret (w w' : World) (F : Nat → Prop) (r : AV) (bs : List Blk) (v : Value) : Prop where
  out : ∃ F' E', Below w.heap.size w w' ∧ (∀ b, F b → F' b) ∧ (∀ b, F' b → b < w'.heap.size) ∧ (∀ b, F' b → b < w.heap.size → F b) ∧ R w' F' E' r v ∧
    (∀ i B, bs[i]? = some B → RB w' F' E' w.heap.size (i, 0) B ∧ (E' (i, 0)).gen = 0) ∧
    (∀ i j B B', bs[i]? = some B → bs[j]? = some B' → (E' (i, 0)).al = true → (E' (j, 0)).al = true → (E' (i, 0)).b = (E' (j, 0)).b → i = j)
def Ent (P : Program) (f : Nat) : Prop := ∀ vs w, (callFunc f vs).run P w = .ok (.enter f vs) w
def FS (P : Program) (f : Nat) (xs : List AV) (r : AV) (bs : List Blk) : Prop :=
  Ent P f ∧ exOK bs.length r = true ∧ bs.all blkImm = true ∧ ∀ (w : World) (F : Nat → Prop) (vs : List Value), (∀ b, F b → b < w.heap.size) → RA w F E0 xs vs →
    Calls P f vs.toArray w (fun e w' => ∃ v, e = .returned v ∧ Ret w w' F r bs v)
structure OK (P : Program) (S : Sg) : Prop where
  τ : ∀ t i, S.τ t = some i → tOK P t i = true
  Γ : ∀ f xs q r bs, S.Γ f xs = some (q, r, bs) → q → FS P f xs r bs
  eq : ∀ t sh, S.eq t = some sh → P.eqGuardType P.depth t = false ∧ ∀ vs us w, confV sh vs = true → confV sh us = true → (Op.equalIn 10000 t (.agg vs.toArray) (.agg us.toArray)).run P w = .ok (vEq vs us) w
  sp : ∀ id f, S.sp id = some f → ∀ N ops K σ, f N ops K σ → ∀ w0 F0 a w F E (Q : Exit → Act → World → Prop), Rl w0 F0 N σ a w F E → (∀ σ' a' w' F' E', K σ' → Rl w0 F0 N σ' a' w' F' E' → Q .normal a' w') → (Code.region id ops false).wp P Q a w

section
variable {P : Program} {S : Sg} {w0 w w' : World} {F0 F F' : Nat → Prop} {E E' : Key → Inf} {N : Nat} {σ σ' : St} {a : Act} {k : Key} {g : Bool}

theorem tOK_out {t : Nat} {i : TI} (h : tOK P t i = true) : ∃ inf d z, P.info? t = some inf ∧ P.underlying t = some d ∧ inf.size = i.size ∧ inf.bytes = i.bytes ∧ descOK d i.ty = true ∧ (i.ty.isAgg = true ∨ i.size = 1) ∧
    inf.zero = some z ∧ zOK i.zero z.cells.toList = true ∧ z.cells.size = i.size := by
  unfold tOK at h
  split at h
  · rename_i inf d h1 h2
    simp only [Bool.and_eq_true, Bool.or_eq_true, beq_iff_eq] at h
    obtain ⟨⟨⟨h3, h4⟩, h5, h5'⟩, h6⟩ := h
    split at h6
    · rename_i z hz
      simp only [Bool.and_eq_true, beq_iff_eq] at h6
      exact ⟨inf, d, z, h1, h2, h3, h4, h5, h5', hz, h6.1, h6.2⟩
    · exact absurd h6 (by simp)
  · exact absurd h (by simp)
theorem zOK_RA {xs : List AV} {vs : List Value} (h : zOK xs vs = true) : RA w F E xs vs := by
  fun_induction zOK xs vs with
  | case1 => exact RA_nil
  | case2 k n r k' m s ih =>
    simp only [Bool.and_eq_true, beq_iff_eq] at h
    obtain ⟨⟨rfl, rfl⟩, h3⟩ := h
    exact RA_cons (by rw [R]) (ih h3)
  | case3 a r b s ih =>
    simp only [Bool.and_eq_true, beq_iff_eq] at h
    obtain ⟨rfl, h3⟩ := h
    exact RA_cons (by rw [R]) (ih h3)
  | case4 r s ih =>
    exact RA_cons (by rw [R]; exact ⟨none, 0, 0, rfl, by simp, Nat.le_refl _, fun _ => rfl, fun _ => rfl, .inl rfl⟩) (ih h)
  | case5 => exact absurd h (by simp)
theorem zOK_imm {xs : List AV} {vs : List Value} (h : zOK xs vs = true) : immL xs = true ∧ xs.all cellOK = true ∧ vs.length = xs.length := by
  fun_induction zOK xs vs with
  | case1 => simp [immL]
  | case2 k n r k' m s ih =>
    simp only [Bool.and_eq_true, beq_iff_eq] at h
    have := ih h.2; exact ⟨by simp [immL, imm, this.1], by rw [List.all_cons, this.2.1]; rfl, by simp [this.2.2]⟩
  | case3 a r b s ih =>
    simp only [Bool.and_eq_true, beq_iff_eq] at h
    have := ih h.2; exact ⟨by simp [immL, imm, this.1], by rw [List.all_cons, this.2.1]; rfl, by simp [this.2.2]⟩
  | case4 r s ih =>
    have := ih h; exact ⟨by simp [immL, imm, immR, this.1], by rw [List.all_cons, this.2.1]; rfl, by simp [this.2.2]⟩
  | case5 => exact absurd h (by simp)

/-! operands -/
theorem cav_ok (v : Value) : R w F E (cav v) v := by
  unfold cav
  split
  · rw [R]
  · rw [R]
  · rw [R]; exact ⟨none, 0, 0, rfl, by simp, Nat.le_refl _, fun _ => rfl, fun _ => rfl, .inl rfl⟩
  · rw [R]; trivial
theorem Rl.ev (h : Rl w0 F0 N σ a w F E) (x : Operand) : R w F E (σ.ev x) (a.eval x) := by
  cases x with
  | tmp t => exact h.tmp t
  | const v => exact cav_ok v
  | global g => show R w F E .dead _; rw [R]; trivial
  | func f => show R w F E (.fn f []) _; rw [R]; exact ⟨[], rfl, RA_nil⟩
theorem strip_ok {x : AV} {v : Value} (hg : g = true) (hp : (strip g x).p) (h : R w F E x v) : R w F E (strip g x).v v := by
  unfold strip at *
  split at hp
  · rw [R] at h; exact h.1 (hp hg)
  · exact h
theorem Rl.sv (h : Rl w0 F0 N σ a w F E) (hg : g = true) {x : Operand} (hp : (strip g (σ.ev x)).p) : R w F E (strip g (σ.ev x)).v (a.eval x) := strip_ok hg hp (h.ev x)
theorem Rl.svA (h : Rl w0 F0 N σ a w F E) (hg : g = true) : ∀ {xs : List Operand}, (args g σ xs).p → RA w F E (args g σ xs).l (xs.map a.eval)
  | [], _ => RA_nil
  | x :: xs, hp => RA_cons (h.sv hg hp.1) (h.svA hg hp.2)
/-- what an operation leaves: a value, and a world that goes on with the state. -/
def Good (P : Program) (w0 : World) (F0 : Nat → Prop) (N : Nat) (σ : St) (a : Act) (w : World) (out : Out) (s : Sem Value) : Prop :=
  ∃ v w' F' E', s.run P w = .ok v w' ∧ Rl w0 F0 N (σ.wr out.ws) a w' F' E' ∧ R w' F' E' out.v v
theorem Good.pure (h : Rl w0 F0 N σ a w F E) {p : Prop} {x : AV} {s : Sem Value} {v : Value} (hs : s.run P w = .ok v w) (hv : R w F E x v) : Good P w0 F0 N σ a w ⟨p, x, []⟩ s := ⟨v, w, F, E, hs, h, hv⟩

theorem pick_ok (h : Rl w0 F0 N σ a w F E) (hg : g = true) {c x y : Operand} (hp : (oPick g σ c x y).pre) :
    Good P w0 F0 N σ a w (oPick g σ c x y) (do pure (if ← asBool (a.eval c) then a.eval x else a.eval y)) := by
  unfold oPick at *
  split at hp
  · rename_i p cv e
    obtain ⟨p1, p2, p3⟩ := hp
    have hc := h.sv hg (x := c) (by rw [e]; exact p1)
    rw [e, R] at hc
    refine Good.pure h (v := if cv then a.eval x else a.eval y) (by simp [hc, asBool]) ?_
    subst hg
    cases cv
    · have hy := h.sv (g := true && !false) rfl (x := y) p3
      simp only [Bool.false_eq_true, if_false]
      unfold pickv
      split
      · rename_i e1 e2; rw [e2] at hy; exact hy
      · exact hy
    · have hx := h.sv (g := true && true) rfl (x := x) p2
      simp only [if_true]
      unfold pickv
      split
      · rename_i e1 e2; rw [e1] at hx; exact hx
      · exact hx
  · exact hp.elim

theorem un_ok (h : Rl w0 F0 N σ a w F E) (hg : g = true) {op : UnOp} {x : Operand} (hp : (oUn g σ op x).pre) :
    Good P w0 F0 N σ a w (oUn g σ op x) (Op.unary op (a.eval x)) := by
  unfold oUn at *
  split at hp
  · rename_i p b e
    have hx := h.sv hg (x := x) (by rw [e]; exact hp)
    rw [e, R] at hx
    refine Good.pure h (v := .bool (!b)) (by rw [hx]; rfl) ?_
    show R _ _ _ (.bool _) _; rw [R]
  · exact hp.elim

theorem extract_ok (h : Rl w0 F0 N σ a w F E) (hg : g = true) {x : Operand} {i : Nat} (hp : (oExtract g σ x i).pre) :
    Good P w0 F0 N σ a w (oExtract g σ x i) (Instr.extract (a.eval x) i) := by
  unfold oExtract at *
  split at hp
  · rename_i p vs e
    have hx := h.sv hg (x := x) (by rw [e]; exact hp.1)
    rw [e, R] at hx
    obtain ⟨us, hv, hr⟩ := hx
    obtain ⟨v, hv1, hv2⟩ := RA_get hr (j := i) (x := vs[i]'hp.2) (by simp [hp.2])
    refine Good.pure h (v := v) ?_ ?_
    · rw [hv]
      unfold Instr.extract
      simp [hv1]
    · show R _ _ _ (vs.getD i .dead) _
      have : vs.getD i .dead = vs[i]'hp.2 := by simp [List.getD, hp.2]
      rw [this]; exact hv2
  · exact hp.elim

theorem placesOf_some {fs : List (Nat × Nat)} {f off sz : Nat} (hS : OK P S) (h : placesOf S fs f = some (off, sz)) : ∃ t j, fs[f]? = some (off, t) ∧ S.τ t = some j ∧ j.size = sz := by
  unfold placesOf at h
  split at h
  · rename_i o t e
    split at h
    · rename_i j e2; cases h; exact ⟨t, j, e, e2, rfl⟩
    · cases h
  · cases h
theorem descOK_struct {d : TypeDesc} {fs : List (Nat × Nat)} (h : descOK d (.struct fs) = true) : ∃ F : Array Field, d = .struct F ∧ F.toList.map (fun f => (f.offset, f.type)) = fs := by
  cases d <;> simp [descOK] at h; exact ⟨_, rfl, h⟩
theorem descOK_slice {d : TypeDesc} {e : Nat} (h : descOK d (.slice e) = true) : d = .slice e := by
  cases d <;> simp [descOK] at h; simp [h]
theorem descOK_array {d : TypeDesc} {n e : Nat} (h : descOK d (.array n e) = true) : d = .array n e := by
  cases d <;> simp [descOK] at h; simp [h]
theorem descOK_bool {d : TypeDesc} (h : descOK d .bool = true) : d = .bool := by
  cases d <;> simp [descOK] at h; rfl
theorem descOK_agg {d : TypeDesc} {ty : Ty} (h : descOK d ty = true) : d.isRow = ty.isAgg := by
  cases d <;> cases ty <;> simp [descOK] at h <;> rfl

theorem field_ok (hS : OK P S) (h : Rl w0 F0 N σ a w F E) (hg : g = true) {s f : Nat} {x : Operand} (hp : (oField S g σ s x f).pre) :
    Good P w0 F0 N σ a w (oField S g σ s x f) (Instr.fieldAt s (a.eval x) f) := by
  unfold oField at *
  split at hp
  · rename_i fs _ _ _ e
    obtain ⟨inf, d, z, hi, hu, h1, h2, h3, h4⟩ := tOK_out (hS.τ _ _ e)
    obtain ⟨FS, rfl, hfs⟩ := descOK_struct h3
    split at hp
    · rename_i off sz epl
      obtain ⟨t, j, hf, ht, hj⟩ := placesOf_some hS epl
      obtain ⟨inf', _, _, hi', _, hs', _⟩ := tOK_out (hS.τ _ _ ht)
      rw [← hfs, List.getElem?_map] at hf
      obtain ⟨fd, hfd, he⟩ := Option.map_eq_some_iff.1 hf
      have hfd' : FS[f]? = some fd := by simpa using hfd
      have e1 : fd.offset = off := congrArg Prod.fst he
      have e2 : fd.type = t := congrArg Prod.snd he
      have hrun : ∀ (b o : Nat), 0 < sz → (Instr.fieldAt s (.pointer (some ⟨b, o, none⟩)) f).run P w = .ok (.pointer (some ⟨b, o + off, none⟩)) w := by
        intro b o hsz
        have hsz' : ¬ inf'.size = 0 := by omega
        unfold Instr.fieldAt
        simp [run_underlying hu, hfd', Instr.sureAddr, fieldPlace, sizeOf, typeInfo, e2, hi', hsz', e1, Addr.add_mid]
      split at hp
      · rename_i p k g' o ex
        have hx := h.sv hg (x := x) (by rw [ex]; exact hp.1)
        rw [ex, R] at hx
        have hgen : g' = (E k).gen := by rw [h.gen]; exact hp.2.2
        exact Good.pure h (by rw [hx.2.1 hgen]; exact hrun _ _ hp.2.1) (by show R _ _ _ (.ptr _ _ _) _; rw [R]; exact ⟨hx.1, fun _ => rfl, rfl⟩)
      · rename_i p k g' r j ex
        have hx := h.sv hg (x := x) (by rw [ex]; exact hp.1)
        rw [ex, R] at hx
        have hgen : g' = (E k).gen := by rw [h.gen]; exact hp.2.2
        exact Good.pure h (by rw [hx.2.1 hgen]; exact hrun _ _ hp.2.1) (by show R _ _ _ (.eptr _ _ _ _) _; rw [R]; exact ⟨hx.1, fun _ => by rw [Nat.add_assoc], rfl⟩)
      · rename_i p cs ex
        have hx := h.sv hg (x := x) (by rw [ex]; exact hp.1)
        rw [ex, R] at hx
        obtain ⟨b, o, hv, hF, hc⟩ := hx
        exact Good.pure h (by rw [hv]; exact hrun _ _ hp.2) (by show R _ _ _ (.iptr _) _; rw [R]; exact ⟨b, o + off, rfl, hF, RC_drop' off hc⟩)
      · exact hp.elim
    · exact hp.elim
  · exact hp.elim

theorem tmul {n : Int} {m : Nat} (h0 : 0 ≤ n) (h : n < m) : n.toNat < m := by omega
theorem index_ok (hS : OK P S) (h : Rl w0 F0 N σ a w F E) (hg : g = true) {t : Nat} {x i : Operand} (hp : (oIndex S g σ t x i).pre) :
    Good P w0 F0 N σ a w (oIndex S g σ t x i) (Instr.indexAt t (a.eval x) (a.eval i)) := by
  unfold oIndex at *
  split at hp
  · rename_i e _ _ _ et
    obtain ⟨inf, d, z, hi, hu, h1, h2, h3, h4⟩ := tOK_out (hS.τ _ _ et)
    obtain rfl := descOK_slice h3
    split at hp
    · rename_i ie ee
      obtain ⟨inf', _, _, hi', _, hs', _⟩ := tOK_out (hS.τ _ _ ee)
      have hrun : ∀ (b o len cap : Nat) (kk : IntKind) (n : Int), 0 ≤ n → n < len → (Instr.indexAt t (.slice (some ⟨b, o, none⟩) len cap) (.int kk n)).run P w = .ok (.pointer (some ⟨b, o + n.toNat * ie.size, none⟩)) w := by
        intro b o len cap kk n h0 hn
        unfold Instr.indexAt
        simp [run_underlying hu, asIntOf, h0, hn, sizeOf, typeInfo, hi', hs', Addr.add_mid]
      split at hp
      · rename_i q kk n ei
        split at hp
        · rename_i p ex rs exx
          obtain ⟨p1, p2, p3, p4, p5⟩ := hp
          have hx := h.sv hg (x := x) (by rw [exx]; exact p1)
          have hn := h.sv hg (x := i) (by rw [ei]; exact p2)
          rw [exx, R] at hx
          rw [ei, R] at hn
          obtain ⟨ad, len, cap, hv, hl, hcap, _, _, hr⟩ := hx
          have hlt := tmul p3 p4
          rcases hr with hr | ⟨b, o, st, rfl, hF, hrr⟩
          · subst hr; simp at hlt
          · have hget : rs[n.toNat]? = some (rs.getD n.toNat []) := by simp [List.getD, hlt]
            obtain ⟨hst, hrc⟩ := RR_get hrr hget
            refine Good.pure h (v := .pointer (some ⟨b, o + n.toNat * ie.size, none⟩)) (by rw [hv, hn]; exact hrun _ _ _ _ _ _ p3 (by rw [hl]; exact p4)) ?_
            show R _ _ _ (.iptr _) _
            rw [R]
            exact ⟨b, _, rfl, hF, by rw [← p5, hst]; exact hrc⟩
        · rename_i p k g' exx
          split at hp
          · rename_i st rs hk
            obtain ⟨p1, p2, p3, p4, p5, p6⟩ := hp
            have hx := h.sv hg (x := x) (by rw [exx]; exact p1)
            have hn := h.sv hg (x := i) (by rw [ei]; exact p2)
            rw [exx, R] at hx
            rw [ei, R] at hn
            have hgen : g' = (E k).gen := by rw [h.gen]; exact p3
            obtain ⟨b1, b2, b3, b4⟩ := h.blk k _ hk
            have hlt := tmul p4 p5
            rcases hx.2.1 hgen with ⟨hal, hv⟩ | ⟨hal, hl0, _⟩
            · refine Good.pure h (v := .pointer (some ⟨(E k).b, 0 + n.toNat * ie.size, none⟩)) (by rw [hv, hn]; exact hrun _ _ _ _ _ _ p4 (by rw [b1]; exact p5)) ?_
              show R _ _ _ (.eptr _ _ _ _) _
              rw [R]
              exact ⟨hx.1, fun _ => by rw [b2, p6]; simp, rfl⟩
            · rw [← b1, hl0] at hlt; omega
          · rename_i rs hk
            obtain ⟨p1, p2, p3, p4, p5, p6⟩ := hp
            have hx := h.sv hg (x := x) (by rw [exx]; exact p1)
            have hn := h.sv hg (x := i) (by rw [ei]; exact p2)
            rw [exx, R] at hx
            rw [ei, R] at hn
            have hgen : g' = (E k).gen := by rw [h.gen]; exact p3
            obtain ⟨b1, b3, b4⟩ := h.blk k _ hk
            have hlt := tmul p4 p5
            rcases hx.2.1 hgen with ⟨hal, hv⟩ | ⟨hal, hl0, _⟩
            · rcases b4 with ⟨b4, _⟩ | ⟨_, b5, b6⟩
              · rw [b4] at hal; exact absurd hal (by simp)
              · have hget : rs[n.toNat]? = some (rs.getD n.toNat []) := by simp [List.getD, hlt]
                obtain ⟨hst, hrc⟩ := RR_get b6 hget
                refine Good.pure h (v := .pointer (some ⟨(E k).b, 0 + n.toNat * ie.size, none⟩)) (by rw [hv, hn]; exact hrun _ _ _ _ _ _ p4 (by rw [b1]; exact p5)) ?_
                show R _ _ _ (.iptr _) _
                rw [R]
                exact ⟨(E k).b, _, rfl, b5, by rw [← p6, hst]; exact hrc⟩
            · rw [← b1, hl0] at hlt; omega
          · exact hp.elim
        · exact hp.elim
      · exact hp.elim
    · exact hp.elim
  · rename_i len e _ _ _ et
    obtain ⟨inf, d, z, hi, hu, h1, h2, h3, h4⟩ := tOK_out (hS.τ _ _ et)
    obtain rfl := descOK_array h3
    split at hp
    · rename_i ie ee
      obtain ⟨inf', _, _, hi', _, hs', _⟩ := tOK_out (hS.τ _ _ ee)
      have hrun : ∀ (b o : Nat) (kk : IntKind) (n : Int), 0 ≤ n → n < len → (Instr.indexAt t (.pointer (some ⟨b, o, none⟩)) (.int kk n)).run P w = .ok (.pointer (some ⟨b, o + n.toNat * ie.size, none⟩)) w := by
        intro b o kk n h0 hn
        unfold Instr.indexAt
        simp [run_underlying hu, asIntOf, h0, hn, sizeOf, typeInfo, hi', hs', Addr.add_mid, Instr.sureAddr]
      split at hp
      · rename_i q kk n ei
        split at hp
        · rename_i p k g' o exx
          obtain ⟨p1, p2, p3, p4, p5⟩ := hp
          have hx := h.sv hg (x := x) (by rw [exx]; exact p1)
          have hn := h.sv hg (x := i) (by rw [ei]; exact p2)
          rw [exx, R] at hx
          rw [ei, R] at hn
          have hgen : g' = (E k).gen := by rw [h.gen]; exact p5
          exact Good.pure h (by rw [hx.2.1 hgen, hn]; exact hrun _ _ _ _ p3 p4) (by show R _ _ _ (.ptr _ _ _) _; rw [R]; exact ⟨hx.1, fun _ => rfl, rfl⟩)
        · rename_i p k g' r j exx
          obtain ⟨p1, p2, p3, p4, p5⟩ := hp
          have hx := h.sv hg (x := x) (by rw [exx]; exact p1)
          have hn := h.sv hg (x := i) (by rw [ei]; exact p2)
          rw [exx, R] at hx
          rw [ei, R] at hn
          have hgen : g' = (E k).gen := by rw [h.gen]; exact p5
          exact Good.pure h (by rw [hx.2.1 hgen, hn]; exact hrun _ _ _ _ p3 p4) (by show R _ _ _ (.eptr _ _ _ _) _; rw [R]; exact ⟨hx.1, fun _ => by rw [Nat.add_assoc], rfl⟩)
        · rename_i p cs exx
          obtain ⟨p1, p2, p3, p4⟩ := hp
          have hx := h.sv hg (x := x) (by rw [exx]; exact p1)
          have hn := h.sv hg (x := i) (by rw [ei]; exact p2)
          rw [exx, R] at hx
          rw [ei, R] at hn
          obtain ⟨b, o, hv, hF, hc⟩ := hx
          exact Good.pure h (by rw [hv, hn]; exact hrun _ _ _ _ p3 p4) (by show R _ _ _ (.iptr _) _; rw [R]; exact ⟨b, _, rfl, hF, RC_drop' _ hc⟩)
        · exact hp.elim
      · exact hp.elim
    · exact hp.elim
  · exact hp.elim

/-! loads -/
theorem ld_ok {t : Nat} {i : TI} (hi : tOK P t i = true) {b o : Nat} {cs : List AV} (hc : RC w F E b cs o) (hl : i.size ≤ cs.length) :
    ∃ v, (Instr.loadAt t (.pointer (some ⟨b, o, none⟩))).run P w = .ok v w ∧ R w F E (ldT i cs) v := by
  obtain ⟨inf, d, z, hi, hu, h1, h2, h3, h4⟩ := tOK_out hi
  unfold ldT
  cases hag : i.ty.isAgg with
  | true =>
    obtain ⟨vs, hv, hr⟩ := RC_range (RC_take i.size hc)
    refine ⟨.agg vs.toArray, ?_, ?_⟩
    · refine run_loadAt_mid w b o t vs d hr hu (by rw [descOK_agg h3, hag]) ?_
      rw [hi, RA_length hv]
      simp [h1, Nat.min_eq_left hl]
    · simp only [R]; exact ⟨vs, rfl, hv⟩
  | false =>
    cases cs with
    | nil =>
      rcases h4.1 with h5 | h5
      · rw [hag] at h5; exact absurd h5 (by simp)
      · simp at hl; omega
    | cons x xs =>
      rw [RC] at hc
      obtain ⟨⟨c, hc1, hc2⟩, _⟩ := hc
      refine ⟨c, ?_, by simpa using hc2⟩
      have hd : d.isRow = false := by rw [descOK_agg h3, hag]
      have hagg : (isAgg t).run P w = .ok false w := by
        unfold isAgg
        rw [Sem.run_bind, run_underlying hu w]
        cases d <;> simp_all
      simp [Instr.loadAt, Instr.sureAddr, loadVar, hagg, hc1]

theorem load_ok (hS : OK P S) (h : Rl w0 F0 N σ a w F E) (hg : g = true) {t : Nat} {x : Operand} (hp : (oLoad S g σ t x).pre) :
    Good P w0 F0 N σ a w (oLoad S g σ t x) (Instr.loadAt t (a.eval x)) := by
  unfold oLoad at *
  split at hp
  · rename_i i ei
    have hi := hS.τ _ _ ei
    split at hp
    · rename_i p k g' off ex
      unfold ldBlk at *
      split at hp
      · rename_i cs hk
        obtain ⟨⟨p1, p2⟩, p3⟩ := hp
        have hx := h.sv hg (x := x) (by rw [ex]; exact p1)
        rw [ex, R] at hx
        have hgen : g' = (E k).gen := by rw [h.gen]; exact p2
        obtain ⟨b1, b2, b3, b4⟩ := h.blk k _ hk
        obtain ⟨v, hv, hr⟩ := ld_ok (w := w) hi (RC_drop' off b4) (by simp; omega)
        exact Good.pure h (by rw [hx.2.1 hgen]; simpa using hv) hr
      · exact hp.elim
    · rename_i p k g' r j ex
      unfold ldRow at *
      split at hp
      · rename_i st rs hk
        obtain ⟨⟨p1, p2⟩, p3, p4⟩ := hp
        have hx := h.sv hg (x := x) (by rw [ex]; exact p1)
        rw [ex, R] at hx
        have hgen : g' = (E k).gen := by rw [h.gen]; exact p2
        obtain ⟨b1, b2, b3, b4⟩ := h.blk k _ hk
        have hget : rs[r]? = some (rs.getD r []) := by simp [List.getD, p3]
        rcases b4 with ⟨_, b4⟩ | ⟨_, b5, b6, b7, b8⟩
        · rw [b4] at p3; simp at p3
        · obtain ⟨hst, hrc⟩ := RR_get b8 hget
          obtain ⟨v, hv, hr⟩ := ld_ok (w := w) hi (RC_drop' j hrc) (by simp only [List.length_drop]; omega)
          exact Good.pure h (by rw [hx.2.1 hgen, b2]; simpa using hv) hr
      · rename_i rs hk
        obtain ⟨⟨p1, p2⟩, p3, p4⟩ := hp
        have hx := h.sv hg (x := x) (by rw [ex]; exact p1)
        rw [ex, R] at hx
        have hgen : g' = (E k).gen := by rw [h.gen]; exact p2
        obtain ⟨b1, b3, b4⟩ := h.blk k _ hk
        have hget : rs[r]? = some (rs.getD r []) := by simp [List.getD, p3]
        rcases b4 with ⟨_, b4⟩ | ⟨_, b5, b8⟩
        · rw [b4] at p3; simp at p3
        · obtain ⟨hst, hrc⟩ := RR_get b8 hget
          obtain ⟨v, hv, hr⟩ := ld_ok (w := w) hi (RC_drop' j hrc) (by simp only [List.length_drop]; omega)
          exact Good.pure h (by rw [hx.2.1 hgen]; simpa using hv) hr
      · exact hp.elim
    · rename_i p cs ex
      obtain ⟨p1, p2⟩ := hp
      have hx := h.sv hg (x := x) (by rw [ex]; exact p1)
      rw [ex, R] at hx
      obtain ⟨b, o, hv, hF, hc⟩ := hx
      obtain ⟨v, hv', hr⟩ := ld_ok (w := w) hi hc p2
      exact Good.pure h (by rw [hv]; exact hv') hr
    · exact hp.elim
  · exact hp.elim

/-! numbers, equality -/
def cval : AV → Value
  | .int k n => .int k n
  | .bool b => .bool b
  | _ => undef
theorem ibin_ok {op : BinOp} {k : IntKind} {x y : Int} {r : SV} (h : ibin op k x y = some r) (hr : r.p) (t : Nat) : ∃ v, (binOp op t (.int k x) (.int k y)).run P w = .ok v w ∧ R w F E r.v v := by
  refine ⟨cval r.v, ?_⟩
  unfold ibin at h
  split at h <;> cases h
  all_goals
    simp only at hr
    refine ⟨?_, by simp only [cval, R]⟩
    simp [binOp, Op.intArith, Op.intCmp, cval, Op.intDiv, hr]
theorem run_equalIn_nil (d t e : Nat) (ad : Option Addr) (l c : Nat) (h : P.underlying t = some (.slice e)) : (Op.equalIn (d + 1) t (.slice ad l c) (.slice none 0 0)).run P w = .ok ad.isNone w := by
  cases ad <;> simp [Op.equalIn, run_underlying h]
theorem conf_ok : ∀ {sh : List (Option IntKind)} {xs : List AV} {vs : List Value}, conf sh xs = true → RA w F E xs vs → confV sh vs = true
  | [], [], vs, h, hr => by rw [RA] at hr; subst hr; rfl
  | [], _ :: _, vs, h, hr => by simp [conf] at h
  | s :: sh, [], vs, h, hr => by cases s <;> simp [conf] at h
  | s :: sh, x :: xs, vs, h, hr => by
    rw [RA] at hr; obtain ⟨v, us, rfl, h1, h2⟩ := hr
    cases s with
    | none => cases x <;> simp [conf] at h; rw [R] at h1; subst h1; simpa [confV] using conf_ok h h2
    | some k => cases x <;> simp [conf] at h; rw [R] at h1; subst h1; simpa [confV, h.1] using conf_ok h.2 h2
theorem eq_okL : ∀ {sh : List (Option IntKind)} {xs ys : List AV} {vs us : List Value}, conf sh xs = true → conf sh ys = true → RA w F E xs vs → RA w F E ys us → vEq vs us = cellsEq xs ys
  | [], [], [], vs, us, h, k, hr, kr => by rw [RA] at hr kr; subst hr; subst kr; rfl
  | [], _ :: _, _, vs, us, h, k, hr, kr => by simp [conf] at h
  | [], [], _ :: _, vs, us, h, k, hr, kr => by simp [conf] at k
  | s :: sh, [], _, vs, us, h, k, hr, kr => by cases s <;> simp [conf] at h
  | s :: sh, _ :: _, [], vs, us, h, k, hr, kr => by cases s <;> simp [conf] at k
  | s :: sh, x :: xs, y :: ys, vs, us, h, k, hr, kr => by
    rw [RA] at hr kr; obtain ⟨v, vs', rfl, h1, h2⟩ := hr; obtain ⟨u, us', rfl, k1, k2⟩ := kr
    cases s with
    | none =>
      cases x <;> simp [conf] at h; cases y <;> simp [conf] at k
      rw [R] at h1 k1; subst h1; subst k1; simp [vEq, cellsEq, eq_okL h k h2 k2]
    | some kk =>
      cases x <;> simp [conf] at h; cases y <;> simp [conf] at k
      rw [R] at h1 k1; subst h1; subst k1; simp [vEq, cellsEq, eq_okL h.2 k.2 h2 k2]
theorem eqGuard_ok (op : BinOp) (t : Nat) (x y : Operand) (u v : Value) (h : (∃ n k, u = .int k n) ∨ (∃ b, u = .bool b) ∨ ∃ a l c, u = .slice a l c) : (eqGuard op t x y u v).run P w = .ok () w := by
  rcases h with ⟨n, k, rfl⟩ | ⟨b, rfl⟩ | ⟨_, _, _, rfl⟩ <;> cases op <;> cases v <;> simp [eqGuard]
theorem bin_ok (hS : OK P S) (h : Rl w0 F0 N σ a w F E) (hg : g = true) {op : BinOp} {t : Nat} {x y : Operand} (hp : (obin S op t y (strip g (σ.ev x)) (strip g (σ.ev y))).pre) :
    Good P w0 F0 N σ a w (obin S op t y (strip g (σ.ev x)) (strip g (σ.ev y))) (do eqGuard op t x y (a.eval x) (a.eval y); binOp op t (a.eval x) (a.eval y)) := by
  generalize ex : strip g (σ.ev x) = sx at hp ⊢
  generalize ey : strip g (σ.ev y) = sy at hp ⊢
  unfold obin at hp ⊢
  split at hp
  · rename_i p k m q k' n
    split at hp
    · rename_i r er
      obtain ⟨p1, p2, rfl, p3⟩ := hp
      have hx := h.sv hg (x := x) (by rw [ex]; exact p1)
      have hy := h.sv hg (x := y) (by rw [ey]; exact p2)
      rw [ex, R] at hx; rw [ey, R] at hy
      obtain ⟨v, h1, h2⟩ := ibin_ok (P := P) (w := w) (F := F) (E := E) er p3 t
      refine Good.pure h (v := v) ?_ h2
      rw [Sem.run_bind, eqGuard_ok op t x y _ _ (.inl ⟨m, k, hx⟩), Result.andThen_ok, hx, hy, h1]
    · exact hp.elim
  · rename_i p b q b'
    split at hp
    · obtain ⟨p1, p2, p3⟩ := hp
      have hx := h.sv hg (x := x) (by rw [ex]; exact p1)
      have hy := h.sv hg (x := y) (by rw [ey]; exact p2)
      rw [ex, R] at hx; rw [ey, R] at hy
      unfold isBo at p3
      split at p3
      · rename_i et
        obtain ⟨inf, d, z, hi, hu, h1, h2, h3, h4⟩ := tOK_out (hS.τ _ _ et)
        obtain rfl := descOK_bool h3
        refine Good.pure h (v := .bool (b == b')) ?_ (by show R _ _ _ (.bool _) _; rw [R])
        rw [Sem.run_bind, eqGuard_ok _ t x y _ _ (.inr (.inl ⟨b, hx⟩)), Result.andThen_ok, hx, hy]
        simp [binOp, Op.equal, Op.maxDepth, run_equalIn_bool' w 9999 t b b' hu]
      · exact absurd p3 (by simp)
    · obtain ⟨p1, p2, p3⟩ := hp
      have hx := h.sv hg (x := x) (by rw [ex]; exact p1)
      have hy := h.sv hg (x := y) (by rw [ey]; exact p2)
      rw [ex, R] at hx; rw [ey, R] at hy
      unfold isBo at p3
      split at p3
      · rename_i et
        obtain ⟨inf, d, z, hi, hu, h1, h2, h3, h4⟩ := tOK_out (hS.τ _ _ et)
        obtain rfl := descOK_bool h3
        refine Good.pure h (v := .bool (b != b')) ?_ (by show R _ _ _ (.bool _) _; rw [R])
        rw [Sem.run_bind, eqGuard_ok _ t x y _ _ (.inr (.inl ⟨b, hx⟩)), Result.andThen_ok, hx, hy]
        simp [binOp, Op.equal, Op.maxDepth, run_equalIn_bool' w 9999 t b b' hu, bne]
      · exact absurd p3 (by simp)
    · exact hp.elim
  · rename_i p xs q ys
    have key : ∀ neg P', (eqAgg S neg P' t xs ys).pre → (P' → p ∧ q) → ∃ vs us b, a.eval x = .agg vs ∧ a.eval y = .agg us ∧ (Op.equalIn 10000 t (.agg vs) (.agg us)).run P w = .ok b w ∧
        (eqAgg S neg P' t xs ys).v = .bool (neg != b) ∧ (eqAgg S neg P' t xs ys).ws = [] ∧ ∀ op, (eqGuard op t x y (.agg vs) (.agg us)).run P w = .ok () w := by
      intro neg P' hq hP
      unfold eqAgg at *
      split at hq
      · rename_i sh es
        obtain ⟨hq1, hq2, hq3⟩ := hq
        have hx := h.sv hg (x := x) (by rw [ex]; exact (hP hq1).1)
        have hy := h.sv hg (x := y) (by rw [ey]; exact (hP hq1).2)
        rw [ex, R] at hx; rw [ey, R] at hy
        obtain ⟨vs, hvs, hra⟩ := hx
        obtain ⟨us, hus, hrb⟩ := hy
        obtain ⟨hE1, hE2⟩ := hS.eq t sh es
        exact ⟨_, _, _, hvs, hus, hE2 vs us w (conf_ok hq2 hra) (conf_ok hq3 hrb), by rw [eq_okL hq2 hq3 hra hrb], rfl, fun op => run_eqGuard_agg w op t x y _ _ hE1⟩
      · exact hq.elim
    split at hp
    · obtain ⟨vs, us, b, e1, e2, e3, e4, e5, e6⟩ := key _ _ hp id
      refine ⟨.bool b, w, F, E, ?_, by rw [e5]; exact h, by rw [e4, R]; simp⟩
      rw [Sem.run_bind, e1, e2, e6, Result.andThen_ok, run_eql_struct, e3]; rfl
    · obtain ⟨vs, us, b, e1, e2, e3, e4, e5, e6⟩ := key _ _ hp id
      refine ⟨.bool (!b), w, F, E, ?_, by rw [e5]; exact h, by rw [e4, R]; simp⟩
      rw [Sem.run_bind, e1, e2, e6, Result.andThen_ok, run_neq_struct, e3]; rfl
    · exact hp.elim
  · rename_i p ex' rs
    split at hp
    · obtain ⟨p1, p2, p3⟩ := hp
      have hx := h.sv hg (x := x) (by rw [ex]; exact p1)
      rw [ex, R] at hx
      obtain ⟨ad, len, cap, hv, hl, hcap, _, hnil, _⟩ := hx
      have hy : a.eval y = .slice none 0 0 := by
        unfold nilC at p2
        split at p2
        · rfl
        · exact absurd p2 (by simp)
      unfold isSl at p3
      split at p3
      · rename_i et
        obtain ⟨inf, d, z, hi, hu, h1, h2, h3, h4⟩ := tOK_out (hS.τ _ _ et)
        obtain rfl := descOK_slice h3
        refine Good.pure h (v := .bool ad.isNone) ?_ ?_
        · rw [Sem.run_bind, eqGuard_ok _ t x y _ _ (.inr (.inr ⟨ad, len, cap, hv⟩)), Result.andThen_ok, hv, hy]
          simp only [binOp, Op.equal, Op.maxDepth, Sem.run_bind, run_equalIn_nil 9999 t _ ad len cap hu, Result.andThen_ok]
          rfl
        · show R _ _ _ (.isnil _) _
          rw [R]
          refine ⟨_, rfl, fun hn => ?_⟩
          have : cap = 0 := hnil (by simpa using hn)
          have : rs.length = 0 := by omega
          simp [List.length_eq_zero_iff.1 this]
      · exact absurd p3 (by simp)
    · exact hp.elim
  · exact hp.elim
end
end Go.Proofs.Ytedhhjmjlpnlpaa.VW
