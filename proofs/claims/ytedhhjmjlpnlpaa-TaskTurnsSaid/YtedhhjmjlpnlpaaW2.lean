/- What the walks over values are simplified by; the structs of this seat as Lean's own. -/
import Derived.Test.YtedhhjmjlpnlpaaW1
namespace Go.Proofs.Ytedhhjmjlpnlpaa.VW
open Go Go.RowKit
set_option linter.unusedVariables false
set_option linter.unusedSimpArgs false

structure Rec where
  k : Int
  t : Int
  v : Int
  deriving DecidableEq, Inhabited
structure Ev where
  m : Bool
  t : Int
  r : Rec
  deriving DecidableEq, Inhabited
structure Row where
  k : Int
  s : Int
  e : Int
  a : Int
  b : Int
  deriving DecidableEq, Inhabited
structure Msg where
  kd : Int
  r : Rec
  t : Int
  w : Row
  deriving DecidableEq, Inhabited
structure Snd where
  o : Int
  m : Msg
  deriving DecidableEq, Inhabited
structure Acc where
  c : Int
  s : Int
  l : Int
  g : Int
  deriving DecidableEq, Inhabited
structure Etr where
  k : Int
  s : Int
  e : Int
  a : Acc
  b : Acc
  deriving DecidableEq, Inhabited
structure Que where
  rm : Int
  l : List Msg
  deriving DecidableEq, Inhabited
structure Tsk where
  kd : Int
  n : Int
  tn : Int
  pd : List Snd
  mx : List Int
  st : List Etr
  ev : List Ev
  rw : List Row
  lt : List Rec
  deriving DecidableEq, Inhabited

abbrev i64 (n : Int) : AV := .int .i64 n
@[simp] def eRec (r : Rec) : List AV := [.int .i64 r.k, .int .i64 r.t, .int .i64 r.v]
@[simp] def eEv (e : Ev) : List AV := [.bool e.m, .int .i64 e.t, .int .i64 e.r.k, .int .i64 e.r.t, .int .i64 e.r.v]
@[simp] def eRow (x : Row) : List AV := [.int .i64 x.k, .int .i64 x.s, .int .i64 x.e, .int .i64 x.a, .int .i64 x.b]
@[simp] def eMsg (m : Msg) : List AV := [.int .u8 m.kd, .int .i64 m.r.k, .int .i64 m.r.t, .int .i64 m.r.v, .int .i64 m.t, .int .i64 m.w.k, .int .i64 m.w.s, .int .i64 m.w.e, .int .i64 m.w.a, .int .i64 m.w.b]
@[simp] def eSnd (s : Snd) : List AV := [.int .i64 s.o, .int .u8 s.m.kd, .int .i64 s.m.r.k, .int .i64 s.m.r.t, .int .i64 s.m.r.v, .int .i64 s.m.t, .int .i64 s.m.w.k, .int .i64 s.m.w.s, .int .i64 s.m.w.e, .int .i64 s.m.w.a, .int .i64 s.m.w.b]
@[simp] def eAcc (a : Acc) : List AV := [.int .i64 a.c, .int .i64 a.s, .int .i64 a.l, .int .i64 a.g]
@[simp] def eEnt (x : Etr) : List AV := [.int .i64 x.k, .int .i64 x.s, .int .i64 x.e, .int .i64 x.a.c, .int .i64 x.a.s, .int .i64 x.a.l, .int .i64 x.a.g, .int .i64 x.b.c, .int .i64 x.b.s, .int .i64 x.b.l, .int .i64 x.b.g]
@[simp] def eInt (n : Int) : List AV := [.int .i64 n]
@[simp] def eQue (q : Que) : List AV := [.int .i64 q.rm, .sl false (q.l.map eMsg)]
@[simp] def eTsk (t : Tsk) : List AV := [.int .u8 t.kd, .int .i64 t.n, .int .i64 t.tn, .sl false (t.pd.map eSnd), .sl false (t.mx.map eInt), .sl false (t.st.map eEnt), .sl false (t.ev.map eEv), .sl false (t.rw.map eRow), .sl false (t.lt.map eRec)]

/-! back from cells -/
@[simp] def uRec : List AV → Rec
  | [.int _ a, .int _ b, .int _ c] => ⟨a, b, c⟩
  | _ => default
@[simp] def kRec : List AV → Bool
  | [.int .i64 _, .int .i64 _, .int .i64 _] => true
  | _ => false
@[simp] def uEv : List AV → Ev
  | [.bool m, .int _ t, .int _ a, .int _ b, .int _ c] => ⟨m, t, ⟨a, b, c⟩⟩
  | _ => default
@[simp] def kEv : List AV → Bool
  | [.bool _, .int .i64 _, .int .i64 _, .int .i64 _, .int .i64 _] => true
  | _ => false
@[simp] def uRow : List AV → Row
  | [.int _ k, .int _ s, .int _ e, .int _ a, .int _ b] => ⟨k, s, e, a, b⟩
  | _ => default
@[simp] def kRow : List AV → Bool
  | [.int .i64 _, .int .i64 _, .int .i64 _, .int .i64 _, .int .i64 _] => true
  | _ => false
@[simp] def uMsg : List AV → Msg
  | [.int _ kd, .int _ a, .int _ b, .int _ c, .int _ t, .int _ k, .int _ s, .int _ e, .int _ x, .int _ y] => ⟨kd, ⟨a, b, c⟩, t, ⟨k, s, e, x, y⟩⟩
  | _ => default
@[simp] def kMsg : List AV → Bool
  | [.int .u8 _, .int .i64 _, .int .i64 _, .int .i64 _, .int .i64 _, .int .i64 _, .int .i64 _, .int .i64 _, .int .i64 _, .int .i64 _] => true
  | _ => false
@[simp] def uSnd : List AV → Snd
  | [.int _ o, .int _ kd, .int _ a, .int _ b, .int _ c, .int _ t, .int _ k, .int _ s, .int _ e, .int _ x, .int _ y] => ⟨o, kd, ⟨a, b, c⟩, t, ⟨k, s, e, x, y⟩⟩
  | _ => default
@[simp] def kSnd : List AV → Bool
  | [.int .i64 _, .int .u8 _, .int .i64 _, .int .i64 _, .int .i64 _, .int .i64 _, .int .i64 _, .int .i64 _, .int .i64 _, .int .i64 _, .int .i64 _] => true
  | _ => false
@[simp] def uAcc : List AV → Acc
  | [.int _ a, .int _ b, .int _ c, .int _ d] => ⟨a, b, c, d⟩
  | _ => default
@[simp] def kAcc : List AV → Bool
  | [.int .i64 _, .int .i64 _, .int .i64 _, .int .i64 _] => true
  | _ => false
@[simp] def uEnt : List AV → Etr
  | [.int _ k, .int _ s, .int _ e, .int _ a, .int _ b, .int _ c, .int _ d, .int _ a', .int _ b', .int _ c', .int _ d'] => ⟨k, s, e, ⟨a, b, c, d⟩, ⟨a', b', c', d'⟩⟩
  | _ => default
@[simp] def kEnt : List AV → Bool
  | [.int .i64 _, .int .i64 _, .int .i64 _, .int .i64 _, .int .i64 _, .int .i64 _, .int .i64 _, .int .i64 _, .int .i64 _, .int .i64 _, .int .i64 _] => true
  | _ => false
@[simp] def uInt : List AV → Int
  | [.int _ n] => n
  | _ => 0
@[simp] def kInt : List AV → Bool
  | [.int .i64 _] => true
  | _ => false
@[simp] def uQue : List AV → Que
  | [.int _ n, .sl _ rs] => ⟨n, rs.map uMsg⟩
  | _ => default
@[simp] def kQue : List AV → Bool
  | [.int .i64 _, .sl false rs] => rs.all kMsg
  | _ => false
@[simp] def uTsk : List AV → Tsk
  | [.int _ kd, .int _ n, .int _ tn, .sl _ a, .sl _ b, .sl _ c, .sl _ d, .sl _ e, .sl _ f] => ⟨kd, n, tn, a.map uSnd, b.map uInt, c.map uEnt, d.map uEv, e.map uRow, f.map uRec⟩
  | _ => default
@[simp] def kTsk : List AV → Bool
  | [.int .u8 _, .int .i64 _, .int .i64 _, .sl _ a, .sl _ b, .sl _ c, .sl _ d, .sl _ e, .sl _ f] => a.all kSnd && b.all kInt && c.all kEnt && d.all kEv && e.all kRow && f.all kRec
  | _ => false
theorem kRec_ok {c : List AV} (h : kRec c = true) : c = eRec (uRec c) := by unfold kRec at h; split at h <;> first | rfl | cases h
theorem kEv_ok {c : List AV} (h : kEv c = true) : c = eEv (uEv c) := by unfold kEv at h; split at h <;> first | rfl | cases h
theorem kRow_ok {c : List AV} (h : kRow c = true) : c = eRow (uRow c) := by unfold kRow at h; split at h <;> first | rfl | cases h
theorem kMsg_ok {c : List AV} (h : kMsg c = true) : c = eMsg (uMsg c) := by unfold kMsg at h; split at h <;> first | rfl | cases h
theorem kSnd_ok {c : List AV} (h : kSnd c = true) : c = eSnd (uSnd c) := by unfold kSnd at h; split at h <;> first | rfl | cases h
theorem kAcc_ok {c : List AV} (h : kAcc c = true) : c = eAcc (uAcc c) := by unfold kAcc at h; split at h <;> first | rfl | cases h
theorem kEnt_ok {c : List AV} (h : kEnt c = true) : c = eEnt (uEnt c) := by unfold kEnt at h; split at h <;> first | rfl | cases h
theorem kInt_ok {c : List AV} (h : kInt c = true) : c = eInt (uInt c) := by unfold kInt at h; split at h <;> first | rfl | cases h
theorem rows_back {α : Type} {k : List AV → Bool} {e : α → List AV} {u : List AV → α} (hk : ∀ c, k c = true → c = e (u c)) : ∀ {rs : List (List AV)}, rs.all k = true → rs = (rs.map u).map e
  | [], _ => rfl
  | r :: rs, h => by
    rw [List.all_cons, Bool.and_eq_true] at h
    rw [List.map_cons, List.map_cons, ← hk r h.1, ← rows_back hk h.2]
theorem kQue_ok {c : List AV} (h : kQue c = true) : c = eQue (uQue c) := by
  unfold kQue at h
  split at h
  · simp only [uQue, eQue]; rw [← rows_back (fun c hc => kMsg_ok hc) h]
  · cases h
theorem kTsk_ok {c : List AV} (h : kTsk c = true) : c.map wk1 = eTsk (uTsk c) := by
  unfold kTsk at h
  split at h
  · simp only [Bool.and_eq_true] at h
    obtain ⟨⟨⟨⟨⟨h1, h2⟩, h3⟩, h4⟩, h5⟩, h6⟩ := h
    simp only [uTsk, eTsk, List.map_cons, List.map_nil, wk1]
    rw [← rows_back (fun c hc => kSnd_ok hc) h1, ← rows_back (fun c hc => kInt_ok hc) h2, ← rows_back (fun c hc => kEnt_ok hc) h3, ← rows_back (fun c hc => kEv_ok hc) h4, ← rows_back (fun c hc => kRow_ok hc) h5, ← rows_back (fun c hc => kRec_ok hc) h6]
  · cases h

/-! rows of a map -/
@[simp] theorem all_map_true {α : Type} (f : α → List AV) (p : List AV → Bool) (l : List α) (h : ∀ x, p (f x) = true) : (l.map f).all p = true := by
  rw [List.all_map, List.all_eq_true]; intro x _; exact h x
theorem getD_map {α : Type} [Inhabited α] (f : α → List AV) (l : List α) (i : Nat) (h : i < l.length) : (l.map f).getD i [] = f (l.getD i default) := by
  simp [List.getD, h]
theorem getQ_map {α : Type} [Inhabited α] (f : α → List AV) (l : List α) (i : Nat) (h : i < l.length) : (Option.map f l[i]?).getD [] = f (l.getD i default) := by
  simp [List.getD, h]
@[simp] theorem imm_map {α : Type} (f : α → List AV) (l : List α) (h : ∀ x, immL (f x) = true) : immR (l.map f) = true := immR_map f l h

/-! code, a step at a time -/
section
variable {S : Sg} {fr N : Nat} {K : Ex → St → Prop} {σ : St}
@[simp] theorem awp_skip : awp S fr N .skip K σ = K .nrm σ := rfl
@[simp] theorem awp_reg {id : Nat} {ops : Array Oper} {t u v} : awp ⟨t, u, v, fun _ => none⟩ fr N (.region id ops false) K σ = stepsK ⟨t, u, v, fun _ => none⟩ fr N ops ops.toList (K .nrm) σ := rfl
@[simp] theorem awp_draw {id : Nat} {ops : Array Oper} {t u v} : awp ⟨t, u, v, fun _ => none⟩ fr N (.region id ops true) K σ = drawK ⟨t, u, v, fun _ => none⟩ fr N ops (K .nrm) σ := rfl
theorem awp_regS {id : Nat} {ops : Array Oper} (h : S.sp id = none) : awp S fr N (.region id ops false) K σ = stepsK S fr N ops ops.toList (K .nrm) σ := by unfold awp; rw [h]
theorem awp_drawS {id : Nat} {ops : Array Oper} (h : S.sp id = none) : awp S fr N (.region id ops true) K σ = drawK S fr N ops (K .nrm) σ := by unfold awp; rw [h]
theorem awp_sp {id : Nat} {ops : Array Oper} {f} (h : S.sp id = some f) (hk : f N ops (K .nrm) σ) : awp S fr N (.region id ops false) K σ := by unfold awp; rw [h]; exact ⟨rfl, hk⟩
@[simp] theorem awp_seq {x y : Code} : awp S fr N (.seq x y) K σ = awp S fr N x (thenK (awp S fr N y K) K) σ := rfl
@[simp] theorem awp_cond {c : Operand} {x y : Code} : awp S fr N (.cond c x y) K σ = condK (σ.ev c) (awp S fr N x K σ) (awp S fr N y K σ) := rfl
@[simp] theorem awp_block {id : Nat} {c : Code} : awp S fr N (.block id c) K σ = awp S fr N c (blockK id K) σ := rfl
@[simp] theorem awp_exit {id : Nat} : awp S fr N (.exit id) K σ = K (.ext id) σ := rfl
@[simp] theorem awp_ret : awp S fr N .ret K σ = K .ret σ := rfl
/-- A loop: I holds at its head, μ falls. -/
theorem awp_loop {c : Code} (I : St → Prop) (μ : St → Nat) (h0 : I σ) (hr : ∀ σ', I σ' → ∀ J : St → Prop, (∀ σ'', I σ'' → μ σ'' < μ σ' → J σ'') → awp S fr N c (thenK J K) σ') : awp S fr N (.loop c) K σ :=
  ⟨I, μ, h0, fun σ' hI => hr σ' hI _ fun σ'' h1 h2 => ⟨h1, h2⟩⟩
def ival : AV → Int
  | .int _ n => n
  | _ => 0
@[simp] theorem ival_int (k : IntKind) (n : Int) : ival (.int k n) = n := rfl
end
attribute [simp] stepsK stepK St.ev cav strip strip1 oMove oPick pickv oNew oAlloc oBox oLoad oStore ldBlk ldRow stBlk stRow ldT setR cellsOf valOK cellOK oField placesOf oIndex oUn oExtract oBuild buildF oBuildSlice rowsF oSlice slOut bnd exOf oMake obin eqAgg conf cellsEq nilC isSl isBo ibin
  oCall args view view1 viewB frz frz1 frzB ren ren1 exKey exWs oLen oCap rowsOf apOut oAppend oCopy oMinMax biOut callOut opOut gOf gval okDst upd updK St.put St.wr St.wr1 thenK blockK condK sg resL resV ex3 ex2 ex1 kidx viewB finK finK2 St.nilOwn blkImm nz3 wk3 wk2 wk1 expB isEnd exOK exOK2 exOK1 imm immL immR init bad
  tau2 tau3 tau4 tau5 tau22 tau24 tau25 tau26 tau27 tau28 tau29 tau31 tau32 tau39 tau51 tau53 tau54 tau56 tau58 tau60 tau62 tau64 tau72 tau105 tau121 tau122 tau124 tau126 tau140 tau165 eqt
@[simp] theorem wrap_i64 (x : Int) (h1 : -9223372036854775808 ≤ x) (h2 : x ≤ 9223372036854775807) : IntKind.i64.wrap x = x := by rw [IntKind.wrap_i64]; omega

@[simp] theorem ue_Rec : uRec ∘ eRec = id := rfl
@[simp] theorem ue_Ev : uEv ∘ eEv = id := rfl
@[simp] theorem ue_Row : uRow ∘ eRow = id := rfl
@[simp] theorem ue_Msg : uMsg ∘ eMsg = id := rfl
@[simp] theorem ue_Snd : uSnd ∘ eSnd = id := rfl
@[simp] theorem ue_Ent : uEnt ∘ eEnt = id := rfl
@[simp] theorem ue_Int : uInt ∘ eInt = id := rfl
@[simp] theorem ue_Que : uQue ∘ eQue = id := by funext q; cases q; simp
theorem rows_ex {α : Type} {k : List AV → Bool} {e : α → List AV} {u : List AV → α} (hk : ∀ c, k c = true → c = e (u c)) {rs : List (List AV)} (h : rs.all k = true) : ∃ l : List α, rs = l.map e := ⟨rs.map u, rows_back hk h⟩
theorem kRec_wk {c : List AV} (h : kRec c = true) : c.map wk1 = eRec (uRec c) := by rw [kRec_ok h]; rfl
theorem kEv_wk {c : List AV} (h : kEv c = true) : c.map wk1 = eEv (uEv c) := by rw [kEv_ok h]; rfl
theorem kRow_wk {c : List AV} (h : kRow c = true) : c.map wk1 = eRow (uRow c) := by rw [kRow_ok h]; rfl
theorem kMsg_wk {c : List AV} (h : kMsg c = true) : c.map wk1 = eMsg (uMsg c) := by rw [kMsg_ok h]; rfl
theorem kSnd_wk {c : List AV} (h : kSnd c = true) : c.map wk1 = eSnd (uSnd c) := by rw [kSnd_ok h]; rfl
theorem kAcc_wk {c : List AV} (h : kAcc c = true) : c.map wk1 = eAcc (uAcc c) := by rw [kAcc_ok h]; rfl
theorem kEnt_wk {c : List AV} (h : kEnt c = true) : c.map wk1 = eEnt (uEnt c) := by rw [kEnt_ok h]; rfl
theorem kQue_wk {c : List AV} (h : kQue c = true) : c.map wk1 = eQue (uQue c) := by
  have := kQue_ok h
  generalize uQue c = q at *
  subst this; rfl
theorem kTsk_wk {c : List AV} (h : kTsk c = true) : c.map wk1 = eTsk (uTsk c) := kTsk_ok h
@[simp] theorem Rec.eta (x : Rec) : (⟨x.k, x.t, x.v⟩ : Rec) = x := rfl
@[simp] theorem Ev.eta (x : Ev) : (⟨x.m, x.t, x.r⟩ : Ev) = x := rfl
@[simp] theorem Row.eta (x : Row) : (⟨x.k, x.s, x.e, x.a, x.b⟩ : Row) = x := rfl
@[simp] theorem Msg.eta (x : Msg) : (⟨x.kd, x.r, x.t, x.w⟩ : Msg) = x := rfl
@[simp] theorem Snd.eta (x : Snd) : (⟨x.o, x.m⟩ : Snd) = x := rfl
@[simp] theorem Acc.eta (x : Acc) : (⟨x.c, x.s, x.l, x.g⟩ : Acc) = x := rfl
@[simp] theorem Etr.eta (x : Etr) : (⟨x.k, x.s, x.e, x.a, x.b⟩ : Etr) = x := rfl
@[simp] theorem Que.eta (x : Que) : (⟨x.rm, x.l⟩ : Que) = x := rfl
@[simp] theorem Tsk.eta (x : Tsk) : (⟨x.kd, x.n, x.tn, x.pd, x.mx, x.st, x.ev, x.rw, x.lt⟩ : Tsk) = x := rfl
/-! equal by their parts -/
theorem Rec_eq {a b : Rec} (h1 : a.k = b.k) (h2 : a.t = b.t) (h3 : a.v = b.v) : a = b := by cases a; cases b; simp_all
theorem Ev_eq {a b : Ev} (h1 : a.m = b.m) (h2 : a.t = b.t) (h3 : a.r.k = b.r.k) (h4 : a.r.t = b.r.t) (h5 : a.r.v = b.r.v) : a = b := by rcases a with ⟨_, _, _, _, _⟩; rcases b with ⟨_, _, _, _, _⟩; simp_all
theorem Row_eq {a b : Row} (h1 : a.k = b.k) (h2 : a.s = b.s) (h3 : a.e = b.e) (h4 : a.a = b.a) (h5 : a.b = b.b) : a = b := by cases a; cases b; simp_all
theorem Msg_eq {a b : Msg} (h0 : a.kd = b.kd) (h1 : a.r.k = b.r.k) (h2 : a.r.t = b.r.t) (h3 : a.r.v = b.r.v) (h4 : a.t = b.t) (h5 : a.w.k = b.w.k) (h6 : a.w.s = b.w.s) (h7 : a.w.e = b.w.e) (h8 : a.w.a = b.w.a) (h9 : a.w.b = b.w.b) : a = b := by
  have hr := Rec_eq h1 h2 h3; have hw := Row_eq h5 h6 h7 h8 h9
  cases a; cases b; simp_all
theorem Snd_eq {a b : Snd} (ho : a.o = b.o) (h0 : a.m.kd = b.m.kd) (h1 : a.m.r.k = b.m.r.k) (h2 : a.m.r.t = b.m.r.t) (h3 : a.m.r.v = b.m.r.v) (h4 : a.m.t = b.m.t) (h5 : a.m.w.k = b.m.w.k) (h6 : a.m.w.s = b.m.w.s) (h7 : a.m.w.e = b.m.w.e) (h8 : a.m.w.a = b.m.w.a) (h9 : a.m.w.b = b.m.w.b) : a = b := by
  have hm := Msg_eq h0 h1 h2 h3 h4 h5 h6 h7 h8 h9
  cases a; cases b; simp_all
theorem Acc_eq {a b : Acc} (h1 : a.c = b.c) (h2 : a.s = b.s) (h3 : a.l = b.l) (h4 : a.g = b.g) : a = b := by cases a; cases b; simp_all
theorem Etr_eq {a b : Etr} (h1 : a.k = b.k) (h2 : a.s = b.s) (h3 : a.e = b.e) (h4 : a.a.c = b.a.c) (h5 : a.a.s = b.a.s) (h6 : a.a.l = b.a.l) (h7 : a.a.g = b.a.g) (h8 : a.b.c = b.b.c) (h9 : a.b.s = b.b.s) (h10 : a.b.l = b.b.l) (h11 : a.b.g = b.b.g) : a = b := by
  have hx := Acc_eq h4 h5 h6 h7; have hy := Acc_eq h8 h9 h10 h11
  cases a; cases b; simp_all
/-! 'all' with a counter -/
def allL {α : Type} (p : α → Bool) (l : List α) : Bool := l.all p
theorem allL_step {α : Type} {p : α → Bool} {l : List α} {i : Nat} (h : i < l.length) (hp : allL p (l.take i) = true) (hi : p l[i] = true) : allL p (l.take (i + 1)) = true := by
  unfold allL at *
  rw [List.take_succ_eq_append_getElem h, List.all_append, hp]; simp [hi]
theorem allL_all {α : Type} {p : α → Bool} {l : List α} {i : Nat} (h : ¬ i < l.length) (hp : allL p (l.take i) = true) : allL p l = true := by
  rwa [List.take_of_length_le (by omega)] at hp
theorem allL_no {α : Type} {p : α → Bool} {l : List α} {i : Nat} (h : i < l.length) (hi : p l[i] = false) : allL p l = false := by
  unfold allL
  rw [Bool.eq_false_iff]
  intro ha
  rw [List.all_eq_true] at ha
  rw [ha _ (List.getElem_mem h)] at hi; cases hi
@[simp] theorem allL_nil {α : Type} (p : α → Bool) : allL p [] = true := rfl
/-! contracts, one upon the other -/
def noS : Nat → Spec := fun _ _ => none
theorem noS_ok : ∀ f, SOK f (noS f) := fun f xs q r bs h => by cases h
def gc (f : Nat) (s : Spec) (Γ : Nat → Spec) : Nat → Spec := fun q => if q = f then s else Γ q
theorem gc_ok {f : Nat} {s : Spec} {Γ : Nat → Spec} (hs : SOK f s) (h : ∀ q, SOK q (Γ q)) : ∀ q, SOK q (gc f s Γ q) := by
  intro q; unfold gc
  split
  · rename_i e; rw [e]; exact hs
  · exact h q
attribute [simp] gc noS
attribute [simp] drawK runD dOf dOut St.app lgOf keysAV keysF keys2 keys1 Oper.looksAt Op.operands Call.operands
end Go.Proofs.Ytedhhjmjlpnlpaa.VW
