/- What the laws' arguments are read as: tasks, queues, sends, events, messages. -/
import Derived.Test.YtedhhjmjlpnlpaaXO
namespace Go.Proofs.Ytedhhjmjlpnlpaa.VW
open Go Go.RowKit
set_option linter.unusedVariables false
set_option linter.unusedSimpArgs false
@[simp] def wRec (r : Rec) : Prop := inI r.k ∧ inI r.t ∧ inI r.v
@[simp] def wEv (e : Ev) : Prop := inI e.t ∧ wRec e.r
@[simp] def wRow (x : Row) : Prop := inI x.k ∧ inI x.s ∧ inI x.e ∧ inI x.a ∧ inI x.b
@[simp] def wMsg (m : Msg) : Prop := inU m.kd ∧ wRec m.r ∧ inI m.t ∧ wRow m.w
@[simp] def wSnd (s : Snd) : Prop := inI s.o ∧ wMsg s.m
@[simp] def wAcc (a : Acc) : Prop := inI a.c ∧ inI a.s ∧ inI a.l ∧ inI a.g
@[simp] def wEnt (x : Etr) : Prop := inI x.k ∧ inI x.s ∧ inI x.e ∧ wAcc x.a ∧ wAcc x.b
def wQue (q : Que) : Prop := inI q.rm ∧ q.l.length ≤ 9223372036854775807 ∧ ∀ m ∈ q.l, wMsg m
structure wTsk (t : Tsk) : Prop where
  kd : inU t.kd
  n : inI t.n
  tn : inI t.tn
  pd : t.pd.length ≤ 9223372036854775807 ∧ ∀ x ∈ t.pd, wSnd x
  mx : t.mx.length ≤ 9223372036854775807 ∧ ∀ x ∈ t.mx, inI x
  st : t.st.length ≤ 9223372036854775807 ∧ ∀ x ∈ t.st, wEnt x
  ev : t.ev.length ≤ 9223372036854775807 ∧ ∀ x ∈ t.ev, wEv x
  rw : t.rw.length ≤ 9223372036854775807 ∧ ∀ x ∈ t.rw, wRow x
  lt : t.lt.length ≤ 9223372036854775807 ∧ ∀ x ∈ t.lt, wRec x
def shE {α : Type} (e : α → List AV) (w : α → Prop) (xs : List AV) : Prop := ∃ a, xs = e a ∧ w a
theorem shS_rows {α : Type} {e : α → List AV} {w : α → Prop} {zs : List AV} (h : shS (shE e w) zs) : ∃ l : List α, zs = [.sl false (l.map e)] ∧ l.length ≤ 9223372036854775807 ∧ ∀ a ∈ l, w a := by
  obtain ⟨rows, rfl, h1, h2⟩ := h
  obtain ⟨l, rfl, h3⟩ := sh_rows (fun _ h => h) h2
  exact ⟨l, rfl, by simpa using h1, h3⟩
theorem op2 : Op Try.prog 2 1 (shI .i64) := op_int Try.underlying2
theorem op2' : Op Try.prog 2 1 (shE eInt inI) := op_mono op2 (by rintro _ ⟨n, rfl, h⟩; exact ⟨n, rfl, wfI h⟩)
theorem op3 : Op Try.prog 3 1 (shI .i64) := op_int Try.underlying3
theorem op4 : Op Try.prog 4 1 shB := op_bool Try.underlying4
theorem op5 : Op Try.prog 5 1 (shI .u8) := op_int Try.underlying5
theorem op51 : Op Try.prog 51 3 (shE eRec wRec) := op_mono (op_struct Try.underlying51 (by kernel_rfl) (opL_cons rfl (by kernel_rfl) rfl op2 (opL_cons rfl (by kernel_rfl) rfl op2 (opL_last rfl (by kernel_rfl) rfl op2)))) (by
  rintro _ ⟨_, _, rfl, ⟨a, rfl, ha⟩, _, _, rfl, ⟨b, rfl, hb⟩, c, rfl, hc⟩
  exact ⟨⟨a, b, c⟩, rfl, wfI ha, wfI hb, wfI hc⟩)
theorem op53 : Op Try.prog 53 2 (shP (shI .i64) (shI .i64)) := op_struct Try.underlying53 (by kernel_rfl) (opL_cons rfl (by kernel_rfl) rfl op2 (opL_last rfl (by kernel_rfl) rfl op2))
theorem op54 : Op Try.prog 54 2 (shP (shI .i64) (shI .i64)) := op_arr2 Try.underlying54 (by kernel_rfl) (by kernel_rfl) op2 rfl
theorem op56 : Op Try.prog 56 5 (shE eRow wRow) := op_mono (op_struct Try.underlying56 (by kernel_rfl) (opL_cons rfl (by kernel_rfl) rfl op2 (opL_cons rfl (by kernel_rfl) rfl op53 (opL_last rfl (by kernel_rfl) rfl op54)))) (by
  rintro _ ⟨_, _, rfl, ⟨a, rfl, ha⟩, _, _, rfl, ⟨_, _, rfl, ⟨b, rfl, hb⟩, c, rfl, hc⟩, _, _, rfl, ⟨d, rfl, hd⟩, e, rfl, he⟩
  exact ⟨⟨a, b, c, d, e⟩, rfl, wfI ha, wfI hb, wfI hc, wfI hd, wfI he⟩)
theorem op72 : Op Try.prog 72 5 (shE eEv wEv) := op_mono (op_struct Try.underlying72 (by kernel_rfl) (opL_cons rfl (by kernel_rfl) rfl op4 (opL_cons rfl (by kernel_rfl) rfl op2 (opL_last rfl (by kernel_rfl) rfl op51)))) (by
  rintro _ ⟨_, _, rfl, ⟨a, rfl⟩, _, _, rfl, ⟨b, rfl, hb⟩, c, rfl, hc⟩
  exact ⟨⟨a, b, c⟩, rfl, wfI hb, hc⟩)
theorem op58 : Op Try.prog 58 10 (shE eMsg wMsg) := op_mono (op_struct Try.underlying58 (by kernel_rfl) (opL_cons rfl (by kernel_rfl) rfl op5 (opL_cons rfl (by kernel_rfl) rfl op51 (opL_cons rfl (by kernel_rfl) rfl op2 (opL_last rfl (by kernel_rfl) rfl op56))))) (by
  rintro _ ⟨_, _, rfl, ⟨a, rfl, ha⟩, _, _, rfl, ⟨b, rfl, hb⟩, _, _, rfl, ⟨c, rfl, hc⟩, d, rfl, hd⟩
  exact ⟨⟨a, b, c, d⟩, rfl, wfU ha, hb, wfI hc, hd⟩)
theorem op60 : Op Try.prog 60 11 (shE eSnd wSnd) := op_mono (op_struct Try.underlying60 (by kernel_rfl) (opL_cons rfl (by kernel_rfl) rfl op3 (opL_last rfl (by kernel_rfl) rfl op58))) (by
  rintro _ ⟨_, _, rfl, ⟨a, rfl, ha⟩, b, rfl, hb⟩
  exact ⟨⟨a, b⟩, rfl, wfI ha, hb⟩)
theorem op121 : Op Try.prog 121 4 (shE eAcc wAcc) := op_mono (op_struct Try.underlying121 (by kernel_rfl) (opL_cons rfl (by kernel_rfl) rfl op2 (opL_cons rfl (by kernel_rfl) rfl op2 (opL_cons rfl (by kernel_rfl) rfl op2 (opL_last rfl (by kernel_rfl) rfl op2))))) (by
  rintro _ ⟨_, _, rfl, ⟨a, rfl, ha⟩, _, _, rfl, ⟨b, rfl, hb⟩, _, _, rfl, ⟨c, rfl, hc⟩, d, rfl, hd⟩
  exact ⟨⟨a, b, c, d⟩, rfl, wfI ha, wfI hb, wfI hc, wfI hd⟩)
theorem op122 : Op Try.prog 122 8 (shP (shE eAcc wAcc) (shE eAcc wAcc)) := op_arr2 Try.underlying122 (by kernel_rfl) (by kernel_rfl) op121 rfl
theorem op124 : Op Try.prog 124 11 (shE eEnt wEnt) := op_mono (op_struct Try.underlying124 (by kernel_rfl) (opL_cons rfl (by kernel_rfl) rfl op2 (opL_cons rfl (by kernel_rfl) rfl op53 (opL_last rfl (by kernel_rfl) rfl op122)))) (by
  rintro _ ⟨_, _, rfl, ⟨a, rfl, ha⟩, _, _, rfl, ⟨_, _, rfl, ⟨b, rfl, hb⟩, c, rfl, hc⟩, _, _, rfl, ⟨d, rfl, hd⟩, e, rfl, he⟩
  exact ⟨⟨a, b, c, d, e⟩, rfl, wfI ha, wfI hb, wfI hc, hd, he⟩)
theorem op22 : Op Try.prog 22 1 (shS (shE eEv wEv)) := op_slice Try.underlying22 (by kernel_rfl) (by decide) op72
theorem op25 : Op Try.prog 25 1 (shS (shE eSnd wSnd)) := op_slice Try.underlying25 (by kernel_rfl) (by decide) op60
theorem op26 : Op Try.prog 26 1 (shS (shE eInt inI)) := op_slice Try.underlying26 (by kernel_rfl) (by decide) op2'
theorem op27 : Op Try.prog 27 1 (shS (shE eEnt wEnt)) := op_slice Try.underlying27 (by kernel_rfl) (by decide) op124
theorem op28 : Op Try.prog 28 1 (shS (shE eRow wRow)) := op_slice Try.underlying28 (by kernel_rfl) (by decide) op56
theorem op29 : Op Try.prog 29 1 (shS (shE eRec wRec)) := op_slice Try.underlying29 (by kernel_rfl) (by decide) op51
theorem op62 : Op Try.prog 62 1 (shS (shE eMsg wMsg)) := op_slice Try.underlying62 (by kernel_rfl) (by decide) op58
theorem op24 : Op Try.prog 24 2 (shP (shI .u8) (shI .i64)) := op_struct Try.underlying24 (by kernel_rfl) (opL_cons rfl (by kernel_rfl) rfl op5 (opL_last rfl (by kernel_rfl) rfl op3))
theorem op64 : Op Try.prog 64 2 (shE eQue wQue) := op_mono (op_struct Try.underlying64 (by kernel_rfl) (opL_cons rfl (by kernel_rfl) rfl op3 (opL_last rfl (by kernel_rfl) rfl op62))) (by
  rintro _ ⟨_, _, rfl, ⟨a, rfl, ha⟩, hb⟩
  obtain ⟨l, rfl, h1, h2⟩ := shS_rows hb
  exact ⟨⟨a, l⟩, rfl, wfI ha, h1, h2⟩)
theorem op39 : Op Try.prog 39 1 (shS (shE eQue wQue)) := op_slice Try.underlying39 (by kernel_rfl) (by decide) op64
theorem op31 : Op Try.prog 31 9 (shE eTsk wTsk) := op_mono (op_struct Try.underlying31 (by kernel_rfl) (opL_cons rfl (by kernel_rfl) rfl op24 (opL_cons rfl (by kernel_rfl) rfl op3 (opL_cons rfl (by kernel_rfl) rfl op25 (opL_cons rfl (by kernel_rfl) rfl op26 (opL_cons rfl (by kernel_rfl) rfl op27 (opL_cons rfl (by kernel_rfl) rfl op22 (opL_cons rfl (by kernel_rfl) rfl op28 (opL_last rfl (by kernel_rfl) rfl op29))))))))) (by
  rintro _ ⟨_, _, rfl, ⟨_, _, rfl, ⟨kd, rfl, h1⟩, n, rfl, h2⟩, _, _, rfl, ⟨tn, rfl, h3⟩, _, _, rfl, h4, _, _, rfl, h5, _, _, rfl, h6, _, _, rfl, h7, _, _, rfl, h8, h9⟩
  obtain ⟨a, rfl, a1, a2⟩ := shS_rows h4
  obtain ⟨b, rfl, b1, b2⟩ := shS_rows h5
  obtain ⟨c, rfl, c1, c2⟩ := shS_rows h6
  obtain ⟨d, rfl, d1, d2⟩ := shS_rows h7
  obtain ⟨e, rfl, e1, e2⟩ := shS_rows h8
  obtain ⟨f, rfl, f1, f2⟩ := shS_rows h9
  exact ⟨⟨kd, n, tn, a, b, c, d, e, f⟩, rfl, wfU h1, wfI h2, wfI h3, ⟨a1, a2⟩, ⟨b1, b2⟩, ⟨c1, c2⟩, ⟨d1, d2⟩, ⟨e1, e2⟩, ⟨f1, f2⟩⟩)
/-- a slice, an aggregate, as the law has them -/
theorem R_one {w : World} {F : Nat → Prop} {E : Key → Inf} {x : AV} {v : Value} (h : RA w F E [x] [v]) : R w F E x v := by
  rw [RA] at h
  obtain ⟨u, us, e, h1, _⟩ := h
  cases e; exact h1
theorem R_agg {w : World} {F : Nat → Prop} {E : Key → Inf} {xs : List AV} {cs : Array Value} (h : RA w F E xs cs.toList) : R w F E (.agg xs) (.agg cs) := by
  rw [R]; exact ⟨cs.toList, by simp, h⟩
end Go.Proofs.Ytedhhjmjlpnlpaa.VW
