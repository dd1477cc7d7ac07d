/- Regions with their guards looked up once. -/
import Derived.Test.YtedhhjmjlpnlpaaW2
namespace Go.Proofs.Ytedhhjmjlpnlpaa.VW
open Go Go.RowKit
set_option linter.unusedVariables false
set_option linter.unusedSimpArgs false
def nthD : List Oper → Nat → Option Nat
  | [], _ => none
  | o :: _, 0 => o.dst
  | _ :: l, n + 1 => nthD l n
abbrev Trp := Option Nat × Op × Option (Option Nat × Bool)
def tripG (all : List Oper) : Option (Nat × Bool) → Option (Option Nat × Bool)
  | none => none
  | some (j, w) => some (nthD all j, w)
def tripL (all : List Oper) : List Oper → List Trp
  | [] => []
  | o :: r => (o.dst, o.op, tripG all o.guard) :: tripL all r
def trip (ops : Array Oper) : List Trp := tripL ops.toList ops.toList
def gstep (S : Sg) (fr : Nat) (d : Option Nat) (op : Op) (g : Bool) (K : St → Prop) (σ : St) : Prop := match (opOut S fr g σ (d.getD 0) op).ws with
  | [] => (g = true → (opOut S fr g σ (d.getD 0) op).pre) ∧ K (σ.put d (.opt g (opOut S fr g σ (d.getD 0) op).v))
  | x :: ws => (g = true → (opOut S fr g σ (d.getD 0) op).pre ∧ K ((σ.wr (x :: ws)).put d (.opt true (opOut S fr g σ (d.getD 0) op).v))) ∧ (g = false → K (σ.put d (.opt false .dead)))
def gOn (S : Sg) (fr : Nat) (d : Option Nat) (op : Op) (w : Bool) (K : St → Prop) (σ : St) : AV → Prop
  | .bool c => gstep S fr d op (gOf c w) K σ
  | .opt b (.bool c) => gstep S fr d op (b && gOf c w) K σ
  | _ => False
def stepT (S : Sg) (fr N : Nat) (x : Trp) (K : St → Prop) (σ : St) : Prop :=
  okDst N x.1 = true ∧ match x.2.2 with
  | none => (opOut S fr true σ (x.1.getD 0) x.2.1).pre ∧ K ((σ.wr (opOut S fr true σ (x.1.getD 0) x.2.1).ws).put x.1 (opOut S fr true σ (x.1.getD 0) x.2.1).v)
  | some (none, _) => False
  | some (some d, w) => gOn S fr x.1 x.2.1 w K σ (σ.T d)
def stepsT (S : Sg) (fr N : Nat) : List Trp → (St → Prop) → St → Prop
  | [], K, σ => K σ
  | x :: r, K, σ => stepT S fr N x (stepsT S fr N r K) σ
section
variable {S : Sg} {fr N : Nat} {K : Ex → St → Prop} {σ : St}
theorem nthD_ok : ∀ (l : List Oper) (j : Nat), nthD l j = (l[j]?).bind (·.dst)
  | [], j => by simp [nthD]
  | o :: l, 0 => by simp [nthD]
  | o :: l, j + 1 => by rw [nthD, nthD_ok l j]; simp
theorem stepT_ok (ops : Array Oper) (o : Oper) (K : St → Prop) (σ : St) : stepT S fr N (o.dst, o.op, tripG ops.toList o.guard) K σ = stepK S fr N ops o K σ := by
  unfold stepT stepK
  congr 1
  cases hg : o.guard with
  | none => simp [tripG]
  | some x =>
    obtain ⟨j, w⟩ := x
    simp only [tripG]
    unfold gval
    rw [hg]
    simp only
    have e : nthD ops.toList j = (ops[j]?).bind (·.dst) := by rw [nthD_ok, Array.getElem?_toList]
    rw [e]
    cases hd : (ops[j]?).bind (·.dst) with
    | none => rfl
    | some d =>
      simp only
      cases hT : σ.T d with
      | bool c => rfl
      | opt b v => cases v <;> rfl
      | _ => rfl
theorem stepsT_ok (ops : Array Oper) : ∀ (l : List Oper) (K : St → Prop) (σ : St), stepsT S fr N (tripL ops.toList l) K σ = stepsK S fr N ops l K σ
  | [], K, σ => rfl
  | o :: l, K, σ => by
    rw [tripL, stepsT, stepsK, stepT_ok]
    congr 1
    funext σ'
    exact stepsT_ok ops l K σ'
@[simp 2000] theorem awp_regT {id : Nat} {ops : Array Oper} {t u v} : awp ⟨t, u, v, fun _ => none⟩ fr N (.region id ops false) K σ = stepsT ⟨t, u, v, fun _ => none⟩ fr N (trip ops) (K .nrm) σ := by
  rw [trip, stepsT_ok]; rfl
theorem awp_regTS {id : Nat} {ops : Array Oper} (h : S.sp id = none) : awp S fr N (.region id ops false) K σ = stepsT S fr N (trip ops) (K .nrm) σ := by
  rw [trip, stepsT_ok]; exact awp_regS h
/-- Code cut in two: I holds between. -/
theorem awp_cut {x y : Code} (I : St → Prop) (hx : ∀ J : St → Prop, (∀ σ', I σ' → J σ') → awp S fr N x (thenK J K) σ) (hy : ∀ σ', I σ' → awp S fr N y K σ') : awp S fr N (.seq x y) K σ := hx _ hy
end
attribute [simp] trip tripL tripG nthD stepsT stepT gOn gstep
end Go.Proofs.Ytedhhjmjlpnlpaa.VW
