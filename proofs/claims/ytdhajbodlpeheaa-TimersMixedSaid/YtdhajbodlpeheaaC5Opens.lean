/- What the laws' arguments are read as: for each struct type and slice type that they have. -/
import Derived.Test.YtdhajbodlpeheaaC5Qx0
import Derived.Test.YtdhajbodlpeheaaC5MRows
namespace Go.Proofs.Ytdhajbodlpeheaa.Q
open Go.RowKit Go.Proofs.YtdhajbodlpeheaaW.PrintWords
def wf32 (x : S32) : Prop := (Lit.int .i64 x.f0).wf = true ∧ (Lit.int .i64 x.f1).wf = true
theorem opens32 : Opens Try.prog 32 k32 wf32 := opens_iso (fun x : S32 => (x.f0, x.f1)) (fun p => ⟨p.1, p.2⟩) (fun _ => rfl) (opens_struct Try.underlying32 (opensL_cons rfl (by kernel_rfl) (opens_int Try.underlying2) (opensL_last rfl (by kernel_rfl) (opens_int Try.underlying2))))
def wf34 (x : S34) : Prop := wf32 x.f0 ∧ (Lit.int .i64 x.f1).wf = true
theorem opens34 : Opens Try.prog 34 k34 wf34 := opens_iso (fun x : S34 => (x.f0, x.f1)) (fun p => ⟨p.1, p.2⟩) (fun _ => rfl) (opens_struct Try.underlying34 (opensL_cons rfl (by kernel_rfl) opens32 (opensL_last rfl (by kernel_rfl) (opens_int Try.underlying2))))
theorem opens22 : Opens Try.prog 22 (Kd.slice 34 k34) (fun l => (∀ y ∈ l, wf34 y)) := @opens_slice _ _ 22 34 _ _ ⟨z34⟩ Try.underlying22 (by kernel_rfl) opens34
theorem opens56 : Opens Try.prog 56 (Kd.slice 4 Kd.bool) (fun l => (∀ y ∈ l, True)) := @opens_slice _ _ 56 4 _ _ ⟨false⟩ Try.underlying56 (by kernel_rfl) (opens_bool Try.underlying4)
end Go.Proofs.Ytdhajbodlpeheaa.Q
