/- The types of this seat, and their '=='. -/
import Derived.Test.YtedhhjmjlpnlpaaW0
namespace Go.Proofs.Ytedhhjmjlpnlpaa.VW
open Go Go.RowKit
set_option linter.unusedVariables false
set_option linter.unusedSimpArgs false
def ti2 : TI := ⟨.int .i64, 1, 8, [.int .i64 0]⟩
def ti3 : TI := ⟨.int .i64, 1, 8, [.int .i64 0]⟩
def ti4 : TI := ⟨.bool, 1, 1, [.bool false]⟩
def ti5 : TI := ⟨.int .u8, 1, 1, [.int .u8 0]⟩
def ti22 : TI := ⟨.slice 72, 1, 24, [.sl true []]⟩
def ti24 : TI := ⟨.struct [(0, 5), (1, 3)], 2, 16, [.int .u8 0, .int .i64 0]⟩
def ti25 : TI := ⟨.slice 60, 1, 24, [.sl true []]⟩
def ti26 : TI := ⟨.slice 2, 1, 24, [.sl true []]⟩
def ti27 : TI := ⟨.slice 124, 1, 24, [.sl true []]⟩
def ti28 : TI := ⟨.slice 56, 1, 24, [.sl true []]⟩
def ti29 : TI := ⟨.slice 51, 1, 24, [.sl true []]⟩
def ti31 : TI := ⟨.struct [(0, 24), (2, 3), (3, 25), (4, 26), (5, 27), (6, 22), (7, 28), (8, 29)], 9, 168, [.int .u8 0, .int .i64 0, .int .i64 0, .sl true [], .sl true [], .sl true [], .sl true [], .sl true [], .sl true []]⟩
def ti32 : TI := ⟨.int .i64, 1, 8, [.int .i64 0]⟩
def ti39 : TI := ⟨.slice 64, 1, 24, [.sl true []]⟩
def ti51 : TI := ⟨.struct [(0, 2), (1, 2), (2, 2)], 3, 24, [.int .i64 0, .int .i64 0, .int .i64 0]⟩
def ti53 : TI := ⟨.struct [(0, 2), (1, 2)], 2, 16, [.int .i64 0, .int .i64 0]⟩
def ti54 : TI := ⟨.array 2 2, 2, 16, [.int .i64 0, .int .i64 0]⟩
def ti56 : TI := ⟨.struct [(0, 2), (1, 53), (3, 54)], 5, 40, [.int .i64 0, .int .i64 0, .int .i64 0, .int .i64 0, .int .i64 0]⟩
def ti58 : TI := ⟨.struct [(0, 5), (1, 51), (4, 2), (5, 56)], 10, 80, [.int .u8 0, .int .i64 0, .int .i64 0, .int .i64 0, .int .i64 0, .int .i64 0, .int .i64 0, .int .i64 0, .int .i64 0, .int .i64 0]⟩
def ti60 : TI := ⟨.struct [(0, 3), (1, 58)], 11, 88, [.int .i64 0, .int .u8 0, .int .i64 0, .int .i64 0, .int .i64 0, .int .i64 0, .int .i64 0, .int .i64 0, .int .i64 0, .int .i64 0, .int .i64 0]⟩
def ti62 : TI := ⟨.slice 58, 1, 24, [.sl true []]⟩
def ti64 : TI := ⟨.struct [(0, 3), (1, 62)], 2, 32, [.int .i64 0, .sl true []]⟩
def ti72 : TI := ⟨.struct [(0, 4), (1, 2), (2, 51)], 5, 40, [.bool false, .int .i64 0, .int .i64 0, .int .i64 0, .int .i64 0]⟩
def ti105 : TI := ⟨.slice 4, 1, 24, [.sl true []]⟩
def ti121 : TI := ⟨.struct [(0, 2), (1, 2), (2, 2), (3, 2)], 4, 32, [.int .i64 0, .int .i64 0, .int .i64 0, .int .i64 0]⟩
def ti122 : TI := ⟨.array 2 121, 8, 64, [.int .i64 0, .int .i64 0, .int .i64 0, .int .i64 0, .int .i64 0, .int .i64 0, .int .i64 0, .int .i64 0]⟩
def ti124 : TI := ⟨.struct [(0, 2), (1, 53), (3, 122)], 11, 88, [.int .i64 0, .int .i64 0, .int .i64 0, .int .i64 0, .int .i64 0, .int .i64 0, .int .i64 0, .int .i64 0, .int .i64 0, .int .i64 0, .int .i64 0]⟩
def ti126 : TI := ⟨.slice 3, 1, 24, [.sl true []]⟩
def ti140 : TI := ⟨.slice 31, 1, 24, [.sl true []]⟩
def ti165 : TI := ⟨.slice 39, 1, 24, [.sl true []]⟩
def tau : Nat → Option TI
  | 2 => some ti2
  | 3 => some ti3
  | 4 => some ti4
  | 5 => some ti5
  | 22 => some ti22
  | 24 => some ti24
  | 25 => some ti25
  | 26 => some ti26
  | 27 => some ti27
  | 28 => some ti28
  | 29 => some ti29
  | 31 => some ti31
  | 32 => some ti32
  | 39 => some ti39
  | 51 => some ti51
  | 53 => some ti53
  | 54 => some ti54
  | 56 => some ti56
  | 58 => some ti58
  | 60 => some ti60
  | 62 => some ti62
  | 64 => some ti64
  | 72 => some ti72
  | 105 => some ti105
  | 121 => some ti121
  | 122 => some ti122
  | 124 => some ti124
  | 126 => some ti126
  | 140 => some ti140
  | 165 => some ti165
  | _ => none
theorem tau2 : tau 2 = some ⟨.int .i64, 1, 8, [.int .i64 0]⟩ := rfl
theorem tau3 : tau 3 = some ⟨.int .i64, 1, 8, [.int .i64 0]⟩ := rfl
theorem tau4 : tau 4 = some ⟨.bool, 1, 1, [.bool false]⟩ := rfl
theorem tau5 : tau 5 = some ⟨.int .u8, 1, 1, [.int .u8 0]⟩ := rfl
theorem tau22 : tau 22 = some ⟨.slice 72, 1, 24, [.sl true []]⟩ := rfl
theorem tau24 : tau 24 = some ⟨.struct [(0, 5), (1, 3)], 2, 16, [.int .u8 0, .int .i64 0]⟩ := rfl
theorem tau25 : tau 25 = some ⟨.slice 60, 1, 24, [.sl true []]⟩ := rfl
theorem tau26 : tau 26 = some ⟨.slice 2, 1, 24, [.sl true []]⟩ := rfl
theorem tau27 : tau 27 = some ⟨.slice 124, 1, 24, [.sl true []]⟩ := rfl
theorem tau28 : tau 28 = some ⟨.slice 56, 1, 24, [.sl true []]⟩ := rfl
theorem tau29 : tau 29 = some ⟨.slice 51, 1, 24, [.sl true []]⟩ := rfl
theorem tau31 : tau 31 = some ⟨.struct [(0, 24), (2, 3), (3, 25), (4, 26), (5, 27), (6, 22), (7, 28), (8, 29)], 9, 168, [.int .u8 0, .int .i64 0, .int .i64 0, .sl true [], .sl true [], .sl true [], .sl true [], .sl true [], .sl true []]⟩ := rfl
theorem tau32 : tau 32 = some ⟨.int .i64, 1, 8, [.int .i64 0]⟩ := rfl
theorem tau39 : tau 39 = some ⟨.slice 64, 1, 24, [.sl true []]⟩ := rfl
theorem tau51 : tau 51 = some ⟨.struct [(0, 2), (1, 2), (2, 2)], 3, 24, [.int .i64 0, .int .i64 0, .int .i64 0]⟩ := rfl
theorem tau53 : tau 53 = some ⟨.struct [(0, 2), (1, 2)], 2, 16, [.int .i64 0, .int .i64 0]⟩ := rfl
theorem tau54 : tau 54 = some ⟨.array 2 2, 2, 16, [.int .i64 0, .int .i64 0]⟩ := rfl
theorem tau56 : tau 56 = some ⟨.struct [(0, 2), (1, 53), (3, 54)], 5, 40, [.int .i64 0, .int .i64 0, .int .i64 0, .int .i64 0, .int .i64 0]⟩ := rfl
theorem tau58 : tau 58 = some ⟨.struct [(0, 5), (1, 51), (4, 2), (5, 56)], 10, 80, [.int .u8 0, .int .i64 0, .int .i64 0, .int .i64 0, .int .i64 0, .int .i64 0, .int .i64 0, .int .i64 0, .int .i64 0, .int .i64 0]⟩ := rfl
theorem tau60 : tau 60 = some ⟨.struct [(0, 3), (1, 58)], 11, 88, [.int .i64 0, .int .u8 0, .int .i64 0, .int .i64 0, .int .i64 0, .int .i64 0, .int .i64 0, .int .i64 0, .int .i64 0, .int .i64 0, .int .i64 0]⟩ := rfl
theorem tau62 : tau 62 = some ⟨.slice 58, 1, 24, [.sl true []]⟩ := rfl
theorem tau64 : tau 64 = some ⟨.struct [(0, 3), (1, 62)], 2, 32, [.int .i64 0, .sl true []]⟩ := rfl
theorem tau72 : tau 72 = some ⟨.struct [(0, 4), (1, 2), (2, 51)], 5, 40, [.bool false, .int .i64 0, .int .i64 0, .int .i64 0, .int .i64 0]⟩ := rfl
theorem tau105 : tau 105 = some ⟨.slice 4, 1, 24, [.sl true []]⟩ := rfl
theorem tau121 : tau 121 = some ⟨.struct [(0, 2), (1, 2), (2, 2), (3, 2)], 4, 32, [.int .i64 0, .int .i64 0, .int .i64 0, .int .i64 0]⟩ := rfl
theorem tau122 : tau 122 = some ⟨.array 2 121, 8, 64, [.int .i64 0, .int .i64 0, .int .i64 0, .int .i64 0, .int .i64 0, .int .i64 0, .int .i64 0, .int .i64 0]⟩ := rfl
theorem tau124 : tau 124 = some ⟨.struct [(0, 2), (1, 53), (3, 122)], 11, 88, [.int .i64 0, .int .i64 0, .int .i64 0, .int .i64 0, .int .i64 0, .int .i64 0, .int .i64 0, .int .i64 0, .int .i64 0, .int .i64 0, .int .i64 0]⟩ := rfl
theorem tau126 : tau 126 = some ⟨.slice 3, 1, 24, [.sl true []]⟩ := rfl
theorem tau140 : tau 140 = some ⟨.slice 31, 1, 24, [.sl true []]⟩ := rfl
theorem tau165 : tau 165 = some ⟨.slice 39, 1, 24, [.sl true []]⟩ := rfl
theorem tok2 : tOK Try.prog 2 ti2 = true := by kernel_rfl
theorem tok3 : tOK Try.prog 3 ti3 = true := by kernel_rfl
theorem tok4 : tOK Try.prog 4 ti4 = true := by kernel_rfl
theorem tok5 : tOK Try.prog 5 ti5 = true := by kernel_rfl
theorem tok22 : tOK Try.prog 22 ti22 = true := by kernel_rfl
theorem tok24 : tOK Try.prog 24 ti24 = true := by kernel_rfl
theorem tok25 : tOK Try.prog 25 ti25 = true := by kernel_rfl
theorem tok26 : tOK Try.prog 26 ti26 = true := by kernel_rfl
theorem tok27 : tOK Try.prog 27 ti27 = true := by kernel_rfl
theorem tok28 : tOK Try.prog 28 ti28 = true := by kernel_rfl
theorem tok29 : tOK Try.prog 29 ti29 = true := by kernel_rfl
theorem tok31 : tOK Try.prog 31 ti31 = true := by kernel_rfl
theorem tok32 : tOK Try.prog 32 ti32 = true := by kernel_rfl
theorem tok39 : tOK Try.prog 39 ti39 = true := by kernel_rfl
theorem tok51 : tOK Try.prog 51 ti51 = true := by kernel_rfl
theorem tok53 : tOK Try.prog 53 ti53 = true := by kernel_rfl
theorem tok54 : tOK Try.prog 54 ti54 = true := by kernel_rfl
theorem tok56 : tOK Try.prog 56 ti56 = true := by kernel_rfl
theorem tok58 : tOK Try.prog 58 ti58 = true := by kernel_rfl
theorem tok60 : tOK Try.prog 60 ti60 = true := by kernel_rfl
theorem tok62 : tOK Try.prog 62 ti62 = true := by kernel_rfl
theorem tok64 : tOK Try.prog 64 ti64 = true := by kernel_rfl
theorem tok72 : tOK Try.prog 72 ti72 = true := by kernel_rfl
theorem tok105 : tOK Try.prog 105 ti105 = true := by kernel_rfl
theorem tok121 : tOK Try.prog 121 ti121 = true := by kernel_rfl
theorem tok122 : tOK Try.prog 122 ti122 = true := by kernel_rfl
theorem tok124 : tOK Try.prog 124 ti124 = true := by kernel_rfl
theorem tok126 : tOK Try.prog 126 ti126 = true := by kernel_rfl
theorem tok140 : tOK Try.prog 140 ti140 = true := by kernel_rfl
theorem tok165 : tOK Try.prog 165 ti165 = true := by kernel_rfl
theorem tau_ok (t : Nat) (i : TI) (h : tau t = some i) : tOK Try.prog t i = true := by
  unfold tau at h
  split at h
  · cases h; exact tok2
  · cases h; exact tok3
  · cases h; exact tok4
  · cases h; exact tok5
  · cases h; exact tok22
  · cases h; exact tok24
  · cases h; exact tok25
  · cases h; exact tok26
  · cases h; exact tok27
  · cases h; exact tok28
  · cases h; exact tok29
  · cases h; exact tok31
  · cases h; exact tok32
  · cases h; exact tok39
  · cases h; exact tok51
  · cases h; exact tok53
  · cases h; exact tok54
  · cases h; exact tok56
  · cases h; exact tok58
  · cases h; exact tok60
  · cases h; exact tok62
  · cases h; exact tok64
  · cases h; exact tok72
  · cases h; exact tok105
  · cases h; exact tok121
  · cases h; exact tok122
  · cases h; exact tok124
  · cases h; exact tok126
  · cases h; exact tok140
  · cases h; exact tok165
  · cases h
def eqt : Nat → Option (List (Option IntKind))
  | 24 => some [some .u8, some .i64]
  | 51 => some [some .i64, some .i64, some .i64]
  | 56 => some [some .i64, some .i64, some .i64, some .i64, some .i64]
  | 58 => some [some .u8, some .i64, some .i64, some .i64, some .i64, some .i64, some .i64, some .i64, some .i64, some .i64]
  | 60 => some [some .i64, some .u8, some .i64, some .i64, some .i64, some .i64, some .i64, some .i64, some .i64, some .i64, some .i64]
  | 72 => some [none, some .i64, some .i64, some .i64, some .i64]
  | 121 => some [some .i64, some .i64, some .i64, some .i64]
  | 124 => some [some .i64, some .i64, some .i64, some .i64, some .i64, some .i64, some .i64, some .i64, some .i64, some .i64, some .i64]
  | _ => none
theorem confV_int {k : IntKind} {s : List (Option IntKind)} {vs : List Value} (h : confV (some k :: s) vs = true) : ∃ n r, vs = .int k n :: r ∧ confV s r = true := by
  cases vs with
  | nil => simp [confV] at h
  | cons v r => cases v <;> simp [confV] at h; exact ⟨_, r, by rw [h.1], h.2⟩
theorem confV_bool {s : List (Option IntKind)} {vs : List Value} (h : confV (none :: s) vs = true) : ∃ n r, vs = .bool n :: r ∧ confV s r = true := by
  cases vs with
  | nil => simp [confV] at h
  | cons v r => cases v <;> simp [confV] at h; exact ⟨_, r, rfl, h⟩
theorem confV_nil {vs : List Value} (h : confV [] vs = true) : vs = [] := by
  cases vs with
  | nil => rfl
  | cons v r => simp [confV] at h
theorem eqg24 : Try.prog.eqGuardType Try.prog.depth 24 = false := by kernel_rfl
theorem eqs24 (vs us : List Value) (w : World) (h : confV [some .u8, some .i64] vs = true) (h' : confV [some .u8, some .i64] us = true) : (Op.equalIn 10000 24 (.agg vs.toArray) (.agg us.toArray)).run Try.prog w = .ok (vEq vs us) w := by
  obtain ⟨x0, r, rfl, p1⟩ := confV_int h
  obtain ⟨x1, r, rfl, p2⟩ := confV_int p1
  obtain rfl := confV_nil p2
  obtain ⟨y0, r, rfl, q1⟩ := confV_int h'
  obtain ⟨y1, r, rfl, q2⟩ := confV_int q1
  obtain rfl := confV_nil q2
  rw [show (10000 : Nat) = 9998 + 2 from rfl]
  refine (eqA24 9998 w x0 y0 x1 y1).trans ?_
  simp only [vEq, Bool.and_assoc, Bool.and_true]
theorem eqg51 : Try.prog.eqGuardType Try.prog.depth 51 = false := by kernel_rfl
theorem eqs51 (vs us : List Value) (w : World) (h : confV [some .i64, some .i64, some .i64] vs = true) (h' : confV [some .i64, some .i64, some .i64] us = true) : (Op.equalIn 10000 51 (.agg vs.toArray) (.agg us.toArray)).run Try.prog w = .ok (vEq vs us) w := by
  obtain ⟨x0, r, rfl, p1⟩ := confV_int h
  obtain ⟨x1, r, rfl, p2⟩ := confV_int p1
  obtain ⟨x2, r, rfl, p3⟩ := confV_int p2
  obtain rfl := confV_nil p3
  obtain ⟨y0, r, rfl, q1⟩ := confV_int h'
  obtain ⟨y1, r, rfl, q2⟩ := confV_int q1
  obtain ⟨y2, r, rfl, q3⟩ := confV_int q2
  obtain rfl := confV_nil q3
  rw [show (10000 : Nat) = 9998 + 2 from rfl]
  refine (eqA51 9998 w x0 y0 x1 y1 x2 y2).trans ?_
  simp only [vEq, Bool.and_assoc, Bool.and_true]
theorem eqg56 : Try.prog.eqGuardType Try.prog.depth 56 = false := by kernel_rfl
theorem eqs56 (vs us : List Value) (w : World) (h : confV [some .i64, some .i64, some .i64, some .i64, some .i64] vs = true) (h' : confV [some .i64, some .i64, some .i64, some .i64, some .i64] us = true) : (Op.equalIn 10000 56 (.agg vs.toArray) (.agg us.toArray)).run Try.prog w = .ok (vEq vs us) w := by
  obtain ⟨x0, r, rfl, p1⟩ := confV_int h
  obtain ⟨x1, r, rfl, p2⟩ := confV_int p1
  obtain ⟨x2, r, rfl, p3⟩ := confV_int p2
  obtain ⟨x3, r, rfl, p4⟩ := confV_int p3
  obtain ⟨x4, r, rfl, p5⟩ := confV_int p4
  obtain rfl := confV_nil p5
  obtain ⟨y0, r, rfl, q1⟩ := confV_int h'
  obtain ⟨y1, r, rfl, q2⟩ := confV_int q1
  obtain ⟨y2, r, rfl, q3⟩ := confV_int q2
  obtain ⟨y3, r, rfl, q4⟩ := confV_int q3
  obtain ⟨y4, r, rfl, q5⟩ := confV_int q4
  obtain rfl := confV_nil q5
  rw [show (10000 : Nat) = 9997 + 3 from rfl]
  refine (eqA56 9997 w x0 y0 x1 y1 x2 y2 x3 y3 x4 y4).trans ?_
  simp only [vEq, Bool.and_assoc, Bool.and_true]
theorem eqg58 : Try.prog.eqGuardType Try.prog.depth 58 = false := by kernel_rfl
theorem eqs58 (vs us : List Value) (w : World) (h : confV [some .u8, some .i64, some .i64, some .i64, some .i64, some .i64, some .i64, some .i64, some .i64, some .i64] vs = true) (h' : confV [some .u8, some .i64, some .i64, some .i64, some .i64, some .i64, some .i64, some .i64, some .i64, some .i64] us = true) : (Op.equalIn 10000 58 (.agg vs.toArray) (.agg us.toArray)).run Try.prog w = .ok (vEq vs us) w := by
  obtain ⟨x0, r, rfl, p1⟩ := confV_int h
  obtain ⟨x1, r, rfl, p2⟩ := confV_int p1
  obtain ⟨x2, r, rfl, p3⟩ := confV_int p2
  obtain ⟨x3, r, rfl, p4⟩ := confV_int p3
  obtain ⟨x4, r, rfl, p5⟩ := confV_int p4
  obtain ⟨x5, r, rfl, p6⟩ := confV_int p5
  obtain ⟨x6, r, rfl, p7⟩ := confV_int p6
  obtain ⟨x7, r, rfl, p8⟩ := confV_int p7
  obtain ⟨x8, r, rfl, p9⟩ := confV_int p8
  obtain ⟨x9, r, rfl, p10⟩ := confV_int p9
  obtain rfl := confV_nil p10
  obtain ⟨y0, r, rfl, q1⟩ := confV_int h'
  obtain ⟨y1, r, rfl, q2⟩ := confV_int q1
  obtain ⟨y2, r, rfl, q3⟩ := confV_int q2
  obtain ⟨y3, r, rfl, q4⟩ := confV_int q3
  obtain ⟨y4, r, rfl, q5⟩ := confV_int q4
  obtain ⟨y5, r, rfl, q6⟩ := confV_int q5
  obtain ⟨y6, r, rfl, q7⟩ := confV_int q6
  obtain ⟨y7, r, rfl, q8⟩ := confV_int q7
  obtain ⟨y8, r, rfl, q9⟩ := confV_int q8
  obtain ⟨y9, r, rfl, q10⟩ := confV_int q9
  obtain rfl := confV_nil q10
  rw [show (10000 : Nat) = 9996 + 4 from rfl]
  refine (eqA58 9996 w x0 y0 x1 y1 x2 y2 x3 y3 x4 y4 x5 y5 x6 y6 x7 y7 x8 y8 x9 y9).trans ?_
  simp only [vEq, Bool.and_assoc, Bool.and_true]
theorem eqg60 : Try.prog.eqGuardType Try.prog.depth 60 = false := by kernel_rfl
theorem eqs60 (vs us : List Value) (w : World) (h : confV [some .i64, some .u8, some .i64, some .i64, some .i64, some .i64, some .i64, some .i64, some .i64, some .i64, some .i64] vs = true) (h' : confV [some .i64, some .u8, some .i64, some .i64, some .i64, some .i64, some .i64, some .i64, some .i64, some .i64, some .i64] us = true) : (Op.equalIn 10000 60 (.agg vs.toArray) (.agg us.toArray)).run Try.prog w = .ok (vEq vs us) w := by
  obtain ⟨x0, r, rfl, p1⟩ := confV_int h
  obtain ⟨x1, r, rfl, p2⟩ := confV_int p1
  obtain ⟨x2, r, rfl, p3⟩ := confV_int p2
  obtain ⟨x3, r, rfl, p4⟩ := confV_int p3
  obtain ⟨x4, r, rfl, p5⟩ := confV_int p4
  obtain ⟨x5, r, rfl, p6⟩ := confV_int p5
  obtain ⟨x6, r, rfl, p7⟩ := confV_int p6
  obtain ⟨x7, r, rfl, p8⟩ := confV_int p7
  obtain ⟨x8, r, rfl, p9⟩ := confV_int p8
  obtain ⟨x9, r, rfl, p10⟩ := confV_int p9
  obtain ⟨x10, r, rfl, p11⟩ := confV_int p10
  obtain rfl := confV_nil p11
  obtain ⟨y0, r, rfl, q1⟩ := confV_int h'
  obtain ⟨y1, r, rfl, q2⟩ := confV_int q1
  obtain ⟨y2, r, rfl, q3⟩ := confV_int q2
  obtain ⟨y3, r, rfl, q4⟩ := confV_int q3
  obtain ⟨y4, r, rfl, q5⟩ := confV_int q4
  obtain ⟨y5, r, rfl, q6⟩ := confV_int q5
  obtain ⟨y6, r, rfl, q7⟩ := confV_int q6
  obtain ⟨y7, r, rfl, q8⟩ := confV_int q7
  obtain ⟨y8, r, rfl, q9⟩ := confV_int q8
  obtain ⟨y9, r, rfl, q10⟩ := confV_int q9
  obtain ⟨y10, r, rfl, q11⟩ := confV_int q10
  obtain rfl := confV_nil q11
  rw [show (10000 : Nat) = 9995 + 5 from rfl]
  refine (eqA60 9995 w x0 y0 x1 y1 x2 y2 x3 y3 x4 y4 x5 y5 x6 y6 x7 y7 x8 y8 x9 y9 x10 y10).trans ?_
  simp only [vEq, Bool.and_assoc, Bool.and_true]
theorem eqg72 : Try.prog.eqGuardType Try.prog.depth 72 = false := by kernel_rfl
theorem eqs72 (vs us : List Value) (w : World) (h : confV [none, some .i64, some .i64, some .i64, some .i64] vs = true) (h' : confV [none, some .i64, some .i64, some .i64, some .i64] us = true) : (Op.equalIn 10000 72 (.agg vs.toArray) (.agg us.toArray)).run Try.prog w = .ok (vEq vs us) w := by
  obtain ⟨x0, r, rfl, p1⟩ := confV_bool h
  obtain ⟨x1, r, rfl, p2⟩ := confV_int p1
  obtain ⟨x2, r, rfl, p3⟩ := confV_int p2
  obtain ⟨x3, r, rfl, p4⟩ := confV_int p3
  obtain ⟨x4, r, rfl, p5⟩ := confV_int p4
  obtain rfl := confV_nil p5
  obtain ⟨y0, r, rfl, q1⟩ := confV_bool h'
  obtain ⟨y1, r, rfl, q2⟩ := confV_int q1
  obtain ⟨y2, r, rfl, q3⟩ := confV_int q2
  obtain ⟨y3, r, rfl, q4⟩ := confV_int q3
  obtain ⟨y4, r, rfl, q5⟩ := confV_int q4
  obtain rfl := confV_nil q5
  rw [show (10000 : Nat) = 9997 + 3 from rfl]
  refine (eqA72 9997 w x0 y0 x1 y1 x2 y2 x3 y3 x4 y4).trans ?_
  simp only [vEq, Bool.and_assoc, Bool.and_true]
theorem eqg121 : Try.prog.eqGuardType Try.prog.depth 121 = false := by kernel_rfl
theorem eqs121 (vs us : List Value) (w : World) (h : confV [some .i64, some .i64, some .i64, some .i64] vs = true) (h' : confV [some .i64, some .i64, some .i64, some .i64] us = true) : (Op.equalIn 10000 121 (.agg vs.toArray) (.agg us.toArray)).run Try.prog w = .ok (vEq vs us) w := by
  obtain ⟨x0, r, rfl, p1⟩ := confV_int h
  obtain ⟨x1, r, rfl, p2⟩ := confV_int p1
  obtain ⟨x2, r, rfl, p3⟩ := confV_int p2
  obtain ⟨x3, r, rfl, p4⟩ := confV_int p3
  obtain rfl := confV_nil p4
  obtain ⟨y0, r, rfl, q1⟩ := confV_int h'
  obtain ⟨y1, r, rfl, q2⟩ := confV_int q1
  obtain ⟨y2, r, rfl, q3⟩ := confV_int q2
  obtain ⟨y3, r, rfl, q4⟩ := confV_int q3
  obtain rfl := confV_nil q4
  rw [show (10000 : Nat) = 9998 + 2 from rfl]
  refine (eqA121 9998 w x0 y0 x1 y1 x2 y2 x3 y3).trans ?_
  simp only [vEq, Bool.and_assoc, Bool.and_true]
theorem eqg124 : Try.prog.eqGuardType Try.prog.depth 124 = false := by kernel_rfl
theorem eqs124 (vs us : List Value) (w : World) (h : confV [some .i64, some .i64, some .i64, some .i64, some .i64, some .i64, some .i64, some .i64, some .i64, some .i64, some .i64] vs = true) (h' : confV [some .i64, some .i64, some .i64, some .i64, some .i64, some .i64, some .i64, some .i64, some .i64, some .i64, some .i64] us = true) : (Op.equalIn 10000 124 (.agg vs.toArray) (.agg us.toArray)).run Try.prog w = .ok (vEq vs us) w := by
  obtain ⟨x0, r, rfl, p1⟩ := confV_int h
  obtain ⟨x1, r, rfl, p2⟩ := confV_int p1
  obtain ⟨x2, r, rfl, p3⟩ := confV_int p2
  obtain ⟨x3, r, rfl, p4⟩ := confV_int p3
  obtain ⟨x4, r, rfl, p5⟩ := confV_int p4
  obtain ⟨x5, r, rfl, p6⟩ := confV_int p5
  obtain ⟨x6, r, rfl, p7⟩ := confV_int p6
  obtain ⟨x7, r, rfl, p8⟩ := confV_int p7
  obtain ⟨x8, r, rfl, p9⟩ := confV_int p8
  obtain ⟨x9, r, rfl, p10⟩ := confV_int p9
  obtain ⟨x10, r, rfl, p11⟩ := confV_int p10
  obtain rfl := confV_nil p11
  obtain ⟨y0, r, rfl, q1⟩ := confV_int h'
  obtain ⟨y1, r, rfl, q2⟩ := confV_int q1
  obtain ⟨y2, r, rfl, q3⟩ := confV_int q2
  obtain ⟨y3, r, rfl, q4⟩ := confV_int q3
  obtain ⟨y4, r, rfl, q5⟩ := confV_int q4
  obtain ⟨y5, r, rfl, q6⟩ := confV_int q5
  obtain ⟨y6, r, rfl, q7⟩ := confV_int q6
  obtain ⟨y7, r, rfl, q8⟩ := confV_int q7
  obtain ⟨y8, r, rfl, q9⟩ := confV_int q8
  obtain ⟨y9, r, rfl, q10⟩ := confV_int q9
  obtain ⟨y10, r, rfl, q11⟩ := confV_int q10
  obtain rfl := confV_nil q11
  rw [show (10000 : Nat) = 9996 + 4 from rfl]
  refine (eqA124 9996 w x0 y0 x1 y1 x2 y2 x3 y3 x4 y4 x5 y5 x6 y6 x7 y7 x8 y8 x9 y9 x10 y10).trans ?_
  simp only [vEq, Bool.and_assoc, Bool.and_true]
theorem eqt_ok (t : Nat) (sh : List (Option IntKind)) (h : eqt t = some sh) : Try.prog.eqGuardType Try.prog.depth t = false ∧ ∀ vs us w, confV sh vs = true → confV sh us = true → (Op.equalIn 10000 t (.agg vs.toArray) (.agg us.toArray)).run Try.prog w = .ok (vEq vs us) w := by
  unfold eqt at h
  split at h
  · cases h; exact ⟨eqg24, eqs24⟩
  · cases h; exact ⟨eqg51, eqs51⟩
  · cases h; exact ⟨eqg56, eqs56⟩
  · cases h; exact ⟨eqg58, eqs58⟩
  · cases h; exact ⟨eqg60, eqs60⟩
  · cases h; exact ⟨eqg72, eqs72⟩
  · cases h; exact ⟨eqg121, eqs121⟩
  · cases h; exact ⟨eqg124, eqs124⟩
  · cases h
theorem mixed : Try.prog.follows .mixedOrders = true := by kernel_rfl
abbrev Spec := List AV → Option (Prop × AV × List Blk)
def SOK (f : Nat) (s : Spec) : Prop := ∀ xs q r bs, s xs = some (q, r, bs) → q → FS Try.prog f xs r bs
def sg (Γ : Nat → Spec) : Sg := ⟨tau, Γ, eqt, fun _ => none⟩
theorem sg_ok {Γ : Nat → Spec} (h : ∀ f, SOK f (Γ f)) : OK Try.prog (sg Γ) := ⟨tau_ok, fun f xs q r bs e hq => h f xs q r bs e hq, eqt_ok, fun id f h => by cases h⟩
end Go.Proofs.Ytedhhjmjlpnlpaa.VW
