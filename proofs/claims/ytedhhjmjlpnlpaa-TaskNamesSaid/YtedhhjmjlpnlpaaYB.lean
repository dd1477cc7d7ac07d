/- TaskNames. -/
import Derived.Test.YtedhhjmjlpnlpaaYE
import Derived.Test.YtedhhjmjlpnlpaaY9
namespace Go.Proofs.Ytedhhjmjlpnlpaa.VW
open Go Go.RowKit
set_option linter.unusedVariables false
set_option linter.unusedSimpArgs false

theorem thenK_thenK6 (A J : St → Prop) (K : Ex → St → Prop) : thenK A (thenK J K) = thenK A K := by
  funext e σ; cases e <;> rfl
theorem awp_assoc6 {S : Sg} {fr N : Nat} {x y z : Code} {K : Ex → St → Prop} {σ : St} : awp S fr N (.seq x (.seq y z)) K σ = awp S fr N (.seq (.seq x y) z) K σ := by
  show awp S fr N x (thenK (awp S fr N y (thenK (awp S fr N z K) K)) K) σ = awp S fr N x (thenK (awp S fr N y (thenK (awp S fr N z K) K)) (thenK (awp S fr N z K) K)) σ
  rw [thenK_thenK6]
set_option maxRecDepth 100000 in
theorem n6_0 : enE ⟨2, 0, 0, [], [-9223372036854775808], [], [], [], []⟩ [⟨0, []⟩, ⟨0, []⟩, ⟨0, []⟩, ⟨0, []⟩, ⟨0, []⟩] [] = 4 := by decide
set_option maxRecDepth 100000 in
theorem n6_1 : enB ⟨2, 0, 0, [], [-9223372036854775808], [], [], [], []⟩ [⟨0, []⟩, ⟨0, []⟩, ⟨0, []⟩, ⟨0, []⟩, ⟨0, []⟩] [] = false := by decide
set_option maxRecDepth 100000 in
theorem n6_2 : enE ⟨2, 0, 0, [], [-9223372036854775808], [], [], [], []⟩ [] [⟨0, []⟩, ⟨0, []⟩, ⟨0, []⟩, ⟨0, []⟩] = 4 := by decide
set_option maxRecDepth 100000 in
theorem n6_3 : enB ⟨2, 0, 0, [], [-9223372036854775808], [], [], [], []⟩ [] [⟨0, []⟩, ⟨0, []⟩, ⟨0, []⟩, ⟨0, []⟩] = false := by decide
set_option maxRecDepth 100000 in
theorem n6_4 : enE ⟨2, 0, 0, [], [-9223372036854775808], [], [], [], []⟩ [⟨2, []⟩, ⟨2, [⟨2, ⟨0, 0, 0⟩, 7, ⟨0, 0, 0, 0, 0⟩⟩]⟩, ⟨2, [⟨2, ⟨0, 0, 0⟩, 8, ⟨0, 0, 0, 0, 0⟩⟩, ⟨2, ⟨0, 0, 0⟩, 9, ⟨0, 0, 0, 0, 0⟩⟩]⟩] [⟨0, []⟩] = 8 := by decide
set_option maxRecDepth 100000 in
theorem n6_5 : enB ⟨2, 0, 0, [], [-9223372036854775808], [], [], [], []⟩ [⟨2, []⟩, ⟨2, [⟨2, ⟨0, 0, 0⟩, 7, ⟨0, 0, 0, 0, 0⟩⟩]⟩, ⟨2, [⟨2, ⟨0, 0, 0⟩, 8, ⟨0, 0, 0, 0, 0⟩⟩, ⟨2, ⟨0, 0, 0⟩, 9, ⟨0, 0, 0, 0, 0⟩⟩]⟩] [⟨0, []⟩] = false := by decide
set_option maxRecDepth 100000 in
theorem n6_6 : enE ⟨2, 0, 0, [(⟨1, ⟨2, ⟨0, 0, 0⟩, 1, ⟨0, 0, 0, 0, 0⟩⟩⟩ : Snd)], [-9223372036854775808], [], [], [], []⟩ [] [⟨2, []⟩] = 2 := by decide
set_option maxRecDepth 100000 in
theorem n6_7 : enB ⟨2, 0, 0, [(⟨1, ⟨2, ⟨0, 0, 0⟩, 1, ⟨0, 0, 0, 0, 0⟩⟩⟩ : Snd)], [-9223372036854775808], [], [], [], []⟩ [] [⟨2, []⟩] = false := by decide
set_option maxRecDepth 100000 in
theorem n6_8 : turnE ⟨2, 0, 0, [], [-9223372036854775808], [], [], [], []⟩ [] = 6 := by decide
set_option maxRecDepth 100000 in
theorem n6_9 : turnK ⟨2, 0, 0, [], [-9223372036854775808], [], [], [], []⟩ [] = 0 := by decide
set_option maxRecDepth 100000 in
theorem n6_10 : turnT ⟨2, 0, 0, [], [-9223372036854775808], [], [], [], []⟩ [] = zT := by decide
set_option maxRecDepth 100000 in
theorem n6_11 : turnE ⟨2, 0, 0, [], [-9223372036854775808], [], [], [], []⟩ [⟨2, []⟩] = 6 := by decide
set_option maxRecDepth 100000 in
theorem n6_12 : turnK ⟨2, 0, 0, [], [-9223372036854775808], [], [], [], []⟩ [⟨2, []⟩] = 0 := by decide
set_option maxRecDepth 100000 in
theorem n6_13 : turnT ⟨2, 0, 0, [], [-9223372036854775808], [], [], [], []⟩ [⟨2, []⟩] = zT := by decide
set_option maxRecDepth 100000 in
theorem n6_14 : turnE ⟨2, 0, 0, [(⟨1, ⟨2, ⟨0, 0, 0⟩, 1, ⟨0, 0, 0, 0, 0⟩⟩⟩ : Snd)], [-9223372036854775808], [], [], [], []⟩ [⟨2, []⟩, ⟨2, [⟨2, ⟨0, 0, 0⟩, 7, ⟨0, 0, 0, 0, 0⟩⟩]⟩, ⟨2, [⟨2, ⟨0, 0, 0⟩, 8, ⟨0, 0, 0, 0, 0⟩⟩, ⟨2, ⟨0, 0, 0⟩, 9, ⟨0, 0, 0, 0, 0⟩⟩]⟩] = 6 := by decide
set_option maxRecDepth 100000 in
theorem n6_15 : turnK ⟨2, 0, 0, [(⟨1, ⟨2, ⟨0, 0, 0⟩, 1, ⟨0, 0, 0, 0, 0⟩⟩⟩ : Snd)], [-9223372036854775808], [], [], [], []⟩ [⟨2, []⟩, ⟨2, [⟨2, ⟨0, 0, 0⟩, 7, ⟨0, 0, 0, 0, 0⟩⟩]⟩, ⟨2, [⟨2, ⟨0, 0, 0⟩, 8, ⟨0, 0, 0, 0, 0⟩⟩, ⟨2, ⟨0, 0, 0⟩, 9, ⟨0, 0, 0, 0, 0⟩⟩]⟩] = 0 := by decide
set_option maxRecDepth 100000 in
theorem n6_16 : turnT ⟨2, 0, 0, [(⟨1, ⟨2, ⟨0, 0, 0⟩, 1, ⟨0, 0, 0, 0, 0⟩⟩⟩ : Snd)], [-9223372036854775808], [], [], [], []⟩ [⟨2, []⟩, ⟨2, [⟨2, ⟨0, 0, 0⟩, 7, ⟨0, 0, 0, 0, 0⟩⟩]⟩, ⟨2, [⟨2, ⟨0, 0, 0⟩, 8, ⟨0, 0, 0, 0, 0⟩⟩, ⟨2, ⟨0, 0, 0⟩, 9, ⟨0, 0, 0, 0, 0⟩⟩]⟩] = zT := by decide
set_option maxRecDepth 100000 in
theorem n6_17 : turnE ⟨2, 0, 0, [], [-9223372036854775808], [], [], [], []⟩ [⟨2, []⟩, ⟨2, [⟨2, ⟨0, 0, 0⟩, 7, ⟨0, 0, 0, 0, 0⟩⟩]⟩, ⟨2, [⟨2, ⟨0, 0, 0⟩, 8, ⟨0, 0, 0, 0, 0⟩⟩, ⟨2, ⟨0, 0, 0⟩, 9, ⟨0, 0, 0, 0, 0⟩⟩]⟩] = 0 := by decide
set_option maxRecDepth 100000 in
theorem n6_18 : turnK ⟨2, 0, 0, [], [-9223372036854775808], [], [], [], []⟩ [⟨2, []⟩, ⟨2, [⟨2, ⟨0, 0, 0⟩, 7, ⟨0, 0, 0, 0, 0⟩⟩]⟩, ⟨2, [⟨2, ⟨0, 0, 0⟩, 8, ⟨0, 0, 0, 0, 0⟩⟩, ⟨2, ⟨0, 0, 0⟩, 9, ⟨0, 0, 0, 0, 0⟩⟩]⟩] = 1 := by decide
set_option maxRecDepth 100000 in
theorem n6_19 : turnT ⟨2, 0, 0, [], [-9223372036854775808], [], [], [], []⟩ [⟨2, []⟩, ⟨2, [⟨2, ⟨0, 0, 0⟩, 7, ⟨0, 0, 0, 0, 0⟩⟩]⟩, ⟨2, [⟨2, ⟨0, 0, 0⟩, 8, ⟨0, 0, 0, 0, 0⟩⟩, ⟨2, ⟨0, 0, 0⟩, 9, ⟨0, 0, 0, 0, 0⟩⟩]⟩] = ⟨2, 0, 2, [], [-9223372036854775808], [], [], [], []⟩ := by decide
set_option maxRecDepth 100000 in
theorem n6_20 : turnE ⟨2, 0, 2, [], [-9223372036854775808], [], [], [], []⟩ [⟨2, []⟩, ⟨2, [⟨2, ⟨0, 0, 0⟩, 7, ⟨0, 0, 0, 0, 0⟩⟩]⟩, ⟨2, [⟨2, ⟨0, 0, 0⟩, 8, ⟨0, 0, 0, 0, 0⟩⟩, ⟨2, ⟨0, 0, 0⟩, 9, ⟨0, 0, 0, 0, 0⟩⟩]⟩] = 0 := by decide
set_option maxRecDepth 100000 in
theorem n6_21 : turnK ⟨2, 0, 2, [], [-9223372036854775808], [], [], [], []⟩ [⟨2, []⟩, ⟨2, [⟨2, ⟨0, 0, 0⟩, 7, ⟨0, 0, 0, 0, 0⟩⟩]⟩, ⟨2, [⟨2, ⟨0, 0, 0⟩, 8, ⟨0, 0, 0, 0, 0⟩⟩, ⟨2, ⟨0, 0, 0⟩, 9, ⟨0, 0, 0, 0, 0⟩⟩]⟩] = 2 := by decide
set_option maxRecDepth 100000 in
theorem n6_22 : turnT ⟨2, 0, 2, [], [-9223372036854775808], [], [], [], []⟩ [⟨2, []⟩, ⟨2, [⟨2, ⟨0, 0, 0⟩, 7, ⟨0, 0, 0, 0, 0⟩⟩]⟩, ⟨2, [⟨2, ⟨0, 0, 0⟩, 8, ⟨0, 0, 0, 0, 0⟩⟩, ⟨2, ⟨0, 0, 0⟩, 9, ⟨0, 0, 0, 0, 0⟩⟩]⟩] = ⟨2, 0, 0, [], [-9223372036854775808], [], [], [], []⟩ := by decide
set_option maxRecDepth 100000 in
theorem n6_23 : turnE ⟨2, 0, 19, [], [-9223372036854775808], [], [], [], []⟩ [⟨2, []⟩, ⟨2, [⟨2, ⟨0, 0, 0⟩, 7, ⟨0, 0, 0, 0, 0⟩⟩]⟩, ⟨2, [⟨2, ⟨0, 0, 0⟩, 8, ⟨0, 0, 0, 0, 0⟩⟩, ⟨2, ⟨0, 0, 0⟩, 9, ⟨0, 0, 0, 0, 0⟩⟩]⟩] = 0 := by decide
set_option maxRecDepth 100000 in
theorem n6_24 : turnK ⟨2, 0, 19, [], [-9223372036854775808], [], [], [], []⟩ [⟨2, []⟩, ⟨2, [⟨2, ⟨0, 0, 0⟩, 7, ⟨0, 0, 0, 0, 0⟩⟩]⟩, ⟨2, [⟨2, ⟨0, 0, 0⟩, 8, ⟨0, 0, 0, 0, 0⟩⟩, ⟨2, ⟨0, 0, 0⟩, 9, ⟨0, 0, 0, 0, 0⟩⟩]⟩] = 1 := by decide
set_option maxRecDepth 100000 in
theorem n6_25 : turnT ⟨2, 0, 19, [], [-9223372036854775808], [], [], [], []⟩ [⟨2, []⟩, ⟨2, [⟨2, ⟨0, 0, 0⟩, 7, ⟨0, 0, 0, 0, 0⟩⟩]⟩, ⟨2, [⟨2, ⟨0, 0, 0⟩, 8, ⟨0, 0, 0, 0, 0⟩⟩, ⟨2, ⟨0, 0, 0⟩, 9, ⟨0, 0, 0, 0, 0⟩⟩]⟩] = ⟨2, 0, 2, [], [-9223372036854775808], [], [], [], []⟩ := by decide
set_option maxRecDepth 100000 in
theorem n6_26 : sdE ⟨2, 0, 19, [], [-9223372036854775808], [], [], [], []⟩ [⟨2, []⟩, ⟨2, [⟨2, ⟨0, 0, 0⟩, 7, ⟨0, 0, 0, 0, 0⟩⟩]⟩, ⟨2, [⟨2, ⟨0, 0, 0⟩, 8, ⟨0, 0, 0, 0, 0⟩⟩, ⟨2, ⟨0, 0, 0⟩, 9, ⟨0, 0, 0, 0, 0⟩⟩]⟩] = 6 := by decide
set_option maxRecDepth 100000 in
theorem n6_27 : sdT ⟨2, 0, 19, [], [-9223372036854775808], [], [], [], []⟩ [⟨2, []⟩, ⟨2, [⟨2, ⟨0, 0, 0⟩, 7, ⟨0, 0, 0, 0, 0⟩⟩]⟩, ⟨2, [⟨2, ⟨0, 0, 0⟩, 8, ⟨0, 0, 0, 0, 0⟩⟩, ⟨2, ⟨0, 0, 0⟩, 9, ⟨0, 0, 0, 0, 0⟩⟩]⟩] = zT := by decide
set_option maxRecDepth 100000 in
theorem n6_28 : sdQ ⟨2, 0, 19, [], [-9223372036854775808], [], [], [], []⟩ [⟨2, []⟩, ⟨2, [⟨2, ⟨0, 0, 0⟩, 7, ⟨0, 0, 0, 0, 0⟩⟩]⟩, ⟨2, [⟨2, ⟨0, 0, 0⟩, 8, ⟨0, 0, 0, 0, 0⟩⟩, ⟨2, ⟨0, 0, 0⟩, 9, ⟨0, 0, 0, 0, 0⟩⟩]⟩] = [] := by decide
set_option maxRecDepth 100000 in
theorem n6_29 : sdE ⟨2, 0, 0, [(⟨1, ⟨2, ⟨0, 0, 0⟩, 1, ⟨0, 0, 0, 0, 0⟩⟩⟩ : Snd)], [-9223372036854775808], [], [], [], []⟩ [⟨2, []⟩] = 2 := by decide
set_option maxRecDepth 100000 in
theorem n6_30 : sdT ⟨2, 0, 0, [(⟨1, ⟨2, ⟨0, 0, 0⟩, 1, ⟨0, 0, 0, 0, 0⟩⟩⟩ : Snd)], [-9223372036854775808], [], [], [], []⟩ [⟨2, []⟩] = zT := by decide
set_option maxRecDepth 100000 in
theorem n6_31 : sdQ ⟨2, 0, 0, [(⟨1, ⟨2, ⟨0, 0, 0⟩, 1, ⟨0, 0, 0, 0, 0⟩⟩⟩ : Snd)], [-9223372036854775808], [], [], [], []⟩ [⟨2, []⟩] = [] := by decide
set_option maxRecDepth 100000 in
theorem n6_32 : sdE ⟨2, 0, 0, [(⟨1, ⟨2, ⟨0, 0, 0⟩, 1, ⟨0, 0, 0, 0, 0⟩⟩⟩ : Snd)], [-9223372036854775808], [], [], [], []⟩ [⟨2, []⟩, ⟨2, [⟨2, ⟨0, 0, 0⟩, 1, ⟨0, 0, 0, 0, 0⟩⟩, ⟨2, ⟨0, 0, 0⟩, 2, ⟨0, 0, 0, 0, 0⟩⟩]⟩] = 18 := by decide
set_option maxRecDepth 100000 in
theorem n6_33 : sdT ⟨2, 0, 0, [(⟨1, ⟨2, ⟨0, 0, 0⟩, 1, ⟨0, 0, 0, 0, 0⟩⟩⟩ : Snd)], [-9223372036854775808], [], [], [], []⟩ [⟨2, []⟩, ⟨2, [⟨2, ⟨0, 0, 0⟩, 1, ⟨0, 0, 0, 0, 0⟩⟩, ⟨2, ⟨0, 0, 0⟩, 2, ⟨0, 0, 0, 0, 0⟩⟩]⟩] = zT := by decide
set_option maxRecDepth 100000 in
theorem n6_34 : sdQ ⟨2, 0, 0, [(⟨1, ⟨2, ⟨0, 0, 0⟩, 1, ⟨0, 0, 0, 0, 0⟩⟩⟩ : Snd)], [-9223372036854775808], [], [], [], []⟩ [⟨2, []⟩, ⟨2, [⟨2, ⟨0, 0, 0⟩, 1, ⟨0, 0, 0, 0, 0⟩⟩, ⟨2, ⟨0, 0, 0⟩, 2, ⟨0, 0, 0, 0, 0⟩⟩]⟩] = [] := by decide
set_option maxRecDepth 100000 in
theorem n6_35 : sdE ⟨2, 0, 0, [(⟨1, ⟨2, ⟨0, 0, 0⟩, 1, ⟨0, 0, 0, 0, 0⟩⟩⟩ : Snd), (⟨1, ⟨2, ⟨0, 0, 0⟩, 1, ⟨0, 0, 0, 0, 0⟩⟩⟩ : Snd)], [-9223372036854775808], [], [], [], []⟩ [⟨2, []⟩, ⟨2, [⟨2, ⟨0, 0, 0⟩, 7, ⟨0, 0, 0, 0, 0⟩⟩]⟩, ⟨2, [⟨2, ⟨0, 0, 0⟩, 8, ⟨0, 0, 0, 0, 0⟩⟩, ⟨2, ⟨0, 0, 0⟩, 9, ⟨0, 0, 0, 0, 0⟩⟩]⟩] = 0 := by decide
set_option maxRecDepth 100000 in
theorem n6_36 : sdT ⟨2, 0, 0, [(⟨1, ⟨2, ⟨0, 0, 0⟩, 1, ⟨0, 0, 0, 0, 0⟩⟩⟩ : Snd), (⟨1, ⟨2, ⟨0, 0, 0⟩, 1, ⟨0, 0, 0, 0, 0⟩⟩⟩ : Snd)], [-9223372036854775808], [], [], [], []⟩ [⟨2, []⟩, ⟨2, [⟨2, ⟨0, 0, 0⟩, 7, ⟨0, 0, 0, 0, 0⟩⟩]⟩, ⟨2, [⟨2, ⟨0, 0, 0⟩, 8, ⟨0, 0, 0, 0, 0⟩⟩, ⟨2, ⟨0, 0, 0⟩, 9, ⟨0, 0, 0, 0, 0⟩⟩]⟩] = ⟨2, 0, 0, [(⟨1, ⟨2, ⟨0, 0, 0⟩, 1, ⟨0, 0, 0, 0, 0⟩⟩⟩ : Snd)], [-9223372036854775808], [], [], [], []⟩ := by decide
set_option maxRecDepth 100000 in
theorem n6_37 : sdQ ⟨2, 0, 0, [(⟨1, ⟨2, ⟨0, 0, 0⟩, 1, ⟨0, 0, 0, 0, 0⟩⟩⟩ : Snd), (⟨1, ⟨2, ⟨0, 0, 0⟩, 1, ⟨0, 0, 0, 0, 0⟩⟩⟩ : Snd)], [-9223372036854775808], [], [], [], []⟩ [⟨2, []⟩, ⟨2, [⟨2, ⟨0, 0, 0⟩, 7, ⟨0, 0, 0, 0, 0⟩⟩]⟩, ⟨2, [⟨2, ⟨0, 0, 0⟩, 8, ⟨0, 0, 0, 0, 0⟩⟩, ⟨2, ⟨0, 0, 0⟩, 9, ⟨0, 0, 0, 0, 0⟩⟩]⟩] = [⟨2, []⟩, ⟨2, [⟨2, ⟨0, 0, 0⟩, 7, ⟨0, 0, 0, 0, 0⟩⟩, ⟨2, ⟨0, 0, 0⟩, 1, ⟨0, 0, 0, 0, 0⟩⟩]⟩, ⟨2, [⟨2, ⟨0, 0, 0⟩, 8, ⟨0, 0, 0, 0, 0⟩⟩, ⟨2, ⟨0, 0, 0⟩, 9, ⟨0, 0, 0, 0, 0⟩⟩]⟩] := by decide
set_option maxRecDepth 100000 in
theorem n6_38 : sndE ⟨2, 0, 19, [], [-9223372036854775808], [], [], [], []⟩ [(⟨0, ⟨0, ⟨0, 0, 0⟩, 0, ⟨0, 0, 0, 0, 0⟩⟩⟩ : Snd)] = 8 := by decide
set_option maxRecDepth 100000 in
theorem n6_39 : pendT ⟨2, 0, 19, [], [-9223372036854775808], [], [], [], []⟩ [(⟨0, ⟨0, ⟨0, 0, 0⟩, 0, ⟨0, 0, 0, 0, 0⟩⟩⟩ : Snd)] = zT := by decide
set_option maxRecDepth 100000 in
theorem n6_40 : sndE ⟨2, 0, 0, [(⟨0, ⟨0, ⟨0, 0, 0⟩, 0, ⟨0, 0, 0, 0, 0⟩⟩⟩ : Snd)], [-9223372036854775808], [], [], [], []⟩ [] = 8 := by decide
set_option maxRecDepth 100000 in
theorem n6_41 : pendT ⟨2, 0, 0, [(⟨0, ⟨0, ⟨0, 0, 0⟩, 0, ⟨0, 0, 0, 0, 0⟩⟩⟩ : Snd)], [-9223372036854775808], [], [], [], []⟩ [] = zT := by decide

theorem allL_rep {α : Type} {p : α → Bool} {x : α} (h : p x = true) (n : Nat) : allL p (List.replicate n x) = true := by
  unfold allL; rw [List.all_eq_true]; intro y hy; rw [(List.mem_replicate.1 hy).2]; exact h
theorem n6_ok : okT ⟨2, 0, 19, [], [-9223372036854775808], [], [], [], []⟩ = true := by decide
theorem n6_full : sndE ⟨2, 0, 19, [], [-9223372036854775808], [], [], [], []⟩ (List.replicate 4000 (⟨1, ⟨2, ⟨0, 0, 0⟩, 1, ⟨0, 0, 0, 0, 0⟩⟩⟩ : Snd)) = 0 ∧ pendT ⟨2, 0, 19, [], [-9223372036854775808], [], [], [], []⟩ (List.replicate 4000 (⟨1, ⟨2, ⟨0, 0, 0⟩, 1, ⟨0, 0, 0, 0, 0⟩⟩⟩ : Snd)) = ⟨2, 0, 19, (List.replicate 4000 (⟨1, ⟨2, ⟨0, 0, 0⟩, 1, ⟨0, 0, 0, 0, 0⟩⟩⟩ : Snd)), [-9223372036854775808], [], [], [], []⟩ := by
  have h := pend_ok (l := List.replicate 4000 (⟨1, ⟨2, ⟨0, 0, 0⟩, 1, ⟨0, 0, 0, 0, 0⟩⟩⟩ : Snd)) n6_ok (allL_rep (by decide) _) (by simp [-List.reduceReplicate])
  simpa [-List.reduceReplicate] using h
theorem n6_okF : okT ⟨2, 0, 19, (List.replicate 4000 (⟨1, ⟨2, ⟨0, 0, 0⟩, 1, ⟨0, 0, 0, 0, 0⟩⟩⟩ : Snd)), [-9223372036854775808], [], [], [], []⟩ = true := by
  have h := okT_pend (l := List.replicate 4000 (⟨1, ⟨2, ⟨0, 0, 0⟩, 1, ⟨0, 0, 0, 0, 0⟩⟩⟩ : Snd)) n6_ok (allL_rep (by decide) _) (by simp [-List.reduceReplicate])
  simpa [-List.reduceReplicate] using h
theorem n6_more : sndE ⟨2, 0, 19, (List.replicate 4000 (⟨1, ⟨2, ⟨0, 0, 0⟩, 1, ⟨0, 0, 0, 0, 0⟩⟩⟩ : Snd)), [-9223372036854775808], [], [], [], []⟩ [(⟨1, ⟨2, ⟨0, 0, 0⟩, 1, ⟨0, 0, 0, 0, 0⟩⟩⟩ : Snd)] = 4 ∧ pendT ⟨2, 0, 19, (List.replicate 4000 (⟨1, ⟨2, ⟨0, 0, 0⟩, 1, ⟨0, 0, 0, 0, 0⟩⟩⟩ : Snd)), [-9223372036854775808], [], [], [], []⟩ [(⟨1, ⟨2, ⟨0, 0, 0⟩, 1, ⟨0, 0, 0, 0, 0⟩⟩⟩ : Snd)] = zT := by
  have e : sndE ⟨2, 0, 19, (List.replicate 4000 (⟨1, ⟨2, ⟨0, 0, 0⟩, 1, ⟨0, 0, 0, 0, 0⟩⟩⟩ : Snd)), [-9223372036854775808], [], [], [], []⟩ [(⟨1, ⟨2, ⟨0, 0, 0⟩, 1, ⟨0, 0, 0, 0, 0⟩⟩⟩ : Snd)] = 4 := by
    unfold sndE; rw [if_pos n6_okF, if_pos (by decide), if_pos (by simp [-List.reduceReplicate])]
  exact ⟨e, by unfold pendT; rw [e]; rfl⟩
def I6 (σ : St) : Prop := σ.T 5 = .int .i64 4 ∧ σ.T 7 = .int .i64 4 ∧ σ.T 9 = .int .i64 8 ∧ σ.T 11 = .int .i64 2 ∧ σ.T 14 = .int .i64 6 ∧ σ.T 17 = .int .i64 6 ∧ σ.T 20 = .int .i64 6 ∧ σ.T 23 = .int .i64 0 ∧ σ.T 21 = .int .i64 1 ∧ σ.T 26 = .int .i64 0 ∧ σ.T 24 = .int .i64 2 ∧ σ.T 29 = .int .i64 0 ∧ σ.T 27 = .int .i64 1 ∧ σ.T 32 = .int .i64 6 ∧ σ.T 35 = .int .i64 2 ∧ σ.T 38 = .int .i64 18 ∧ σ.T 41 = .int .i64 0 ∧ σ.T 43 = .int .i64 8 ∧ σ.T 45 = .int .i64 8 ∧ σ.T 1 = .ptr (1, 0) 1 0 ∧ σ.H (1, 0) = some (.var (eTsk ⟨2, 0, 19, [], [-9223372036854775808], [], [], [], []⟩)) ∧ σ.γ (1, 0) = 1 ∧ σ.T 2 = .ptr (2, 0) 1 0 ∧ σ.H (2, 0) = some (.var (eSnd (⟨1, ⟨2, ⟨0, 0, 0⟩, 1, ⟨0, 0, 0, 0, 0⟩⟩⟩ : Snd))) ∧ σ.γ (2, 0) = 1 ∧ σ.T 22 = .ptr (22, 0) 1 0 ∧ σ.H (22, 0) = some (.var (eTsk ⟨2, 0, 2, [], [-9223372036854775808], [], [], [], []⟩)) ∧ σ.γ (22, 0) = 1 ∧ σ.T 25 = .ptr (25, 0) 1 0 ∧ σ.H (25, 0) = some (.var (eTsk ⟨2, 0, 0, [], [-9223372036854775808], [], [], [], []⟩)) ∧ σ.γ (25, 0) = 1 ∧ σ.T 28 = .ptr (28, 0) 1 0 ∧ σ.H (28, 0) = some (.var (eTsk ⟨2, 0, 2, [], [-9223372036854775808], [], [], [], []⟩)) ∧ σ.γ (28, 0) = 1 ∧ σ.T 39 = .ptr (39, 0) 1 0 ∧ σ.H (39, 0) = some (.var (eTsk ⟨2, 0, 0, [(⟨1, ⟨2, ⟨0, 0, 0⟩, 1, ⟨0, 0, 0, 0, 0⟩⟩⟩ : Snd)], [-9223372036854775808], [], [], [], []⟩)) ∧ σ.γ (39, 0) = 1 ∧ σ.T 40 = .sl false (([⟨2, []⟩, ⟨2, [⟨2, ⟨0, 0, 0⟩, 7, ⟨0, 0, 0, 0, 0⟩⟩, ⟨2, ⟨0, 0, 0⟩, 1, ⟨0, 0, 0, 0, 0⟩⟩]⟩, ⟨2, [⟨2, ⟨0, 0, 0⟩, 8, ⟨0, 0, 0, 0, 0⟩⟩, ⟨2, ⟨0, 0, 0⟩, 9, ⟨0, 0, 0, 0, 0⟩⟩]⟩] : List Que).map eQue)
@[simp] def S6 : Spec
  | [] => some (True, .bool true, [])
  | _ => none
set_option maxHeartbeats 16000000 in
set_option maxRecDepth 100000 in
theorem S6_ok : SOK 6 S6 := by
  intro xs q r bs h hq
  unfold S6 at h
  split at h <;> cases h
  refine FS_wk ?_
  simp only [List.map_cons, List.map_nil, wk2, wk1]
  refine fs_of_awp mixed (sg_ok (gc_ok S38_ok (gc_ok S39_ok (gc_ok S40_ok (gc_ok S28_ok (gc_ok S30_ok (gc_ok S29_ok (gc_ok S41_ok (gc_ok S24_ok (gc_ok S42_ok noS_ok)))))))))) Try.func6 rfl (ent_of Try.func6 rfl rfl) [] (by rw [Try.ntmps6]; exact Nat.le_of_ble_eq_true rfl) (by simp) (by simp) (by simp) true ?_
  rw [Try.ntmps6, Try.results6]
  iterate 21 rw [awp_assoc6]
  refine awp_cut I6 (fun J hJ => ?_) ?_
  · simp (maxSteps := 1000000) [n6_0, n6_1, n6_2, n6_3, n6_4, n6_5, n6_6, n6_7, n6_8, n6_9, n6_10, n6_11, n6_12, n6_13, n6_14, n6_15, n6_16, n6_17, n6_18, n6_19, n6_20, n6_21, n6_22, n6_23, n6_24, n6_25, n6_26, n6_27, n6_28, n6_29, n6_30, n6_31, n6_32, n6_33, n6_34, n6_35, n6_36, n6_37, n6_38, n6_39, n6_40, n6_41, zT]
    repeat ((with_reducible refine And.intro ?_ ?_); (· ((repeat' first | refine And.intro ?_ ?_ | intro _) <;> first | assumption | omega | with_reducible rfl | (refine (?_ : chkD _ _ = true); rfl) | simp_all)))
    refine hJ _ ?_
    unfold I6
    simp
  · intro σ hI
    unfold I6 at hI
    obtain ⟨t5, t7, t9, t11, t14, t17, t20, t23, t21, t26, t24, t29, t27, t32, t35, t38, t41, t43, t45, p1, q1, g1, p2, q2, g2, p22, q22, g22, p25, q25, g25, p28, q28, g28, p39, q39, g39, t40⟩ := hI
    simp (maxSteps := 1000000) [-List.reduceReplicate, t5, t7, t9, t11, t14, t17, t20, t23, t21, t26, t24, t29, t27, t32, t35, t38, t41, t43, t45, p1, q1, g1, p2, q2, g2, p22, q22, g22, p25, q25, g25, p28, q28, g28, p39, q39, g39, t40]
    refine awp_loop (fun σ => ∃ i : Nat, i ≤ 4000 ∧ I6 σ ∧ σ.T 46 = .own (201, 0) (σ.γ (201, 0)) ∧ σ.H (201, 0) = some (.rows 11 (List.replicate i (eSnd (⟨1, ⟨2, ⟨0, 0, 0⟩, 1, ⟨0, 0, 0, 0, 0⟩⟩⟩ : Snd)) ++ List.replicate (4000 - i) (eSnd (⟨0, ⟨0, ⟨0, 0, 0⟩, 0, ⟨0, 0, 0, 0, 0⟩⟩⟩ : Snd)))) ∧ σ.T 47 = .int .i64 i) (fun σ => 4000 - (ival (σ.T 47)).toNat) ⟨0, by omega, by unfold I6; simp [t5, t7, t9, t11, t14, t17, t20, t23, t21, t26, t24, t29, t27, t32, t35, t38, t41, t43, t45, p1, q1, g1, p2, q2, g2, p22, q22, g22, p25, q25, g25, p28, q28, g28, p39, q39, g39, t40], by simp [-List.reduceReplicate]⟩ ?_
    clear t5 t7 t9 t11 t14 t17 t20 t23 t21 t26 t24 t29 t27 t32 t35 t38 t41 t43 t45 p1 q1 g1 p2 q2 g2 p22 q22 g22 p25 q25 g25 p28 q28 g28 p39 q39 g39 t40
    rintro σ ⟨i, hi, hI, h46, hH, h47⟩ L hL
    have hI2 := hI
    unfold I6 at hI2
    obtain ⟨t5, t7, t9, t11, t14, t17, t20, t23, t21, t26, t24, t29, t27, t32, t35, t38, t41, t43, t45, p1, q1, g1, p2, q2, g2, p22, q22, g22, p25, q25, g25, p28, q28, g28, p39, q39, g39, t40⟩ := hI2
    by_cases hlt : i < 4000
    · have hltI : (i : Int) < 4000 := by omega
      have hw : IntKind.i64.wrap ((i : Int) + 1) = (i : Int) + 1 := wrap_i64 _ (by omega) (by omega)
      have hset : (List.replicate i (eSnd (⟨1, ⟨2, ⟨0, 0, 0⟩, 1, ⟨0, 0, 0, 0, 0⟩⟩⟩ : Snd)) ++ List.replicate (4000 - i) (eSnd (⟨0, ⟨0, ⟨0, 0, 0⟩, 0, ⟨0, 0, 0, 0, 0⟩⟩⟩ : Snd))).set i (eSnd (⟨1, ⟨2, ⟨0, 0, 0⟩, 1, ⟨0, 0, 0, 0, 0⟩⟩⟩ : Snd)) = List.replicate (i + 1) (eSnd (⟨1, ⟨2, ⟨0, 0, 0⟩, 1, ⟨0, 0, 0, 0, 0⟩⟩⟩ : Snd)) ++ List.replicate (4000 - (i + 1)) (eSnd (⟨0, ⟨0, ⟨0, 0, 0⟩, 0, ⟨0, 0, 0, 0, 0⟩⟩⟩ : Snd)) := by
        rw [List.set_append_right _ _ (by simp [-List.reduceReplicate]), List.length_replicate, Nat.sub_self, show 4000 - i = (4000 - (i + 1)) + 1 by omega, List.replicate_succ, List.set_cons_zero, List.replicate_succ', List.append_assoc]
        rfl
      have hgt : (List.replicate i (eSnd (⟨1, ⟨2, ⟨0, 0, 0⟩, 1, ⟨0, 0, 0, 0, 0⟩⟩⟩ : Snd)) ++ List.replicate (4000 - i) (eSnd (⟨0, ⟨0, ⟨0, 0, 0⟩, 0, ⟨0, 0, 0, 0, 0⟩⟩⟩ : Snd)))[i]?.getD [] = eSnd (⟨0, ⟨0, ⟨0, 0, 0⟩, 0, ⟨0, 0, 0, 0, 0⟩⟩⟩ : Snd) := by
        rw [List.getElem?_append_right (by simp [-List.reduceReplicate]), List.length_replicate, Nat.sub_self, show 4000 - i = (4000 - (i + 1)) + 1 by omega, List.replicate_succ]; rfl
      have hlen : (List.replicate i (eSnd (⟨1, ⟨2, ⟨0, 0, 0⟩, 1, ⟨0, 0, 0, 0, 0⟩⟩⟩ : Snd)) ++ List.replicate (4000 - i) (eSnd (⟨0, ⟨0, ⟨0, 0, 0⟩, 0, ⟨0, 0, 0, 0, 0⟩⟩⟩ : Snd))).length = 4000 := by simp [-List.reduceReplicate]; omega
      generalize List.replicate i (eSnd (⟨1, ⟨2, ⟨0, 0, 0⟩, 1, ⟨0, 0, 0, 0, 0⟩⟩⟩ : Snd)) ++ List.replicate (4000 - i) (eSnd (⟨0, ⟨0, ⟨0, 0, 0⟩, 0, ⟨0, 0, 0, 0, 0⟩⟩⟩ : Snd)) = rs at *
      have hgt2 : rs[i]'(by omega) = eSnd (⟨0, ⟨0, ⟨0, 0, 0⟩, 0, ⟨0, 0, 0, 0, 0⟩⟩⟩ : Snd) := by have := hgt; simpa [hlen, hlt] using this
      have hset0 := hset
      simp only [eSnd] at hgt hset hgt2
      simp (maxSteps := 1000000) [-List.reduceReplicate, t5, t7, t9, t11, t14, t17, t20, t23, t21, t26, t24, t29, t27, t32, t35, t38, t41, t43, t45, p1, q1, g1, p2, q2, g2, p22, q22, g22, p25, q25, g25, p28, q28, g28, p39, q39, g39, t40, h46, hH, h47, hltI, hw, hlen, hlt, hgt, hgt2]
      exact hL _ ⟨i + 1, by omega, by unfold I6 at hI ⊢; simpa using hI, by simp [h46], by rw [← hset0]; simp, by simp⟩ (by simp [h47]; omega)
    · have hie : i = 4000 := by omega
      subst hie
      simp only [Nat.sub_self, List.replicate_zero, List.append_nil] at hH
      simp (maxSteps := 1000000) [-List.reduceReplicate, t5, t7, t9, t11, t14, t17, t20, t23, t21, t26, t24, t29, t27, t32, t35, t38, t41, t43, t45, p1, q1, g1, p2, q2, g2, p22, q22, g22, p25, q25, g25, p28, q28, g28, p39, q39, g39, t40, h46, hH, h47, n6_full.1, n6_full.2, n6_more.1, n6_more.2]
      first | (refine (?_ : chkD _ _ = true); kernel_rfl) | (refine (?_ : chkD _ _ = true); decide +kernel) | (trace_state; (refine (?_ : chkD _ _ = true)); trace_state; rfl)

end Go.Proofs.Ytedhhjmjlpnlpaa.VW
