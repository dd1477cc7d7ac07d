/-
  No cell of these rows narrows 'for every input' (looked for: loops, veiled, ifaces, maps, wideKeys, modest, calm, conditions, laid).
  DERIVED. THE GIVEN ROWS OF THIS SEAT. 6 by the template 'for every input the law returns true; each argument reads behind the call as it read before'; 0 by the template 'total and deterministic' (their statements: YtdhajbodlpeheaaTotals.lean).
  GIVEN WITH THE SEED: the statements are not yours to turn. If you find one false, say at which input.
  Laid BY PROGRAM, IN A SANDBOX (cutbox-rows.mjs): the forced cells as the released guide's own fill.sh prints them over the translation 46f15bd650f1292e… (all of the seat's roots in one cut). By AI agents, Wed Nov 11 2026. No macro, syntax, notation, axiom, sorry.
-/
import Derived.Test.YtdhajbodlpeheaaChecked
import GoSem.Claim
import GoSem.ClaimJoined
import GoSem.ClaimMapViews
import Derived.JoinedTies
import Derived.KernelRfl
namespace Go.Proofs.Ytdhajbodlpeheaa
/- THE CELL 'sum', in the pinned program and in every row, IS THE sha256 OF THE DUMP (.gsa) THAT YtdhajbodlpeheaaProg.lean LOADS. Nothing in Lean hashes anything: it is a label: what it is worth is what the hold of that sum in a sandbox is worth. -/
noncomputable def Try.pinned : Pinned := { name := "ytdhajbodlpeheaa", sum := "46f15bd650f1292e3b6d2e03d3df371df627f7422bb83c70d8bdacd012ebe51d", checked := Try.checked }
namespace Rows
def none {H : Type} : Left H := { results := [], args := [] }

/-- 'tailwaterlaw18.TimersUntil': WHATEVER THE INPUT: true; the input reads as it did. -/
def timersUntilSpec : ChangeSpec := { name := "timersUntil", fn := fun _ => fun
  | [d1, d2] => { results := [.lit (.bool true)], args := [d1, d2] }
  | _ => none }
def timersUntilRow : OpenClaim := { program := "ytdhajbodlpeheaa", sum := "46f15bd650f1292e3b6d2e03d3df371df627f7422bb83c70d8bdacd012ebe51d", func := "tailwater/tailwaterlaw18.TimersUntil", spec := "timersUntil", apart := false }
def TimersUntilSaid : Prop := timersUntilRow.holds Try.pinned (OpenSpec.ofChange timersUntilSpec)

/-- ITS FALSE NEIGHBOUR: 'it returns false'. Refute it at one input. -/
def timersUntilWrong : ChangeSpec := { name := "timersUntil", fn := fun _ => fun
  | [d1, d2] => { results := [.lit (.bool false)], args := [d1, d2] }
  | _ => none }
def TimersUntilWrongFalsely : Prop := timersUntilRow.holds Try.pinned (OpenSpec.ofChange timersUntilWrong)

/-- 'tailwaterlaw18.TimersPush': WHATEVER THE INPUT: true; the input reads as it did. -/
def timersPushSpec : ChangeSpec := { name := "timersPush", fn := fun _ => fun
  | [d1, d2] => { results := [.lit (.bool true)], args := [d1, d2] }
  | _ => none }
def timersPushRow : OpenClaim := { program := "ytdhajbodlpeheaa", sum := "46f15bd650f1292e3b6d2e03d3df371df627f7422bb83c70d8bdacd012ebe51d", func := "tailwater/tailwaterlaw18.TimersPush", spec := "timersPush", apart := false }
def TimersPushSaid : Prop := timersPushRow.holds Try.pinned (OpenSpec.ofChange timersPushSpec)

/-- ITS FALSE NEIGHBOUR: 'it returns false'. Refute it at one input. -/
def timersPushWrong : ChangeSpec := { name := "timersPush", fn := fun _ => fun
  | [d1, d2] => { results := [.lit (.bool false)], args := [d1, d2] }
  | _ => none }
def TimersPushWrongFalsely : Prop := timersPushRow.holds Try.pinned (OpenSpec.ofChange timersPushWrong)

/-- 'tailwaterlaw18.TimersTells': WHATEVER THE INPUT: true; the input reads as it did. -/
def timersTellsSpec : ChangeSpec := { name := "timersTells", fn := fun _ => fun
  | [d1, d2, d3] => { results := [.lit (.bool true)], args := [d1, d2, d3] }
  | _ => none }
def timersTellsRow : OpenClaim := { program := "ytdhajbodlpeheaa", sum := "46f15bd650f1292e3b6d2e03d3df371df627f7422bb83c70d8bdacd012ebe51d", func := "tailwater/tailwaterlaw18.TimersTells", spec := "timersTells", apart := false }
def TimersTellsSaid : Prop := timersTellsRow.holds Try.pinned (OpenSpec.ofChange timersTellsSpec)

/-- ITS FALSE NEIGHBOUR: 'it returns false'. Refute it at one input. -/
def timersTellsWrong : ChangeSpec := { name := "timersTells", fn := fun _ => fun
  | [d1, d2, d3] => { results := [.lit (.bool false)], args := [d1, d2, d3] }
  | _ => none }
def TimersTellsWrongFalsely : Prop := timersTellsRow.holds Try.pinned (OpenSpec.ofChange timersTellsWrong)

/-- 'tailwaterlaw18.TimersNames': WHATEVER THE INPUT: true; the input reads as it did. -/
def timersNamesSpec : ChangeSpec := { name := "timersNames", fn := fun _ => fun
  | [] => { results := [.lit (.bool true)], args := [] }
  | _ => none }
def timersNamesRow : OpenClaim := { program := "ytdhajbodlpeheaa", sum := "46f15bd650f1292e3b6d2e03d3df371df627f7422bb83c70d8bdacd012ebe51d", func := "tailwater/tailwaterlaw18.TimersNames", spec := "timersNames", apart := false }
def TimersNamesSaid : Prop := timersNamesRow.holds Try.pinned (OpenSpec.ofChange timersNamesSpec)

/-- ITS FALSE NEIGHBOUR: 'it returns false'. Refute it at one input. -/
def timersNamesWrong : ChangeSpec := { name := "timersNames", fn := fun _ => fun
  | [] => { results := [.lit (.bool false)], args := [] }
  | _ => none }
def TimersNamesWrongFalsely : Prop := timersNamesRow.holds Try.pinned (OpenSpec.ofChange timersNamesWrong)

/-- 'tailwaterlaw18.TimersFirst': WHATEVER THE INPUT: true; the input reads as it did. -/
def timersFirstSpec : ChangeSpec := { name := "timersFirst", fn := fun _ => fun
  | [d] => { results := [.lit (.bool true)], args := [d] }
  | _ => none }
def timersFirstRow : OpenClaim := { program := "ytdhajbodlpeheaa", sum := "46f15bd650f1292e3b6d2e03d3df371df627f7422bb83c70d8bdacd012ebe51d", func := "tailwater/tailwaterlaw18.TimersFirst", spec := "timersFirst", apart := false }
def TimersFirstSaid : Prop := timersFirstRow.holds Try.pinned (OpenSpec.ofChange timersFirstSpec)

/-- ITS FALSE NEIGHBOUR: 'it returns false'. Refute it at one input. -/
def timersFirstWrong : ChangeSpec := { name := "timersFirst", fn := fun _ => fun
  | [d] => { results := [.lit (.bool false)], args := [d] }
  | _ => none }
def TimersFirstWrongFalsely : Prop := timersFirstRow.holds Try.pinned (OpenSpec.ofChange timersFirstWrong)

/-- 'tailwaterlaw18.TimersMixed': WHATEVER THE INPUT: true; the input reads as it did. -/
def timersMixedSpec : ChangeSpec := { name := "timersMixed", fn := fun _ => fun
  | [d1, d2] => { results := [.lit (.bool true)], args := [d1, d2] }
  | _ => none }
def timersMixedRow : OpenClaim := { program := "ytdhajbodlpeheaa", sum := "46f15bd650f1292e3b6d2e03d3df371df627f7422bb83c70d8bdacd012ebe51d", func := "tailwater/tailwaterlaw18.TimersMixed", spec := "timersMixed", apart := false }
def TimersMixedSaid : Prop := timersMixedRow.holds Try.pinned (OpenSpec.ofChange timersMixedSpec)

/-- ITS FALSE NEIGHBOUR: 'it returns false'. Refute it at one input. -/
def timersMixedWrong : ChangeSpec := { name := "timersMixed", fn := fun _ => fun
  | [d1, d2] => { results := [.lit (.bool false)], args := [d1, d2] }
  | _ => none }
def TimersMixedWrongFalsely : Prop := timersMixedRow.holds Try.pinned (OpenSpec.ofChange timersMixedWrong)

/- THE SECOND FORM. 'bulk': how many values and letters a reading holds, each counted each time it is reached (what is shared counts as often as it is met; a slice's spare places count too). A statement '..UptoSaid' is the law's where the arguments, and the package variables that the reading takes, are together of bulk at most 1048576: NARROWER than '..Said'. Prove '..Said' where nothing that the law and all that it calls make is longer than what came in: it says more and counts as full. Else prove '..UptoSaid'. A law counts once. -/
mutual
def uptoBulk {H : Type} : DataW H → Nat
  | .lit (.string bytes) => bytes.length + 1
  | .lit _ => 1
  | .nil => 1
  | .ptr d => uptoBulk d + 1
  | .slice elems spare => uptoBulkAll elems + uptoBulkAll spare + 1
  | .agg parts => uptoBulkAll parts + 1
  | .iface _ d => uptoBulk d + 1
  | .map entries => uptoBulkEntries entries + 1
  | .held _ => 1
def uptoBulkAll {H : Type} : List (DataW H) → Nat
  | [] => 0
  | d :: r => uptoBulk d + uptoBulkAll r
def uptoBulkEntries {H : Type} : List (Lit × DataW H) → Nat
  | [] => 0
  | x :: r => uptoBulkEntry x + uptoBulkEntries r
def uptoBulkEntry {H : Type} : Lit × DataW H → Nat
  | (.string bytes, d) => bytes.length + uptoBulk d + 1
  | (_, d) => uptoBulk d + 1
 end
def uptoSmall : (H : Type) → List (DataW H) → Bool := fun _ ds => decide (uptoBulkAll ds ≤ 1048576)
def OpenSpec.upto (s : _root_.Go.ChangeSpec) : _root_.Go.OpenSpec := { _root_.Go.OpenSpec.ofChange s with cond := some uptoSmall }

/-- 'tailwaterlaw18.TimersUntil', WHERE WHAT IT READS IS OF BULK AT MOST 1048576: true; the input reads as it did. -/
def timersUntilUptoRow : OpenClaim := { program := "ytdhajbodlpeheaa", sum := "46f15bd650f1292e3b6d2e03d3df371df627f7422bb83c70d8bdacd012ebe51d", func := "tailwater/tailwaterlaw18.TimersUntil", spec := "timersUntil", apart := false, narrowed := true }
def TimersUntilUptoSaid : Prop := timersUntilUptoRow.holds Try.pinned (OpenSpec.upto timersUntilSpec)

/-- 'tailwaterlaw18.TimersPush', WHERE WHAT IT READS IS OF BULK AT MOST 1048576: true; the input reads as it did. -/
def timersPushUptoRow : OpenClaim := { program := "ytdhajbodlpeheaa", sum := "46f15bd650f1292e3b6d2e03d3df371df627f7422bb83c70d8bdacd012ebe51d", func := "tailwater/tailwaterlaw18.TimersPush", spec := "timersPush", apart := false, narrowed := true }
def TimersPushUptoSaid : Prop := timersPushUptoRow.holds Try.pinned (OpenSpec.upto timersPushSpec)

/-- 'tailwaterlaw18.TimersTells', WHERE WHAT IT READS IS OF BULK AT MOST 1048576: true; the input reads as it did. -/
def timersTellsUptoRow : OpenClaim := { program := "ytdhajbodlpeheaa", sum := "46f15bd650f1292e3b6d2e03d3df371df627f7422bb83c70d8bdacd012ebe51d", func := "tailwater/tailwaterlaw18.TimersTells", spec := "timersTells", apart := false, narrowed := true }
def TimersTellsUptoSaid : Prop := timersTellsUptoRow.holds Try.pinned (OpenSpec.upto timersTellsSpec)

/-- 'tailwaterlaw18.TimersNames', WHERE WHAT IT READS IS OF BULK AT MOST 1048576: true; the input reads as it did. -/
def timersNamesUptoRow : OpenClaim := { program := "ytdhajbodlpeheaa", sum := "46f15bd650f1292e3b6d2e03d3df371df627f7422bb83c70d8bdacd012ebe51d", func := "tailwater/tailwaterlaw18.TimersNames", spec := "timersNames", apart := false, narrowed := true }
def TimersNamesUptoSaid : Prop := timersNamesUptoRow.holds Try.pinned (OpenSpec.upto timersNamesSpec)

/-- 'tailwaterlaw18.TimersFirst', WHERE WHAT IT READS IS OF BULK AT MOST 1048576: true; the input reads as it did. -/
def timersFirstUptoRow : OpenClaim := { program := "ytdhajbodlpeheaa", sum := "46f15bd650f1292e3b6d2e03d3df371df627f7422bb83c70d8bdacd012ebe51d", func := "tailwater/tailwaterlaw18.TimersFirst", spec := "timersFirst", apart := false, narrowed := true }
def TimersFirstUptoSaid : Prop := timersFirstUptoRow.holds Try.pinned (OpenSpec.upto timersFirstSpec)

/-- 'tailwaterlaw18.TimersMixed', WHERE WHAT IT READS IS OF BULK AT MOST 1048576: true; the input reads as it did. -/
def timersMixedUptoRow : OpenClaim := { program := "ytdhajbodlpeheaa", sum := "46f15bd650f1292e3b6d2e03d3df371df627f7422bb83c70d8bdacd012ebe51d", func := "tailwater/tailwaterlaw18.TimersMixed", spec := "timersMixed", apart := false, narrowed := true }
def TimersMixedUptoSaid : Prop := timersMixedUptoRow.holds Try.pinned (OpenSpec.upto timersMixedSpec)

end Rows
end Go.Proofs.Ytdhajbodlpeheaa
