/-
  No cell of these rows narrows 'for every input' (looked for: loops, veiled, ifaces, maps, wideKeys, modest, calm, conditions, laid).
  DERIVED. THE GIVEN ROWS OF THIS SEAT. 18 by the template 'for every input the law returns true; each argument reads behind the call as it read before'; 0 by the template 'total and deterministic' (their statements: YtedhhjmjlpnlpaaTotals.lean).
  GIVEN WITH THE SEED: the statements are not yours to turn. If you find one false, say at which input.
  Laid BY PROGRAM, IN A SANDBOX (cutbox-rows.mjs): the forced cells as the released guide's own fill.sh prints them over the translation 7aa34c8f1eec7cfc… (all of the seat's roots in one cut). By AI agents, Wed Nov 11 2026. No macro, syntax, notation, axiom, sorry.
-/
import Derived.Test.YtedhhjmjlpnlpaaChecked
import GoSem.Claim
import GoSem.ClaimJoined
import GoSem.ClaimMapViews
import Derived.JoinedTies
import Derived.KernelRfl
namespace Go.Proofs.Ytedhhjmjlpnlpaa
/- THE CELL 'sum', in the pinned program and in every row, IS THE sha256 OF THE DUMP (.gsa) THAT YtedhhjmjlpnlpaaProg.lean LOADS. Nothing in Lean hashes anything: it is a label: what it is worth is what the hold of that sum in a sandbox is worth. -/
noncomputable def Try.pinned : Pinned := { name := "ytedhhjmjlpnlpaa", sum := "7aa34c8f1eec7cfc5bb9c41ad5fc54b8a27b9e40fa64ecee5440442aa8c95317", checked := Try.checked }
namespace Rows
def none {H : Type} : Left H := { results := [], args := [] }

/-- 'tailwaterlaw28.SourceNews': WHATEVER THE INPUT: true; the input reads as it did. -/
def sourceNewsSpec : ChangeSpec := { name := "sourceNews", fn := fun _ => fun
  | [d1, d2] => { results := [.lit (.bool true)], args := [d1, d2] }
  | _ => none }
def sourceNewsRow : OpenClaim := { program := "ytedhhjmjlpnlpaa", sum := "7aa34c8f1eec7cfc5bb9c41ad5fc54b8a27b9e40fa64ecee5440442aa8c95317", func := "tailwater/tailwaterlaw28.SourceNews", spec := "sourceNews", unfollowed := true, recurses := true, apart := false }
def SourceNewsSaid : Prop := sourceNewsRow.holds Try.pinned (OpenSpec.ofChange sourceNewsSpec)

/-- ITS FALSE NEIGHBOUR: 'it returns false'. Refute it at one input. -/
def sourceNewsWrong : ChangeSpec := { name := "sourceNews", fn := fun _ => fun
  | [d1, d2] => { results := [.lit (.bool false)], args := [d1, d2] }
  | _ => none }
def SourceNewsWrongFalsely : Prop := sourceNewsRow.holds Try.pinned (OpenSpec.ofChange sourceNewsWrong)

/-- 'tailwaterlaw27.TaskSent': WHATEVER THE INPUT: true; the input reads as it did. -/
def taskSentSpec : ChangeSpec := { name := "taskSent", fn := fun _ => fun
  | [d1, d2, d3] => { results := [.lit (.bool true)], args := [d1, d2, d3] }
  | _ => none }
def taskSentRow : OpenClaim := { program := "ytedhhjmjlpnlpaa", sum := "7aa34c8f1eec7cfc5bb9c41ad5fc54b8a27b9e40fa64ecee5440442aa8c95317", func := "tailwater/tailwaterlaw27.TaskSent", spec := "taskSent", apart := false }
def TaskSentSaid : Prop := taskSentRow.holds Try.pinned (OpenSpec.ofChange taskSentSpec)

/-- ITS FALSE NEIGHBOUR: 'it returns false'. Refute it at one input. -/
def taskSentWrong : ChangeSpec := { name := "taskSent", fn := fun _ => fun
  | [d1, d2, d3] => { results := [.lit (.bool false)], args := [d1, d2, d3] }
  | _ => none }
def TaskSentWrongFalsely : Prop := taskSentRow.holds Try.pinned (OpenSpec.ofChange taskSentWrong)

/-- 'tailwaterlaw28.SourceEvents': WHATEVER THE INPUT: true; the input reads as it did. -/
def sourceEventsSpec : ChangeSpec := { name := "sourceEvents", fn := fun _ => fun
  | [d1, d2, d3] => { results := [.lit (.bool true)], args := [d1, d2, d3] }
  | _ => none }
def sourceEventsRow : OpenClaim := { program := "ytedhhjmjlpnlpaa", sum := "7aa34c8f1eec7cfc5bb9c41ad5fc54b8a27b9e40fa64ecee5440442aa8c95317", func := "tailwater/tailwaterlaw28.SourceEvents", spec := "sourceEvents", unfollowed := true, recurses := true, apart := false }
def SourceEventsSaid : Prop := sourceEventsRow.holds Try.pinned (OpenSpec.ofChange sourceEventsSpec)

/-- ITS FALSE NEIGHBOUR: 'it returns false'. Refute it at one input. -/
def sourceEventsWrong : ChangeSpec := { name := "sourceEvents", fn := fun _ => fun
  | [d1, d2, d3] => { results := [.lit (.bool false)], args := [d1, d2, d3] }
  | _ => none }
def SourceEventsWrongFalsely : Prop := sourceEventsRow.holds Try.pinned (OpenSpec.ofChange sourceEventsWrong)

/-- 'tailwaterlaw27.TaskNames': WHATEVER THE INPUT: true; the input reads as it did. -/
def taskNamesSpec : ChangeSpec := { name := "taskNames", fn := fun _ => fun
  | [] => { results := [.lit (.bool true)], args := [] }
  | _ => none }
def taskNamesRow : OpenClaim := { program := "ytedhhjmjlpnlpaa", sum := "7aa34c8f1eec7cfc5bb9c41ad5fc54b8a27b9e40fa64ecee5440442aa8c95317", func := "tailwater/tailwaterlaw27.TaskNames", spec := "taskNames", apart := false }
def TaskNamesSaid : Prop := taskNamesRow.holds Try.pinned (OpenSpec.ofChange taskNamesSpec)

/-- ITS FALSE NEIGHBOUR: 'it returns false'. Refute it at one input. -/
def taskNamesWrong : ChangeSpec := { name := "taskNames", fn := fun _ => fun
  | [] => { results := [.lit (.bool false)], args := [] }
  | _ => none }
def TaskNamesWrongFalsely : Prop := taskNamesRow.holds Try.pinned (OpenSpec.ofChange taskNamesWrong)

/-- 'tailwaterlaw30.PartKeys': WHATEVER THE INPUT: true; the input reads as it did. -/
def partKeysSpec : ChangeSpec := { name := "partKeys", fn := fun _ => fun
  | [d1, d2, d3] => { results := [.lit (.bool true)], args := [d1, d2, d3] }
  | _ => none }
def partKeysRow : OpenClaim := { program := "ytedhhjmjlpnlpaa", sum := "7aa34c8f1eec7cfc5bb9c41ad5fc54b8a27b9e40fa64ecee5440442aa8c95317", func := "tailwater/tailwaterlaw30.PartKeys", spec := "partKeys", apart := false }
def PartKeysSaid : Prop := partKeysRow.holds Try.pinned (OpenSpec.ofChange partKeysSpec)

/-- ITS FALSE NEIGHBOUR: 'it returns false'. Refute it at one input. -/
def partKeysWrong : ChangeSpec := { name := "partKeys", fn := fun _ => fun
  | [d1, d2, d3] => { results := [.lit (.bool false)], args := [d1, d2, d3] }
  | _ => none }
def PartKeysWrongFalsely : Prop := partKeysRow.holds Try.pinned (OpenSpec.ofChange partKeysWrong)

/-- 'tailwaterlaw30.PartNext': WHATEVER THE INPUT: true; the input reads as it did. -/
def partNextSpec : ChangeSpec := { name := "partNext", fn := fun _ => fun
  | [d1, d2] => { results := [.lit (.bool true)], args := [d1, d2] }
  | _ => none }
def partNextRow : OpenClaim := { program := "ytedhhjmjlpnlpaa", sum := "7aa34c8f1eec7cfc5bb9c41ad5fc54b8a27b9e40fa64ecee5440442aa8c95317", func := "tailwater/tailwaterlaw30.PartNext", spec := "partNext", apart := false }
def PartNextSaid : Prop := partNextRow.holds Try.pinned (OpenSpec.ofChange partNextSpec)

/-- ITS FALSE NEIGHBOUR: 'it returns false'. Refute it at one input. -/
def partNextWrong : ChangeSpec := { name := "partNext", fn := fun _ => fun
  | [d1, d2] => { results := [.lit (.bool false)], args := [d1, d2] }
  | _ => none }
def PartNextWrongFalsely : Prop := partNextRow.holds Try.pinned (OpenSpec.ofChange partNextWrong)

/-- 'tailwaterlaw30.PartTakes': WHATEVER THE INPUT: true; the input reads as it did. -/
def partTakesSpec : ChangeSpec := { name := "partTakes", fn := fun _ => fun
  | [d1, d2, d3, d4, d5] => { results := [.lit (.bool true)], args := [d1, d2, d3, d4, d5] }
  | _ => none }
def partTakesRow : OpenClaim := { program := "ytedhhjmjlpnlpaa", sum := "7aa34c8f1eec7cfc5bb9c41ad5fc54b8a27b9e40fa64ecee5440442aa8c95317", func := "tailwater/tailwaterlaw30.PartTakes", spec := "partTakes", apart := false }
def PartTakesSaid : Prop := partTakesRow.holds Try.pinned (OpenSpec.ofChange partTakesSpec)

/-- ITS FALSE NEIGHBOUR: 'it returns false'. Refute it at one input. -/
def partTakesWrong : ChangeSpec := { name := "partTakes", fn := fun _ => fun
  | [d1, d2, d3, d4, d5] => { results := [.lit (.bool false)], args := [d1, d2, d3, d4, d5] }
  | _ => none }
def PartTakesWrongFalsely : Prop := partTakesRow.holds Try.pinned (OpenSpec.ofChange partTakesWrong)

/-- 'tailwaterlaw30.PartNames': WHATEVER THE INPUT: true; the input reads as it did. -/
def partNamesSpec : ChangeSpec := { name := "partNames", fn := fun _ => fun
  | [] => { results := [.lit (.bool true)], args := [] }
  | _ => none }
def partNamesRow : OpenClaim := { program := "ytedhhjmjlpnlpaa", sum := "7aa34c8f1eec7cfc5bb9c41ad5fc54b8a27b9e40fa64ecee5440442aa8c95317", func := "tailwater/tailwaterlaw30.PartNames", spec := "partNames", apart := false }
def PartNamesSaid : Prop := partNamesRow.holds Try.pinned (OpenSpec.ofChange partNamesSpec)

/-- ITS FALSE NEIGHBOUR: 'it returns false'. Refute it at one input. -/
def partNamesWrong : ChangeSpec := { name := "partNames", fn := fun _ => fun
  | [] => { results := [.lit (.bool false)], args := [] }
  | _ => none }
def PartNamesWrongFalsely : Prop := partNamesRow.holds Try.pinned (OpenSpec.ofChange partNamesWrong)

/-- 'tailwaterlaw30.PartOneWay': WHATEVER THE INPUT: true; the input reads as it did. -/
def partOneWaySpec : ChangeSpec := { name := "partOneWay", fn := fun _ => fun
  | [d1, d2] => { results := [.lit (.bool true)], args := [d1, d2] }
  | _ => none }
def partOneWayRow : OpenClaim := { program := "ytedhhjmjlpnlpaa", sum := "7aa34c8f1eec7cfc5bb9c41ad5fc54b8a27b9e40fa64ecee5440442aa8c95317", func := "tailwater/tailwaterlaw30.PartOneWay", spec := "partOneWay", apart := false }
def PartOneWaySaid : Prop := partOneWayRow.holds Try.pinned (OpenSpec.ofChange partOneWaySpec)

/-- ITS FALSE NEIGHBOUR: 'it returns false'. Refute it at one input. -/
def partOneWayWrong : ChangeSpec := { name := "partOneWay", fn := fun _ => fun
  | [d1, d2] => { results := [.lit (.bool false)], args := [d1, d2] }
  | _ => none }
def PartOneWayWrongFalsely : Prop := partOneWayRow.holds Try.pinned (OpenSpec.ofChange partOneWayWrong)

/-- 'tailwaterlaw28.SourceSteps': WHATEVER THE INPUT: true; the input reads as it did. -/
def sourceStepsSpec : ChangeSpec := { name := "sourceSteps", fn := fun _ => fun
  | [d] => { results := [.lit (.bool true)], args := [d] }
  | _ => none }
def sourceStepsRow : OpenClaim := { program := "ytedhhjmjlpnlpaa", sum := "7aa34c8f1eec7cfc5bb9c41ad5fc54b8a27b9e40fa64ecee5440442aa8c95317", func := "tailwater/tailwaterlaw28.SourceSteps", spec := "sourceSteps", unfollowed := true, recurses := true, apart := false }
def SourceStepsSaid : Prop := sourceStepsRow.holds Try.pinned (OpenSpec.ofChange sourceStepsSpec)

/-- ITS FALSE NEIGHBOUR: 'it returns false'. Refute it at one input. -/
def sourceStepsWrong : ChangeSpec := { name := "sourceSteps", fn := fun _ => fun
  | [d] => { results := [.lit (.bool false)], args := [d] }
  | _ => none }
def SourceStepsWrongFalsely : Prop := sourceStepsRow.holds Try.pinned (OpenSpec.ofChange sourceStepsWrong)

/-- 'tailwaterlaw27.TaskIdle': WHATEVER THE INPUT: true; the input reads as it did. -/
def taskIdleSpec : ChangeSpec := { name := "taskIdle", fn := fun _ => fun
  | [d1, d2, d3] => { results := [.lit (.bool true)], args := [d1, d2, d3] }
  | _ => none }
def taskIdleRow : OpenClaim := { program := "ytedhhjmjlpnlpaa", sum := "7aa34c8f1eec7cfc5bb9c41ad5fc54b8a27b9e40fa64ecee5440442aa8c95317", func := "tailwater/tailwaterlaw27.TaskIdle", spec := "taskIdle", apart := false }
def TaskIdleSaid : Prop := taskIdleRow.holds Try.pinned (OpenSpec.ofChange taskIdleSpec)

/-- ITS FALSE NEIGHBOUR: 'it returns false'. Refute it at one input. -/
def taskIdleWrong : ChangeSpec := { name := "taskIdle", fn := fun _ => fun
  | [d1, d2, d3] => { results := [.lit (.bool false)], args := [d1, d2, d3] }
  | _ => none }
def TaskIdleWrongFalsely : Prop := taskIdleRow.holds Try.pinned (OpenSpec.ofChange taskIdleWrong)

/-- 'tailwaterlaw28.SourceNames': WHATEVER THE INPUT: true; the input reads as it did. -/
def sourceNamesSpec : ChangeSpec := { name := "sourceNames", fn := fun _ => fun
  | [] => { results := [.lit (.bool true)], args := [] }
  | _ => none }
def sourceNamesRow : OpenClaim := { program := "ytedhhjmjlpnlpaa", sum := "7aa34c8f1eec7cfc5bb9c41ad5fc54b8a27b9e40fa64ecee5440442aa8c95317", func := "tailwater/tailwaterlaw28.SourceNames", spec := "sourceNames", unfollowed := true, recurses := true, apart := false }
def SourceNamesSaid : Prop := sourceNamesRow.holds Try.pinned (OpenSpec.ofChange sourceNamesSpec)

/-- ITS FALSE NEIGHBOUR: 'it returns false'. Refute it at one input. -/
def sourceNamesWrong : ChangeSpec := { name := "sourceNames", fn := fun _ => fun
  | [] => { results := [.lit (.bool false)], args := [] }
  | _ => none }
def SourceNamesWrongFalsely : Prop := sourceNamesRow.holds Try.pinned (OpenSpec.ofChange sourceNamesWrong)

/-- 'tailwaterlaw28.SourceOrder': WHATEVER THE INPUT: true; the input reads as it did. -/
def sourceOrderSpec : ChangeSpec := { name := "sourceOrder", fn := fun _ => fun
  | [d1, d2] => { results := [.lit (.bool true)], args := [d1, d2] }
  | _ => none }
def sourceOrderRow : OpenClaim := { program := "ytedhhjmjlpnlpaa", sum := "7aa34c8f1eec7cfc5bb9c41ad5fc54b8a27b9e40fa64ecee5440442aa8c95317", func := "tailwater/tailwaterlaw28.SourceOrder", spec := "sourceOrder", unfollowed := true, recurses := true, apart := false }
def SourceOrderSaid : Prop := sourceOrderRow.holds Try.pinned (OpenSpec.ofChange sourceOrderSpec)

/-- ITS FALSE NEIGHBOUR: 'it returns false'. Refute it at one input. -/
def sourceOrderWrong : ChangeSpec := { name := "sourceOrder", fn := fun _ => fun
  | [d1, d2] => { results := [.lit (.bool false)], args := [d1, d2] }
  | _ => none }
def SourceOrderWrongFalsely : Prop := sourceOrderRow.holds Try.pinned (OpenSpec.ofChange sourceOrderWrong)

/-- 'tailwaterlaw28.SourceSame': WHATEVER THE INPUT: true; the input reads as it did. -/
def sourceSameSpec : ChangeSpec := { name := "sourceSame", fn := fun _ => fun
  | [d] => { results := [.lit (.bool true)], args := [d] }
  | _ => none }
def sourceSameRow : OpenClaim := { program := "ytedhhjmjlpnlpaa", sum := "7aa34c8f1eec7cfc5bb9c41ad5fc54b8a27b9e40fa64ecee5440442aa8c95317", func := "tailwater/tailwaterlaw28.SourceSame", spec := "sourceSame", unfollowed := true, recurses := true, apart := false }
def SourceSameSaid : Prop := sourceSameRow.holds Try.pinned (OpenSpec.ofChange sourceSameSpec)

/-- ITS FALSE NEIGHBOUR: 'it returns false'. Refute it at one input. -/
def sourceSameWrong : ChangeSpec := { name := "sourceSame", fn := fun _ => fun
  | [d] => { results := [.lit (.bool false)], args := [d] }
  | _ => none }
def SourceSameWrongFalsely : Prop := sourceSameRow.holds Try.pinned (OpenSpec.ofChange sourceSameWrong)

/-- 'tailwaterlaw27.TaskTells': WHATEVER THE INPUT: true; the input reads as it did. -/
def taskTellsSpec : ChangeSpec := { name := "taskTells", fn := fun _ => fun
  | [d1, d2, d3] => { results := [.lit (.bool true)], args := [d1, d2, d3] }
  | _ => none }
def taskTellsRow : OpenClaim := { program := "ytedhhjmjlpnlpaa", sum := "7aa34c8f1eec7cfc5bb9c41ad5fc54b8a27b9e40fa64ecee5440442aa8c95317", func := "tailwater/tailwaterlaw27.TaskTells", spec := "taskTells", apart := false }
def TaskTellsSaid : Prop := taskTellsRow.holds Try.pinned (OpenSpec.ofChange taskTellsSpec)

/-- ITS FALSE NEIGHBOUR: 'it returns false'. Refute it at one input. -/
def taskTellsWrong : ChangeSpec := { name := "taskTells", fn := fun _ => fun
  | [d1, d2, d3] => { results := [.lit (.bool false)], args := [d1, d2, d3] }
  | _ => none }
def TaskTellsWrongFalsely : Prop := taskTellsRow.holds Try.pinned (OpenSpec.ofChange taskTellsWrong)

/-- 'tailwaterlaw27.TaskTurns': WHATEVER THE INPUT: true; the input reads as it did. -/
def taskTurnsSpec : ChangeSpec := { name := "taskTurns", fn := fun _ => fun
  | [d1, d2] => { results := [.lit (.bool true)], args := [d1, d2] }
  | _ => none }
def taskTurnsRow : OpenClaim := { program := "ytedhhjmjlpnlpaa", sum := "7aa34c8f1eec7cfc5bb9c41ad5fc54b8a27b9e40fa64ecee5440442aa8c95317", func := "tailwater/tailwaterlaw27.TaskTurns", spec := "taskTurns", apart := false }
def TaskTurnsSaid : Prop := taskTurnsRow.holds Try.pinned (OpenSpec.ofChange taskTurnsSpec)

/-- ITS FALSE NEIGHBOUR: 'it returns false'. Refute it at one input. -/
def taskTurnsWrong : ChangeSpec := { name := "taskTurns", fn := fun _ => fun
  | [d1, d2] => { results := [.lit (.bool false)], args := [d1, d2] }
  | _ => none }
def TaskTurnsWrongFalsely : Prop := taskTurnsRow.holds Try.pinned (OpenSpec.ofChange taskTurnsWrong)

/-- 'tailwaterlaw27.TaskPends': WHATEVER THE INPUT: true; the input reads as it did. -/
def taskPendsSpec : ChangeSpec := { name := "taskPends", fn := fun _ => fun
  | [d1, d2, d3] => { results := [.lit (.bool true)], args := [d1, d2, d3] }
  | _ => none }
def taskPendsRow : OpenClaim := { program := "ytedhhjmjlpnlpaa", sum := "7aa34c8f1eec7cfc5bb9c41ad5fc54b8a27b9e40fa64ecee5440442aa8c95317", func := "tailwater/tailwaterlaw27.TaskPends", spec := "taskPends", apart := false }
def TaskPendsSaid : Prop := taskPendsRow.holds Try.pinned (OpenSpec.ofChange taskPendsSpec)

/-- ITS FALSE NEIGHBOUR: 'it returns false'. Refute it at one input. -/
def taskPendsWrong : ChangeSpec := { name := "taskPends", fn := fun _ => fun
  | [d1, d2, d3] => { results := [.lit (.bool false)], args := [d1, d2, d3] }
  | _ => none }
def TaskPendsWrongFalsely : Prop := taskPendsRow.holds Try.pinned (OpenSpec.ofChange taskPendsWrong)

/-- 'tailwaterlaw27.TaskSends': WHATEVER THE INPUT: true; the input reads as it did. -/
def taskSendsSpec : ChangeSpec := { name := "taskSends", fn := fun _ => fun
  | [d1, d2, d3] => { results := [.lit (.bool true)], args := [d1, d2, d3] }
  | _ => none }
def taskSendsRow : OpenClaim := { program := "ytedhhjmjlpnlpaa", sum := "7aa34c8f1eec7cfc5bb9c41ad5fc54b8a27b9e40fa64ecee5440442aa8c95317", func := "tailwater/tailwaterlaw27.TaskSends", spec := "taskSends", apart := false }
def TaskSendsSaid : Prop := taskSendsRow.holds Try.pinned (OpenSpec.ofChange taskSendsSpec)

/-- ITS FALSE NEIGHBOUR: 'it returns false'. Refute it at one input. -/
def taskSendsWrong : ChangeSpec := { name := "taskSends", fn := fun _ => fun
  | [d1, d2, d3] => { results := [.lit (.bool false)], args := [d1, d2, d3] }
  | _ => none }
def TaskSendsWrongFalsely : Prop := taskSendsRow.holds Try.pinned (OpenSpec.ofChange taskSendsWrong)

/- THE SECOND FORM. 'bulk': how many values and letters a reading holds, each counted each time it is reached (what is shared counts as often as it is met; a slice's spare places count too). A statement '..UptoSaid' is the law's where the arguments, and the package variables that the reading takes, are together of bulk at most 1048576: NARROWER than '..Said'. Prove '..Said' where nothing that the law and all that it calls make is longer than what came in: it says more and counts as full. Else prove '..UptoSaid'. A law counts once. -/
mutual
def uptoBulk {H : Type} : DataW H → Nat
  | .lit (.string bytes) => bytes.length + 1
  | .lit _ => 1
  | .nil => 1
  | .ptr d => uptoBulk d + 1
  | .slice elems spare => uptoBulkAll elems + uptoBulkAll spare + 1
  | .agg parts => uptoBulkAll parts + 1
  | .iface _ d => uptoBulk d + 1
  | .map entries => uptoBulkEntries entries + 1
  | .held _ => 1
def uptoBulkAll {H : Type} : List (DataW H) → Nat
  | [] => 0
  | d :: r => uptoBulk d + uptoBulkAll r
def uptoBulkEntries {H : Type} : List (Lit × DataW H) → Nat
  | [] => 0
  | x :: r => uptoBulkEntry x + uptoBulkEntries r
def uptoBulkEntry {H : Type} : Lit × DataW H → Nat
  | (.string bytes, d) => bytes.length + uptoBulk d + 1
  | (_, d) => uptoBulk d + 1
 end
def uptoSmall : (H : Type) → List (DataW H) → Bool := fun _ ds => decide (uptoBulkAll ds ≤ 1048576)
def OpenSpec.upto (s : _root_.Go.ChangeSpec) : _root_.Go.OpenSpec := { _root_.Go.OpenSpec.ofChange s with cond := some uptoSmall }

/-- 'tailwaterlaw28.SourceNews', WHERE WHAT IT READS IS OF BULK AT MOST 1048576: true; the input reads as it did. -/
def sourceNewsUptoRow : OpenClaim := { program := "ytedhhjmjlpnlpaa", sum := "7aa34c8f1eec7cfc5bb9c41ad5fc54b8a27b9e40fa64ecee5440442aa8c95317", func := "tailwater/tailwaterlaw28.SourceNews", spec := "sourceNews", unfollowed := true, recurses := true, apart := false, narrowed := true }
def SourceNewsUptoSaid : Prop := sourceNewsUptoRow.holds Try.pinned (OpenSpec.upto sourceNewsSpec)

/-- 'tailwaterlaw27.TaskSent', WHERE WHAT IT READS IS OF BULK AT MOST 1048576: true; the input reads as it did. -/
def taskSentUptoRow : OpenClaim := { program := "ytedhhjmjlpnlpaa", sum := "7aa34c8f1eec7cfc5bb9c41ad5fc54b8a27b9e40fa64ecee5440442aa8c95317", func := "tailwater/tailwaterlaw27.TaskSent", spec := "taskSent", apart := false, narrowed := true }
def TaskSentUptoSaid : Prop := taskSentUptoRow.holds Try.pinned (OpenSpec.upto taskSentSpec)

/-- 'tailwaterlaw28.SourceEvents', WHERE WHAT IT READS IS OF BULK AT MOST 1048576: true; the input reads as it did. -/
def sourceEventsUptoRow : OpenClaim := { program := "ytedhhjmjlpnlpaa", sum := "7aa34c8f1eec7cfc5bb9c41ad5fc54b8a27b9e40fa64ecee5440442aa8c95317", func := "tailwater/tailwaterlaw28.SourceEvents", spec := "sourceEvents", unfollowed := true, recurses := true, apart := false, narrowed := true }
def SourceEventsUptoSaid : Prop := sourceEventsUptoRow.holds Try.pinned (OpenSpec.upto sourceEventsSpec)

/-- 'tailwaterlaw27.TaskNames', WHERE WHAT IT READS IS OF BULK AT MOST 1048576: true; the input reads as it did. -/
def taskNamesUptoRow : OpenClaim := { program := "ytedhhjmjlpnlpaa", sum := "7aa34c8f1eec7cfc5bb9c41ad5fc54b8a27b9e40fa64ecee5440442aa8c95317", func := "tailwater/tailwaterlaw27.TaskNames", spec := "taskNames", apart := false, narrowed := true }
def TaskNamesUptoSaid : Prop := taskNamesUptoRow.holds Try.pinned (OpenSpec.upto taskNamesSpec)

/-- 'tailwaterlaw30.PartKeys', WHERE WHAT IT READS IS OF BULK AT MOST 1048576: true; the input reads as it did. -/
def partKeysUptoRow : OpenClaim := { program := "ytedhhjmjlpnlpaa", sum := "7aa34c8f1eec7cfc5bb9c41ad5fc54b8a27b9e40fa64ecee5440442aa8c95317", func := "tailwater/tailwaterlaw30.PartKeys", spec := "partKeys", apart := false, narrowed := true }
def PartKeysUptoSaid : Prop := partKeysUptoRow.holds Try.pinned (OpenSpec.upto partKeysSpec)

/-- 'tailwaterlaw30.PartNext', WHERE WHAT IT READS IS OF BULK AT MOST 1048576: true; the input reads as it did. -/
def partNextUptoRow : OpenClaim := { program := "ytedhhjmjlpnlpaa", sum := "7aa34c8f1eec7cfc5bb9c41ad5fc54b8a27b9e40fa64ecee5440442aa8c95317", func := "tailwater/tailwaterlaw30.PartNext", spec := "partNext", apart := false, narrowed := true }
def PartNextUptoSaid : Prop := partNextUptoRow.holds Try.pinned (OpenSpec.upto partNextSpec)

/-- 'tailwaterlaw30.PartTakes', WHERE WHAT IT READS IS OF BULK AT MOST 1048576: true; the input reads as it did. -/
def partTakesUptoRow : OpenClaim := { program := "ytedhhjmjlpnlpaa", sum := "7aa34c8f1eec7cfc5bb9c41ad5fc54b8a27b9e40fa64ecee5440442aa8c95317", func := "tailwater/tailwaterlaw30.PartTakes", spec := "partTakes", apart := false, narrowed := true }
def PartTakesUptoSaid : Prop := partTakesUptoRow.holds Try.pinned (OpenSpec.upto partTakesSpec)

/-- 'tailwaterlaw30.PartNames', WHERE WHAT IT READS IS OF BULK AT MOST 1048576: true; the input reads as it did. -/
def partNamesUptoRow : OpenClaim := { program := "ytedhhjmjlpnlpaa", sum := "7aa34c8f1eec7cfc5bb9c41ad5fc54b8a27b9e40fa64ecee5440442aa8c95317", func := "tailwater/tailwaterlaw30.PartNames", spec := "partNames", apart := false, narrowed := true }
def PartNamesUptoSaid : Prop := partNamesUptoRow.holds Try.pinned (OpenSpec.upto partNamesSpec)

/-- 'tailwaterlaw30.PartOneWay', WHERE WHAT IT READS IS OF BULK AT MOST 1048576: true; the input reads as it did. -/
def partOneWayUptoRow : OpenClaim := { program := "ytedhhjmjlpnlpaa", sum := "7aa34c8f1eec7cfc5bb9c41ad5fc54b8a27b9e40fa64ecee5440442aa8c95317", func := "tailwater/tailwaterlaw30.PartOneWay", spec := "partOneWay", apart := false, narrowed := true }
def PartOneWayUptoSaid : Prop := partOneWayUptoRow.holds Try.pinned (OpenSpec.upto partOneWaySpec)

/-- 'tailwaterlaw28.SourceSteps', WHERE WHAT IT READS IS OF BULK AT MOST 1048576: true; the input reads as it did. -/
def sourceStepsUptoRow : OpenClaim := { program := "ytedhhjmjlpnlpaa", sum := "7aa34c8f1eec7cfc5bb9c41ad5fc54b8a27b9e40fa64ecee5440442aa8c95317", func := "tailwater/tailwaterlaw28.SourceSteps", spec := "sourceSteps", unfollowed := true, recurses := true, apart := false, narrowed := true }
def SourceStepsUptoSaid : Prop := sourceStepsUptoRow.holds Try.pinned (OpenSpec.upto sourceStepsSpec)

/-- 'tailwaterlaw27.TaskIdle', WHERE WHAT IT READS IS OF BULK AT MOST 1048576: true; the input reads as it did. -/
def taskIdleUptoRow : OpenClaim := { program := "ytedhhjmjlpnlpaa", sum := "7aa34c8f1eec7cfc5bb9c41ad5fc54b8a27b9e40fa64ecee5440442aa8c95317", func := "tailwater/tailwaterlaw27.TaskIdle", spec := "taskIdle", apart := false, narrowed := true }
def TaskIdleUptoSaid : Prop := taskIdleUptoRow.holds Try.pinned (OpenSpec.upto taskIdleSpec)

/-- 'tailwaterlaw28.SourceNames', WHERE WHAT IT READS IS OF BULK AT MOST 1048576: true; the input reads as it did. -/
def sourceNamesUptoRow : OpenClaim := { program := "ytedhhjmjlpnlpaa", sum := "7aa34c8f1eec7cfc5bb9c41ad5fc54b8a27b9e40fa64ecee5440442aa8c95317", func := "tailwater/tailwaterlaw28.SourceNames", spec := "sourceNames", unfollowed := true, recurses := true, apart := false, narrowed := true }
def SourceNamesUptoSaid : Prop := sourceNamesUptoRow.holds Try.pinned (OpenSpec.upto sourceNamesSpec)

/-- 'tailwaterlaw28.SourceOrder', WHERE WHAT IT READS IS OF BULK AT MOST 1048576: true; the input reads as it did. -/
def sourceOrderUptoRow : OpenClaim := { program := "ytedhhjmjlpnlpaa", sum := "7aa34c8f1eec7cfc5bb9c41ad5fc54b8a27b9e40fa64ecee5440442aa8c95317", func := "tailwater/tailwaterlaw28.SourceOrder", spec := "sourceOrder", unfollowed := true, recurses := true, apart := false, narrowed := true }
def SourceOrderUptoSaid : Prop := sourceOrderUptoRow.holds Try.pinned (OpenSpec.upto sourceOrderSpec)

/-- 'tailwaterlaw28.SourceSame', WHERE WHAT IT READS IS OF BULK AT MOST 1048576: true; the input reads as it did. -/
def sourceSameUptoRow : OpenClaim := { program := "ytedhhjmjlpnlpaa", sum := "7aa34c8f1eec7cfc5bb9c41ad5fc54b8a27b9e40fa64ecee5440442aa8c95317", func := "tailwater/tailwaterlaw28.SourceSame", spec := "sourceSame", unfollowed := true, recurses := true, apart := false, narrowed := true }
def SourceSameUptoSaid : Prop := sourceSameUptoRow.holds Try.pinned (OpenSpec.upto sourceSameSpec)

/-- 'tailwaterlaw27.TaskTells', WHERE WHAT IT READS IS OF BULK AT MOST 1048576: true; the input reads as it did. -/
def taskTellsUptoRow : OpenClaim := { program := "ytedhhjmjlpnlpaa", sum := "7aa34c8f1eec7cfc5bb9c41ad5fc54b8a27b9e40fa64ecee5440442aa8c95317", func := "tailwater/tailwaterlaw27.TaskTells", spec := "taskTells", apart := false, narrowed := true }
def TaskTellsUptoSaid : Prop := taskTellsUptoRow.holds Try.pinned (OpenSpec.upto taskTellsSpec)

/-- 'tailwaterlaw27.TaskTurns', WHERE WHAT IT READS IS OF BULK AT MOST 1048576: true; the input reads as it did. -/
def taskTurnsUptoRow : OpenClaim := { program := "ytedhhjmjlpnlpaa", sum := "7aa34c8f1eec7cfc5bb9c41ad5fc54b8a27b9e40fa64ecee5440442aa8c95317", func := "tailwater/tailwaterlaw27.TaskTurns", spec := "taskTurns", apart := false, narrowed := true }
def TaskTurnsUptoSaid : Prop := taskTurnsUptoRow.holds Try.pinned (OpenSpec.upto taskTurnsSpec)

/-- 'tailwaterlaw27.TaskPends', WHERE WHAT IT READS IS OF BULK AT MOST 1048576: true; the input reads as it did. -/
def taskPendsUptoRow : OpenClaim := { program := "ytedhhjmjlpnlpaa", sum := "7aa34c8f1eec7cfc5bb9c41ad5fc54b8a27b9e40fa64ecee5440442aa8c95317", func := "tailwater/tailwaterlaw27.TaskPends", spec := "taskPends", apart := false, narrowed := true }
def TaskPendsUptoSaid : Prop := taskPendsUptoRow.holds Try.pinned (OpenSpec.upto taskPendsSpec)

/-- 'tailwaterlaw27.TaskSends', WHERE WHAT IT READS IS OF BULK AT MOST 1048576: true; the input reads as it did. -/
def taskSendsUptoRow : OpenClaim := { program := "ytedhhjmjlpnlpaa", sum := "7aa34c8f1eec7cfc5bb9c41ad5fc54b8a27b9e40fa64ecee5440442aa8c95317", func := "tailwater/tailwaterlaw27.TaskSends", spec := "taskSends", apart := false, narrowed := true }
def TaskSendsUptoSaid : Prop := taskSendsUptoRow.holds Try.pinned (OpenSpec.upto taskSendsSpec)

end Rows
end Go.Proofs.Ytedhhjmjlpnlpaa
