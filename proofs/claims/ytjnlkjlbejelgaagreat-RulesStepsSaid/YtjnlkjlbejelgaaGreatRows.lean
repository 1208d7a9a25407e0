/-
  No cell of these rows narrows 'for every input' (looked for: loops, veiled, ifaces, maps, wideKeys, modest, calm, conditions, laid).
  DERIVED. THE GIVEN ROWS OF THIS SEAT. 5 by the template 'for every input the law returns true; each argument reads behind the call as it read before'; 0 by the template 'total and deterministic' (their statements: YtjnlkjlbejelgaaGreatTotals.lean).
  GIVEN WITH THE SEED: the statements are not yours to turn. If you find one false, say at which input.
  Laid BY PROGRAM, IN A SANDBOX (cutbox-rows.mjs): the forced cells as the released guide's own fill.sh prints them over the translation ec72daa808315b04… (all of the seat's roots in one cut). By AI agents, Wed Nov 11 2026. No macro, syntax, notation, axiom, sorry.
-/
import Derived.Test.YtjnlkjlbejelgaaGreatChecked
import GoSem.Claim
import GoSem.ClaimJoined
import GoSem.ClaimMapViews
import Derived.JoinedTies
import Derived.KernelRfl
namespace Go.Proofs.YtjnlkjlbejelgaaGreat
/- THE CELL 'sum', in the pinned program and in every row, IS THE sha256 OF THE DUMP (.gsa) THAT YtjnlkjlbejelgaaGreatProg.lean LOADS. Nothing in Lean hashes anything: it is a label: what it is worth is what the hold of that sum in a sandbox is worth. -/
noncomputable def Tryz.pinned : Pinned := { name := "ytjnlkjlbejelgaagreat", sum := "ec72daa808315b04d5c4c78e9af1af5fa836e9dcf786a1fb150a2e496922b711", checked := Tryz.checked }
namespace Rows
def none {H : Type} : Left H := { results := [], args := [] }

/-- 'rexmilllaw21.RulesApply': WHATEVER THE INPUT: true; the input reads as it did. -/
def rulesApplySpec : ChangeSpec := { name := "rulesApply", fn := fun _ => fun
  | [d1, d2, d3, d4] => { results := [.lit (.bool true)], args := [d1, d2, d3, d4] }
  | _ => none }
def rulesApplyRow : OpenClaim := { program := "ytjnlkjlbejelgaagreat", sum := "ec72daa808315b04d5c4c78e9af1af5fa836e9dcf786a1fb150a2e496922b711", func := "rexmill/rexmilllaw21.RulesApply", spec := "rulesApply", unfollowed := true, recurses := true, apart := false }
def RulesApplySaid : Prop := rulesApplyRow.holds Tryz.pinned (OpenSpec.ofChange rulesApplySpec)

/-- ITS FALSE NEIGHBOUR: 'it returns false'. Refute it at one input. -/
def rulesApplyWrong : ChangeSpec := { name := "rulesApply", fn := fun _ => fun
  | [d1, d2, d3, d4] => { results := [.lit (.bool false)], args := [d1, d2, d3, d4] }
  | _ => none }
def RulesApplyWrongFalsely : Prop := rulesApplyRow.holds Tryz.pinned (OpenSpec.ofChange rulesApplyWrong)

/-- 'rexmilllaw21.RulesReplay': WHATEVER THE INPUT: true; the input reads as it did. -/
def rulesReplaySpec : ChangeSpec := { name := "rulesReplay", fn := fun _ => fun
  | [d1, d2, d3, d4, d5] => { results := [.lit (.bool true)], args := [d1, d2, d3, d4, d5] }
  | _ => none }
def rulesReplayRow : OpenClaim := { program := "ytjnlkjlbejelgaagreat", sum := "ec72daa808315b04d5c4c78e9af1af5fa836e9dcf786a1fb150a2e496922b711", func := "rexmill/rexmilllaw21.RulesReplay", spec := "rulesReplay", unfollowed := true, recurses := true, apart := false }
def RulesReplaySaid : Prop := rulesReplayRow.holds Tryz.pinned (OpenSpec.ofChange rulesReplaySpec)

/-- ITS FALSE NEIGHBOUR: 'it returns false'. Refute it at one input. -/
def rulesReplayWrong : ChangeSpec := { name := "rulesReplay", fn := fun _ => fun
  | [d1, d2, d3, d4, d5] => { results := [.lit (.bool false)], args := [d1, d2, d3, d4, d5] }
  | _ => none }
def RulesReplayWrongFalsely : Prop := rulesReplayRow.holds Tryz.pinned (OpenSpec.ofChange rulesReplayWrong)

/-- 'rexmilllaw21.RulesSteps': WHATEVER THE INPUT: true; the input reads as it did. -/
def rulesStepsSpec : ChangeSpec := { name := "rulesSteps", fn := fun _ => fun
  | [d1, d2, d3, d4] => { results := [.lit (.bool true)], args := [d1, d2, d3, d4] }
  | _ => none }
def rulesStepsRow : OpenClaim := { program := "ytjnlkjlbejelgaagreat", sum := "ec72daa808315b04d5c4c78e9af1af5fa836e9dcf786a1fb150a2e496922b711", func := "rexmill/rexmilllaw21.RulesSteps", spec := "rulesSteps", unfollowed := true, recurses := true, apart := false }
def RulesStepsSaid : Prop := rulesStepsRow.holds Tryz.pinned (OpenSpec.ofChange rulesStepsSpec)

/-- ITS FALSE NEIGHBOUR: 'it returns false'. Refute it at one input. -/
def rulesStepsWrong : ChangeSpec := { name := "rulesSteps", fn := fun _ => fun
  | [d1, d2, d3, d4] => { results := [.lit (.bool false)], args := [d1, d2, d3, d4] }
  | _ => none }
def RulesStepsWrongFalsely : Prop := rulesStepsRow.holds Tryz.pinned (OpenSpec.ofChange rulesStepsWrong)

/-- 'rexmilllaw21.RulesParts': WHATEVER THE INPUT: true; the input reads as it did. -/
def rulesPartsSpec : ChangeSpec := { name := "rulesParts", fn := fun _ => fun
  | [d1, d2, d3, d4, d5] => { results := [.lit (.bool true)], args := [d1, d2, d3, d4, d5] }
  | _ => none }
def rulesPartsRow : OpenClaim := { program := "ytjnlkjlbejelgaagreat", sum := "ec72daa808315b04d5c4c78e9af1af5fa836e9dcf786a1fb150a2e496922b711", func := "rexmill/rexmilllaw21.RulesParts", spec := "rulesParts", unfollowed := true, recurses := true, apart := false }
def RulesPartsSaid : Prop := rulesPartsRow.holds Tryz.pinned (OpenSpec.ofChange rulesPartsSpec)

/-- ITS FALSE NEIGHBOUR: 'it returns false'. Refute it at one input. -/
def rulesPartsWrong : ChangeSpec := { name := "rulesParts", fn := fun _ => fun
  | [d1, d2, d3, d4, d5] => { results := [.lit (.bool false)], args := [d1, d2, d3, d4, d5] }
  | _ => none }
def RulesPartsWrongFalsely : Prop := rulesPartsRow.holds Tryz.pinned (OpenSpec.ofChange rulesPartsWrong)

/-- 'rexmilllaw21.RulesLess': WHATEVER THE INPUT: true; the input reads as it did. -/
def rulesLessSpec : ChangeSpec := { name := "rulesLess", fn := fun _ => fun
  | [d1, d2, d3] => { results := [.lit (.bool true)], args := [d1, d2, d3] }
  | _ => none }
def rulesLessRow : OpenClaim := { program := "ytjnlkjlbejelgaagreat", sum := "ec72daa808315b04d5c4c78e9af1af5fa836e9dcf786a1fb150a2e496922b711", func := "rexmill/rexmilllaw21.RulesLess", spec := "rulesLess", unfollowed := true, recurses := true, apart := false }
def RulesLessSaid : Prop := rulesLessRow.holds Tryz.pinned (OpenSpec.ofChange rulesLessSpec)

/-- ITS FALSE NEIGHBOUR: 'it returns false'. Refute it at one input. -/
def rulesLessWrong : ChangeSpec := { name := "rulesLess", fn := fun _ => fun
  | [d1, d2, d3] => { results := [.lit (.bool false)], args := [d1, d2, d3] }
  | _ => none }
def RulesLessWrongFalsely : Prop := rulesLessRow.holds Tryz.pinned (OpenSpec.ofChange rulesLessWrong)

/- THE SECOND FORM. 'bulk': how many values and letters a reading holds, each counted each time it is reached (what is shared counts as often as it is met; a slice's spare places count too). A statement '..UptoSaid' is the law's where the arguments, and the package variables that the reading takes, are together of bulk at most 1048576: NARROWER than '..Said'. Prove '..Said' where nothing that the law and all that it calls make is longer than what came in: it says more and counts as full. Else prove '..UptoSaid'. A law counts once. -/
mutual
def uptoBulk {H : Type} : DataW H → Nat
  | .lit (.string bytes) => bytes.length + 1
  | .lit _ => 1
  | .nil => 1
  | .ptr d => uptoBulk d + 1
  | .slice elems spare => uptoBulkAll elems + uptoBulkAll spare + 1
  | .agg parts => uptoBulkAll parts + 1
  | .iface _ d => uptoBulk d + 1
  | .map entries => uptoBulkEntries entries + 1
  | .held _ => 1
def uptoBulkAll {H : Type} : List (DataW H) → Nat
  | [] => 0
  | d :: r => uptoBulk d + uptoBulkAll r
def uptoBulkEntries {H : Type} : List (Lit × DataW H) → Nat
  | [] => 0
  | x :: r => uptoBulkEntry x + uptoBulkEntries r
def uptoBulkEntry {H : Type} : Lit × DataW H → Nat
  | (.string bytes, d) => bytes.length + uptoBulk d + 1
  | (_, d) => uptoBulk d + 1
 end
def uptoSmall : (H : Type) → List (DataW H) → Bool := fun _ ds => decide (uptoBulkAll ds ≤ 1048576)
def OpenSpec.upto (s : _root_.Go.ChangeSpec) : _root_.Go.OpenSpec := { _root_.Go.OpenSpec.ofChange s with cond := some uptoSmall }

/-- 'rexmilllaw21.RulesApply', WHERE WHAT IT READS IS OF BULK AT MOST 1048576: true; the input reads as it did. -/
def rulesApplyUptoRow : OpenClaim := { program := "ytjnlkjlbejelgaagreat", sum := "ec72daa808315b04d5c4c78e9af1af5fa836e9dcf786a1fb150a2e496922b711", func := "rexmill/rexmilllaw21.RulesApply", spec := "rulesApply", unfollowed := true, recurses := true, apart := false, narrowed := true }
def RulesApplyUptoSaid : Prop := rulesApplyUptoRow.holds Tryz.pinned (OpenSpec.upto rulesApplySpec)

/-- 'rexmilllaw21.RulesReplay', WHERE WHAT IT READS IS OF BULK AT MOST 1048576: true; the input reads as it did. -/
def rulesReplayUptoRow : OpenClaim := { program := "ytjnlkjlbejelgaagreat", sum := "ec72daa808315b04d5c4c78e9af1af5fa836e9dcf786a1fb150a2e496922b711", func := "rexmill/rexmilllaw21.RulesReplay", spec := "rulesReplay", unfollowed := true, recurses := true, apart := false, narrowed := true }
def RulesReplayUptoSaid : Prop := rulesReplayUptoRow.holds Tryz.pinned (OpenSpec.upto rulesReplaySpec)

/-- 'rexmilllaw21.RulesSteps', WHERE WHAT IT READS IS OF BULK AT MOST 1048576: true; the input reads as it did. -/
def rulesStepsUptoRow : OpenClaim := { program := "ytjnlkjlbejelgaagreat", sum := "ec72daa808315b04d5c4c78e9af1af5fa836e9dcf786a1fb150a2e496922b711", func := "rexmill/rexmilllaw21.RulesSteps", spec := "rulesSteps", unfollowed := true, recurses := true, apart := false, narrowed := true }
def RulesStepsUptoSaid : Prop := rulesStepsUptoRow.holds Tryz.pinned (OpenSpec.upto rulesStepsSpec)

/-- 'rexmilllaw21.RulesParts', WHERE WHAT IT READS IS OF BULK AT MOST 1048576: true; the input reads as it did. -/
def rulesPartsUptoRow : OpenClaim := { program := "ytjnlkjlbejelgaagreat", sum := "ec72daa808315b04d5c4c78e9af1af5fa836e9dcf786a1fb150a2e496922b711", func := "rexmill/rexmilllaw21.RulesParts", spec := "rulesParts", unfollowed := true, recurses := true, apart := false, narrowed := true }
def RulesPartsUptoSaid : Prop := rulesPartsUptoRow.holds Tryz.pinned (OpenSpec.upto rulesPartsSpec)

/-- 'rexmilllaw21.RulesLess', WHERE WHAT IT READS IS OF BULK AT MOST 1048576: true; the input reads as it did. -/
def rulesLessUptoRow : OpenClaim := { program := "ytjnlkjlbejelgaagreat", sum := "ec72daa808315b04d5c4c78e9af1af5fa836e9dcf786a1fb150a2e496922b711", func := "rexmill/rexmilllaw21.RulesLess", spec := "rulesLess", unfollowed := true, recurses := true, apart := false, narrowed := true }
def RulesLessUptoSaid : Prop := rulesLessUptoRow.holds Tryz.pinned (OpenSpec.upto rulesLessSpec)

end Rows
end Go.Proofs.YtjnlkjlbejelgaaGreat
