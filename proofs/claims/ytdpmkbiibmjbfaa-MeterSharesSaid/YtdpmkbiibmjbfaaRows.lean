/-
  No cell of these rows narrows 'for every input' (looked for: loops, veiled, ifaces, maps, wideKeys, modest, calm, conditions, laid).
  DERIVED. THE GIVEN ROWS OF THIS SEAT. 7 by the template 'for every input the law returns true; each argument reads behind the call as it read before'; 0 by the template 'total and deterministic' (their statements: YtdpmkbiibmjbfaaTotals.lean).
  GIVEN WITH THE SEED: the statements are not yours to turn. If you find one false, say at which input.
  Laid BY PROGRAM, IN A SANDBOX (cutbox-rows.mjs): the forced cells as the released guide's own fill.sh prints them over the translation 9f55f6f0d2156764… (all of the seat's roots in one cut). By AI agents, Wed Nov 11 2026. No macro, syntax, notation, axiom, sorry.
-/
import Derived.Test.YtdpmkbiibmjbfaaChecked
import GoSem.Claim
import GoSem.ClaimJoined
import GoSem.ClaimMapViews
import Derived.JoinedTies
import Derived.KernelRfl
namespace Go.Proofs.Ytdpmkbiibmjbfaa
/- THE CELL 'sum', in the pinned program and in every row, IS THE sha256 OF THE DUMP (.gsa) THAT YtdpmkbiibmjbfaaProg.lean LOADS. Nothing in Lean hashes anything: it is a label: what it is worth is what the hold of that sum in a sandbox is worth. -/
noncomputable def Try.pinned : Pinned := { name := "ytdpmkbiibmjbfaa", sum := "9f55f6f0d21567640139e126be28be989ed1eba4292114a771f8f04b213eaa6c", checked := Try.checked }
namespace Rows
def none {H : Type} : Left H := { results := [], args := [] }

/-- 'rexmilllaw33.MeterShares': WHATEVER THE INPUT: true; the input reads as it did. -/
def meterSharesSpec : ChangeSpec := { name := "meterShares", fn := fun _ => fun
  | [d1, d2, d3, d4, d5] => { results := [.lit (.bool true)], args := [d1, d2, d3, d4, d5] }
  | _ => none }
def meterSharesRow : OpenClaim := { program := "ytdpmkbiibmjbfaa", sum := "9f55f6f0d21567640139e126be28be989ed1eba4292114a771f8f04b213eaa6c", func := "rexmill/rexmilllaw33.MeterShares", spec := "meterShares", unfollowed := true, recurses := true, apart := false }
def MeterSharesSaid : Prop := meterSharesRow.holds Try.pinned (OpenSpec.ofChange meterSharesSpec)

/-- ITS FALSE NEIGHBOUR: 'it returns false'. Refute it at one input. -/
def meterSharesWrong : ChangeSpec := { name := "meterShares", fn := fun _ => fun
  | [d1, d2, d3, d4, d5] => { results := [.lit (.bool false)], args := [d1, d2, d3, d4, d5] }
  | _ => none }
def MeterSharesWrongFalsely : Prop := meterSharesRow.holds Try.pinned (OpenSpec.ofChange meterSharesWrong)

/-- 'rexmilllaw33.MeterFair': WHATEVER THE INPUT: true; the input reads as it did. -/
def meterFairSpec : ChangeSpec := { name := "meterFair", fn := fun _ => fun
  | [d1, d2] => { results := [.lit (.bool true)], args := [d1, d2] }
  | _ => none }
def meterFairRow : OpenClaim := { program := "ytdpmkbiibmjbfaa", sum := "9f55f6f0d21567640139e126be28be989ed1eba4292114a771f8f04b213eaa6c", func := "rexmill/rexmilllaw33.MeterFair", spec := "meterFair", unfollowed := true, recurses := true, apart := false }
def MeterFairSaid : Prop := meterFairRow.holds Try.pinned (OpenSpec.ofChange meterFairSpec)

/-- ITS FALSE NEIGHBOUR: 'it returns false'. Refute it at one input. -/
def meterFairWrong : ChangeSpec := { name := "meterFair", fn := fun _ => fun
  | [d1, d2] => { results := [.lit (.bool false)], args := [d1, d2] }
  | _ => none }
def MeterFairWrongFalsely : Prop := meterFairRow.holds Try.pinned (OpenSpec.ofChange meterFairWrong)

/-- 'rexmilllaw33.MeterDivides': WHATEVER THE INPUT: true; the input reads as it did. -/
def meterDividesSpec : ChangeSpec := { name := "meterDivides", fn := fun _ => fun
  | [d1, d2, d3] => { results := [.lit (.bool true)], args := [d1, d2, d3] }
  | _ => none }
def meterDividesRow : OpenClaim := { program := "ytdpmkbiibmjbfaa", sum := "9f55f6f0d21567640139e126be28be989ed1eba4292114a771f8f04b213eaa6c", func := "rexmill/rexmilllaw33.MeterDivides", spec := "meterDivides", unfollowed := true, recurses := true, apart := false }
def MeterDividesSaid : Prop := meterDividesRow.holds Try.pinned (OpenSpec.ofChange meterDividesSpec)

/-- ITS FALSE NEIGHBOUR: 'it returns false'. Refute it at one input. -/
def meterDividesWrong : ChangeSpec := { name := "meterDivides", fn := fun _ => fun
  | [d1, d2, d3] => { results := [.lit (.bool false)], args := [d1, d2, d3] }
  | _ => none }
def MeterDividesWrongFalsely : Prop := meterDividesRow.holds Try.pinned (OpenSpec.ofChange meterDividesWrong)

/-- 'rexmilllaw33.MeterApart': WHATEVER THE INPUT: true; the input reads as it did. -/
def meterApartSpec : ChangeSpec := { name := "meterApart", fn := fun _ => fun
  | [d1, d2, d3] => { results := [.lit (.bool true)], args := [d1, d2, d3] }
  | _ => none }
def meterApartRow : OpenClaim := { program := "ytdpmkbiibmjbfaa", sum := "9f55f6f0d21567640139e126be28be989ed1eba4292114a771f8f04b213eaa6c", func := "rexmill/rexmilllaw33.MeterApart", spec := "meterApart", unfollowed := true, recurses := true, apart := false }
def MeterApartSaid : Prop := meterApartRow.holds Try.pinned (OpenSpec.ofChange meterApartSpec)

/-- ITS FALSE NEIGHBOUR: 'it returns false'. Refute it at one input. -/
def meterApartWrong : ChangeSpec := { name := "meterApart", fn := fun _ => fun
  | [d1, d2, d3] => { results := [.lit (.bool false)], args := [d1, d2, d3] }
  | _ => none }
def MeterApartWrongFalsely : Prop := meterApartRow.holds Try.pinned (OpenSpec.ofChange meterApartWrong)

/-- 'rexmilllaw33.MeterRuns': WHATEVER THE INPUT: true; the input reads as it did. -/
def meterRunsSpec : ChangeSpec := { name := "meterRuns", fn := fun _ => fun
  | [d1, d2, d3] => { results := [.lit (.bool true)], args := [d1, d2, d3] }
  | _ => none }
def meterRunsRow : OpenClaim := { program := "ytdpmkbiibmjbfaa", sum := "9f55f6f0d21567640139e126be28be989ed1eba4292114a771f8f04b213eaa6c", func := "rexmill/rexmilllaw33.MeterRuns", spec := "meterRuns", unfollowed := true, recurses := true, apart := false }
def MeterRunsSaid : Prop := meterRunsRow.holds Try.pinned (OpenSpec.ofChange meterRunsSpec)

/-- ITS FALSE NEIGHBOUR: 'it returns false'. Refute it at one input. -/
def meterRunsWrong : ChangeSpec := { name := "meterRuns", fn := fun _ => fun
  | [d1, d2, d3] => { results := [.lit (.bool false)], args := [d1, d2, d3] }
  | _ => none }
def MeterRunsWrongFalsely : Prop := meterRunsRow.holds Try.pinned (OpenSpec.ofChange meterRunsWrong)

/-- 'rexmilllaw33.MeterArguments': WHATEVER THE INPUT: true; the input reads as it did. -/
def meterArgumentsSpec : ChangeSpec := { name := "meterArguments", fn := fun _ => fun
  | [d1, d2, d3, d4, d5, d6] => { results := [.lit (.bool true)], args := [d1, d2, d3, d4, d5, d6] }
  | _ => none }
def meterArgumentsRow : OpenClaim := { program := "ytdpmkbiibmjbfaa", sum := "9f55f6f0d21567640139e126be28be989ed1eba4292114a771f8f04b213eaa6c", func := "rexmill/rexmilllaw33.MeterArguments", spec := "meterArguments", unfollowed := true, recurses := true, apart := false }
def MeterArgumentsSaid : Prop := meterArgumentsRow.holds Try.pinned (OpenSpec.ofChange meterArgumentsSpec)

/-- ITS FALSE NEIGHBOUR: 'it returns false'. Refute it at one input. -/
def meterArgumentsWrong : ChangeSpec := { name := "meterArguments", fn := fun _ => fun
  | [d1, d2, d3, d4, d5, d6] => { results := [.lit (.bool false)], args := [d1, d2, d3, d4, d5, d6] }
  | _ => none }
def MeterArgumentsWrongFalsely : Prop := meterArgumentsRow.holds Try.pinned (OpenSpec.ofChange meterArgumentsWrong)

/-- 'rexmilllaw33.MeterCopies': WHATEVER THE INPUT: true; the input reads as it did. -/
def meterCopiesSpec : ChangeSpec := { name := "meterCopies", fn := fun _ => fun
  | [d1, d2, d3] => { results := [.lit (.bool true)], args := [d1, d2, d3] }
  | _ => none }
def meterCopiesRow : OpenClaim := { program := "ytdpmkbiibmjbfaa", sum := "9f55f6f0d21567640139e126be28be989ed1eba4292114a771f8f04b213eaa6c", func := "rexmill/rexmilllaw33.MeterCopies", spec := "meterCopies", unfollowed := true, recurses := true, apart := false }
def MeterCopiesSaid : Prop := meterCopiesRow.holds Try.pinned (OpenSpec.ofChange meterCopiesSpec)

/-- ITS FALSE NEIGHBOUR: 'it returns false'. Refute it at one input. -/
def meterCopiesWrong : ChangeSpec := { name := "meterCopies", fn := fun _ => fun
  | [d1, d2, d3] => { results := [.lit (.bool false)], args := [d1, d2, d3] }
  | _ => none }
def MeterCopiesWrongFalsely : Prop := meterCopiesRow.holds Try.pinned (OpenSpec.ofChange meterCopiesWrong)

/- THE SECOND FORM. 'bulk': how many values and letters a reading holds, each counted each time it is reached (what is shared counts as often as it is met; a slice's spare places count too). A statement '..UptoSaid' is the law's where the arguments, and the package variables that the reading takes, are together of bulk at most 1048576: NARROWER than '..Said'. Prove '..Said' where nothing that the law and all that it calls make is longer than what came in: it says more and counts as full. Else prove '..UptoSaid'. A law counts once. -/
mutual
def uptoBulk {H : Type} : DataW H → Nat
  | .lit (.string bytes) => bytes.length + 1
  | .lit _ => 1
  | .nil => 1
  | .ptr d => uptoBulk d + 1
  | .slice elems spare => uptoBulkAll elems + uptoBulkAll spare + 1
  | .agg parts => uptoBulkAll parts + 1
  | .iface _ d => uptoBulk d + 1
  | .map entries => uptoBulkEntries entries + 1
  | .held _ => 1
def uptoBulkAll {H : Type} : List (DataW H) → Nat
  | [] => 0
  | d :: r => uptoBulk d + uptoBulkAll r
def uptoBulkEntries {H : Type} : List (Lit × DataW H) → Nat
  | [] => 0
  | x :: r => uptoBulkEntry x + uptoBulkEntries r
def uptoBulkEntry {H : Type} : Lit × DataW H → Nat
  | (.string bytes, d) => bytes.length + uptoBulk d + 1
  | (_, d) => uptoBulk d + 1
 end
def uptoSmall : (H : Type) → List (DataW H) → Bool := fun _ ds => decide (uptoBulkAll ds ≤ 1048576)
def OpenSpec.upto (s : _root_.Go.ChangeSpec) : _root_.Go.OpenSpec := { _root_.Go.OpenSpec.ofChange s with cond := some uptoSmall }

/-- 'rexmilllaw33.MeterShares', WHERE WHAT IT READS IS OF BULK AT MOST 1048576: true; the input reads as it did. -/
def meterSharesUptoRow : OpenClaim := { program := "ytdpmkbiibmjbfaa", sum := "9f55f6f0d21567640139e126be28be989ed1eba4292114a771f8f04b213eaa6c", func := "rexmill/rexmilllaw33.MeterShares", spec := "meterShares", unfollowed := true, recurses := true, apart := false, narrowed := true }
def MeterSharesUptoSaid : Prop := meterSharesUptoRow.holds Try.pinned (OpenSpec.upto meterSharesSpec)

/-- 'rexmilllaw33.MeterFair', WHERE WHAT IT READS IS OF BULK AT MOST 1048576: true; the input reads as it did. -/
def meterFairUptoRow : OpenClaim := { program := "ytdpmkbiibmjbfaa", sum := "9f55f6f0d21567640139e126be28be989ed1eba4292114a771f8f04b213eaa6c", func := "rexmill/rexmilllaw33.MeterFair", spec := "meterFair", unfollowed := true, recurses := true, apart := false, narrowed := true }
def MeterFairUptoSaid : Prop := meterFairUptoRow.holds Try.pinned (OpenSpec.upto meterFairSpec)

/-- 'rexmilllaw33.MeterDivides', WHERE WHAT IT READS IS OF BULK AT MOST 1048576: true; the input reads as it did. -/
def meterDividesUptoRow : OpenClaim := { program := "ytdpmkbiibmjbfaa", sum := "9f55f6f0d21567640139e126be28be989ed1eba4292114a771f8f04b213eaa6c", func := "rexmill/rexmilllaw33.MeterDivides", spec := "meterDivides", unfollowed := true, recurses := true, apart := false, narrowed := true }
def MeterDividesUptoSaid : Prop := meterDividesUptoRow.holds Try.pinned (OpenSpec.upto meterDividesSpec)

/-- 'rexmilllaw33.MeterApart', WHERE WHAT IT READS IS OF BULK AT MOST 1048576: true; the input reads as it did. -/
def meterApartUptoRow : OpenClaim := { program := "ytdpmkbiibmjbfaa", sum := "9f55f6f0d21567640139e126be28be989ed1eba4292114a771f8f04b213eaa6c", func := "rexmill/rexmilllaw33.MeterApart", spec := "meterApart", unfollowed := true, recurses := true, apart := false, narrowed := true }
def MeterApartUptoSaid : Prop := meterApartUptoRow.holds Try.pinned (OpenSpec.upto meterApartSpec)

/-- 'rexmilllaw33.MeterRuns', WHERE WHAT IT READS IS OF BULK AT MOST 1048576: true; the input reads as it did. -/
def meterRunsUptoRow : OpenClaim := { program := "ytdpmkbiibmjbfaa", sum := "9f55f6f0d21567640139e126be28be989ed1eba4292114a771f8f04b213eaa6c", func := "rexmill/rexmilllaw33.MeterRuns", spec := "meterRuns", unfollowed := true, recurses := true, apart := false, narrowed := true }
def MeterRunsUptoSaid : Prop := meterRunsUptoRow.holds Try.pinned (OpenSpec.upto meterRunsSpec)

/-- 'rexmilllaw33.MeterArguments', WHERE WHAT IT READS IS OF BULK AT MOST 1048576: true; the input reads as it did. -/
def meterArgumentsUptoRow : OpenClaim := { program := "ytdpmkbiibmjbfaa", sum := "9f55f6f0d21567640139e126be28be989ed1eba4292114a771f8f04b213eaa6c", func := "rexmill/rexmilllaw33.MeterArguments", spec := "meterArguments", unfollowed := true, recurses := true, apart := false, narrowed := true }
def MeterArgumentsUptoSaid : Prop := meterArgumentsUptoRow.holds Try.pinned (OpenSpec.upto meterArgumentsSpec)

/-- 'rexmilllaw33.MeterCopies', WHERE WHAT IT READS IS OF BULK AT MOST 1048576: true; the input reads as it did. -/
def meterCopiesUptoRow : OpenClaim := { program := "ytdpmkbiibmjbfaa", sum := "9f55f6f0d21567640139e126be28be989ed1eba4292114a771f8f04b213eaa6c", func := "rexmill/rexmilllaw33.MeterCopies", spec := "meterCopies", unfollowed := true, recurses := true, apart := false, narrowed := true }
def MeterCopiesUptoSaid : Prop := meterCopiesUptoRow.holds Try.pinned (OpenSpec.upto meterCopiesSpec)

end Rows
end Go.Proofs.Ytdpmkbiibmjbfaa
