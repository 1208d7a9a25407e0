/- Part of the proof. No condition: every lemma says its own. -/
import Derived.Lib.AppendZeros
import Derived.BigQuiet
import Derived.Lib.QuietBelow
import Derived.Deep.RegionWith
import Derived.Defers
import Derived.Recover
import Derived.Maps.RangeWalk
import Derived.Deep.LoopGhost
import Derived.OpenShut
import Derived.Shelf.Sort.Plain
import Derived.Shelf.Slices.CompactI
import Derived.Deep.CutBlock
import Derived.Maps.Own
import Derived.Maps.Views
import Derived.Test.YtjnlkjlbejelgaaGreatRSPab
namespace Go.Proofs.YtjnlkjlbejelgaaGreat
open Go.RowKit
open Go.Value renaming int→H,slice→M,bool→F
open Go.IntKind renaming i64→J
set_option maxRecDepth 100000
set_option maxHeartbeats 16000000
def C1 (eG:Bool) (n1 bn:Nat):Prop:=eG=false→0 < n1∧0 < bn
theorem C1.t (n1 bn:Nat):C1 true n1 bn:=fun h=> by cases h
end Go.Proofs.YtjnlkjlbejelgaaGreat
