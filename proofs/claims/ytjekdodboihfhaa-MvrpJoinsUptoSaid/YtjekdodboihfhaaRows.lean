/-
  No cell of these rows narrows 'for every input' (looked for: loops, veiled, ifaces, maps, wideKeys, modest, calm, conditions, laid).
  DERIVED. THE GIVEN ROWS OF THIS SEAT. 8 by the template 'for every input the law returns true; each argument reads behind the call as it read before'; 0 by the template 'total and deterministic' (their statements: YtjekdodboihfhaaTotals.lean).
  GIVEN WITH THE SEED: the statements are not yours to turn. If you find one false, say at which input.
  Laid BY PROGRAM, IN A SANDBOX (cutbox-rows.mjs): the forced cells as the released guide's own fill.sh prints them over the translation 334ffb9b99841319… (all of the seat's roots in one cut). By AI agents, Wed Nov 11 2026. No macro, syntax, notation, axiom, sorry.
-/
import Derived.Test.YtjekdodboihfhaaChecked
import GoSem.Claim
import GoSem.ClaimJoined
import GoSem.ClaimMapViews
import Derived.JoinedTies
import Derived.KernelRfl
namespace Go.Proofs.Ytjekdodboihfhaa
/- THE CELL 'sum', in the pinned program and in every row, IS THE sha256 OF THE DUMP (.gsa) THAT YtjekdodboihfhaaProg.lean LOADS. Nothing in Lean hashes anything: it is a label: what it is worth is what the hold of that sum in a sandbox is worth. -/
noncomputable def Try.pinned : Pinned := { name := "ytjekdodboihfhaa", sum := "334ffb9b998413199ab4b02acdc6598c521da487fb7b23b5152ddbcfb33ef1ec", checked := Try.checked }
namespace Rows
def none {H : Type} : Left H := { results := [], args := [] }

/-- 'switchyardkeep.Md5Keys': WHATEVER THE INPUT: true; the input reads as it did. -/
def md5KeysSpec : ChangeSpec := { name := "md5Keys", fn := fun _ => fun
  | [d1, d2] => { results := [.lit (.bool true)], args := [d1, d2] }
  | _ => none }
def md5KeysRow : OpenClaim := { program := "ytjekdodboihfhaa", sum := "334ffb9b998413199ab4b02acdc6598c521da487fb7b23b5152ddbcfb33ef1ec", func := "switchyard/switchyardkeep.Md5Keys", spec := "md5Keys", inPlace := ["internal/abi.NoEscape", "internal/bytealg.MakeNoZero"], apart := false }
def Md5KeysSaid : Prop := md5KeysRow.holds Try.pinned (OpenSpec.ofChange md5KeysSpec)

/-- ITS FALSE NEIGHBOUR: 'it returns false'. Refute it at one input. -/
def md5KeysWrong : ChangeSpec := { name := "md5Keys", fn := fun _ => fun
  | [d1, d2] => { results := [.lit (.bool false)], args := [d1, d2] }
  | _ => none }
def Md5KeysWrongFalsely : Prop := md5KeysRow.holds Try.pinned (OpenSpec.ofChange md5KeysWrong)

/-- 'switchyardkeep.Md5Long': WHATEVER THE INPUT: true; the input reads as it did. -/
def md5LongSpec : ChangeSpec := { name := "md5Long", fn := fun _ => fun
  | [d] => { results := [.lit (.bool true)], args := [d] }
  | _ => none }
def md5LongRow : OpenClaim := { program := "ytjekdodboihfhaa", sum := "334ffb9b998413199ab4b02acdc6598c521da487fb7b23b5152ddbcfb33ef1ec", func := "switchyard/switchyardkeep.Md5Long", spec := "md5Long", inPlace := ["internal/abi.NoEscape", "internal/bytealg.MakeNoZero"], apart := false }
def Md5LongSaid : Prop := md5LongRow.holds Try.pinned (OpenSpec.ofChange md5LongSpec)

/-- ITS FALSE NEIGHBOUR: 'it returns false'. Refute it at one input. -/
def md5LongWrong : ChangeSpec := { name := "md5Long", fn := fun _ => fun
  | [d] => { results := [.lit (.bool false)], args := [d] }
  | _ => none }
def Md5LongWrongFalsely : Prop := md5LongRow.holds Try.pinned (OpenSpec.ofChange md5LongWrong)

/-- 'switchyardkeep.RegionLeast': WHATEVER THE INPUT: true; the input reads as it did. -/
def regionLeastSpec : ChangeSpec := { name := "regionLeast", fn := fun _ => fun
  | [d1, d2] => { results := [.lit (.bool true)], args := [d1, d2] }
  | _ => none }
def regionLeastRow : OpenClaim := { program := "ytjekdodboihfhaa", sum := "334ffb9b998413199ab4b02acdc6598c521da487fb7b23b5152ddbcfb33ef1ec", func := "switchyard/switchyardkeep.RegionLeast", spec := "regionLeast", inPlace := ["internal/abi.NoEscape", "internal/bytealg.MakeNoZero"], apart := false }
def RegionLeastSaid : Prop := regionLeastRow.holds Try.pinned (OpenSpec.ofChange regionLeastSpec)

/-- ITS FALSE NEIGHBOUR: 'it returns false'. Refute it at one input. -/
def regionLeastWrong : ChangeSpec := { name := "regionLeast", fn := fun _ => fun
  | [d1, d2] => { results := [.lit (.bool false)], args := [d1, d2] }
  | _ => none }
def RegionLeastWrongFalsely : Prop := regionLeastRow.holds Try.pinned (OpenSpec.ofChange regionLeastWrong)

/-- 'switchyardkeep.RegionTables': WHATEVER THE INPUT: true; the input reads as it did. -/
def regionTablesSpec : ChangeSpec := { name := "regionTables", fn := fun _ => fun
  | [d1, d2] => { results := [.lit (.bool true)], args := [d1, d2] }
  | _ => none }
def regionTablesRow : OpenClaim := { program := "ytjekdodboihfhaa", sum := "334ffb9b998413199ab4b02acdc6598c521da487fb7b23b5152ddbcfb33ef1ec", func := "switchyard/switchyardkeep.RegionTables", spec := "regionTables", inPlace := ["internal/abi.NoEscape", "internal/bytealg.MakeNoZero"], apart := false }
def RegionTablesSaid : Prop := regionTablesRow.holds Try.pinned (OpenSpec.ofChange regionTablesSpec)

/-- ITS FALSE NEIGHBOUR: 'it returns false'. Refute it at one input. -/
def regionTablesWrong : ChangeSpec := { name := "regionTables", fn := fun _ => fun
  | [d1, d2] => { results := [.lit (.bool false)], args := [d1, d2] }
  | _ => none }
def RegionTablesWrongFalsely : Prop := regionTablesRow.holds Try.pinned (OpenSpec.ofChange regionTablesWrong)

/-- 'switchyardkeep.RegionOne': WHATEVER THE INPUT: true; the input reads as it did. -/
def regionOneSpec : ChangeSpec := { name := "regionOne", fn := fun _ => fun
  | [d1, d2, d3] => { results := [.lit (.bool true)], args := [d1, d2, d3] }
  | _ => none }
def regionOneRow : OpenClaim := { program := "ytjekdodboihfhaa", sum := "334ffb9b998413199ab4b02acdc6598c521da487fb7b23b5152ddbcfb33ef1ec", func := "switchyard/switchyardkeep.RegionOne", spec := "regionOne", inPlace := ["internal/abi.NoEscape", "internal/bytealg.MakeNoZero", "slices.overlaps[switchyard/api.Span]"], apart := false }
def RegionOneSaid : Prop := regionOneRow.holds Try.pinned (OpenSpec.ofChange regionOneSpec)

/-- ITS FALSE NEIGHBOUR: 'it returns false'. Refute it at one input. -/
def regionOneWrong : ChangeSpec := { name := "regionOne", fn := fun _ => fun
  | [d1, d2, d3] => { results := [.lit (.bool false)], args := [d1, d2, d3] }
  | _ => none }
def RegionOneWrongFalsely : Prop := regionOneRow.holds Try.pinned (OpenSpec.ofChange regionOneWrong)

/-- 'switchyardkeep.MvrpBack': WHATEVER THE INPUT: true; the input reads as it did. -/
def mvrpBackSpec : ChangeSpec := { name := "mvrpBack", fn := fun _ => fun
  | [d] => { results := [.lit (.bool true)], args := [d] }
  | _ => none }
def mvrpBackRow : OpenClaim := { program := "ytjekdodboihfhaa", sum := "334ffb9b998413199ab4b02acdc6598c521da487fb7b23b5152ddbcfb33ef1ec", func := "switchyard/switchyardkeep.MvrpBack", spec := "mvrpBack", inPlace := ["internal/abi.NoEscape"], unfollowed := true, recurses := true, apart := false }
def MvrpBackSaid : Prop := mvrpBackRow.holds Try.pinned (OpenSpec.ofChange mvrpBackSpec)

/-- ITS FALSE NEIGHBOUR: 'it returns false'. Refute it at one input. -/
def mvrpBackWrong : ChangeSpec := { name := "mvrpBack", fn := fun _ => fun
  | [d] => { results := [.lit (.bool false)], args := [d] }
  | _ => none }
def MvrpBackWrongFalsely : Prop := mvrpBackRow.holds Try.pinned (OpenSpec.ofChange mvrpBackWrong)

/-- 'switchyardkeep.MvrpStill': WHATEVER THE INPUT: true; the input reads as it did. -/
def mvrpStillSpec : ChangeSpec := { name := "mvrpStill", fn := fun _ => fun
  | [d] => { results := [.lit (.bool true)], args := [d] }
  | _ => none }
def mvrpStillRow : OpenClaim := { program := "ytjekdodboihfhaa", sum := "334ffb9b998413199ab4b02acdc6598c521da487fb7b23b5152ddbcfb33ef1ec", func := "switchyard/switchyardkeep.MvrpStill", spec := "mvrpStill", inPlace := ["internal/abi.NoEscape"], unfollowed := true, recurses := true, apart := false }
def MvrpStillSaid : Prop := mvrpStillRow.holds Try.pinned (OpenSpec.ofChange mvrpStillSpec)

/-- ITS FALSE NEIGHBOUR: 'it returns false'. Refute it at one input. -/
def mvrpStillWrong : ChangeSpec := { name := "mvrpStill", fn := fun _ => fun
  | [d] => { results := [.lit (.bool false)], args := [d] }
  | _ => none }
def MvrpStillWrongFalsely : Prop := mvrpStillRow.holds Try.pinned (OpenSpec.ofChange mvrpStillWrong)

/-- 'switchyardkeep.MvrpJoins': WHATEVER THE INPUT: true; the input reads as it did. -/
def mvrpJoinsSpec : ChangeSpec := { name := "mvrpJoins", fn := fun _ => fun
  | [d1, d2] => { results := [.lit (.bool true)], args := [d1, d2] }
  | _ => none }
def mvrpJoinsRow : OpenClaim := { program := "ytjekdodboihfhaa", sum := "334ffb9b998413199ab4b02acdc6598c521da487fb7b23b5152ddbcfb33ef1ec", func := "switchyard/switchyardkeep.MvrpJoins", spec := "mvrpJoins", inPlace := ["internal/abi.NoEscape"], unfollowed := true, recurses := true, apart := false }
def MvrpJoinsSaid : Prop := mvrpJoinsRow.holds Try.pinned (OpenSpec.ofChange mvrpJoinsSpec)

/-- ITS FALSE NEIGHBOUR: 'it returns false'. Refute it at one input. -/
def mvrpJoinsWrong : ChangeSpec := { name := "mvrpJoins", fn := fun _ => fun
  | [d1, d2] => { results := [.lit (.bool false)], args := [d1, d2] }
  | _ => none }
def MvrpJoinsWrongFalsely : Prop := mvrpJoinsRow.holds Try.pinned (OpenSpec.ofChange mvrpJoinsWrong)

/- THE SECOND FORM. 'bulk': how many values and letters a reading holds, each counted each time it is reached (what is shared counts as often as it is met; a slice's spare places count too). A statement '..UptoSaid' is the law's where the arguments, and the package variables that the reading takes, are together of bulk at most 1048576: NARROWER than '..Said'. Prove '..Said' where nothing that the law and all that it calls make is longer than what came in: it says more and counts as full. Else prove '..UptoSaid'. A law counts once. -/
mutual
def uptoBulk {H : Type} : DataW H → Nat
  | .lit (.string bytes) => bytes.length + 1
  | .lit _ => 1
  | .nil => 1
  | .ptr d => uptoBulk d + 1
  | .slice elems spare => uptoBulkAll elems + uptoBulkAll spare + 1
  | .agg parts => uptoBulkAll parts + 1
  | .iface _ d => uptoBulk d + 1
  | .map entries => uptoBulkEntries entries + 1
  | .held _ => 1
def uptoBulkAll {H : Type} : List (DataW H) → Nat
  | [] => 0
  | d :: r => uptoBulk d + uptoBulkAll r
def uptoBulkEntries {H : Type} : List (Lit × DataW H) → Nat
  | [] => 0
  | x :: r => uptoBulkEntry x + uptoBulkEntries r
def uptoBulkEntry {H : Type} : Lit × DataW H → Nat
  | (.string bytes, d) => bytes.length + uptoBulk d + 1
  | (_, d) => uptoBulk d + 1
 end
def uptoSmall : (H : Type) → List (DataW H) → Bool := fun _ ds => decide (uptoBulkAll ds ≤ 1048576)
def OpenSpec.upto (s : _root_.Go.ChangeSpec) : _root_.Go.OpenSpec := { _root_.Go.OpenSpec.ofChange s with cond := some uptoSmall }

/-- 'switchyardkeep.Md5Keys', WHERE WHAT IT READS IS OF BULK AT MOST 1048576: true; the input reads as it did. -/
def md5KeysUptoRow : OpenClaim := { program := "ytjekdodboihfhaa", sum := "334ffb9b998413199ab4b02acdc6598c521da487fb7b23b5152ddbcfb33ef1ec", func := "switchyard/switchyardkeep.Md5Keys", spec := "md5Keys", inPlace := ["internal/abi.NoEscape", "internal/bytealg.MakeNoZero"], apart := false, narrowed := true }
def Md5KeysUptoSaid : Prop := md5KeysUptoRow.holds Try.pinned (OpenSpec.upto md5KeysSpec)

/-- 'switchyardkeep.Md5Long', WHERE WHAT IT READS IS OF BULK AT MOST 1048576: true; the input reads as it did. -/
def md5LongUptoRow : OpenClaim := { program := "ytjekdodboihfhaa", sum := "334ffb9b998413199ab4b02acdc6598c521da487fb7b23b5152ddbcfb33ef1ec", func := "switchyard/switchyardkeep.Md5Long", spec := "md5Long", inPlace := ["internal/abi.NoEscape", "internal/bytealg.MakeNoZero"], apart := false, narrowed := true }
def Md5LongUptoSaid : Prop := md5LongUptoRow.holds Try.pinned (OpenSpec.upto md5LongSpec)

/-- 'switchyardkeep.RegionLeast', WHERE WHAT IT READS IS OF BULK AT MOST 1048576: true; the input reads as it did. -/
def regionLeastUptoRow : OpenClaim := { program := "ytjekdodboihfhaa", sum := "334ffb9b998413199ab4b02acdc6598c521da487fb7b23b5152ddbcfb33ef1ec", func := "switchyard/switchyardkeep.RegionLeast", spec := "regionLeast", inPlace := ["internal/abi.NoEscape", "internal/bytealg.MakeNoZero"], apart := false, narrowed := true }
def RegionLeastUptoSaid : Prop := regionLeastUptoRow.holds Try.pinned (OpenSpec.upto regionLeastSpec)

/-- 'switchyardkeep.RegionTables', WHERE WHAT IT READS IS OF BULK AT MOST 1048576: true; the input reads as it did. -/
def regionTablesUptoRow : OpenClaim := { program := "ytjekdodboihfhaa", sum := "334ffb9b998413199ab4b02acdc6598c521da487fb7b23b5152ddbcfb33ef1ec", func := "switchyard/switchyardkeep.RegionTables", spec := "regionTables", inPlace := ["internal/abi.NoEscape", "internal/bytealg.MakeNoZero"], apart := false, narrowed := true }
def RegionTablesUptoSaid : Prop := regionTablesUptoRow.holds Try.pinned (OpenSpec.upto regionTablesSpec)

/-- 'switchyardkeep.RegionOne', WHERE WHAT IT READS IS OF BULK AT MOST 1048576: true; the input reads as it did. -/
def regionOneUptoRow : OpenClaim := { program := "ytjekdodboihfhaa", sum := "334ffb9b998413199ab4b02acdc6598c521da487fb7b23b5152ddbcfb33ef1ec", func := "switchyard/switchyardkeep.RegionOne", spec := "regionOne", inPlace := ["internal/abi.NoEscape", "internal/bytealg.MakeNoZero", "slices.overlaps[switchyard/api.Span]"], apart := false, narrowed := true }
def RegionOneUptoSaid : Prop := regionOneUptoRow.holds Try.pinned (OpenSpec.upto regionOneSpec)

/-- 'switchyardkeep.MvrpBack', WHERE WHAT IT READS IS OF BULK AT MOST 1048576: true; the input reads as it did. -/
def mvrpBackUptoRow : OpenClaim := { program := "ytjekdodboihfhaa", sum := "334ffb9b998413199ab4b02acdc6598c521da487fb7b23b5152ddbcfb33ef1ec", func := "switchyard/switchyardkeep.MvrpBack", spec := "mvrpBack", inPlace := ["internal/abi.NoEscape"], unfollowed := true, recurses := true, apart := false, narrowed := true }
def MvrpBackUptoSaid : Prop := mvrpBackUptoRow.holds Try.pinned (OpenSpec.upto mvrpBackSpec)

/-- 'switchyardkeep.MvrpStill', WHERE WHAT IT READS IS OF BULK AT MOST 1048576: true; the input reads as it did. -/
def mvrpStillUptoRow : OpenClaim := { program := "ytjekdodboihfhaa", sum := "334ffb9b998413199ab4b02acdc6598c521da487fb7b23b5152ddbcfb33ef1ec", func := "switchyard/switchyardkeep.MvrpStill", spec := "mvrpStill", inPlace := ["internal/abi.NoEscape"], unfollowed := true, recurses := true, apart := false, narrowed := true }
def MvrpStillUptoSaid : Prop := mvrpStillUptoRow.holds Try.pinned (OpenSpec.upto mvrpStillSpec)

/-- 'switchyardkeep.MvrpJoins', WHERE WHAT IT READS IS OF BULK AT MOST 1048576: true; the input reads as it did. -/
def mvrpJoinsUptoRow : OpenClaim := { program := "ytjekdodboihfhaa", sum := "334ffb9b998413199ab4b02acdc6598c521da487fb7b23b5152ddbcfb33ef1ec", func := "switchyard/switchyardkeep.MvrpJoins", spec := "mvrpJoins", inPlace := ["internal/abi.NoEscape"], unfollowed := true, recurses := true, apart := false, narrowed := true }
def MvrpJoinsUptoSaid : Prop := mvrpJoinsUptoRow.holds Try.pinned (OpenSpec.upto mvrpJoinsSpec)

end Rows
end Go.Proofs.Ytjekdodboihfhaa
