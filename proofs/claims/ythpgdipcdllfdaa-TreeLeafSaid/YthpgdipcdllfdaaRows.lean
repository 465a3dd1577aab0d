/-
  No cell of these rows narrows 'for every input' (looked for: loops, veiled, ifaces, maps, wideKeys, modest, calm, conditions, laid).
  DERIVED. THE GIVEN ROWS OF THIS SEAT. 11 by the template 'for every input the law returns true; each argument reads behind the call as it read before'; 0 by the template 'total and deterministic' (their statements: YthpgdipcdllfdaaTotals.lean).
  GIVEN WITH THE SEED: the statements are not yours to turn. If you find one false, say at which input.
  Laid BY PROGRAM, IN A SANDBOX (cutbox-rows.mjs): the forced cells as the released guide's own fill.sh prints them over the translation 786b89c5e7547320… (all of the seat's roots in one cut). By AI agents, Wed Nov 11 2026. No macro, syntax, notation, axiom, sorry.
-/
import Derived.Test.YthpgdipcdllfdaaChecked
import GoSem.Claim
import GoSem.ClaimJoined
import GoSem.ClaimMapViews
import Derived.JoinedTies
import Derived.KernelRfl
namespace Go.Proofs.Ythpgdipcdllfdaa
/- THE CELL 'sum', in the pinned program and in every row, IS THE sha256 OF THE DUMP (.gsa) THAT YthpgdipcdllfdaaProg.lean LOADS. Nothing in Lean hashes anything: it is a label: what it is worth is what the hold of that sum in a sandbox is worth. -/
noncomputable def Try.pinned : Pinned := { name := "ythpgdipcdllfdaa", sum := "786b89c5e754732077e64330170dc895ac348fb12f019c84b8d8c23d7a355c82", checked := Try.checked }
namespace Rows
def none {H : Type} : Left H := { results := [], args := [] }

/-- 'switchyardkeep.TreeScale': WHATEVER THE INPUT: true; the input reads as it did. -/
def treeScaleSpec : ChangeSpec := { name := "treeScale", fn := fun _ => fun
  | [d1, d2] => { results := [.lit (.bool true)], args := [d1, d2] }
  | _ => none }
def treeScaleRow : OpenClaim := { program := "ythpgdipcdllfdaa", sum := "786b89c5e754732077e64330170dc895ac348fb12f019c84b8d8c23d7a355c82", func := "switchyard/switchyardkeep.TreeScale", spec := "treeScale", inPlace := ["internal/bytealg.abigen_runtime_cmpstring"], unfollowed := true, recurses := true, apart := false }
def TreeScaleSaid : Prop := treeScaleRow.holds Try.pinned (OpenSpec.ofChange treeScaleSpec)

/-- ITS FALSE NEIGHBOUR: 'it returns false'. Refute it at one input. -/
def treeScaleWrong : ChangeSpec := { name := "treeScale", fn := fun _ => fun
  | [d1, d2] => { results := [.lit (.bool false)], args := [d1, d2] }
  | _ => none }
def TreeScaleWrongFalsely : Prop := treeScaleRow.holds Try.pinned (OpenSpec.ofChange treeScaleWrong)

/-- 'switchyardkeep.TreeLeaf': WHATEVER THE INPUT: true; the input reads as it did. -/
def treeLeafSpec : ChangeSpec := { name := "treeLeaf", fn := fun _ => fun
  | [d1, d2, d3] => { results := [.lit (.bool true)], args := [d1, d2, d3] }
  | _ => none }
def treeLeafRow : OpenClaim := { program := "ythpgdipcdllfdaa", sum := "786b89c5e754732077e64330170dc895ac348fb12f019c84b8d8c23d7a355c82", func := "switchyard/switchyardkeep.TreeLeaf", spec := "treeLeaf", inPlace := ["internal/bytealg.abigen_runtime_cmpstring"], unfollowed := true, recurses := true, apart := false }
def TreeLeafSaid : Prop := treeLeafRow.holds Try.pinned (OpenSpec.ofChange treeLeafSpec)

/-- ITS FALSE NEIGHBOUR: 'it returns false'. Refute it at one input. -/
def treeLeafWrong : ChangeSpec := { name := "treeLeaf", fn := fun _ => fun
  | [d1, d2, d3] => { results := [.lit (.bool false)], args := [d1, d2, d3] }
  | _ => none }
def TreeLeafWrongFalsely : Prop := treeLeafRow.holds Try.pinned (OpenSpec.ofChange treeLeafWrong)

/-- 'switchyardkeep.TreePorts': WHATEVER THE INPUT: true; the input reads as it did. -/
def treePortsSpec : ChangeSpec := { name := "treePorts", fn := fun _ => fun
  | [d] => { results := [.lit (.bool true)], args := [d] }
  | _ => none }
def treePortsRow : OpenClaim := { program := "ythpgdipcdllfdaa", sum := "786b89c5e754732077e64330170dc895ac348fb12f019c84b8d8c23d7a355c82", func := "switchyard/switchyardkeep.TreePorts", spec := "treePorts", inPlace := ["internal/bytealg.abigen_runtime_cmpstring"], unfollowed := true, recurses := true, apart := false }
def TreePortsSaid : Prop := treePortsRow.holds Try.pinned (OpenSpec.ofChange treePortsSpec)

/-- ITS FALSE NEIGHBOUR: 'it returns false'. Refute it at one input. -/
def treePortsWrong : ChangeSpec := { name := "treePorts", fn := fun _ => fun
  | [d] => { results := [.lit (.bool false)], args := [d] }
  | _ => none }
def TreePortsWrongFalsely : Prop := treePortsRow.holds Try.pinned (OpenSpec.ofChange treePortsWrong)

/-- 'switchyardkeep.TreeIs': WHATEVER THE INPUT: true; the input reads as it did. -/
def treeIsSpec : ChangeSpec := { name := "treeIs", fn := fun _ => fun
  | [d] => { results := [.lit (.bool true)], args := [d] }
  | _ => none }
def treeIsRow : OpenClaim := { program := "ythpgdipcdllfdaa", sum := "786b89c5e754732077e64330170dc895ac348fb12f019c84b8d8c23d7a355c82", func := "switchyard/switchyardkeep.TreeIs", spec := "treeIs", inPlace := ["internal/bytealg.abigen_runtime_cmpstring"], unfollowed := true, recurses := true, apart := false }
def TreeIsSaid : Prop := treeIsRow.holds Try.pinned (OpenSpec.ofChange treeIsSpec)

/-- ITS FALSE NEIGHBOUR: 'it returns false'. Refute it at one input. -/
def treeIsWrong : ChangeSpec := { name := "treeIs", fn := fun _ => fun
  | [d] => { results := [.lit (.bool false)], args := [d] }
  | _ => none }
def TreeIsWrongFalsely : Prop := treeIsRow.holds Try.pinned (OpenSpec.ofChange treeIsWrong)

/-- 'switchyardkeep.TreeCosts': WHATEVER THE INPUT: true; the input reads as it did. -/
def treeCostsSpec : ChangeSpec := { name := "treeCosts", fn := fun _ => fun
  | [d] => { results := [.lit (.bool true)], args := [d] }
  | _ => none }
def treeCostsRow : OpenClaim := { program := "ythpgdipcdllfdaa", sum := "786b89c5e754732077e64330170dc895ac348fb12f019c84b8d8c23d7a355c82", func := "switchyard/switchyardkeep.TreeCosts", spec := "treeCosts", inPlace := ["internal/bytealg.abigen_runtime_cmpstring"], unfollowed := true, recurses := true, apart := false }
def TreeCostsSaid : Prop := treeCostsRow.holds Try.pinned (OpenSpec.ofChange treeCostsSpec)

/-- ITS FALSE NEIGHBOUR: 'it returns false'. Refute it at one input. -/
def treeCostsWrong : ChangeSpec := { name := "treeCosts", fn := fun _ => fun
  | [d] => { results := [.lit (.bool false)], args := [d] }
  | _ => none }
def TreeCostsWrongFalsely : Prop := treeCostsRow.holds Try.pinned (OpenSpec.ofChange treeCostsWrong)

/-- 'switchyardkeep.TreeLess': WHATEVER THE INPUT: true; the input reads as it did. -/
def treeLessSpec : ChangeSpec := { name := "treeLess", fn := fun _ => fun
  | [d] => { results := [.lit (.bool true)], args := [d] }
  | _ => none }
def treeLessRow : OpenClaim := { program := "ythpgdipcdllfdaa", sum := "786b89c5e754732077e64330170dc895ac348fb12f019c84b8d8c23d7a355c82", func := "switchyard/switchyardkeep.TreeLess", spec := "treeLess", inPlace := ["internal/bytealg.abigen_runtime_cmpstring"], unfollowed := true, recurses := true, apart := false }
def TreeLessSaid : Prop := treeLessRow.holds Try.pinned (OpenSpec.ofChange treeLessSpec)

/-- ITS FALSE NEIGHBOUR: 'it returns false'. Refute it at one input. -/
def treeLessWrong : ChangeSpec := { name := "treeLess", fn := fun _ => fun
  | [d] => { results := [.lit (.bool false)], args := [d] }
  | _ => none }
def TreeLessWrongFalsely : Prop := treeLessRow.holds Try.pinned (OpenSpec.ofChange treeLessWrong)

/-- 'switchyardkeep.TreeRoot': WHATEVER THE INPUT: true; the input reads as it did. -/
def treeRootSpec : ChangeSpec := { name := "treeRoot", fn := fun _ => fun
  | [d] => { results := [.lit (.bool true)], args := [d] }
  | _ => none }
def treeRootRow : OpenClaim := { program := "ythpgdipcdllfdaa", sum := "786b89c5e754732077e64330170dc895ac348fb12f019c84b8d8c23d7a355c82", func := "switchyard/switchyardkeep.TreeRoot", spec := "treeRoot", inPlace := ["internal/bytealg.abigen_runtime_cmpstring"], unfollowed := true, recurses := true, apart := false }
def TreeRootSaid : Prop := treeRootRow.holds Try.pinned (OpenSpec.ofChange treeRootSpec)

/-- ITS FALSE NEIGHBOUR: 'it returns false'. Refute it at one input. -/
def treeRootWrong : ChangeSpec := { name := "treeRoot", fn := fun _ => fun
  | [d] => { results := [.lit (.bool false)], args := [d] }
  | _ => none }
def TreeRootWrongFalsely : Prop := treeRootRow.holds Try.pinned (OpenSpec.ofChange treeRootWrong)

/-- 'switchyardkeep.TreeOrder': WHATEVER THE INPUT: true; the input reads as it did. -/
def treeOrderSpec : ChangeSpec := { name := "treeOrder", fn := fun _ => fun
  | [d] => { results := [.lit (.bool true)], args := [d] }
  | _ => none }
def treeOrderRow : OpenClaim := { program := "ythpgdipcdllfdaa", sum := "786b89c5e754732077e64330170dc895ac348fb12f019c84b8d8c23d7a355c82", func := "switchyard/switchyardkeep.TreeOrder", spec := "treeOrder", inPlace := ["internal/bytealg.abigen_runtime_cmpstring"], unfollowed := true, recurses := true, apart := false }
def TreeOrderSaid : Prop := treeOrderRow.holds Try.pinned (OpenSpec.ofChange treeOrderSpec)

/-- ITS FALSE NEIGHBOUR: 'it returns false'. Refute it at one input. -/
def treeOrderWrong : ChangeSpec := { name := "treeOrder", fn := fun _ => fun
  | [d] => { results := [.lit (.bool false)], args := [d] }
  | _ => none }
def TreeOrderWrongFalsely : Prop := treeOrderRow.holds Try.pinned (OpenSpec.ofChange treeOrderWrong)

/-- 'switchyardkeep.TalkTwice': WHATEVER THE INPUT: true; the input reads as it did. -/
def talkTwiceSpec : ChangeSpec := { name := "talkTwice", fn := fun _ => fun
  | [d1, d2, d3] => { results := [.lit (.bool true)], args := [d1, d2, d3] }
  | _ => none }
def talkTwiceRow : OpenClaim := { program := "ythpgdipcdllfdaa", sum := "786b89c5e754732077e64330170dc895ac348fb12f019c84b8d8c23d7a355c82", func := "switchyard/switchyardkeep.TalkTwice", spec := "talkTwice", inPlace := ["internal/bytealg.abigen_runtime_cmpstring"], unfollowed := true, recurses := true, apart := false }
def TalkTwiceSaid : Prop := talkTwiceRow.holds Try.pinned (OpenSpec.ofChange talkTwiceSpec)

/-- ITS FALSE NEIGHBOUR: 'it returns false'. Refute it at one input. -/
def talkTwiceWrong : ChangeSpec := { name := "talkTwice", fn := fun _ => fun
  | [d1, d2, d3] => { results := [.lit (.bool false)], args := [d1, d2, d3] }
  | _ => none }
def TalkTwiceWrongFalsely : Prop := talkTwiceRow.holds Try.pinned (OpenSpec.ofChange talkTwiceWrong)

/-- 'switchyardkeep.TalkRises': WHATEVER THE INPUT: true; the input reads as it did. -/
def talkRisesSpec : ChangeSpec := { name := "talkRises", fn := fun _ => fun
  | [d1, d2, d3] => { results := [.lit (.bool true)], args := [d1, d2, d3] }
  | _ => none }
def talkRisesRow : OpenClaim := { program := "ythpgdipcdllfdaa", sum := "786b89c5e754732077e64330170dc895ac348fb12f019c84b8d8c23d7a355c82", func := "switchyard/switchyardkeep.TalkRises", spec := "talkRises", inPlace := ["internal/bytealg.abigen_runtime_cmpstring"], unfollowed := true, recurses := true, apart := false }
def TalkRisesSaid : Prop := talkRisesRow.holds Try.pinned (OpenSpec.ofChange talkRisesSpec)

/-- ITS FALSE NEIGHBOUR: 'it returns false'. Refute it at one input. -/
def talkRisesWrong : ChangeSpec := { name := "talkRises", fn := fun _ => fun
  | [d1, d2, d3] => { results := [.lit (.bool false)], args := [d1, d2, d3] }
  | _ => none }
def TalkRisesWrongFalsely : Prop := talkRisesRow.holds Try.pinned (OpenSpec.ofChange talkRisesWrong)

/-- 'switchyardkeep.TalkEnds': WHATEVER THE INPUT: true; the input reads as it did. -/
def talkEndsSpec : ChangeSpec := { name := "talkEnds", fn := fun _ => fun
  | [d1, d2] => { results := [.lit (.bool true)], args := [d1, d2] }
  | _ => none }
def talkEndsRow : OpenClaim := { program := "ythpgdipcdllfdaa", sum := "786b89c5e754732077e64330170dc895ac348fb12f019c84b8d8c23d7a355c82", func := "switchyard/switchyardkeep.TalkEnds", spec := "talkEnds", inPlace := ["internal/bytealg.abigen_runtime_cmpstring"], unfollowed := true, recurses := true, apart := false }
def TalkEndsSaid : Prop := talkEndsRow.holds Try.pinned (OpenSpec.ofChange talkEndsSpec)

/-- ITS FALSE NEIGHBOUR: 'it returns false'. Refute it at one input. -/
def talkEndsWrong : ChangeSpec := { name := "talkEnds", fn := fun _ => fun
  | [d1, d2] => { results := [.lit (.bool false)], args := [d1, d2] }
  | _ => none }
def TalkEndsWrongFalsely : Prop := talkEndsRow.holds Try.pinned (OpenSpec.ofChange talkEndsWrong)

/- THE SECOND FORM. 'bulk': how many values and letters a reading holds, each counted each time it is reached (what is shared counts as often as it is met; a slice's spare places count too). A statement '..UptoSaid' is the law's where the arguments, and the package variables that the reading takes, are together of bulk at most 1048576: NARROWER than '..Said'. Prove '..Said' where nothing that the law and all that it calls make is longer than what came in: it says more and counts as full. Else prove '..UptoSaid'. A law counts once. -/
mutual
def uptoBulk {H : Type} : DataW H → Nat
  | .lit (.string bytes) => bytes.length + 1
  | .lit _ => 1
  | .nil => 1
  | .ptr d => uptoBulk d + 1
  | .slice elems spare => uptoBulkAll elems + uptoBulkAll spare + 1
  | .agg parts => uptoBulkAll parts + 1
  | .iface _ d => uptoBulk d + 1
  | .map entries => uptoBulkEntries entries + 1
  | .held _ => 1
def uptoBulkAll {H : Type} : List (DataW H) → Nat
  | [] => 0
  | d :: r => uptoBulk d + uptoBulkAll r
def uptoBulkEntries {H : Type} : List (Lit × DataW H) → Nat
  | [] => 0
  | x :: r => uptoBulkEntry x + uptoBulkEntries r
def uptoBulkEntry {H : Type} : Lit × DataW H → Nat
  | (.string bytes, d) => bytes.length + uptoBulk d + 1
  | (_, d) => uptoBulk d + 1
 end
def uptoSmall : (H : Type) → List (DataW H) → Bool := fun _ ds => decide (uptoBulkAll ds ≤ 1048576)
def OpenSpec.upto (s : _root_.Go.ChangeSpec) : _root_.Go.OpenSpec := { _root_.Go.OpenSpec.ofChange s with cond := some uptoSmall }

/-- 'switchyardkeep.TreeScale', WHERE WHAT IT READS IS OF BULK AT MOST 1048576: true; the input reads as it did. -/
def treeScaleUptoRow : OpenClaim := { program := "ythpgdipcdllfdaa", sum := "786b89c5e754732077e64330170dc895ac348fb12f019c84b8d8c23d7a355c82", func := "switchyard/switchyardkeep.TreeScale", spec := "treeScale", inPlace := ["internal/bytealg.abigen_runtime_cmpstring"], unfollowed := true, recurses := true, apart := false, narrowed := true }
def TreeScaleUptoSaid : Prop := treeScaleUptoRow.holds Try.pinned (OpenSpec.upto treeScaleSpec)

/-- 'switchyardkeep.TreeLeaf', WHERE WHAT IT READS IS OF BULK AT MOST 1048576: true; the input reads as it did. -/
def treeLeafUptoRow : OpenClaim := { program := "ythpgdipcdllfdaa", sum := "786b89c5e754732077e64330170dc895ac348fb12f019c84b8d8c23d7a355c82", func := "switchyard/switchyardkeep.TreeLeaf", spec := "treeLeaf", inPlace := ["internal/bytealg.abigen_runtime_cmpstring"], unfollowed := true, recurses := true, apart := false, narrowed := true }
def TreeLeafUptoSaid : Prop := treeLeafUptoRow.holds Try.pinned (OpenSpec.upto treeLeafSpec)

/-- 'switchyardkeep.TreePorts', WHERE WHAT IT READS IS OF BULK AT MOST 1048576: true; the input reads as it did. -/
def treePortsUptoRow : OpenClaim := { program := "ythpgdipcdllfdaa", sum := "786b89c5e754732077e64330170dc895ac348fb12f019c84b8d8c23d7a355c82", func := "switchyard/switchyardkeep.TreePorts", spec := "treePorts", inPlace := ["internal/bytealg.abigen_runtime_cmpstring"], unfollowed := true, recurses := true, apart := false, narrowed := true }
def TreePortsUptoSaid : Prop := treePortsUptoRow.holds Try.pinned (OpenSpec.upto treePortsSpec)

/-- 'switchyardkeep.TreeIs', WHERE WHAT IT READS IS OF BULK AT MOST 1048576: true; the input reads as it did. -/
def treeIsUptoRow : OpenClaim := { program := "ythpgdipcdllfdaa", sum := "786b89c5e754732077e64330170dc895ac348fb12f019c84b8d8c23d7a355c82", func := "switchyard/switchyardkeep.TreeIs", spec := "treeIs", inPlace := ["internal/bytealg.abigen_runtime_cmpstring"], unfollowed := true, recurses := true, apart := false, narrowed := true }
def TreeIsUptoSaid : Prop := treeIsUptoRow.holds Try.pinned (OpenSpec.upto treeIsSpec)

/-- 'switchyardkeep.TreeCosts', WHERE WHAT IT READS IS OF BULK AT MOST 1048576: true; the input reads as it did. -/
def treeCostsUptoRow : OpenClaim := { program := "ythpgdipcdllfdaa", sum := "786b89c5e754732077e64330170dc895ac348fb12f019c84b8d8c23d7a355c82", func := "switchyard/switchyardkeep.TreeCosts", spec := "treeCosts", inPlace := ["internal/bytealg.abigen_runtime_cmpstring"], unfollowed := true, recurses := true, apart := false, narrowed := true }
def TreeCostsUptoSaid : Prop := treeCostsUptoRow.holds Try.pinned (OpenSpec.upto treeCostsSpec)

/-- 'switchyardkeep.TreeLess', WHERE WHAT IT READS IS OF BULK AT MOST 1048576: true; the input reads as it did. -/
def treeLessUptoRow : OpenClaim := { program := "ythpgdipcdllfdaa", sum := "786b89c5e754732077e64330170dc895ac348fb12f019c84b8d8c23d7a355c82", func := "switchyard/switchyardkeep.TreeLess", spec := "treeLess", inPlace := ["internal/bytealg.abigen_runtime_cmpstring"], unfollowed := true, recurses := true, apart := false, narrowed := true }
def TreeLessUptoSaid : Prop := treeLessUptoRow.holds Try.pinned (OpenSpec.upto treeLessSpec)

/-- 'switchyardkeep.TreeRoot', WHERE WHAT IT READS IS OF BULK AT MOST 1048576: true; the input reads as it did. -/
def treeRootUptoRow : OpenClaim := { program := "ythpgdipcdllfdaa", sum := "786b89c5e754732077e64330170dc895ac348fb12f019c84b8d8c23d7a355c82", func := "switchyard/switchyardkeep.TreeRoot", spec := "treeRoot", inPlace := ["internal/bytealg.abigen_runtime_cmpstring"], unfollowed := true, recurses := true, apart := false, narrowed := true }
def TreeRootUptoSaid : Prop := treeRootUptoRow.holds Try.pinned (OpenSpec.upto treeRootSpec)

/-- 'switchyardkeep.TreeOrder', WHERE WHAT IT READS IS OF BULK AT MOST 1048576: true; the input reads as it did. -/
def treeOrderUptoRow : OpenClaim := { program := "ythpgdipcdllfdaa", sum := "786b89c5e754732077e64330170dc895ac348fb12f019c84b8d8c23d7a355c82", func := "switchyard/switchyardkeep.TreeOrder", spec := "treeOrder", inPlace := ["internal/bytealg.abigen_runtime_cmpstring"], unfollowed := true, recurses := true, apart := false, narrowed := true }
def TreeOrderUptoSaid : Prop := treeOrderUptoRow.holds Try.pinned (OpenSpec.upto treeOrderSpec)

/-- 'switchyardkeep.TalkTwice', WHERE WHAT IT READS IS OF BULK AT MOST 1048576: true; the input reads as it did. -/
def talkTwiceUptoRow : OpenClaim := { program := "ythpgdipcdllfdaa", sum := "786b89c5e754732077e64330170dc895ac348fb12f019c84b8d8c23d7a355c82", func := "switchyard/switchyardkeep.TalkTwice", spec := "talkTwice", inPlace := ["internal/bytealg.abigen_runtime_cmpstring"], unfollowed := true, recurses := true, apart := false, narrowed := true }
def TalkTwiceUptoSaid : Prop := talkTwiceUptoRow.holds Try.pinned (OpenSpec.upto talkTwiceSpec)

/-- 'switchyardkeep.TalkRises', WHERE WHAT IT READS IS OF BULK AT MOST 1048576: true; the input reads as it did. -/
def talkRisesUptoRow : OpenClaim := { program := "ythpgdipcdllfdaa", sum := "786b89c5e754732077e64330170dc895ac348fb12f019c84b8d8c23d7a355c82", func := "switchyard/switchyardkeep.TalkRises", spec := "talkRises", inPlace := ["internal/bytealg.abigen_runtime_cmpstring"], unfollowed := true, recurses := true, apart := false, narrowed := true }
def TalkRisesUptoSaid : Prop := talkRisesUptoRow.holds Try.pinned (OpenSpec.upto talkRisesSpec)

/-- 'switchyardkeep.TalkEnds', WHERE WHAT IT READS IS OF BULK AT MOST 1048576: true; the input reads as it did. -/
def talkEndsUptoRow : OpenClaim := { program := "ythpgdipcdllfdaa", sum := "786b89c5e754732077e64330170dc895ac348fb12f019c84b8d8c23d7a355c82", func := "switchyard/switchyardkeep.TalkEnds", spec := "talkEnds", inPlace := ["internal/bytealg.abigen_runtime_cmpstring"], unfollowed := true, recurses := true, apart := false, narrowed := true }
def TalkEndsUptoSaid : Prop := talkEndsUptoRow.holds Try.pinned (OpenSpec.upto talkEndsSpec)

end Rows
end Go.Proofs.Ythpgdipcdllfdaa
