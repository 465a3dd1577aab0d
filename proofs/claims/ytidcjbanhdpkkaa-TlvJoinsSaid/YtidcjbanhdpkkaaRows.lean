/-
  No cell of these rows narrows 'for every input' (looked for: loops, veiled, ifaces, maps, wideKeys, modest, calm, conditions, laid).
  DERIVED. THE GIVEN ROWS OF THIS SEAT. 6 by the template 'for every input the law returns true; each argument reads behind the call as it read before'; 0 by the template 'total and deterministic' (their statements: YtidcjbanhdpkkaaTotals.lean).
  GIVEN WITH THE SEED: the statements are not yours to turn. If you find one false, say at which input.
  Laid BY PROGRAM, IN A SANDBOX (cutbox-rows.mjs): the forced cells as the released guide's own fill.sh prints them over the translation fac447d57ee55b6e… (all of the seat's roots in one cut). By AI agents, Wed Nov 11 2026. No macro, syntax, notation, axiom, sorry.
-/
import Derived.Test.YtidcjbanhdpkkaaChecked
import GoSem.Claim
import GoSem.ClaimJoined
import GoSem.ClaimMapViews
import Derived.JoinedTies
import Derived.KernelRfl
namespace Go.Proofs.Ytidcjbanhdpkkaa
/- THE CELL 'sum', in the pinned program and in every row, IS THE sha256 OF THE DUMP (.gsa) THAT YtidcjbanhdpkkaaProg.lean LOADS. Nothing in Lean hashes anything: it is a label: what it is worth is what the hold of that sum in a sandbox is worth. -/
noncomputable def Try.pinned : Pinned := { name := "ytidcjbanhdpkkaa", sum := "fac447d57ee55b6e94abcab328a5b6079b4225daf9f9ddef74bb7a25a7b06036", checked := Try.checked }
namespace Rows
def none {H : Type} : Left H := { results := [], args := [] }

/-- 'switchyardkeep.PauseAll': WHATEVER THE INPUT: true; the input reads as it did. -/
def pauseAllSpec : ChangeSpec := { name := "pauseAll", fn := fun _ => fun
  | [d1, d2, d3] => { results := [.lit (.bool true)], args := [d1, d2, d3] }
  | _ => none }
def pauseAllRow : OpenClaim := { program := "ytidcjbanhdpkkaa", sum := "fac447d57ee55b6e94abcab328a5b6079b4225daf9f9ddef74bb7a25a7b06036", func := "switchyard/switchyardkeep.PauseAll", spec := "pauseAll", apart := false }
def PauseAllSaid : Prop := pauseAllRow.holds Try.pinned (OpenSpec.ofChange pauseAllSpec)

/-- ITS FALSE NEIGHBOUR: 'it returns false'. Refute it at one input. -/
def pauseAllWrong : ChangeSpec := { name := "pauseAll", fn := fun _ => fun
  | [d1, d2, d3] => { results := [.lit (.bool false)], args := [d1, d2, d3] }
  | _ => none }
def PauseAllWrongFalsely : Prop := pauseAllRow.holds Try.pinned (OpenSpec.ofChange pauseAllWrong)

/-- 'switchyardkeep.TlvBack': WHATEVER THE INPUT: true; the input reads as it did. -/
def tlvBackSpec : ChangeSpec := { name := "tlvBack", fn := fun _ => fun
  | [d1, d2] => { results := [.lit (.bool true)], args := [d1, d2] }
  | _ => none }
def tlvBackRow : OpenClaim := { program := "ytidcjbanhdpkkaa", sum := "fac447d57ee55b6e94abcab328a5b6079b4225daf9f9ddef74bb7a25a7b06036", func := "switchyard/switchyardkeep.TlvBack", spec := "tlvBack", inPlace := ["internal/abi.NoEscape"], apart := false }
def TlvBackSaid : Prop := tlvBackRow.holds Try.pinned (OpenSpec.ofChange tlvBackSpec)

/-- ITS FALSE NEIGHBOUR: 'it returns false'. Refute it at one input. -/
def tlvBackWrong : ChangeSpec := { name := "tlvBack", fn := fun _ => fun
  | [d1, d2] => { results := [.lit (.bool false)], args := [d1, d2] }
  | _ => none }
def TlvBackWrongFalsely : Prop := tlvBackRow.holds Try.pinned (OpenSpec.ofChange tlvBackWrong)

/-- 'switchyardkeep.TlvJoins': WHATEVER THE INPUT: true; the input reads as it did. -/
def tlvJoinsSpec : ChangeSpec := { name := "tlvJoins", fn := fun _ => fun
  | [d1, d2] => { results := [.lit (.bool true)], args := [d1, d2] }
  | _ => none }
def tlvJoinsRow : OpenClaim := { program := "ytidcjbanhdpkkaa", sum := "fac447d57ee55b6e94abcab328a5b6079b4225daf9f9ddef74bb7a25a7b06036", func := "switchyard/switchyardkeep.TlvJoins", spec := "tlvJoins", inPlace := ["internal/abi.NoEscape"], apart := false }
def TlvJoinsSaid : Prop := tlvJoinsRow.holds Try.pinned (OpenSpec.ofChange tlvJoinsSpec)

/-- ITS FALSE NEIGHBOUR: 'it returns false'. Refute it at one input. -/
def tlvJoinsWrong : ChangeSpec := { name := "tlvJoins", fn := fun _ => fun
  | [d1, d2] => { results := [.lit (.bool false)], args := [d1, d2] }
  | _ => none }
def TlvJoinsWrongFalsely : Prop := tlvJoinsRow.holds Try.pinned (OpenSpec.ofChange tlvJoinsWrong)

/-- 'switchyardkeep.BpduBits': WHATEVER THE INPUT: true; the input reads as it did. -/
def bpduBitsSpec : ChangeSpec := { name := "bpduBits", fn := fun _ => fun
  | [d1, d2] => { results := [.lit (.bool true)], args := [d1, d2] }
  | _ => none }
def bpduBitsRow : OpenClaim := { program := "ytidcjbanhdpkkaa", sum := "fac447d57ee55b6e94abcab328a5b6079b4225daf9f9ddef74bb7a25a7b06036", func := "switchyard/switchyardkeep.BpduBits", spec := "bpduBits", unfollowed := true, recurses := true, apart := false }
def BpduBitsSaid : Prop := bpduBitsRow.holds Try.pinned (OpenSpec.ofChange bpduBitsSpec)

/-- ITS FALSE NEIGHBOUR: 'it returns false'. Refute it at one input. -/
def bpduBitsWrong : ChangeSpec := { name := "bpduBits", fn := fun _ => fun
  | [d1, d2] => { results := [.lit (.bool false)], args := [d1, d2] }
  | _ => none }
def BpduBitsWrongFalsely : Prop := bpduBitsRow.holds Try.pinned (OpenSpec.ofChange bpduBitsWrong)

/-- 'switchyardkeep.LacpSides': WHATEVER THE INPUT: true; the input reads as it did. -/
def lacpSidesSpec : ChangeSpec := { name := "lacpSides", fn := fun _ => fun
  | [d] => { results := [.lit (.bool true)], args := [d] }
  | _ => none }
def lacpSidesRow : OpenClaim := { program := "ytidcjbanhdpkkaa", sum := "fac447d57ee55b6e94abcab328a5b6079b4225daf9f9ddef74bb7a25a7b06036", func := "switchyard/switchyardkeep.LacpSides", spec := "lacpSides", inPlace := ["internal/abi.NoEscape", "internal/bytealg.MakeNoZero"], apart := false }
def LacpSidesSaid : Prop := lacpSidesRow.holds Try.pinned (OpenSpec.ofChange lacpSidesSpec)

/-- ITS FALSE NEIGHBOUR: 'it returns false'. Refute it at one input. -/
def lacpSidesWrong : ChangeSpec := { name := "lacpSides", fn := fun _ => fun
  | [d] => { results := [.lit (.bool false)], args := [d] }
  | _ => none }
def LacpSidesWrongFalsely : Prop := lacpSidesRow.holds Try.pinned (OpenSpec.ofChange lacpSidesWrong)

/-- 'switchyardkeep.LacpFree': WHATEVER THE INPUT: true; the input reads as it did. -/
def lacpFreeSpec : ChangeSpec := { name := "lacpFree", fn := fun _ => fun
  | [d1, d2, d3] => { results := [.lit (.bool true)], args := [d1, d2, d3] }
  | _ => none }
def lacpFreeRow : OpenClaim := { program := "ytidcjbanhdpkkaa", sum := "fac447d57ee55b6e94abcab328a5b6079b4225daf9f9ddef74bb7a25a7b06036", func := "switchyard/switchyardkeep.LacpFree", spec := "lacpFree", inPlace := ["internal/abi.NoEscape", "internal/bytealg.MakeNoZero"], apart := false }
def LacpFreeSaid : Prop := lacpFreeRow.holds Try.pinned (OpenSpec.ofChange lacpFreeSpec)

/-- ITS FALSE NEIGHBOUR: 'it returns false'. Refute it at one input. -/
def lacpFreeWrong : ChangeSpec := { name := "lacpFree", fn := fun _ => fun
  | [d1, d2, d3] => { results := [.lit (.bool false)], args := [d1, d2, d3] }
  | _ => none }
def LacpFreeWrongFalsely : Prop := lacpFreeRow.holds Try.pinned (OpenSpec.ofChange lacpFreeWrong)

/- THE SECOND FORM. 'bulk': how many values and letters a reading holds, each counted each time it is reached (what is shared counts as often as it is met; a slice's spare places count too). A statement '..UptoSaid' is the law's where the arguments, and the package variables that the reading takes, are together of bulk at most 1048576: NARROWER than '..Said'. Prove '..Said' where nothing that the law and all that it calls make is longer than what came in: it says more and counts as full. Else prove '..UptoSaid'. A law counts once. -/
mutual
def uptoBulk {H : Type} : DataW H → Nat
  | .lit (.string bytes) => bytes.length + 1
  | .lit _ => 1
  | .nil => 1
  | .ptr d => uptoBulk d + 1
  | .slice elems spare => uptoBulkAll elems + uptoBulkAll spare + 1
  | .agg parts => uptoBulkAll parts + 1
  | .iface _ d => uptoBulk d + 1
  | .map entries => uptoBulkEntries entries + 1
  | .held _ => 1
def uptoBulkAll {H : Type} : List (DataW H) → Nat
  | [] => 0
  | d :: r => uptoBulk d + uptoBulkAll r
def uptoBulkEntries {H : Type} : List (Lit × DataW H) → Nat
  | [] => 0
  | x :: r => uptoBulkEntry x + uptoBulkEntries r
def uptoBulkEntry {H : Type} : Lit × DataW H → Nat
  | (.string bytes, d) => bytes.length + uptoBulk d + 1
  | (_, d) => uptoBulk d + 1
 end
def uptoSmall : (H : Type) → List (DataW H) → Bool := fun _ ds => decide (uptoBulkAll ds ≤ 1048576)
def OpenSpec.upto (s : _root_.Go.ChangeSpec) : _root_.Go.OpenSpec := { _root_.Go.OpenSpec.ofChange s with cond := some uptoSmall }

/-- 'switchyardkeep.PauseAll', WHERE WHAT IT READS IS OF BULK AT MOST 1048576: true; the input reads as it did. -/
def pauseAllUptoRow : OpenClaim := { program := "ytidcjbanhdpkkaa", sum := "fac447d57ee55b6e94abcab328a5b6079b4225daf9f9ddef74bb7a25a7b06036", func := "switchyard/switchyardkeep.PauseAll", spec := "pauseAll", apart := false, narrowed := true }
def PauseAllUptoSaid : Prop := pauseAllUptoRow.holds Try.pinned (OpenSpec.upto pauseAllSpec)

/-- 'switchyardkeep.TlvBack', WHERE WHAT IT READS IS OF BULK AT MOST 1048576: true; the input reads as it did. -/
def tlvBackUptoRow : OpenClaim := { program := "ytidcjbanhdpkkaa", sum := "fac447d57ee55b6e94abcab328a5b6079b4225daf9f9ddef74bb7a25a7b06036", func := "switchyard/switchyardkeep.TlvBack", spec := "tlvBack", inPlace := ["internal/abi.NoEscape"], apart := false, narrowed := true }
def TlvBackUptoSaid : Prop := tlvBackUptoRow.holds Try.pinned (OpenSpec.upto tlvBackSpec)

/-- 'switchyardkeep.TlvJoins', WHERE WHAT IT READS IS OF BULK AT MOST 1048576: true; the input reads as it did. -/
def tlvJoinsUptoRow : OpenClaim := { program := "ytidcjbanhdpkkaa", sum := "fac447d57ee55b6e94abcab328a5b6079b4225daf9f9ddef74bb7a25a7b06036", func := "switchyard/switchyardkeep.TlvJoins", spec := "tlvJoins", inPlace := ["internal/abi.NoEscape"], apart := false, narrowed := true }
def TlvJoinsUptoSaid : Prop := tlvJoinsUptoRow.holds Try.pinned (OpenSpec.upto tlvJoinsSpec)

/-- 'switchyardkeep.BpduBits', WHERE WHAT IT READS IS OF BULK AT MOST 1048576: true; the input reads as it did. -/
def bpduBitsUptoRow : OpenClaim := { program := "ytidcjbanhdpkkaa", sum := "fac447d57ee55b6e94abcab328a5b6079b4225daf9f9ddef74bb7a25a7b06036", func := "switchyard/switchyardkeep.BpduBits", spec := "bpduBits", unfollowed := true, recurses := true, apart := false, narrowed := true }
def BpduBitsUptoSaid : Prop := bpduBitsUptoRow.holds Try.pinned (OpenSpec.upto bpduBitsSpec)

/-- 'switchyardkeep.LacpSides', WHERE WHAT IT READS IS OF BULK AT MOST 1048576: true; the input reads as it did. -/
def lacpSidesUptoRow : OpenClaim := { program := "ytidcjbanhdpkkaa", sum := "fac447d57ee55b6e94abcab328a5b6079b4225daf9f9ddef74bb7a25a7b06036", func := "switchyard/switchyardkeep.LacpSides", spec := "lacpSides", inPlace := ["internal/abi.NoEscape", "internal/bytealg.MakeNoZero"], apart := false, narrowed := true }
def LacpSidesUptoSaid : Prop := lacpSidesUptoRow.holds Try.pinned (OpenSpec.upto lacpSidesSpec)

/-- 'switchyardkeep.LacpFree', WHERE WHAT IT READS IS OF BULK AT MOST 1048576: true; the input reads as it did. -/
def lacpFreeUptoRow : OpenClaim := { program := "ytidcjbanhdpkkaa", sum := "fac447d57ee55b6e94abcab328a5b6079b4225daf9f9ddef74bb7a25a7b06036", func := "switchyard/switchyardkeep.LacpFree", spec := "lacpFree", inPlace := ["internal/abi.NoEscape", "internal/bytealg.MakeNoZero"], apart := false, narrowed := true }
def LacpFreeUptoSaid : Prop := lacpFreeUptoRow.holds Try.pinned (OpenSpec.upto lacpFreeSpec)

end Rows
end Go.Proofs.Ytidcjbanhdpkkaa
