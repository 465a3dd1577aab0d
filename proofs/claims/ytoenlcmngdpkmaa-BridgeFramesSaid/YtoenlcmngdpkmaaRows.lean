/-
  No cell of these rows narrows 'for every input' (looked for: loops, veiled, ifaces, maps, wideKeys, modest, calm, conditions, laid).
  DERIVED. THE GIVEN ROWS OF THIS SEAT. 11 by the template 'for every input the law returns true; each argument reads behind the call as it read before'; 0 by the template 'total and deterministic' (their statements: YtoenlcmngdpkmaaTotals.lean).
  GIVEN WITH THE SEED: the statements are not yours to turn. If you find one false, say at which input.
  Laid BY PROGRAM, IN A SANDBOX (cutbox-rows.mjs): the forced cells as the released guide's own fill.sh prints them over the translation 8d865da0e316f6ea… (all of the seat's roots in one cut). By AI agents, Wed Nov 11 2026. No macro, syntax, notation, axiom, sorry.
-/
import Derived.Test.YtoenlcmngdpkmaaChecked
import GoSem.Claim
import GoSem.ClaimJoined
import GoSem.ClaimMapViews
import Derived.JoinedTies
import Derived.KernelRfl
namespace Go.Proofs.Ytoenlcmngdpkmaa
/- THE CELL 'sum', in the pinned program and in every row, IS THE sha256 OF THE DUMP (.gsa) THAT YtoenlcmngdpkmaaProg.lean LOADS. Nothing in Lean hashes anything: it is a label: what it is worth is what the hold of that sum in a sandbox is worth. -/
noncomputable def Try.pinned : Pinned := { name := "ytoenlcmngdpkmaa", sum := "8d865da0e316f6ea28896a2aa0760d8b4212df0c860b863d805d27ad82b286f0", checked := Try.checked }
namespace Rows
def none {H : Type} : Left H := { results := [], args := [] }

/-- 'switchyardkeep.LearnNow': WHATEVER THE INPUT: true; the input reads as it did. -/
def learnNowSpec : ChangeSpec := { name := "learnNow", fn := fun _ => fun
  | [d1, d2, d3, d4, d5] => { results := [.lit (.bool true)], args := [d1, d2, d3, d4, d5] }
  | _ => none }
def learnNowRow : OpenClaim := { program := "ytoenlcmngdpkmaa", sum := "8d865da0e316f6ea28896a2aa0760d8b4212df0c860b863d805d27ad82b286f0", func := "switchyard/switchyardkeep.LearnNow", spec := "learnNow", unfollowed := true, recurses := true, apart := false }
def LearnNowSaid : Prop := learnNowRow.holds Try.pinned (OpenSpec.ofChange learnNowSpec)

/-- ITS FALSE NEIGHBOUR: 'it returns false'. Refute it at one input. -/
def learnNowWrong : ChangeSpec := { name := "learnNow", fn := fun _ => fun
  | [d1, d2, d3, d4, d5] => { results := [.lit (.bool false)], args := [d1, d2, d3, d4, d5] }
  | _ => none }
def LearnNowWrongFalsely : Prop := learnNowRow.holds Try.pinned (OpenSpec.ofChange learnNowWrong)

/-- 'switchyardkeep.LearnBound': WHATEVER THE INPUT: true; the input reads as it did. -/
def learnBoundSpec : ChangeSpec := { name := "learnBound", fn := fun _ => fun
  | [d1, d2] => { results := [.lit (.bool true)], args := [d1, d2] }
  | _ => none }
def learnBoundRow : OpenClaim := { program := "ytoenlcmngdpkmaa", sum := "8d865da0e316f6ea28896a2aa0760d8b4212df0c860b863d805d27ad82b286f0", func := "switchyard/switchyardkeep.LearnBound", spec := "learnBound", unfollowed := true, recurses := true, apart := false }
def LearnBoundSaid : Prop := learnBoundRow.holds Try.pinned (OpenSpec.ofChange learnBoundSpec)

/-- ITS FALSE NEIGHBOUR: 'it returns false'. Refute it at one input. -/
def learnBoundWrong : ChangeSpec := { name := "learnBound", fn := fun _ => fun
  | [d1, d2] => { results := [.lit (.bool false)], args := [d1, d2] }
  | _ => none }
def LearnBoundWrongFalsely : Prop := learnBoundRow.holds Try.pinned (OpenSpec.ofChange learnBoundWrong)

/-- 'switchyardkeep.LearnForgets': WHATEVER THE INPUT: true; the input reads as it did. -/
def learnForgetsSpec : ChangeSpec := { name := "learnForgets", fn := fun _ => fun
  | [d1, d2, d3, d4] => { results := [.lit (.bool true)], args := [d1, d2, d3, d4] }
  | _ => none }
def learnForgetsRow : OpenClaim := { program := "ytoenlcmngdpkmaa", sum := "8d865da0e316f6ea28896a2aa0760d8b4212df0c860b863d805d27ad82b286f0", func := "switchyard/switchyardkeep.LearnForgets", spec := "learnForgets", unfollowed := true, recurses := true, apart := false }
def LearnForgetsSaid : Prop := learnForgetsRow.holds Try.pinned (OpenSpec.ofChange learnForgetsSpec)

/-- ITS FALSE NEIGHBOUR: 'it returns false'. Refute it at one input. -/
def learnForgetsWrong : ChangeSpec := { name := "learnForgets", fn := fun _ => fun
  | [d1, d2, d3, d4] => { results := [.lit (.bool false)], args := [d1, d2, d3, d4] }
  | _ => none }
def LearnForgetsWrongFalsely : Prop := learnForgetsRow.holds Try.pinned (OpenSpec.ofChange learnForgetsWrong)

/-- 'switchyardkeep.BridgeMade': WHATEVER THE INPUT: true; the input reads as it did. -/
def bridgeMadeSpec : ChangeSpec := { name := "bridgeMade", fn := fun _ => fun
  | [d1, d2, d3] => { results := [.lit (.bool true)], args := [d1, d2, d3] }
  | _ => none }
def bridgeMadeRow : OpenClaim := { program := "ytoenlcmngdpkmaa", sum := "8d865da0e316f6ea28896a2aa0760d8b4212df0c860b863d805d27ad82b286f0", func := "switchyard/switchyardkeep.BridgeMade", spec := "bridgeMade", unfollowed := true, recurses := true, apart := false }
def BridgeMadeSaid : Prop := bridgeMadeRow.holds Try.pinned (OpenSpec.ofChange bridgeMadeSpec)

/-- ITS FALSE NEIGHBOUR: 'it returns false'. Refute it at one input. -/
def bridgeMadeWrong : ChangeSpec := { name := "bridgeMade", fn := fun _ => fun
  | [d1, d2, d3] => { results := [.lit (.bool false)], args := [d1, d2, d3] }
  | _ => none }
def BridgeMadeWrongFalsely : Prop := bridgeMadeRow.holds Try.pinned (OpenSpec.ofChange bridgeMadeWrong)

/-- 'switchyardkeep.BridgeOut': WHATEVER THE INPUT: true; the input reads as it did. -/
def bridgeOutSpec : ChangeSpec := { name := "bridgeOut", fn := fun _ => fun
  | [d1, d2, d3] => { results := [.lit (.bool true)], args := [d1, d2, d3] }
  | _ => none }
def bridgeOutRow : OpenClaim := { program := "ytoenlcmngdpkmaa", sum := "8d865da0e316f6ea28896a2aa0760d8b4212df0c860b863d805d27ad82b286f0", func := "switchyard/switchyardkeep.BridgeOut", spec := "bridgeOut", unfollowed := true, recurses := true, apart := false }
def BridgeOutSaid : Prop := bridgeOutRow.holds Try.pinned (OpenSpec.ofChange bridgeOutSpec)

/-- ITS FALSE NEIGHBOUR: 'it returns false'. Refute it at one input. -/
def bridgeOutWrong : ChangeSpec := { name := "bridgeOut", fn := fun _ => fun
  | [d1, d2, d3] => { results := [.lit (.bool false)], args := [d1, d2, d3] }
  | _ => none }
def BridgeOutWrongFalsely : Prop := bridgeOutRow.holds Try.pinned (OpenSpec.ofChange bridgeOutWrong)

/-- 'switchyardkeep.BridgeLearns': WHATEVER THE INPUT: true; the input reads as it did. -/
def bridgeLearnsSpec : ChangeSpec := { name := "bridgeLearns", fn := fun _ => fun
  | [d1, d2, d3] => { results := [.lit (.bool true)], args := [d1, d2, d3] }
  | _ => none }
def bridgeLearnsRow : OpenClaim := { program := "ytoenlcmngdpkmaa", sum := "8d865da0e316f6ea28896a2aa0760d8b4212df0c860b863d805d27ad82b286f0", func := "switchyard/switchyardkeep.BridgeLearns", spec := "bridgeLearns", unfollowed := true, recurses := true, apart := false }
def BridgeLearnsSaid : Prop := bridgeLearnsRow.holds Try.pinned (OpenSpec.ofChange bridgeLearnsSpec)

/-- ITS FALSE NEIGHBOUR: 'it returns false'. Refute it at one input. -/
def bridgeLearnsWrong : ChangeSpec := { name := "bridgeLearns", fn := fun _ => fun
  | [d1, d2, d3] => { results := [.lit (.bool false)], args := [d1, d2, d3] }
  | _ => none }
def BridgeLearnsWrongFalsely : Prop := bridgeLearnsRow.holds Try.pinned (OpenSpec.ofChange bridgeLearnsWrong)

/-- 'switchyardkeep.BridgeFloods': WHATEVER THE INPUT: true; the input reads as it did. -/
def bridgeFloodsSpec : ChangeSpec := { name := "bridgeFloods", fn := fun _ => fun
  | [d1, d2, d3] => { results := [.lit (.bool true)], args := [d1, d2, d3] }
  | _ => none }
def bridgeFloodsRow : OpenClaim := { program := "ytoenlcmngdpkmaa", sum := "8d865da0e316f6ea28896a2aa0760d8b4212df0c860b863d805d27ad82b286f0", func := "switchyard/switchyardkeep.BridgeFloods", spec := "bridgeFloods", unfollowed := true, recurses := true, apart := false }
def BridgeFloodsSaid : Prop := bridgeFloodsRow.holds Try.pinned (OpenSpec.ofChange bridgeFloodsSpec)

/-- ITS FALSE NEIGHBOUR: 'it returns false'. Refute it at one input. -/
def bridgeFloodsWrong : ChangeSpec := { name := "bridgeFloods", fn := fun _ => fun
  | [d1, d2, d3] => { results := [.lit (.bool false)], args := [d1, d2, d3] }
  | _ => none }
def BridgeFloodsWrongFalsely : Prop := bridgeFloodsRow.holds Try.pinned (OpenSpec.ofChange bridgeFloodsWrong)

/-- 'switchyardkeep.BridgeQuiet': WHATEVER THE INPUT: true; the input reads as it did. -/
def bridgeQuietSpec : ChangeSpec := { name := "bridgeQuiet", fn := fun _ => fun
  | [d1, d2, d3] => { results := [.lit (.bool true)], args := [d1, d2, d3] }
  | _ => none }
def bridgeQuietRow : OpenClaim := { program := "ytoenlcmngdpkmaa", sum := "8d865da0e316f6ea28896a2aa0760d8b4212df0c860b863d805d27ad82b286f0", func := "switchyard/switchyardkeep.BridgeQuiet", spec := "bridgeQuiet", unfollowed := true, recurses := true, apart := false }
def BridgeQuietSaid : Prop := bridgeQuietRow.holds Try.pinned (OpenSpec.ofChange bridgeQuietSpec)

/-- ITS FALSE NEIGHBOUR: 'it returns false'. Refute it at one input. -/
def bridgeQuietWrong : ChangeSpec := { name := "bridgeQuiet", fn := fun _ => fun
  | [d1, d2, d3] => { results := [.lit (.bool false)], args := [d1, d2, d3] }
  | _ => none }
def BridgeQuietWrongFalsely : Prop := bridgeQuietRow.holds Try.pinned (OpenSpec.ofChange bridgeQuietWrong)

/-- 'switchyardkeep.BridgeBlocked': WHATEVER THE INPUT: true; the input reads as it did. -/
def bridgeBlockedSpec : ChangeSpec := { name := "bridgeBlocked", fn := fun _ => fun
  | [d1, d2, d3] => { results := [.lit (.bool true)], args := [d1, d2, d3] }
  | _ => none }
def bridgeBlockedRow : OpenClaim := { program := "ytoenlcmngdpkmaa", sum := "8d865da0e316f6ea28896a2aa0760d8b4212df0c860b863d805d27ad82b286f0", func := "switchyard/switchyardkeep.BridgeBlocked", spec := "bridgeBlocked", unfollowed := true, recurses := true, apart := false }
def BridgeBlockedSaid : Prop := bridgeBlockedRow.holds Try.pinned (OpenSpec.ofChange bridgeBlockedSpec)

/-- ITS FALSE NEIGHBOUR: 'it returns false'. Refute it at one input. -/
def bridgeBlockedWrong : ChangeSpec := { name := "bridgeBlocked", fn := fun _ => fun
  | [d1, d2, d3] => { results := [.lit (.bool false)], args := [d1, d2, d3] }
  | _ => none }
def BridgeBlockedWrongFalsely : Prop := bridgeBlockedRow.holds Try.pinned (OpenSpec.ofChange bridgeBlockedWrong)

/-- 'switchyardkeep.BridgeFrames': WHATEVER THE INPUT: true; the input reads as it did. -/
def bridgeFramesSpec : ChangeSpec := { name := "bridgeFrames", fn := fun _ => fun
  | [d1, d2, d3] => { results := [.lit (.bool true)], args := [d1, d2, d3] }
  | _ => none }
def bridgeFramesRow : OpenClaim := { program := "ytoenlcmngdpkmaa", sum := "8d865da0e316f6ea28896a2aa0760d8b4212df0c860b863d805d27ad82b286f0", func := "switchyard/switchyardkeep.BridgeFrames", spec := "bridgeFrames", unfollowed := true, recurses := true, apart := false }
def BridgeFramesSaid : Prop := bridgeFramesRow.holds Try.pinned (OpenSpec.ofChange bridgeFramesSpec)

/-- ITS FALSE NEIGHBOUR: 'it returns false'. Refute it at one input. -/
def bridgeFramesWrong : ChangeSpec := { name := "bridgeFrames", fn := fun _ => fun
  | [d1, d2, d3] => { results := [.lit (.bool false)], args := [d1, d2, d3] }
  | _ => none }
def BridgeFramesWrongFalsely : Prop := bridgeFramesRow.holds Try.pinned (OpenSpec.ofChange bridgeFramesWrong)

/-- 'switchyardkeep.BridgeAgain': WHATEVER THE INPUT: true; the input reads as it did. -/
def bridgeAgainSpec : ChangeSpec := { name := "bridgeAgain", fn := fun _ => fun
  | [d1, d2, d3] => { results := [.lit (.bool true)], args := [d1, d2, d3] }
  | _ => none }
def bridgeAgainRow : OpenClaim := { program := "ytoenlcmngdpkmaa", sum := "8d865da0e316f6ea28896a2aa0760d8b4212df0c860b863d805d27ad82b286f0", func := "switchyard/switchyardkeep.BridgeAgain", spec := "bridgeAgain", unfollowed := true, recurses := true, apart := false }
def BridgeAgainSaid : Prop := bridgeAgainRow.holds Try.pinned (OpenSpec.ofChange bridgeAgainSpec)

/-- ITS FALSE NEIGHBOUR: 'it returns false'. Refute it at one input. -/
def bridgeAgainWrong : ChangeSpec := { name := "bridgeAgain", fn := fun _ => fun
  | [d1, d2, d3] => { results := [.lit (.bool false)], args := [d1, d2, d3] }
  | _ => none }
def BridgeAgainWrongFalsely : Prop := bridgeAgainRow.holds Try.pinned (OpenSpec.ofChange bridgeAgainWrong)

/- THE SECOND FORM. 'bulk': how many values and letters a reading holds, each counted each time it is reached (what is shared counts as often as it is met; a slice's spare places count too). A statement '..UptoSaid' is the law's where the arguments, and the package variables that the reading takes, are together of bulk at most 1048576: NARROWER than '..Said'. Prove '..Said' where nothing that the law and all that it calls make is longer than what came in: it says more and counts as full. Else prove '..UptoSaid'. A law counts once. -/
mutual
def uptoBulk {H : Type} : DataW H → Nat
  | .lit (.string bytes) => bytes.length + 1
  | .lit _ => 1
  | .nil => 1
  | .ptr d => uptoBulk d + 1
  | .slice elems spare => uptoBulkAll elems + uptoBulkAll spare + 1
  | .agg parts => uptoBulkAll parts + 1
  | .iface _ d => uptoBulk d + 1
  | .map entries => uptoBulkEntries entries + 1
  | .held _ => 1
def uptoBulkAll {H : Type} : List (DataW H) → Nat
  | [] => 0
  | d :: r => uptoBulk d + uptoBulkAll r
def uptoBulkEntries {H : Type} : List (Lit × DataW H) → Nat
  | [] => 0
  | x :: r => uptoBulkEntry x + uptoBulkEntries r
def uptoBulkEntry {H : Type} : Lit × DataW H → Nat
  | (.string bytes, d) => bytes.length + uptoBulk d + 1
  | (_, d) => uptoBulk d + 1
 end
def uptoSmall : (H : Type) → List (DataW H) → Bool := fun _ ds => decide (uptoBulkAll ds ≤ 1048576)
def OpenSpec.upto (s : _root_.Go.ChangeSpec) : _root_.Go.OpenSpec := { _root_.Go.OpenSpec.ofChange s with cond := some uptoSmall }

/-- 'switchyardkeep.LearnNow', WHERE WHAT IT READS IS OF BULK AT MOST 1048576: true; the input reads as it did. -/
def learnNowUptoRow : OpenClaim := { program := "ytoenlcmngdpkmaa", sum := "8d865da0e316f6ea28896a2aa0760d8b4212df0c860b863d805d27ad82b286f0", func := "switchyard/switchyardkeep.LearnNow", spec := "learnNow", unfollowed := true, recurses := true, apart := false, narrowed := true }
def LearnNowUptoSaid : Prop := learnNowUptoRow.holds Try.pinned (OpenSpec.upto learnNowSpec)

/-- 'switchyardkeep.LearnBound', WHERE WHAT IT READS IS OF BULK AT MOST 1048576: true; the input reads as it did. -/
def learnBoundUptoRow : OpenClaim := { program := "ytoenlcmngdpkmaa", sum := "8d865da0e316f6ea28896a2aa0760d8b4212df0c860b863d805d27ad82b286f0", func := "switchyard/switchyardkeep.LearnBound", spec := "learnBound", unfollowed := true, recurses := true, apart := false, narrowed := true }
def LearnBoundUptoSaid : Prop := learnBoundUptoRow.holds Try.pinned (OpenSpec.upto learnBoundSpec)

/-- 'switchyardkeep.LearnForgets', WHERE WHAT IT READS IS OF BULK AT MOST 1048576: true; the input reads as it did. -/
def learnForgetsUptoRow : OpenClaim := { program := "ytoenlcmngdpkmaa", sum := "8d865da0e316f6ea28896a2aa0760d8b4212df0c860b863d805d27ad82b286f0", func := "switchyard/switchyardkeep.LearnForgets", spec := "learnForgets", unfollowed := true, recurses := true, apart := false, narrowed := true }
def LearnForgetsUptoSaid : Prop := learnForgetsUptoRow.holds Try.pinned (OpenSpec.upto learnForgetsSpec)

/-- 'switchyardkeep.BridgeMade', WHERE WHAT IT READS IS OF BULK AT MOST 1048576: true; the input reads as it did. -/
def bridgeMadeUptoRow : OpenClaim := { program := "ytoenlcmngdpkmaa", sum := "8d865da0e316f6ea28896a2aa0760d8b4212df0c860b863d805d27ad82b286f0", func := "switchyard/switchyardkeep.BridgeMade", spec := "bridgeMade", unfollowed := true, recurses := true, apart := false, narrowed := true }
def BridgeMadeUptoSaid : Prop := bridgeMadeUptoRow.holds Try.pinned (OpenSpec.upto bridgeMadeSpec)

/-- 'switchyardkeep.BridgeOut', WHERE WHAT IT READS IS OF BULK AT MOST 1048576: true; the input reads as it did. -/
def bridgeOutUptoRow : OpenClaim := { program := "ytoenlcmngdpkmaa", sum := "8d865da0e316f6ea28896a2aa0760d8b4212df0c860b863d805d27ad82b286f0", func := "switchyard/switchyardkeep.BridgeOut", spec := "bridgeOut", unfollowed := true, recurses := true, apart := false, narrowed := true }
def BridgeOutUptoSaid : Prop := bridgeOutUptoRow.holds Try.pinned (OpenSpec.upto bridgeOutSpec)

/-- 'switchyardkeep.BridgeLearns', WHERE WHAT IT READS IS OF BULK AT MOST 1048576: true; the input reads as it did. -/
def bridgeLearnsUptoRow : OpenClaim := { program := "ytoenlcmngdpkmaa", sum := "8d865da0e316f6ea28896a2aa0760d8b4212df0c860b863d805d27ad82b286f0", func := "switchyard/switchyardkeep.BridgeLearns", spec := "bridgeLearns", unfollowed := true, recurses := true, apart := false, narrowed := true }
def BridgeLearnsUptoSaid : Prop := bridgeLearnsUptoRow.holds Try.pinned (OpenSpec.upto bridgeLearnsSpec)

/-- 'switchyardkeep.BridgeFloods', WHERE WHAT IT READS IS OF BULK AT MOST 1048576: true; the input reads as it did. -/
def bridgeFloodsUptoRow : OpenClaim := { program := "ytoenlcmngdpkmaa", sum := "8d865da0e316f6ea28896a2aa0760d8b4212df0c860b863d805d27ad82b286f0", func := "switchyard/switchyardkeep.BridgeFloods", spec := "bridgeFloods", unfollowed := true, recurses := true, apart := false, narrowed := true }
def BridgeFloodsUptoSaid : Prop := bridgeFloodsUptoRow.holds Try.pinned (OpenSpec.upto bridgeFloodsSpec)

/-- 'switchyardkeep.BridgeQuiet', WHERE WHAT IT READS IS OF BULK AT MOST 1048576: true; the input reads as it did. -/
def bridgeQuietUptoRow : OpenClaim := { program := "ytoenlcmngdpkmaa", sum := "8d865da0e316f6ea28896a2aa0760d8b4212df0c860b863d805d27ad82b286f0", func := "switchyard/switchyardkeep.BridgeQuiet", spec := "bridgeQuiet", unfollowed := true, recurses := true, apart := false, narrowed := true }
def BridgeQuietUptoSaid : Prop := bridgeQuietUptoRow.holds Try.pinned (OpenSpec.upto bridgeQuietSpec)

/-- 'switchyardkeep.BridgeBlocked', WHERE WHAT IT READS IS OF BULK AT MOST 1048576: true; the input reads as it did. -/
def bridgeBlockedUptoRow : OpenClaim := { program := "ytoenlcmngdpkmaa", sum := "8d865da0e316f6ea28896a2aa0760d8b4212df0c860b863d805d27ad82b286f0", func := "switchyard/switchyardkeep.BridgeBlocked", spec := "bridgeBlocked", unfollowed := true, recurses := true, apart := false, narrowed := true }
def BridgeBlockedUptoSaid : Prop := bridgeBlockedUptoRow.holds Try.pinned (OpenSpec.upto bridgeBlockedSpec)

/-- 'switchyardkeep.BridgeFrames', WHERE WHAT IT READS IS OF BULK AT MOST 1048576: true; the input reads as it did. -/
def bridgeFramesUptoRow : OpenClaim := { program := "ytoenlcmngdpkmaa", sum := "8d865da0e316f6ea28896a2aa0760d8b4212df0c860b863d805d27ad82b286f0", func := "switchyard/switchyardkeep.BridgeFrames", spec := "bridgeFrames", unfollowed := true, recurses := true, apart := false, narrowed := true }
def BridgeFramesUptoSaid : Prop := bridgeFramesUptoRow.holds Try.pinned (OpenSpec.upto bridgeFramesSpec)

/-- 'switchyardkeep.BridgeAgain', WHERE WHAT IT READS IS OF BULK AT MOST 1048576: true; the input reads as it did. -/
def bridgeAgainUptoRow : OpenClaim := { program := "ytoenlcmngdpkmaa", sum := "8d865da0e316f6ea28896a2aa0760d8b4212df0c860b863d805d27ad82b286f0", func := "switchyard/switchyardkeep.BridgeAgain", spec := "bridgeAgain", unfollowed := true, recurses := true, apart := false, narrowed := true }
def BridgeAgainUptoSaid : Prop := bridgeAgainUptoRow.holds Try.pinned (OpenSpec.upto bridgeAgainSpec)

end Rows
end Go.Proofs.Ytoenlcmngdpkmaa
