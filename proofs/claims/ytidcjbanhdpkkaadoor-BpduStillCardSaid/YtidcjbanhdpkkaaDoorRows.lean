/-
  NARROWER THAN 'FOR EVERY INPUT', by the rows' own cells (each row's printed sentence says how): ArpReply: laid · BpduBack: laid · BpduStill: laid · ArpBack: laid · PauseBack: laid · LacpBack: laid.
  DERIVED. THE GIVEN ROWS OF THIS SEAT. 6 by the template 'for every input the law returns true; each argument reads behind the call as it read before'; 0 by the template 'total and deterministic' (their statements: YtidcjbanhdpkkaaDoorTotals.lean).
  GIVEN WITH THE SEED: the statements are not yours to turn. If you find one false, say at which input.
  Laid BY PROGRAM, IN A SANDBOX (cutbox-rows.mjs): the forced cells as the released guide's own fill.sh prints them over the translation 92b1f7649e293bf2… (all of the seat's roots in one cut). By AI agents, Wed Nov 11 2026. No macro, syntax, notation, axiom, sorry.
-/
import Derived.Test.YtidcjbanhdpkkaaDoorChecked
import GoSem.PinnedTables
import GoSem.Claim
import GoSem.ClaimJoined
import GoSem.ClaimMapViews
import Derived.JoinedTies
import Derived.KernelRfl
namespace Go.Proofs.YtidcjbanhdpkkaaDoor
/- THE CELL 'sum', in the pinned program and in every row, IS THE sha256 OF THE DUMP (.gsa) THAT YtidcjbanhdpkkaaDoorProg.lean LOADS. Nothing in Lean hashes anything: it is a label: what it is worth is what the hold of that sum in a sandbox is worth. -/
noncomputable def Tryd.pinned : Pinned := { name := "ytidcjbanhdpkkaadoor", sum := "92b1f7649e293bf25e8e8065802a63417fdc0c66c757d70f5ef582d6b46e3130", checked := Tryd.checked }
namespace Rows
def none {H : Type} : Left H := { results := [], args := [] }

/- WHAT THE LISTED PACKAGE-LEVEL VARIABLES READ AS WHEN THE CALL BEGINS. Each datum BY PROGRAM (the guide's laid-datum.mjs) off the statement by which the dump's own 'gosem.cut.vars' lays the variable. In a bare row this is a premise. The card (YtidcjbanhdpkkaaDoorCards.lean) ties it to the program's text. -/
def laid_errors_errorType {H : Type} : DataW H := .iface "internal/reflectlite.rtype" (.agg [.ptr (.lit (.string [101, 114, 114, 111, 114]))])
def laid_unicode_utf8_acceptRanges {H : Type} : DataW H := .agg [.agg [.lit (.int .u8 128), .lit (.int .u8 191)], .agg [.lit (.int .u8 160), .lit (.int .u8 191)], .agg [.lit (.int .u8 128), .lit (.int .u8 159)], .agg [.lit (.int .u8 144), .lit (.int .u8 191)], .agg [.lit (.int .u8 128), .lit (.int .u8 143)], .agg [.lit (.int .u8 0), .lit (.int .u8 0)], .agg [.lit (.int .u8 0), .lit (.int .u8 0)], .agg [.lit (.int .u8 0), .lit (.int .u8 0)], .agg [.lit (.int .u8 0), .lit (.int .u8 0)], .agg [.lit (.int .u8 0), .lit (.int .u8 0)], .agg [.lit (.int .u8 0), .lit (.int .u8 0)], .agg [.lit (.int .u8 0), .lit (.int .u8 0)], .agg [.lit (.int .u8 0), .lit (.int .u8 0)], .agg [.lit (.int .u8 0), .lit (.int .u8 0)], .agg [.lit (.int .u8 0), .lit (.int .u8 0)], .agg [.lit (.int .u8 0), .lit (.int .u8 0)]]
/-- One of Go's own tables, pinned by name: the form's constant. -/
def laid_unicode_utf8_first : DataW Unit := Go.Pinned.utf8First

/-- 'switchyardkeep.ArpReply': WHATEVER THE INPUT: true; the input reads as it did. -/
def arpReplySpec : ChangeSpec := { name := "arpReply", fn := fun _ => fun
  | [d1, d2] => { results := [.lit (.bool true)], args := [d1, d2] }
  | _ => none }
def arpReplyRow : OpenClaim := { program := "ytidcjbanhdpkkaadoor", sum := "92b1f7649e293bf25e8e8065802a63417fdc0c66c757d70f5ef582d6b46e3130", func := "switchyard/switchyardkeep.ArpReply", spec := "arpReply", inPlace := ["internal/reflectlite.ValueOf", "(internal/reflectlite.Value).Type", "(internal/reflectlite.Value).IsNil", "internal/reflectlite.TypeOf", "(internal/reflectlite.Value).Elem", "(internal/reflectlite.Value).Set"], unfollowed := true, recurses := true, named := ["errors.errorType"], apart := false, laid := [("errors.errorType", laid_errors_errorType)] }
def ArpReplySaid : Prop := arpReplyRow.holds Tryd.pinned (OpenSpec.ofChange arpReplySpec)

/-- ITS FALSE NEIGHBOUR: 'it returns false'. Refute it at one input. -/
def arpReplyWrong : ChangeSpec := { name := "arpReply", fn := fun _ => fun
  | [d1, d2] => { results := [.lit (.bool false)], args := [d1, d2] }
  | _ => none }
def ArpReplyWrongFalsely : Prop := arpReplyRow.holds Tryd.pinned (OpenSpec.ofChange arpReplyWrong)

/-- 'switchyardkeep.BpduBack': WHATEVER THE INPUT: true; the input reads as it did. -/
def bpduBackSpec : ChangeSpec := { name := "bpduBack", fn := fun _ => fun
  | [d1, d2] => { results := [.lit (.bool true)], args := [d1, d2] }
  | _ => none }
def bpduBackRow : OpenClaim := { program := "ytidcjbanhdpkkaadoor", sum := "92b1f7649e293bf25e8e8065802a63417fdc0c66c757d70f5ef582d6b46e3130", func := "switchyard/switchyardkeep.BpduBack", spec := "bpduBack", inPlace := ["internal/reflectlite.ValueOf", "(internal/reflectlite.Value).Type", "(internal/reflectlite.Value).IsNil", "internal/reflectlite.TypeOf", "(internal/reflectlite.Value).Elem", "(internal/reflectlite.Value).Set"], unfollowed := true, recurses := true, named := ["errors.errorType"], apart := false, laid := [("errors.errorType", laid_errors_errorType)] }
def BpduBackSaid : Prop := bpduBackRow.holds Tryd.pinned (OpenSpec.ofChange bpduBackSpec)

/-- ITS FALSE NEIGHBOUR: 'it returns false'. Refute it at one input. -/
def bpduBackWrong : ChangeSpec := { name := "bpduBack", fn := fun _ => fun
  | [d1, d2] => { results := [.lit (.bool false)], args := [d1, d2] }
  | _ => none }
def BpduBackWrongFalsely : Prop := bpduBackRow.holds Tryd.pinned (OpenSpec.ofChange bpduBackWrong)

/-- 'switchyardkeep.BpduStill': WHATEVER THE INPUT: true; the input reads as it did. -/
def bpduStillSpec : ChangeSpec := { name := "bpduStill", fn := fun _ => fun
  | [d1, d2] => { results := [.lit (.bool true)], args := [d1, d2] }
  | _ => none }
def bpduStillRow : OpenClaim := { program := "ytidcjbanhdpkkaadoor", sum := "92b1f7649e293bf25e8e8065802a63417fdc0c66c757d70f5ef582d6b46e3130", func := "switchyard/switchyardkeep.BpduStill", spec := "bpduStill", inPlace := ["internal/reflectlite.ValueOf", "(internal/reflectlite.Value).Type", "(internal/reflectlite.Value).IsNil", "internal/reflectlite.TypeOf", "(internal/reflectlite.Value).Elem", "(internal/reflectlite.Value).Set"], unfollowed := true, recurses := true, named := ["errors.errorType"], apart := false, laid := [("errors.errorType", laid_errors_errorType)] }
def BpduStillSaid : Prop := bpduStillRow.holds Tryd.pinned (OpenSpec.ofChange bpduStillSpec)

/-- ITS FALSE NEIGHBOUR: 'it returns false'. Refute it at one input. -/
def bpduStillWrong : ChangeSpec := { name := "bpduStill", fn := fun _ => fun
  | [d1, d2] => { results := [.lit (.bool false)], args := [d1, d2] }
  | _ => none }
def BpduStillWrongFalsely : Prop := bpduStillRow.holds Tryd.pinned (OpenSpec.ofChange bpduStillWrong)

/-- 'switchyardkeep.ArpBack': WHATEVER THE INPUT: true; the input reads as it did. -/
def arpBackSpec : ChangeSpec := { name := "arpBack", fn := fun _ => fun
  | [d1, d2] => { results := [.lit (.bool true)], args := [d1, d2] }
  | _ => none }
def arpBackRow : OpenClaim := { program := "ytidcjbanhdpkkaadoor", sum := "92b1f7649e293bf25e8e8065802a63417fdc0c66c757d70f5ef582d6b46e3130", func := "switchyard/switchyardkeep.ArpBack", spec := "arpBack", inPlace := ["internal/bytealg.IndexByteString", "internal/bytealg.IndexString"], named := ["unicode/utf8.first", "unicode/utf8.acceptRanges", "internal/bytealg.MaxLen"], apart := false, laid := [("unicode/utf8.acceptRanges", laid_unicode_utf8_acceptRanges), ("unicode/utf8.first", laid_unicode_utf8_first)] }
def ArpBackSaid : Prop := arpBackRow.holds Tryd.pinned (OpenSpec.ofChange arpBackSpec)

/-- ITS FALSE NEIGHBOUR: 'it returns false'. Refute it at one input. -/
def arpBackWrong : ChangeSpec := { name := "arpBack", fn := fun _ => fun
  | [d1, d2] => { results := [.lit (.bool false)], args := [d1, d2] }
  | _ => none }
def ArpBackWrongFalsely : Prop := arpBackRow.holds Tryd.pinned (OpenSpec.ofChange arpBackWrong)

/-- 'switchyardkeep.PauseBack': WHATEVER THE INPUT: true; the input reads as it did. -/
def pauseBackSpec : ChangeSpec := { name := "pauseBack", fn := fun _ => fun
  | [d1, d2] => { results := [.lit (.bool true)], args := [d1, d2] }
  | _ => none }
def pauseBackRow : OpenClaim := { program := "ytidcjbanhdpkkaadoor", sum := "92b1f7649e293bf25e8e8065802a63417fdc0c66c757d70f5ef582d6b46e3130", func := "switchyard/switchyardkeep.PauseBack", spec := "pauseBack", inPlace := ["internal/bytealg.IndexByteString", "internal/bytealg.IndexString"], named := ["unicode/utf8.first", "unicode/utf8.acceptRanges", "internal/bytealg.MaxLen"], apart := false, laid := [("unicode/utf8.acceptRanges", laid_unicode_utf8_acceptRanges), ("unicode/utf8.first", laid_unicode_utf8_first)] }
def PauseBackSaid : Prop := pauseBackRow.holds Tryd.pinned (OpenSpec.ofChange pauseBackSpec)

/-- ITS FALSE NEIGHBOUR: 'it returns false'. Refute it at one input. -/
def pauseBackWrong : ChangeSpec := { name := "pauseBack", fn := fun _ => fun
  | [d1, d2] => { results := [.lit (.bool false)], args := [d1, d2] }
  | _ => none }
def PauseBackWrongFalsely : Prop := pauseBackRow.holds Tryd.pinned (OpenSpec.ofChange pauseBackWrong)

/-- 'switchyardkeep.LacpBack': WHATEVER THE INPUT: true; the input reads as it did. -/
def lacpBackSpec : ChangeSpec := { name := "lacpBack", fn := fun _ => fun
  | [d] => { results := [.lit (.bool true)], args := [d] }
  | _ => none }
def lacpBackRow : OpenClaim := { program := "ytidcjbanhdpkkaadoor", sum := "92b1f7649e293bf25e8e8065802a63417fdc0c66c757d70f5ef582d6b46e3130", func := "switchyard/switchyardkeep.LacpBack", spec := "lacpBack", inPlace := ["internal/abi.NoEscape", "internal/bytealg.MakeNoZero", "internal/reflectlite.ValueOf", "(internal/reflectlite.Value).Type", "(internal/reflectlite.Value).IsNil", "internal/reflectlite.TypeOf", "(internal/reflectlite.Value).Elem", "(internal/reflectlite.Value).Set"], unfollowed := true, recurses := true, named := ["errors.errorType"], apart := false, laid := [("errors.errorType", laid_errors_errorType)] }
def LacpBackSaid : Prop := lacpBackRow.holds Tryd.pinned (OpenSpec.ofChange lacpBackSpec)

/-- ITS FALSE NEIGHBOUR: 'it returns false'. Refute it at one input. -/
def lacpBackWrong : ChangeSpec := { name := "lacpBack", fn := fun _ => fun
  | [d] => { results := [.lit (.bool false)], args := [d] }
  | _ => none }
def LacpBackWrongFalsely : Prop := lacpBackRow.holds Tryd.pinned (OpenSpec.ofChange lacpBackWrong)

/- THE SECOND FORM. 'bulk': how many values and letters a reading holds, each counted each time it is reached (what is shared counts as often as it is met; a slice's spare places count too). A statement '..UptoSaid' is the law's where the arguments, and the package variables that the reading takes, are together of bulk at most 1048576: NARROWER than '..Said'. Prove '..Said' where nothing that the law and all that it calls make is longer than what came in: it says more and counts as full. Else prove '..UptoSaid'. A law counts once. -/
mutual
def uptoBulk {H : Type} : DataW H → Nat
  | .lit (.string bytes) => bytes.length + 1
  | .lit _ => 1
  | .nil => 1
  | .ptr d => uptoBulk d + 1
  | .slice elems spare => uptoBulkAll elems + uptoBulkAll spare + 1
  | .agg parts => uptoBulkAll parts + 1
  | .iface _ d => uptoBulk d + 1
  | .map entries => uptoBulkEntries entries + 1
  | .held _ => 1
def uptoBulkAll {H : Type} : List (DataW H) → Nat
  | [] => 0
  | d :: r => uptoBulk d + uptoBulkAll r
def uptoBulkEntries {H : Type} : List (Lit × DataW H) → Nat
  | [] => 0
  | x :: r => uptoBulkEntry x + uptoBulkEntries r
def uptoBulkEntry {H : Type} : Lit × DataW H → Nat
  | (.string bytes, d) => bytes.length + uptoBulk d + 1
  | (_, d) => uptoBulk d + 1
 end
def uptoSmall : (H : Type) → List (DataW H) → Bool := fun _ ds => decide (uptoBulkAll ds ≤ 1048576)
def OpenSpec.upto (s : _root_.Go.ChangeSpec) : _root_.Go.OpenSpec := { _root_.Go.OpenSpec.ofChange s with cond := some uptoSmall }

/-- 'switchyardkeep.ArpReply', WHERE WHAT IT READS IS OF BULK AT MOST 1048576: true; the input reads as it did. -/
def arpReplyUptoRow : OpenClaim := { program := "ytidcjbanhdpkkaadoor", sum := "92b1f7649e293bf25e8e8065802a63417fdc0c66c757d70f5ef582d6b46e3130", func := "switchyard/switchyardkeep.ArpReply", spec := "arpReply", inPlace := ["internal/reflectlite.ValueOf", "(internal/reflectlite.Value).Type", "(internal/reflectlite.Value).IsNil", "internal/reflectlite.TypeOf", "(internal/reflectlite.Value).Elem", "(internal/reflectlite.Value).Set"], unfollowed := true, recurses := true, named := ["errors.errorType"], apart := false, laid := [("errors.errorType", laid_errors_errorType)], narrowed := true }
def ArpReplyUptoSaid : Prop := arpReplyUptoRow.holds Tryd.pinned (OpenSpec.upto arpReplySpec)

/-- 'switchyardkeep.BpduBack', WHERE WHAT IT READS IS OF BULK AT MOST 1048576: true; the input reads as it did. -/
def bpduBackUptoRow : OpenClaim := { program := "ytidcjbanhdpkkaadoor", sum := "92b1f7649e293bf25e8e8065802a63417fdc0c66c757d70f5ef582d6b46e3130", func := "switchyard/switchyardkeep.BpduBack", spec := "bpduBack", inPlace := ["internal/reflectlite.ValueOf", "(internal/reflectlite.Value).Type", "(internal/reflectlite.Value).IsNil", "internal/reflectlite.TypeOf", "(internal/reflectlite.Value).Elem", "(internal/reflectlite.Value).Set"], unfollowed := true, recurses := true, named := ["errors.errorType"], apart := false, laid := [("errors.errorType", laid_errors_errorType)], narrowed := true }
def BpduBackUptoSaid : Prop := bpduBackUptoRow.holds Tryd.pinned (OpenSpec.upto bpduBackSpec)

/-- 'switchyardkeep.BpduStill', WHERE WHAT IT READS IS OF BULK AT MOST 1048576: true; the input reads as it did. -/
def bpduStillUptoRow : OpenClaim := { program := "ytidcjbanhdpkkaadoor", sum := "92b1f7649e293bf25e8e8065802a63417fdc0c66c757d70f5ef582d6b46e3130", func := "switchyard/switchyardkeep.BpduStill", spec := "bpduStill", inPlace := ["internal/reflectlite.ValueOf", "(internal/reflectlite.Value).Type", "(internal/reflectlite.Value).IsNil", "internal/reflectlite.TypeOf", "(internal/reflectlite.Value).Elem", "(internal/reflectlite.Value).Set"], unfollowed := true, recurses := true, named := ["errors.errorType"], apart := false, laid := [("errors.errorType", laid_errors_errorType)], narrowed := true }
def BpduStillUptoSaid : Prop := bpduStillUptoRow.holds Tryd.pinned (OpenSpec.upto bpduStillSpec)

/-- 'switchyardkeep.ArpBack', WHERE WHAT IT READS IS OF BULK AT MOST 1048576: true; the input reads as it did. -/
def arpBackUptoRow : OpenClaim := { program := "ytidcjbanhdpkkaadoor", sum := "92b1f7649e293bf25e8e8065802a63417fdc0c66c757d70f5ef582d6b46e3130", func := "switchyard/switchyardkeep.ArpBack", spec := "arpBack", inPlace := ["internal/bytealg.IndexByteString", "internal/bytealg.IndexString"], named := ["unicode/utf8.first", "unicode/utf8.acceptRanges", "internal/bytealg.MaxLen"], apart := false, laid := [("unicode/utf8.acceptRanges", laid_unicode_utf8_acceptRanges), ("unicode/utf8.first", laid_unicode_utf8_first)], narrowed := true }
def ArpBackUptoSaid : Prop := arpBackUptoRow.holds Tryd.pinned (OpenSpec.upto arpBackSpec)

/-- 'switchyardkeep.PauseBack', WHERE WHAT IT READS IS OF BULK AT MOST 1048576: true; the input reads as it did. -/
def pauseBackUptoRow : OpenClaim := { program := "ytidcjbanhdpkkaadoor", sum := "92b1f7649e293bf25e8e8065802a63417fdc0c66c757d70f5ef582d6b46e3130", func := "switchyard/switchyardkeep.PauseBack", spec := "pauseBack", inPlace := ["internal/bytealg.IndexByteString", "internal/bytealg.IndexString"], named := ["unicode/utf8.first", "unicode/utf8.acceptRanges", "internal/bytealg.MaxLen"], apart := false, laid := [("unicode/utf8.acceptRanges", laid_unicode_utf8_acceptRanges), ("unicode/utf8.first", laid_unicode_utf8_first)], narrowed := true }
def PauseBackUptoSaid : Prop := pauseBackUptoRow.holds Tryd.pinned (OpenSpec.upto pauseBackSpec)

/-- 'switchyardkeep.LacpBack', WHERE WHAT IT READS IS OF BULK AT MOST 1048576: true; the input reads as it did. -/
def lacpBackUptoRow : OpenClaim := { program := "ytidcjbanhdpkkaadoor", sum := "92b1f7649e293bf25e8e8065802a63417fdc0c66c757d70f5ef582d6b46e3130", func := "switchyard/switchyardkeep.LacpBack", spec := "lacpBack", inPlace := ["internal/abi.NoEscape", "internal/bytealg.MakeNoZero", "internal/reflectlite.ValueOf", "(internal/reflectlite.Value).Type", "(internal/reflectlite.Value).IsNil", "internal/reflectlite.TypeOf", "(internal/reflectlite.Value).Elem", "(internal/reflectlite.Value).Set"], unfollowed := true, recurses := true, named := ["errors.errorType"], apart := false, laid := [("errors.errorType", laid_errors_errorType)], narrowed := true }
def LacpBackUptoSaid : Prop := lacpBackUptoRow.holds Tryd.pinned (OpenSpec.upto lacpBackSpec)

end Rows
end Go.Proofs.YtidcjbanhdpkkaaDoor
