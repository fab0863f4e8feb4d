/-
  NARROWER THAN 'FOR EVERY INPUT', by the rows' own cells (each row's printed sentence says how): SegmentSize: laid · SegmentReplies: laid · SegmentChanged: laid · SegmentPuts: laid · NetFull: laid · NetOrder: laid · NetSpoils: laid · NetCopies: laid · NetNil: laid.
  DERIVED. THE GIVEN ROWS OF THIS SEAT. 9 by the template 'for every input the law returns true; each argument reads behind the call as it read before'; 0 by the template 'total and deterministic' (their statements: YthnennleblgjeaaDoorTotals.lean).
  GIVEN WITH THE SEED: the statements are not yours to turn. If you find one false, say at which input.
  Laid BY PROGRAM, IN A SANDBOX (cutbox-rows.mjs): the forced cells as the released guide's own fill.sh prints them over the translation 42882b8db36de84a… (all of the seat's roots in one cut). By AI agents, Wed Nov 11 2026. No macro, syntax, notation, axiom, sorry.
-/
import Derived.Test.YthnennleblgjeaaDoorChecked
import GoSem.Claim
import GoSem.ClaimJoined
import GoSem.ClaimMapViews
import Derived.JoinedTies
import Derived.KernelRfl
namespace Go.Proofs.YthnennleblgjeaaDoor
/- THE CELL 'sum', in the pinned program and in every row, IS THE sha256 OF THE DUMP (.gsa) THAT YthnennleblgjeaaDoorProg.lean LOADS. Nothing in Lean hashes anything: it is a label: what it is worth is what the hold of that sum in a sandbox is worth. -/
noncomputable def Tryd.pinned : Pinned := { name := "ythnennleblgjeaadoor", sum := "42882b8db36de84ab56a2c3466a9b40beb43fb96705c60b019f64c2cf7f1fa2b", checked := Tryd.checked }
namespace Rows
def none {H : Type} : Left H := { results := [], args := [] }

/- WHAT THE LISTED PACKAGE-LEVEL VARIABLES READ AS WHEN THE CALL BEGINS. Each datum BY PROGRAM (the guide's laid-datum.mjs) off the statement by which the dump's own 'gosem.cut.vars' lays the variable. In a bare row this is a premise. The card (YthnennleblgjeaaDoorCards.lean) ties it to the program's text. -/
def laid_ferrybridge_segment_widths {H : Type} : DataW H := .agg [.lit (.int .i64 1), .lit (.int .i64 1), .lit (.int .i64 2), .lit (.int .i64 2), .lit (.int .i64 4), .lit (.int .i64 4), .lit (.int .i64 1), .lit (.int .i64 2), .lit (.int .i64 1), .lit (.int .i64 1)]

/-- 'ferrybridgelaw08.SegmentSize': WHATEVER THE INPUT: true; the input reads as it did. -/
def segmentSizeSpec : ChangeSpec := { name := "segmentSize", fn := fun _ => fun
  | [d] => { results := [.lit (.bool true)], args := [d] }
  | _ => none }
def segmentSizeRow : OpenClaim := { program := "ythnennleblgjeaadoor", sum := "42882b8db36de84ab56a2c3466a9b40beb43fb96705c60b019f64c2cf7f1fa2b", func := "ferrybridge/ferrybridgelaw08.SegmentSize", spec := "segmentSize", unfollowed := true, recurses := true, named := ["ferrybridge/segment.widths"], apart := false, laid := [("ferrybridge/segment.widths", laid_ferrybridge_segment_widths)] }
def SegmentSizeSaid : Prop := segmentSizeRow.holds Tryd.pinned (OpenSpec.ofChange segmentSizeSpec)

/-- ITS FALSE NEIGHBOUR: 'it returns false'. Refute it at one input. -/
def segmentSizeWrong : ChangeSpec := { name := "segmentSize", fn := fun _ => fun
  | [d] => { results := [.lit (.bool false)], args := [d] }
  | _ => none }
def SegmentSizeWrongFalsely : Prop := segmentSizeRow.holds Tryd.pinned (OpenSpec.ofChange segmentSizeWrong)

/-- 'ferrybridgelaw08.SegmentReplies': WHATEVER THE INPUT: true; the input reads as it did. -/
def segmentRepliesSpec : ChangeSpec := { name := "segmentReplies", fn := fun _ => fun
  | [d1, d2] => { results := [.lit (.bool true)], args := [d1, d2] }
  | _ => none }
def segmentRepliesRow : OpenClaim := { program := "ythnennleblgjeaadoor", sum := "42882b8db36de84ab56a2c3466a9b40beb43fb96705c60b019f64c2cf7f1fa2b", func := "ferrybridge/ferrybridgelaw08.SegmentReplies", spec := "segmentReplies", unfollowed := true, recurses := true, named := ["ferrybridge/segment.widths"], apart := false, laid := [("ferrybridge/segment.widths", laid_ferrybridge_segment_widths)] }
def SegmentRepliesSaid : Prop := segmentRepliesRow.holds Tryd.pinned (OpenSpec.ofChange segmentRepliesSpec)

/-- ITS FALSE NEIGHBOUR: 'it returns false'. Refute it at one input. -/
def segmentRepliesWrong : ChangeSpec := { name := "segmentReplies", fn := fun _ => fun
  | [d1, d2] => { results := [.lit (.bool false)], args := [d1, d2] }
  | _ => none }
def SegmentRepliesWrongFalsely : Prop := segmentRepliesRow.holds Tryd.pinned (OpenSpec.ofChange segmentRepliesWrong)

/-- 'ferrybridgelaw08.SegmentChanged': WHATEVER THE INPUT: true; the input reads as it did. -/
def segmentChangedSpec : ChangeSpec := { name := "segmentChanged", fn := fun _ => fun
  | [d1, d2, d3] => { results := [.lit (.bool true)], args := [d1, d2, d3] }
  | _ => none }
def segmentChangedRow : OpenClaim := { program := "ythnennleblgjeaadoor", sum := "42882b8db36de84ab56a2c3466a9b40beb43fb96705c60b019f64c2cf7f1fa2b", func := "ferrybridge/ferrybridgelaw08.SegmentChanged", spec := "segmentChanged", unfollowed := true, recurses := true, named := ["ferrybridge/segment.widths"], apart := false, laid := [("ferrybridge/segment.widths", laid_ferrybridge_segment_widths)] }
def SegmentChangedSaid : Prop := segmentChangedRow.holds Tryd.pinned (OpenSpec.ofChange segmentChangedSpec)

/-- ITS FALSE NEIGHBOUR: 'it returns false'. Refute it at one input. -/
def segmentChangedWrong : ChangeSpec := { name := "segmentChanged", fn := fun _ => fun
  | [d1, d2, d3] => { results := [.lit (.bool false)], args := [d1, d2, d3] }
  | _ => none }
def SegmentChangedWrongFalsely : Prop := segmentChangedRow.holds Tryd.pinned (OpenSpec.ofChange segmentChangedWrong)

/-- 'ferrybridgelaw08.SegmentPuts': WHATEVER THE INPUT: true; the input reads as it did. -/
def segmentPutsSpec : ChangeSpec := { name := "segmentPuts", fn := fun _ => fun
  | [d] => { results := [.lit (.bool true)], args := [d] }
  | _ => none }
def segmentPutsRow : OpenClaim := { program := "ythnennleblgjeaadoor", sum := "42882b8db36de84ab56a2c3466a9b40beb43fb96705c60b019f64c2cf7f1fa2b", func := "ferrybridge/ferrybridgelaw08.SegmentPuts", spec := "segmentPuts", unfollowed := true, recurses := true, named := ["ferrybridge/segment.widths"], apart := false, laid := [("ferrybridge/segment.widths", laid_ferrybridge_segment_widths)] }
def SegmentPutsSaid : Prop := segmentPutsRow.holds Tryd.pinned (OpenSpec.ofChange segmentPutsSpec)

/-- ITS FALSE NEIGHBOUR: 'it returns false'. Refute it at one input. -/
def segmentPutsWrong : ChangeSpec := { name := "segmentPuts", fn := fun _ => fun
  | [d] => { results := [.lit (.bool false)], args := [d] }
  | _ => none }
def SegmentPutsWrongFalsely : Prop := segmentPutsRow.holds Tryd.pinned (OpenSpec.ofChange segmentPutsWrong)

/-- 'ferrybridgelaw22.NetFull': WHATEVER THE INPUT: true; the input reads as it did. -/
def netFullSpec : ChangeSpec := { name := "netFull", fn := fun _ => fun
  | [d] => { results := [.lit (.bool true)], args := [d] }
  | _ => none }
def netFullRow : OpenClaim := { program := "ythnennleblgjeaadoor", sum := "42882b8db36de84ab56a2c3466a9b40beb43fb96705c60b019f64c2cf7f1fa2b", func := "ferrybridge/ferrybridgelaw22.NetFull", spec := "netFull", unfollowed := true, recurses := true, named := ["ferrybridge/segment.widths"], apart := false, laid := [("ferrybridge/segment.widths", laid_ferrybridge_segment_widths)] }
def NetFullSaid : Prop := netFullRow.holds Tryd.pinned (OpenSpec.ofChange netFullSpec)

/-- ITS FALSE NEIGHBOUR: 'it returns false'. Refute it at one input. -/
def netFullWrong : ChangeSpec := { name := "netFull", fn := fun _ => fun
  | [d] => { results := [.lit (.bool false)], args := [d] }
  | _ => none }
def NetFullWrongFalsely : Prop := netFullRow.holds Tryd.pinned (OpenSpec.ofChange netFullWrong)

/-- 'ferrybridgelaw22.NetOrder': WHATEVER THE INPUT: true; the input reads as it did. -/
def netOrderSpec : ChangeSpec := { name := "netOrder", fn := fun _ => fun
  | [d1, d2] => { results := [.lit (.bool true)], args := [d1, d2] }
  | _ => none }
def netOrderRow : OpenClaim := { program := "ythnennleblgjeaadoor", sum := "42882b8db36de84ab56a2c3466a9b40beb43fb96705c60b019f64c2cf7f1fa2b", func := "ferrybridge/ferrybridgelaw22.NetOrder", spec := "netOrder", unfollowed := true, recurses := true, named := ["ferrybridge/segment.widths"], apart := false, laid := [("ferrybridge/segment.widths", laid_ferrybridge_segment_widths)] }
def NetOrderSaid : Prop := netOrderRow.holds Tryd.pinned (OpenSpec.ofChange netOrderSpec)

/-- ITS FALSE NEIGHBOUR: 'it returns false'. Refute it at one input. -/
def netOrderWrong : ChangeSpec := { name := "netOrder", fn := fun _ => fun
  | [d1, d2] => { results := [.lit (.bool false)], args := [d1, d2] }
  | _ => none }
def NetOrderWrongFalsely : Prop := netOrderRow.holds Tryd.pinned (OpenSpec.ofChange netOrderWrong)

/-- 'ferrybridgelaw22.NetSpoils': WHATEVER THE INPUT: true; the input reads as it did. -/
def netSpoilsSpec : ChangeSpec := { name := "netSpoils", fn := fun _ => fun
  | [d1, d2, d3] => { results := [.lit (.bool true)], args := [d1, d2, d3] }
  | _ => none }
def netSpoilsRow : OpenClaim := { program := "ythnennleblgjeaadoor", sum := "42882b8db36de84ab56a2c3466a9b40beb43fb96705c60b019f64c2cf7f1fa2b", func := "ferrybridge/ferrybridgelaw22.NetSpoils", spec := "netSpoils", unfollowed := true, recurses := true, named := ["ferrybridge/segment.widths"], apart := false, laid := [("ferrybridge/segment.widths", laid_ferrybridge_segment_widths)] }
def NetSpoilsSaid : Prop := netSpoilsRow.holds Tryd.pinned (OpenSpec.ofChange netSpoilsSpec)

/-- ITS FALSE NEIGHBOUR: 'it returns false'. Refute it at one input. -/
def netSpoilsWrong : ChangeSpec := { name := "netSpoils", fn := fun _ => fun
  | [d1, d2, d3] => { results := [.lit (.bool false)], args := [d1, d2, d3] }
  | _ => none }
def NetSpoilsWrongFalsely : Prop := netSpoilsRow.holds Tryd.pinned (OpenSpec.ofChange netSpoilsWrong)

/-- 'ferrybridgelaw22.NetCopies': WHATEVER THE INPUT: true; the input reads as it did. -/
def netCopiesSpec : ChangeSpec := { name := "netCopies", fn := fun _ => fun
  | [d1, d2] => { results := [.lit (.bool true)], args := [d1, d2] }
  | _ => none }
def netCopiesRow : OpenClaim := { program := "ythnennleblgjeaadoor", sum := "42882b8db36de84ab56a2c3466a9b40beb43fb96705c60b019f64c2cf7f1fa2b", func := "ferrybridge/ferrybridgelaw22.NetCopies", spec := "netCopies", unfollowed := true, recurses := true, named := ["ferrybridge/segment.widths"], apart := false, laid := [("ferrybridge/segment.widths", laid_ferrybridge_segment_widths)] }
def NetCopiesSaid : Prop := netCopiesRow.holds Tryd.pinned (OpenSpec.ofChange netCopiesSpec)

/-- ITS FALSE NEIGHBOUR: 'it returns false'. Refute it at one input. -/
def netCopiesWrong : ChangeSpec := { name := "netCopies", fn := fun _ => fun
  | [d1, d2] => { results := [.lit (.bool false)], args := [d1, d2] }
  | _ => none }
def NetCopiesWrongFalsely : Prop := netCopiesRow.holds Tryd.pinned (OpenSpec.ofChange netCopiesWrong)

/-- 'ferrybridgelaw22.NetNil': WHATEVER THE INPUT: true; the input reads as it did. -/
def netNilSpec : ChangeSpec := { name := "netNil", fn := fun _ => fun
  | [d] => { results := [.lit (.bool true)], args := [d] }
  | _ => none }
def netNilRow : OpenClaim := { program := "ythnennleblgjeaadoor", sum := "42882b8db36de84ab56a2c3466a9b40beb43fb96705c60b019f64c2cf7f1fa2b", func := "ferrybridge/ferrybridgelaw22.NetNil", spec := "netNil", unfollowed := true, recurses := true, named := ["ferrybridge/segment.widths"], apart := false, laid := [("ferrybridge/segment.widths", laid_ferrybridge_segment_widths)] }
def NetNilSaid : Prop := netNilRow.holds Tryd.pinned (OpenSpec.ofChange netNilSpec)

/-- ITS FALSE NEIGHBOUR: 'it returns false'. Refute it at one input. -/
def netNilWrong : ChangeSpec := { name := "netNil", fn := fun _ => fun
  | [d] => { results := [.lit (.bool false)], args := [d] }
  | _ => none }
def NetNilWrongFalsely : Prop := netNilRow.holds Tryd.pinned (OpenSpec.ofChange netNilWrong)

/- THE SECOND FORM. 'bulk': how many values and letters a reading holds, each counted each time it is reached (what is shared counts as often as it is met; a slice's spare places count too). A statement '..UptoSaid' is the law's where the arguments, and the package variables that the reading takes, are together of bulk at most 1048576: NARROWER than '..Said'. Prove '..Said' where nothing that the law and all that it calls make is longer than what came in: it says more and counts as full. Else prove '..UptoSaid'. A law counts once. -/
mutual
def uptoBulk {H : Type} : DataW H → Nat
  | .lit (.string bytes) => bytes.length + 1
  | .lit _ => 1
  | .nil => 1
  | .ptr d => uptoBulk d + 1
  | .slice elems spare => uptoBulkAll elems + uptoBulkAll spare + 1
  | .agg parts => uptoBulkAll parts + 1
  | .iface _ d => uptoBulk d + 1
  | .map entries => uptoBulkEntries entries + 1
  | .held _ => 1
def uptoBulkAll {H : Type} : List (DataW H) → Nat
  | [] => 0
  | d :: r => uptoBulk d + uptoBulkAll r
def uptoBulkEntries {H : Type} : List (Lit × DataW H) → Nat
  | [] => 0
  | x :: r => uptoBulkEntry x + uptoBulkEntries r
def uptoBulkEntry {H : Type} : Lit × DataW H → Nat
  | (.string bytes, d) => bytes.length + uptoBulk d + 1
  | (_, d) => uptoBulk d + 1
 end
def uptoSmall : (H : Type) → List (DataW H) → Bool := fun _ ds => decide (uptoBulkAll ds ≤ 1048576)
def OpenSpec.upto (s : _root_.Go.ChangeSpec) : _root_.Go.OpenSpec := { _root_.Go.OpenSpec.ofChange s with cond := some uptoSmall }

/-- 'ferrybridgelaw08.SegmentSize', WHERE WHAT IT READS IS OF BULK AT MOST 1048576: true; the input reads as it did. -/
def segmentSizeUptoRow : OpenClaim := { program := "ythnennleblgjeaadoor", sum := "42882b8db36de84ab56a2c3466a9b40beb43fb96705c60b019f64c2cf7f1fa2b", func := "ferrybridge/ferrybridgelaw08.SegmentSize", spec := "segmentSize", unfollowed := true, recurses := true, named := ["ferrybridge/segment.widths"], apart := false, laid := [("ferrybridge/segment.widths", laid_ferrybridge_segment_widths)], narrowed := true }
def SegmentSizeUptoSaid : Prop := segmentSizeUptoRow.holds Tryd.pinned (OpenSpec.upto segmentSizeSpec)

/-- 'ferrybridgelaw08.SegmentReplies', WHERE WHAT IT READS IS OF BULK AT MOST 1048576: true; the input reads as it did. -/
def segmentRepliesUptoRow : OpenClaim := { program := "ythnennleblgjeaadoor", sum := "42882b8db36de84ab56a2c3466a9b40beb43fb96705c60b019f64c2cf7f1fa2b", func := "ferrybridge/ferrybridgelaw08.SegmentReplies", spec := "segmentReplies", unfollowed := true, recurses := true, named := ["ferrybridge/segment.widths"], apart := false, laid := [("ferrybridge/segment.widths", laid_ferrybridge_segment_widths)], narrowed := true }
def SegmentRepliesUptoSaid : Prop := segmentRepliesUptoRow.holds Tryd.pinned (OpenSpec.upto segmentRepliesSpec)

/-- 'ferrybridgelaw08.SegmentChanged', WHERE WHAT IT READS IS OF BULK AT MOST 1048576: true; the input reads as it did. -/
def segmentChangedUptoRow : OpenClaim := { program := "ythnennleblgjeaadoor", sum := "42882b8db36de84ab56a2c3466a9b40beb43fb96705c60b019f64c2cf7f1fa2b", func := "ferrybridge/ferrybridgelaw08.SegmentChanged", spec := "segmentChanged", unfollowed := true, recurses := true, named := ["ferrybridge/segment.widths"], apart := false, laid := [("ferrybridge/segment.widths", laid_ferrybridge_segment_widths)], narrowed := true }
def SegmentChangedUptoSaid : Prop := segmentChangedUptoRow.holds Tryd.pinned (OpenSpec.upto segmentChangedSpec)

/-- 'ferrybridgelaw08.SegmentPuts', WHERE WHAT IT READS IS OF BULK AT MOST 1048576: true; the input reads as it did. -/
def segmentPutsUptoRow : OpenClaim := { program := "ythnennleblgjeaadoor", sum := "42882b8db36de84ab56a2c3466a9b40beb43fb96705c60b019f64c2cf7f1fa2b", func := "ferrybridge/ferrybridgelaw08.SegmentPuts", spec := "segmentPuts", unfollowed := true, recurses := true, named := ["ferrybridge/segment.widths"], apart := false, laid := [("ferrybridge/segment.widths", laid_ferrybridge_segment_widths)], narrowed := true }
def SegmentPutsUptoSaid : Prop := segmentPutsUptoRow.holds Tryd.pinned (OpenSpec.upto segmentPutsSpec)

/-- 'ferrybridgelaw22.NetFull', WHERE WHAT IT READS IS OF BULK AT MOST 1048576: true; the input reads as it did. -/
def netFullUptoRow : OpenClaim := { program := "ythnennleblgjeaadoor", sum := "42882b8db36de84ab56a2c3466a9b40beb43fb96705c60b019f64c2cf7f1fa2b", func := "ferrybridge/ferrybridgelaw22.NetFull", spec := "netFull", unfollowed := true, recurses := true, named := ["ferrybridge/segment.widths"], apart := false, laid := [("ferrybridge/segment.widths", laid_ferrybridge_segment_widths)], narrowed := true }
def NetFullUptoSaid : Prop := netFullUptoRow.holds Tryd.pinned (OpenSpec.upto netFullSpec)

/-- 'ferrybridgelaw22.NetOrder', WHERE WHAT IT READS IS OF BULK AT MOST 1048576: true; the input reads as it did. -/
def netOrderUptoRow : OpenClaim := { program := "ythnennleblgjeaadoor", sum := "42882b8db36de84ab56a2c3466a9b40beb43fb96705c60b019f64c2cf7f1fa2b", func := "ferrybridge/ferrybridgelaw22.NetOrder", spec := "netOrder", unfollowed := true, recurses := true, named := ["ferrybridge/segment.widths"], apart := false, laid := [("ferrybridge/segment.widths", laid_ferrybridge_segment_widths)], narrowed := true }
def NetOrderUptoSaid : Prop := netOrderUptoRow.holds Tryd.pinned (OpenSpec.upto netOrderSpec)

/-- 'ferrybridgelaw22.NetSpoils', WHERE WHAT IT READS IS OF BULK AT MOST 1048576: true; the input reads as it did. -/
def netSpoilsUptoRow : OpenClaim := { program := "ythnennleblgjeaadoor", sum := "42882b8db36de84ab56a2c3466a9b40beb43fb96705c60b019f64c2cf7f1fa2b", func := "ferrybridge/ferrybridgelaw22.NetSpoils", spec := "netSpoils", unfollowed := true, recurses := true, named := ["ferrybridge/segment.widths"], apart := false, laid := [("ferrybridge/segment.widths", laid_ferrybridge_segment_widths)], narrowed := true }
def NetSpoilsUptoSaid : Prop := netSpoilsUptoRow.holds Tryd.pinned (OpenSpec.upto netSpoilsSpec)

/-- 'ferrybridgelaw22.NetCopies', WHERE WHAT IT READS IS OF BULK AT MOST 1048576: true; the input reads as it did. -/
def netCopiesUptoRow : OpenClaim := { program := "ythnennleblgjeaadoor", sum := "42882b8db36de84ab56a2c3466a9b40beb43fb96705c60b019f64c2cf7f1fa2b", func := "ferrybridge/ferrybridgelaw22.NetCopies", spec := "netCopies", unfollowed := true, recurses := true, named := ["ferrybridge/segment.widths"], apart := false, laid := [("ferrybridge/segment.widths", laid_ferrybridge_segment_widths)], narrowed := true }
def NetCopiesUptoSaid : Prop := netCopiesUptoRow.holds Tryd.pinned (OpenSpec.upto netCopiesSpec)

/-- 'ferrybridgelaw22.NetNil', WHERE WHAT IT READS IS OF BULK AT MOST 1048576: true; the input reads as it did. -/
def netNilUptoRow : OpenClaim := { program := "ythnennleblgjeaadoor", sum := "42882b8db36de84ab56a2c3466a9b40beb43fb96705c60b019f64c2cf7f1fa2b", func := "ferrybridge/ferrybridgelaw22.NetNil", spec := "netNil", unfollowed := true, recurses := true, named := ["ferrybridge/segment.widths"], apart := false, laid := [("ferrybridge/segment.widths", laid_ferrybridge_segment_widths)], narrowed := true }
def NetNilUptoSaid : Prop := netNilUptoRow.holds Tryd.pinned (OpenSpec.upto netNilSpec)

end Rows
end Go.Proofs.YthnennleblgjeaaDoor
