/-
  No cell of these rows narrows 'for every input' (looked for: loops, veiled, ifaces, maps, wideKeys, modest, calm, conditions, laid).
  DERIVED. THE GIVEN ROWS OF THIS SEAT. 15 by the template 'for every input the law returns true; each argument reads behind the call as it read before'; 0 by the template 'total and deterministic' (their statements: YtnigfdldfmiaiaaTotals.lean).
  GIVEN WITH THE SEED: the statements are not yours to turn. If you find one false, say at which input.
  Laid BY PROGRAM, IN A SANDBOX (cutbox-rows.mjs): the forced cells as the released guide's own fill.sh prints them over the translation e9a3c43c4b34a6cb… (all of the seat's roots in one cut). By AI agents, Wed Nov 11 2026. No macro, syntax, notation, axiom, sorry.
-/
import Derived.Test.YtnigfdldfmiaiaaChecked
import GoSem.Claim
import GoSem.ClaimJoined
import GoSem.ClaimMapViews
import Derived.JoinedTies
import Derived.KernelRfl
namespace Go.Proofs.Ytnigfdldfmiaiaa
/- THE CELL 'sum', in the pinned program and in every row, IS THE sha256 OF THE DUMP (.gsa) THAT YtnigfdldfmiaiaaProg.lean LOADS. Nothing in Lean hashes anything: it is a label: what it is worth is what the hold of that sum in a sandbox is worth. -/
noncomputable def Try.pinned : Pinned := { name := "ytnigfdldfmiaiaa", sum := "e9a3c43c4b34a6cb8d1e0fb11be2d70f24401685c82376db01b94f177b64b856", checked := Try.checked }
namespace Rows
def none {H : Type} : Left H := { results := [], args := [] }

/-- 'ferrybridgelaw11.SpanOrder': WHATEVER THE INPUT: true; the input reads as it did. -/
def spanOrderSpec : ChangeSpec := { name := "spanOrder", fn := fun _ => fun
  | [d1, d2] => { results := [.lit (.bool true)], args := [d1, d2] }
  | _ => none }
def spanOrderRow : OpenClaim := { program := "ytnigfdldfmiaiaa", sum := "e9a3c43c4b34a6cb8d1e0fb11be2d70f24401685c82376db01b94f177b64b856", func := "ferrybridge/ferrybridgelaw11.SpanOrder", spec := "spanOrder", inPlace := ["slices.overlaps[ferrybridge/span.Run]"], unfollowed := true, recurses := true, apart := false }
def SpanOrderSaid : Prop := spanOrderRow.holds Try.pinned (OpenSpec.ofChange spanOrderSpec)

/-- ITS FALSE NEIGHBOUR: 'it returns false'. Refute it at one input. -/
def spanOrderWrong : ChangeSpec := { name := "spanOrder", fn := fun _ => fun
  | [d1, d2] => { results := [.lit (.bool false)], args := [d1, d2] }
  | _ => none }
def SpanOrderWrongFalsely : Prop := spanOrderRow.holds Try.pinned (OpenSpec.ofChange spanOrderWrong)

/-- 'ferrybridgelaw11.SpanDrops': WHATEVER THE INPUT: true; the input reads as it did. -/
def spanDropsSpec : ChangeSpec := { name := "spanDrops", fn := fun _ => fun
  | [d1, d2] => { results := [.lit (.bool true)], args := [d1, d2] }
  | _ => none }
def spanDropsRow : OpenClaim := { program := "ytnigfdldfmiaiaa", sum := "e9a3c43c4b34a6cb8d1e0fb11be2d70f24401685c82376db01b94f177b64b856", func := "ferrybridge/ferrybridgelaw11.SpanDrops", spec := "spanDrops", inPlace := ["slices.overlaps[ferrybridge/span.Run]"], unfollowed := true, recurses := true, apart := false }
def SpanDropsSaid : Prop := spanDropsRow.holds Try.pinned (OpenSpec.ofChange spanDropsSpec)

/-- ITS FALSE NEIGHBOUR: 'it returns false'. Refute it at one input. -/
def spanDropsWrong : ChangeSpec := { name := "spanDrops", fn := fun _ => fun
  | [d1, d2] => { results := [.lit (.bool false)], args := [d1, d2] }
  | _ => none }
def SpanDropsWrongFalsely : Prop := spanDropsRow.holds Try.pinned (OpenSpec.ofChange spanDropsWrong)

/-- 'ferrybridgelaw11.SpanActs': WHATEVER THE INPUT: true; the input reads as it did. -/
def spanActsSpec : ChangeSpec := { name := "spanActs", fn := fun _ => fun
  | [d] => { results := [.lit (.bool true)], args := [d] }
  | _ => none }
def spanActsRow : OpenClaim := { program := "ytnigfdldfmiaiaa", sum := "e9a3c43c4b34a6cb8d1e0fb11be2d70f24401685c82376db01b94f177b64b856", func := "ferrybridge/ferrybridgelaw11.SpanActs", spec := "spanActs", inPlace := ["slices.overlaps[ferrybridge/span.Run]"], unfollowed := true, recurses := true, apart := false }
def SpanActsSaid : Prop := spanActsRow.holds Try.pinned (OpenSpec.ofChange spanActsSpec)

/-- ITS FALSE NEIGHBOUR: 'it returns false'. Refute it at one input. -/
def spanActsWrong : ChangeSpec := { name := "spanActs", fn := fun _ => fun
  | [d] => { results := [.lit (.bool false)], args := [d] }
  | _ => none }
def SpanActsWrongFalsely : Prop := spanActsRow.holds Try.pinned (OpenSpec.ofChange spanActsWrong)

/-- 'ferrybridgelaw11.SpanAny': WHATEVER THE INPUT: true; the input reads as it did. -/
def spanAnySpec : ChangeSpec := { name := "spanAny", fn := fun _ => fun
  | [d1, d2] => { results := [.lit (.bool true)], args := [d1, d2] }
  | _ => none }
def spanAnyRow : OpenClaim := { program := "ytnigfdldfmiaiaa", sum := "e9a3c43c4b34a6cb8d1e0fb11be2d70f24401685c82376db01b94f177b64b856", func := "ferrybridge/ferrybridgelaw11.SpanAny", spec := "spanAny", inPlace := ["slices.overlaps[ferrybridge/span.Run]"], unfollowed := true, recurses := true, apart := false }
def SpanAnySaid : Prop := spanAnyRow.holds Try.pinned (OpenSpec.ofChange spanAnySpec)

/-- ITS FALSE NEIGHBOUR: 'it returns false'. Refute it at one input. -/
def spanAnyWrong : ChangeSpec := { name := "spanAny", fn := fun _ => fun
  | [d1, d2] => { results := [.lit (.bool false)], args := [d1, d2] }
  | _ => none }
def SpanAnyWrongFalsely : Prop := spanAnyRow.holds Try.pinned (OpenSpec.ofChange spanAnyWrong)

/-- 'ferrybridgelaw11.SpanNil': WHATEVER THE INPUT: true; the input reads as it did. -/
def spanNilSpec : ChangeSpec := { name := "spanNil", fn := fun _ => fun
  | [d1, d2] => { results := [.lit (.bool true)], args := [d1, d2] }
  | _ => none }
def spanNilRow : OpenClaim := { program := "ytnigfdldfmiaiaa", sum := "e9a3c43c4b34a6cb8d1e0fb11be2d70f24401685c82376db01b94f177b64b856", func := "ferrybridge/ferrybridgelaw11.SpanNil", spec := "spanNil", inPlace := ["slices.overlaps[ferrybridge/span.Run]"], unfollowed := true, recurses := true, apart := false }
def SpanNilSaid : Prop := spanNilRow.holds Try.pinned (OpenSpec.ofChange spanNilSpec)

/-- ITS FALSE NEIGHBOUR: 'it returns false'. Refute it at one input. -/
def spanNilWrong : ChangeSpec := { name := "spanNil", fn := fun _ => fun
  | [d1, d2] => { results := [.lit (.bool false)], args := [d1, d2] }
  | _ => none }
def SpanNilWrongFalsely : Prop := spanNilRow.holds Try.pinned (OpenSpec.ofChange spanNilWrong)

/-- 'ferrybridgelaw16.DrecvFirst': WHATEVER THE INPUT: true; the input reads as it did. -/
def drecvFirstSpec : ChangeSpec := { name := "drecvFirst", fn := fun _ => fun
  | [d1, d2, d3] => { results := [.lit (.bool true)], args := [d1, d2, d3] }
  | _ => none }
def drecvFirstRow : OpenClaim := { program := "ytnigfdldfmiaiaa", sum := "e9a3c43c4b34a6cb8d1e0fb11be2d70f24401685c82376db01b94f177b64b856", func := "ferrybridge/ferrybridgelaw16.DrecvFirst", spec := "drecvFirst", inPlace := ["slices.overlaps[ferrybridge/span.Run]"], unfollowed := true, recurses := true, apart := false }
def DrecvFirstSaid : Prop := drecvFirstRow.holds Try.pinned (OpenSpec.ofChange drecvFirstSpec)

/-- ITS FALSE NEIGHBOUR: 'it returns false'. Refute it at one input. -/
def drecvFirstWrong : ChangeSpec := { name := "drecvFirst", fn := fun _ => fun
  | [d1, d2, d3] => { results := [.lit (.bool false)], args := [d1, d2, d3] }
  | _ => none }
def DrecvFirstWrongFalsely : Prop := drecvFirstRow.holds Try.pinned (OpenSpec.ofChange drecvFirstWrong)

/-- 'ferrybridgelaw16.DrecvWindow': WHATEVER THE INPUT: true; the input reads as it did. -/
def drecvWindowSpec : ChangeSpec := { name := "drecvWindow", fn := fun _ => fun
  | [d] => { results := [.lit (.bool true)], args := [d] }
  | _ => none }
def drecvWindowRow : OpenClaim := { program := "ytnigfdldfmiaiaa", sum := "e9a3c43c4b34a6cb8d1e0fb11be2d70f24401685c82376db01b94f177b64b856", func := "ferrybridge/ferrybridgelaw16.DrecvWindow", spec := "drecvWindow", inPlace := ["slices.overlaps[ferrybridge/span.Run]"], unfollowed := true, recurses := true, apart := false }
def DrecvWindowSaid : Prop := drecvWindowRow.holds Try.pinned (OpenSpec.ofChange drecvWindowSpec)

/-- ITS FALSE NEIGHBOUR: 'it returns false'. Refute it at one input. -/
def drecvWindowWrong : ChangeSpec := { name := "drecvWindow", fn := fun _ => fun
  | [d] => { results := [.lit (.bool false)], args := [d] }
  | _ => none }
def DrecvWindowWrongFalsely : Prop := drecvWindowRow.holds Try.pinned (OpenSpec.ofChange drecvWindowWrong)

/-- 'ferrybridgelaw16.DrecvOrder': WHATEVER THE INPUT: true; the input reads as it did. -/
def drecvOrderSpec : ChangeSpec := { name := "drecvOrder", fn := fun _ => fun
  | [d1, d2, d3] => { results := [.lit (.bool true)], args := [d1, d2, d3] }
  | _ => none }
def drecvOrderRow : OpenClaim := { program := "ytnigfdldfmiaiaa", sum := "e9a3c43c4b34a6cb8d1e0fb11be2d70f24401685c82376db01b94f177b64b856", func := "ferrybridge/ferrybridgelaw16.DrecvOrder", spec := "drecvOrder", inPlace := ["slices.overlaps[ferrybridge/span.Run]"], unfollowed := true, recurses := true, apart := false }
def DrecvOrderSaid : Prop := drecvOrderRow.holds Try.pinned (OpenSpec.ofChange drecvOrderSpec)

/-- ITS FALSE NEIGHBOUR: 'it returns false'. Refute it at one input. -/
def drecvOrderWrong : ChangeSpec := { name := "drecvOrder", fn := fun _ => fun
  | [d1, d2, d3] => { results := [.lit (.bool false)], args := [d1, d2, d3] }
  | _ => none }
def DrecvOrderWrongFalsely : Prop := drecvOrderRow.holds Try.pinned (OpenSpec.ofChange drecvOrderWrong)

/-- 'ferrybridgelaw16.DrecvActs': WHATEVER THE INPUT: true; the input reads as it did. -/
def drecvActsSpec : ChangeSpec := { name := "drecvActs", fn := fun _ => fun
  | [d] => { results := [.lit (.bool true)], args := [d] }
  | _ => none }
def drecvActsRow : OpenClaim := { program := "ytnigfdldfmiaiaa", sum := "e9a3c43c4b34a6cb8d1e0fb11be2d70f24401685c82376db01b94f177b64b856", func := "ferrybridge/ferrybridgelaw16.DrecvActs", spec := "drecvActs", inPlace := ["slices.overlaps[ferrybridge/span.Run]"], unfollowed := true, recurses := true, apart := false }
def DrecvActsSaid : Prop := drecvActsRow.holds Try.pinned (OpenSpec.ofChange drecvActsSpec)

/-- ITS FALSE NEIGHBOUR: 'it returns false'. Refute it at one input. -/
def drecvActsWrong : ChangeSpec := { name := "drecvActs", fn := fun _ => fun
  | [d] => { results := [.lit (.bool false)], args := [d] }
  | _ => none }
def DrecvActsWrongFalsely : Prop := drecvActsRow.holds Try.pinned (OpenSpec.ofChange drecvActsWrong)

/-- 'ferrybridgelaw16.DrecvNil': WHATEVER THE INPUT: true; the input reads as it did. -/
def drecvNilSpec : ChangeSpec := { name := "drecvNil", fn := fun _ => fun
  | [d1, d2] => { results := [.lit (.bool true)], args := [d1, d2] }
  | _ => none }
def drecvNilRow : OpenClaim := { program := "ytnigfdldfmiaiaa", sum := "e9a3c43c4b34a6cb8d1e0fb11be2d70f24401685c82376db01b94f177b64b856", func := "ferrybridge/ferrybridgelaw16.DrecvNil", spec := "drecvNil", inPlace := ["slices.overlaps[ferrybridge/span.Run]"], unfollowed := true, recurses := true, apart := false }
def DrecvNilSaid : Prop := drecvNilRow.holds Try.pinned (OpenSpec.ofChange drecvNilSpec)

/-- ITS FALSE NEIGHBOUR: 'it returns false'. Refute it at one input. -/
def drecvNilWrong : ChangeSpec := { name := "drecvNil", fn := fun _ => fun
  | [d1, d2] => { results := [.lit (.bool false)], args := [d1, d2] }
  | _ => none }
def DrecvNilWrongFalsely : Prop := drecvNilRow.holds Try.pinned (OpenSpec.ofChange drecvNilWrong)

/-- 'ferrybridgelaw15.DsendAll': WHATEVER THE INPUT: true; the input reads as it did. -/
def dsendAllSpec : ChangeSpec := { name := "dsendAll", fn := fun _ => fun
  | [d1, d2, d3] => { results := [.lit (.bool true)], args := [d1, d2, d3] }
  | _ => none }
def dsendAllRow : OpenClaim := { program := "ytnigfdldfmiaiaa", sum := "e9a3c43c4b34a6cb8d1e0fb11be2d70f24401685c82376db01b94f177b64b856", func := "ferrybridge/ferrybridgelaw15.DsendAll", spec := "dsendAll", inPlace := ["slices.overlaps[ferrybridge/span.Run]"], unfollowed := true, recurses := true, apart := false }
def DsendAllSaid : Prop := dsendAllRow.holds Try.pinned (OpenSpec.ofChange dsendAllSpec)

/-- ITS FALSE NEIGHBOUR: 'it returns false'. Refute it at one input. -/
def dsendAllWrong : ChangeSpec := { name := "dsendAll", fn := fun _ => fun
  | [d1, d2, d3] => { results := [.lit (.bool false)], args := [d1, d2, d3] }
  | _ => none }
def DsendAllWrongFalsely : Prop := dsendAllRow.holds Try.pinned (OpenSpec.ofChange dsendAllWrong)

/-- 'ferrybridgelaw15.DsendWindow': WHATEVER THE INPUT: true; the input reads as it did. -/
def dsendWindowSpec : ChangeSpec := { name := "dsendWindow", fn := fun _ => fun
  | [d] => { results := [.lit (.bool true)], args := [d] }
  | _ => none }
def dsendWindowRow : OpenClaim := { program := "ytnigfdldfmiaiaa", sum := "e9a3c43c4b34a6cb8d1e0fb11be2d70f24401685c82376db01b94f177b64b856", func := "ferrybridge/ferrybridgelaw15.DsendWindow", spec := "dsendWindow", inPlace := ["slices.overlaps[ferrybridge/span.Run]"], unfollowed := true, recurses := true, apart := false }
def DsendWindowSaid : Prop := dsendWindowRow.holds Try.pinned (OpenSpec.ofChange dsendWindowSpec)

/-- ITS FALSE NEIGHBOUR: 'it returns false'. Refute it at one input. -/
def dsendWindowWrong : ChangeSpec := { name := "dsendWindow", fn := fun _ => fun
  | [d] => { results := [.lit (.bool false)], args := [d] }
  | _ => none }
def DsendWindowWrongFalsely : Prop := dsendWindowRow.holds Try.pinned (OpenSpec.ofChange dsendWindowWrong)

/-- 'ferrybridgelaw15.DsendEnd': WHATEVER THE INPUT: true; the input reads as it did. -/
def dsendEndSpec : ChangeSpec := { name := "dsendEnd", fn := fun _ => fun
  | [d1, d2] => { results := [.lit (.bool true)], args := [d1, d2] }
  | _ => none }
def dsendEndRow : OpenClaim := { program := "ytnigfdldfmiaiaa", sum := "e9a3c43c4b34a6cb8d1e0fb11be2d70f24401685c82376db01b94f177b64b856", func := "ferrybridge/ferrybridgelaw15.DsendEnd", spec := "dsendEnd", inPlace := ["slices.overlaps[ferrybridge/span.Run]"], unfollowed := true, recurses := true, apart := false }
def DsendEndSaid : Prop := dsendEndRow.holds Try.pinned (OpenSpec.ofChange dsendEndSpec)

/-- ITS FALSE NEIGHBOUR: 'it returns false'. Refute it at one input. -/
def dsendEndWrong : ChangeSpec := { name := "dsendEnd", fn := fun _ => fun
  | [d1, d2] => { results := [.lit (.bool false)], args := [d1, d2] }
  | _ => none }
def DsendEndWrongFalsely : Prop := dsendEndRow.holds Try.pinned (OpenSpec.ofChange dsendEndWrong)

/-- 'ferrybridgelaw15.DsendActs': WHATEVER THE INPUT: true; the input reads as it did. -/
def dsendActsSpec : ChangeSpec := { name := "dsendActs", fn := fun _ => fun
  | [d] => { results := [.lit (.bool true)], args := [d] }
  | _ => none }
def dsendActsRow : OpenClaim := { program := "ytnigfdldfmiaiaa", sum := "e9a3c43c4b34a6cb8d1e0fb11be2d70f24401685c82376db01b94f177b64b856", func := "ferrybridge/ferrybridgelaw15.DsendActs", spec := "dsendActs", inPlace := ["slices.overlaps[ferrybridge/span.Run]"], unfollowed := true, recurses := true, apart := false }
def DsendActsSaid : Prop := dsendActsRow.holds Try.pinned (OpenSpec.ofChange dsendActsSpec)

/-- ITS FALSE NEIGHBOUR: 'it returns false'. Refute it at one input. -/
def dsendActsWrong : ChangeSpec := { name := "dsendActs", fn := fun _ => fun
  | [d] => { results := [.lit (.bool false)], args := [d] }
  | _ => none }
def DsendActsWrongFalsely : Prop := dsendActsRow.holds Try.pinned (OpenSpec.ofChange dsendActsWrong)

/-- 'ferrybridgelaw15.DsendNil': WHATEVER THE INPUT: true; the input reads as it did. -/
def dsendNilSpec : ChangeSpec := { name := "dsendNil", fn := fun _ => fun
  | [d1, d2] => { results := [.lit (.bool true)], args := [d1, d2] }
  | _ => none }
def dsendNilRow : OpenClaim := { program := "ytnigfdldfmiaiaa", sum := "e9a3c43c4b34a6cb8d1e0fb11be2d70f24401685c82376db01b94f177b64b856", func := "ferrybridge/ferrybridgelaw15.DsendNil", spec := "dsendNil", inPlace := ["slices.overlaps[ferrybridge/span.Run]"], unfollowed := true, recurses := true, apart := false }
def DsendNilSaid : Prop := dsendNilRow.holds Try.pinned (OpenSpec.ofChange dsendNilSpec)

/-- ITS FALSE NEIGHBOUR: 'it returns false'. Refute it at one input. -/
def dsendNilWrong : ChangeSpec := { name := "dsendNil", fn := fun _ => fun
  | [d1, d2] => { results := [.lit (.bool false)], args := [d1, d2] }
  | _ => none }
def DsendNilWrongFalsely : Prop := dsendNilRow.holds Try.pinned (OpenSpec.ofChange dsendNilWrong)

/- THE SECOND FORM. 'bulk': how many values and letters a reading holds, each counted each time it is reached (what is shared counts as often as it is met; a slice's spare places count too). A statement '..UptoSaid' is the law's where the arguments, and the package variables that the reading takes, are together of bulk at most 1048576: NARROWER than '..Said'. Prove '..Said' where nothing that the law and all that it calls make is longer than what came in: it says more and counts as full. Else prove '..UptoSaid'. A law counts once. -/
mutual
def uptoBulk {H : Type} : DataW H → Nat
  | .lit (.string bytes) => bytes.length + 1
  | .lit _ => 1
  | .nil => 1
  | .ptr d => uptoBulk d + 1
  | .slice elems spare => uptoBulkAll elems + uptoBulkAll spare + 1
  | .agg parts => uptoBulkAll parts + 1
  | .iface _ d => uptoBulk d + 1
  | .map entries => uptoBulkEntries entries + 1
  | .held _ => 1
def uptoBulkAll {H : Type} : List (DataW H) → Nat
  | [] => 0
  | d :: r => uptoBulk d + uptoBulkAll r
def uptoBulkEntries {H : Type} : List (Lit × DataW H) → Nat
  | [] => 0
  | x :: r => uptoBulkEntry x + uptoBulkEntries r
def uptoBulkEntry {H : Type} : Lit × DataW H → Nat
  | (.string bytes, d) => bytes.length + uptoBulk d + 1
  | (_, d) => uptoBulk d + 1
 end
def uptoSmall : (H : Type) → List (DataW H) → Bool := fun _ ds => decide (uptoBulkAll ds ≤ 1048576)
def OpenSpec.upto (s : _root_.Go.ChangeSpec) : _root_.Go.OpenSpec := { _root_.Go.OpenSpec.ofChange s with cond := some uptoSmall }

/-- 'ferrybridgelaw11.SpanOrder', WHERE WHAT IT READS IS OF BULK AT MOST 1048576: true; the input reads as it did. -/
def spanOrderUptoRow : OpenClaim := { program := "ytnigfdldfmiaiaa", sum := "e9a3c43c4b34a6cb8d1e0fb11be2d70f24401685c82376db01b94f177b64b856", func := "ferrybridge/ferrybridgelaw11.SpanOrder", spec := "spanOrder", inPlace := ["slices.overlaps[ferrybridge/span.Run]"], unfollowed := true, recurses := true, apart := false, narrowed := true }
def SpanOrderUptoSaid : Prop := spanOrderUptoRow.holds Try.pinned (OpenSpec.upto spanOrderSpec)

/-- 'ferrybridgelaw11.SpanDrops', WHERE WHAT IT READS IS OF BULK AT MOST 1048576: true; the input reads as it did. -/
def spanDropsUptoRow : OpenClaim := { program := "ytnigfdldfmiaiaa", sum := "e9a3c43c4b34a6cb8d1e0fb11be2d70f24401685c82376db01b94f177b64b856", func := "ferrybridge/ferrybridgelaw11.SpanDrops", spec := "spanDrops", inPlace := ["slices.overlaps[ferrybridge/span.Run]"], unfollowed := true, recurses := true, apart := false, narrowed := true }
def SpanDropsUptoSaid : Prop := spanDropsUptoRow.holds Try.pinned (OpenSpec.upto spanDropsSpec)

/-- 'ferrybridgelaw11.SpanActs', WHERE WHAT IT READS IS OF BULK AT MOST 1048576: true; the input reads as it did. -/
def spanActsUptoRow : OpenClaim := { program := "ytnigfdldfmiaiaa", sum := "e9a3c43c4b34a6cb8d1e0fb11be2d70f24401685c82376db01b94f177b64b856", func := "ferrybridge/ferrybridgelaw11.SpanActs", spec := "spanActs", inPlace := ["slices.overlaps[ferrybridge/span.Run]"], unfollowed := true, recurses := true, apart := false, narrowed := true }
def SpanActsUptoSaid : Prop := spanActsUptoRow.holds Try.pinned (OpenSpec.upto spanActsSpec)

/-- 'ferrybridgelaw11.SpanAny', WHERE WHAT IT READS IS OF BULK AT MOST 1048576: true; the input reads as it did. -/
def spanAnyUptoRow : OpenClaim := { program := "ytnigfdldfmiaiaa", sum := "e9a3c43c4b34a6cb8d1e0fb11be2d70f24401685c82376db01b94f177b64b856", func := "ferrybridge/ferrybridgelaw11.SpanAny", spec := "spanAny", inPlace := ["slices.overlaps[ferrybridge/span.Run]"], unfollowed := true, recurses := true, apart := false, narrowed := true }
def SpanAnyUptoSaid : Prop := spanAnyUptoRow.holds Try.pinned (OpenSpec.upto spanAnySpec)

/-- 'ferrybridgelaw11.SpanNil', WHERE WHAT IT READS IS OF BULK AT MOST 1048576: true; the input reads as it did. -/
def spanNilUptoRow : OpenClaim := { program := "ytnigfdldfmiaiaa", sum := "e9a3c43c4b34a6cb8d1e0fb11be2d70f24401685c82376db01b94f177b64b856", func := "ferrybridge/ferrybridgelaw11.SpanNil", spec := "spanNil", inPlace := ["slices.overlaps[ferrybridge/span.Run]"], unfollowed := true, recurses := true, apart := false, narrowed := true }
def SpanNilUptoSaid : Prop := spanNilUptoRow.holds Try.pinned (OpenSpec.upto spanNilSpec)

/-- 'ferrybridgelaw16.DrecvFirst', WHERE WHAT IT READS IS OF BULK AT MOST 1048576: true; the input reads as it did. -/
def drecvFirstUptoRow : OpenClaim := { program := "ytnigfdldfmiaiaa", sum := "e9a3c43c4b34a6cb8d1e0fb11be2d70f24401685c82376db01b94f177b64b856", func := "ferrybridge/ferrybridgelaw16.DrecvFirst", spec := "drecvFirst", inPlace := ["slices.overlaps[ferrybridge/span.Run]"], unfollowed := true, recurses := true, apart := false, narrowed := true }
def DrecvFirstUptoSaid : Prop := drecvFirstUptoRow.holds Try.pinned (OpenSpec.upto drecvFirstSpec)

/-- 'ferrybridgelaw16.DrecvWindow', WHERE WHAT IT READS IS OF BULK AT MOST 1048576: true; the input reads as it did. -/
def drecvWindowUptoRow : OpenClaim := { program := "ytnigfdldfmiaiaa", sum := "e9a3c43c4b34a6cb8d1e0fb11be2d70f24401685c82376db01b94f177b64b856", func := "ferrybridge/ferrybridgelaw16.DrecvWindow", spec := "drecvWindow", inPlace := ["slices.overlaps[ferrybridge/span.Run]"], unfollowed := true, recurses := true, apart := false, narrowed := true }
def DrecvWindowUptoSaid : Prop := drecvWindowUptoRow.holds Try.pinned (OpenSpec.upto drecvWindowSpec)

/-- 'ferrybridgelaw16.DrecvOrder', WHERE WHAT IT READS IS OF BULK AT MOST 1048576: true; the input reads as it did. -/
def drecvOrderUptoRow : OpenClaim := { program := "ytnigfdldfmiaiaa", sum := "e9a3c43c4b34a6cb8d1e0fb11be2d70f24401685c82376db01b94f177b64b856", func := "ferrybridge/ferrybridgelaw16.DrecvOrder", spec := "drecvOrder", inPlace := ["slices.overlaps[ferrybridge/span.Run]"], unfollowed := true, recurses := true, apart := false, narrowed := true }
def DrecvOrderUptoSaid : Prop := drecvOrderUptoRow.holds Try.pinned (OpenSpec.upto drecvOrderSpec)

/-- 'ferrybridgelaw16.DrecvActs', WHERE WHAT IT READS IS OF BULK AT MOST 1048576: true; the input reads as it did. -/
def drecvActsUptoRow : OpenClaim := { program := "ytnigfdldfmiaiaa", sum := "e9a3c43c4b34a6cb8d1e0fb11be2d70f24401685c82376db01b94f177b64b856", func := "ferrybridge/ferrybridgelaw16.DrecvActs", spec := "drecvActs", inPlace := ["slices.overlaps[ferrybridge/span.Run]"], unfollowed := true, recurses := true, apart := false, narrowed := true }
def DrecvActsUptoSaid : Prop := drecvActsUptoRow.holds Try.pinned (OpenSpec.upto drecvActsSpec)

/-- 'ferrybridgelaw16.DrecvNil', WHERE WHAT IT READS IS OF BULK AT MOST 1048576: true; the input reads as it did. -/
def drecvNilUptoRow : OpenClaim := { program := "ytnigfdldfmiaiaa", sum := "e9a3c43c4b34a6cb8d1e0fb11be2d70f24401685c82376db01b94f177b64b856", func := "ferrybridge/ferrybridgelaw16.DrecvNil", spec := "drecvNil", inPlace := ["slices.overlaps[ferrybridge/span.Run]"], unfollowed := true, recurses := true, apart := false, narrowed := true }
def DrecvNilUptoSaid : Prop := drecvNilUptoRow.holds Try.pinned (OpenSpec.upto drecvNilSpec)

/-- 'ferrybridgelaw15.DsendAll', WHERE WHAT IT READS IS OF BULK AT MOST 1048576: true; the input reads as it did. -/
def dsendAllUptoRow : OpenClaim := { program := "ytnigfdldfmiaiaa", sum := "e9a3c43c4b34a6cb8d1e0fb11be2d70f24401685c82376db01b94f177b64b856", func := "ferrybridge/ferrybridgelaw15.DsendAll", spec := "dsendAll", inPlace := ["slices.overlaps[ferrybridge/span.Run]"], unfollowed := true, recurses := true, apart := false, narrowed := true }
def DsendAllUptoSaid : Prop := dsendAllUptoRow.holds Try.pinned (OpenSpec.upto dsendAllSpec)

/-- 'ferrybridgelaw15.DsendWindow', WHERE WHAT IT READS IS OF BULK AT MOST 1048576: true; the input reads as it did. -/
def dsendWindowUptoRow : OpenClaim := { program := "ytnigfdldfmiaiaa", sum := "e9a3c43c4b34a6cb8d1e0fb11be2d70f24401685c82376db01b94f177b64b856", func := "ferrybridge/ferrybridgelaw15.DsendWindow", spec := "dsendWindow", inPlace := ["slices.overlaps[ferrybridge/span.Run]"], unfollowed := true, recurses := true, apart := false, narrowed := true }
def DsendWindowUptoSaid : Prop := dsendWindowUptoRow.holds Try.pinned (OpenSpec.upto dsendWindowSpec)

/-- 'ferrybridgelaw15.DsendEnd', WHERE WHAT IT READS IS OF BULK AT MOST 1048576: true; the input reads as it did. -/
def dsendEndUptoRow : OpenClaim := { program := "ytnigfdldfmiaiaa", sum := "e9a3c43c4b34a6cb8d1e0fb11be2d70f24401685c82376db01b94f177b64b856", func := "ferrybridge/ferrybridgelaw15.DsendEnd", spec := "dsendEnd", inPlace := ["slices.overlaps[ferrybridge/span.Run]"], unfollowed := true, recurses := true, apart := false, narrowed := true }
def DsendEndUptoSaid : Prop := dsendEndUptoRow.holds Try.pinned (OpenSpec.upto dsendEndSpec)

/-- 'ferrybridgelaw15.DsendActs', WHERE WHAT IT READS IS OF BULK AT MOST 1048576: true; the input reads as it did. -/
def dsendActsUptoRow : OpenClaim := { program := "ytnigfdldfmiaiaa", sum := "e9a3c43c4b34a6cb8d1e0fb11be2d70f24401685c82376db01b94f177b64b856", func := "ferrybridge/ferrybridgelaw15.DsendActs", spec := "dsendActs", inPlace := ["slices.overlaps[ferrybridge/span.Run]"], unfollowed := true, recurses := true, apart := false, narrowed := true }
def DsendActsUptoSaid : Prop := dsendActsUptoRow.holds Try.pinned (OpenSpec.upto dsendActsSpec)

/-- 'ferrybridgelaw15.DsendNil', WHERE WHAT IT READS IS OF BULK AT MOST 1048576: true; the input reads as it did. -/
def dsendNilUptoRow : OpenClaim := { program := "ytnigfdldfmiaiaa", sum := "e9a3c43c4b34a6cb8d1e0fb11be2d70f24401685c82376db01b94f177b64b856", func := "ferrybridge/ferrybridgelaw15.DsendNil", spec := "dsendNil", inPlace := ["slices.overlaps[ferrybridge/span.Run]"], unfollowed := true, recurses := true, apart := false, narrowed := true }
def DsendNilUptoSaid : Prop := dsendNilUptoRow.holds Try.pinned (OpenSpec.upto dsendNilSpec)

end Rows
end Go.Proofs.Ytnigfdldfmiaiaa
