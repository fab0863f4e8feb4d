/-
  No cell of these rows narrows 'for every input' (looked for: loops, veiled, ifaces, maps, wideKeys, modest, calm, conditions, laid).
  DERIVED. THE GIVEN ROWS OF THIS SEAT. 14 by the template 'for every input the law returns true; each argument reads behind the call as it read before'; 0 by the template 'total and deterministic' (their statements: YtjldgialhgfhmaaTotals.lean).
  GIVEN WITH THE SEED: the statements are not yours to turn. If you find one false, say at which input.
  Laid BY PROGRAM, IN A SANDBOX (cutbox-rows.mjs): the forced cells as the released guide's own fill.sh prints them over the translation eb044d5ee7c23190… (all of the seat's roots in one cut). By AI agents, Wed Nov 11 2026. No macro, syntax, notation, axiom, sorry.
-/
import Derived.Test.YtjldgialhgfhmaaChecked
import GoSem.Claim
import GoSem.ClaimJoined
import GoSem.ClaimMapViews
import Derived.JoinedTies
import Derived.KernelRfl
namespace Go.Proofs.Ytjldgialhgfhmaa
/- THE CELL 'sum', in the pinned program and in every row, IS THE sha256 OF THE DUMP (.gsa) THAT YtjldgialhgfhmaaProg.lean LOADS. Nothing in Lean hashes anything: it is a label: what it is worth is what the hold of that sum in a sandbox is worth. -/
noncomputable def Try.pinned : Pinned := { name := "ytjldgialhgfhmaa", sum := "eb044d5ee7c2319005eccc7455cb3f5cfeea96fa606d40476b1d7f7b094d7bc4", checked := Try.checked }
namespace Rows
def none {H : Type} : Left H := { results := [], args := [] }

/-- 'ferrybridgelaw12.RttSame': WHATEVER THE INPUT: true; the input reads as it did. -/
def rttSameSpec : ChangeSpec := { name := "rttSame", fn := fun _ => fun
  | [d1, d2] => { results := [.lit (.bool true)], args := [d1, d2] }
  | _ => none }
def rttSameRow : OpenClaim := { program := "ytjldgialhgfhmaa", sum := "eb044d5ee7c2319005eccc7455cb3f5cfeea96fa606d40476b1d7f7b094d7bc4", func := "ferrybridge/ferrybridgelaw12.RttSame", spec := "rttSame", unfollowed := true, recurses := true, apart := false }
def RttSameSaid : Prop := rttSameRow.holds Try.pinned (OpenSpec.ofChange rttSameSpec)

/-- ITS FALSE NEIGHBOUR: 'it returns false'. Refute it at one input. -/
def rttSameWrong : ChangeSpec := { name := "rttSame", fn := fun _ => fun
  | [d1, d2] => { results := [.lit (.bool false)], args := [d1, d2] }
  | _ => none }
def RttSameWrongFalsely : Prop := rttSameRow.holds Try.pinned (OpenSpec.ofChange rttSameWrong)

/-- 'ferrybridgelaw12.RttOrder': WHATEVER THE INPUT: true; the input reads as it did. -/
def rttOrderSpec : ChangeSpec := { name := "rttOrder", fn := fun _ => fun
  | [d1, d2] => { results := [.lit (.bool true)], args := [d1, d2] }
  | _ => none }
def rttOrderRow : OpenClaim := { program := "ytjldgialhgfhmaa", sum := "eb044d5ee7c2319005eccc7455cb3f5cfeea96fa606d40476b1d7f7b094d7bc4", func := "ferrybridge/ferrybridgelaw12.RttOrder", spec := "rttOrder", unfollowed := true, recurses := true, apart := false }
def RttOrderSaid : Prop := rttOrderRow.holds Try.pinned (OpenSpec.ofChange rttOrderSpec)

/-- ITS FALSE NEIGHBOUR: 'it returns false'. Refute it at one input. -/
def rttOrderWrong : ChangeSpec := { name := "rttOrder", fn := fun _ => fun
  | [d1, d2] => { results := [.lit (.bool false)], args := [d1, d2] }
  | _ => none }
def RttOrderWrongFalsely : Prop := rttOrderRow.holds Try.pinned (OpenSpec.ofChange rttOrderWrong)

/-- 'ferrybridgelaw12.RttBounds': WHATEVER THE INPUT: true; the input reads as it did. -/
def rttBoundsSpec : ChangeSpec := { name := "rttBounds", fn := fun _ => fun
  | [d1, d2] => { results := [.lit (.bool true)], args := [d1, d2] }
  | _ => none }
def rttBoundsRow : OpenClaim := { program := "ytjldgialhgfhmaa", sum := "eb044d5ee7c2319005eccc7455cb3f5cfeea96fa606d40476b1d7f7b094d7bc4", func := "ferrybridge/ferrybridgelaw12.RttBounds", spec := "rttBounds", unfollowed := true, recurses := true, apart := false }
def RttBoundsSaid : Prop := rttBoundsRow.holds Try.pinned (OpenSpec.ofChange rttBoundsSpec)

/-- ITS FALSE NEIGHBOUR: 'it returns false'. Refute it at one input. -/
def rttBoundsWrong : ChangeSpec := { name := "rttBounds", fn := fun _ => fun
  | [d1, d2] => { results := [.lit (.bool false)], args := [d1, d2] }
  | _ => none }
def RttBoundsWrongFalsely : Prop := rttBoundsRow.holds Try.pinned (OpenSpec.ofChange rttBoundsWrong)

/-- 'ferrybridgelaw12.RttActs': WHATEVER THE INPUT: true; the input reads as it did. -/
def rttActsSpec : ChangeSpec := { name := "rttActs", fn := fun _ => fun
  | [d] => { results := [.lit (.bool true)], args := [d] }
  | _ => none }
def rttActsRow : OpenClaim := { program := "ytjldgialhgfhmaa", sum := "eb044d5ee7c2319005eccc7455cb3f5cfeea96fa606d40476b1d7f7b094d7bc4", func := "ferrybridge/ferrybridgelaw12.RttActs", spec := "rttActs", unfollowed := true, recurses := true, apart := false }
def RttActsSaid : Prop := rttActsRow.holds Try.pinned (OpenSpec.ofChange rttActsSpec)

/-- ITS FALSE NEIGHBOUR: 'it returns false'. Refute it at one input. -/
def rttActsWrong : ChangeSpec := { name := "rttActs", fn := fun _ => fun
  | [d] => { results := [.lit (.bool false)], args := [d] }
  | _ => none }
def RttActsWrongFalsely : Prop := rttActsRow.holds Try.pinned (OpenSpec.ofChange rttActsWrong)

/-- 'ferrybridgelaw12.RttNil': WHATEVER THE INPUT: true; the input reads as it did. -/
def rttNilSpec : ChangeSpec := { name := "rttNil", fn := fun _ => fun
  | [d] => { results := [.lit (.bool true)], args := [d] }
  | _ => none }
def rttNilRow : OpenClaim := { program := "ytjldgialhgfhmaa", sum := "eb044d5ee7c2319005eccc7455cb3f5cfeea96fa606d40476b1d7f7b094d7bc4", func := "ferrybridge/ferrybridgelaw12.RttNil", spec := "rttNil", unfollowed := true, recurses := true, apart := false }
def RttNilSaid : Prop := rttNilRow.holds Try.pinned (OpenSpec.ofChange rttNilSpec)

/-- ITS FALSE NEIGHBOUR: 'it returns false'. Refute it at one input. -/
def rttNilWrong : ChangeSpec := { name := "rttNil", fn := fun _ => fun
  | [d] => { results := [.lit (.bool false)], args := [d] }
  | _ => none }
def RttNilWrongFalsely : Prop := rttNilRow.holds Try.pinned (OpenSpec.ofChange rttNilWrong)

/-- 'ferrybridgelaw13.OutqAll': WHATEVER THE INPUT: true; the input reads as it did. -/
def outqAllSpec : ChangeSpec := { name := "outqAll", fn := fun _ => fun
  | [d1, d2, d3] => { results := [.lit (.bool true)], args := [d1, d2, d3] }
  | _ => none }
def outqAllRow : OpenClaim := { program := "ytjldgialhgfhmaa", sum := "eb044d5ee7c2319005eccc7455cb3f5cfeea96fa606d40476b1d7f7b094d7bc4", func := "ferrybridge/ferrybridgelaw13.OutqAll", spec := "outqAll", apart := false }
def OutqAllSaid : Prop := outqAllRow.holds Try.pinned (OpenSpec.ofChange outqAllSpec)

/-- ITS FALSE NEIGHBOUR: 'it returns false'. Refute it at one input. -/
def outqAllWrong : ChangeSpec := { name := "outqAll", fn := fun _ => fun
  | [d1, d2, d3] => { results := [.lit (.bool false)], args := [d1, d2, d3] }
  | _ => none }
def OutqAllWrongFalsely : Prop := outqAllRow.holds Try.pinned (OpenSpec.ofChange outqAllWrong)

/-- 'ferrybridgelaw13.OutqParts': WHATEVER THE INPUT: true; the input reads as it did. -/
def outqPartsSpec : ChangeSpec := { name := "outqParts", fn := fun _ => fun
  | [d1, d2, d3] => { results := [.lit (.bool true)], args := [d1, d2, d3] }
  | _ => none }
def outqPartsRow : OpenClaim := { program := "ytjldgialhgfhmaa", sum := "eb044d5ee7c2319005eccc7455cb3f5cfeea96fa606d40476b1d7f7b094d7bc4", func := "ferrybridge/ferrybridgelaw13.OutqParts", spec := "outqParts", apart := false }
def OutqPartsSaid : Prop := outqPartsRow.holds Try.pinned (OpenSpec.ofChange outqPartsSpec)

/-- ITS FALSE NEIGHBOUR: 'it returns false'. Refute it at one input. -/
def outqPartsWrong : ChangeSpec := { name := "outqParts", fn := fun _ => fun
  | [d1, d2, d3] => { results := [.lit (.bool false)], args := [d1, d2, d3] }
  | _ => none }
def OutqPartsWrongFalsely : Prop := outqPartsRow.holds Try.pinned (OpenSpec.ofChange outqPartsWrong)

/-- 'ferrybridgelaw13.OutqActs': WHATEVER THE INPUT: true; the input reads as it did. -/
def outqActsSpec : ChangeSpec := { name := "outqActs", fn := fun _ => fun
  | [d1, d2] => { results := [.lit (.bool true)], args := [d1, d2] }
  | _ => none }
def outqActsRow : OpenClaim := { program := "ytjldgialhgfhmaa", sum := "eb044d5ee7c2319005eccc7455cb3f5cfeea96fa606d40476b1d7f7b094d7bc4", func := "ferrybridge/ferrybridgelaw13.OutqActs", spec := "outqActs", apart := false }
def OutqActsSaid : Prop := outqActsRow.holds Try.pinned (OpenSpec.ofChange outqActsSpec)

/-- ITS FALSE NEIGHBOUR: 'it returns false'. Refute it at one input. -/
def outqActsWrong : ChangeSpec := { name := "outqActs", fn := fun _ => fun
  | [d1, d2] => { results := [.lit (.bool false)], args := [d1, d2] }
  | _ => none }
def OutqActsWrongFalsely : Prop := outqActsRow.holds Try.pinned (OpenSpec.ofChange outqActsWrong)

/-- 'ferrybridgelaw13.OutqNil': WHATEVER THE INPUT: true; the input reads as it did. -/
def outqNilSpec : ChangeSpec := { name := "outqNil", fn := fun _ => fun
  | [d1, d2] => { results := [.lit (.bool true)], args := [d1, d2] }
  | _ => none }
def outqNilRow : OpenClaim := { program := "ytjldgialhgfhmaa", sum := "eb044d5ee7c2319005eccc7455cb3f5cfeea96fa606d40476b1d7f7b094d7bc4", func := "ferrybridge/ferrybridgelaw13.OutqNil", spec := "outqNil", apart := false }
def OutqNilSaid : Prop := outqNilRow.holds Try.pinned (OpenSpec.ofChange outqNilSpec)

/-- ITS FALSE NEIGHBOUR: 'it returns false'. Refute it at one input. -/
def outqNilWrong : ChangeSpec := { name := "outqNil", fn := fun _ => fun
  | [d1, d2] => { results := [.lit (.bool false)], args := [d1, d2] }
  | _ => none }
def OutqNilWrongFalsely : Prop := outqNilRow.holds Try.pinned (OpenSpec.ofChange outqNilWrong)

/-- 'ferrybridgelaw14.FlowPair': WHATEVER THE INPUT: true; the input reads as it did. -/
def flowPairSpec : ChangeSpec := { name := "flowPair", fn := fun _ => fun
  | [d1, d2] => { results := [.lit (.bool true)], args := [d1, d2] }
  | _ => none }
def flowPairRow : OpenClaim := { program := "ytjldgialhgfhmaa", sum := "eb044d5ee7c2319005eccc7455cb3f5cfeea96fa606d40476b1d7f7b094d7bc4", func := "ferrybridge/ferrybridgelaw14.FlowPair", spec := "flowPair", unfollowed := true, recurses := true, apart := false }
def FlowPairSaid : Prop := flowPairRow.holds Try.pinned (OpenSpec.ofChange flowPairSpec)

/-- ITS FALSE NEIGHBOUR: 'it returns false'. Refute it at one input. -/
def flowPairWrong : ChangeSpec := { name := "flowPair", fn := fun _ => fun
  | [d1, d2] => { results := [.lit (.bool false)], args := [d1, d2] }
  | _ => none }
def FlowPairWrongFalsely : Prop := flowPairRow.holds Try.pinned (OpenSpec.ofChange flowPairWrong)

/-- 'ferrybridgelaw14.FlowCloses': WHATEVER THE INPUT: true; the input reads as it did. -/
def flowClosesSpec : ChangeSpec := { name := "flowCloses", fn := fun _ => fun
  | [d1, d2, d3] => { results := [.lit (.bool true)], args := [d1, d2, d3] }
  | _ => none }
def flowClosesRow : OpenClaim := { program := "ytjldgialhgfhmaa", sum := "eb044d5ee7c2319005eccc7455cb3f5cfeea96fa606d40476b1d7f7b094d7bc4", func := "ferrybridge/ferrybridgelaw14.FlowCloses", spec := "flowCloses", unfollowed := true, recurses := true, apart := false }
def FlowClosesSaid : Prop := flowClosesRow.holds Try.pinned (OpenSpec.ofChange flowClosesSpec)

/-- ITS FALSE NEIGHBOUR: 'it returns false'. Refute it at one input. -/
def flowClosesWrong : ChangeSpec := { name := "flowCloses", fn := fun _ => fun
  | [d1, d2, d3] => { results := [.lit (.bool false)], args := [d1, d2, d3] }
  | _ => none }
def FlowClosesWrongFalsely : Prop := flowClosesRow.holds Try.pinned (OpenSpec.ofChange flowClosesWrong)

/-- 'ferrybridgelaw14.FlowEnds': WHATEVER THE INPUT: true; the input reads as it did. -/
def flowEndsSpec : ChangeSpec := { name := "flowEnds", fn := fun _ => fun
  | [d1, d2, d3] => { results := [.lit (.bool true)], args := [d1, d2, d3] }
  | _ => none }
def flowEndsRow : OpenClaim := { program := "ytjldgialhgfhmaa", sum := "eb044d5ee7c2319005eccc7455cb3f5cfeea96fa606d40476b1d7f7b094d7bc4", func := "ferrybridge/ferrybridgelaw14.FlowEnds", spec := "flowEnds", unfollowed := true, recurses := true, apart := false }
def FlowEndsSaid : Prop := flowEndsRow.holds Try.pinned (OpenSpec.ofChange flowEndsSpec)

/-- ITS FALSE NEIGHBOUR: 'it returns false'. Refute it at one input. -/
def flowEndsWrong : ChangeSpec := { name := "flowEnds", fn := fun _ => fun
  | [d1, d2, d3] => { results := [.lit (.bool false)], args := [d1, d2, d3] }
  | _ => none }
def FlowEndsWrongFalsely : Prop := flowEndsRow.holds Try.pinned (OpenSpec.ofChange flowEndsWrong)

/-- 'ferrybridgelaw14.FlowOver': WHATEVER THE INPUT: true; the input reads as it did. -/
def flowOverSpec : ChangeSpec := { name := "flowOver", fn := fun _ => fun
  | [d1, d2, d3] => { results := [.lit (.bool true)], args := [d1, d2, d3] }
  | _ => none }
def flowOverRow : OpenClaim := { program := "ytjldgialhgfhmaa", sum := "eb044d5ee7c2319005eccc7455cb3f5cfeea96fa606d40476b1d7f7b094d7bc4", func := "ferrybridge/ferrybridgelaw14.FlowOver", spec := "flowOver", unfollowed := true, recurses := true, apart := false }
def FlowOverSaid : Prop := flowOverRow.holds Try.pinned (OpenSpec.ofChange flowOverSpec)

/-- ITS FALSE NEIGHBOUR: 'it returns false'. Refute it at one input. -/
def flowOverWrong : ChangeSpec := { name := "flowOver", fn := fun _ => fun
  | [d1, d2, d3] => { results := [.lit (.bool false)], args := [d1, d2, d3] }
  | _ => none }
def FlowOverWrongFalsely : Prop := flowOverRow.holds Try.pinned (OpenSpec.ofChange flowOverWrong)

/-- 'ferrybridgelaw14.FlowNil': WHATEVER THE INPUT: true; the input reads as it did. -/
def flowNilSpec : ChangeSpec := { name := "flowNil", fn := fun _ => fun
  | [d1, d2] => { results := [.lit (.bool true)], args := [d1, d2] }
  | _ => none }
def flowNilRow : OpenClaim := { program := "ytjldgialhgfhmaa", sum := "eb044d5ee7c2319005eccc7455cb3f5cfeea96fa606d40476b1d7f7b094d7bc4", func := "ferrybridge/ferrybridgelaw14.FlowNil", spec := "flowNil", unfollowed := true, recurses := true, apart := false }
def FlowNilSaid : Prop := flowNilRow.holds Try.pinned (OpenSpec.ofChange flowNilSpec)

/-- ITS FALSE NEIGHBOUR: 'it returns false'. Refute it at one input. -/
def flowNilWrong : ChangeSpec := { name := "flowNil", fn := fun _ => fun
  | [d1, d2] => { results := [.lit (.bool false)], args := [d1, d2] }
  | _ => none }
def FlowNilWrongFalsely : Prop := flowNilRow.holds Try.pinned (OpenSpec.ofChange flowNilWrong)

/- THE SECOND FORM. 'bulk': how many values and letters a reading holds, each counted each time it is reached (what is shared counts as often as it is met; a slice's spare places count too). A statement '..UptoSaid' is the law's where the arguments, and the package variables that the reading takes, are together of bulk at most 1048576: NARROWER than '..Said'. Prove '..Said' where nothing that the law and all that it calls make is longer than what came in: it says more and counts as full. Else prove '..UptoSaid'. A law counts once. -/
mutual
def uptoBulk {H : Type} : DataW H → Nat
  | .lit (.string bytes) => bytes.length + 1
  | .lit _ => 1
  | .nil => 1
  | .ptr d => uptoBulk d + 1
  | .slice elems spare => uptoBulkAll elems + uptoBulkAll spare + 1
  | .agg parts => uptoBulkAll parts + 1
  | .iface _ d => uptoBulk d + 1
  | .map entries => uptoBulkEntries entries + 1
  | .held _ => 1
def uptoBulkAll {H : Type} : List (DataW H) → Nat
  | [] => 0
  | d :: r => uptoBulk d + uptoBulkAll r
def uptoBulkEntries {H : Type} : List (Lit × DataW H) → Nat
  | [] => 0
  | x :: r => uptoBulkEntry x + uptoBulkEntries r
def uptoBulkEntry {H : Type} : Lit × DataW H → Nat
  | (.string bytes, d) => bytes.length + uptoBulk d + 1
  | (_, d) => uptoBulk d + 1
 end
def uptoSmall : (H : Type) → List (DataW H) → Bool := fun _ ds => decide (uptoBulkAll ds ≤ 1048576)
def OpenSpec.upto (s : _root_.Go.ChangeSpec) : _root_.Go.OpenSpec := { _root_.Go.OpenSpec.ofChange s with cond := some uptoSmall }

/-- 'ferrybridgelaw12.RttSame', WHERE WHAT IT READS IS OF BULK AT MOST 1048576: true; the input reads as it did. -/
def rttSameUptoRow : OpenClaim := { program := "ytjldgialhgfhmaa", sum := "eb044d5ee7c2319005eccc7455cb3f5cfeea96fa606d40476b1d7f7b094d7bc4", func := "ferrybridge/ferrybridgelaw12.RttSame", spec := "rttSame", unfollowed := true, recurses := true, apart := false, narrowed := true }
def RttSameUptoSaid : Prop := rttSameUptoRow.holds Try.pinned (OpenSpec.upto rttSameSpec)

/-- 'ferrybridgelaw12.RttOrder', WHERE WHAT IT READS IS OF BULK AT MOST 1048576: true; the input reads as it did. -/
def rttOrderUptoRow : OpenClaim := { program := "ytjldgialhgfhmaa", sum := "eb044d5ee7c2319005eccc7455cb3f5cfeea96fa606d40476b1d7f7b094d7bc4", func := "ferrybridge/ferrybridgelaw12.RttOrder", spec := "rttOrder", unfollowed := true, recurses := true, apart := false, narrowed := true }
def RttOrderUptoSaid : Prop := rttOrderUptoRow.holds Try.pinned (OpenSpec.upto rttOrderSpec)

/-- 'ferrybridgelaw12.RttBounds', WHERE WHAT IT READS IS OF BULK AT MOST 1048576: true; the input reads as it did. -/
def rttBoundsUptoRow : OpenClaim := { program := "ytjldgialhgfhmaa", sum := "eb044d5ee7c2319005eccc7455cb3f5cfeea96fa606d40476b1d7f7b094d7bc4", func := "ferrybridge/ferrybridgelaw12.RttBounds", spec := "rttBounds", unfollowed := true, recurses := true, apart := false, narrowed := true }
def RttBoundsUptoSaid : Prop := rttBoundsUptoRow.holds Try.pinned (OpenSpec.upto rttBoundsSpec)

/-- 'ferrybridgelaw12.RttActs', WHERE WHAT IT READS IS OF BULK AT MOST 1048576: true; the input reads as it did. -/
def rttActsUptoRow : OpenClaim := { program := "ytjldgialhgfhmaa", sum := "eb044d5ee7c2319005eccc7455cb3f5cfeea96fa606d40476b1d7f7b094d7bc4", func := "ferrybridge/ferrybridgelaw12.RttActs", spec := "rttActs", unfollowed := true, recurses := true, apart := false, narrowed := true }
def RttActsUptoSaid : Prop := rttActsUptoRow.holds Try.pinned (OpenSpec.upto rttActsSpec)

/-- 'ferrybridgelaw12.RttNil', WHERE WHAT IT READS IS OF BULK AT MOST 1048576: true; the input reads as it did. -/
def rttNilUptoRow : OpenClaim := { program := "ytjldgialhgfhmaa", sum := "eb044d5ee7c2319005eccc7455cb3f5cfeea96fa606d40476b1d7f7b094d7bc4", func := "ferrybridge/ferrybridgelaw12.RttNil", spec := "rttNil", unfollowed := true, recurses := true, apart := false, narrowed := true }
def RttNilUptoSaid : Prop := rttNilUptoRow.holds Try.pinned (OpenSpec.upto rttNilSpec)

/-- 'ferrybridgelaw13.OutqAll', WHERE WHAT IT READS IS OF BULK AT MOST 1048576: true; the input reads as it did. -/
def outqAllUptoRow : OpenClaim := { program := "ytjldgialhgfhmaa", sum := "eb044d5ee7c2319005eccc7455cb3f5cfeea96fa606d40476b1d7f7b094d7bc4", func := "ferrybridge/ferrybridgelaw13.OutqAll", spec := "outqAll", apart := false, narrowed := true }
def OutqAllUptoSaid : Prop := outqAllUptoRow.holds Try.pinned (OpenSpec.upto outqAllSpec)

/-- 'ferrybridgelaw13.OutqParts', WHERE WHAT IT READS IS OF BULK AT MOST 1048576: true; the input reads as it did. -/
def outqPartsUptoRow : OpenClaim := { program := "ytjldgialhgfhmaa", sum := "eb044d5ee7c2319005eccc7455cb3f5cfeea96fa606d40476b1d7f7b094d7bc4", func := "ferrybridge/ferrybridgelaw13.OutqParts", spec := "outqParts", apart := false, narrowed := true }
def OutqPartsUptoSaid : Prop := outqPartsUptoRow.holds Try.pinned (OpenSpec.upto outqPartsSpec)

/-- 'ferrybridgelaw13.OutqActs', WHERE WHAT IT READS IS OF BULK AT MOST 1048576: true; the input reads as it did. -/
def outqActsUptoRow : OpenClaim := { program := "ytjldgialhgfhmaa", sum := "eb044d5ee7c2319005eccc7455cb3f5cfeea96fa606d40476b1d7f7b094d7bc4", func := "ferrybridge/ferrybridgelaw13.OutqActs", spec := "outqActs", apart := false, narrowed := true }
def OutqActsUptoSaid : Prop := outqActsUptoRow.holds Try.pinned (OpenSpec.upto outqActsSpec)

/-- 'ferrybridgelaw13.OutqNil', WHERE WHAT IT READS IS OF BULK AT MOST 1048576: true; the input reads as it did. -/
def outqNilUptoRow : OpenClaim := { program := "ytjldgialhgfhmaa", sum := "eb044d5ee7c2319005eccc7455cb3f5cfeea96fa606d40476b1d7f7b094d7bc4", func := "ferrybridge/ferrybridgelaw13.OutqNil", spec := "outqNil", apart := false, narrowed := true }
def OutqNilUptoSaid : Prop := outqNilUptoRow.holds Try.pinned (OpenSpec.upto outqNilSpec)

/-- 'ferrybridgelaw14.FlowPair', WHERE WHAT IT READS IS OF BULK AT MOST 1048576: true; the input reads as it did. -/
def flowPairUptoRow : OpenClaim := { program := "ytjldgialhgfhmaa", sum := "eb044d5ee7c2319005eccc7455cb3f5cfeea96fa606d40476b1d7f7b094d7bc4", func := "ferrybridge/ferrybridgelaw14.FlowPair", spec := "flowPair", unfollowed := true, recurses := true, apart := false, narrowed := true }
def FlowPairUptoSaid : Prop := flowPairUptoRow.holds Try.pinned (OpenSpec.upto flowPairSpec)

/-- 'ferrybridgelaw14.FlowCloses', WHERE WHAT IT READS IS OF BULK AT MOST 1048576: true; the input reads as it did. -/
def flowClosesUptoRow : OpenClaim := { program := "ytjldgialhgfhmaa", sum := "eb044d5ee7c2319005eccc7455cb3f5cfeea96fa606d40476b1d7f7b094d7bc4", func := "ferrybridge/ferrybridgelaw14.FlowCloses", spec := "flowCloses", unfollowed := true, recurses := true, apart := false, narrowed := true }
def FlowClosesUptoSaid : Prop := flowClosesUptoRow.holds Try.pinned (OpenSpec.upto flowClosesSpec)

/-- 'ferrybridgelaw14.FlowEnds', WHERE WHAT IT READS IS OF BULK AT MOST 1048576: true; the input reads as it did. -/
def flowEndsUptoRow : OpenClaim := { program := "ytjldgialhgfhmaa", sum := "eb044d5ee7c2319005eccc7455cb3f5cfeea96fa606d40476b1d7f7b094d7bc4", func := "ferrybridge/ferrybridgelaw14.FlowEnds", spec := "flowEnds", unfollowed := true, recurses := true, apart := false, narrowed := true }
def FlowEndsUptoSaid : Prop := flowEndsUptoRow.holds Try.pinned (OpenSpec.upto flowEndsSpec)

/-- 'ferrybridgelaw14.FlowOver', WHERE WHAT IT READS IS OF BULK AT MOST 1048576: true; the input reads as it did. -/
def flowOverUptoRow : OpenClaim := { program := "ytjldgialhgfhmaa", sum := "eb044d5ee7c2319005eccc7455cb3f5cfeea96fa606d40476b1d7f7b094d7bc4", func := "ferrybridge/ferrybridgelaw14.FlowOver", spec := "flowOver", unfollowed := true, recurses := true, apart := false, narrowed := true }
def FlowOverUptoSaid : Prop := flowOverUptoRow.holds Try.pinned (OpenSpec.upto flowOverSpec)

/-- 'ferrybridgelaw14.FlowNil', WHERE WHAT IT READS IS OF BULK AT MOST 1048576: true; the input reads as it did. -/
def flowNilUptoRow : OpenClaim := { program := "ytjldgialhgfhmaa", sum := "eb044d5ee7c2319005eccc7455cb3f5cfeea96fa606d40476b1d7f7b094d7bc4", func := "ferrybridge/ferrybridgelaw14.FlowNil", spec := "flowNil", unfollowed := true, recurses := true, apart := false, narrowed := true }
def FlowNilUptoSaid : Prop := flowNilUptoRow.holds Try.pinned (OpenSpec.upto flowNilSpec)

end Rows
end Go.Proofs.Ytjldgialhgfhmaa
