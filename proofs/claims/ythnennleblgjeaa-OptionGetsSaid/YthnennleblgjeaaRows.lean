/-
  No cell of these rows narrows 'for every input' (looked for: loops, veiled, ifaces, maps, wideKeys, modest, calm, conditions, laid).
  DERIVED. THE GIVEN ROWS OF THIS SEAT. 15 by the template 'for every input the law returns true; each argument reads behind the call as it read before'; 0 by the template 'total and deterministic' (their statements: YthnennleblgjeaaTotals.lean).
  GIVEN WITH THE SEED: the statements are not yours to turn. If you find one false, say at which input.
  Laid BY PROGRAM, IN A SANDBOX (cutbox-rows.mjs): the forced cells as the released guide's own fill.sh prints them over the translation ec64d80bb73447ec… (all of the seat's roots in one cut). By AI agents, Wed Nov 11 2026. No macro, syntax, notation, axiom, sorry.
-/
import Derived.Test.YthnennleblgjeaaChecked
import GoSem.Claim
import GoSem.ClaimJoined
import GoSem.ClaimMapViews
import Derived.JoinedTies
import Derived.KernelRfl
namespace Go.Proofs.Ythnennleblgjeaa
/- THE CELL 'sum', in the pinned program and in every row, IS THE sha256 OF THE DUMP (.gsa) THAT YthnennleblgjeaaProg.lean LOADS. Nothing in Lean hashes anything: it is a label: what it is worth is what the hold of that sum in a sandbox is worth. -/
noncomputable def Try.pinned : Pinned := { name := "ythnennleblgjeaa", sum := "ec64d80bb73447ec929d1bc93a19cb93b887f67aba63cf895a70a842e64aac85", checked := Try.checked }
namespace Rows
def none {H : Type} : Left H := { results := [], args := [] }

/-- 'ferrybridgelaw01.OctetJoins': WHATEVER THE INPUT: true; the input reads as it did. -/
def octetJoinsSpec : ChangeSpec := { name := "octetJoins", fn := fun _ => fun
  | [d] => { results := [.lit (.bool true)], args := [d] }
  | _ => none }
def octetJoinsRow : OpenClaim := { program := "ythnennleblgjeaa", sum := "ec64d80bb73447ec929d1bc93a19cb93b887f67aba63cf895a70a842e64aac85", func := "ferrybridge/ferrybridgelaw01.OctetJoins", spec := "octetJoins", apart := false }
def OctetJoinsSaid : Prop := octetJoinsRow.holds Try.pinned (OpenSpec.ofChange octetJoinsSpec)

/-- ITS FALSE NEIGHBOUR: 'it returns false'. Refute it at one input. -/
def octetJoinsWrong : ChangeSpec := { name := "octetJoins", fn := fun _ => fun
  | [d] => { results := [.lit (.bool false)], args := [d] }
  | _ => none }
def OctetJoinsWrongFalsely : Prop := octetJoinsRow.holds Try.pinned (OpenSpec.ofChange octetJoinsWrong)

/-- 'ferrybridgelaw02.SumOrder': WHATEVER THE INPUT: true; the input reads as it did. -/
def sumOrderSpec : ChangeSpec := { name := "sumOrder", fn := fun _ => fun
  | [d1, d2, d3] => { results := [.lit (.bool true)], args := [d1, d2, d3] }
  | _ => none }
def sumOrderRow : OpenClaim := { program := "ythnennleblgjeaa", sum := "ec64d80bb73447ec929d1bc93a19cb93b887f67aba63cf895a70a842e64aac85", func := "ferrybridge/ferrybridgelaw02.SumOrder", spec := "sumOrder", apart := false }
def SumOrderSaid : Prop := sumOrderRow.holds Try.pinned (OpenSpec.ofChange sumOrderSpec)

/-- ITS FALSE NEIGHBOUR: 'it returns false'. Refute it at one input. -/
def sumOrderWrong : ChangeSpec := { name := "sumOrder", fn := fun _ => fun
  | [d1, d2, d3] => { results := [.lit (.bool false)], args := [d1, d2, d3] }
  | _ => none }
def SumOrderWrongFalsely : Prop := sumOrderRow.holds Try.pinned (OpenSpec.ofChange sumOrderWrong)

/-- 'ferrybridgelaw02.SumZeros': WHATEVER THE INPUT: true; the input reads as it did. -/
def sumZerosSpec : ChangeSpec := { name := "sumZeros", fn := fun _ => fun
  | [d1, d2] => { results := [.lit (.bool true)], args := [d1, d2] }
  | _ => none }
def sumZerosRow : OpenClaim := { program := "ythnennleblgjeaa", sum := "ec64d80bb73447ec929d1bc93a19cb93b887f67aba63cf895a70a842e64aac85", func := "ferrybridge/ferrybridgelaw02.SumZeros", spec := "sumZeros", apart := false }
def SumZerosSaid : Prop := sumZerosRow.holds Try.pinned (OpenSpec.ofChange sumZerosSpec)

/-- ITS FALSE NEIGHBOUR: 'it returns false'. Refute it at one input. -/
def sumZerosWrong : ChangeSpec := { name := "sumZeros", fn := fun _ => fun
  | [d1, d2] => { results := [.lit (.bool false)], args := [d1, d2] }
  | _ => none }
def SumZerosWrongFalsely : Prop := sumZerosRow.holds Try.pinned (OpenSpec.ofChange sumZerosWrong)

/-- 'ferrybridgelaw01.OctetCuts': WHATEVER THE INPUT: true; the input reads as it did. -/
def octetCutsSpec : ChangeSpec := { name := "octetCuts", fn := fun _ => fun
  | [d1, d2] => { results := [.lit (.bool true)], args := [d1, d2] }
  | _ => none }
def octetCutsRow : OpenClaim := { program := "ythnennleblgjeaa", sum := "ec64d80bb73447ec929d1bc93a19cb93b887f67aba63cf895a70a842e64aac85", func := "ferrybridge/ferrybridgelaw01.OctetCuts", spec := "octetCuts", apart := false }
def OctetCutsSaid : Prop := octetCutsRow.holds Try.pinned (OpenSpec.ofChange octetCutsSpec)

/-- ITS FALSE NEIGHBOUR: 'it returns false'. Refute it at one input. -/
def octetCutsWrong : ChangeSpec := { name := "octetCuts", fn := fun _ => fun
  | [d1, d2] => { results := [.lit (.bool false)], args := [d1, d2] }
  | _ => none }
def OctetCutsWrongFalsely : Prop := octetCutsRow.holds Try.pinned (OpenSpec.ofChange octetCutsWrong)

/-- 'ferrybridgelaw01.OctetPuts': WHATEVER THE INPUT: true; the input reads as it did. -/
def octetPutsSpec : ChangeSpec := { name := "octetPuts", fn := fun _ => fun
  | [d1, d2, d3] => { results := [.lit (.bool true)], args := [d1, d2, d3] }
  | _ => none }
def octetPutsRow : OpenClaim := { program := "ythnennleblgjeaa", sum := "ec64d80bb73447ec929d1bc93a19cb93b887f67aba63cf895a70a842e64aac85", func := "ferrybridge/ferrybridgelaw01.OctetPuts", spec := "octetPuts", apart := false }
def OctetPutsSaid : Prop := octetPutsRow.holds Try.pinned (OpenSpec.ofChange octetPutsSpec)

/-- ITS FALSE NEIGHBOUR: 'it returns false'. Refute it at one input. -/
def octetPutsWrong : ChangeSpec := { name := "octetPuts", fn := fun _ => fun
  | [d1, d2, d3] => { results := [.lit (.bool false)], args := [d1, d2, d3] }
  | _ => none }
def OctetPutsWrongFalsely : Prop := octetPutsRow.holds Try.pinned (OpenSpec.ofChange octetPutsWrong)

/-- 'ferrybridgelaw01.OctetTakes': WHATEVER THE INPUT: true; the input reads as it did. -/
def octetTakesSpec : ChangeSpec := { name := "octetTakes", fn := fun _ => fun
  | [d1, d2, d3] => { results := [.lit (.bool true)], args := [d1, d2, d3] }
  | _ => none }
def octetTakesRow : OpenClaim := { program := "ythnennleblgjeaa", sum := "ec64d80bb73447ec929d1bc93a19cb93b887f67aba63cf895a70a842e64aac85", func := "ferrybridge/ferrybridgelaw01.OctetTakes", spec := "octetTakes", apart := false }
def OctetTakesSaid : Prop := octetTakesRow.holds Try.pinned (OpenSpec.ofChange octetTakesSpec)

/-- ITS FALSE NEIGHBOUR: 'it returns false'. Refute it at one input. -/
def octetTakesWrong : ChangeSpec := { name := "octetTakes", fn := fun _ => fun
  | [d1, d2, d3] => { results := [.lit (.bool false)], args := [d1, d2, d3] }
  | _ => none }
def OctetTakesWrongFalsely : Prop := octetTakesRow.holds Try.pinned (OpenSpec.ofChange octetTakesWrong)

/-- 'ferrybridgelaw01.OctetRows': WHATEVER THE INPUT: true; the input reads as it did. -/
def octetRowsSpec : ChangeSpec := { name := "octetRows", fn := fun _ => fun
  | [d1, d2] => { results := [.lit (.bool true)], args := [d1, d2] }
  | _ => none }
def octetRowsRow : OpenClaim := { program := "ythnennleblgjeaa", sum := "ec64d80bb73447ec929d1bc93a19cb93b887f67aba63cf895a70a842e64aac85", func := "ferrybridge/ferrybridgelaw01.OctetRows", spec := "octetRows", apart := false }
def OctetRowsSaid : Prop := octetRowsRow.holds Try.pinned (OpenSpec.ofChange octetRowsSpec)

/-- ITS FALSE NEIGHBOUR: 'it returns false'. Refute it at one input. -/
def octetRowsWrong : ChangeSpec := { name := "octetRows", fn := fun _ => fun
  | [d1, d2] => { results := [.lit (.bool false)], args := [d1, d2] }
  | _ => none }
def OctetRowsWrongFalsely : Prop := octetRowsRow.holds Try.pinned (OpenSpec.ofChange octetRowsWrong)

/-- 'ferrybridgelaw02.SumOf': WHATEVER THE INPUT: true; the input reads as it did. -/
def sumOfSpec : ChangeSpec := { name := "sumOf", fn := fun _ => fun
  | [d] => { results := [.lit (.bool true)], args := [d] }
  | _ => none }
def sumOfRow : OpenClaim := { program := "ythnennleblgjeaa", sum := "ec64d80bb73447ec929d1bc93a19cb93b887f67aba63cf895a70a842e64aac85", func := "ferrybridge/ferrybridgelaw02.SumOf", spec := "sumOf", apart := false }
def SumOfSaid : Prop := sumOfRow.holds Try.pinned (OpenSpec.ofChange sumOfSpec)

/-- ITS FALSE NEIGHBOUR: 'it returns false'. Refute it at one input. -/
def sumOfWrong : ChangeSpec := { name := "sumOf", fn := fun _ => fun
  | [d] => { results := [.lit (.bool false)], args := [d] }
  | _ => none }
def SumOfWrongFalsely : Prop := sumOfRow.holds Try.pinned (OpenSpec.ofChange sumOfWrong)

/-- 'ferrybridgelaw02.SumGood': WHATEVER THE INPUT: true; the input reads as it did. -/
def sumGoodSpec : ChangeSpec := { name := "sumGood", fn := fun _ => fun
  | [d] => { results := [.lit (.bool true)], args := [d] }
  | _ => none }
def sumGoodRow : OpenClaim := { program := "ythnennleblgjeaa", sum := "ec64d80bb73447ec929d1bc93a19cb93b887f67aba63cf895a70a842e64aac85", func := "ferrybridge/ferrybridgelaw02.SumGood", spec := "sumGood", apart := false }
def SumGoodSaid : Prop := sumGoodRow.holds Try.pinned (OpenSpec.ofChange sumGoodSpec)

/-- ITS FALSE NEIGHBOUR: 'it returns false'. Refute it at one input. -/
def sumGoodWrong : ChangeSpec := { name := "sumGood", fn := fun _ => fun
  | [d] => { results := [.lit (.bool false)], args := [d] }
  | _ => none }
def SumGoodWrongFalsely : Prop := sumGoodRow.holds Try.pinned (OpenSpec.ofChange sumGoodWrong)

/-- 'ferrybridgelaw02.SumChanged': WHATEVER THE INPUT: true; the input reads as it did. -/
def sumChangedSpec : ChangeSpec := { name := "sumChanged", fn := fun _ => fun
  | [d1, d2, d3] => { results := [.lit (.bool true)], args := [d1, d2, d3] }
  | _ => none }
def sumChangedRow : OpenClaim := { program := "ythnennleblgjeaa", sum := "ec64d80bb73447ec929d1bc93a19cb93b887f67aba63cf895a70a842e64aac85", func := "ferrybridge/ferrybridgelaw02.SumChanged", spec := "sumChanged", apart := false }
def SumChangedSaid : Prop := sumChangedRow.holds Try.pinned (OpenSpec.ofChange sumChangedSpec)

/-- ITS FALSE NEIGHBOUR: 'it returns false'. Refute it at one input. -/
def sumChangedWrong : ChangeSpec := { name := "sumChanged", fn := fun _ => fun
  | [d1, d2, d3] => { results := [.lit (.bool false)], args := [d1, d2, d3] }
  | _ => none }
def SumChangedWrongFalsely : Prop := sumChangedRow.holds Try.pinned (OpenSpec.ofChange sumChangedWrong)

/-- 'ferrybridgelaw07.OptionFinds': WHATEVER THE INPUT: true; the input reads as it did. -/
def optionFindsSpec : ChangeSpec := { name := "optionFinds", fn := fun _ => fun
  | [d1, d2] => { results := [.lit (.bool true)], args := [d1, d2] }
  | _ => none }
def optionFindsRow : OpenClaim := { program := "ythnennleblgjeaa", sum := "ec64d80bb73447ec929d1bc93a19cb93b887f67aba63cf895a70a842e64aac85", func := "ferrybridge/ferrybridgelaw07.OptionFinds", spec := "optionFinds", unfollowed := true, recurses := true, apart := false }
def OptionFindsSaid : Prop := optionFindsRow.holds Try.pinned (OpenSpec.ofChange optionFindsSpec)

/-- ITS FALSE NEIGHBOUR: 'it returns false'. Refute it at one input. -/
def optionFindsWrong : ChangeSpec := { name := "optionFinds", fn := fun _ => fun
  | [d1, d2] => { results := [.lit (.bool false)], args := [d1, d2] }
  | _ => none }
def OptionFindsWrongFalsely : Prop := optionFindsRow.holds Try.pinned (OpenSpec.ofChange optionFindsWrong)

/-- 'ferrybridgelaw07.OptionPuts': WHATEVER THE INPUT: true; the input reads as it did. -/
def optionPutsSpec : ChangeSpec := { name := "optionPuts", fn := fun _ => fun
  | [d] => { results := [.lit (.bool true)], args := [d] }
  | _ => none }
def optionPutsRow : OpenClaim := { program := "ythnennleblgjeaa", sum := "ec64d80bb73447ec929d1bc93a19cb93b887f67aba63cf895a70a842e64aac85", func := "ferrybridge/ferrybridgelaw07.OptionPuts", spec := "optionPuts", apart := false }
def OptionPutsSaid : Prop := optionPutsRow.holds Try.pinned (OpenSpec.ofChange optionPutsSpec)

/-- ITS FALSE NEIGHBOUR: 'it returns false'. Refute it at one input. -/
def optionPutsWrong : ChangeSpec := { name := "optionPuts", fn := fun _ => fun
  | [d] => { results := [.lit (.bool false)], args := [d] }
  | _ => none }
def OptionPutsWrongFalsely : Prop := optionPutsRow.holds Try.pinned (OpenSpec.ofChange optionPutsWrong)

/-- 'ferrybridgelaw07.OptionGets': WHATEVER THE INPUT: true; the input reads as it did. -/
def optionGetsSpec : ChangeSpec := { name := "optionGets", fn := fun _ => fun
  | [d] => { results := [.lit (.bool true)], args := [d] }
  | _ => none }
def optionGetsRow : OpenClaim := { program := "ythnennleblgjeaa", sum := "ec64d80bb73447ec929d1bc93a19cb93b887f67aba63cf895a70a842e64aac85", func := "ferrybridge/ferrybridgelaw07.OptionGets", spec := "optionGets", apart := false }
def OptionGetsSaid : Prop := optionGetsRow.holds Try.pinned (OpenSpec.ofChange optionGetsSpec)

/-- ITS FALSE NEIGHBOUR: 'it returns false'. Refute it at one input. -/
def optionGetsWrong : ChangeSpec := { name := "optionGets", fn := fun _ => fun
  | [d] => { results := [.lit (.bool false)], args := [d] }
  | _ => none }
def OptionGetsWrongFalsely : Prop := optionGetsRow.holds Try.pinned (OpenSpec.ofChange optionGetsWrong)

/-- 'ferrybridgelaw07.OptionCut': WHATEVER THE INPUT: true; the input reads as it did. -/
def optionCutSpec : ChangeSpec := { name := "optionCut", fn := fun _ => fun
  | [d1, d2] => { results := [.lit (.bool true)], args := [d1, d2] }
  | _ => none }
def optionCutRow : OpenClaim := { program := "ythnennleblgjeaa", sum := "ec64d80bb73447ec929d1bc93a19cb93b887f67aba63cf895a70a842e64aac85", func := "ferrybridge/ferrybridgelaw07.OptionCut", spec := "optionCut", apart := false }
def OptionCutSaid : Prop := optionCutRow.holds Try.pinned (OpenSpec.ofChange optionCutSpec)

/-- ITS FALSE NEIGHBOUR: 'it returns false'. Refute it at one input. -/
def optionCutWrong : ChangeSpec := { name := "optionCut", fn := fun _ => fun
  | [d1, d2] => { results := [.lit (.bool false)], args := [d1, d2] }
  | _ => none }
def OptionCutWrongFalsely : Prop := optionCutRow.holds Try.pinned (OpenSpec.ofChange optionCutWrong)

/-- 'ferrybridgelaw07.OptionKinds': WHATEVER THE INPUT: true; the input reads as it did. -/
def optionKindsSpec : ChangeSpec := { name := "optionKinds", fn := fun _ => fun
  | [d1, d2] => { results := [.lit (.bool true)], args := [d1, d2] }
  | _ => none }
def optionKindsRow : OpenClaim := { program := "ythnennleblgjeaa", sum := "ec64d80bb73447ec929d1bc93a19cb93b887f67aba63cf895a70a842e64aac85", func := "ferrybridge/ferrybridgelaw07.OptionKinds", spec := "optionKinds", apart := false }
def OptionKindsSaid : Prop := optionKindsRow.holds Try.pinned (OpenSpec.ofChange optionKindsSpec)

/-- ITS FALSE NEIGHBOUR: 'it returns false'. Refute it at one input. -/
def optionKindsWrong : ChangeSpec := { name := "optionKinds", fn := fun _ => fun
  | [d1, d2] => { results := [.lit (.bool false)], args := [d1, d2] }
  | _ => none }
def OptionKindsWrongFalsely : Prop := optionKindsRow.holds Try.pinned (OpenSpec.ofChange optionKindsWrong)

/- THE SECOND FORM. 'bulk': how many values and letters a reading holds, each counted each time it is reached (what is shared counts as often as it is met; a slice's spare places count too). A statement '..UptoSaid' is the law's where the arguments, and the package variables that the reading takes, are together of bulk at most 1048576: NARROWER than '..Said'. Prove '..Said' where nothing that the law and all that it calls make is longer than what came in: it says more and counts as full. Else prove '..UptoSaid'. A law counts once. -/
mutual
def uptoBulk {H : Type} : DataW H → Nat
  | .lit (.string bytes) => bytes.length + 1
  | .lit _ => 1
  | .nil => 1
  | .ptr d => uptoBulk d + 1
  | .slice elems spare => uptoBulkAll elems + uptoBulkAll spare + 1
  | .agg parts => uptoBulkAll parts + 1
  | .iface _ d => uptoBulk d + 1
  | .map entries => uptoBulkEntries entries + 1
  | .held _ => 1
def uptoBulkAll {H : Type} : List (DataW H) → Nat
  | [] => 0
  | d :: r => uptoBulk d + uptoBulkAll r
def uptoBulkEntries {H : Type} : List (Lit × DataW H) → Nat
  | [] => 0
  | x :: r => uptoBulkEntry x + uptoBulkEntries r
def uptoBulkEntry {H : Type} : Lit × DataW H → Nat
  | (.string bytes, d) => bytes.length + uptoBulk d + 1
  | (_, d) => uptoBulk d + 1
 end
def uptoSmall : (H : Type) → List (DataW H) → Bool := fun _ ds => decide (uptoBulkAll ds ≤ 1048576)
def OpenSpec.upto (s : _root_.Go.ChangeSpec) : _root_.Go.OpenSpec := { _root_.Go.OpenSpec.ofChange s with cond := some uptoSmall }

/-- 'ferrybridgelaw01.OctetJoins', WHERE WHAT IT READS IS OF BULK AT MOST 1048576: true; the input reads as it did. -/
def octetJoinsUptoRow : OpenClaim := { program := "ythnennleblgjeaa", sum := "ec64d80bb73447ec929d1bc93a19cb93b887f67aba63cf895a70a842e64aac85", func := "ferrybridge/ferrybridgelaw01.OctetJoins", spec := "octetJoins", apart := false, narrowed := true }
def OctetJoinsUptoSaid : Prop := octetJoinsUptoRow.holds Try.pinned (OpenSpec.upto octetJoinsSpec)

/-- 'ferrybridgelaw02.SumOrder', WHERE WHAT IT READS IS OF BULK AT MOST 1048576: true; the input reads as it did. -/
def sumOrderUptoRow : OpenClaim := { program := "ythnennleblgjeaa", sum := "ec64d80bb73447ec929d1bc93a19cb93b887f67aba63cf895a70a842e64aac85", func := "ferrybridge/ferrybridgelaw02.SumOrder", spec := "sumOrder", apart := false, narrowed := true }
def SumOrderUptoSaid : Prop := sumOrderUptoRow.holds Try.pinned (OpenSpec.upto sumOrderSpec)

/-- 'ferrybridgelaw02.SumZeros', WHERE WHAT IT READS IS OF BULK AT MOST 1048576: true; the input reads as it did. -/
def sumZerosUptoRow : OpenClaim := { program := "ythnennleblgjeaa", sum := "ec64d80bb73447ec929d1bc93a19cb93b887f67aba63cf895a70a842e64aac85", func := "ferrybridge/ferrybridgelaw02.SumZeros", spec := "sumZeros", apart := false, narrowed := true }
def SumZerosUptoSaid : Prop := sumZerosUptoRow.holds Try.pinned (OpenSpec.upto sumZerosSpec)

/-- 'ferrybridgelaw01.OctetCuts', WHERE WHAT IT READS IS OF BULK AT MOST 1048576: true; the input reads as it did. -/
def octetCutsUptoRow : OpenClaim := { program := "ythnennleblgjeaa", sum := "ec64d80bb73447ec929d1bc93a19cb93b887f67aba63cf895a70a842e64aac85", func := "ferrybridge/ferrybridgelaw01.OctetCuts", spec := "octetCuts", apart := false, narrowed := true }
def OctetCutsUptoSaid : Prop := octetCutsUptoRow.holds Try.pinned (OpenSpec.upto octetCutsSpec)

/-- 'ferrybridgelaw01.OctetPuts', WHERE WHAT IT READS IS OF BULK AT MOST 1048576: true; the input reads as it did. -/
def octetPutsUptoRow : OpenClaim := { program := "ythnennleblgjeaa", sum := "ec64d80bb73447ec929d1bc93a19cb93b887f67aba63cf895a70a842e64aac85", func := "ferrybridge/ferrybridgelaw01.OctetPuts", spec := "octetPuts", apart := false, narrowed := true }
def OctetPutsUptoSaid : Prop := octetPutsUptoRow.holds Try.pinned (OpenSpec.upto octetPutsSpec)

/-- 'ferrybridgelaw01.OctetTakes', WHERE WHAT IT READS IS OF BULK AT MOST 1048576: true; the input reads as it did. -/
def octetTakesUptoRow : OpenClaim := { program := "ythnennleblgjeaa", sum := "ec64d80bb73447ec929d1bc93a19cb93b887f67aba63cf895a70a842e64aac85", func := "ferrybridge/ferrybridgelaw01.OctetTakes", spec := "octetTakes", apart := false, narrowed := true }
def OctetTakesUptoSaid : Prop := octetTakesUptoRow.holds Try.pinned (OpenSpec.upto octetTakesSpec)

/-- 'ferrybridgelaw01.OctetRows', WHERE WHAT IT READS IS OF BULK AT MOST 1048576: true; the input reads as it did. -/
def octetRowsUptoRow : OpenClaim := { program := "ythnennleblgjeaa", sum := "ec64d80bb73447ec929d1bc93a19cb93b887f67aba63cf895a70a842e64aac85", func := "ferrybridge/ferrybridgelaw01.OctetRows", spec := "octetRows", apart := false, narrowed := true }
def OctetRowsUptoSaid : Prop := octetRowsUptoRow.holds Try.pinned (OpenSpec.upto octetRowsSpec)

/-- 'ferrybridgelaw02.SumOf', WHERE WHAT IT READS IS OF BULK AT MOST 1048576: true; the input reads as it did. -/
def sumOfUptoRow : OpenClaim := { program := "ythnennleblgjeaa", sum := "ec64d80bb73447ec929d1bc93a19cb93b887f67aba63cf895a70a842e64aac85", func := "ferrybridge/ferrybridgelaw02.SumOf", spec := "sumOf", apart := false, narrowed := true }
def SumOfUptoSaid : Prop := sumOfUptoRow.holds Try.pinned (OpenSpec.upto sumOfSpec)

/-- 'ferrybridgelaw02.SumGood', WHERE WHAT IT READS IS OF BULK AT MOST 1048576: true; the input reads as it did. -/
def sumGoodUptoRow : OpenClaim := { program := "ythnennleblgjeaa", sum := "ec64d80bb73447ec929d1bc93a19cb93b887f67aba63cf895a70a842e64aac85", func := "ferrybridge/ferrybridgelaw02.SumGood", spec := "sumGood", apart := false, narrowed := true }
def SumGoodUptoSaid : Prop := sumGoodUptoRow.holds Try.pinned (OpenSpec.upto sumGoodSpec)

/-- 'ferrybridgelaw02.SumChanged', WHERE WHAT IT READS IS OF BULK AT MOST 1048576: true; the input reads as it did. -/
def sumChangedUptoRow : OpenClaim := { program := "ythnennleblgjeaa", sum := "ec64d80bb73447ec929d1bc93a19cb93b887f67aba63cf895a70a842e64aac85", func := "ferrybridge/ferrybridgelaw02.SumChanged", spec := "sumChanged", apart := false, narrowed := true }
def SumChangedUptoSaid : Prop := sumChangedUptoRow.holds Try.pinned (OpenSpec.upto sumChangedSpec)

/-- 'ferrybridgelaw07.OptionFinds', WHERE WHAT IT READS IS OF BULK AT MOST 1048576: true; the input reads as it did. -/
def optionFindsUptoRow : OpenClaim := { program := "ythnennleblgjeaa", sum := "ec64d80bb73447ec929d1bc93a19cb93b887f67aba63cf895a70a842e64aac85", func := "ferrybridge/ferrybridgelaw07.OptionFinds", spec := "optionFinds", unfollowed := true, recurses := true, apart := false, narrowed := true }
def OptionFindsUptoSaid : Prop := optionFindsUptoRow.holds Try.pinned (OpenSpec.upto optionFindsSpec)

/-- 'ferrybridgelaw07.OptionPuts', WHERE WHAT IT READS IS OF BULK AT MOST 1048576: true; the input reads as it did. -/
def optionPutsUptoRow : OpenClaim := { program := "ythnennleblgjeaa", sum := "ec64d80bb73447ec929d1bc93a19cb93b887f67aba63cf895a70a842e64aac85", func := "ferrybridge/ferrybridgelaw07.OptionPuts", spec := "optionPuts", apart := false, narrowed := true }
def OptionPutsUptoSaid : Prop := optionPutsUptoRow.holds Try.pinned (OpenSpec.upto optionPutsSpec)

/-- 'ferrybridgelaw07.OptionGets', WHERE WHAT IT READS IS OF BULK AT MOST 1048576: true; the input reads as it did. -/
def optionGetsUptoRow : OpenClaim := { program := "ythnennleblgjeaa", sum := "ec64d80bb73447ec929d1bc93a19cb93b887f67aba63cf895a70a842e64aac85", func := "ferrybridge/ferrybridgelaw07.OptionGets", spec := "optionGets", apart := false, narrowed := true }
def OptionGetsUptoSaid : Prop := optionGetsUptoRow.holds Try.pinned (OpenSpec.upto optionGetsSpec)

/-- 'ferrybridgelaw07.OptionCut', WHERE WHAT IT READS IS OF BULK AT MOST 1048576: true; the input reads as it did. -/
def optionCutUptoRow : OpenClaim := { program := "ythnennleblgjeaa", sum := "ec64d80bb73447ec929d1bc93a19cb93b887f67aba63cf895a70a842e64aac85", func := "ferrybridge/ferrybridgelaw07.OptionCut", spec := "optionCut", apart := false, narrowed := true }
def OptionCutUptoSaid : Prop := optionCutUptoRow.holds Try.pinned (OpenSpec.upto optionCutSpec)

/-- 'ferrybridgelaw07.OptionKinds', WHERE WHAT IT READS IS OF BULK AT MOST 1048576: true; the input reads as it did. -/
def optionKindsUptoRow : OpenClaim := { program := "ythnennleblgjeaa", sum := "ec64d80bb73447ec929d1bc93a19cb93b887f67aba63cf895a70a842e64aac85", func := "ferrybridge/ferrybridgelaw07.OptionKinds", spec := "optionKinds", apart := false, narrowed := true }
def OptionKindsUptoSaid : Prop := optionKindsUptoRow.holds Try.pinned (OpenSpec.upto optionKindsSpec)

end Rows
end Go.Proofs.Ythnennleblgjeaa
