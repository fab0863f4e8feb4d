/-
  No cell of these rows narrows 'for every input' (looked for: loops, veiled, ifaces, maps, wideKeys, modest, calm, conditions, laid).
  DERIVED. THE GIVEN ROWS OF THIS SEAT. 4 by the template 'for every input the law returns true; each argument reads behind the call as it read before'; 0 by the template 'total and deterministic' (their statements: YtkhiippnebjjmaaTotals.lean).
  GIVEN WITH THE SEED: the statements are not yours to turn. If you find one false, say at which input.
  Laid BY PROGRAM, IN A SANDBOX (cutbox-rows.mjs): the forced cells as the released guide's own fill.sh prints them over the translation 0803ff4fd1046210… (all of the seat's roots in one cut). By AI agents, Wed Nov 11 2026. No macro, syntax, notation, axiom, sorry.
-/
import Derived.Test.YtkhiippnebjjmaaChecked
import GoSem.Claim
import GoSem.ClaimJoined
import GoSem.ClaimMapViews
import Derived.JoinedTies
import Derived.KernelRfl
namespace Go.Proofs.Ytkhiippnebjjmaa
/- THE CELL 'sum', in the pinned program and in every row, IS THE sha256 OF THE DUMP (.gsa) THAT YtkhiippnebjjmaaProg.lean LOADS. Nothing in Lean hashes anything: it is a label: what it is worth is what the hold of that sum in a sandbox is worth. -/
noncomputable def Try.pinned : Pinned := { name := "ytkhiippnebjjmaa", sum := "0803ff4fd1046210590cc8ea9cdf057bb17fff27652c2cb1ebb999c2af7ff154", checked := Try.checked }
namespace Rows
def none {H : Type} : Left H := { results := [], args := [] }

/-- 'ferrybridgelaw06.SerialGoes': WHATEVER THE INPUT: true; the input reads as it did. -/
def serialGoesSpec : ChangeSpec := { name := "serialGoes", fn := fun _ => fun
  | [d1, d2] => { results := [.lit (.bool true)], args := [d1, d2] }
  | _ => none }
def serialGoesRow : OpenClaim := { program := "ytkhiippnebjjmaa", sum := "0803ff4fd1046210590cc8ea9cdf057bb17fff27652c2cb1ebb999c2af7ff154", func := "ferrybridge/ferrybridgelaw06.SerialGoes", spec := "serialGoes", apart := false }
def SerialGoesSaid : Prop := serialGoesRow.holds Try.pinned (OpenSpec.ofChange serialGoesSpec)

/-- ITS FALSE NEIGHBOUR: 'it returns false'. Refute it at one input. -/
def serialGoesWrong : ChangeSpec := { name := "serialGoes", fn := fun _ => fun
  | [d1, d2] => { results := [.lit (.bool false)], args := [d1, d2] }
  | _ => none }
def SerialGoesWrongFalsely : Prop := serialGoesRow.holds Try.pinned (OpenSpec.ofChange serialGoesWrong)

/-- 'ferrybridgelaw06.SerialIn': WHATEVER THE INPUT: true; the input reads as it did. -/
def serialInSpec : ChangeSpec := { name := "serialIn", fn := fun _ => fun
  | [d1, d2] => { results := [.lit (.bool true)], args := [d1, d2] }
  | _ => none }
def serialInRow : OpenClaim := { program := "ytkhiippnebjjmaa", sum := "0803ff4fd1046210590cc8ea9cdf057bb17fff27652c2cb1ebb999c2af7ff154", func := "ferrybridge/ferrybridgelaw06.SerialIn", spec := "serialIn", apart := false }
def SerialInSaid : Prop := serialInRow.holds Try.pinned (OpenSpec.ofChange serialInSpec)

/-- ITS FALSE NEIGHBOUR: 'it returns false'. Refute it at one input. -/
def serialInWrong : ChangeSpec := { name := "serialIn", fn := fun _ => fun
  | [d1, d2] => { results := [.lit (.bool false)], args := [d1, d2] }
  | _ => none }
def SerialInWrongFalsely : Prop := serialInRow.holds Try.pinned (OpenSpec.ofChange serialInWrong)

/-- 'ferrybridgelaw06.SerialTurns': WHATEVER THE INPUT: true; the input reads as it did. -/
def serialTurnsSpec : ChangeSpec := { name := "serialTurns", fn := fun _ => fun
  | [d1, d2, d3] => { results := [.lit (.bool true)], args := [d1, d2, d3] }
  | _ => none }
def serialTurnsRow : OpenClaim := { program := "ytkhiippnebjjmaa", sum := "0803ff4fd1046210590cc8ea9cdf057bb17fff27652c2cb1ebb999c2af7ff154", func := "ferrybridge/ferrybridgelaw06.SerialTurns", spec := "serialTurns", apart := false }
def SerialTurnsSaid : Prop := serialTurnsRow.holds Try.pinned (OpenSpec.ofChange serialTurnsSpec)

/-- ITS FALSE NEIGHBOUR: 'it returns false'. Refute it at one input. -/
def serialTurnsWrong : ChangeSpec := { name := "serialTurns", fn := fun _ => fun
  | [d1, d2, d3] => { results := [.lit (.bool false)], args := [d1, d2, d3] }
  | _ => none }
def SerialTurnsWrongFalsely : Prop := serialTurnsRow.holds Try.pinned (OpenSpec.ofChange serialTurnsWrong)

/-- 'ferrybridgelaw06.SerialSays': WHATEVER THE INPUT: true; the input reads as it did. -/
def serialSaysSpec : ChangeSpec := { name := "serialSays", fn := fun _ => fun
  | [d1, d2, d3] => { results := [.lit (.bool true)], args := [d1, d2, d3] }
  | _ => none }
def serialSaysRow : OpenClaim := { program := "ytkhiippnebjjmaa", sum := "0803ff4fd1046210590cc8ea9cdf057bb17fff27652c2cb1ebb999c2af7ff154", func := "ferrybridge/ferrybridgelaw06.SerialSays", spec := "serialSays", apart := false }
def SerialSaysSaid : Prop := serialSaysRow.holds Try.pinned (OpenSpec.ofChange serialSaysSpec)

/-- ITS FALSE NEIGHBOUR: 'it returns false'. Refute it at one input. -/
def serialSaysWrong : ChangeSpec := { name := "serialSays", fn := fun _ => fun
  | [d1, d2, d3] => { results := [.lit (.bool false)], args := [d1, d2, d3] }
  | _ => none }
def SerialSaysWrongFalsely : Prop := serialSaysRow.holds Try.pinned (OpenSpec.ofChange serialSaysWrong)

/- THE SECOND FORM. 'bulk': how many values and letters a reading holds, each counted each time it is reached (what is shared counts as often as it is met; a slice's spare places count too). A statement '..UptoSaid' is the law's where the arguments, and the package variables that the reading takes, are together of bulk at most 1048576: NARROWER than '..Said'. Prove '..Said' where nothing that the law and all that it calls make is longer than what came in: it says more and counts as full. Else prove '..UptoSaid'. A law counts once. -/
mutual
def uptoBulk {H : Type} : DataW H → Nat
  | .lit (.string bytes) => bytes.length + 1
  | .lit _ => 1
  | .nil => 1
  | .ptr d => uptoBulk d + 1
  | .slice elems spare => uptoBulkAll elems + uptoBulkAll spare + 1
  | .agg parts => uptoBulkAll parts + 1
  | .iface _ d => uptoBulk d + 1
  | .map entries => uptoBulkEntries entries + 1
  | .held _ => 1
def uptoBulkAll {H : Type} : List (DataW H) → Nat
  | [] => 0
  | d :: r => uptoBulk d + uptoBulkAll r
def uptoBulkEntries {H : Type} : List (Lit × DataW H) → Nat
  | [] => 0
  | x :: r => uptoBulkEntry x + uptoBulkEntries r
def uptoBulkEntry {H : Type} : Lit × DataW H → Nat
  | (.string bytes, d) => bytes.length + uptoBulk d + 1
  | (_, d) => uptoBulk d + 1
 end
def uptoSmall : (H : Type) → List (DataW H) → Bool := fun _ ds => decide (uptoBulkAll ds ≤ 1048576)
def OpenSpec.upto (s : _root_.Go.ChangeSpec) : _root_.Go.OpenSpec := { _root_.Go.OpenSpec.ofChange s with cond := some uptoSmall }

/-- 'ferrybridgelaw06.SerialGoes', WHERE WHAT IT READS IS OF BULK AT MOST 1048576: true; the input reads as it did. -/
def serialGoesUptoRow : OpenClaim := { program := "ytkhiippnebjjmaa", sum := "0803ff4fd1046210590cc8ea9cdf057bb17fff27652c2cb1ebb999c2af7ff154", func := "ferrybridge/ferrybridgelaw06.SerialGoes", spec := "serialGoes", apart := false, narrowed := true }
def SerialGoesUptoSaid : Prop := serialGoesUptoRow.holds Try.pinned (OpenSpec.upto serialGoesSpec)

/-- 'ferrybridgelaw06.SerialIn', WHERE WHAT IT READS IS OF BULK AT MOST 1048576: true; the input reads as it did. -/
def serialInUptoRow : OpenClaim := { program := "ytkhiippnebjjmaa", sum := "0803ff4fd1046210590cc8ea9cdf057bb17fff27652c2cb1ebb999c2af7ff154", func := "ferrybridge/ferrybridgelaw06.SerialIn", spec := "serialIn", apart := false, narrowed := true }
def SerialInUptoSaid : Prop := serialInUptoRow.holds Try.pinned (OpenSpec.upto serialInSpec)

/-- 'ferrybridgelaw06.SerialTurns', WHERE WHAT IT READS IS OF BULK AT MOST 1048576: true; the input reads as it did. -/
def serialTurnsUptoRow : OpenClaim := { program := "ytkhiippnebjjmaa", sum := "0803ff4fd1046210590cc8ea9cdf057bb17fff27652c2cb1ebb999c2af7ff154", func := "ferrybridge/ferrybridgelaw06.SerialTurns", spec := "serialTurns", apart := false, narrowed := true }
def SerialTurnsUptoSaid : Prop := serialTurnsUptoRow.holds Try.pinned (OpenSpec.upto serialTurnsSpec)

/-- 'ferrybridgelaw06.SerialSays', WHERE WHAT IT READS IS OF BULK AT MOST 1048576: true; the input reads as it did. -/
def serialSaysUptoRow : OpenClaim := { program := "ytkhiippnebjjmaa", sum := "0803ff4fd1046210590cc8ea9cdf057bb17fff27652c2cb1ebb999c2af7ff154", func := "ferrybridge/ferrybridgelaw06.SerialSays", spec := "serialSays", apart := false, narrowed := true }
def SerialSaysUptoSaid : Prop := serialSaysUptoRow.holds Try.pinned (OpenSpec.upto serialSaysSpec)

end Rows
end Go.Proofs.Ytkhiippnebjjmaa
