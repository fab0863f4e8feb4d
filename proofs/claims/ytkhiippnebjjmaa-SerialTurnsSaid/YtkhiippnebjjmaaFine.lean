/- 'Fine w w'': below the first world's size nothing has turned. It composes without side conditions. -/
import Derived.WalkKit
namespace Go.Proofs.Ytkhiippnebjjmaa
open Go.RowKit
def Fine (w w' : World) : Prop := Below w.heap.size w w'
theorem Fine.refl (w : World) : Fine w w := Below.refl _ _
theorem Fine.trans {a b c : World} (h : Fine a b) (k : Fine b c) : Fine a c := Below.trans h (Below.mono k h.size)
theorem Fine.alloc {a w : World} (h : Fine a w) (o : Obj) : Fine a (w.alloc o) := Below.alloc h h.size o
theorem Fine.drew {a w : World} (h : Fine a w) : Fine a w.drew := Below.drew h
theorem Fine.setCell {a w : World} (h : Fine a w) {p : Addr} (hp : a.heap.size ≤ p.block) (u : Value) : Fine a (w.setCell p u) := Below.setCell h hp u
theorem ret_bool {a b : Bool} (h : a = b) : Ending.returned (.bool a) = .returned (.bool b) := by rw [h]
theorem ret_int {k : IntKind} {a b : Int} (h : a = b) : Ending.returned (.int k a) = .returned (.int k b) := by rw [h]
end Go.Proofs.Ytkhiippnebjjmaa
