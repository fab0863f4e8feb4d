/-
  Hooks of the executor.
-/
import Derived.Test.YtgfahpnndmocbaaGreatDoorSx7
import Derived.Lib.ConvBytes
import Derived.Laws.AppendOwn
namespace Go.Proofs.YtgfahpnndmocbaaGreatDoor.Sx
noncomputable section
open Go Go.RowKit Go.Lib
theorem bytesWorld_eq (w : World) (e : TypeId) (s : ByteArray) : bytesWorld w e s = { w with heap := w.heap.push (.cells (bytesCells w e s) e ((bytesCells w e s).size, (bytesCells w e s).size + 1)), drawn := w.drawn + 1 } := by
  have h1 : (bytesWorld w e s).heap = w.heap.push (.cells (bytesCells w e s) e ((bytesCells w e s).size, (bytesCells w e s).size + 1)) := by
    apply Array.ext_getElem?
    intro i
    rcases Nat.lt_trichotomy i w.heap.size with h | h | h
    · rw [bytesWorld_at_old w e s i h]; simp [Array.getElem?_push, Nat.ne_of_lt h]
    · subst h; rw [bytesWorld_at_new]; simp
    · rw [Array.getElem?_eq_none (by rw [bytesWorld_size]; omega), Array.getElem?_eq_none (by simp; omega)]
  have h2 : bytesWorld w e s = { bytesWorld w e s with heap := (bytesWorld w e s).heap } := rfl
  rw [h2, h1]
  rfl

section
variable {P : Program} {E : En} {N : Nat} {W : World} {β : Bm} {h : Hp} {F : Nat → Option Blk} {w : World}
theorem bytesS_ok (s : ByteArray) (β : Bm) : VRs E β (bytesS s.data.toList) ((s.data.map fun b => Value.int .u8 b.toNat).toList) ∧ allOne (bytesS s.data.toList) = true := by
  rw [Array.toList_map]
  unfold bytesS
  generalize s.data.toList = l
  induction l with
  | nil => exact ⟨.nil, rfl⟩
  | cons b l ih => exact ⟨.cons _ _ _ _ (.int _ _) ih.1, by simp only [List.map_cons, allOne, oneS]; simpa using ih.2⟩
theorem Mem.newFz (m : Mem E N W F β h w) (e : TypeId) (s : ByteArray) :
    ∃ β', Post E N W F β h (h.new (.fz (bytesS s.data.toList))) β' (bytesWorld w e s) ∧ β' h.n = some (w.heap.size, 0, (bytesCells w e s).size) := by
  obtain ⟨β', p, hb⟩ := m.new (.cells (bytesCells w e s) e ((bytesCells w e s).size, (bytesCells w e s).size + 1)) (.fz (bytesS s.data.toList)) (bytesCells w e s).size fun β' _ =>
    ⟨(bytesS_ok (E := E) s β').2, bytesCells w e s, e, ((bytesCells w e s).size, (bytesCells w e s).size + 1), _, _, by simp, rfl, (bytesS_ok s β').1, by rw [bytesCells, Array.toList_append], rfl⟩
  refine ⟨β', ⟨p.ext, ⟨?_, p.mem.dj, p.mem.lv⟩, p.grow⟩, hb⟩
  rw [bytesWorld_eq]
  exact p.mem.hr.drew
theorem isRow8_some {d : TypeId} (h : isRow8 P d = true) : ∃ e, P.underlying d = some (.slice e) ∧ P.underlying e = some (.int .u8) := by
  unfold isRow8 at h
  split at h
  · split at h
    · exact ⟨_, by assumption, by assumption⟩
    · cases h
  · cases h
theorem convBytes_ok (m : Mem E N W F β h w) {s d : TypeId} {u : TypeDesc} {a : ByteArray} (hs : P.underlying s = some u) (hd : isRow8 P d = true) :
    ∃ v w' β', (Go.convert s d (.string a)).run P w = .ok v w' ∧ Post E N W F β h (h.new (.fz (bytesS a.data.toList))) β' w' ∧ VR E β' (.slu h.n 0 a.size 1) v := by
  obtain ⟨e, h1, h2⟩ := isRow8_some hd
  obtain ⟨β', p, hb⟩ := m.newFz e a
  have hg := grownCap_ge w a.size 0 e
  refine ⟨_, _, β', Go.Lib.run_convert_string_bytes w s d e a hs h1 h2, p, .slu h.n 0 a.size 1 w.heap.size 0 _ _ hb hg ?_⟩
  have : (bytesCells w e a).size = a.size + (grownCap w a.size 0 e - a.size) := by
    rw [bytesCells, Array.size_append, Array.size_map, Array.size_replicate]
    rfl
  rw [this]; omega
end
end
end Go.Proofs.YtgfahpnndmocbaaGreatDoor.Sx
