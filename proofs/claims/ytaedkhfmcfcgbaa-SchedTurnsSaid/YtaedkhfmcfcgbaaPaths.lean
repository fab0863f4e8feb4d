/- A slice of paths that came in. -/
import Derived.Test.YtaedkhfmcfcgbaaRows
import Derived.Test.YtaedkhfmcfcgbaaStructs
import Derived.Test.YtaedkhfmcfcgbaaSchedPlain
namespace Go.Proofs.Ytaedkhfmcfcgbaa
open Go.RowKit Go.ChangeShapes Go.WideShapes

def layP : Lay Pth 4 := { cs := fun p => [.bool p.rdy, .bool p.bak, .int .i64 p.sm, .int .i64 p.left], len := fun _ => rfl, one := fun x u hu => by simp at hu; rcases hu with rfl | rfl | rfl | rfl <;> rfl, pos := by decide }
def Pth.of (c : Nat → Option Value) : Pth := ⟨cellBool (c 0), cellBool (c 1), cellInt (c 2), cellInt (c 3)⟩
def Pth.wf (p : Pth) : Prop := (Lit.int .i64 p.sm).wf = true ∧ (Lit.int .i64 p.left).wf = true

theorem paths_of {H : Type} {enc : TypeId × Value → H} {w : World} {spare : Nat → Bool} {held : Bool} {a : Option Addr} {len cap : Nat} {d : DataW H} {p : List MemPlace}
    (h : DataW.Trod enc Try.prog w 0 spare held 22 (.slice a len cap) d p) : ∃ ps : List Pth, ps.length = len ∧ RS layP w a cap ps ∧ ∀ q ∈ ps, q.wf := by
  obtain ⟨h1, h2, h3, h4⟩ := slice_structs 4 Try.underlying22 Try.underlying33 (by kernel_rfl) (by decide) h
  have key : ∀ b off, a = some ⟨b, off, none⟩ → 0 < len → b < w.heap.size ∧ ∀ i, i < len → (∀ j, j < 4 → w.cell? ⟨b, off + (i * 4 + j), none⟩ = (layP.cs (Pth.of fun j => w.cell? ⟨b, off + (i * 4 + j), none⟩))[j]?) ∧ (Pth.of fun j => w.cell? ⟨b, off + (i * 4 + j), none⟩).wf := by
    intro b off ha hp
    obtain ⟨b', off', ha', hb, hel⟩ := h4 hp
    rw [ha] at ha'
    injection ha' with ha'
    injection ha' with e1 e2
    subst e1 e2
    refine ⟨hb, fun i hi => ?_⟩
    obtain ⟨cs, m, hl, hc, hf⟩ := hel i hi
    have b0 := hf.bool 0 0 4 (by kernel_rfl) (by kernel_rfl) Try.underlying4
    have b1 := hf.bool 1 1 4 (by kernel_rfl) (by kernel_rfl) Try.underlying4
    have b2 := hf.int 2 2 3 (by kernel_rfl) (by kernel_rfl) Try.underlying3
    have b3 := hf.int 3 3 3 (by kernel_rfl) (by kernel_rfl) Try.underlying3
    have c0 := hc 0 (by omega)
    have c1 := hc 1 (by omega)
    have c2 := hc 2 (by omega)
    have c3 := hc 3 (by omega)
    refine ⟨fun j hj => ?_, ?_, ?_⟩
    · match j, hj with
      | 0, _ => show _ = some (Value.bool (cellBool (w.cell? ⟨b, off + (i * 4 + 0), none⟩))); rw [c0]; exact b0
      | 1, _ => show _ = some (Value.bool (cellBool (w.cell? ⟨b, off + (i * 4 + 1), none⟩))); rw [c1]; exact b1
      | 2, _ => show _ = some (Value.int .i64 (cellInt (w.cell? ⟨b, off + (i * 4 + 2), none⟩))); rw [c2]; exact b2.1
      | 3, _ => show _ = some (Value.int .i64 (cellInt (w.cell? ⟨b, off + (i * 4 + 3), none⟩))); rw [c3]; exact b3.1
    · show (Lit.int .i64 (cellInt (w.cell? ⟨b, off + (i * 4 + 2), none⟩))).wf = true; rw [c2]; exact b2.2
    · show (Lit.int .i64 (cellInt (w.cell? ⟨b, off + (i * 4 + 3), none⟩))).wf = true; rw [c3]; exact b3.2
  rcases Nat.eq_zero_or_pos len with h0 | hp
  · subst h0
    exact ⟨[], rfl, ⟨h1, h2, fun e => (h3 e).2, fun h => absurd h (by simp)⟩, fun q hq => by cases hq⟩
  · obtain ⟨b, off, ha, _⟩ := h4 hp
    obtain ⟨hb, hk⟩ := key b off ha hp
    refine ⟨(List.range len).map fun i => Pth.of fun j => w.cell? ⟨b, off + (i * 4 + j), none⟩, by simp, RS.ofCells _ h1 h2 h3 (fun _ => ⟨b, off, ha, hb, fun i hi => (hk i hi).1⟩), fun q hq => ?_⟩
    obtain ⟨i, hi, rfl⟩ := List.mem_map.1 hq
    exact (hk i (List.mem_range.1 hi)).2
theorem RS.atP {w : World} {A : Option Addr} {c : Nat} {ps : List Pth} (h : RS layP w A c ps) {k : Nat} (hk : k < ps.length) : ∃ b off r bk s l, ps.getD k Pth.none = ⟨r, bk, s, l⟩ ∧ A = some ⟨b, off, none⟩ ∧ b < w.heap.size ∧
    w.cell? ⟨b, off + k * 4, none⟩ = some (.bool r) ∧ w.cell? ⟨b, off + k * 4 + 1, none⟩ = some (.bool bk) ∧ w.cell? ⟨b, off + k * 4 + 2, none⟩ = some (.int .i64 s) ∧ w.cell? ⟨b, off + k * 4 + 3, none⟩ = some (.int .i64 l) := by
  have hx : ps[k]? = some (ps.getD k Pth.none) := by simp [List.getD, hk]
  obtain ⟨b, off, e, hb, hc⟩ := h.at_ hx
  refine ⟨b, off, _, _, _, _, rfl, e, hb, ?_, ?_, ?_, ?_⟩
  · have := hc 0 _ rfl; rwa [Nat.add_zero] at this
  · have := hc 1 _ rfl; rwa [← Nat.add_assoc] at this
  · have := hc 2 _ rfl; rwa [← Nat.add_assoc] at this
  · have := hc 3 _ rfl; rwa [← Nat.add_assoc] at this
theorem others_yes {ps : List Pth} {k : Nat} (hk : k < ps.length) (h : (ps.getD k Pth.none).main = true) : others ps = true := by
  unfold others
  rw [List.any_eq_true]
  exact ⟨ps.getD k Pth.none, by simp [List.getD, hk], h⟩
theorem others_no {ps : List Pth} (h : ∀ j, j < ps.length → (ps.getD j Pth.none).main = false) : others ps = false := by
  unfold others
  rw [List.any_eq_false]
  intro x hx
  obtain ⟨j, hj, rfl⟩ := List.getElem_of_mem hx
  have := h j hj
  simp [List.getD, hj] at this
  simp [this]
end Go.Proofs.Ytaedkhfmcfcgbaa
