/- Package outq: Begin, All; Push of a queue that is not there. -/
import Derived.Test.YtjldgialhgfhmaaOutq2
import Derived.Deep.RegionHeld3
import Derived.Laws.Rows
namespace Go.Proofs.Ytjldgialhgfhmaa
open Go.ChangeShapes Go.WideShapes Go.ChangeAt Go.RowKit
set_option linter.unusedVariables false

theorem sizeP : (Try.prog.info? 46).map (·.size) = some 6 := by kernel_rfl
theorem begin_any (g : Nat) (F : Nat → Prop) (ps : List Pc) (e : Int) (w : World) (h : QB w F g ps e) : Calls Try.prog 32 #[.pointer (some ⟨g, 0, none⟩)] w fun x w' => x = .returned (.int .u32 (beginQ ps e)) ∧ Fine w w' := by
  obtain ⟨A, c, rs, h1, h2, h3, h4, h5, h6⟩ := h
  have c0 : w.cell? ⟨g, 0, none⟩ = some (.slice A rs.length c) := h1.cell 0
  have c1 : w.cell? ⟨g, 1, none⟩ = some (.int .u32 e) := h1.cell 1
  rcases ps with _ | ⟨p, ps⟩
  · have hl : rs = [] := List.eq_nil_of_length_eq_zero (by have := h3.1; simpa using this)
    subst hl
    clear h1 h2 h3 h4 h5 h6
    simp only [List.length_nil] at c0
    go_enter Try.func32, Try.ntmps32
    go_wp2_with fail
    go_ret
    exact ⟨rfl, (by repeat (first | exact Fine.refl _ | assumption | refine Fine.alloc ?_ _ | refine Fine.drew ?_ | refine Fine.drewN ?_ _ | refine Fine.trans ?_ (by assumption) | (refine Fine.kept ?_ (by assumption) (by intro x hx; first | omega | (simp; omega))) | (refine Fine.setCell ?_ (by first | assumption | (simp; done) | (simp; omega)) _)))⟩
  · rcases rs with _ | ⟨r, rs⟩
    · exact absurd h3.1 (by simp)
    · have hs := Lib.hid (h3.2 0 r p rfl rfl).1
      obtain ⟨b, off, rfl, hb, hc⟩ := h2.rs.1.at_ (k := 0) (x := r) rfl
      have e0 := hc 0 (.int .u32 r.seq) rfl
      simp only [Nat.zero_mul, Nat.add_zero] at e0
      have hle := h2.rs.1.le
      clear hc h1 h2 h3 h4 h5 h6
      obtain ⟨n, hn⟩ : ∃ n, (r :: rs).length = n + 1 := ⟨rs.length, rfl⟩
      rw [hn] at c0 hle
      clear hn
      go_enter Try.func32, Try.ntmps32
      go_wp2_with fail
      go_ret
      exact ⟨by rw [show beginQ (p :: ps) e = p.seq from rfl, ← hs.out]; rfl, (by repeat (first | exact Fine.refl _ | assumption | refine Fine.alloc ?_ _ | refine Fine.drew ?_ | refine Fine.drewN ?_ _ | refine Fine.trans ?_ (by assumption) | (refine Fine.kept ?_ (by assumption) (by intro x hx; first | omega | (simp; omega))) | (refine Fine.setCell ?_ (by first | assumption | (simp; done) | (simp; omega)) _)))⟩
/-- Pieces that a call hands out: nobody else's. -/
def PcsOf (ps : List Pc) (w : World) (e : Ending) (w' : World) : Prop :=
  ∃ A c rs, e = .returned (.slice A rs.length c) ∧ RS layP w' A c rs ∧ (∀ b o, A = some ⟨b, o, none⟩ → w.heap.size ≤ b) ∧ Iss w' (fun b => w.heap.size ≤ b) rs ps ∧ Fine w w'
theorem all_any (g : Nat) (F : Nat → Prop) (ps : List Pc) (e : Int) (w : World) (h : QB w F g ps e) (hn : ps.length ≤ 1000) (hs : ∀ p ∈ ps, p.xs.length ≤ 1000) : Calls Try.prog 40 #[.pointer (some ⟨g, 0, none⟩)] w (PcsOf ps w) := by
  obtain ⟨A, c, rs, h1, h2, h3, h4, h5, h6⟩ := h
  have c0 : w.cell? ⟨g, 0, none⟩ = some (.slice A rs.length c) := h1.cell 0
  have hl := h3.1
  have hle := h2.rs.1.le
  have hmx := h2.rs.1.max
  have HO := Lib.hid (own_any A c rs ps _ w h2.rs.1 h3 (by omega) hs)
  clear h1 h2 h3 h4 h5 h6 hs hl
  go_enter Try.func40, Try.ntmps40
  go_wp2_with fail
  refine HO.out.mono ?_; rintro e w1 ⟨rs', rfl, hl, hb, hi, f1⟩
  have HB := Lib.hid hb; clear hb
  have HI := Lib.hid hi; clear hi
  have HL := Lib.hid hl; clear hl
  go_wp2_with fail
  go_ret
  refine ⟨some ⟨w.heap.size, 0, none⟩, rs.length, rs', by rw [HL.out]; rfl, RS.ofBlk HB.out rfl HL.out.symm (Nat.le_trans hle hmx), fun b o e => ?_, HI.out.less (fun b hb => Nat.le_of_lt hb.1), (by repeat (first | exact Fine.refl _ | assumption | refine Fine.alloc ?_ _ | refine Fine.drew ?_ | refine Fine.drewN ?_ _ | refine Fine.trans ?_ (by assumption) | (refine Fine.kept ?_ (by assumption) (by intro x hx; first | omega | (simp; omega))) | (refine Fine.setCell ?_ (by first | assumption | (simp; done) | (simp; omega)) _)))⟩
  injection e with e
  injection e with e
  omega
theorem push_nil (r : Raw) (w : World) : Calls Try.prog 28 #[.pointer none, .agg r.cells.toArray] w fun x w' => x = .returned (.agg r.cells.toArray) ∧ Fine w w' := by
  obtain ⟨seq, syn, fin, A, len, cap, dsn, last⟩ := r
  show Calls Try.prog 28 #[.pointer none, .agg #[.int .u32 seq, .bool syn, .bool fin, .slice A len cap, .int .i64 dsn, .bool last]] w _
  go_enter Try.func28, Try.ntmps28
  go_wp2_with fail
  refine bodyPost_ret (results_cell_row rfl _ _ (w.heap.size + 1) 46 #[.int .u32 seq, .bool syn, .bool fin, .slice A len cap, .int .i64 dsn, .bool last] (0, 0) _ rfl (Blk.newAt (by simp)) Try.underlying46 rfl sizeP) rfl ?_
  exact ⟨rfl, (by repeat (first | exact Fine.refl _ | assumption | refine Fine.alloc ?_ _ | refine Fine.drew ?_ | refine Fine.drewN ?_ _ | refine Fine.trans ?_ (by assumption) | (refine Fine.kept ?_ (by assumption) (by intro x hx; first | omega | (simp; omega))) | (refine Fine.setCell ?_ (by first | assumption | (simp; done) | (simp; omega)) _)))⟩
end Go.Proofs.Ytjldgialhgfhmaa
