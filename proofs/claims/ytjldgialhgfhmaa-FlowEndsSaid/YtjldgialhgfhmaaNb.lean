/- Package outq: Push. Package outq: Ack. Package outq: Ack. -/
import Derived.Test.YtjldgialhgfhmaaNa
import Derived.Deep.Cut
import Derived.Deep.CutBlock
import Derived.Deep.RegionLaw
import Derived.Deep.DeepCutAuto
import Derived.Deep.LoopGhost
import Derived.Deep.RegionHeld3
namespace Go.Proofs.Ytjldgialhgfhmaa
set_option linter.unusedVariables false
set_option linter.unusedSimpArgs false
open Go.ChangeShapes Go.WideShapes Go.ChangeAt Go.RowKit
set_option linter.unusedVariables false

def withSeq (p : Pc) (e : Int) : Pc := { p with seq := e }
def pushL (ps : List Pc) (p : Pc) (e : Int) : List Pc := if 0 < long p then ps ++ [withSeq p e] else ps
def PushOf (F : Nat → Prop) (g : Nat) (ps : List Pc) (e : Int) (p : Pc) (w : World) (x : Ending) (w' : World) : Prop :=
  ∃ r' F', x = .returned (.agg (Raw.cells r').toArray) ∧ QB w' F' g (pushL ps p e) (onN e (long p)) ∧ Is w' (fun b => w.heap.size ≤ b ∧ b < w'.heap.size ∧ ¬ F' b ∧ Unf w' b) r' (withSeq p e) ∧ Kept F w w' ∧ (∀ b, F' b → F b ∨ w.heap.size ≤ b)
theorem own_one (t : TypeId) (n n' : Nat) (r : Raw) (p : Pc) (v : Nat → Prop) (w : World) (hp : Is w v r p) (hs : p.xs.length ≤ 1000) (hn : n = w.heap.size) (hn' : n' = n + 1) :
    Calls Try.prog 65 #[.slice (some ⟨n, 0, none⟩) 1 1] (w.alloc (.cells r.cells.toArray t)) fun x w' => ∃ r1 : Raw, x = .returned (.slice (some ⟨n', 0, none⟩) 1 1) ∧ Blk w' n' 46 r1.cells.toArray ∧ Is w' (Fresh n' w') r1 p ∧ Fine (w.alloc (.cells r.cells.toArray t)) w' := by
  subst hn hn'
  have hr : RS layP (w.alloc (.cells r.cells.toArray t)) (some ⟨w.heap.size, 0, none⟩) 1 [r] := RS.ofBlk (Blk.newAt rfl) (layP.flat_one r).symm rfl (by unfold maxLen; omega)
  have hf : Fine w (w.alloc (.cells r.cells.toArray t)) := (by repeat (first | exact Fine.refl _ | assumption | refine Fine.alloc ?_ _ | refine Fine.drew ?_ | refine Fine.drewN ?_ _ | refine Fine.trans ?_ (by assumption) | (refine Fine.kept ?_ (by assumption) (by intro x hx; first | omega | (simp; omega))) | (refine Fine.setCell ?_ (by first | assumption | (simp; done) | (simp; omega)) _)))
  refine (own_any _ 1 [r] [p] v _ hr (Iss.one (hp.fine hf)) (by simp) (by intro q hq; simp at hq; subst hq; exact hs)).mono ?_
  rintro x w' ⟨rs', rfl, hl, hb, hi, f⟩
  have e1 : (w.alloc (.cells r.cells.toArray t)).heap.size = w.heap.size + 1 := by simp
  rw [e1] at hb hi ⊢
  match rs', hl with
  | [r1], _ => exact ⟨r1, rfl, hb.cast (by rw [layP.flat_one]; rfl), hi.2 0 r1 p rfl rfl, f⟩
def PushC (w : World) (g m : Nat) (A : Option Addr) (n c : Nat) (r : Raw) : Prop :=
  w.cell? ⟨g, 0, none⟩ = some (.slice A n c) ∧ w.frozen? ⟨g, 0, none⟩ = false ∧ w.cell? ⟨m, 0, none⟩ = some (.int .u32 r.seq) ∧ w.cell? ⟨m, 1, none⟩ = some (.bool r.syn) ∧ w.cell? ⟨m, 2, none⟩ = some (.bool r.fin) ∧ w.cell? ⟨m, 3, none⟩ = some (.slice r.A r.len r.cap) ∧ w.cell? ⟨m, 4, none⟩ = some (.int .i64 r.dsn) ∧ w.cell? ⟨m, 5, none⟩ = some (.bool r.last)
theorem PushC.of {w : World} {g m : Nat} {A : Option Addr} {n c : Nat} {e : Int} {r : Raw} (h : Blk w g 107 #[.slice A n c, .int .u32 e]) (h2 : Blk w m 46 r.cells.toArray) : PushC w g m A n c r :=
  ⟨h.cell 0, h.frozen 0, h2.cell 0, h2.cell 1, h2.cell 2, h2.cell 3, h2.cell 4, h2.cell 5⟩
def cellOf (w : World) (g : Nat) : Value := (w.cell? ⟨g, 0, none⟩).getD (.bool false)
theorem cellOf_of {w : World} {g : Nat} {v : Value} (h : w.cell? ⟨g, 0, none⟩ = some v) : cellOf w g = v := by unfold cellOf; rw [h]; rfl
theorem PushD.of {t : TypeId} {w : World} {g m : Nat} {cs : Array Value} {r : Raw} (h : Blk w g t cs) (hc : 0 < cs.size) (h2 : Blk w m 46 r.cells.toArray) :
    w.cell? ⟨g, 0, none⟩ = some (cellOf w g) ∧ w.frozen? ⟨g, 0, none⟩ = false ∧ w.cell? ⟨m, 0, none⟩ = some (.int .u32 r.seq) ∧ w.cell? ⟨m, 1, none⟩ = some (.bool r.syn) ∧ w.cell? ⟨m, 2, none⟩ = some (.bool r.fin) ∧ w.cell? ⟨m, 3, none⟩ = some (.slice r.A r.len r.cap) ∧ w.cell? ⟨m, 4, none⟩ = some (.int .i64 r.dsn) ∧ w.cell? ⟨m, 5, none⟩ = some (.bool r.last) := by
  refine ⟨?_, h.frozen 0, h2.cell 0, h2.cell 1, h2.cell 2, h2.cell 3, h2.cell 4, h2.cell 5⟩
  have e := h.cell 0
  rw [Array.getElem?_eq_getElem hc] at e
  rw [cellOf_of e]; exact e
theorem QT.endAt {t : TypeId} {w : World} {F : Nat → Prop} {g : Nat} {ps : List Pc} {e : Int} (h : QT t w F g ps e) : w.cell? ⟨g, 1, none⟩ = some (.int .u32 e) ∧ w.frozen? ⟨g, 1, none⟩ = false ∧ g < w.heap.size ∧ F g := by
  obtain ⟨A, c, rs, h1, h2, h3, h4, h5, h6⟩ := h
  exact ⟨h1.cell 1, h1.frozen 1, h1.lt, h4⟩
theorem push_end {t : TypeId} {w wF : World} {F F' : Nat → Prop} {g nn : Nat} {L : List Pc} {e' : Int} {q0 q4 : Int} {q1 q2 q5 : Bool} {qA : Option Addr} {ql qc : Nat} {p' : Pc}
    (hr : Blk wF (w.heap.size + 1) 46 #[.int .u32 0, .bool false, .bool false, .slice none 0 0, .int .i64 0, .bool false]) (hq : QT t wF F' g L e') (hF : ¬ F' (w.heap.size + 1))
    (hi : Is wF (Fresh nn wF) ⟨q0, q1, q2, qA, ql, qc, q4, q5⟩ p') (hnn : w.heap.size + 1 ≤ nn) (hF2 : ∀ b, F' b → b ≤ nn) (hk : Kept F w wF) :
    Blk ((((((wF.setCell ⟨w.heap.size + 1, 0, none⟩ (.int .u32 q0)).setCell ⟨w.heap.size + 1, 1, none⟩ (.bool q1)).setCell ⟨w.heap.size + 1, 2, none⟩ (.bool q2)).setCell ⟨w.heap.size + 1, 3, none⟩ (.slice qA ql qc)).setCell ⟨w.heap.size + 1, 4, none⟩ (.int .i64 q4)).setCell ⟨w.heap.size + 1, 5, none⟩ (.bool q5)) (w.heap.size + 1) 46 #[.int .u32 q0, .bool q1, .bool q2, .slice qA ql qc, .int .i64 q4, .bool q5] ∧ QT t ((((((wF.setCell ⟨w.heap.size + 1, 0, none⟩ (.int .u32 q0)).setCell ⟨w.heap.size + 1, 1, none⟩ (.bool q1)).setCell ⟨w.heap.size + 1, 2, none⟩ (.bool q2)).setCell ⟨w.heap.size + 1, 3, none⟩ (.slice qA ql qc)).setCell ⟨w.heap.size + 1, 4, none⟩ (.int .i64 q4)).setCell ⟨w.heap.size + 1, 5, none⟩ (.bool q5)) F' g L e' ∧
    Is ((((((wF.setCell ⟨w.heap.size + 1, 0, none⟩ (.int .u32 q0)).setCell ⟨w.heap.size + 1, 1, none⟩ (.bool q1)).setCell ⟨w.heap.size + 1, 2, none⟩ (.bool q2)).setCell ⟨w.heap.size + 1, 3, none⟩ (.slice qA ql qc)).setCell ⟨w.heap.size + 1, 4, none⟩ (.int .i64 q4)).setCell ⟨w.heap.size + 1, 5, none⟩ (.bool q5)) (fun b => w.heap.size ≤ b ∧ b < (World.heap ((((((wF.setCell ⟨w.heap.size + 1, 0, none⟩ (.int .u32 q0)).setCell ⟨w.heap.size + 1, 1, none⟩ (.bool q1)).setCell ⟨w.heap.size + 1, 2, none⟩ (.bool q2)).setCell ⟨w.heap.size + 1, 3, none⟩ (.slice qA ql qc)).setCell ⟨w.heap.size + 1, 4, none⟩ (.int .i64 q4)).setCell ⟨w.heap.size + 1, 5, none⟩ (.bool q5))).size ∧ ¬ F' b ∧ Unf ((((((wF.setCell ⟨w.heap.size + 1, 0, none⟩ (.int .u32 q0)).setCell ⟨w.heap.size + 1, 1, none⟩ (.bool q1)).setCell ⟨w.heap.size + 1, 2, none⟩ (.bool q2)).setCell ⟨w.heap.size + 1, 3, none⟩ (.slice qA ql qc)).setCell ⟨w.heap.size + 1, 4, none⟩ (.int .i64 q4)).setCell ⟨w.heap.size + 1, 5, none⟩ (.bool q5)) b) ⟨q0, q1, q2, qA, ql, qc, q4, q5⟩ p' ∧ Kept F w ((((((wF.setCell ⟨w.heap.size + 1, 0, none⟩ (.int .u32 q0)).setCell ⟨w.heap.size + 1, 1, none⟩ (.bool q1)).setCell ⟨w.heap.size + 1, 2, none⟩ (.bool q2)).setCell ⟨w.heap.size + 1, 3, none⟩ (.slice qA ql qc)).setCell ⟨w.heap.size + 1, 4, none⟩ (.int .i64 q4)).setCell ⟨w.heap.size + 1, 5, none⟩ (.bool q5)) := by
  have hb := ((((((hr.set_ 0 (.int .u32 q0)).set_ 1 (.bool q1)).set_ 2 (.bool q2)).set_ 3 (.slice qA ql qc)).set_ 4 (.int .i64 q4)).set_ 5 (.bool q5)).cast (cs' := #[.int .u32 q0, .bool q1, .bool q2, .slice qA ql qc, .int .i64 q4, .bool q5]) (by simp)
  have kk : Kept (· = w.heap.size + 1) wF ((((((wF.setCell ⟨w.heap.size + 1, 0, none⟩ (.int .u32 q0)).setCell ⟨w.heap.size + 1, 1, none⟩ (.bool q1)).setCell ⟨w.heap.size + 1, 2, none⟩ (.bool q2)).setCell ⟨w.heap.size + 1, 3, none⟩ (.slice qA ql qc)).setCell ⟨w.heap.size + 1, 4, none⟩ (.int .i64 q4)).setCell ⟨w.heap.size + 1, 5, none⟩ (.bool q5)) := Kept.setIn (S := (· = w.heap.size + 1)) (Kept.setIn (S := (· = w.heap.size + 1)) (Kept.setIn (S := (· = w.heap.size + 1)) (Kept.setIn (S := (· = w.heap.size + 1)) (Kept.setIn (S := (· = w.heap.size + 1)) (Kept.setIn (S := (· = w.heap.size + 1)) (p := ⟨w.heap.size + 1, 0, none⟩) (Kept.refl _ _) rfl _) (p := ⟨w.heap.size + 1, 1, none⟩) rfl _) (p := ⟨w.heap.size + 1, 2, none⟩) rfl _) (p := ⟨w.heap.size + 1, 3, none⟩) rfl _) (p := ⟨w.heap.size + 1, 4, none⟩) rfl _) (p := ⟨w.heap.size + 1, 5, none⟩) rfl _
  generalize ((((((wF.setCell ⟨w.heap.size + 1, 0, none⟩ (.int .u32 q0)).setCell ⟨w.heap.size + 1, 1, none⟩ (.bool q1)).setCell ⟨w.heap.size + 1, 2, none⟩ (.bool q2)).setCell ⟨w.heap.size + 1, 3, none⟩ (.slice qA ql qc)).setCell ⟨w.heap.size + 1, 4, none⟩ (.int .i64 q4)).setCell ⟨w.heap.size + 1, 5, none⟩ (.bool q5)) = wG at hb kk ⊢
  have hs := kk.size
  refine ⟨hb, hq.kept kk (fun b h1 h2 => hF (h2 ▸ h1)), ((hi.kept kk (fun b h1 h2 => by have := h1.1; omega)).less (fun b h1 => ⟨by have := h1.1; omega, by have := h1.2; omega, fun h => by have := hF2 b h; have := h1.1; omega, h1.2.2.kept kk h1.2.1 (by have := h1.1; omega)⟩)), hk.transG kk (fun _ _ s => s) (fun x hx s => by omega)⟩
set_option maxHeartbeats 1000000 in
set_option maxRecDepth 20000 in
theorem push_any (g : Nat) (F v : Nat → Prop) (ps : List Pc) (e : Int) (r : Raw) (p : Pc) (w : World) (h : QB w F g ps e) (hp : Is w v r p) (hv : ∀ b, v b → ¬ F b) (he : 0 ≤ e ∧ e < 4294967296) (hn : ps.length ≤ 900) (hs : p.xs.length ≤ 1000) :
    Calls Try.prog 28 #[.pointer (some ⟨g, 0, none⟩), .agg r.cells.toArray] w (PushOf F g ps e p w) := by
  obtain ⟨A, c, rs, h1, h2, h3, h4, h5, h6⟩ := h
  have hgl := h1.lt
  have hl := Lib.hid h3.1
  have HP := Lib.hid (show Is w v ⟨e, r.syn, r.fin, r.A, r.len, r.cap, r.dsn, r.last⟩ (withSeq p e) from ⟨rfl, hp.2.1, hp.2.2.1, hp.2.2.2.1, hp.2.2.2.2.1, hp.2.2.2.2.2.1, hp.2.2.2.2.2.2.1, hp.2.2.2.2.2.2.2⟩)
  clear hp
  obtain ⟨seq, syn, fin, B, len, cap, dsn, last⟩ := r
  simp only at HP
  have c0 : w.cell? ⟨g, 0, none⟩ = some (.slice A rs.length c) := h1.cell 0
  have c1 : w.cell? ⟨g, 1, none⟩ = some (.int .u32 e) := h1.cell 1
  have z0 := h1.frozen 0
  have z1 := h1.frozen 1
  have hll : long (withSeq p e) = long p := rfl
  have HL := Lib.hid (fun w' h => long_any ⟨e, syn, fin, B, len, cap, dsn, last⟩ (withSeq p e) v w' h hs)
  have H1 := Lib.hid h1; clear h1
  have H2 := Lib.hid h2; clear h2
  have H3 := Lib.hid h3; clear h3
  have H4 := Lib.hid h4; clear h4
  have H5 := Lib.hid h5; clear h5
  have H6 := Lib.hid h6; clear h6
  have hlo : long p ≤ 1002 := by unfold long; split <;> split <;> omega
  obtain ⟨n, hn0⟩ : ∃ n, long p = n := ⟨_, rfl⟩
  rw [hll, hn0] at HL
  rw [hn0] at hlo
  have HN := Lib.hid hn0; clear hn0 hll
  show Calls Try.prog 28 #[.pointer (some ⟨g, 0, none⟩), .agg #[.int .u32 seq, .bool syn, .bool fin, .slice B len cap, .int .i64 dsn, .bool last]] w _
  go_enter Try.func28, Try.ntmps28
  go_wp2_with fail
  refine (HL.out _ (HP.out.fine (by repeat (first | exact Fine.refl _ | assumption | refine Fine.alloc ?_ _ | refine Fine.drew ?_ | refine Fine.drewN ?_ _ | refine Fine.trans ?_ (by assumption) | (refine Fine.kept ?_ (by assumption) (by intro x hx; first | omega | (simp; omega))) | (refine Fine.setCell ?_ (by first | assumption | (simp; done) | (simp; omega)) _))))).mono ?_; rintro x w1 ⟨rfl, f1⟩
  have hb1 : Blk w1 w.heap.size 46 #[.int .u32 e, .bool syn, .bool fin, .slice B len cap, .int .i64 dsn, .bool last] := by
    exact Blk.fine ((Blk.new w 46 _).alloc _) f1
  have hb2 : Blk w1 (w.heap.size + 1) 46 #[.int .u32 0, .bool false, .bool false, .slice none 0 0, .int .i64 0, .bool false] := Blk.fine (Blk.newAt (by simp)) f1
  have fw1 : Fine w w1 := (by repeat (first | exact Fine.refl _ | assumption | refine Fine.alloc ?_ _ | refine Fine.drew ?_ | refine Fine.drewN ?_ _ | refine Fine.trans ?_ (by assumption) | (refine Fine.kept ?_ (by assumption) (by intro x hx; first | omega | (simp; omega))) | (refine Fine.setCell ?_ (by first | assumption | (simp; done) | (simp; omega)) _)))
  have hs1 : w.heap.size + 2 ≤ w1.heap.size := by have := f1.size; simpa using this
  have HB1 := Lib.hid hb1
  have HB2 := Lib.hid hb2; clear hb2
  have b0 : w1.cell? ⟨w.heap.size, 0, none⟩ = some (.int .u32 e) := hb1.cell 0
  have b1 : w1.cell? ⟨w.heap.size, 1, none⟩ = some (.bool syn) := hb1.cell 1
  have b2 : w1.cell? ⟨w.heap.size, 2, none⟩ = some (.bool fin) := hb1.cell 2
  have b3 : w1.cell? ⟨w.heap.size, 3, none⟩ = some (.slice B len cap) := hb1.cell 3
  have b4 : w1.cell? ⟨w.heap.size, 4, none⟩ = some (.int .i64 dsn) := hb1.cell 4
  have b5 : w1.cell? ⟨w.heap.size, 5, none⟩ = some (.bool last) := hb1.cell 5
  have g0 : w1.cell? ⟨g, 0, none⟩ = some (.slice A rs.length c) := (fw1.cell (p := ⟨g, 0, none⟩) hgl).trans c0
  have g1 : w1.cell? ⟨g, 1, none⟩ = some (.int .u32 e) := (fw1.cell (p := ⟨g, 1, none⟩) hgl).trans c1
  have y0 : w1.frozen? ⟨g, 0, none⟩ = false := (H1.out.fine fw1).frozen 0
  have y1 : w1.frozen? ⟨g, 1, none⟩ = false := (H1.out.fine fw1).frozen 1
  clear hb1 c0 c1 z0 z1
  have HF := Lib.hid f1; clear f1
  by_cases h0 : 0 < n
  · go_upto_region 6 with (fail)
    have HG := Lib.hid (H1.out.fine fw1)
    have HO1 := Lib.hid (fun w' (hf : Fine w1 w') => own_one 46 w'.heap.size (w'.heap.size + 1) ⟨e, syn, fin, B, len, cap, dsn, last⟩ (withSeq p e) v w' (HP.out.fine (fw1.trans hf)) hs rfl rfl)
    have hle := H2.out.rs.1.le
    have hgA : ∀ k, (Value.slice A rs.length c).ownBlock = some k → k ≠ g ∧ k < w.heap.size := fun k hk => ⟨by have := (H2.out.lt k hk).1; omega, (H2.out.lt k hk).2⟩
    have hrb : rs.length ≤ 900 := by have := hl.out; omega
    have hmg : w.heap.size ≠ g := Nat.ne_of_gt hgl
    have e2 : ∀ o, (w1.alloc o).cell? ⟨g, 0, none⟩ = some (.slice A rs.length c) := fun o => (HG.out.fine ((Fine.refl w1).alloc o)).cell 0
    go_region_law (first | (go_simp; go_at_call 65; refine (HO1.out w1.drew (Fine.refl w1).drew).mono ?_; rintro x wA ⟨r1, rfl, hbA, hiA, fA⟩; have eA : wA.cell? ⟨g, 0, none⟩ = some (.slice A rs.length c) := (HG.out.fine (((Fine.refl w1).drew.alloc _).trans fA)).cell 0; have yA : wA.frozen? ⟨g, 0, none⟩ = false := (HG.out.fine (((Fine.refl w1).drew.alloc _).trans fA)).frozen 0) | (refine step_appE rfl sliceP (.tmp 22) (.tmp 25) rfl (g + 1) (.slice A rs.length c) rs rfl (H2.out.fine (fw1.trans (((Fine.refl w1).drew.alloc _).trans fA))) (some ⟨w1.heap.size + 1, 0, none⟩) 1 1 [r1] rfl rfl (RS.ofBlk hbA (layP.flat_one r1).symm rfl (by unfold maxLen; omega)) (by simp; omega) (by simp; unfold maxLen; omega) (by have := fA.size; simp at this; omega) ?_; intro x2 wB oB kB0 gB0 bB; obtain ⟨A2, c2, rfl, _, _⟩ := oB.form; have yB : wB.frozen? ⟨g, 0, none⟩ = false := ((HG.out.fine (((Fine.refl w1).drew.alloc _).trans fA)).kept (Kept.grown (S := fun x => (Value.slice A rs.length c).ownBlock = some x) (Kept.refl _ wA) gB0 (fun k hk _ => hk)) (fun h => (hgA g h).1 rfl)).frozen 0; have gB1 := ((HG.out.fine (((Fine.refl w1).drew.alloc _).trans fA)).kept (Kept.grown (S := fun x => (Value.slice A rs.length c).ownBlock = some x) (Kept.refl _ wA) gB0 (fun k hk _ => hk)) (fun h => (hgA g h).1 rfl)).cell 0))
    all_goals
      have fA' : Fine w1 wA := ((Fine.refl w1).drew.alloc _).trans fA
      have hsA := fA'.size
      have kAB : Kept (fun x => (Value.slice A rs.length c).ownBlock = some x) wA wB := Kept.grown (Kept.refl _ wA) gB0 (fun k hk _ => hk)
      obtain ⟨hq, hk⟩ := push_state (n' := w1.heap.size + 1) HG.out (H2.out.fine fw1) (H3.out.fine fw1) H4.out H5.out (fun b hb => Nat.lt_of_lt_of_le (H6.out b hb) fw1.size) fA' (Nat.le_succ _) hbA.lt hiA oB gB0 bB
      have hm := ((HB1.out.fine fA').kept kAB (fun h => Nat.lt_irrefl _ (hgA _ h).2)).far (p := ⟨g, 0, none⟩) hmg (.slice A2 (rs.length + 1) c2)
      have hr := ((HB2.out.fine fA').kept kAB (fun h => by have := (hgA _ h).2; omega)).far (p := ⟨g, 0, none⟩) (by show _ ≠ g; omega) (.slice A2 (rs.length + 1) c2)
      have hF1 : ∀ b, (F b ∨ (w1.heap.size + 1 < b ∧ b < wB.heap.size)) → F b ∨ w.heap.size ≤ b := fun b hb => hb.imp id (fun h => by omega)
      have hF2 : ¬ (F (w.heap.size + 1) ∨ (w1.heap.size + 1 < w.heap.size + 1 ∧ w.heap.size + 1 < wB.heap.size)) := fun h => by
        rcases h with h | h
        · have := H6.out _ h; omega
        · omega
      generalize (wB.setCell ⟨g, 0, none⟩ (.slice A2 (rs.length + 1) c2)) = wC at hq hk hm hr ⊢
      generalize hF' : (fun b => F b ∨ (w1.heap.size + 1 < b ∧ b < wB.heap.size)) = F' at hq
      have hF1' : ∀ b, F' b → F b ∨ w.heap.size ≤ b := by subst hF'; exact hF1
      have hF2' : ¬ F' (w.heap.size + 1) := by subst hF'; exact hF2
      have KC := Lib.hid ((Kept.of_fine (S := F) fw1).trans hk)
      have HIS := Lib.hid (HP.out.kept KC.out hv)
      clear fA' kAB hF1 hF2 hF' hk oB gB0 bB kB0 hiA hbA fA eA
      have HQ := Lib.hid hq; clear hq
      have HM := Lib.hid hm; have HR := Lib.hid hr; clear hm hr
      have x1 := HQ.out.endAt.1
      go_wp2_with fail
      refine (On_any e n _).mono ?_; rintro x wD ⟨rfl, fD⟩
      have QD := Lib.hid (HQ.out.fine fD)
      have QE := Lib.hid (QD.out.setEnd (onN e n))
      have x2 := QD.out.endAt.1
      have x3 := QD.out.endAt.2.1
      have MD := Lib.hid (HM.out.fine fD)
      have a0 : wD.cell? ⟨w.heap.size, 0, none⟩ = some (.int .u32 e) := MD.out.cell 0
      have a1 : wD.cell? ⟨w.heap.size, 1, none⟩ = some (.bool syn) := MD.out.cell 1
      have a2 : wD.cell? ⟨w.heap.size, 2, none⟩ = some (.bool fin) := MD.out.cell 2
      have a3 : wD.cell? ⟨w.heap.size, 3, none⟩ = some (.slice B len cap) := MD.out.cell 3
      have a4 : wD.cell? ⟨w.heap.size, 4, none⟩ = some (.int .i64 dsn) := MD.out.cell 4
      have a5 : wD.cell? ⟨w.heap.size, 5, none⟩ = some (.bool last) := MD.out.cell 5
      have HO2 := Lib.hid (own_one 46 wD.heap.size (wD.heap.size + 1) ⟨e, syn, fin, B, len, cap, dsn, last⟩ (withSeq p e) v (wD.setCell ⟨g, 1, none⟩ (.int .u32 (onN e n))) ((HIS.out.fine fD).kept (Kept.setIn (S := (· = g)) (p := ⟨g, 1, none⟩) (Kept.refl _ _) rfl _) (fun b hb h => hv b hb (by subst h; exact H4.out))) hs (by simp [World.setCell]) rfl)
      have HD := Lib.hid fD; clear fD
      clear hv
      go_wp2_with fail
      refine HO2.out.mono ?_; rintro x wF ⟨r2, rfl, hbF, hiF, fF⟩
      obtain ⟨q0, q1, q2, qA, ql, qc, q4, q5⟩ := r2
      have HIF := Lib.hid hiF; clear hiF
      have fE : Fine (wD.setCell ⟨g, 1, none⟩ (.int .u32 (onN e n))) wF := ((Fine.refl _).alloc _).trans fF
      have QF := Lib.hid (QE.out.1.fine fE)
      have KF : Kept F w wF := (((KC.out.trans (Kept.of_fine HD.out)).trans (Kept.setIn (S := F) (p := ⟨g, 1, none⟩) (Kept.refl _ _) H4.out (.int .u32 (onN e n))))).trans (Kept.of_fine fE)
      have hrF := ((HR.out.fine HD.out).far (p := ⟨g, 1, none⟩) (by show _ ≠ g; omega) (.int .u32 (onN e n))).fine fE
      have HKF := Lib.hid KF; clear KF
      have HRF := Lib.hid hrF; clear hrF
      have HBF := Lib.hid hbF; clear hbF
      have HFE := Lib.hid fE; clear fE
      clear fF
      have s0 : wF.cell? ⟨wD.heap.size + 1, 0, none⟩ = some (.int .u32 q0) := HBF.out.cell 0
      have s1 : wF.cell? ⟨wD.heap.size + 1, 1, none⟩ = some (.bool q1) := HBF.out.cell 1
      have s2 : wF.cell? ⟨wD.heap.size + 1, 2, none⟩ = some (.bool q2) := HBF.out.cell 2
      have s3 : wF.cell? ⟨wD.heap.size + 1, 3, none⟩ = some (.slice qA ql qc) := HBF.out.cell 3
      have s4 : wF.cell? ⟨wD.heap.size + 1, 4, none⟩ = some (.int .i64 q4) := HBF.out.cell 4
      have s5 : wF.cell? ⟨wD.heap.size + 1, 5, none⟩ = some (.bool q5) := HBF.out.cell 5
      have t0 : wF.cell? ⟨w.heap.size + 1, 0, none⟩ = some (.int .u32 0) := HRF.out.cell 0
      have t1 : wF.cell? ⟨w.heap.size + 1, 1, none⟩ = some (.bool false) := HRF.out.cell 1
      have t2 : wF.cell? ⟨w.heap.size + 1, 2, none⟩ = some (.bool false) := HRF.out.cell 2
      have t3 : wF.cell? ⟨w.heap.size + 1, 3, none⟩ = some (.slice none 0 0) := HRF.out.cell 3
      have t4 : wF.cell? ⟨w.heap.size + 1, 4, none⟩ = some (.int .i64 0) := HRF.out.cell 4
      have t5 : wF.cell? ⟨w.heap.size + 1, 5, none⟩ = some (.bool false) := HRF.out.cell 5
      have u0 := HRF.out.frozen 0
      have u1 := HRF.out.frozen 1
      have u2 := HRF.out.frozen 2
      have u3 := HRF.out.frozen 3
      have u4 := HRF.out.frozen 4
      have u5 := HRF.out.frozen 5
      go_wp2_with fail
      obtain ⟨r1', r2', r3', r4'⟩ := push_end HRF.out QF.out hF2' HIF.out (by have := HD.out.size; have := KC.out.size; omega) (fun b hb => by obtain ⟨_, _, _, _, _, _, _, _, h⟩ := QD.out; have := h b hb; omega) HKF.out
      refine bodyPost_ret (results_cell_row rfl _ _ (w.heap.size + 1) 46 _ (0, 0) _ rfl r1' Try.underlying46 rfl sizeP) rfl ?_
      exact ⟨⟨q0, q1, q2, qA, ql, qc, q4, q5⟩, F', rfl, by unfold pushL; rw [HN.out, if_pos h0]; exact r2', r3', r4', hF1'⟩
  · have hn00 : n = 0 := by omega
    subst hn00
    have HO2 := Lib.hid (own_one 46 w1.heap.size (w1.heap.size + 1) ⟨e, syn, fin, B, len, cap, dsn, last⟩ (withSeq p e) v w1 (HP.out.fine fw1) hs rfl rfl)
    clear h0 hv
    go_wp2_with fail
    refine HO2.out.mono ?_; rintro x wF ⟨r2, rfl, hbF, hiF, fF⟩
    obtain ⟨q0, q1, q2, qA, ql, qc, q4, q5⟩ := r2
    have HIF := Lib.hid hiF; clear hiF
    have fE : Fine w1 wF := ((Fine.refl _).alloc _).trans fF
    have HW : QB w F g ps e := ⟨A, c, rs, H1.out, H2.out, H3.out, H4.out, H5.out, H6.out⟩
    have QF := Lib.hid (HW.fine (fw1.trans fE)); clear HW
    have HKF := Lib.hid (Kept.of_fine (S := F) (fw1.trans fE))
    have HRF := Lib.hid (HB2.out.fine fE)
    have HBF := Lib.hid hbF; clear hbF
    clear fE fF
    have s0 : wF.cell? ⟨w1.heap.size + 1, 0, none⟩ = some (.int .u32 q0) := HBF.out.cell 0
    have s1 : wF.cell? ⟨w1.heap.size + 1, 1, none⟩ = some (.bool q1) := HBF.out.cell 1
    have s2 : wF.cell? ⟨w1.heap.size + 1, 2, none⟩ = some (.bool q2) := HBF.out.cell 2
    have s3 : wF.cell? ⟨w1.heap.size + 1, 3, none⟩ = some (.slice qA ql qc) := HBF.out.cell 3
    have s4 : wF.cell? ⟨w1.heap.size + 1, 4, none⟩ = some (.int .i64 q4) := HBF.out.cell 4
    have s5 : wF.cell? ⟨w1.heap.size + 1, 5, none⟩ = some (.bool q5) := HBF.out.cell 5
    have t0 : wF.cell? ⟨w.heap.size + 1, 0, none⟩ = some (.int .u32 0) := HRF.out.cell 0
    have u0 := HRF.out.frozen 0
    have t1 : wF.cell? ⟨w.heap.size + 1, 1, none⟩ = some (.bool false) := HRF.out.cell 1
    have u1 := HRF.out.frozen 1
    have t2 : wF.cell? ⟨w.heap.size + 1, 2, none⟩ = some (.bool false) := HRF.out.cell 2
    have u2 := HRF.out.frozen 2
    have t3 : wF.cell? ⟨w.heap.size + 1, 3, none⟩ = some (.slice none 0 0) := HRF.out.cell 3
    have u3 := HRF.out.frozen 3
    have t4 : wF.cell? ⟨w.heap.size + 1, 4, none⟩ = some (.int .i64 0) := HRF.out.cell 4
    have u4 := HRF.out.frozen 4
    have t5 : wF.cell? ⟨w.heap.size + 1, 5, none⟩ = some (.bool false) := HRF.out.cell 5
    have u5 := HRF.out.frozen 5
    go_wp2_with fail
    obtain ⟨r1', r2', r3', r4'⟩ := push_end HRF.out QF.out (fun h => by have := H6.out _ h; omega) HIF.out (by omega) (fun b hb => by have := H6.out b hb; omega) HKF.out
    refine bodyPost_ret (results_cell_row rfl _ _ (w.heap.size + 1) 46 _ (0, 0) _ rfl r1' Try.underlying46 rfl sizeP) rfl ?_
    exact ⟨⟨q0, q1, q2, qA, ql, qc, q4, q5⟩, F, rfl, by
      unfold pushL onN
      rw [HN.out, if_neg (by omega)]
      have e0 : (e + ((0 : Nat) : Int)) % 4294967296 = e := by omega
      rw [e0]; exact r2', r3', r4', fun b hb => .inl hb⟩
end Go.Proofs.Ytjldgialhgfhmaa
namespace Go.Proofs.Ytjldgialhgfhmaa
set_option linter.unusedVariables false
set_option linter.unusedSimpArgs false
open Go.ChangeShapes Go.WideShapes Go.ChangeAt Go.RowKit
set_option linter.unusedVariables false

/-- How many pieces are acknowledged by so many numbers. -/
def ackK : List Pc → Int → Nat
  | [], _ => 0
  | p :: ps, came => if came < long p then 0 else ackK ps (came - long p) + 1
theorem ackK_le (ps : List Pc) (came : Int) : ackK ps came ≤ ps.length := by
  induction ps generalizing came with
  | nil => simp [ackK]
  | cons p ps ih => simp only [ackK]; split <;> simp; exact ih _
/-- More numbers than there are: refused. -/
theorem ack_over (g : Nat) (F : Nat → Prop) (ps : List Pc) (e a : Int) (w : World) (h : QB w F g ps e) (ho : dist (beginQ ps e) e < dist (beginQ ps e) a) :
    Calls Try.prog 30 #[.pointer (some ⟨g, 0, none⟩), .int .u32 a] w fun x w' => x = .returned (.tuple #[.slice none 0 0, .bool false]) ∧ Fine w w' := by
  have H := Lib.hid h; clear h
  have c1 := H.out.endAt.1
  have hgl := H.out.endAt.2.2.1
  obtain ⟨b, hb⟩ : ∃ b, beginQ ps e = b := ⟨_, rfl⟩
  have HBg := Lib.hid (fun w' (hf : Fine w w') => begin_any g F ps e w' (H.out.fine hf))
  rw [hb] at HBg ho
  clear hb
  have d1 := dist_bd b e
  have d2 := dist_bd b a
  obtain ⟨m, hm⟩ : ∃ m, dist b e = m := ⟨_, rfl⟩
  obtain ⟨n, hn⟩ : ∃ n, dist b a = n := ⟨_, rfl⟩
  have HM := Lib.hid (fun w' => Steps_any b e w')
  have HN := Lib.hid (fun w' => Steps_any b a w')
  rw [hm] at HM d1 ho
  rw [hn] at HN d2 ho
  clear hm hn
  go_enter Try.func30, Try.ntmps30
  go_wp2_with fail
  go_step3
  go_wp2_with fail
  go_region_held3 (fun w' => w'.cell? ⟨g, 1, none⟩ = some (.int .u32 e)) (first | exact c1 | exact (fA.cell (p := ⟨g, 1, none⟩) hgl).trans c1 | exact ((fA.trans fB).cell (p := ⟨g, 1, none⟩) hgl).trans c1) (first | (go_at_call 32; refine (HBg.out w.drew (Fine.refl w).drew).mono ?_; rintro x wA ⟨rfl, fA0⟩; have fA : Fine w wA := (Fine.refl w).drew.trans fA0) | (go_at_call 67; refine (HM.out _).mono ?_; rintro x wB ⟨rfl, fB⟩))
  go_wp2_with fail
  refine (HBg.out wB (fA.trans fB)).mono ?_; rintro x wC ⟨rfl, fC⟩
  go_wp2_with fail
  refine (HN.out wC).mono ?_; rintro x wD ⟨rfl, fD⟩
  go_wp2_with fail
  try rw [Exit.noGoto_ret]
  go_ret2
  exact ⟨rfl, (by repeat (first | exact Fine.refl _ | assumption | refine Fine.alloc ?_ _ | refine Fine.drew ?_ | refine Fine.drewN ?_ _ | refine Fine.trans ?_ (by assumption) | (refine Fine.kept ?_ (by assumption) (by intro x hx; first | omega | (simp; omega))) | (refine Fine.setCell ?_ (by first | assumption | (simp; done) | (simp; omega)) _)))⟩
end Go.Proofs.Ytjldgialhgfhmaa
namespace Go.Proofs.Ytjldgialhgfhmaa
set_option linter.unusedVariables false
set_option linter.unusedSimpArgs false
open Go.ChangeShapes Go.WideShapes Go.ChangeAt Go.RowKit
set_option linter.unusedVariables false

/-- A queue whose pieces are a row that a call has made. -/
theorem QT.ofRow {t : TypeId} {w : World} {g n m : Nat} {x : Value} {e : Int} {rs' : List Raw} {ps' : List Pc} (hb : Blk w g t #[x, .int .u32 e]) (hr : Blk w n 46 (layP.flat rs').toArray) (hi : Iss w (Fresh n w) rs' ps') (hg : g < n) (hm : m = rs'.length) (hmx : m ≤ maxLen) :
    QT t (w.setCell ⟨g, 0, none⟩ (.slice (some ⟨n, 0, none⟩) m m)) (fun b => b = g ∨ (n ≤ b ∧ b < w.heap.size)) g ps' e := by
  subst hm
  have kk : Kept (· = g) w (w.setCell ⟨g, 0, none⟩ (.slice (some ⟨n, 0, none⟩) rs'.length rs'.length)) := Kept.setIn (S := (· = g)) (p := ⟨g, 0, none⟩) (Kept.refl _ _) rfl _
  have e1 : (w.setCell ⟨g, 0, none⟩ (.slice (some ⟨n, 0, none⟩) rs'.length rs'.length)).heap.size = w.heap.size := by simp [World.setCell]
  refine ⟨some ⟨n, 0, none⟩, rs'.length, rs', (hb.set_ 0 _).cast (by simp), (Own.ofBlk hr rfl (show g + 1 ≤ n by omega) hmx).kept kk (fun k hk h => by have h1 : n = k := Option.some.inj hk; omega), (hi.kept kk (fun b h1 h2 => by have := h1.1; omega)).less (fun b h1 => ⟨.inr ⟨Nat.le_of_lt h1.1, h1.2.1⟩, by have := h1.1; omega, fun o ho => by injection ho with ho; injection ho with ho; have := h1.1; omega⟩), .inl rfl, fun b o ho => ?_, fun b h1 => ?_⟩
  · injection ho with ho
    injection ho with ho
    exact .inr ⟨by omega, by have := hr.lt; omega⟩
  · rw [e1]
    rcases h1 with h1 | h1
    · subst h1; exact hb.lt
    · exact h1.2
def AckOf (F : Nat → Prop) (g : Nat) (ps : List Pc) (e : Int) (k : Nat) (w : World) (x : Ending) (w' : World) : Prop :=
  ∃ A c rs' F', x = .returned (.tuple #[.slice A rs'.length c, .bool true]) ∧ RS layP w' A c rs' ∧ Iss w' (fun b => w.heap.size ≤ b ∧ b < w'.heap.size ∧ ¬ F' b) rs' (ps.take k) ∧ (∀ b o, A = some ⟨b, o, none⟩ → w.heap.size ≤ b ∧ b < w'.heap.size ∧ ¬ F' b) ∧ QB w' F' g (ps.drop k) e ∧ Kept F w w' ∧ (∀ b, F' b → F b ∨ w.heap.size ≤ b)
theorem ack_end {w wr w2 w3 : World} {F : Nat → Prop} {g j m : Nat} {x : Value} {e : Int} {ps : List Pc} {rs2 rs3 : List Raw} (hF : F g) (hgl : g < w.heap.size) (f1 : Fine w wr) (f2 : Fine wr w2) (f3 : Fine w2 w3)
    (hb : Blk w3 g 107 #[x, .int .u32 e]) (b2 : Blk w2 wr.heap.size 46 (layP.flat rs2).toArray) (i2 : Iss w2 (Fresh wr.heap.size w2) rs2 (ps.take j)) (l2 : rs2.length = j) (b3 : Blk w3 w2.heap.size 46 (layP.flat rs3).toArray) (i3 : Iss w3 (Fresh w2.heap.size w3) rs3 (ps.drop j)) (l3 : rs3.length = m) (hj : j ≤ maxLen) (hm : m ≤ maxLen) :
    AckOf F g ps e j w (.returned (.tuple #[.slice (some ⟨wr.heap.size, 0, none⟩) j j, .bool true])) (w3.setCell ⟨g, 0, none⟩ (.slice (some ⟨w2.heap.size, 0, none⟩) m m)) := by
  have h1 := f1.size
  have h2 := f2.size
  have h3 := f3.size
  have kk : Kept (· = g) w3 (w3.setCell ⟨g, 0, none⟩ (.slice (some ⟨w2.heap.size, 0, none⟩) m m)) := Kept.setIn (S := (· = g)) (p := ⟨g, 0, none⟩) (Kept.refl _ _) rfl _
  have h4 := kk.size
  have b2l := b2.lt
  refine ⟨some ⟨wr.heap.size, 0, none⟩, j, rs2, _, by rw [l2], (RS.ofBlk (b2.fine f3) rfl l2.symm hj).kept kk (fun b o ho h => by injection ho with ho; injection ho with ho; omega), ((i2.fine f3).kept kk (fun b hb h => by have := hb.1; omega)).less (fun b hb => by have := hb.1; have := hb.2; exact ⟨by omega, by omega, fun h => by omega⟩), fun b o ho => by injection ho with ho; injection ho with ho; exact ⟨by omega, by omega, fun h => by omega⟩, QT.ofRow hb b3 i3 (by omega) l3.symm hm, ((Kept.of_fine (S := F) ((f1.trans f2).trans f3))).transG kk (fun _ _ s => s) (fun y hy s => by subst s; exact hF), fun b hb => ?_⟩
  rcases hb with hb | hb
  · subst hb; exact .inl hF
  · exact .inr (by omega)
theorem ack_any (g : Nat) (F : Nat → Prop) (ps : List Pc) (e a : Int) (w : World) (h : QB w F g ps e) (ho : dist (beginQ ps e) a ≤ dist (beginQ ps e) e) (hn' : ps.length ≤ 1000) (hs' : ∀ p ∈ ps, p.xs.length ≤ 1000) :
    Calls Try.prog 30 #[.pointer (some ⟨g, 0, none⟩), .int .u32 a] w (AckOf F g ps e (ackK ps (dist (beginQ ps e) a)) w) := by
  have H := Lib.hid h; clear h
  have c1 := H.out.endAt.1
  have hgl := H.out.endAt.2.2.1
  obtain ⟨b, hb⟩ : ∃ b, beginQ ps e = b := ⟨_, rfl⟩
  have HBg := Lib.hid (fun w' (hf : Fine w w') => begin_any g F ps e w' (H.out.fine hf))
  rw [hb] at HBg ho
  have HEB := Lib.hid hb; clear hb
  have d1 := dist_bd b e
  have d2 := dist_bd b a
  obtain ⟨m, hm⟩ : ∃ m, dist b e = m := ⟨_, rfl⟩
  obtain ⟨n, hn⟩ : ∃ n, dist b a = n := ⟨_, rfl⟩
  have HM := Lib.hid (fun w' => Steps_any b e w')
  have HN := Lib.hid (fun w' => Steps_any b a w')
  rw [hm] at HM d1 ho
  rw [hn] at HN d2 ho
  have HEN := Lib.hid hn; clear hm hn
  go_enter Try.func30, Try.ntmps30
  go_wp2_with fail
  go_step3
  go_wp2_with fail
  go_region_held3 (fun w' => w'.cell? ⟨g, 1, none⟩ = some (.int .u32 e)) (first | exact c1 | exact (fA.cell (p := ⟨g, 1, none⟩) hgl).trans c1 | exact ((fA.trans fB).cell (p := ⟨g, 1, none⟩) hgl).trans c1) (first | (go_at_call 32; refine (HBg.out w.drew (Fine.refl w).drew).mono ?_; rintro x wA ⟨rfl, fA0⟩; have fA : Fine w wA := (Fine.refl w).drew.trans fA0) | (go_at_call 67; refine (HM.out _).mono ?_; rintro x wB ⟨rfl, fB⟩))
  go_wp2_with fail
  refine (HBg.out wB (fA.trans fB)).mono ?_; rintro x wC ⟨rfl, fC⟩
  go_wp2_with fail
  refine (HN.out wC).mono ?_; rintro x wD ⟨rfl, fD⟩
  go_wp2_with fail
  go_step3
  go_wp2_with fail
  go_loopg [8, 7] ps.length (fun gk s8 s7 wr => ∃ j : Nat, j ≤ ps.length ∧ gk = ps.length - j ∧ s8 = .int .i64 j ∧ ∃ z : Int, s7 = .int .i64 z ∧ 0 ≤ z ∧ z < 4294967296 ∧ ackK ps n = ackK (ps.drop j) z + j ∧ Fine w wr)
  case atStart => exact ⟨0, Nat.zero_le _, rfl, rfl, n, rfl, by omega, by omega, by simp, (by repeat (first | exact Fine.refl _ | assumption | refine Fine.alloc ?_ _ | refine Fine.drew ?_ | refine Fine.drewN ?_ _ | refine Fine.trans ?_ (by assumption) | (refine Fine.kept ?_ (by assumption) (by intro x hx; first | omega | (simp; omega))) | (refine Fine.setCell ?_ (by first | assumption | (simp; done) | (simp; omega)) _)))⟩
  case round =>
    obtain ⟨j, hj, hg, rfl, z, rfl, hz0, hz1, hk, hf⟩ := hrel
    have HQ := Lib.hid (H.out.fine hf)
    obtain ⟨A, c, rs, h1, h2, h3, h4, h5, h6⟩ := HQ.out
    have g0 : wr.cell? ⟨g, 0, none⟩ = some (.slice A rs.length c) := h1.cell 0
    have hll := Lib.hid h3.1
    have HK := Lib.hid hk; clear hk
    by_cases hlt : j < rs.length
    · obtain ⟨r, hr0⟩ : ∃ r, rs[j]? = some r := ⟨rs[j]'hlt, by rw [List.getElem?_eq_getElem]⟩
      obtain ⟨p, hp0⟩ : ∃ p, ps[j]? = some p := ⟨ps[j]'(by have := hll.out; omega), by rw [List.getElem?_eq_getElem]⟩
      obtain ⟨b1, o1, rfl, hb1, hc1⟩ := h2.rs.1.at_ hr0
      have HL := Lib.hid (fun w' (hw : Fine wr w') hs => long_any r p _ w' ((h3.2 j r p hr0 hp0).fine hw) hs)
      have hle := h2.rs.1.le
      have hmx := h2.rs.1.max
      have hps := hs' p (List.mem_of_getElem? hp0)
      obtain ⟨r0, r1, r2, r3, r4, r5, r6, r7⟩ := r
      have e0 := hc1 0 (.int .u32 r0) rfl
      have e1 := hc1 1 (.bool r1) rfl
      have e2 := hc1 2 (.bool r2) rfl
      have e3 := hc1 3 (.slice r3 r4 r5) rfl
      have e4 := hc1 4 (.int .i64 r6) rfl
      have e5 := hc1 5 (.bool r7) rfl
      simp only [← Nat.add_assoc, Nat.add_zero] at e0 e1 e2 e3 e4 e5
      clear hc1
      have hlp : long p ≤ 1002 := by unfold long; split <;> split <;> omega
      go_wp2_with fail
      refine (HL.out wr (Fine.refl wr) hps).mono ?_; rintro x w2 ⟨rfl, f2⟩
      have g2 : w2.cell? ⟨g, 0, none⟩ = some (.slice (some ⟨b1, o1, none⟩) rs.length c) := (h1.fine f2).cell 0
      have hjc : j ≤ c := by omega
      by_cases hzl : z < (long p : Int)
      · go_wp2_with fail
        have hf2 := hf.trans f2
        have HZ := Lib.hid (show ackK (ps.drop j) z = 0 by rw [List.drop_eq_getElem_cons (by have := hll.out; omega)]; have e9 := (List.getElem?_eq_some_iff.1 hp0).2; rw [e9]; simp only [ackK]; rw [if_pos hzl])
        replace h1 := h1.fine f2; replace h2 := h2.fine f2; replace h3 := h3.fine f2
        clear f2 HL hr0 hp0 g0 e0 e1 e2 e3 e4 e5 hb1
        have hjr : j ≤ rs.length := by have := hll.out; omega
        have htl : (rs.take j).length = j := by rw [List.length_take]; omega
        have HT := own_any _ c (rs.take j) (ps.take j) _ w2 (h2.rs.1.front j hjr) (h3.take j) (by rw [htl]; omega) (fun p hp => hs' p (List.mem_of_mem_take hp))
        rw [htl] at HT
        have HT' := Lib.hid HT; clear HT
        have H1 := Lib.hid h1; have H2 := Lib.hid h2; have H3 := Lib.hid h3; have H4 := Lib.hid h4; have H5 := Lib.hid h5; have H6 := Lib.hid h6
        clear h1 h2 h3 h4 h5 h6 htl
        refine HT'.out.mono ?_; rintro x w4 ⟨rs2, rfl, l2, b2, i2, f2⟩
        have q0 := (H1.out.fine f2).cell 0
        have q1 := (H1.out.fine f2).frozen 0
        simp at q0
        obtain ⟨A', hrun0, hB, _⟩ := H2.out.rs.1.run_behind sliceP j hjr
        have hRB := hB w4 (H2.out.rs.1.fine f2)
        have hdl : (rs.drop j).length = rs.length - j := by simp
        have HU := own_any A' (c - j) (rs.drop j) (ps.drop j) _ w4 hRB ((H3.out.fine f2).drop j) (by rw [hdl]; have := hll.out; omega) (fun p hp => hs' p (List.mem_of_mem_drop hp))
        rw [hdl] at HU
        have HU' := Lib.hid HU; clear HU hdl hRB hB
        have L2 := Lib.hid l2; have B2 := Lib.hid b2; have I2 := Lib.hid i2; have F2 := Lib.hid f2
        clear l2 b2 i2 f2
        go_wp2_with fail
        refine HU'.out.mono ?_; rintro x w5 ⟨rs3, rfl, l3, b3, i3, f3⟩
        have hb3 := (H1.out.fine F2.out).fine f3
        have q2 : w5.cell? ⟨g, 0, none⟩ = some (.slice (some ⟨b1, o1, none⟩) rs.length c) := hb3.cell 0
        have q3 : w5.frozen? ⟨g, 0, none⟩ = false := hb3.frozen 0
        have HB3 := Lib.hid hb3; have B3 := Lib.hid b3; have I3 := Lib.hid i3; have L3 := Lib.hid l3; have F3 := Lib.hid f3
        clear hb3 b3 i3 l3 f3
        go_wp2_with fail
        try rw [Exit.noGoto_ret]
        go_ret2
        have hN : ackK ps (dist (beginQ ps e) a) = j := by
          rw [HEB.out, HEN.out, HK.out, HZ.out]; omega
        rw [hN]
        exact ack_end H4.out hgl hf2 F2.out F3.out HB3.out B2.out I2.out L2.out B3.out I3.out L3.out (by unfold maxLen; omega) (by unfold maxLen; have := hll.out; omega)
      · have HZ := Lib.hid (show ackK (ps.drop j) z = ackK (ps.drop (j + 1)) (z - long p) + 1 by rw [List.drop_eq_getElem_cons (by have := hll.out; omega)]; have e9 := (List.getElem?_eq_some_iff.1 hp0).2; rw [e9]; simp only [ackK]; rw [if_neg hzl])
        have hjp : j < ps.length := by have := hll.out; omega
        go_wp2_with fail
        go_roundg (ps.length - (j + 1))
        case rel => exact ⟨j + 1, by omega, rfl, by go_num, z - long p, by go_num, by omega, by omega, by rw [HK.out, HZ.out]; omega, (by repeat (first | exact Fine.refl _ | assumption | refine Fine.alloc ?_ _ | refine Fine.drew ?_ | refine Fine.drewN ?_ _ | refine Fine.trans ?_ (by assumption) | (refine Fine.kept ?_ (by assumption) (by intro x hx; first | omega | (simp; omega))) | (refine Fine.setCell ?_ (by first | assumption | (simp; done) | (simp; omega)) _)))⟩
        all_goals omega
    · have hjc : j ≤ c := by have := h2.rs.1.le; have := hll.out; omega
      have hjr : j ≤ rs.length := by have := hll.out; omega
      have htl : (rs.take j).length = j := by rw [List.length_take]; omega
      have HT := own_any A c (rs.take j) (ps.take j) _ wr (h2.rs.1.front j hjr) (h3.take j) (by rw [htl]; omega) (fun p hp => hs' p (List.mem_of_mem_take hp))
      rw [htl] at HT
      have HT' := Lib.hid HT; clear HT
      have H1 := Lib.hid h1; have H2 := Lib.hid h2; have H3 := Lib.hid h3; have H4 := Lib.hid h4; have H5 := Lib.hid h5; have H6 := Lib.hid h6
      clear h1 h2 h3 h4 h5 h6 htl
      go_wp2_with fail
      refine HT'.out.mono ?_; rintro x w2 ⟨rs2, rfl, l2, b2, i2, f2⟩
      have q0 := (H1.out.fine f2).cell 0
      have q1 := (H1.out.fine f2).frozen 0
      simp at q0
      obtain ⟨A', hrun0, hB, _⟩ := H2.out.rs.1.run_behind sliceP j hjr
      have hRB := hB w2 (H2.out.rs.1.fine f2)
      have hdl : (rs.drop j).length = rs.length - j := by simp
      have HU := own_any A' (c - j) (rs.drop j) (ps.drop j) _ w2 hRB ((H3.out.fine f2).drop j) (by rw [hdl]; have := hll.out; omega) (fun p hp => hs' p (List.mem_of_mem_drop hp))
      rw [hdl] at HU
      have HU' := Lib.hid HU; clear HU hdl hRB hB
      have L2 := Lib.hid l2; have B2 := Lib.hid b2; have I2 := Lib.hid i2; have F2 := Lib.hid f2
      clear l2 b2 i2 f2
      go_wp2_with fail
      refine HU'.out.mono ?_; rintro x w3 ⟨rs3, rfl, l3, b3, i3, f3⟩
      have hb3 := (H1.out.fine F2.out).fine f3
      have q2 : w3.cell? ⟨g, 0, none⟩ = some (.slice A rs.length c) := hb3.cell 0
      have q3 : w3.frozen? ⟨g, 0, none⟩ = false := hb3.frozen 0
      have HB3 := Lib.hid hb3; have B3 := Lib.hid b3; have I3 := Lib.hid i3; have L3 := Lib.hid l3; have F3 := Lib.hid f3
      clear hb3 b3 i3 l3 f3
      go_wp2_with fail
      try rw [Exit.noGoto_ret]
      go_ret2
      have hN : ackK ps (dist (beginQ ps e) a) = j := by
        rw [HEB.out, HEN.out, HK.out, List.drop_eq_nil_of_le (by have := hll.out; omega)]; simp [ackK]
      rw [hN]
      exact ack_end H4.out hgl hf F2.out F3.out HB3.out B2.out I2.out L2.out B3.out I3.out L3.out (by unfold maxLen; omega) (by unfold maxLen; have := hll.out; omega)
end Go.Proofs.Ytjldgialhgfhmaa
