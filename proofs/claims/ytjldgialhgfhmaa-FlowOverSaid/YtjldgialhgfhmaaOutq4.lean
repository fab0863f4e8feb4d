/- Package outq: Push. -/
import Derived.Test.YtjldgialhgfhmaaOutq3b
import Derived.Deep.Cut
import Derived.Deep.CutBlock
import Derived.Deep.RegionLaw
namespace Go.Proofs.Ytjldgialhgfhmaa
open Go.ChangeShapes Go.WideShapes Go.ChangeAt Go.RowKit
set_option linter.unusedVariables false

def withSeq (p : Pc) (e : Int) : Pc := { p with seq := e }
def pushL (ps : List Pc) (p : Pc) (e : Int) : List Pc := if 0 < long p then ps ++ [withSeq p e] else ps
def PushOf (F : Nat → Prop) (g : Nat) (ps : List Pc) (e : Int) (p : Pc) (w : World) (x : Ending) (w' : World) : Prop :=
  ∃ r' F', x = .returned (.agg (Raw.cells r').toArray) ∧ QB w' F' g (pushL ps p e) (onN e (long p)) ∧ Is w' (fun b => w.heap.size ≤ b ∧ b < w'.heap.size ∧ ¬ F' b ∧ Unf w' b) r' (withSeq p e) ∧ Kept F w w' ∧ (∀ b, F' b → F b ∨ w.heap.size ≤ b)
theorem own_one (t : TypeId) (n n' : Nat) (r : Raw) (p : Pc) (v : Nat → Prop) (w : World) (hp : Is w v r p) (hs : p.xs.length ≤ 1000) (hn : n = w.heap.size) (hn' : n' = n + 1) :
    Calls Try.prog 65 #[.slice (some ⟨n, 0, none⟩) 1 1] (w.alloc (.cells r.cells.toArray t)) fun x w' => ∃ r1 : Raw, x = .returned (.slice (some ⟨n', 0, none⟩) 1 1) ∧ Blk w' n' 46 r1.cells.toArray ∧ Is w' (Fresh n' w') r1 p ∧ Fine (w.alloc (.cells r.cells.toArray t)) w' := by
  subst hn hn'
  have hr : RS layP (w.alloc (.cells r.cells.toArray t)) (some ⟨w.heap.size, 0, none⟩) 1 [r] := RS.ofBlk (Blk.newAt rfl) (layP.flat_one r).symm rfl (by unfold maxLen; omega)
  have hf : Fine w (w.alloc (.cells r.cells.toArray t)) := (by repeat (first | exact Fine.refl _ | assumption | refine Fine.alloc ?_ _ | refine Fine.drew ?_ | refine Fine.drewN ?_ _ | refine Fine.trans ?_ (by assumption) | (refine Fine.kept ?_ (by assumption) (by intro x hx; first | omega | (simp; omega))) | (refine Fine.setCell ?_ (by first | assumption | (simp; done) | (simp; omega)) _)))
  refine (own_any _ 1 [r] [p] v _ hr (Iss.one (hp.fine hf)) (by simp) (by intro q hq; simp at hq; subst hq; exact hs)).mono ?_
  rintro x w' ⟨rs', rfl, hl, hb, hi, f⟩
  have e1 : (w.alloc (.cells r.cells.toArray t)).heap.size = w.heap.size + 1 := by simp
  rw [e1] at hb hi ⊢
  match rs', hl with
  | [r1], _ => exact ⟨r1, rfl, hb.cast (by rw [layP.flat_one]; rfl), hi.2 0 r1 p rfl rfl, f⟩
def PushC (w : World) (g m : Nat) (A : Option Addr) (n c : Nat) (r : Raw) : Prop :=
  w.cell? ⟨g, 0, none⟩ = some (.slice A n c) ∧ w.frozen? ⟨g, 0, none⟩ = false ∧ w.cell? ⟨m, 0, none⟩ = some (.int .u32 r.seq) ∧ w.cell? ⟨m, 1, none⟩ = some (.bool r.syn) ∧ w.cell? ⟨m, 2, none⟩ = some (.bool r.fin) ∧ w.cell? ⟨m, 3, none⟩ = some (.slice r.A r.len r.cap) ∧ w.cell? ⟨m, 4, none⟩ = some (.int .i64 r.dsn) ∧ w.cell? ⟨m, 5, none⟩ = some (.bool r.last)
theorem PushC.of {w : World} {g m : Nat} {A : Option Addr} {n c : Nat} {e : Int} {r : Raw} (h : Blk w g 107 #[.slice A n c, .int .u32 e]) (h2 : Blk w m 46 r.cells.toArray) : PushC w g m A n c r :=
  ⟨h.cell 0, h.frozen 0, h2.cell 0, h2.cell 1, h2.cell 2, h2.cell 3, h2.cell 4, h2.cell 5⟩
def cellOf (w : World) (g : Nat) : Value := (w.cell? ⟨g, 0, none⟩).getD (.bool false)
theorem cellOf_of {w : World} {g : Nat} {v : Value} (h : w.cell? ⟨g, 0, none⟩ = some v) : cellOf w g = v := by unfold cellOf; rw [h]; rfl
theorem PushD.of {t : TypeId} {w : World} {g m : Nat} {cs : Array Value} {r : Raw} (h : Blk w g t cs) (hc : 0 < cs.size) (h2 : Blk w m 46 r.cells.toArray) :
    w.cell? ⟨g, 0, none⟩ = some (cellOf w g) ∧ w.frozen? ⟨g, 0, none⟩ = false ∧ w.cell? ⟨m, 0, none⟩ = some (.int .u32 r.seq) ∧ w.cell? ⟨m, 1, none⟩ = some (.bool r.syn) ∧ w.cell? ⟨m, 2, none⟩ = some (.bool r.fin) ∧ w.cell? ⟨m, 3, none⟩ = some (.slice r.A r.len r.cap) ∧ w.cell? ⟨m, 4, none⟩ = some (.int .i64 r.dsn) ∧ w.cell? ⟨m, 5, none⟩ = some (.bool r.last) := by
  refine ⟨?_, h.frozen 0, h2.cell 0, h2.cell 1, h2.cell 2, h2.cell 3, h2.cell 4, h2.cell 5⟩
  have e := h.cell 0
  rw [Array.getElem?_eq_getElem hc] at e
  rw [cellOf_of e]; exact e
theorem QT.endAt {t : TypeId} {w : World} {F : Nat → Prop} {g : Nat} {ps : List Pc} {e : Int} (h : QT t w F g ps e) : w.cell? ⟨g, 1, none⟩ = some (.int .u32 e) ∧ w.frozen? ⟨g, 1, none⟩ = false ∧ g < w.heap.size ∧ F g := by
  obtain ⟨A, c, rs, h1, h2, h3, h4, h5, h6⟩ := h
  exact ⟨h1.cell 1, h1.frozen 1, h1.lt, h4⟩
theorem push_end {t : TypeId} {w wF : World} {F F' : Nat → Prop} {g nn : Nat} {L : List Pc} {e' : Int} {q0 q4 : Int} {q1 q2 q5 : Bool} {qA : Option Addr} {ql qc : Nat} {p' : Pc}
    (hr : Blk wF (w.heap.size + 1) 46 #[.int .u32 0, .bool false, .bool false, .slice none 0 0, .int .i64 0, .bool false]) (hq : QT t wF F' g L e') (hF : ¬ F' (w.heap.size + 1))
    (hi : Is wF (Fresh nn wF) ⟨q0, q1, q2, qA, ql, qc, q4, q5⟩ p') (hnn : w.heap.size + 1 ≤ nn) (hF2 : ∀ b, F' b → b ≤ nn) (hk : Kept F w wF) :
    Blk ((((((wF.setCell ⟨w.heap.size + 1, 0, none⟩ (.int .u32 q0)).setCell ⟨w.heap.size + 1, 1, none⟩ (.bool q1)).setCell ⟨w.heap.size + 1, 2, none⟩ (.bool q2)).setCell ⟨w.heap.size + 1, 3, none⟩ (.slice qA ql qc)).setCell ⟨w.heap.size + 1, 4, none⟩ (.int .i64 q4)).setCell ⟨w.heap.size + 1, 5, none⟩ (.bool q5)) (w.heap.size + 1) 46 #[.int .u32 q0, .bool q1, .bool q2, .slice qA ql qc, .int .i64 q4, .bool q5] ∧ QT t ((((((wF.setCell ⟨w.heap.size + 1, 0, none⟩ (.int .u32 q0)).setCell ⟨w.heap.size + 1, 1, none⟩ (.bool q1)).setCell ⟨w.heap.size + 1, 2, none⟩ (.bool q2)).setCell ⟨w.heap.size + 1, 3, none⟩ (.slice qA ql qc)).setCell ⟨w.heap.size + 1, 4, none⟩ (.int .i64 q4)).setCell ⟨w.heap.size + 1, 5, none⟩ (.bool q5)) F' g L e' ∧
    Is ((((((wF.setCell ⟨w.heap.size + 1, 0, none⟩ (.int .u32 q0)).setCell ⟨w.heap.size + 1, 1, none⟩ (.bool q1)).setCell ⟨w.heap.size + 1, 2, none⟩ (.bool q2)).setCell ⟨w.heap.size + 1, 3, none⟩ (.slice qA ql qc)).setCell ⟨w.heap.size + 1, 4, none⟩ (.int .i64 q4)).setCell ⟨w.heap.size + 1, 5, none⟩ (.bool q5)) (fun b => w.heap.size ≤ b ∧ b < (World.heap ((((((wF.setCell ⟨w.heap.size + 1, 0, none⟩ (.int .u32 q0)).setCell ⟨w.heap.size + 1, 1, none⟩ (.bool q1)).setCell ⟨w.heap.size + 1, 2, none⟩ (.bool q2)).setCell ⟨w.heap.size + 1, 3, none⟩ (.slice qA ql qc)).setCell ⟨w.heap.size + 1, 4, none⟩ (.int .i64 q4)).setCell ⟨w.heap.size + 1, 5, none⟩ (.bool q5))).size ∧ ¬ F' b ∧ Unf ((((((wF.setCell ⟨w.heap.size + 1, 0, none⟩ (.int .u32 q0)).setCell ⟨w.heap.size + 1, 1, none⟩ (.bool q1)).setCell ⟨w.heap.size + 1, 2, none⟩ (.bool q2)).setCell ⟨w.heap.size + 1, 3, none⟩ (.slice qA ql qc)).setCell ⟨w.heap.size + 1, 4, none⟩ (.int .i64 q4)).setCell ⟨w.heap.size + 1, 5, none⟩ (.bool q5)) b) ⟨q0, q1, q2, qA, ql, qc, q4, q5⟩ p' ∧ Kept F w ((((((wF.setCell ⟨w.heap.size + 1, 0, none⟩ (.int .u32 q0)).setCell ⟨w.heap.size + 1, 1, none⟩ (.bool q1)).setCell ⟨w.heap.size + 1, 2, none⟩ (.bool q2)).setCell ⟨w.heap.size + 1, 3, none⟩ (.slice qA ql qc)).setCell ⟨w.heap.size + 1, 4, none⟩ (.int .i64 q4)).setCell ⟨w.heap.size + 1, 5, none⟩ (.bool q5)) := by
  have hb := ((((((hr.set_ 0 (.int .u32 q0)).set_ 1 (.bool q1)).set_ 2 (.bool q2)).set_ 3 (.slice qA ql qc)).set_ 4 (.int .i64 q4)).set_ 5 (.bool q5)).cast (cs' := #[.int .u32 q0, .bool q1, .bool q2, .slice qA ql qc, .int .i64 q4, .bool q5]) (by simp)
  have kk : Kept (· = w.heap.size + 1) wF ((((((wF.setCell ⟨w.heap.size + 1, 0, none⟩ (.int .u32 q0)).setCell ⟨w.heap.size + 1, 1, none⟩ (.bool q1)).setCell ⟨w.heap.size + 1, 2, none⟩ (.bool q2)).setCell ⟨w.heap.size + 1, 3, none⟩ (.slice qA ql qc)).setCell ⟨w.heap.size + 1, 4, none⟩ (.int .i64 q4)).setCell ⟨w.heap.size + 1, 5, none⟩ (.bool q5)) := Kept.setIn (S := (· = w.heap.size + 1)) (Kept.setIn (S := (· = w.heap.size + 1)) (Kept.setIn (S := (· = w.heap.size + 1)) (Kept.setIn (S := (· = w.heap.size + 1)) (Kept.setIn (S := (· = w.heap.size + 1)) (Kept.setIn (S := (· = w.heap.size + 1)) (p := ⟨w.heap.size + 1, 0, none⟩) (Kept.refl _ _) rfl _) (p := ⟨w.heap.size + 1, 1, none⟩) rfl _) (p := ⟨w.heap.size + 1, 2, none⟩) rfl _) (p := ⟨w.heap.size + 1, 3, none⟩) rfl _) (p := ⟨w.heap.size + 1, 4, none⟩) rfl _) (p := ⟨w.heap.size + 1, 5, none⟩) rfl _
  generalize ((((((wF.setCell ⟨w.heap.size + 1, 0, none⟩ (.int .u32 q0)).setCell ⟨w.heap.size + 1, 1, none⟩ (.bool q1)).setCell ⟨w.heap.size + 1, 2, none⟩ (.bool q2)).setCell ⟨w.heap.size + 1, 3, none⟩ (.slice qA ql qc)).setCell ⟨w.heap.size + 1, 4, none⟩ (.int .i64 q4)).setCell ⟨w.heap.size + 1, 5, none⟩ (.bool q5)) = wG at hb kk ⊢
  have hs := kk.size
  refine ⟨hb, hq.kept kk (fun b h1 h2 => hF (h2 ▸ h1)), ((hi.kept kk (fun b h1 h2 => by have := h1.1; omega)).less (fun b h1 => ⟨by have := h1.1; omega, by have := h1.2; omega, fun h => by have := hF2 b h; have := h1.1; omega, h1.2.2.kept kk h1.2.1 (by have := h1.1; omega)⟩)), hk.transG kk (fun _ _ s => s) (fun x hx s => by omega)⟩
set_option maxHeartbeats 1000000 in
set_option maxRecDepth 20000 in
theorem push_any (g : Nat) (F v : Nat → Prop) (ps : List Pc) (e : Int) (r : Raw) (p : Pc) (w : World) (h : QB w F g ps e) (hp : Is w v r p) (hv : ∀ b, v b → ¬ F b) (he : 0 ≤ e ∧ e < 4294967296) (hn : ps.length ≤ 900) (hs : p.xs.length ≤ 1000) :
    Calls Try.prog 28 #[.pointer (some ⟨g, 0, none⟩), .agg r.cells.toArray] w (PushOf F g ps e p w) := by
  obtain ⟨A, c, rs, h1, h2, h3, h4, h5, h6⟩ := h
  have hgl := h1.lt
  have hl := Lib.hid h3.1
  have HP := Lib.hid (show Is w v ⟨e, r.syn, r.fin, r.A, r.len, r.cap, r.dsn, r.last⟩ (withSeq p e) from ⟨rfl, hp.2.1, hp.2.2.1, hp.2.2.2.1, hp.2.2.2.2.1, hp.2.2.2.2.2.1, hp.2.2.2.2.2.2.1, hp.2.2.2.2.2.2.2⟩)
  clear hp
  obtain ⟨seq, syn, fin, B, len, cap, dsn, last⟩ := r
  simp only at HP
  have c0 : w.cell? ⟨g, 0, none⟩ = some (.slice A rs.length c) := h1.cell 0
  have c1 : w.cell? ⟨g, 1, none⟩ = some (.int .u32 e) := h1.cell 1
  have z0 := h1.frozen 0
  have z1 := h1.frozen 1
  have hll : long (withSeq p e) = long p := rfl
  have HL := Lib.hid (fun w' h => long_any ⟨e, syn, fin, B, len, cap, dsn, last⟩ (withSeq p e) v w' h hs)
  have H1 := Lib.hid h1; clear h1
  have H2 := Lib.hid h2; clear h2
  have H3 := Lib.hid h3; clear h3
  have H4 := Lib.hid h4; clear h4
  have H5 := Lib.hid h5; clear h5
  have H6 := Lib.hid h6; clear h6
  have hlo : long p ≤ 1002 := by unfold long; split <;> split <;> omega
  obtain ⟨n, hn0⟩ : ∃ n, long p = n := ⟨_, rfl⟩
  rw [hll, hn0] at HL
  rw [hn0] at hlo
  have HN := Lib.hid hn0; clear hn0 hll
  show Calls Try.prog 28 #[.pointer (some ⟨g, 0, none⟩), .agg #[.int .u32 seq, .bool syn, .bool fin, .slice B len cap, .int .i64 dsn, .bool last]] w _
  go_enter Try.func28, Try.ntmps28
  go_wp2_with fail
  refine (HL.out _ (HP.out.fine (by repeat (first | exact Fine.refl _ | assumption | refine Fine.alloc ?_ _ | refine Fine.drew ?_ | refine Fine.drewN ?_ _ | refine Fine.trans ?_ (by assumption) | (refine Fine.kept ?_ (by assumption) (by intro x hx; first | omega | (simp; omega))) | (refine Fine.setCell ?_ (by first | assumption | (simp; done) | (simp; omega)) _))))).mono ?_; rintro x w1 ⟨rfl, f1⟩
  have hb1 : Blk w1 w.heap.size 46 #[.int .u32 e, .bool syn, .bool fin, .slice B len cap, .int .i64 dsn, .bool last] := by
    exact Blk.fine ((Blk.new w 46 _).alloc _) f1
  have hb2 : Blk w1 (w.heap.size + 1) 46 #[.int .u32 0, .bool false, .bool false, .slice none 0 0, .int .i64 0, .bool false] := Blk.fine (Blk.newAt (by simp)) f1
  have fw1 : Fine w w1 := (by repeat (first | exact Fine.refl _ | assumption | refine Fine.alloc ?_ _ | refine Fine.drew ?_ | refine Fine.drewN ?_ _ | refine Fine.trans ?_ (by assumption) | (refine Fine.kept ?_ (by assumption) (by intro x hx; first | omega | (simp; omega))) | (refine Fine.setCell ?_ (by first | assumption | (simp; done) | (simp; omega)) _)))
  have hs1 : w.heap.size + 2 ≤ w1.heap.size := by have := f1.size; simpa using this
  have HB1 := Lib.hid hb1
  have HB2 := Lib.hid hb2; clear hb2
  have b0 : w1.cell? ⟨w.heap.size, 0, none⟩ = some (.int .u32 e) := hb1.cell 0
  have b1 : w1.cell? ⟨w.heap.size, 1, none⟩ = some (.bool syn) := hb1.cell 1
  have b2 : w1.cell? ⟨w.heap.size, 2, none⟩ = some (.bool fin) := hb1.cell 2
  have b3 : w1.cell? ⟨w.heap.size, 3, none⟩ = some (.slice B len cap) := hb1.cell 3
  have b4 : w1.cell? ⟨w.heap.size, 4, none⟩ = some (.int .i64 dsn) := hb1.cell 4
  have b5 : w1.cell? ⟨w.heap.size, 5, none⟩ = some (.bool last) := hb1.cell 5
  have g0 : w1.cell? ⟨g, 0, none⟩ = some (.slice A rs.length c) := (fw1.cell (p := ⟨g, 0, none⟩) hgl).trans c0
  have g1 : w1.cell? ⟨g, 1, none⟩ = some (.int .u32 e) := (fw1.cell (p := ⟨g, 1, none⟩) hgl).trans c1
  have y0 : w1.frozen? ⟨g, 0, none⟩ = false := (H1.out.fine fw1).frozen 0
  have y1 : w1.frozen? ⟨g, 1, none⟩ = false := (H1.out.fine fw1).frozen 1
  clear hb1 c0 c1 z0 z1
  have HF := Lib.hid f1; clear f1
  by_cases h0 : 0 < n
  · go_upto_region 6 with (fail)
    have HG := Lib.hid (H1.out.fine fw1)
    have HO1 := Lib.hid (fun w' (hf : Fine w1 w') => own_one 46 w'.heap.size (w'.heap.size + 1) ⟨e, syn, fin, B, len, cap, dsn, last⟩ (withSeq p e) v w' (HP.out.fine (fw1.trans hf)) hs rfl rfl)
    have hle := H2.out.rs.1.le
    have hgA : ∀ k, (Value.slice A rs.length c).ownBlock = some k → k ≠ g ∧ k < w.heap.size := fun k hk => ⟨by have := (H2.out.lt k hk).1; omega, (H2.out.lt k hk).2⟩
    have hrb : rs.length ≤ 900 := by have := hl.out; omega
    have hmg : w.heap.size ≠ g := Nat.ne_of_gt hgl
    have e2 : ∀ o, (w1.alloc o).cell? ⟨g, 0, none⟩ = some (.slice A rs.length c) := fun o => (HG.out.fine ((Fine.refl w1).alloc o)).cell 0
    go_region_law (first | (go_simp; go_at_call 65; refine (HO1.out w1.drew (Fine.refl w1).drew).mono ?_; rintro x wA ⟨r1, rfl, hbA, hiA, fA⟩; have eA : wA.cell? ⟨g, 0, none⟩ = some (.slice A rs.length c) := (HG.out.fine (((Fine.refl w1).drew.alloc _).trans fA)).cell 0; have yA : wA.frozen? ⟨g, 0, none⟩ = false := (HG.out.fine (((Fine.refl w1).drew.alloc _).trans fA)).frozen 0) | (refine step_appE rfl sliceP (.tmp 22) (.tmp 25) rfl (g + 1) (.slice A rs.length c) rs rfl (H2.out.fine (fw1.trans (((Fine.refl w1).drew.alloc _).trans fA))) (some ⟨w1.heap.size + 1, 0, none⟩) 1 1 [r1] rfl rfl (RS.ofBlk hbA (layP.flat_one r1).symm rfl (by unfold maxLen; omega)) (by simp; omega) (by simp; unfold maxLen; omega) (by have := fA.size; simp at this; omega) ?_; intro x2 wB oB kB0 gB0 bB; obtain ⟨A2, c2, rfl, _, _⟩ := oB.form; have yB : wB.frozen? ⟨g, 0, none⟩ = false := ((HG.out.fine (((Fine.refl w1).drew.alloc _).trans fA)).kept (Kept.grown (S := fun x => (Value.slice A rs.length c).ownBlock = some x) (Kept.refl _ wA) gB0 (fun k hk _ => hk)) (fun h => (hgA g h).1 rfl)).frozen 0; have gB1 := ((HG.out.fine (((Fine.refl w1).drew.alloc _).trans fA)).kept (Kept.grown (S := fun x => (Value.slice A rs.length c).ownBlock = some x) (Kept.refl _ wA) gB0 (fun k hk _ => hk)) (fun h => (hgA g h).1 rfl)).cell 0))
    all_goals
      have fA' : Fine w1 wA := ((Fine.refl w1).drew.alloc _).trans fA
      have hsA := fA'.size
      have kAB : Kept (fun x => (Value.slice A rs.length c).ownBlock = some x) wA wB := Kept.grown (Kept.refl _ wA) gB0 (fun k hk _ => hk)
      obtain ⟨hq, hk⟩ := push_state (n' := w1.heap.size + 1) HG.out (H2.out.fine fw1) (H3.out.fine fw1) H4.out H5.out (fun b hb => Nat.lt_of_lt_of_le (H6.out b hb) fw1.size) fA' (Nat.le_succ _) hbA.lt hiA oB gB0 bB
      have hm := ((HB1.out.fine fA').kept kAB (fun h => Nat.lt_irrefl _ (hgA _ h).2)).far (p := ⟨g, 0, none⟩) hmg (.slice A2 (rs.length + 1) c2)
      have hr := ((HB2.out.fine fA').kept kAB (fun h => by have := (hgA _ h).2; omega)).far (p := ⟨g, 0, none⟩) (by show _ ≠ g; omega) (.slice A2 (rs.length + 1) c2)
      have hF1 : ∀ b, (F b ∨ (w1.heap.size + 1 < b ∧ b < wB.heap.size)) → F b ∨ w.heap.size ≤ b := fun b hb => hb.imp id (fun h => by omega)
      have hF2 : ¬ (F (w.heap.size + 1) ∨ (w1.heap.size + 1 < w.heap.size + 1 ∧ w.heap.size + 1 < wB.heap.size)) := fun h => by
        rcases h with h | h
        · have := H6.out _ h; omega
        · omega
      generalize (wB.setCell ⟨g, 0, none⟩ (.slice A2 (rs.length + 1) c2)) = wC at hq hk hm hr ⊢
      generalize hF' : (fun b => F b ∨ (w1.heap.size + 1 < b ∧ b < wB.heap.size)) = F' at hq
      have hF1' : ∀ b, F' b → F b ∨ w.heap.size ≤ b := by subst hF'; exact hF1
      have hF2' : ¬ F' (w.heap.size + 1) := by subst hF'; exact hF2
      have KC := Lib.hid ((Kept.of_fine (S := F) fw1).trans hk)
      have HIS := Lib.hid (HP.out.kept KC.out hv)
      clear fA' kAB hF1 hF2 hF' hk oB gB0 bB kB0 hiA hbA fA eA
      have HQ := Lib.hid hq; clear hq
      have HM := Lib.hid hm; have HR := Lib.hid hr; clear hm hr
      have x1 := HQ.out.endAt.1
      go_wp2_with fail
      refine (On_any e n _).mono ?_; rintro x wD ⟨rfl, fD⟩
      have QD := Lib.hid (HQ.out.fine fD)
      have QE := Lib.hid (QD.out.setEnd (onN e n))
      have x2 := QD.out.endAt.1
      have x3 := QD.out.endAt.2.1
      have MD := Lib.hid (HM.out.fine fD)
      have a0 : wD.cell? ⟨w.heap.size, 0, none⟩ = some (.int .u32 e) := MD.out.cell 0
      have a1 : wD.cell? ⟨w.heap.size, 1, none⟩ = some (.bool syn) := MD.out.cell 1
      have a2 : wD.cell? ⟨w.heap.size, 2, none⟩ = some (.bool fin) := MD.out.cell 2
      have a3 : wD.cell? ⟨w.heap.size, 3, none⟩ = some (.slice B len cap) := MD.out.cell 3
      have a4 : wD.cell? ⟨w.heap.size, 4, none⟩ = some (.int .i64 dsn) := MD.out.cell 4
      have a5 : wD.cell? ⟨w.heap.size, 5, none⟩ = some (.bool last) := MD.out.cell 5
      have HO2 := Lib.hid (own_one 46 wD.heap.size (wD.heap.size + 1) ⟨e, syn, fin, B, len, cap, dsn, last⟩ (withSeq p e) v (wD.setCell ⟨g, 1, none⟩ (.int .u32 (onN e n))) ((HIS.out.fine fD).kept (Kept.setIn (S := (· = g)) (p := ⟨g, 1, none⟩) (Kept.refl _ _) rfl _) (fun b hb h => hv b hb (by subst h; exact H4.out))) hs (by simp [World.setCell]) rfl)
      have HD := Lib.hid fD; clear fD
      clear hv
      go_wp2_with fail
      refine HO2.out.mono ?_; rintro x wF ⟨r2, rfl, hbF, hiF, fF⟩
      obtain ⟨q0, q1, q2, qA, ql, qc, q4, q5⟩ := r2
      have HIF := Lib.hid hiF; clear hiF
      have fE : Fine (wD.setCell ⟨g, 1, none⟩ (.int .u32 (onN e n))) wF := ((Fine.refl _).alloc _).trans fF
      have QF := Lib.hid (QE.out.1.fine fE)
      have KF : Kept F w wF := (((KC.out.trans (Kept.of_fine HD.out)).trans (Kept.setIn (S := F) (p := ⟨g, 1, none⟩) (Kept.refl _ _) H4.out (.int .u32 (onN e n))))).trans (Kept.of_fine fE)
      have hrF := ((HR.out.fine HD.out).far (p := ⟨g, 1, none⟩) (by show _ ≠ g; omega) (.int .u32 (onN e n))).fine fE
      have HKF := Lib.hid KF; clear KF
      have HRF := Lib.hid hrF; clear hrF
      have HBF := Lib.hid hbF; clear hbF
      have HFE := Lib.hid fE; clear fE
      clear fF
      have s0 : wF.cell? ⟨wD.heap.size + 1, 0, none⟩ = some (.int .u32 q0) := HBF.out.cell 0
      have s1 : wF.cell? ⟨wD.heap.size + 1, 1, none⟩ = some (.bool q1) := HBF.out.cell 1
      have s2 : wF.cell? ⟨wD.heap.size + 1, 2, none⟩ = some (.bool q2) := HBF.out.cell 2
      have s3 : wF.cell? ⟨wD.heap.size + 1, 3, none⟩ = some (.slice qA ql qc) := HBF.out.cell 3
      have s4 : wF.cell? ⟨wD.heap.size + 1, 4, none⟩ = some (.int .i64 q4) := HBF.out.cell 4
      have s5 : wF.cell? ⟨wD.heap.size + 1, 5, none⟩ = some (.bool q5) := HBF.out.cell 5
      have t0 : wF.cell? ⟨w.heap.size + 1, 0, none⟩ = some (.int .u32 0) := HRF.out.cell 0
      have t1 : wF.cell? ⟨w.heap.size + 1, 1, none⟩ = some (.bool false) := HRF.out.cell 1
      have t2 : wF.cell? ⟨w.heap.size + 1, 2, none⟩ = some (.bool false) := HRF.out.cell 2
      have t3 : wF.cell? ⟨w.heap.size + 1, 3, none⟩ = some (.slice none 0 0) := HRF.out.cell 3
      have t4 : wF.cell? ⟨w.heap.size + 1, 4, none⟩ = some (.int .i64 0) := HRF.out.cell 4
      have t5 : wF.cell? ⟨w.heap.size + 1, 5, none⟩ = some (.bool false) := HRF.out.cell 5
      have u0 := HRF.out.frozen 0
      have u1 := HRF.out.frozen 1
      have u2 := HRF.out.frozen 2
      have u3 := HRF.out.frozen 3
      have u4 := HRF.out.frozen 4
      have u5 := HRF.out.frozen 5
      go_wp2_with fail
      obtain ⟨r1', r2', r3', r4'⟩ := push_end HRF.out QF.out hF2' HIF.out (by have := HD.out.size; have := KC.out.size; omega) (fun b hb => by obtain ⟨_, _, _, _, _, _, _, _, h⟩ := QD.out; have := h b hb; omega) HKF.out
      refine bodyPost_ret (results_cell_row rfl _ _ (w.heap.size + 1) 46 _ (0, 0) _ rfl r1' Try.underlying46 rfl sizeP) rfl ?_
      exact ⟨⟨q0, q1, q2, qA, ql, qc, q4, q5⟩, F', rfl, by unfold pushL; rw [HN.out, if_pos h0]; exact r2', r3', r4', hF1'⟩
  · have hn00 : n = 0 := by omega
    subst hn00
    have HO2 := Lib.hid (own_one 46 w1.heap.size (w1.heap.size + 1) ⟨e, syn, fin, B, len, cap, dsn, last⟩ (withSeq p e) v w1 (HP.out.fine fw1) hs rfl rfl)
    clear h0 hv
    go_wp2_with fail
    refine HO2.out.mono ?_; rintro x wF ⟨r2, rfl, hbF, hiF, fF⟩
    obtain ⟨q0, q1, q2, qA, ql, qc, q4, q5⟩ := r2
    have HIF := Lib.hid hiF; clear hiF
    have fE : Fine w1 wF := ((Fine.refl _).alloc _).trans fF
    have HW : QB w F g ps e := ⟨A, c, rs, H1.out, H2.out, H3.out, H4.out, H5.out, H6.out⟩
    have QF := Lib.hid (HW.fine (fw1.trans fE)); clear HW
    have HKF := Lib.hid (Kept.of_fine (S := F) (fw1.trans fE))
    have HRF := Lib.hid (HB2.out.fine fE)
    have HBF := Lib.hid hbF; clear hbF
    clear fE fF
    have s0 : wF.cell? ⟨w1.heap.size + 1, 0, none⟩ = some (.int .u32 q0) := HBF.out.cell 0
    have s1 : wF.cell? ⟨w1.heap.size + 1, 1, none⟩ = some (.bool q1) := HBF.out.cell 1
    have s2 : wF.cell? ⟨w1.heap.size + 1, 2, none⟩ = some (.bool q2) := HBF.out.cell 2
    have s3 : wF.cell? ⟨w1.heap.size + 1, 3, none⟩ = some (.slice qA ql qc) := HBF.out.cell 3
    have s4 : wF.cell? ⟨w1.heap.size + 1, 4, none⟩ = some (.int .i64 q4) := HBF.out.cell 4
    have s5 : wF.cell? ⟨w1.heap.size + 1, 5, none⟩ = some (.bool q5) := HBF.out.cell 5
    have t0 : wF.cell? ⟨w.heap.size + 1, 0, none⟩ = some (.int .u32 0) := HRF.out.cell 0
    have u0 := HRF.out.frozen 0
    have t1 : wF.cell? ⟨w.heap.size + 1, 1, none⟩ = some (.bool false) := HRF.out.cell 1
    have u1 := HRF.out.frozen 1
    have t2 : wF.cell? ⟨w.heap.size + 1, 2, none⟩ = some (.bool false) := HRF.out.cell 2
    have u2 := HRF.out.frozen 2
    have t3 : wF.cell? ⟨w.heap.size + 1, 3, none⟩ = some (.slice none 0 0) := HRF.out.cell 3
    have u3 := HRF.out.frozen 3
    have t4 : wF.cell? ⟨w.heap.size + 1, 4, none⟩ = some (.int .i64 0) := HRF.out.cell 4
    have u4 := HRF.out.frozen 4
    have t5 : wF.cell? ⟨w.heap.size + 1, 5, none⟩ = some (.bool false) := HRF.out.cell 5
    have u5 := HRF.out.frozen 5
    go_wp2_with fail
    obtain ⟨r1', r2', r3', r4'⟩ := push_end HRF.out QF.out (fun h => by have := H6.out _ h; omega) HIF.out (by omega) (fun b hb => by have := H6.out b hb; omega) HKF.out
    refine bodyPost_ret (results_cell_row rfl _ _ (w.heap.size + 1) 46 _ (0, 0) _ rfl r1' Try.underlying46 rfl sizeP) rfl ?_
    exact ⟨⟨q0, q1, q2, qA, ql, qc, q4, q5⟩, F, rfl, by
      unfold pushL onN
      rw [HN.out, if_neg (by omega)]
      have e0 : (e + ((0 : Nat) : Int)) % 4294967296 = e := by omega
      rw [e0]; exact r2', r3', r4', fun b hb => .inl hb⟩
end Go.Proofs.Ytjldgialhgfhmaa
