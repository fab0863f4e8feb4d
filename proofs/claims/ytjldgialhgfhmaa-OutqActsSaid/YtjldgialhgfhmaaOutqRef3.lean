/- The document's queue: Begin, Push. -/
import Derived.Test.YtjldgialhgfhmaaOutq10
import Derived.Test.YtjldgialhgfhmaaOutqRef2
import Derived.Deep.RegionLaw
namespace Go.Proofs.Ytjldgialhgfhmaa
open Go.ChangeShapes Go.WideShapes Go.ChangeAt Go.RowKit
set_option linter.unusedVariables false

theorem refBegin_any (g : Nat) (F : Nat → Prop) (ps : List Pc) (e : Int) (w : World) (h : RB w F g ps e) : Calls Try.prog 38 #[.pointer (some ⟨g, 0, none⟩)] w fun x w' => x = .returned (.int .u32 (beginQ ps e)) ∧ Fine w w' := by
  obtain ⟨A, c, rs, h1, h2, h3, h4, h5, h6⟩ := h
  have c0 : w.cell? ⟨g, 0, none⟩ = some (.slice A rs.length c) := h1.cell 0
  have c1 : w.cell? ⟨g, 1, none⟩ = some (.int .u32 e) := h1.cell 1
  rcases ps with _ | ⟨p, ps⟩
  · have hl : rs = [] := List.eq_nil_of_length_eq_zero (by have := h3.1; simpa using this)
    subst hl
    clear h1 h2 h3 h4 h5 h6
    simp only [List.length_nil] at c0
    go_enter Try.func38, Try.ntmps38
    go_wp2_with fail
    go_ret
    exact ⟨rfl, (by repeat (first | exact Fine.refl _ | assumption | refine Fine.alloc ?_ _ | refine Fine.drew ?_ | refine Fine.drewN ?_ _ | refine Fine.trans ?_ (by assumption) | (refine Fine.kept ?_ (by assumption) (by intro x hx; first | omega | (simp; omega))) | (refine Fine.setCell ?_ (by first | assumption | (simp; done) | (simp; omega)) _)))⟩
  · rcases rs with _ | ⟨r, rs⟩
    · exact absurd h3.1 (by simp)
    · have hs := Lib.hid (h3.2 0 r p rfl rfl).1
      obtain ⟨b, off, rfl, hb, hc⟩ := h2.rs.1.at_ (k := 0) (x := r) rfl
      have e0 := hc 0 (.int .u32 r.seq) rfl
      simp only [Nat.zero_mul, Nat.add_zero] at e0
      have hle := h2.rs.1.le
      clear hc h1 h2 h3 h4 h5 h6
      obtain ⟨n, hn⟩ : ∃ n, (r :: rs).length = n + 1 := ⟨rs.length, rfl⟩
      rw [hn] at c0 hle
      clear hn
      go_enter Try.func38, Try.ntmps38
      go_wp2_with fail
      go_ret
      exact ⟨by rw [show beginQ (p :: ps) e = p.seq from rfl, ← hs.out]; rfl, (by repeat (first | exact Fine.refl _ | assumption | refine Fine.alloc ?_ _ | refine Fine.drew ?_ | refine Fine.drewN ?_ _ | refine Fine.trans ?_ (by assumption) | (refine Fine.kept ?_ (by assumption) (by intro x hx; first | omega | (simp; omega))) | (refine Fine.setCell ?_ (by first | assumption | (simp; done) | (simp; omega)) _)))⟩
def RPushOf (F : Nat → Prop) (g : Nat) (ps : List Pc) (e : Int) (p : Pc) (w : World) (x : Ending) (w' : World) : Prop :=
  ∃ r' F', x = .returned (.agg (Raw.cells r').toArray) ∧ RB w' F' g (pushL ps p e) (onN e (long p)) ∧ Is w' (fun b => w.heap.size ≤ b ∧ b < w'.heap.size) r' (withSeq p e) ∧ Kept F w w' ∧ (∀ b, F' b → F b ∨ w.heap.size ≤ b)
theorem rpush_end {t : TypeId} {w wF : World} {F F' v : Nat → Prop} {g : Nat} {L : List Pc} {e' : Int} {q0 q4 : Int} {q1 q2 q5 : Bool} {qA : Option Addr} {ql qc : Nat} {p' : Pc}
    (hr : Blk wF (w.heap.size + 1) 46 #[.int .u32 0, .bool false, .bool false, .slice none 0 0, .int .i64 0, .bool false]) (hq : QT t wF F' g L e') (hF : ¬ F' (w.heap.size + 1))
    (hi : Is wF v ⟨q0, q1, q2, qA, ql, qc, q4, q5⟩ p') (hv : ∀ b, v b → w.heap.size + 1 < b ∧ b < wF.heap.size) (hk : Kept F w wF) :
    Blk ((((((wF.setCell ⟨w.heap.size + 1, 0, none⟩ (.int .u32 q0)).setCell ⟨w.heap.size + 1, 1, none⟩ (.bool q1)).setCell ⟨w.heap.size + 1, 2, none⟩ (.bool q2)).setCell ⟨w.heap.size + 1, 3, none⟩ (.slice qA ql qc)).setCell ⟨w.heap.size + 1, 4, none⟩ (.int .i64 q4)).setCell ⟨w.heap.size + 1, 5, none⟩ (.bool q5)) (w.heap.size + 1) 46 #[.int .u32 q0, .bool q1, .bool q2, .slice qA ql qc, .int .i64 q4, .bool q5] ∧ QT t ((((((wF.setCell ⟨w.heap.size + 1, 0, none⟩ (.int .u32 q0)).setCell ⟨w.heap.size + 1, 1, none⟩ (.bool q1)).setCell ⟨w.heap.size + 1, 2, none⟩ (.bool q2)).setCell ⟨w.heap.size + 1, 3, none⟩ (.slice qA ql qc)).setCell ⟨w.heap.size + 1, 4, none⟩ (.int .i64 q4)).setCell ⟨w.heap.size + 1, 5, none⟩ (.bool q5)) F' g L e' ∧
    Is ((((((wF.setCell ⟨w.heap.size + 1, 0, none⟩ (.int .u32 q0)).setCell ⟨w.heap.size + 1, 1, none⟩ (.bool q1)).setCell ⟨w.heap.size + 1, 2, none⟩ (.bool q2)).setCell ⟨w.heap.size + 1, 3, none⟩ (.slice qA ql qc)).setCell ⟨w.heap.size + 1, 4, none⟩ (.int .i64 q4)).setCell ⟨w.heap.size + 1, 5, none⟩ (.bool q5)) (fun b => w.heap.size ≤ b ∧ b < (World.heap ((((((wF.setCell ⟨w.heap.size + 1, 0, none⟩ (.int .u32 q0)).setCell ⟨w.heap.size + 1, 1, none⟩ (.bool q1)).setCell ⟨w.heap.size + 1, 2, none⟩ (.bool q2)).setCell ⟨w.heap.size + 1, 3, none⟩ (.slice qA ql qc)).setCell ⟨w.heap.size + 1, 4, none⟩ (.int .i64 q4)).setCell ⟨w.heap.size + 1, 5, none⟩ (.bool q5))).size) ⟨q0, q1, q2, qA, ql, qc, q4, q5⟩ p' ∧ Kept F w ((((((wF.setCell ⟨w.heap.size + 1, 0, none⟩ (.int .u32 q0)).setCell ⟨w.heap.size + 1, 1, none⟩ (.bool q1)).setCell ⟨w.heap.size + 1, 2, none⟩ (.bool q2)).setCell ⟨w.heap.size + 1, 3, none⟩ (.slice qA ql qc)).setCell ⟨w.heap.size + 1, 4, none⟩ (.int .i64 q4)).setCell ⟨w.heap.size + 1, 5, none⟩ (.bool q5)) := by
  have hb := ((((((hr.set_ 0 (.int .u32 q0)).set_ 1 (.bool q1)).set_ 2 (.bool q2)).set_ 3 (.slice qA ql qc)).set_ 4 (.int .i64 q4)).set_ 5 (.bool q5)).cast (cs' := #[.int .u32 q0, .bool q1, .bool q2, .slice qA ql qc, .int .i64 q4, .bool q5]) (by simp)
  have kk : Kept (· = w.heap.size + 1) wF ((((((wF.setCell ⟨w.heap.size + 1, 0, none⟩ (.int .u32 q0)).setCell ⟨w.heap.size + 1, 1, none⟩ (.bool q1)).setCell ⟨w.heap.size + 1, 2, none⟩ (.bool q2)).setCell ⟨w.heap.size + 1, 3, none⟩ (.slice qA ql qc)).setCell ⟨w.heap.size + 1, 4, none⟩ (.int .i64 q4)).setCell ⟨w.heap.size + 1, 5, none⟩ (.bool q5)) := Kept.setIn (S := (· = w.heap.size + 1)) (Kept.setIn (S := (· = w.heap.size + 1)) (Kept.setIn (S := (· = w.heap.size + 1)) (Kept.setIn (S := (· = w.heap.size + 1)) (Kept.setIn (S := (· = w.heap.size + 1)) (Kept.setIn (S := (· = w.heap.size + 1)) (p := ⟨w.heap.size + 1, 0, none⟩) (Kept.refl _ _) rfl _) (p := ⟨w.heap.size + 1, 1, none⟩) rfl _) (p := ⟨w.heap.size + 1, 2, none⟩) rfl _) (p := ⟨w.heap.size + 1, 3, none⟩) rfl _) (p := ⟨w.heap.size + 1, 4, none⟩) rfl _) (p := ⟨w.heap.size + 1, 5, none⟩) rfl _
  generalize ((((((wF.setCell ⟨w.heap.size + 1, 0, none⟩ (.int .u32 q0)).setCell ⟨w.heap.size + 1, 1, none⟩ (.bool q1)).setCell ⟨w.heap.size + 1, 2, none⟩ (.bool q2)).setCell ⟨w.heap.size + 1, 3, none⟩ (.slice qA ql qc)).setCell ⟨w.heap.size + 1, 4, none⟩ (.int .i64 q4)).setCell ⟨w.heap.size + 1, 5, none⟩ (.bool q5)) = wG at hb kk ⊢
  have hs := kk.size
  refine ⟨hb, hq.kept kk (fun b h1 h2 => hF (h2 ▸ h1)), (hi.kept kk (fun b hb h => by have := hv b hb; omega)).less (fun b hb => by have := hv b hb; omega), hk.transG kk (fun _ _ s => s) (fun x hx s => by omega)⟩
set_option maxHeartbeats 1000000 in
set_option maxRecDepth 20000 in
theorem refPush_any (g : Nat) (F v : Nat → Prop) (ps : List Pc) (e : Int) (r : Raw) (p : Pc) (w : World) (h : RB w F g ps e) (hp : Is w v r p) (he : 0 ≤ e ∧ e < 4294967296) (hn : ps.length ≤ 900) (hs : p.xs.length ≤ 1000) :
    Calls Try.prog 36 #[.pointer (some ⟨g, 0, none⟩), .agg r.cells.toArray] w (RPushOf F g ps e p w) := by
  have H0 := Lib.hid h
  obtain ⟨A, c, rs, h1, h2, h3, h4, h5, h6⟩ := h
  have hgl := h1.lt
  have hl := Lib.hid h3.1
  obtain ⟨seq, syn, fin, B, len, cap, dsn, last⟩ := r
  obtain ⟨i1, i2, i3, i4, i5, i6, i7, i8⟩ := hp
  simp only at i1 i2 i3 i4 i5 i6 i7
  have c0 : w.cell? ⟨g, 0, none⟩ = some (.slice A rs.length c) := h1.cell 0
  have c1 : w.cell? ⟨g, 1, none⟩ = some (.int .u32 e) := h1.cell 1
  have z0 := h1.frozen 0
  have z1 := h1.frozen 1
  have H1 := Lib.hid h1; clear h1
  have H2 := Lib.hid h2; clear h2
  have H3 := Lib.hid h3; clear h3
  have H4 := Lib.hid h4; clear h4
  have H5 := Lib.hid h5; clear h5
  have H6 := Lib.hid h6; clear h6
  have HRS := Lib.hid i7; clear i7 i8
  have HLen := Lib.hid i6
  have hlb : len ≤ 1000 := by omega
  have hlc := HRS.out.le
  have HI := Lib.hid (And.intro i2 (And.intro i3 (And.intro i4 i5)))
  clear i1 i2 i3 i4 i5 i6
  have hb3 : Blk ((w.alloc (.cells #[.int .u32 e, .bool syn, .bool fin, .slice B len cap, .int .i64 dsn, .bool last] 46)).alloc (.cells #[.int .u32 0, .bool false, .bool false, .slice none 0 0, .int .i64 0, .bool false] 46)) w.heap.size 46 #[.int .u32 e, .bool syn, .bool fin, .slice B len cap, .int .i64 dsn, .bool last] := (Blk.new w 46 _).alloc _
  have hb4 : Blk ((w.alloc (.cells #[.int .u32 e, .bool syn, .bool fin, .slice B len cap, .int .i64 dsn, .bool last] 46)).alloc (.cells #[.int .u32 0, .bool false, .bool false, .slice none 0 0, .int .i64 0, .bool false] 46)) (w.heap.size + 1) 46 #[.int .u32 0, .bool false, .bool false, .slice none 0 0, .int .i64 0, .bool false] := Blk.newAt (by simp)
  have hw0 : Fine w ((w.alloc (.cells #[.int .u32 e, .bool syn, .bool fin, .slice B len cap, .int .i64 dsn, .bool last] 46)).alloc (.cells #[.int .u32 0, .bool false, .bool false, .slice none 0 0, .int .i64 0, .bool false] 46)) := ((Fine.refl w).alloc _).alloc _
  have hsz : ((w.alloc (.cells #[.int .u32 e, .bool syn, .bool fin, .slice B len cap, .int .i64 dsn, .bool last] 46)).alloc (.cells #[.int .u32 0, .bool false, .bool false, .slice none 0 0, .int .i64 0, .bool false] 46)).heap.size = w.heap.size + 2 := by simp
  have HB3 := Lib.hid hb3; clear hb3
  have HB4 := Lib.hid hb4; clear hb4
  have HW0 := Lib.hid hw0; clear hw0
  have HSZ := Lib.hid hsz; clear hsz
  show Calls Try.prog 36 #[.pointer (some ⟨g, 0, none⟩), .agg #[.int .u32 seq, .bool syn, .bool fin, .slice B len cap, .int .i64 dsn, .bool last]] w _
  go_enter Try.func36, Try.ntmps36
  go_wp2_with (at_builtin; refine wpList_appE rfl sliceB (.tmp 11) (.tmp 13) rfl (w.heap.size + 2) _ [] rfl (Own.nil_ _ _ _ _) B len cap p.xs rfl HLen.out (HRS.out.fine HW0.out) ?_ ?_ ?_ ?_)
  · (first | omega | (unfold maxLen; omega) | (simp; omega) | (simp; unfold maxLen; omega))
  · (first | omega | (unfold maxLen; omega) | (simp; omega) | (simp; unfold maxLen; omega))
  · rw [HSZ.out]; exact Nat.le_refl _
  intro A1 c1' w2 hO k2 _
  have fw2 : Fine w w2 := HW0.out.kept k2 (fun x hx h => by omega)
  have hs2 : w.heap.size + 2 ≤ w2.heap.size := by have := k2.size; rw [HSZ.out] at this; exact this
  have b3 : Blk w2 w.heap.size 46 #[.int .u32 e, .bool syn, .bool fin, .slice B len cap, .int .i64 dsn, .bool last] := HB3.out.kept k2 (by omega)
  have b4 : Blk w2 (w.heap.size + 1) 46 #[.int .u32 0, .bool false, .bool false, .slice none 0 0, .int .i64 0, .bool false] := HB4.out.kept k2 (by omega)
  have a0 : w2.cell? ⟨w.heap.size, 0, none⟩ = some (.int .u32 e) := b3.cell 0
  have a1 : w2.cell? ⟨w.heap.size, 1, none⟩ = some (.bool syn) := b3.cell 1
  have a2 : w2.cell? ⟨w.heap.size, 2, none⟩ = some (.bool fin) := b3.cell 2
  have a3 : w2.cell? ⟨w.heap.size, 3, none⟩ = some (.slice B len cap) := b3.cell 3
  have a4 : w2.cell? ⟨w.heap.size, 4, none⟩ = some (.int .i64 dsn) := b3.cell 4
  have a5 : w2.cell? ⟨w.heap.size, 5, none⟩ = some (.bool last) := b3.cell 5
  have u3 : w2.frozen? ⟨w.heap.size, 3, none⟩ = false := b3.frozen 3
  have hB3 : Blk (w2.setCell ⟨w.heap.size, 3, none⟩ (.slice A1 p.xs.length c1')) w.heap.size 46 #[.int .u32 e, .bool syn, .bool fin, .slice A1 p.xs.length c1', .int .i64 dsn, .bool last] := (b3.set_ 3 _).cast (by simp)
  have hB4 : Blk (w2.setCell ⟨w.heap.size, 3, none⟩ (.slice A1 p.xs.length c1')) (w.heap.size + 1) 46 #[.int .u32 0, .bool false, .bool false, .slice none 0 0, .int .i64 0, .bool false] := b4.far (by simp) _
  have kk : Kept (· = w.heap.size) w2 (w2.setCell ⟨w.heap.size, 3, none⟩ (.slice A1 p.xs.length c1')) := Kept.setIn (S := (· = w.heap.size)) (p := ⟨w.heap.size, 3, none⟩) (Kept.refl _ _) rfl _
  have fw3 : Fine w (w2.setCell ⟨w.heap.size, 3, none⟩ (.slice A1 p.xs.length c1')) := fw2.kept kk (fun x hx h => by omega)
  have hsz3 : (w2.setCell ⟨w.heap.size, 3, none⟩ (.slice A1 p.xs.length c1')).heap.size = w2.heap.size := by simp [World.setCell]
  have hI3 : Is (w2.setCell ⟨w.heap.size, 3, none⟩ (.slice A1 p.xs.length c1')) (Fresh (w.heap.size + 1) (w2.setCell ⟨w.heap.size, 3, none⟩ (.slice A1 p.xs.length c1'))) ⟨e, syn, fin, A1, p.xs.length, c1', dsn, last⟩ (withSeq p e) :=
    ⟨rfl, HI.out.1, HI.out.2.1, HI.out.2.2.1, HI.out.2.2.2, rfl, hO.out.rs.1.kept kk (fun b o h => by have := hO.out.from_ b o h; omega), fun b o h _ => ⟨by have := hO.out.from_ b o h; omega, by rw [hsz3]; exact (hO.out.from_ b o h).2, (hO.out.unf b o h).kept kk (hO.out.from_ b o h).2 (by have := hO.out.from_ b o h; omega)⟩⟩
  have HB3' := Lib.hid hB3; clear hB3
  have HB4' := Lib.hid hB4; clear hB4
  have HI3 := Lib.hid hI3; clear hI3
  have HF3 := Lib.hid fw3; clear fw3
  have hsz4 : w.heap.size + 2 ≤ (w2.setCell ⟨w.heap.size, 3, none⟩ (.slice A1 p.xs.length c1')).heap.size := by omega
  clear hsz3 kk b3 b4 k2 HSZ HW0 HB3 HB4 fw2 hs2 hO
  have hll : long (withSeq p e) = long p := rfl
  have HL := Lib.hid (refLong_any ⟨e, syn, fin, A1, p.xs.length, c1', dsn, last⟩ (withSeq p e) _ _ HI3.out hs)
  have hlo := long_le p
  obtain ⟨n, hn0⟩ : ∃ n, long p = n := ⟨_, rfl⟩
  rw [hll, hn0] at HL
  rw [hn0] at hlo
  have HN := Lib.hid hn0; clear hn0 hll
  go_wp2_with fail
  refine HL.out.mono ?_
  rintro x w3 ⟨rfl, f3⟩
  have fw3 : Fine w w3 := HF3.out.trans f3
  have Q3 := Lib.hid (H0.out.fine fw3)
  have B3 := Lib.hid (HB3'.out.fine f3)
  have B4 := Lib.hid (HB4'.out.fine f3)
  have I3 : Hid (Is w3 (Fresh (w.heap.size + 1) w3) ⟨e, syn, fin, A1, p.xs.length, c1', dsn, last⟩ (withSeq p e)) := (HI3.out.fine f3).less (fun b hb => ⟨hb.1, Nat.lt_of_lt_of_le hb.2.1 f3.size, hb.2.2.fine f3 hb.2.1⟩)
  have hs3 : w.heap.size + 2 ≤ w3.heap.size := Nat.le_trans hsz4 f3.size
  clear f3 HF3 HB3' HB4' HI3 hsz4 HL a0 a1 a2 a3 a4 a5 u3 HLen hlc HRS c0 c1 z0 z1
  by_cases h0 : 0 < n
  · have G3 := Lib.hid (H1.out.fine fw3)
    have g0 : w3.cell? ⟨g, 0, none⟩ = some (.slice A rs.length c) := G3.out.cell 0
    have gz0 : w3.frozen? ⟨g, 0, none⟩ = false := G3.out.frozen 0
    have e2 : ∀ o, (w3.alloc o).cell? ⟨g, 0, none⟩ = some (.slice A rs.length c) := fun o => (G3.out.fine ((Fine.refl w3).alloc o)).cell 0
    have O3 := Lib.hid (H2.out.fine fw3)
    have hle := H2.out.rs.1.le
    have hgA : ∀ k, (Value.slice A rs.length c).ownBlock = some k → k ≠ g ∧ k < w.heap.size := fun k hk => ⟨by have := (H2.out.lt k hk).1; omega, (H2.out.lt k hk).2⟩
    have hrb : rs.length ≤ 900 := by have := hl.out; omega
    have s0 : w3.cell? ⟨w.heap.size, 0, none⟩ = some (.int .u32 e) := B3.out.cell 0
    have s1 : w3.cell? ⟨w.heap.size, 1, none⟩ = some (.bool syn) := B3.out.cell 1
    have s2 : w3.cell? ⟨w.heap.size, 2, none⟩ = some (.bool fin) := B3.out.cell 2
    have s3 : w3.cell? ⟨w.heap.size, 3, none⟩ = some (.slice A1 p.xs.length c1') := B3.out.cell 3
    have s4 : w3.cell? ⟨w.heap.size, 4, none⟩ = some (.int .i64 dsn) := B3.out.cell 4
    have s5 : w3.cell? ⟨w.heap.size, 5, none⟩ = some (.bool last) := B3.out.cell 5
    go_upto_region 6 with (fail)
    go_region_law (first | (refine step_appE rfl sliceP (.tmp 24) (.tmp 26) rfl (g + 1) (.slice A rs.length c) rs rfl (O3.out.fine ((Fine.refl w3).drew.alloc _)) (some ⟨w3.heap.size, 0, none⟩) 1 1 [⟨e, syn, fin, A1, p.xs.length, c1', dsn, last⟩] rfl rfl (RS.ofBlk (Blk.newAt rfl) rfl rfl (by unfold maxLen; omega)) (by simp; omega) (by simp; unfold maxLen; omega) (by simp; omega) ?_; intro x2 wB oB kB0 gB0 bB; obtain ⟨A2, c2, rfl, _, _⟩ := oB.form; have yB : wB.frozen? ⟨g, 0, none⟩ = false := ((G3.out.fine ((Fine.refl w3).drew.alloc _)).kept (Kept.grown (S := fun x => (Value.slice A rs.length c).ownBlock = some x) (Kept.refl _ _) gB0 (fun k hk _ => hk)) (fun h => (hgA g h).1 rfl)).frozen 0; have gB1 := ((G3.out.fine ((Fine.refl w3).drew.alloc _)).kept (Kept.grown (S := fun x => (Value.slice A rs.length c).ownBlock = some x) (Kept.refl _ _) gB0 (fun k hk _ => hk)) (fun h => (hgA g h).1 rfl)).cell 0))
    all_goals
      have fA : Fine w3 (w3.alloc (.cells #[.int .u32 e, .bool syn, .bool fin, .slice A1 p.xs.length c1', .int .i64 dsn, .bool last] 46)).drew := ((Fine.refl w3).alloc _).drew
      have fwA := fw3.trans fA
      have hsA := fA.size
      have kAB : Kept (fun x => (Value.slice A rs.length c).ownBlock = some x) (w3.alloc (.cells #[.int .u32 e, .bool syn, .bool fin, .slice A1 p.xs.length c1', .int .i64 dsn, .bool last] 46)).drew wB := Kept.grown (Kept.refl _ _) gB0 (fun k hk _ => hk)
      have I3' := (I3.out.fine fA).less (v' := Fresh (w.heap.size + 1) (w3.alloc (.cells #[.int .u32 e, .bool syn, .bool fin, .slice A1 p.xs.length c1', .int .i64 dsn, .bool last] 46)).drew) (fun b hb => ⟨hb.1, Nat.lt_of_lt_of_le hb.2.1 hsA, hb.2.2.fine fA hb.2.1⟩)
      obtain ⟨hq, hk⟩ := push_state (n' := w.heap.size + 1) H1.out H2.out H3.out H4.out H5.out H6.out fwA (Nat.le_succ _) (by omega) I3' oB gB0 bB
      have hm3 := ((B3.out.fine fA).kept kAB (fun h => by have := (hgA _ h).2; omega)).far (p := ⟨g, 0, none⟩) (by show _ ≠ g; omega) (.slice A2 (rs.length + 1) c2)
      have hm4 := ((B4.out.fine fA).kept kAB (fun h => by have := (hgA _ h).2; omega)).far (p := ⟨g, 0, none⟩) (by show _ ≠ g; omega) (.slice A2 (rs.length + 1) c2)
      have kg : Kept (· = g) wB (wB.setCell ⟨g, 0, none⟩ (.slice A2 (rs.length + 1) c2)) := Kept.setIn (S := (· = g)) (p := ⟨g, 0, none⟩) (Kept.refl _ _) rfl _
      have hIC := (((I3'.kept kAB (fun b hb h => by have := (hgA _ h).2; have := hb.1; omega)).kept kg (fun b hb h => by have := hb.1; omega)).less (v' := fun b => w.heap.size + 1 < b ∧ b < (wB.setCell ⟨g, 0, none⟩ (.slice A2 (rs.length + 1) c2)).heap.size) (fun b hb => ⟨hb.1, by have := hb.2.1; have := kAB.size; have := kg.size; omega⟩))
      have hF1 : ∀ b, (F b ∨ (w.heap.size + 1 < b ∧ b < wB.heap.size)) → F b ∨ w.heap.size ≤ b := fun b hb => hb.imp id (fun h => by omega)
      have hF2 : ¬ (F (w.heap.size + 1) ∨ (w.heap.size + 1 < w.heap.size + 1 ∧ w.heap.size + 1 < wB.heap.size)) := fun h => by
        rcases h with h | h
        · have := H6.out _ h; omega
        · omega
      generalize (wB.setCell ⟨g, 0, none⟩ (.slice A2 (rs.length + 1) c2)) = wC at hq hk hm3 hm4 hIC ⊢
      generalize hF' : (fun b => F b ∨ (w.heap.size + 1 < b ∧ b < wB.heap.size)) = F' at hq
      have hF1' : ∀ b, F' b → F b ∨ w.heap.size ≤ b := by subst hF'; exact hF1
      have hF2' : ¬ F' (w.heap.size + 1) := by subst hF'; exact hF2
      clear fA fwA hsA kAB I3' kg hF1 hF2 hF' oB gB0 bB kB0 yB gB1 G3 g0 gz0 e2 O3 s0 s1 s2 s3 s4 s5 B3 B4 I3 Q3
      have B3C := Lib.hid hm3; have B4C := Lib.hid hm4; clear hm3 hm4
      have HQ := Lib.hid hq; clear hq
      have HK := Lib.hid hk; clear hk
      have HIC := Lib.hid hIC; clear hIC
      have x1 := HQ.out.endAt.1
      have s0 : wC.cell? ⟨w.heap.size, 0, none⟩ = some (.int .u32 e) := B3C.out.cell 0
      have s1 : wC.cell? ⟨w.heap.size, 1, none⟩ = some (.bool syn) := B3C.out.cell 1
      have s2 : wC.cell? ⟨w.heap.size, 2, none⟩ = some (.bool fin) := B3C.out.cell 2
      have s3 : wC.cell? ⟨w.heap.size, 3, none⟩ = some (.slice A1 p.xs.length c1') := B3C.out.cell 3
      have s4 : wC.cell? ⟨w.heap.size, 4, none⟩ = some (.int .i64 dsn) := B3C.out.cell 4
      have s5 : wC.cell? ⟨w.heap.size, 5, none⟩ = some (.bool last) := B3C.out.cell 5
      have HLC := Lib.hid (fun w' (hf : Fine wC w') => refLong_any ⟨e, syn, fin, A1, p.xs.length, c1', dsn, last⟩ (withSeq p e) _ w' (HIC.out.fine hf) hs)
      rw [show long (withSeq p e) = n from HN.out] at HLC
      go_upto_region 7 with (fail)
      go_region_law (first | (go_simp; go_at_call 29; refine (HLC.out wC.drew (Fine.refl wC).drew).mono ?_; rintro x wL ⟨rfl, fL⟩; have xL : wL.cell? ⟨g, 1, none⟩ = some (.int .u32 e) := ((HQ.out.fine (Fine.refl wC).drew).fine fL).endAt.1) | (go_simp; go_at_call 31; refine (refOn_any e n he wL).mono ?_; rintro x wD ⟨rfl, fD⟩; have xD : wD.cell? ⟨g, 1, none⟩ = some (.int .u32 e) := (((HQ.out.fine (Fine.refl wC).drew).fine fL).fine fD).endAt.1; have xDz : wD.frozen? ⟨g, 1, none⟩ = false := (((HQ.out.fine (Fine.refl wC).drew).fine fL).fine fD).endAt.2.1))
      all_goals
        have fCD : Fine wC wD := ((Fine.refl wC).drew.trans fL).trans fD
        have QE := Lib.hid ((HQ.out.fine fCD).setEnd (onN e n)).1
        have kg : Kept (· = g) wD (wD.setCell ⟨g, 1, none⟩ (.int .u32 (onN e n))) := Kept.setIn (S := (· = g)) (p := ⟨g, 1, none⟩) (Kept.refl _ _) rfl _
        have KE := Lib.hid ((HK.out.trans (Kept.of_fine (S := F) fCD)).transG kg (fun _ _ s => s) (fun x hx s => by subst s; exact H4.out))
        have B3E := Lib.hid ((B3C.out.fine fCD).far (p := ⟨g, 1, none⟩) (by show _ ≠ g; omega) (.int .u32 (onN e n)))
        have B4E := Lib.hid ((B4C.out.fine fCD).far (p := ⟨g, 1, none⟩) (by show _ ≠ g; omega) (.int .u32 (onN e n)))
        have IE := Lib.hid (((HIC.out.fine fCD).kept kg (fun b hb h => by have := hb.1; omega)).less (v' := fun b => w.heap.size + 1 < b ∧ b < (wD.setCell ⟨g, 1, none⟩ (.int .u32 (onN e n))).heap.size) (fun b hb => ⟨hb.1, by have := hb.2; have := fCD.size; have := kg.size; omega⟩))
        clear fCD kg HQ HK B3C B4C HIC HLC fL xL fD xD xDz x1 s0 s1 s2 s3 s4 s5
        generalize (wD.setCell ⟨g, 1, none⟩ (.int .u32 (onN e n))) = wE at QE KE B3E B4E IE ⊢
        have s0 : wE.cell? ⟨w.heap.size, 0, none⟩ = some (.int .u32 e) := B3E.out.cell 0
        have s1 : wE.cell? ⟨w.heap.size, 1, none⟩ = some (.bool syn) := B3E.out.cell 1
        have s2 : wE.cell? ⟨w.heap.size, 2, none⟩ = some (.bool fin) := B3E.out.cell 2
        have s3 : wE.cell? ⟨w.heap.size, 3, none⟩ = some (.slice A1 p.xs.length c1') := B3E.out.cell 3
        have s4 : wE.cell? ⟨w.heap.size, 4, none⟩ = some (.int .i64 dsn) := B3E.out.cell 4
        have s5 : wE.cell? ⟨w.heap.size, 5, none⟩ = some (.bool last) := B3E.out.cell 5
        have t0 : wE.cell? ⟨w.heap.size + 1, 0, none⟩ = some (.int .u32 0) := B4E.out.cell 0
        have t1 : wE.cell? ⟨w.heap.size + 1, 1, none⟩ = some (.bool false) := B4E.out.cell 1
        have t2 : wE.cell? ⟨w.heap.size + 1, 2, none⟩ = some (.bool false) := B4E.out.cell 2
        have t3 : wE.cell? ⟨w.heap.size + 1, 3, none⟩ = some (.slice none 0 0) := B4E.out.cell 3
        have t4 : wE.cell? ⟨w.heap.size + 1, 4, none⟩ = some (.int .i64 0) := B4E.out.cell 4
        have t5 : wE.cell? ⟨w.heap.size + 1, 5, none⟩ = some (.bool false) := B4E.out.cell 5
        have tz0 : wE.frozen? ⟨w.heap.size + 1, 0, none⟩ = false := B4E.out.frozen 0
        have tz1 : wE.frozen? ⟨w.heap.size + 1, 1, none⟩ = false := B4E.out.frozen 1
        have tz2 : wE.frozen? ⟨w.heap.size + 1, 2, none⟩ = false := B4E.out.frozen 2
        have tz3 : wE.frozen? ⟨w.heap.size + 1, 3, none⟩ = false := B4E.out.frozen 3
        have tz4 : wE.frozen? ⟨w.heap.size + 1, 4, none⟩ = false := B4E.out.frozen 4
        have tz5 : wE.frozen? ⟨w.heap.size + 1, 5, none⟩ = false := B4E.out.frozen 5
        go_wp2_with fail
        obtain ⟨r1', r2', r3', r4'⟩ := rpush_end B4E.out QE.out hF2' IE.out (fun b hb => hb) KE.out
        refine bodyPost_ret (results_cell_row rfl _ _ (w.heap.size + 1) 46 _ (0, 0) _ rfl r1' Try.underlying46 rfl sizeP) rfl ?_
        exact ⟨⟨e, syn, fin, A1, p.xs.length, c1', dsn, last⟩, F', rfl, by unfold pushL; rw [HN.out, if_pos h0]; exact r2', r3', r4', hF1'⟩
  · have hn00 : n = 0 := by omega
    subst hn00
    clear h0
    have s0 : w3.cell? ⟨w.heap.size, 0, none⟩ = some (.int .u32 e) := B3.out.cell 0
    have s1 : w3.cell? ⟨w.heap.size, 1, none⟩ = some (.bool syn) := B3.out.cell 1
    have s2 : w3.cell? ⟨w.heap.size, 2, none⟩ = some (.bool fin) := B3.out.cell 2
    have s3 : w3.cell? ⟨w.heap.size, 3, none⟩ = some (.slice A1 p.xs.length c1') := B3.out.cell 3
    have s4 : w3.cell? ⟨w.heap.size, 4, none⟩ = some (.int .i64 dsn) := B3.out.cell 4
    have s5 : w3.cell? ⟨w.heap.size, 5, none⟩ = some (.bool last) := B3.out.cell 5
    have t0 : w3.cell? ⟨w.heap.size + 1, 0, none⟩ = some (.int .u32 0) := B4.out.cell 0
    have t1 : w3.cell? ⟨w.heap.size + 1, 1, none⟩ = some (.bool false) := B4.out.cell 1
    have t2 : w3.cell? ⟨w.heap.size + 1, 2, none⟩ = some (.bool false) := B4.out.cell 2
    have t3 : w3.cell? ⟨w.heap.size + 1, 3, none⟩ = some (.slice none 0 0) := B4.out.cell 3
    have t4 : w3.cell? ⟨w.heap.size + 1, 4, none⟩ = some (.int .i64 0) := B4.out.cell 4
    have t5 : w3.cell? ⟨w.heap.size + 1, 5, none⟩ = some (.bool false) := B4.out.cell 5
    have tz0 : w3.frozen? ⟨w.heap.size + 1, 0, none⟩ = false := B4.out.frozen 0
    have tz1 : w3.frozen? ⟨w.heap.size + 1, 1, none⟩ = false := B4.out.frozen 1
    have tz2 : w3.frozen? ⟨w.heap.size + 1, 2, none⟩ = false := B4.out.frozen 2
    have tz3 : w3.frozen? ⟨w.heap.size + 1, 3, none⟩ = false := B4.out.frozen 3
    have tz4 : w3.frozen? ⟨w.heap.size + 1, 4, none⟩ = false := B4.out.frozen 4
    have tz5 : w3.frozen? ⟨w.heap.size + 1, 5, none⟩ = false := B4.out.frozen 5
    go_wp2_with fail
    obtain ⟨r1', r2', r3', r4'⟩ := rpush_end B4.out Q3.out (fun h => by have := H6.out _ h; omega) I3.out (fun b hb => ⟨hb.1, hb.2.1⟩) (Kept.of_fine (S := F) fw3)
    refine bodyPost_ret (results_cell_row rfl _ _ (w.heap.size + 1) 46 _ (0, 0) _ rfl r1' Try.underlying46 rfl sizeP) rfl ?_
    exact ⟨⟨e, syn, fin, A1, p.xs.length, c1', dsn, last⟩, F, rfl, by
      unfold pushL onN
      rw [HN.out, if_neg (by omega)]
      have e0 : (e + ((0 : Nat) : Int)) % 4294967296 = e := by omega
      rw [e0]; exact r2', r3', r4', fun b hb => .inl hb⟩
end Go.Proofs.Ytjldgialhgfhmaa
