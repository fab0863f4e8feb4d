/- Package outq: pieces, as they lie; Long, own. Package outq: a queue; New, Begin, End, Len, All; serial.Steps and On. Package outq: Begin, All; Push of a queue that is not there. Package outq: what a queue is behind an append to its pieces. -/
import Derived.Test.YtjldgialhgfhmaaRows
import Derived.Test.YtjldgialhgfhmaaStructs
import Derived.Test.YtjldgialhgfhmaaCopy
import Derived.Test.YtjldgialhgfhmaaOpen
import Derived.WalkKit
import Derived.ProofKit
import Derived.OpenShut
import Derived.RegionTactic
import Derived.BigRegion
import Derived.BigQuiet
import Derived.Deep.QuietTactic
import Derived.WalkLawsBesides
import Derived.LoopTactic
import Derived.Outline
import Derived.Lib.Hide
import Derived.Deep.LoopGhost
import Derived.Deep.RegionHeld3
import Derived.Laws.Rows
namespace Go.Proofs.Ytjldgialhgfhmaa
set_option linter.unusedVariables false
set_option linter.unusedSimpArgs false
open Go.ChangeShapes Go.WideShapes Go.ChangeAt Go.RowKit
set_option linter.unusedVariables false

/-- A piece's cells. -/
structure Raw where
  seq : Int
  syn : Bool
  fin : Bool
  A : Option Addr
  len : Nat
  cap : Nat
  dsn : Int
  last : Bool
/-- What a piece is. -/
structure Pc where
  seq : Int
  syn : Bool
  fin : Bool
  xs : List Int
  dsn : Int
  last : Bool
abbrev Raw.cells (r : Raw) : List Value := [.int .u32 r.seq, .bool r.syn, .bool r.fin, .slice r.A r.len r.cap, .int .i64 r.dsn, .bool r.last]
def layP : Lay Raw 6 := { cs := Raw.cells, len := fun _ => rfl, one := fun x u hu => by simp [Raw.cells] at hu; rcases hu with rfl | rfl | rfl | rfl | rfl | rfl <;> rfl, pos := by decide }
abbrev LB : Lay Int 1 := layI .u8
theorem sliceP : SliceTy Try.prog 42 46 6 48 := SliceTy.mk' Try.underlying42 (z := .agg #[.int .u32 0, .bool false, .bool false, .slice none 0 0, .int .i64 0, .bool false]) (by kernel_rfl) rfl
theorem sliceB : SliceTy Try.prog 29 5 1 1 := SliceTy.mk' Try.underlying29 (z := .int .u8 0) (by kernel_rfl) rfl
def Raw.put (r : Raw) (A : Option Addr) (c : Nat) : Raw := { r with A := A, cap := c }
theorem RS.keptP {α : Type} {n : Nat} {E : Lay α n} {w w' : World} {A : Option Addr} {c : Nat} {xs : List α} {S : Nat → Prop} (h : RS E w A c xs) (hf : Kept S w w') (hn : ∀ b off, A = some ⟨b, off, none⟩ → 0 < xs.length → ¬ S b) : RS E w' A c xs :=
  ⟨h.1, h.2.1, h.2.2.1, fun hp => by
    obtain ⟨b, off, e, hb, hc⟩ := h.2.2.2 hp
    exact ⟨b, off, e, Nat.lt_of_lt_of_le hb hf.size, fun i v hv => (hf.cell hb (hn b off e hp)).trans (hc i v hv)⟩⟩
/-- A piece that lies as its cells say; its data in blocks of a kind. -/
def Is (w : World) (v : Nat → Prop) (r : Raw) (p : Pc) : Prop :=
  r.seq = p.seq ∧ r.syn = p.syn ∧ r.fin = p.fin ∧ r.dsn = p.dsn ∧ r.last = p.last ∧ r.len = p.xs.length ∧ RS LB w r.A r.cap p.xs ∧ ∀ b off, r.A = some ⟨b, off, none⟩ → 0 < p.xs.length → v b
theorem Is.fine {w w' : World} {v : Nat → Prop} {r : Raw} {p : Pc} (h : Is w v r p) (hf : Fine w w') : Is w' v r p :=
  ⟨h.1, h.2.1, h.2.2.1, h.2.2.2.1, h.2.2.2.2.1, h.2.2.2.2.2.1, h.2.2.2.2.2.2.1.fine hf, h.2.2.2.2.2.2.2⟩
theorem Is.kept {w w' : World} {v S : Nat → Prop} {r : Raw} {p : Pc} (h : Is w v r p) (hf : Kept S w w') (hv : ∀ b, v b → ¬ S b) : Is w' v r p :=
  ⟨h.1, h.2.1, h.2.2.1, h.2.2.2.1, h.2.2.2.2.1, h.2.2.2.2.2.1, h.2.2.2.2.2.2.1.keptP hf (fun b off e z => hv b (h.2.2.2.2.2.2.2 b off e z)), h.2.2.2.2.2.2.2⟩
theorem Is.less {w : World} {v v' : Nat → Prop} {r : Raw} {p : Pc} (h : Is w v r p) (hv : ∀ b, v b → v' b) : Is w v' r p :=
  ⟨h.1, h.2.1, h.2.2.1, h.2.2.2.1, h.2.2.2.2.1, h.2.2.2.2.2.1, h.2.2.2.2.2.2.1, fun b off e z => hv b (h.2.2.2.2.2.2.2 b off e z)⟩
def Iss (w : World) (v : Nat → Prop) (rs : List Raw) (ps : List Pc) : Prop := rs.length = ps.length ∧ ∀ (i : Nat) (r : Raw) (p : Pc), rs[i]? = some r → ps[i]? = some p → Is w v r p
theorem Iss.fine {w w' : World} {v : Nat → Prop} {rs : List Raw} {ps : List Pc} (h : Iss w v rs ps) (hf : Fine w w') : Iss w' v rs ps := ⟨h.1, fun i r p e1 e2 => (h.2 i r p e1 e2).fine hf⟩
theorem Iss.kept {w w' : World} {v S : Nat → Prop} {rs : List Raw} {ps : List Pc} (h : Iss w v rs ps) (hf : Kept S w w') (hv : ∀ b, v b → ¬ S b) : Iss w' v rs ps := ⟨h.1, fun i r p e1 e2 => (h.2 i r p e1 e2).kept hf hv⟩
theorem Iss.less {w : World} {v v' : Nat → Prop} {rs : List Raw} {ps : List Pc} (h : Iss w v rs ps) (hv : ∀ b, v b → v' b) : Iss w v' rs ps := ⟨h.1, fun i r p e1 e2 => (h.2 i r p e1 e2).less hv⟩
theorem Iss.nil_ (w : World) (v : Nat → Prop) : Iss w v [] [] := ⟨rfl, fun i r p e => by simp at e⟩
theorem Iss.take {w : World} {v : Nat → Prop} {rs : List Raw} {ps : List Pc} (h : Iss w v rs ps) (k : Nat) : Iss w v (rs.take k) (ps.take k) := by
  refine ⟨by simp [h.1], fun i r p e1 e2 => ?_⟩
  rw [List.getElem?_take] at e1 e2
  split at e1
  · rename_i hk
    rw [if_pos hk] at e2
    exact h.2 i r p e1 e2
  · simp at e1
theorem Iss.drop {w : World} {v : Nat → Prop} {rs : List Raw} {ps : List Pc} (h : Iss w v rs ps) (k : Nat) : Iss w v (rs.drop k) (ps.drop k) := by
  refine ⟨by simp [h.1], fun i r p e1 e2 => ?_⟩
  rw [List.getElem?_drop] at e1 e2
  exact h.2 _ r p e1 e2
theorem Iss.append {w : World} {v : Nat → Prop} {rs rs' : List Raw} {ps ps' : List Pc} (h : Iss w v rs ps) (h' : Iss w v rs' ps') : Iss w v (rs ++ rs') (ps ++ ps') := by
  refine ⟨by simp [h.1, h'.1], fun i r p e1 e2 => ?_⟩
  by_cases hi : i < rs.length
  · rw [List.getElem?_append_left hi] at e1
    rw [List.getElem?_append_left (by have := h.1; omega)] at e2
    exact h.2 i r p e1 e2
  · rw [List.getElem?_append_right (by omega)] at e1
    rw [List.getElem?_append_right (by have := h.1; omega)] at e2
    rw [h.1] at e1
    exact h'.2 _ r p e1 e2
theorem Iss.one {w : World} {v : Nat → Prop} {r : Raw} {p : Pc} (h : Is w v r p) : Iss w v [r] [p] := by
  refine ⟨rfl, fun i r' p' e1 e2 => ?_⟩
  rcases i with _ | i
  · simp at e1 e2; subst e1 e2; exact h
  · simp at e1
theorem Iss.set_ {w : World} {v : Nat → Prop} {rs : List Raw} {ps : List Pc} (h : Iss w v rs ps) {i : Nat} {r : Raw} {p : Pc} (hp : ps[i]? = some p) (hr : Is w v r p) : Iss w v (rs.set i r) ps := by
  refine ⟨by simp [h.1], fun j r' p' e1 e2 => ?_⟩
  rw [List.getElem?_set] at e1
  split at e1
  · rename_i hij
    subst hij
    split at e1
    · injection e1 with e1
      subst e1
      rw [hp] at e2
      injection e2 with e2
      subst e2
      exact hr
    · cases e1
  · exact h.2 j r' p' e1 e2
/-- How many numbers a piece takes. -/
def long (p : Pc) : Nat := p.xs.length + (if p.syn then 1 else 0) + (if p.fin then 1 else 0)
theorem long_any (r : Raw) (p : Pc) (v : Nat → Prop) (w : World) (hp : Is w v r p) (hs : p.xs.length ≤ 1000) :
    Calls Try.prog 64 #[.agg r.cells.toArray] w fun e w' => e = .returned (.int .i64 (long p)) ∧ Fine w w' := by
  obtain ⟨h1, h2, h3, h4, h5, h6, h7, h8⟩ := hp
  obtain ⟨seq, syn, fin, A, len, cap, dsn, last⟩ := r
  simp only at h1 h2 h3 h4 h5 h6
  clear h7 h8
  have hlen : (len : Int) = p.xs.length := by omega
  have hlo : (len : Int) ≤ 1000 := by omega
  have hlong : ((long p : Nat) : Int) = len + (if syn then 1 else 0) + (if fin then 1 else 0) := by
    unfold long; rw [← h2, ← h3, ← h6]; cases syn <;> cases fin <;> simp
  clear hlen hs h6 h2 h3
  have HL := Lib.hid hlong; clear hlong
  show Calls Try.prog 64 #[.agg #[.int .u32 seq, .bool syn, .bool fin, .slice A len cap, .int .i64 dsn, .bool last]] w _
  have hb : Blk (w.alloc (.cells #[.int .u32 seq, .bool syn, .bool fin, .slice A len cap, .int .i64 dsn, .bool last] 46)) w.heap.size 46 #[.int .u32 seq, .bool syn, .bool fin, .slice A len cap, .int .i64 dsn, .bool last] := Blk.new w 46 _
  have c1 := hb.cell 1
  have c2 := hb.cell 2
  have c3 := hb.cell 3
  clear hb
  simp at c1 c2 c3
  cases syn <;> cases fin
  all_goals
    go_enter Try.func64, Try.ntmps64
    go_wp2_with fail
    go_ret
    exact ⟨by rw [HL.out]; simp, (by repeat (first | exact Fine.refl _ | assumption | refine Fine.alloc ?_ _ | refine Fine.drew ?_ | refine Fine.drewN ?_ _ | refine Fine.trans ?_ (by assumption) | (refine Fine.kept ?_ (by assumption) (by intro x hx; first | omega | (simp; omega))) | (refine Fine.setCell ?_ (by first | assumption | (simp; done) | (simp; omega)) _)))⟩
/-- A block of which no cell is frozen. -/
def Unf (w : World) (b : Nat) : Prop := ∀ k, w.frozen? ⟨b, k, none⟩ = false
theorem Unf.kept {w w' : World} {S : Nat → Prop} {b : Nat} (h : Unf w b) (hk : Kept S w w') (hb : b < w.heap.size) (hn : ¬ S b) : Unf w' b :=
  fun k => (World.frozen?_of_block (w := w) (a := ⟨b, k, none⟩) (hk.block b hb hn)).trans (h k)
theorem Unf.fine {w w' : World} {b : Nat} (h : Unf w b) (hf : Fine w w') (hb : b < w.heap.size) : Unf w' b := h.kept (Kept.of_fine (S := fun _ => False) hf) hb id
theorem Own.unf {α : Type} {n : Nat} {E : Lay α n} {e : TypeId} {w : World} {base : Nat} {A : Option Addr} {m c : Nat} {xs : List α} (h : Own E e w base (.slice A m c) xs) : ∀ b o, A = some ⟨b, o, none⟩ → Unf w b := by
  intro b o hA k
  rcases h.2 with ⟨h1, _⟩ | ⟨g, cap, cur, h1, _, hg, _⟩
  · subst hA; cases h1
  · subst hA
    injection h1 with h1
    injection h1 with h1
    injection h1 with h1
    subst h1
    simp [World.frozen?, hg]
def Fresh (n : Nat) (w : World) (b : Nat) : Prop := n < b ∧ b < w.heap.size ∧ Unf w b
theorem flat_cells (rs : List Raw) (i : Nat) (r : Raw) (h : rs[i]? = some r) (j : Nat) (hj : j < 6) : ((layP.flat rs).toArray)[i * 6 + j]? = r.cells[j]? := by
  rw [List.getElem?_toArray]; exact layP.flat_at h hj
set_option maxRecDepth 20000 in
theorem own_any (A : Option Addr) (c : Nat) (rs : List Raw) (ps : List Pc) (v : Nat → Prop) (w : World) (hr : RS layP w A c rs) (hp : Iss w v rs ps) (hn : rs.length ≤ 1000) (hs : ∀ p ∈ ps, p.xs.length ≤ 1000) :
    Calls Try.prog 65 #[.slice A rs.length c] w fun e w' => ∃ rs', e = .returned (.slice (some ⟨w.heap.size, 0, none⟩) rs.length rs.length) ∧ rs'.length = rs.length ∧ Blk w' w.heap.size 46 (layP.flat rs').toArray ∧ Iss w' (Fresh w.heap.size w') rs' ps ∧ Fine w w' := by
  have hlen := Lib.hid hp.1
  have hle := hr.le
  have hmx := hr.max
  have HR := Lib.hid hr; clear hr
  have HP := Lib.hid hp; clear hp
  have HS := Lib.hid hs; clear hs
  go_enter Try.func65, Try.ntmps65
  go_wp2_with (first
    | (at_make; refine wpList_makeE rfl sliceP (.tmp 6) (.tmp 6) rfl rs.length (rs.length : Int) (rs.length : Int) rfl rfl rfl rfl (by omega) (by unfold maxLen; omega) ?_; intro w1 cs hcs hb1 f1; have HB := Lib.hid hb1; clear hb1)
    | (refine wpList_copyE (o := ⟨some 10, _, _, _, _, _⟩) rfl sliceP (.tmp 8) (.tmp 9) rfl w.heap.size cs HB.out rs.length rs.length rfl A rs.length c rs rfl rfl rfl hcs (HR.out.fine f1) ?_; intro w2 hb2 k2; have HB2 := Lib.hid hb2; clear hb2))
  have f2 : Fine w w2 := Fine.kept f1 k2 (by intro x hx; omega)
  have hg2 : w.heap.size < w2.heap.size := HB2.out.lt
  clear k2
  clear HB f1
  clear hcs
  go_loopw [13] (fun i wr => ∃ k : Nat, k ≤ rs.length ∧ i = .int .i64 k ∧ Hid (∃ rs' : List Raw, rs'.length = rs.length ∧ (∀ j, k ≤ j → rs'[j]? = rs[j]?) ∧ Blk wr w.heap.size 46 (layP.flat rs').toArray ∧ ∀ (j : Nat) (r : Raw) (p : Pc), j < k → rs'[j]? = some r → ps[j]? = some p → Is wr (Fresh w.heap.size wr) r p) ∧ Fine w wr ∧ w.heap.size < wr.heap.size) (fun i _ => rs.length - (intOf i).toNat)
  case atStart => exact ⟨0, Nat.zero_le _, rfl, ⟨rs, rfl, fun _ _ => rfl, HB2.out, fun j r p h => by omega⟩, f2, hg2⟩
  case round =>
    obtain ⟨k, hk, rfl, hrel0, hf, hgr⟩ := hrel
    by_cases hlt : k < rs.length
    · obtain ⟨rs', h1, h2, h3, h4⟩ := hrel0.out
      clear hrel0
      obtain ⟨r, hr0⟩ : ∃ r, rs'[k]? = some r := ⟨rs'[k]'(by omega), by rw [List.getElem?_eq_getElem]⟩
      obtain ⟨p, hp0⟩ : ∃ p, ps[k]? = some p := ⟨ps[k]'(by have := hlen.out; omega), by rw [List.getElem?_eq_getElem]⟩
      have hr1 : rs[k]? = some r := by rw [← h2 k (Nat.le_refl _)]; exact hr0
      have his := HP.out.2 k r p hr1 hp0
      have hps := HS.out p (List.mem_of_getElem? hp0)
      obtain ⟨seq, syn, fin, A1, len, cap, dsn, last⟩ := r
      have hc3 : ((layP.flat rs').toArray)[k * 6 + 3]? = some (.slice A1 len cap) := flat_cells rs' k _ hr0 3 (by decide)
      have e0 : wr.cell? ⟨w.heap.size, k * 6 + 3, none⟩ = some (.slice A1 len cap) := by rw [h3.cell]; exact hc3
      have hfz := h3.frozen (k * 6 + 3)
      have hl1 : Hid (len = p.xs.length) := his.2.2.2.2.2.1
      have hrs1 := his.2.2.2.2.2.2.1
      have HIS := Lib.hid his; clear his
      have HRS := Lib.hid hrs1; clear hrs1
      have H1 := Lib.hid h1; clear h1
      have H2 := Lib.hid h2; clear h2
      have H3 := Lib.hid h3; clear h3
      have H4 := Lib.hid h4; clear h4
      have HR0 := Lib.hid hr0; clear hr0
      have HR1 := Lib.hid hr1; clear hr1
      have HP0 := Lib.hid hp0; clear hp0
      clear hc3
      go_wp2_with (at_builtin; refine wpList_appE rfl sliceB (.const (.slice none 0 0)) (.tmp 22) rfl wr.heap.size _ [] rfl (Own.nil_ _ _ _ _) A1 len cap p.xs rfl hl1.out (HRS.out.fine hf) ?_ ?_ ?_ ?_)
      · (first | omega | (unfold maxLen; omega) | (simp; omega) | (simp; unfold maxLen; omega))
      · (first | omega | (unfold maxLen; omega) | (simp; omega) | (simp; unfold maxLen; omega))
      · intro A2 c2 w3 hown3 k3 hg3
        have f3 : Fine wr w3 := (Fine.refl wr).kept k3 (by intro x hx; omega)
        have hb3 := H3.out.fine f3
        have c3 : w3.cell? ⟨w.heap.size, k * 6 + 3, none⟩ = some (.slice A1 len cap) := (f3.cell (p := ⟨w.heap.size, k * 6 + 3, none⟩) hgr).trans e0
        have z3 := hb3.frozen (k * 6 + 3)
        have HB3 := Lib.hid hb3; clear hb3
        have hs3 := f3.size
        clear k3 hg3
        go_wp2_with fail
        go_roundw
        case rel =>
          have hx : (layP.flat (rs'.set k ⟨seq, syn, fin, A2, p.xs.length, c2, dsn, last⟩)) = (layP.flat rs').set (k * 6 + 3) (.slice A2 p.xs.length c2) := layP.flat_set HR0.out (by decide) rfl
          have hb4 := HB3.out.set_ (k * 6 + 3) (.slice A2 p.xs.length c2)
          have kk : Kept (· = w.heap.size) w3 (w3.setCell ⟨w.heap.size, k * 6 + 3, none⟩ (.slice A2 p.xs.length c2)) := Kept.setIn (S := (· = w.heap.size)) (p := ⟨w.heap.size, k * 6 + 3, none⟩) (Kept.refl _ _) rfl _
          refine ⟨k + 1, by omega, by go_num, ⟨rs'.set k ⟨seq, syn, fin, A2, p.xs.length, c2, dsn, last⟩, by simpa using H1.out, fun j hj => ?_, ?_, fun j r q hj e1 e2 => ?_⟩, ?_, ?_⟩
          · rw [List.getElem?_set_ne (by omega)]; exact H2.out j (by omega)
          · rw [hx]; simpa using hb4
          · by_cases hjk : j = k
            · subst hjk
              rw [List.getElem?_set_self (by have := H1.out; omega)] at e1
              injection e1 with e1
              subst e1
              rw [HP0.out] at e2
              injection e2 with e2
              subst e2
              obtain ⟨i1, i2, i3, i4, i5, i6, i7, i8⟩ := HIS.out
              exact ⟨i1, i2, i3, i4, i5, rfl, hown3.out.rs.1.kept kk (fun b off e => by have := (hown3.out.from_ b off e).1; omega), fun b off e _ => by have := (hown3.out.from_ b off e); exact ⟨by omega, by simp [World.setCell]; omega, (hown3.out.unf b off e).kept kk this.2 (by omega)⟩⟩
            · rw [List.getElem?_set_ne (by omega)] at e1
              exact (((H4.out j r q (by omega) e1 e2).fine f3).kept kk (fun b hb => by unfold Fresh at hb; omega)).less (fun b hb => ⟨hb.1, by have := hb.2; have := f3.size; simp [World.setCell]; omega, (hb.2.2.fine f3 hb.2.1).kept kk (by have := hb.2.1; have := f3.size; omega) (by have := hb.1; omega)⟩)
          · exact Fine.setCell (hf.trans f3) (by simp) _
          · simp [World.setCell]; omega
        case measure => simp [intOf]; omega
    · obtain ⟨rs', h1, h2, h3, h4⟩ := hrel0.out
      clear hrel0
      have H1 := Lib.hid h1; clear h1
      have H3 := Lib.hid h3; clear h3
      have H4 := Lib.hid h4; clear h4 h2
      go_wp2_with fail
      go_ret
      exact ⟨rs', rfl, H1.out, H3.out, ⟨by rw [H1.out, hlen.out], fun j r p e1 e2 => H4.out j r p (by have := (List.getElem?_eq_some_iff.1 e1).1; rw [H1.out] at this; omega) e1 e2⟩, hf⟩
end Go.Proofs.Ytjldgialhgfhmaa
namespace Go.Proofs.Ytjldgialhgfhmaa
set_option linter.unusedVariables false
set_option linter.unusedSimpArgs false
open Go.ChangeShapes Go.WideShapes Go.ChangeAt Go.RowKit
set_option linter.unusedVariables false

/-- From one number of 32 bits to another. -/
def dist (a b : Int) : Int := (b - a) % 4294967296
theorem dist_bd (a b : Int) : 0 ≤ dist a b ∧ dist a b < 4294967296 := by unfold dist; omega
def onN (a n : Int) : Int := (a + n) % 4294967296
theorem steps_any (a b : Int) (w : World) :
    Calls Try.prog 88 #[.agg #[.int .u32 a], .int .u32 b] w fun e w' => e = .returned (.int .u32 (dist a b)) ∧ Fine w w' := by
  go_enter Try.func88, Try.ntmps88
  go_wp2
  go_ret
  exact ⟨by rfl, (by repeat (first | exact Fine.refl _ | assumption | refine Fine.alloc ?_ _ | refine Fine.drew ?_ | refine Fine.drewN ?_ _ | refine Fine.trans ?_ (by assumption) | (refine Fine.kept ?_ (by assumption) (by intro x hx; first | omega | (simp; omega))) | (refine Fine.setCell ?_ (by first | assumption | (simp; done) | (simp; omega)) _)))⟩
theorem slong_any (a b : Int) (w : World) :
    Calls Try.prog 82 #[.agg #[.int .u32 a, .int .u32 b]] w fun e w' => e = .returned (.int .u32 (dist a b)) ∧ Fine w w' := by
  go_enter Try.func82, Try.ntmps82
  go_wp2_with (go_at_call 88; refine (steps_any _ _ _).mono ?_; rintro e w' ⟨rfl, hg⟩)
  go_ret
  exact ⟨rfl, (by repeat (first | exact Fine.refl _ | assumption | refine Fine.alloc ?_ _ | refine Fine.drew ?_ | refine Fine.drewN ?_ _ | refine Fine.trans ?_ (by assumption) | (refine Fine.kept ?_ (by assumption) (by intro x hx; first | omega | (simp; omega))) | (refine Fine.setCell ?_ (by first | assumption | (simp; done) | (simp; omega)) _)))⟩
theorem Steps_any (a b : Int) (w : World) :
    Calls Try.prog 67 #[.int .u32 a, .int .u32 b] w fun e w' => e = .returned (.int .i64 (dist a b)) ∧ Fine w w' := by
  have hd := dist_bd a b
  go_enter Try.func67, Try.ntmps67
  go_wp2_with (go_at_call 82; refine (slong_any _ _ _).mono ?_; rintro e w' ⟨rfl, hg⟩)
  go_ret
  exact ⟨rfl, (by repeat (first | exact Fine.refl _ | assumption | refine Fine.alloc ?_ _ | refine Fine.drew ?_ | refine Fine.drewN ?_ _ | refine Fine.trans ?_ (by assumption) | (refine Fine.kept ?_ (by assumption) (by intro x hx; first | omega | (simp; omega))) | (refine Fine.setCell ?_ (by first | assumption | (simp; done) | (simp; omega)) _)))⟩
theorem On_any (a n : Int) (w : World) :
    Calls Try.prog 66 #[.int .u32 a, .int .i64 n] w fun e w' => e = .returned (.int .u32 (onN a n)) ∧ Fine w w' := by
  go_enter Try.func66, Try.ntmps66
  go_wp2
  go_ret
  refine ⟨?_, (by repeat (first | exact Fine.refl _ | assumption | refine Fine.alloc ?_ _ | refine Fine.drew ?_ | refine Fine.drewN ?_ _ | refine Fine.trans ?_ (by assumption) | (refine Fine.kept ?_ (by assumption) (by intro x hx; first | omega | (simp; omega))) | (refine Fine.setCell ?_ (by first | assumption | (simp; done) | (simp; omega)) _)))⟩
  simp [onN]
/-- A queue that lies at g, in blocks of a kind. -/
def QT (t : TypeId) (w : World) (F : Nat → Prop) (g : Nat) (ps : List Pc) (e : Int) : Prop :=
  ∃ A c rs, Blk w g t #[.slice A rs.length c, .int .u32 e] ∧ Own layP 46 w (g + 1) (.slice A rs.length c) rs ∧ Iss w (fun b => F b ∧ b ≠ g ∧ ∀ o, A ≠ some ⟨b, o, none⟩) rs ps ∧ F g ∧ (∀ b o, A = some ⟨b, o, none⟩ → F b) ∧ (∀ b, F b → b < w.heap.size)
/-- The program's queue; the document's. -/
abbrev QB := QT 107
abbrev RB := QT 59
theorem Own.block_ {α : Type} {n : Nat} {E : Lay α n} {e : TypeId} {w : World} {base : Nat} {A : Option Addr} {m c k : Nat} {xs : List α} (h : Own E e w base (.slice A m c) xs) (hk : (Value.slice A m c).ownBlock = some k) : A = some ⟨k, 0, none⟩ := by
  obtain ⟨_, h⟩ := h
  rcases h with ⟨e1, _⟩ | ⟨g, cap, cur, e1, _⟩
  · injection e1 with e1
    subst e1
    cases hk
  · injection e1 with e1
    subst e1
    injection hk with hk
    subst hk
    rfl
theorem QT.kept {t : TypeId} {w w' : World} {F S : Nat → Prop} {g : Nat} {ps : List Pc} {e : Int} (h : QT t w F g ps e) (hf : Kept S w w') (hd : ∀ b, F b → ¬ S b) : QT t w' F g ps e := by
  obtain ⟨A, c, rs, h1, h2, h3, h4, h5, h6⟩ := h
  refine ⟨A, c, rs, ?_, ?_, h3.kept hf (fun b hb => hd b hb.1), h4, h5, fun b hb => Nat.lt_of_lt_of_le (h6 b hb) hf.size⟩
  · exact h1.kept hf (hd g h4)
  · exact h2.kept hf (fun k hk => hd k (h5 k 0 (h2.block_ hk)))
theorem QT.fine {t : TypeId} {w w' : World} {F : Nat → Prop} {g : Nat} {ps : List Pc} {e : Int} (h : QT t w F g ps e) (hf : Fine w w') : QT t w' F g ps e := h.kept (Kept.of_fine (S := fun _ => False) hf) (fun _ _ => id)
def beginQ (ps : List Pc) (e : Int) : Int := match ps with | [] => e | p :: _ => p.seq
theorem new_any (s : Int) (w : World) : Calls Try.prog 27 #[.int .u32 s] w fun e w' => e = .returned (.pointer (some ⟨w.heap.size, 0, none⟩)) ∧ QB w' (· = w.heap.size) w.heap.size [] s ∧ Fine w w' := by
  go_enter Try.func27, Try.ntmps27
  go_wp2_with fail
  go_ret
  refine ⟨rfl, ⟨none, 0, [], Blk.new w 107 _, Own.nil_ _ _ _ _, Iss.nil_ _ _, rfl, (fun b o h => by cases h), (fun b hb => by subst hb; simp)⟩, (by repeat (first | exact Fine.refl _ | assumption | refine Fine.alloc ?_ _ | refine Fine.drew ?_ | refine Fine.drewN ?_ _ | refine Fine.trans ?_ (by assumption) | (refine Fine.kept ?_ (by assumption) (by intro x hx; first | omega | (simp; omega))) | (refine Fine.setCell ?_ (by first | assumption | (simp; done) | (simp; omega)) _)))⟩
theorem end_any (g : Nat) (F : Nat → Prop) (ps : List Pc) (e : Int) (w : World) (h : QB w F g ps e) : Calls Try.prog 33 #[.pointer (some ⟨g, 0, none⟩)] w fun x w' => x = .returned (.int .u32 e) ∧ Fine w w' := by
  obtain ⟨A, c, rs, h1, h2, h3, h4, h5, h6⟩ := h
  have c1 : w.cell? ⟨g, 1, none⟩ = some (.int .u32 e) := h1.cell 1
  clear h1 h2 h3 h4 h5 h6
  go_enter Try.func33, Try.ntmps33
  go_wp2_with fail
  go_ret
  exact ⟨rfl, (by repeat (first | exact Fine.refl _ | assumption | refine Fine.alloc ?_ _ | refine Fine.drew ?_ | refine Fine.drewN ?_ _ | refine Fine.trans ?_ (by assumption) | (refine Fine.kept ?_ (by assumption) (by intro x hx; first | omega | (simp; omega))) | (refine Fine.setCell ?_ (by first | assumption | (simp; done) | (simp; omega)) _)))⟩
theorem end_nil (w : World) : Calls Try.prog 33 #[.pointer none] w fun x w' => x = .returned (.int .u32 0) ∧ Fine w w' := by
  go_enter Try.func33, Try.ntmps33
  go_wp2_with fail
  go_ret
  exact ⟨rfl, (by repeat (first | exact Fine.refl _ | assumption | refine Fine.alloc ?_ _ | refine Fine.drew ?_ | refine Fine.drewN ?_ _ | refine Fine.trans ?_ (by assumption) | (refine Fine.kept ?_ (by assumption) (by intro x hx; first | omega | (simp; omega))) | (refine Fine.setCell ?_ (by first | assumption | (simp; done) | (simp; omega)) _)))⟩
theorem len_any (g : Nat) (F : Nat → Prop) (ps : List Pc) (e : Int) (w : World) (h : QB w F g ps e) : Calls Try.prog 34 #[.pointer (some ⟨g, 0, none⟩)] w fun x w' => x = .returned (.int .i64 ps.length) ∧ Fine w w' := by
  obtain ⟨A, c, rs, h1, h2, h3, h4, h5, h6⟩ := h
  have c0 : w.cell? ⟨g, 0, none⟩ = some (.slice A rs.length c) := h1.cell 0
  have hl := Lib.hid h3.1
  clear h1 h2 h3 h4 h5 h6
  go_enter Try.func34, Try.ntmps34
  go_wp2_with fail
  go_ret
  exact ⟨by rw [← hl.out]; rfl, (by repeat (first | exact Fine.refl _ | assumption | refine Fine.alloc ?_ _ | refine Fine.drew ?_ | refine Fine.drewN ?_ _ | refine Fine.trans ?_ (by assumption) | (refine Fine.kept ?_ (by assumption) (by intro x hx; first | omega | (simp; omega))) | (refine Fine.setCell ?_ (by first | assumption | (simp; done) | (simp; omega)) _)))⟩
theorem len_nil (w : World) : Calls Try.prog 34 #[.pointer none] w fun x w' => x = .returned (.int .i64 0) ∧ Fine w w' := by
  go_enter Try.func34, Try.ntmps34
  go_wp2_with fail
  go_ret
  exact ⟨rfl, (by repeat (first | exact Fine.refl _ | assumption | refine Fine.alloc ?_ _ | refine Fine.drew ?_ | refine Fine.drewN ?_ _ | refine Fine.trans ?_ (by assumption) | (refine Fine.kept ?_ (by assumption) (by intro x hx; first | omega | (simp; omega))) | (refine Fine.setCell ?_ (by first | assumption | (simp; done) | (simp; omega)) _)))⟩
theorem begin_nil (w : World) : Calls Try.prog 32 #[.pointer none] w fun x w' => x = .returned (.int .u32 0) ∧ Fine w w' := by
  go_enter Try.func32, Try.ntmps32
  go_wp2_with fail
  go_ret
  exact ⟨rfl, (by repeat (first | exact Fine.refl _ | assumption | refine Fine.alloc ?_ _ | refine Fine.drew ?_ | refine Fine.drewN ?_ _ | refine Fine.trans ?_ (by assumption) | (refine Fine.kept ?_ (by assumption) (by intro x hx; first | omega | (simp; omega))) | (refine Fine.setCell ?_ (by first | assumption | (simp; done) | (simp; omega)) _)))⟩
theorem all_nil (w : World) : Calls Try.prog 40 #[.pointer none] w fun x w' => x = .returned (.slice none 0 0) ∧ Fine w w' := by
  go_enter Try.func40, Try.ntmps40
  go_wp2_with fail
  go_ret
  exact ⟨rfl, (by repeat (first | exact Fine.refl _ | assumption | refine Fine.alloc ?_ _ | refine Fine.drew ?_ | refine Fine.drewN ?_ _ | refine Fine.trans ?_ (by assumption) | (refine Fine.kept ?_ (by assumption) (by intro x hx; first | omega | (simp; omega))) | (refine Fine.setCell ?_ (by first | assumption | (simp; done) | (simp; omega)) _)))⟩
theorem ack_nil (n : Int) (w : World) : Calls Try.prog 30 #[.pointer none, .int .u32 n] w fun x w' => x = .returned (.tuple #[.slice none 0 0, .bool false]) ∧ Fine w w' := by
  go_enter Try.func30, Try.ntmps30
  go_wp2_with fail
  go_step3
  go_wp2_with fail
  try rw [Exit.noGoto_ret]
  go_ret2
  exact ⟨rfl, (by repeat (first | exact Fine.refl _ | assumption | refine Fine.alloc ?_ _ | refine Fine.drew ?_ | refine Fine.drewN ?_ _ | refine Fine.trans ?_ (by assumption) | (refine Fine.kept ?_ (by assumption) (by intro x hx; first | omega | (simp; omega))) | (refine Fine.setCell ?_ (by first | assumption | (simp; done) | (simp; omega)) _)))⟩
end Go.Proofs.Ytjldgialhgfhmaa
namespace Go.Proofs.Ytjldgialhgfhmaa
set_option linter.unusedVariables false
set_option linter.unusedSimpArgs false
open Go.ChangeShapes Go.WideShapes Go.ChangeAt Go.RowKit
set_option linter.unusedVariables false

theorem sizeP : (Try.prog.info? 46).map (·.size) = some 6 := by kernel_rfl
theorem begin_any (g : Nat) (F : Nat → Prop) (ps : List Pc) (e : Int) (w : World) (h : QB w F g ps e) : Calls Try.prog 32 #[.pointer (some ⟨g, 0, none⟩)] w fun x w' => x = .returned (.int .u32 (beginQ ps e)) ∧ Fine w w' := by
  obtain ⟨A, c, rs, h1, h2, h3, h4, h5, h6⟩ := h
  have c0 : w.cell? ⟨g, 0, none⟩ = some (.slice A rs.length c) := h1.cell 0
  have c1 : w.cell? ⟨g, 1, none⟩ = some (.int .u32 e) := h1.cell 1
  rcases ps with _ | ⟨p, ps⟩
  · have hl : rs = [] := List.eq_nil_of_length_eq_zero (by have := h3.1; simpa using this)
    subst hl
    clear h1 h2 h3 h4 h5 h6
    simp only [List.length_nil] at c0
    go_enter Try.func32, Try.ntmps32
    go_wp2_with fail
    go_ret
    exact ⟨rfl, (by repeat (first | exact Fine.refl _ | assumption | refine Fine.alloc ?_ _ | refine Fine.drew ?_ | refine Fine.drewN ?_ _ | refine Fine.trans ?_ (by assumption) | (refine Fine.kept ?_ (by assumption) (by intro x hx; first | omega | (simp; omega))) | (refine Fine.setCell ?_ (by first | assumption | (simp; done) | (simp; omega)) _)))⟩
  · rcases rs with _ | ⟨r, rs⟩
    · exact absurd h3.1 (by simp)
    · have hs := Lib.hid (h3.2 0 r p rfl rfl).1
      obtain ⟨b, off, rfl, hb, hc⟩ := h2.rs.1.at_ (k := 0) (x := r) rfl
      have e0 := hc 0 (.int .u32 r.seq) rfl
      simp only [Nat.zero_mul, Nat.add_zero] at e0
      have hle := h2.rs.1.le
      clear hc h1 h2 h3 h4 h5 h6
      obtain ⟨n, hn⟩ : ∃ n, (r :: rs).length = n + 1 := ⟨rs.length, rfl⟩
      rw [hn] at c0 hle
      clear hn
      go_enter Try.func32, Try.ntmps32
      go_wp2_with fail
      go_ret
      exact ⟨by rw [show beginQ (p :: ps) e = p.seq from rfl, ← hs.out]; rfl, (by repeat (first | exact Fine.refl _ | assumption | refine Fine.alloc ?_ _ | refine Fine.drew ?_ | refine Fine.drewN ?_ _ | refine Fine.trans ?_ (by assumption) | (refine Fine.kept ?_ (by assumption) (by intro x hx; first | omega | (simp; omega))) | (refine Fine.setCell ?_ (by first | assumption | (simp; done) | (simp; omega)) _)))⟩
/-- Pieces that a call hands out: nobody else's. -/
def PcsOf (ps : List Pc) (w : World) (e : Ending) (w' : World) : Prop :=
  ∃ A c rs, e = .returned (.slice A rs.length c) ∧ RS layP w' A c rs ∧ (∀ b o, A = some ⟨b, o, none⟩ → w.heap.size ≤ b) ∧ Iss w' (fun b => w.heap.size ≤ b) rs ps ∧ Fine w w'
theorem all_any (g : Nat) (F : Nat → Prop) (ps : List Pc) (e : Int) (w : World) (h : QB w F g ps e) (hn : ps.length ≤ 1000) (hs : ∀ p ∈ ps, p.xs.length ≤ 1000) : Calls Try.prog 40 #[.pointer (some ⟨g, 0, none⟩)] w (PcsOf ps w) := by
  obtain ⟨A, c, rs, h1, h2, h3, h4, h5, h6⟩ := h
  have c0 : w.cell? ⟨g, 0, none⟩ = some (.slice A rs.length c) := h1.cell 0
  have hl := h3.1
  have hle := h2.rs.1.le
  have hmx := h2.rs.1.max
  have HO := Lib.hid (own_any A c rs ps _ w h2.rs.1 h3 (by omega) hs)
  clear h1 h2 h3 h4 h5 h6 hs hl
  go_enter Try.func40, Try.ntmps40
  go_wp2_with fail
  refine HO.out.mono ?_; rintro e w1 ⟨rs', rfl, hl, hb, hi, f1⟩
  have HB := Lib.hid hb; clear hb
  have HI := Lib.hid hi; clear hi
  have HL := Lib.hid hl; clear hl
  go_wp2_with fail
  go_ret
  refine ⟨some ⟨w.heap.size, 0, none⟩, rs.length, rs', by rw [HL.out]; rfl, RS.ofBlk HB.out rfl HL.out.symm (Nat.le_trans hle hmx), fun b o e => ?_, HI.out.less (fun b hb => Nat.le_of_lt hb.1), (by repeat (first | exact Fine.refl _ | assumption | refine Fine.alloc ?_ _ | refine Fine.drew ?_ | refine Fine.drewN ?_ _ | refine Fine.trans ?_ (by assumption) | (refine Fine.kept ?_ (by assumption) (by intro x hx; first | omega | (simp; omega))) | (refine Fine.setCell ?_ (by first | assumption | (simp; done) | (simp; omega)) _)))⟩
  injection e with e
  injection e with e
  omega
theorem push_nil (r : Raw) (w : World) : Calls Try.prog 28 #[.pointer none, .agg r.cells.toArray] w fun x w' => x = .returned (.agg r.cells.toArray) ∧ Fine w w' := by
  obtain ⟨seq, syn, fin, A, len, cap, dsn, last⟩ := r
  show Calls Try.prog 28 #[.pointer none, .agg #[.int .u32 seq, .bool syn, .bool fin, .slice A len cap, .int .i64 dsn, .bool last]] w _
  go_enter Try.func28, Try.ntmps28
  go_wp2_with fail
  refine bodyPost_ret (results_cell_row rfl _ _ (w.heap.size + 1) 46 #[.int .u32 seq, .bool syn, .bool fin, .slice A len cap, .int .i64 dsn, .bool last] (0, 0) _ rfl (Blk.newAt (by simp)) Try.underlying46 rfl sizeP) rfl ?_
  exact ⟨rfl, (by repeat (first | exact Fine.refl _ | assumption | refine Fine.alloc ?_ _ | refine Fine.drew ?_ | refine Fine.drewN ?_ _ | refine Fine.trans ?_ (by assumption) | (refine Fine.kept ?_ (by assumption) (by intro x hx; first | omega | (simp; omega))) | (refine Fine.setCell ?_ (by first | assumption | (simp; done) | (simp; omega)) _)))⟩
end Go.Proofs.Ytjldgialhgfhmaa
namespace Go.Proofs.Ytjldgialhgfhmaa
set_option linter.unusedVariables false
set_option linter.unusedSimpArgs false
open Go.ChangeShapes Go.WideShapes Go.ChangeAt Go.RowKit
set_option linter.unusedVariables false

theorem push_state {t : TypeId} {w wA wB : World} {F : Nat → Prop} {g n' c c2 : Nat} {A A2 : Option Addr} {rs : List Raw} {ps : List Pc} {e : Int} {r1 : Raw} {p' : Pc}
    (h1 : Blk w g t #[.slice A rs.length c, .int .u32 e]) (h2 : Own layP 46 w (g + 1) (.slice A rs.length c) rs) (h3 : Iss w (fun b => F b ∧ b ≠ g ∧ ∀ o, A ≠ some ⟨b, o, none⟩) rs ps) (h4 : F g)
    (h5 : ∀ b o, A = some ⟨b, o, none⟩ → F b) (h6 : ∀ b, F b → b < w.heap.size) (fA : Fine w wA) (hn : w.heap.size ≤ n') (hb : n' < wA.heap.size) (hi : Is wA (Fresh n' wA) r1 p')
    (oB : Own layP 46 wB (g + 1) (.slice A2 (rs ++ [r1]).length c2) (rs ++ [r1])) (gB : wA.grownBy wB (Value.slice A rs.length c).ownBlock)
    (bB : (Value.slice A2 (rs ++ [r1]).length c2).ownBlock = (Value.slice A rs.length c).ownBlock ∨ (Value.slice A2 (rs ++ [r1]).length c2).ownBlock = some wA.heap.size) :
    QT t (wB.setCell ⟨g, 0, none⟩ (.slice A2 (rs.length + 1) c2)) (fun b => F b ∨ (n' < b ∧ b < wB.heap.size)) g (ps ++ [p']) e ∧ Kept F w (wB.setCell ⟨g, 0, none⟩ (.slice A2 (rs.length + 1) c2)) := by
  have hsA := fA.size
  have hgl := h1.lt
  have hA : ∀ k, (Value.slice A rs.length c).ownBlock = some k → A = some ⟨k, 0, none⟩ ∧ k ≠ g ∧ k < w.heap.size ∧ F k := fun k hk => by
    have e1 := h2.block_ hk
    have e2 := h2.lt k hk
    exact ⟨e1, by omega, e2.2, h5 k 0 e1⟩
  have kAB : Kept (fun x => (Value.slice A rs.length c).ownBlock = some x) wA wB := Kept.grown (Kept.refl _ wA) gB (fun k hk _ => hk)
  have kk : Kept (· = g) wB (wB.setCell ⟨g, 0, none⟩ (.slice A2 (rs.length + 1) c2)) := Kept.setIn (S := (· = g)) (p := ⟨g, 0, none⟩) (Kept.refl _ _) rfl _
  have hsB := kAB.size
  have hlen : (rs ++ [r1]).length = rs.length + 1 := by simp
  have hA2 : ∀ k o, A2 = some ⟨k, o, none⟩ → (A = some ⟨k, 0, none⟩ ∧ F k ∧ k < w.heap.size) ∨ k = wA.heap.size := fun k o hk => by
    subst hk
    rcases bB with h | h
    · have := hA k h.symm
      exact .inl ⟨this.1, this.2.2.2, this.2.2.1⟩
    · injection h with h
      exact .inr h
  refine ⟨⟨A2, c2, rs ++ [r1], ?_, ?_, ?_, .inl h4, ?_, ?_⟩, ?_⟩
  · have := ((h1.fine fA).kept kAB (fun h => (hA g h).2.1 rfl)).set_ 0 (.slice A2 (rs.length + 1) c2)
    rw [hlen]
    exact this.cast (by simp)
  · exact oB.kept kk (fun k hk h => by have := (oB.lt k hk).1; omega)
  · refine Iss.append ?_ (Iss.one ?_)
    · refine (((h3.fine fA).kept kAB (fun b hb h => hb.2.2 0 (hA b h).1)).kept kk (fun b hb h => hb.2.1 h)).less (fun b hb => ⟨.inl hb.1, hb.2.1, fun o ho => ?_⟩)
      rcases hA2 b o ho with h | h
      · exact hb.2.2 0 h.1
      · have := h6 b hb.1; omega
    · refine ((hi.kept kAB (fun b hb h => ?_)).kept kk (fun b hb h => ?_)).less (fun b hb => ⟨.inr ⟨hb.1, by have := hb.2; omega⟩, ?_, fun o ho => ?_⟩)
      · have := (hA b h).2.2.1; have := hb.1; omega
      · have := hb.1; omega
      · have := hb.1; omega
      · rcases hA2 b o ho with h | h
        · have := hb.1; omega
        · have := hb.2; omega
  · intro b o ho
    rcases hA2 b o ho with h | h
    · exact .inl h.2.1
    · refine .inr ⟨by omega, ?_⟩
      subst ho
      exact (oB.lt b rfl).2
  · intro b hb
    have e1 : (wB.setCell ⟨g, 0, none⟩ (.slice A2 (rs.length + 1) c2)).heap.size = wB.heap.size := by simp [World.setCell]
    rw [e1]
    rcases hb with hb | hb
    · have := h6 b hb; omega
    · exact hb.2
  · refine ((Kept.of_fine (S := F) fA).transG kAB (fun _ _ s => s) (fun x hx s => (hA x s).2.2.2)).transG kk (fun _ _ s => s) (fun x hx s => by subst s; exact h4)
theorem QT.setEnd {t : TypeId} {w : World} {F : Nat → Prop} {g : Nat} {ps : List Pc} {e : Int} (h : QT t w F g ps e) (e' : Int) : QT t (w.setCell ⟨g, 1, none⟩ (.int .u32 e')) F g ps e' ∧ Kept F w (w.setCell ⟨g, 1, none⟩ (.int .u32 e')) := by
  obtain ⟨A, c, rs, h1, h2, h3, h4, h5, h6⟩ := h
  have kk : Kept (· = g) w (w.setCell ⟨g, 1, none⟩ (.int .u32 e')) := Kept.setIn (S := (· = g)) (p := ⟨g, 1, none⟩) (Kept.refl _ _) rfl _
  refine ⟨⟨A, c, rs, (h1.set_ 1 _).cast (by simp), h2.kept kk (fun k hk h => by have := (h2.lt k hk).1; omega), h3.kept kk (fun b hb h => hb.2.1 h), h4, h5, fun b hb => by have := h6 b hb; simpa [World.setCell] using this⟩, kk.mono (fun x _ s => by subst s; exact h4)⟩
end Go.Proofs.Ytjldgialhgfhmaa
