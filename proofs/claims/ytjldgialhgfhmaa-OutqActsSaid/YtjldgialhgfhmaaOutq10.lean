/- Pieces that a caller holds, beside a queue; the queue's pieces, one behind the other. -/
import Derived.Test.YtjldgialhgfhmaaOutq9
namespace Go.Proofs.Ytjldgialhgfhmaa
open Go.ChangeShapes Go.WideShapes Go.ChangeAt Go.RowKit
set_option linter.unusedVariables false

/-- A list of pieces that the caller holds, apart from the blocks X. -/
def OwnP (w : World) (n : Nat) (X : Nat → Prop) (A : Option Addr) (m c : Nat) (ps : List Pc) : Prop :=
  ∃ rs, m = rs.length ∧ Own layP 46 w n (.slice A m c) rs ∧ Iss w (fun b => b < w.heap.size ∧ ¬ X b ∧ (Value.slice A m c).ownBlock ≠ some b) rs ps ∧ ∀ k, (Value.slice A m c).ownBlock = some k → ¬ X k
theorem OwnP.nil_ (w : World) (n : Nat) (X : Nat → Prop) : OwnP w n X none 0 0 [] := ⟨[], rfl, Own.nil_ _ _ _ _, Iss.nil_ _ _, fun k hk => by cases hk⟩
theorem OwnP.kept {w w' : World} {n m c : Nat} {X X' S : Nat → Prop} {A : Option Addr} {ps : List Pc} (h : OwnP w n X A m c ps) (hk : Kept S w w') (hS : ∀ b, b < w.heap.size → S b → X b) (hX : ∀ b, b < w.heap.size → X' b → X b) : OwnP w' n X' A m c ps := by
  obtain ⟨rs, h1, h2, h3, h4⟩ := h
  have hs := hk.size
  refine ⟨rs, h1, h2.kept hk (fun k e s => h4 k e (hS k (h2.lt k e).2 s)), (h3.kept hk (fun b hb s => hb.2.1 (hS b hb.1 s))).less (fun b hb => ⟨by omega, fun x => hb.2.1 (hX b hb.1 x), hb.2.2⟩), fun k e x => h4 k e (hX k (h2.lt k e).2 x)⟩
theorem OwnP.fine {w w' : World} {n m c : Nat} {X X' : Nat → Prop} {A : Option Addr} {ps : List Pc} (h : OwnP w n X A m c ps) (hf : Fine w w') (hX : ∀ b, b < w.heap.size → X' b → X b) : OwnP w' n X' A m c ps :=
  h.kept (Kept.of_fine (S := fun _ => False) hf) (fun _ _ f => f.elim) hX
theorem OwnP.len {w : World} {n m c : Nat} {X : Nat → Prop} {A : Option Addr} {ps : List Pc} (h : OwnP w n X A m c ps) : m = ps.length := by
  obtain ⟨rs, h1, _, h3, _⟩ := h
  rw [h1]; exact h3.1
theorem OwnP.lt {w : World} {n m c : Nat} {X : Nat → Prop} {A : Option Addr} {ps : List Pc} (h : OwnP w n X A m c ps) : ∀ k, (Value.slice A m c).ownBlock = some k → k < w.heap.size := by
  obtain ⟨rs, _, h2, _⟩ := h
  exact fun k e => (h2.lt k e).2
theorem OwnP.app {w w' : World} {n m c m' c' : Nat} {X vY : Nat → Prop} {A A' : Option Addr} {rs ys : List Raw} {ps qs : List Pc}
    (h2 : Own layP 46 w n (.slice A m c) rs) (h3 : Iss w (fun b => b < w.heap.size ∧ ¬ X b ∧ (Value.slice A m c).ownBlock ≠ some b) rs ps) (h4 : ∀ k, (Value.slice A m c).ownBlock = some k → ¬ X k)
    (hO : Own layP 46 w' n (.slice A' m' c') (rs ++ ys)) (hg : w.grownBy w' (Value.slice A m c).ownBlock) (hb : (Value.slice A' m' c').ownBlock = (Value.slice A m c).ownBlock ∨ (Value.slice A' m' c').ownBlock = some w.heap.size)
    (hy : Iss w vY ys qs) (hv : ∀ b, vY b → b < w.heap.size ∧ ¬ X b ∧ (Value.slice A m c).ownBlock ≠ some b) (hX : ∀ b, X b → b < w.heap.size) : OwnP w' n X A' m' c' (ps ++ qs) := by
  have kk : Kept (fun x => (Value.slice A m c).ownBlock = some x) w w' := Kept.grown (Kept.refl _ w) hg (fun k hk _ => hk)
  have hs := kk.size
  have hne : ∀ b, b < w.heap.size → (Value.slice A m c).ownBlock ≠ some b → (Value.slice A' m' c').ownBlock ≠ some b := fun b hb' hn e => by
    rcases hb with h | h
    · exact hn (h ▸ e)
    · rw [h] at e; injection e with e; omega
  refine ⟨rs ++ ys, hO.rs.2, hO, ((h3.kept kk (fun b hb => hb.2.2)).less (fun b hb => ⟨by omega, hb.2.1, hne b hb.1 hb.2.2⟩)).append ((hy.kept kk (fun b hb => (hv b hb).2.2)).less (fun b hb => ⟨by have := (hv b hb).1; omega, (hv b hb).2.1, hne b (hv b hb).1 (hv b hb).2.2⟩)), fun k e x => ?_⟩
  rcases hb with h | h
  · exact h4 k (h ▸ e) x
  · rw [h] at e; injection e with e; have := hX k x; omega

/-! The queue's pieces, one behind the other. -/
def total : List Pc → Nat
  | [] => 0
  | p :: ps => long p + total ps
def Chain : List Pc → Int → Prop
  | [], e => 0 ≤ e ∧ e < 4294967296
  | p :: ps, e => (0 ≤ p.seq ∧ p.seq < 4294967296) ∧ 0 < long p ∧ beginQ ps e = onN p.seq (long p) ∧ Chain ps e
theorem Chain.end_ : ∀ {ps : List Pc} {e : Int}, Chain ps e → 0 ≤ e ∧ e < 4294967296
  | [], _, h => h
  | _ :: _, _, h => Chain.end_ h.2.2.2
theorem Chain.begin_ : ∀ {ps : List Pc} {e : Int}, Chain ps e → 0 ≤ beginQ ps e ∧ beginQ ps e < 4294967296
  | [], _, h => h
  | _ :: _, _, h => h.1
theorem Chain.dist_ : ∀ {ps : List Pc} {e : Int}, Chain ps e → total ps < 4294967296 → dist (beginQ ps e) e = total ps
  | [], e, h, _ => by show dist e e = 0; unfold dist; omega
  | p :: ps, e, h, ht => by
    have ih := Chain.dist_ h.2.2.2 (by simp only [total] at ht; omega)
    rw [h.2.2.1] at ih
    have h0 := h.1
    show dist p.seq e = ((long p + total ps : Nat) : Int)
    simp only [total] at ht
    unfold dist onN at ih
    unfold dist
    omega
theorem Chain.drop : ∀ {ps : List Pc} {e : Int} (k : Nat), Chain ps e → Chain (ps.drop k) e
  | [], _, k, h => by simpa using h
  | _ :: _, _, 0, h => h
  | _ :: _, _, k + 1, h => Chain.drop k h.2.2.2
theorem Chain.push {p : Pc} : ∀ {ps : List Pc} {e : Int}, Chain ps e → 0 < long p → Chain (ps ++ [withSeq p e]) (onN e (long p))
  | [], e, h, hl => ⟨h, hl, rfl, onN_bd _ _⟩
  | q :: qs, e, h, hl => ⟨h.1, h.2.1, by rw [← h.2.2.1]; cases qs <;> rfl, Chain.push h.2.2.2 hl⟩
theorem Chain.pushL {p : Pc} {ps : List Pc} {e : Int} (h : Chain ps e) : Chain (pushL ps p e) (onN e (long p)) := by
  unfold Go.Proofs.Ytjldgialhgfhmaa.pushL
  split
  · rename_i hl; exact h.push hl
  · rename_i hl
    have : long p = 0 := by omega
    rw [this, show ((0 : Nat) : Int) = 0 from rfl, onN_zero _ h.end_]; exact h
theorem total_append (ps qs : List Pc) : total (ps ++ qs) = total ps + total qs := by
  induction ps with
  | nil => simp [total]
  | cons p ps ih => simp only [List.cons_append, total, ih]; omega
theorem total_push (ps : List Pc) (p : Pc) (e : Int) : total (pushL ps p e) = total ps + long p := by
  unfold pushL
  split
  · rw [total_append]; rfl
  · omega
theorem total_drop (ps : List Pc) (k : Nat) : total (ps.drop k) ≤ total ps := by
  have h := total_append (ps.take k) (ps.drop k)
  rw [List.take_append_drop] at h
  omega
theorem len_push (ps : List Pc) (p : Pc) (e : Int) : (pushL ps p e).length ≤ ps.length + 1 := by
  unfold pushL
  split <;> simp
theorem small_push {ps : List Pc} {p : Pc} {e : Int} {M : Nat} (h : ∀ q ∈ ps, q.xs.length ≤ M) (hp : p.xs.length ≤ M) : ∀ q ∈ pushL ps p e, q.xs.length ≤ M := by
  unfold pushL
  split
  · intro q hq
    rcases List.mem_append.1 hq with h1 | h1
    · exact h q h1
    · simp at h1; subst h1; exact hp
  · exact h
theorem ackK_all : ∀ (ps : List Pc) (c : Int), (total ps : Int) ≤ c → ackK ps c = ps.length
  | [], _, _ => rfl
  | p :: ps, c, h => by
    simp only [total] at h
    unfold ackK
    split
    · omega
    · rw [ackK_all ps (c - long p) (by omega)]; rfl
theorem long_le (p : Pc) : long p ≤ p.xs.length + 2 := by unfold long; split <;> split <;> omega

theorem refLong_any (r : Raw) (p : Pc) (v : Nat → Prop) (w : World) (hp : Is w v r p) (hs : p.xs.length ≤ 1000) :
    Calls Try.prog 29 #[.agg r.cells.toArray] w fun e w' => e = .returned (.int .i64 (long p)) ∧ Fine w w' := by
  obtain ⟨h1, h2, h3, h4, h5, h6, h7, h8⟩ := hp
  obtain ⟨seq, syn, fin, A, len, cap, dsn, last⟩ := r
  simp only at h1 h2 h3 h4 h5 h6
  clear h7 h8
  have hlen : (len : Int) = p.xs.length := by omega
  have hlo : (len : Int) ≤ 1000 := by omega
  have hlong : ((long p : Nat) : Int) = len + (if syn then 1 else 0) + (if fin then 1 else 0) := by
    unfold long; rw [← h2, ← h3, ← h6]; cases syn <;> cases fin <;> simp
  clear hlen hs h6 h2 h3
  have HL := Lib.hid hlong; clear hlong
  show Calls Try.prog 29 #[.agg #[.int .u32 seq, .bool syn, .bool fin, .slice A len cap, .int .i64 dsn, .bool last]] w _
  have hb : Blk (w.alloc (.cells #[.int .u32 seq, .bool syn, .bool fin, .slice A len cap, .int .i64 dsn, .bool last] 46)) w.heap.size 46 #[.int .u32 seq, .bool syn, .bool fin, .slice A len cap, .int .i64 dsn, .bool last] := Blk.new w 46 _
  have c1 := hb.cell 1
  have c2 := hb.cell 2
  have c3 := hb.cell 3
  clear hb
  simp at c1 c2 c3
  cases syn <;> cases fin
  all_goals
    go_enter Try.func29, Try.ntmps29
    go_wp2_with fail
    go_ret
    exact ⟨by rw [HL.out]; simp, (by repeat (first | exact Fine.refl _ | assumption | refine Fine.alloc ?_ _ | refine Fine.drew ?_ | refine Fine.drewN ?_ _ | refine Fine.trans ?_ (by assumption) | (refine Fine.kept ?_ (by assumption) (by intro x hx; first | omega | (simp; omega))) | (refine Fine.setCell ?_ (by first | assumption | (simp; done) | (simp; omega)) _)))⟩
end Go.Proofs.Ytjldgialhgfhmaa
