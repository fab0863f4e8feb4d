/- A receiver: Put. -/
import Derived.Test.YtnigfdldfmiaiaaDrv1
import Derived.StillTailTactics
import Derived.Deep.RegionLaw
namespace Go.Proofs.Ytnigfdldfmiaiaa
open Go.ChangeShapes Go.WideShapes Go.ChangeAt Go.RowKit Go.Maps
set_option linter.unusedVariables false
set_option linter.unusedSimpArgs false
theorem total_or {l m k : List Rn} (hl : Tidy l) (hm : Tidy m) (hk : Tidy k) (h : ∀ n, inB m n = (inB l n || inB k n)) (hd : ∀ n, inB l n = true → inB k n = false) : total m = total l + total k := by
  have hl2 : ∀ r ∈ l, rto r ≤ ((2 ^ 32 : Nat) : Int) := fun r hr => (hl.ok r hr).2.2
  have hm2 : ∀ r ∈ m, rto r ≤ ((2 ^ 32 : Nat) : Int) := fun r hr => (hm.ok r hr).2.2
  have hk2 : ∀ r ∈ k, rto r ≤ ((2 ^ 32 : Nat) : Int) := fun r hr => (hk.ok r hr).2.2
  generalize (2 ^ 32 : Nat) = K at hl2 hm2 hk2
  rw [total_count hl K hl2, total_count hm K hm2, total_count hk K hk2, ← Int.natCast_add, ← countP_or]
  · congr 1
    exact List.countP_congr (fun i _ => by rw [h])
  · exact fun x _ hx => hd _ hx
theorem single_tidy {n : Int} (h0 : 0 ≤ n) (h1 : n < 4294967296) : Tidy [(n, 1)] := ⟨List.pairwise_singleton _ _, fun r hr => by simp at hr; subst hr; unfold rto; simp; omega⟩
theorem inB_single (n m : Int) : inB [(n, 1)] m = decide (m = n) := by
  rw [inB_cons, inB_nil, Bool.or_false, Bool.eq_iff_iff, hasR_iff, decide_eq_true_eq]
  unfold rto
  dsimp only
  omega
theorem held_one {n : Int} (h0 : 0 ≤ n) (h1 : n < 4294967296) (m : Int) : hasR (heldR n 1) m = decide (m = n) := by
  have e : heldR n 1 = (n, 1) := by
    unfold heldR
    rw [if_neg (by omega), if_neg (by omega)]
    exact Prod.ext rfl (by dsimp only; omega)
  rw [e, ← inB_single, inB_cons, inB_nil, Bool.or_false]
theorem total_one {l m : List Rn} {n : Int} (hl : Tidy l) (hm : Tidy m) (h0 : 0 ≤ n) (h1 : n < 4294967296) (hn : inB l n = false) (h : ∀ k, inB m k = (inB l k || hasR (heldR n 1) k)) : total m - total l = 1 := by
  have := total_or hl hm (single_tidy h0 h1) (fun k => by rw [h, held_one h0 h1, inB_single]) (fun k hk => by
    rw [inB_single]
    refine decide_eq_false (fun e => ?_)
    rw [e, hn] at hk
    cases hk)
  have e : total [(n, (1 : Int))] = 1 := by simp [total]
  omega
/-- The first number that is not there. -/
def nextV (l : List Rn) (f : Int) : Int := match l.find? (fun r => hasR r (max f 0)) with | some r => rto r | none => max f 0
theorem nextV_of {l : List Rn} (hT : Tidy l) (f : Int) : NextOf l f (nextV l f) := by
  unfold nextV
  cases h : l.find? (fun r => hasR r (max f 0)) with
  | none =>
    refine NextOf.here ?_
    have h1 := List.find?_eq_none.mp h
    cases e : inB l (max f 0) with
    | false => rfl
    | true =>
      obtain ⟨r, hr, g1, g2⟩ := inB_iff.mp e
      exact absurd (hasR_iff.mpr ⟨g1, g2⟩) (h1 r hr)
  | some r => exact NextOf.there hT (List.mem_of_find?_eq_some h) (List.find?_some (p := fun r => hasR r (max f 0)) h)
theorem nextv_any (g : Nat) (l : List Rn) (hT : Tidy l) (f : Int) (hf : -9223372036854775808 ≤ f ∧ f ≤ 9223372036854775807) (w : World) (h : SetR w g l) :
    Calls Try.prog 27 #[.pointer (some ⟨g, 0, none⟩), .int .i64 f] w fun r w' => r = .returned (.int .i64 (nextV l f)) ∧ Fine w w' :=
  (next_any g l hT f hf w h).mono fun r w' ⟨x, hr, hx, hf⟩ => ⟨by rw [hr, hx.uniq (nextV_of hT f)], hf⟩
/-- The number that a receiver awaits, in its box. -/
def nxOf (w : World) (g : Nat) : Int := match w.cell? ⟨g, 0, none⟩ with | some (.int _ z) => z | _ => 0
theorem nxOf_eq {w : World} {g : Nat} {z : Int} (h : w.cell? ⟨g, 0, none⟩ = some (.int .i64 z)) : nxOf w g = z := by
  unfold nxOf
  rw [h]
section
variable {F : Nat → Prop} {w w' w1 : World} {g : Nat} {A : Option Addr} {c bm gs : Nat} {v : Value} {l : List Rn} {buf : List Int} {E : Int → Int} {nx e : Int} {mz : Nat}
/-- More is ready. -/
theorem RcX.readied {A2 : Option Addr} {n2 c2 : Nat} {buf2 : List Int} (h : RcX F w g A c bm gs v l buf E nx e mz) (k : Kept (fun x => (Value.slice A buf.length c).ownBlock = some x) w w1) (hn : n2 = buf2.length) (ho : Own layB 5 w1 0 (.slice A2 n2 c2) buf2) (hv : (Value.slice A2 n2 c2).ownBlock = (Value.slice A buf.length c).ownBlock ∨ ∀ k, (Value.slice A2 n2 c2).ownBlock = some k → w.heap.size ≤ k) :
    RcX (Grew F w w1) (w1.setCell ⟨g, 1, none⟩ (.slice A2 n2 c2)) g A2 c2 bm gs v l buf2 E nx e mz := by
  subst hn
  have n := h.ne_g
  have hbx : Blk w1 g 108 #[.int .i64 nx, .slice A buf.length c, .map (some bm), .pointer (some ⟨gs, 0, none⟩), .int .i64 e] := h.box.kept k (fun e => (h.ne_am g e).1 rfl)
  have k2 : Kept (· = g) w1 (w1.setCell ⟨g, 1, none⟩ (.slice A2 buf2.length c2)) := (Kept.refl (· = g) w1).setIn (p := ⟨g, 1, none⟩) rfl _
  have hm1 : MapB w1 bm mz E := h.map.block (k.block _ h.map.lt (fun e => (h.ne_am _ e).2.1 rfl))
  have hs1 : SetA 0 w1 gs v l := h.set.kept k (fun e => (h.ne_am _ e).2.2.1 rfl) (fun x hx e => (h.ne_am x e).2.2.2 hx)
  refine ⟨hbx.set_ 1 (.slice A2 buf2.length c2), ho.kept k2 (fun x hx e => ho.ne_blk hx hbx (by decide) e), hm1.block (k2.block _ hm1.lt n.1), hs1.kept k2 n.2.2 (fun x hx e => (h.ne_v x hx).1 e), h.tidy, .inl h.fg, .inl h.fm, .inl h.fs, fun x hx => ?_, fun x hx => .inl (h.fv x hx), fun x hx => ?_⟩
  · rcases hv with h1 | h1
    · exact .inl (h.fa x (h1 ▸ hx))
    · exact .inr ⟨h1 x hx, (ho.lt x hx).2⟩
  · refine Nat.lt_of_lt_of_le ?_ k2.size
    rcases hx with h1 | h1
    · exact Nat.lt_of_lt_of_le (h.lt x h1) k.size
    · exact h1.2
/-- What comes with a piece: those of its numbers that may. -/
def gotB (nx ed e : Int) (l : List Rn) (dsn : Int) (n : Nat) (m : Int) : Bool := mayB nx ed e l m && (decide (dsn ≤ m) && decide (m < dsn + n))
def gotE (nx ed e : Int) (l : List Rn) (dsn : Int) (bs : List Int) (n : Nat) (E : Int → Int) (m : Int) : Int := if gotB nx ed e l dsn n m = true then bs.getD (m - dsn).toNat 0 else E m
theorem gotB_zero (nx ed e : Int) (l : List Rn) (dsn m : Int) : gotB nx ed e l dsn 0 m = false := by
  unfold gotB
  have : (decide (dsn ≤ m) && decide (m < dsn + (0 : Nat))) = false := by simp
  rw [this, Bool.and_false]
theorem gotB_succ (nx ed e : Int) (l : List Rn) (dsn : Int) (i : Nat) (m : Int) : gotB nx ed e l dsn (i + 1) m = (gotB nx ed e l dsn i m || (mayB nx ed e l (dsn + i) && decide (m = dsn + i))) := by
  unfold gotB
  by_cases h : m = dsn + i
  · subst h
    have h1 : decide (dsn + (i : Int) < dsn + (i : Int)) = false := by simp
    have h2 : decide (dsn + (i : Int) < dsn + ((i + 1 : Nat) : Int)) = true := by simp; omega
    have h3 : decide (dsn ≤ dsn + (i : Int)) = true := by simp; omega
    rw [h1, h2, h3]
    simp
  · have h1 : decide (m < dsn + ((i + 1 : Nat) : Int)) = decide (m < dsn + (i : Int)) := by rw [decide_eq_decide]; omega
    rw [h1, decide_eq_false h, Bool.and_false, Bool.or_false]
end
end Go.Proofs.Ytnigfdldfmiaiaa
