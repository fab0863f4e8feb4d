/- The laws of option: Get (what its walk holds). -/
import Derived.Deep.RegionHeld3
import Derived.Test.YthnennleblgjeaaOpt11
namespace Go.Proofs.Ythnennleblgjeaa
open Go.ChangeShapes Go.WideShapes Go.ChangeAt Go.RowKit
set_option linter.unusedVariables false
attribute [local go_sem ↓ high] eq56b
theorem OwnB.far {w w' : World} {base x : Nat} {v : Value} {xs : List Int} {cs : Array Value} (h : OwnB w base v xs) (hx : Blk w x 56 cs) (hk : Kept (fun k => k = x) w w') : OwnB w' base v xs := by
  refine ⟨h.1, h.2.1, ?_⟩
  rcases h.2.2 with hn | ⟨g, cap, cur, hv, hb, hg, rest⟩
  · exact .inl hn
  · refine .inr ⟨g, cap, cur, hv, hb, ?_, rest⟩
    have hb' : Blk w g 5 cur := hg
    exact hb'.kept hk (hb'.ne_ hx (by decide))
def GetOf (xs : List Int) (w : World) (r : Ending) (w' : World) : Prop :=
  ∃ v, r = .returned (.tuple #[.agg (optL (getR xs).1).toArray, v, .int .i64 (getR xs).2.2]) ∧ OwnB w' w.heap.size v (getR xs).2.1 ∧ Fine w w'
theorem GetOf.mk {xs ys : List Int} {V : Nat → Int} {e : Int} {w w' : World} {v : Value} (h : getR xs = (V, ys, e)) (ho : OwnB w' w.heap.size v ys) (f : Fine w w') : GetOf xs w (.returned (.tuple #[.agg (optL V).toArray, v, .int .i64 e])) w' := by
  unfold GetOf
  rw [h]
  exact ⟨v, rfl, ho, f⟩
def GSt (w0 : World) (x2 x7 : Nat) (F : List (Nat × Nat)) (V0 : Nat → Int) (xs0 : List Int) (A : Option Addr) (c i : Nat) (s0 : Value) (V : Nat → Int) (rest : List Int) (t : Bool) (wr : World) : Prop :=
  Fine w0 wr ∧ Blk wr x2 56 (optL zeroV).toArray ∧ Blk wr x7 56 (optL V).toArray ∧ OkV V ∧ RS (layPl x7) wr A c F ∧ (∀ b o, A = some ⟨b, o, none⟩ → ∃ cs, Blk wr b 85 cs) ∧ OwnB wr w0.heap.size s0 rest ∧ rest.length ≤ 10000000 ∧ takeAll F V0 xs0 true = takeAll (F.drop i) V rest t
theorem GSt.fine {w0 : World} {x2 x7 : Nat} {F : List (Nat × Nat)} {V0 : Nat → Int} {xs0 : List Int} {A : Option Addr} {c i : Nat} {s0 : Value} {V : Nat → Int} {rest : List Int} {t : Bool} {wr w' : World} (h : GSt w0 x2 x7 F V0 xs0 A c i s0 V rest t wr) (f : Fine wr w') : GSt w0 x2 x7 F V0 xs0 A c i s0 V rest t w' := by
  obtain ⟨h1, h2, h3, h4, h5, h6, h7, h8, h9⟩ := h
  exact ⟨h1.trans f, h2.fine f, h3.fine f, h4, h5.fine f, fun b o e => by obtain ⟨cs, hb⟩ := h6 b o e; exact ⟨cs, hb.fine f⟩, h7.fine f, h8, h9⟩
/-- A field is taken and set. -/
theorem GSt.next {w0 : World} {x2 x7 : Nat} {F : List (Nat × Nat)} {V0 : Nat → Int} {xs0 : List Int} {A : Option Addr} {c i : Nat} {s0 s0' : Value} {V : Nat → Int} {rest : List Int} {t : Bool} {wr w' w'' : World} {p : Nat × Nat} (h : GSt w0 x2 x7 F V0 xs0 A c i s0 V rest t wr) (hx : x2 ≠ x7) (h0 : w0.heap.size ≤ x7) (hp : F[i]? = some p) (hp8 : p.2 ≤ 8) (hl : ¬ rest.length < p.2)
    (f : Fine wr w') (ho : OwnB w' wr.heap.size s0' (rest.drop p.2)) (hb : Blk w'' x7 56 (optL (upd V p.1 (setV (fk p.1) (num (rest.take p.2))))).toArray) (hk : Kept (fun x => x = x7) w' w'') :
    GSt w0 x2 x7 F V0 xs0 A c (i + 1) s0' (upd V p.1 (setV (fk p.1) (num (rest.take p.2)))) (rest.drop p.2) (setOk (fk p.1) (num (rest.take p.2)) && t) w'' := by
  obtain ⟨h1, h2, h3, h4, h5, h6, h7, h8, h9⟩ := h
  have hil := (List.getElem?_eq_some_iff.1 hp).1
  have hn : 0 ≤ num (rest.take p.2) ∧ num (rest.take p.2) < 18446744073709551616 := num_lt _ (by rw [List.length_take]; omega) (h7.bytes.take _)
  refine ⟨(h1.trans f).kept hk (fun x hx' e => by omega), (h2.fine f).kept hk hx, hb, h4.upd _ (setV_ok _ hn), (h5.fine f).kept hk (fun b o e e2 => ?_), fun b o e => ?_, (ho.lower h1.size).far (h3.fine f) hk, by rw [List.length_drop]; omega, ?_⟩
  · obtain ⟨cs, hb'⟩ := h6 b o e
    exact hb'.ne_ h3 (by decide) e2
  · obtain ⟨cs, hb'⟩ := h6 b o e
    exact ⟨cs, (hb'.fine f).kept hk (hb'.ne_ h3 (by decide))⟩
  · rw [h9, List.drop_eq_getElem_cons hil, (List.getElem?_eq_some_iff.1 hp).2]
    conv => lhs; unfold takeAll
    rw [if_neg hl]
theorem GSt.short {w0 : World} {x2 x7 : Nat} {F : List (Nat × Nat)} {V0 : Nat → Int} {xs0 : List Int} {A : Option Addr} {c i : Nat} {s0 : Value} {V : Nat → Int} {rest : List Int} {t : Bool} {wr : World} {p : Nat × Nat} (h : GSt w0 x2 x7 F V0 xs0 A c i s0 V rest t wr) (hp : F[i]? = some p) (hl : rest.length < p.2) : takeAll F V0 xs0 true = none := by
  obtain ⟨h1, h2, h3, h4, h5, h6, h7, h8, h9⟩ := h
  have hil := (List.getElem?_eq_some_iff.1 hp).1
  rw [h9, List.drop_eq_getElem_cons hil, (List.getElem?_eq_some_iff.1 hp).2]
  unfold takeAll
  rw [if_pos hl]
theorem GSt.end_ {w0 : World} {x2 x7 : Nat} {F : List (Nat × Nat)} {V0 : Nat → Int} {xs0 : List Int} {A : Option Addr} {c : Nat} {s0 : Value} {V : Nat → Int} {rest : List Int} {t : Bool} {wr : World} (h : GSt w0 x2 x7 F V0 xs0 A c F.length s0 V rest t wr) : takeAll F V0 xs0 true = some (V, rest, t) := by
  obtain ⟨h1, h2, h3, h4, h5, h6, h7, h8, h9⟩ := h
  rw [h9, List.drop_length]
  rfl
theorem getR_short {xs : List Int} (h : xs ≠ []) (ht : takeAll (fieldsOf (num (xs.take 1))) (kindV (num (xs.take 1))) (xs.drop 1) true = none) : getR xs = (zeroV, [], 3) := by
  unfold getR
  rw [if_neg h, ht]
theorem getR_form {xs r : List Int} {V : Nat → Int} {t : Bool} (h : xs ≠ []) (ht : takeAll (fieldsOf (num (xs.take 1))) (kindV (num (xs.take 1))) (xs.drop 1) true = some (V, r, t)) (hr : (t && rightF V) = false) : getR xs = (zeroV, [], 4) := by
  unfold getR
  rw [if_neg h, ht]
  simp only
  rw [hr]
  rfl
theorem getR_good {xs r : List Int} {V : Nat → Int} {t : Bool} (h : xs ≠ []) (ht : takeAll (fieldsOf (num (xs.take 1))) (kindV (num (xs.take 1))) (xs.drop 1) true = some (V, r, t)) (hr : (t && rightF V) = true) : getR xs = (V, r, 0) := by
  unfold getR
  rw [if_neg h, ht]
  simp only
  rw [hr]
  rfl
end Go.Proofs.Ythnennleblgjeaa
