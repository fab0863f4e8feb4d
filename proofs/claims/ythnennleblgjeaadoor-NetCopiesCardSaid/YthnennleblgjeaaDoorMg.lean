/- The laws of option: the example; of any options the first one of a kind is found. The laws of option: Find. The laws of option: what Get answers. The laws of option: Get (what its walk holds). -/
import Derived.Test.YthnennleblgjeaaDoorXOpt6
import Derived.Deep.RegionHeld3
namespace Go.Proofs.YthnennleblgjeaaDoor
set_option linter.unusedVariables false
set_option linter.unusedSimpArgs false
open Go.ChangeShapes Go.WideShapes Go.ChangeAt Go.RowKit
set_option linter.unusedVariables false
def prioV : Nat → Int := fun k => if k = 0 then 8 else if k = 7 then 1 else 0
theorem prio_right : rightF prioV = true := by kernel_rfl
theorem prio_bytes : [prioV].flatMap optB = [8, 1] := by kernel_rfl
theorem prio_ok : OkV prioV := by
  intro j hj
  match j, hj with
  | 0, _ | 5, _ | 6, _ | 9, _ | 11, _ | 12, _ => (show _ ∧ _); decide
  | 1, _ | 2, _ | 3, _ | 4, _ => (show _ ∧ _); decide
  | 7, _ => exact .inr rfl
  | 8, _ | 10, _ | 13, _ => exact .inl rfl
/-- Where the first one of a kind is. -/
def firstOf (k : Int) : List (Nat → Int) → Option Nat
  | [] => none
  | V :: l => if V 0 = k then some 0 else (firstOf k l).map (· + 1)
theorem firstOf_some {k : Int} : ∀ {l : List (Nat → Int)} {i : Nat} {V : Nat → Int}, l[i]? = some V → V 0 = k → (∀ U ∈ l.take i, U 0 ≠ k) → firstOf k l = some i
  | [], i, V, h, _, _ => by simp at h
  | U :: l, 0, V, h, hk, _ => by
    simp at h; subst h
    unfold firstOf
    rw [if_pos hk]
  | U :: l, i + 1, V, h, hk, hn => by
    unfold firstOf
    rw [if_neg (hn U (by simp)), firstOf_some (l := l) (i := i) (by simpa using h) hk (fun W hW => hn W (by simp [hW]))]
    rfl
theorem firstOf_none {k : Int} : ∀ {l : List (Nat → Int)}, (∀ U ∈ l, U 0 ≠ k) → firstOf k l = none
  | [], _ => rfl
  | U :: l, h => by
    unfold firstOf
    rw [if_neg (h U (by simp)), firstOf_none (fun W hW => h W (by simp [hW]))]
    rfl
def idxOf (k : Int) (l : List (Nat → Int)) : Int := match firstOf k l with | some i => (i : Int) | none => -1
end Go.Proofs.YthnennleblgjeaaDoor
namespace Go.Proofs.YthnennleblgjeaaDoor
set_option linter.unusedVariables false
set_option linter.unusedSimpArgs false
open Go.ChangeShapes Go.WideShapes Go.ChangeAt Go.RowKit
set_option linter.unusedVariables false
theorem firstOf_spec {k : Int} : ∀ {l : List (Nat → Int)} {i : Nat}, firstOf k l = some i → ∃ V, l[i]? = some V ∧ V 0 = k ∧ ∀ U ∈ l.take i, U 0 ≠ k
  | [], i, h => by cases h
  | U :: l, i, h => by
    unfold firstOf at h
    split at h
    · injection h with h
      subst h
      exact ⟨U, rfl, by assumption, fun W hW => by simp at hW⟩
    · obtain ⟨j, hj, rfl⟩ := Option.map_eq_some_iff.1 h
      obtain ⟨V, h1, h2, h3⟩ := firstOf_spec hj
      refine ⟨V, by simpa using h1, h2, fun W hW => ?_⟩
      simp only [List.take_succ_cons, List.mem_cons] at hW
      rcases hW with rfl | hW
      · assumption
      · exact h3 W hW
theorem firstOf_spec0 {k : Int} : ∀ {l : List (Nat → Int)}, firstOf k l = none → ∀ U ∈ l, U 0 ≠ k
  | [], _, U, hU => by cases hU
  | V :: l, h, U, hU => by
    unfold firstOf at h
    split at h
    · cases h
    · rcases List.mem_cons.1 hU with rfl | hU
      · assumption
      · exact firstOf_spec0 (Option.map_eq_none_iff.1 h) U hU
def zeroV : Nat → Int := fun _ => 0
def foundV (k : Int) (l : List (Nat → Int)) : Nat → Int := match firstOf k l with | some i => l.getD i zeroV | none => zeroV
end Go.Proofs.YthnennleblgjeaaDoor
namespace Go.Proofs.YthnennleblgjeaaDoor
set_option linter.unusedVariables false
set_option linter.unusedSimpArgs false
open Go.ChangeShapes Go.WideShapes Go.ChangeAt Go.RowKit
set_option linter.unusedVariables false
/-- A kind's fields, taken one by one off some bytes. -/
def takeAll : List (Nat × Nat) → (Nat → Int) → List Int → Bool → Option ((Nat → Int) × List Int × Bool)
  | [], V, xs, t => some (V, xs, t)
  | p :: F, V, xs, t => if xs.length < p.2 then none else takeAll F (upd V p.1 (setV (fk p.1) (num (xs.take p.2)))) (xs.drop p.2) (setOk (fk p.1) (num (xs.take p.2)) && t)
def kindV (k : Int) : Nat → Int := fun j => if j = 0 then k else 0
def getR (xs : List Int) : (Nat → Int) × List Int × Int :=
  if xs = [] then (zeroV, [], 3)
  else match takeAll (fieldsOf (num (xs.take 1))) (kindV (num (xs.take 1))) (xs.drop 1) true with
    | none => (zeroV, [], 3)
    | some (V, r, t) => if t && rightF V then (V, r, 0) else (zeroV, [], 4)
theorem setV_ok (k : FK) {y : Int} (hy : 0 ≤ y ∧ y < 18446744073709551616) : okF k (setV k y) := by
  cases k with
  | big => exact hy
  | word =>
    have g : 0 ≤ y % 4294967296 ∧ y % 4294967296 < 4294967296 := by omega
    exact g
  | n =>
    have g : -9223372036854775808 ≤ wrap64 y ∧ wrap64 y < 9223372036854775808 := by unfold wrap64; omega
    exact g
  | is =>
    have g : (if y = 1 then (1 : Int) else 0) = 0 ∨ (if y = 1 then (1 : Int) else 0) = 1 := by split <;> simp
    exact g
theorem OkV.upd {V : Nat → Int} (h : OkV V) (j : Nat) {x : Int} (hx : okF (fk j) x) : OkV (upd V j x) := fun i hi => by
  unfold Go.Proofs.YthnennleblgjeaaDoor.upd
  by_cases e : i = j
  · subst e; rw [if_pos rfl]; exact hx
  · rw [if_neg e]; exact h i hi
theorem zeroV_ok : OkV zeroV := by
  intro j hj
  match j, hj with
  | 0, _ | 5, _ | 6, _ | 9, _ | 11, _ | 12, _ => (show _ ∧ _); decide
  | 1, _ | 2, _ | 3, _ | 4, _ => (show _ ∧ _); decide
  | 7, _ | 8, _ | 10, _ | 13, _ => exact .inl rfl
theorem kindV_ok {k : Int} (hk : 0 ≤ k ∧ k < 256) : OkV (kindV k) := by
  have h := zeroV_ok.upd 0 (x := k) (show okF .n k from (show -9223372036854775808 ≤ k ∧ k < 9223372036854775808 by omega))
  have e : upd zeroV 0 k = kindV k := rfl
  rw [← e]
  exact h
end Go.Proofs.YthnennleblgjeaaDoor
namespace Go.Proofs.YthnennleblgjeaaDoor
set_option linter.unusedVariables false
set_option linter.unusedSimpArgs false
open Go.ChangeShapes Go.WideShapes Go.ChangeAt Go.RowKit
set_option linter.unusedVariables false
attribute [local go_sem ↓ high] eq56b
theorem OwnB.far {w w' : World} {base x : Nat} {v : Value} {xs : List Int} {cs : Array Value} (h : OwnB w base v xs) (hx : Blk w x 69 cs) (hk : Kept (fun k => k = x) w w') : OwnB w' base v xs := by
  refine ⟨h.1, h.2.1, ?_⟩
  rcases h.2.2 with hn | ⟨g, cap, cur, hv, hb, hg, rest⟩
  · exact .inl hn
  · refine .inr ⟨g, cap, cur, hv, hb, ?_, rest⟩
    have hb' : Blk w g 5 cur := hg
    exact hb'.kept hk (hb'.ne_ hx (by decide))
def GetOf (xs : List Int) (w : World) (r : Ending) (w' : World) : Prop :=
  ∃ v, r = .returned (.tuple #[.agg (optL (getR xs).1).toArray, v, .int .i64 (getR xs).2.2]) ∧ OwnB w' w.heap.size v (getR xs).2.1 ∧ Fine w w'
theorem GetOf.mk {xs ys : List Int} {V : Nat → Int} {e : Int} {w w' : World} {v : Value} (h : getR xs = (V, ys, e)) (ho : OwnB w' w.heap.size v ys) (f : Fine w w') : GetOf xs w (.returned (.tuple #[.agg (optL V).toArray, v, .int .i64 e])) w' := by
  unfold GetOf
  rw [h]
  exact ⟨v, rfl, ho, f⟩
def GSt (w0 : World) (x2 x7 : Nat) (F : List (Nat × Nat)) (V0 : Nat → Int) (xs0 : List Int) (A : Option Addr) (c i : Nat) (s0 : Value) (V : Nat → Int) (rest : List Int) (t : Bool) (wr : World) : Prop :=
  Fine w0 wr ∧ Blk wr x2 69 (optL zeroV).toArray ∧ Blk wr x7 69 (optL V).toArray ∧ OkV V ∧ RS (layPl x7) wr A c F ∧ (∀ b o, A = some ⟨b, o, none⟩ → ∃ cs, Blk wr b 96 cs) ∧ OwnB wr w0.heap.size s0 rest ∧ rest.length ≤ 10000000 ∧ takeAll F V0 xs0 true = takeAll (F.drop i) V rest t
theorem GSt.fine {w0 : World} {x2 x7 : Nat} {F : List (Nat × Nat)} {V0 : Nat → Int} {xs0 : List Int} {A : Option Addr} {c i : Nat} {s0 : Value} {V : Nat → Int} {rest : List Int} {t : Bool} {wr w' : World} (h : GSt w0 x2 x7 F V0 xs0 A c i s0 V rest t wr) (f : Fine wr w') : GSt w0 x2 x7 F V0 xs0 A c i s0 V rest t w' := by
  obtain ⟨h1, h2, h3, h4, h5, h6, h7, h8, h9⟩ := h
  exact ⟨h1.trans f, h2.fine f, h3.fine f, h4, h5.fine f, fun b o e => by obtain ⟨cs, hb⟩ := h6 b o e; exact ⟨cs, hb.fine f⟩, h7.fine f, h8, h9⟩
/-- A field is taken and set. -/
theorem GSt.next {w0 : World} {x2 x7 : Nat} {F : List (Nat × Nat)} {V0 : Nat → Int} {xs0 : List Int} {A : Option Addr} {c i : Nat} {s0 s0' : Value} {V : Nat → Int} {rest : List Int} {t : Bool} {wr w' w'' : World} {p : Nat × Nat} (h : GSt w0 x2 x7 F V0 xs0 A c i s0 V rest t wr) (hx : x2 ≠ x7) (h0 : w0.heap.size ≤ x7) (hp : F[i]? = some p) (hp8 : p.2 ≤ 8) (hl : ¬ rest.length < p.2)
    (f : Fine wr w') (ho : OwnB w' wr.heap.size s0' (rest.drop p.2)) (hb : Blk w'' x7 69 (optL (upd V p.1 (setV (fk p.1) (num (rest.take p.2))))).toArray) (hk : Kept (fun x => x = x7) w' w'') :
    GSt w0 x2 x7 F V0 xs0 A c (i + 1) s0' (upd V p.1 (setV (fk p.1) (num (rest.take p.2)))) (rest.drop p.2) (setOk (fk p.1) (num (rest.take p.2)) && t) w'' := by
  obtain ⟨h1, h2, h3, h4, h5, h6, h7, h8, h9⟩ := h
  have hil := (List.getElem?_eq_some_iff.1 hp).1
  have hn : 0 ≤ num (rest.take p.2) ∧ num (rest.take p.2) < 18446744073709551616 := num_lt _ (by rw [List.length_take]; omega) (h7.bytes.take _)
  refine ⟨(h1.trans f).kept hk (fun x hx' e => by omega), (h2.fine f).kept hk hx, hb, h4.upd _ (setV_ok _ hn), (h5.fine f).kept hk (fun b o e e2 => ?_), fun b o e => ?_, (ho.lower h1.size).far (h3.fine f) hk, by rw [List.length_drop]; omega, ?_⟩
  · obtain ⟨cs, hb'⟩ := h6 b o e
    exact hb'.ne_ h3 (by decide) e2
  · obtain ⟨cs, hb'⟩ := h6 b o e
    exact ⟨cs, (hb'.fine f).kept hk (hb'.ne_ h3 (by decide))⟩
  · rw [h9, List.drop_eq_getElem_cons hil, (List.getElem?_eq_some_iff.1 hp).2]
    conv => lhs; unfold takeAll
    rw [if_neg hl]
theorem GSt.short {w0 : World} {x2 x7 : Nat} {F : List (Nat × Nat)} {V0 : Nat → Int} {xs0 : List Int} {A : Option Addr} {c i : Nat} {s0 : Value} {V : Nat → Int} {rest : List Int} {t : Bool} {wr : World} {p : Nat × Nat} (h : GSt w0 x2 x7 F V0 xs0 A c i s0 V rest t wr) (hp : F[i]? = some p) (hl : rest.length < p.2) : takeAll F V0 xs0 true = none := by
  obtain ⟨h1, h2, h3, h4, h5, h6, h7, h8, h9⟩ := h
  have hil := (List.getElem?_eq_some_iff.1 hp).1
  rw [h9, List.drop_eq_getElem_cons hil, (List.getElem?_eq_some_iff.1 hp).2]
  unfold takeAll
  rw [if_pos hl]
theorem GSt.end_ {w0 : World} {x2 x7 : Nat} {F : List (Nat × Nat)} {V0 : Nat → Int} {xs0 : List Int} {A : Option Addr} {c : Nat} {s0 : Value} {V : Nat → Int} {rest : List Int} {t : Bool} {wr : World} (h : GSt w0 x2 x7 F V0 xs0 A c F.length s0 V rest t wr) : takeAll F V0 xs0 true = some (V, rest, t) := by
  obtain ⟨h1, h2, h3, h4, h5, h6, h7, h8, h9⟩ := h
  rw [h9, List.drop_length]
  rfl
theorem getR_short {xs : List Int} (h : xs ≠ []) (ht : takeAll (fieldsOf (num (xs.take 1))) (kindV (num (xs.take 1))) (xs.drop 1) true = none) : getR xs = (zeroV, [], 3) := by
  unfold getR
  rw [if_neg h, ht]
theorem getR_form {xs r : List Int} {V : Nat → Int} {t : Bool} (h : xs ≠ []) (ht : takeAll (fieldsOf (num (xs.take 1))) (kindV (num (xs.take 1))) (xs.drop 1) true = some (V, r, t)) (hr : (t && rightF V) = false) : getR xs = (zeroV, [], 4) := by
  unfold getR
  rw [if_neg h, ht]
  simp only
  rw [hr]
  rfl
theorem getR_good {xs r : List Int} {V : Nat → Int} {t : Bool} (h : xs ≠ []) (ht : takeAll (fieldsOf (num (xs.take 1))) (kindV (num (xs.take 1))) (xs.drop 1) true = some (V, r, t)) (hr : (t && rightF V) = true) : getR xs = (V, r, 0) := by
  unfold getR
  rw [if_neg h, ht]
  simp only
  rw [hr]
  rfl
end Go.Proofs.YthnennleblgjeaaDoor
