/- Segments: a segment's cells, its bytes, when it is right, and when two are alike. -/
import Derived.Test.YthnennleblgjeaaDoorMd
import Derived.Test.YthnennleblgjeaaDoorMc
namespace Go.Proofs.YthnennleblgjeaaDoor
set_option linter.unusedVariables false
set_option linter.unusedSimpArgs false
open Go.ChangeShapes Go.WideShapes Go.ChangeAt Go.RowKit
set_option linter.unusedVariables false

/-- A segment's cells: eleven numbers (a truth is 0 or 1), its options and its data. -/
abbrev segL (N : Nat → Int) (vo vd : Value) : List Value := [.int .i64 (N 0), .int .i64 (N 1), .int .i64 (N 2), .int .i64 (N 3), .int .u32 (N 4), .int .u32 (N 5), .bool (decide (N 6 = 1)), .bool (decide (N 7 = 1)), .bool (decide (N 8 = 1)), .bool (decide (N 9 = 1)), .int .i64 (N 10), vo, vd]
def sk : Nat → FK
  | 4 => .word | 5 => .word | 6 => .is | 7 => .is | 8 => .is | 9 => .is | _ => .n
def OkN (N : Nat → Int) : Prop := ∀ j, j < 11 → okF (sk j) (N j)
theorem OkN.i64 {N : Nat → Int} (h : OkN N) {j : Nat} (hj : j < 11) (e : sk j = .n) : -9223372036854775808 ≤ N j ∧ N j < 9223372036854775808 := by
  have := h j hj; rw [e] at this; exact this
theorem OkN.u32 {N : Nat → Int} (h : OkN N) {j : Nat} (hj : j < 11) (e : sk j = .word) : 0 ≤ N j ∧ N j < 4294967296 := by
  have := h j hj; rw [e] at this; exact this
theorem OkN.is {N : Nat → Int} (h : OkN N) {j : Nat} (hj : j < 11) (e : sk j = .is) : N j = 0 ∨ N j = 1 := by
  have := h j hj; rw [e] at this; exact this
def zeroN : Nat → Int := fun _ => 0
theorem zeroN_ok : OkN zeroN := fun j hj => by
  match j, hj with
  | 0, _ => exact ⟨by decide, by decide⟩ | 1, _ => exact ⟨by decide, by decide⟩ | 2, _ => exact ⟨by decide, by decide⟩ | 3, _ => exact ⟨by decide, by decide⟩ | 4, _ => exact ⟨by decide, by decide⟩ | 5, _ => exact ⟨by decide, by decide⟩ | 6, _ => exact Or.inl rfl | 7, _ => exact Or.inl rfl | 8, _ => exact Or.inl rfl | 9, _ => exact Or.inl rfl | 10, _ => exact ⟨by decide, by decide⟩
/-- A number of truths, the first as 1. -/
def setN : List Bool → Int
  | [] => 0
  | b :: l => (if b then 1 else 0) + 2 * setN l
theorem setN_bd : ∀ l : List Bool, 0 ≤ setN l ∧ setN l < 2 ^ l.length
  | [] => ⟨by decide, by decide⟩
  | b :: l => by
    have ih := setN_bd l
    have e : (2 : Int) ^ (b :: l).length = 2 * 2 ^ l.length := by rw [List.length_cons, Int.pow_succ]; omega
    rw [e]
    unfold setN
    split <;> omega
theorem setN_snoc : ∀ (l : List Bool) (b : Bool), setN (l ++ [b]) = setN l + (if b then 2 ^ l.length else 0)
  | [], b => by cases b <;> rfl
  | a :: l, b => by
    have ih := setN_snoc l b
    have e : (2 : Int) ^ (a :: l).length = 2 * 2 ^ l.length := by rw [List.length_cons, Int.pow_succ]; omega
    rw [List.cons_append, e]
    unfold setN
    rw [ih]
    cases a <;> cases b <;> simp <;> omega
def flagsN (N : Nat → Int) : Int := setN [decide (N 6 = 1), decide (N 7 = 1), decide (N 8 = 1), decide (N 9 = 1)]
theorem flagsN_bd (N : Nat → Int) : 0 ≤ flagsN N ∧ flagsN N ≤ 15 := by
  have h := setN_bd [decide (N 6 = 1), decide (N 7 = 1), decide (N 8 = 1), decide (N 9 = 1)]
  have e : (2 : Int) ^ [decide (N 6 = 1), decide (N 7 = 1), decide (N 8 = 1), decide (N 9 = 1)].length = 16 := by simp only [List.length_cons, List.length_nil]; decide
  rw [e] at h
  unfold flagsN
  omega
theorem flagsN_eq (N : Nat → Int) (h : OkN N) : flagsN N = N 6 + 2 * N 7 + 4 * N 8 + 8 * N 9 := by
  unfold flagsN setN setN setN setN setN
  rcases h.is (j := 6) (by decide) rfl with h6 | h6 <;> rcases h.is (j := 7) (by decide) rfl with h7 | h7 <;> rcases h.is (j := 8) (by decide) rfl with h8 | h8 <;> rcases h.is (j := 9) (by decide) rfl with h9 | h9 <;> simp [h6, h7, h8, h9]
/-- The numbers ahead of the options, with their widths; n options, m bytes of data. -/
def headNs (N : Nat → Int) (n m : Int) : List (Nat × Int) := [(1, N 0), (1, N 1), (2, N 2), (2, N 3), (4, N 4), (4, N 5), (1, flagsN N), (2, N 10), (1, n), (1, m)]
def rowB (l : List (Nat × Int)) : List Int := l.flatMap (fun p => be p.1 p.2)
def headB (N : Nat → Int) (n m : Int) : List Int := rowB (headNs N n m)
theorem headB_len (N : Nat → Int) (n m : Int) : (headB N n m).length = 19 := by
  unfold headB headNs rowB
  simp [be_length]
theorem rowB_bytes (l : List (Nat × Int)) : Bytes (rowB l) := fun x hx => by
  obtain ⟨p, _, hp⟩ := List.mem_flatMap.mp hx
  exact be_bytes _ _ x hp
theorem rowB_snoc (l : List (Nat × Int)) (p : Nat × Int) : rowB (l ++ [p]) = rowB l ++ be p.1 p.2 := by simp [rowB]
def segB (N : Nat → Int) (l : List (Nat → Int)) (xs : List Int) : List Int := headB N l.length xs.length ++ (l.flatMap optB ++ xs)
theorem flatOpt_bytes (l : List (Nat → Int)) : Bytes (l.flatMap optB) := fun x hx => by
  obtain ⟨V, _, hp⟩ := List.mem_flatMap.mp hx
  exact optB_bytes V x hp
theorem segB_bytes (N : Nat → Int) (l : List (Nat → Int)) {xs : List Int} (h : Bytes xs) : Bytes (segB N l xs) := (rowB_bytes _).append ((flatOpt_bytes l).append h)
def inB (n m : Int) : Bool := decide (0 ≤ n) && decide (n ≤ m)
theorem inB_iff {n m : Int} : inB n m = true ↔ 0 ≤ n ∧ n ≤ m := by simp [inB]
theorem inB_not {n m : Int} (h : inB n m = false) : n < 0 ∨ m < n := by
  rcases Int.lt_or_le n 0 with h0 | h0
  · exact Or.inl h0
  rcases Int.lt_or_le m n with h1 | h1
  · exact Or.inr h1
  · rw [inB_iff.mpr ⟨h0, h1⟩] at h; cases h
def segRightB (N : Nat → Int) (l : List (Nat → Int)) (xs : List Int) : Bool := inB (N 0) 3 && (inB (N 1) 3 && (inB (N 2) 65535 && (inB (N 3) 65535 && (inB (N 10) 65535 && (decide (l.length ≤ 4) && (decide (xs.length ≤ 8) && l.all rightF))))))
structure SegRight (N : Nat → Int) (l : List (Nat → Int)) (xs : List Int) : Prop where
  src : 0 ≤ N 0 ∧ N 0 ≤ 3
  dst : 0 ≤ N 1 ∧ N 1 ≤ 3
  sport : 0 ≤ N 2 ∧ N 2 ≤ 65535
  dport : 0 ≤ N 3 ∧ N 3 ≤ 65535
  win : 0 ≤ N 10 ∧ N 10 ≤ 65535
  opts : l.length ≤ 4
  data : xs.length ≤ 8
  all : ∀ V ∈ l, rightF V = true
theorem segRight_iff {N : Nat → Int} {l : List (Nat → Int)} {xs : List Int} : segRightB N l xs = true ↔ SegRight N l xs := by
  unfold segRightB
  simp only [Bool.and_eq_true, inB_iff, decide_eq_true_eq, List.all_eq_true]
  constructor
  · rintro ⟨h0, h1, h2, h3, h4, h5, h6, h7⟩
    exact ⟨h0, h1, h2, h3, h4, h5, h6, h7⟩
  · rintro ⟨h0, h1, h2, h3, h4, h5, h6, h7⟩
    exact ⟨h0, h1, h2, h3, h4, h5, h6, h7⟩
theorem flatOpt_len (l : List (Nat → Int)) (h : ∀ V ∈ l, rightF V = true) (hl : l.length ≤ 4) : (l.flatMap optB).length ≤ 196 := by
  have := flatMap_len optB 49 l (fun x _ => optB_len x)
  omega
/-- Are two lists of options alike? -/
def optsEq : List (Nat → Int) → List (Nat → Int) → Bool
  | [], [] => true
  | V :: l, U :: m => optEq V U && optsEq l m
  | _, _ => false
theorem optsEq_len : ∀ {l m : List (Nat → Int)}, l.length ≠ m.length → optsEq l m = false
  | [], [], h => absurd rfl h
  | [], _ :: _, _ => rfl
  | _ :: _, [], _ => rfl
  | V :: l, U :: m, h => by
    have := optsEq_len (l := l) (m := m) (fun e => h (by simp [e]))
    simp [optsEq, this]
/-- As far as k they are alike: so the rest decides. -/
theorem optsEq_drop : ∀ (k : Nat) {l m : List (Nat → Int)}, l.length = m.length → (∀ i, i < k → ∀ V U, l[i]? = some V → m[i]? = some U → optEq V U = true) → optsEq l m = optsEq (l.drop k) (m.drop k)
  | 0, l, m, _, _ => by simp
  | k + 1, [], [], _, _ => by simp
  | k + 1, V :: l, U :: m, hl, h => by
    have h0 := h 0 (by omega) V U rfl rfl
    have ih := optsEq_drop k (l := l) (m := m) (by simpa using hl) (fun i hi V' U' e1 e2 => h (i + 1) (by omega) V' U' (by simpa using e1) (by simpa using e2))
    simp [optsEq, h0, ih]
theorem optsEq_all {l m : List (Nat → Int)} (hl : l.length = m.length) (h : ∀ i, i < l.length → ∀ V U, l[i]? = some V → m[i]? = some U → optEq V U = true) : optsEq l m = true := by
  rw [optsEq_drop l.length hl h, List.drop_eq_nil_of_le (Nat.le_refl _), List.drop_eq_nil_of_le (by omega)]
  rfl
theorem optsEq_none {l m : List (Nat → Int)} (i : Nat) {V U : Nat → Int} (hl : l.length = m.length) (h : ∀ j, j < i → ∀ V U, l[j]? = some V → m[j]? = some U → optEq V U = true) (h1 : l[i]? = some V) (h2 : m[i]? = some U) (hn : optEq V U = false) : optsEq l m = false := by
  rw [optsEq_drop i hl h]
  obtain ⟨hi1, e1⟩ := List.getElem?_eq_some_iff.mp h1
  obtain ⟨hi2, e2⟩ := List.getElem?_eq_some_iff.mp h2
  rw [List.drop_eq_getElem_cons hi1, List.drop_eq_getElem_cons hi2, e1, e2]
  simp [optsEq, hn]
theorem optEq_self (V : Nat → Int) : optEq V V = true := by simp [optEq]
theorem optsEq_self (l : List (Nat → Int)) : optsEq l l = true := optsEq_all rfl (fun i _ V U e1 e2 => by rw [e1] at e2; cases e2; exact optEq_self V)
def sameN (N M : Nat → Int) : Bool := (N 0 == M 0) && ((N 1 == M 1) && ((N 2 == M 2) && ((N 3 == M 3) && ((N 4 == M 4) && ((N 5 == M 5) && ((decide (N 6 = 1) == decide (M 6 = 1)) && ((decide (N 7 = 1) == decide (M 7 = 1)) && ((decide (N 8 = 1) == decide (M 8 = 1)) && ((decide (N 9 = 1) == decide (M 9 = 1)) && (N 10 == M 10))))))))))
def sameS (N M : Nat → Int) (l m : List (Nat → Int)) (xs ys : List Int) : Bool := sameN N M && (optsEq l m && decide (xs = ys))
theorem sameN_self (N : Nat → Int) : sameN N N = true := by simp [sameN]
theorem sameS_self (N : Nat → Int) (l : List (Nat → Int)) (xs : List Int) : sameS N N l l xs xs = true := by simp [sameS, sameN_self, optsEq_self]
theorem sameN_congr {N M : Nat → Int} (h : ∀ j, j < 11 → N j = M j) : sameN N M = true := by
  unfold sameN
  rw [h 0 (by omega), h 1 (by omega), h 2 (by omega), h 3 (by omega), h 4 (by omega), h 5 (by omega), h 6 (by omega), h 7 (by omega), h 8 (by omega), h 9 (by omega), h 10 (by omega)]
  simp
end Go.Proofs.YthnennleblgjeaaDoor
