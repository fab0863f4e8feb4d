/- The laws of option: plain laws of bytes and fields, no program in sight. The laws of option: the program's answers are the document's, no program in sight. The laws of option: what Get answers is what the document says, no program in sight. -/
import Derived.Test.YthnennleblgjeaaDoorMg
import Derived.Test.YthnennleblgjeaaDoorXOptRef2
namespace Go.Proofs.YthnennleblgjeaaDoor
set_option linter.unusedVariables false
set_option linter.unusedSimpArgs false
open Go.ChangeShapes Go.WideShapes Go.ChangeAt Go.RowKit
set_option linter.unusedVariables false
theorem be_mod : ∀ k, k ≤ 8 → ∀ n : Int, be k (n % 18446744073709551616) = be k n
  | 0, _, _ => rfl
  | k + 1, h, n => by
    rw [be_cons, be_cons, be_mod k (by omega) n]
    congr 1
    match k, h with
    | 0, _ | 1, _ | 2, _ | 3, _ | 4, _ | 5, _ | 6, _ | 7, _ => simp only [Int.reducePow]; omega
theorem num_be1 (n : Int) : num (be 1 n) = n % 256 := by
  simp only [be, num, List.nil_append, List.cons_append, List.foldl_cons, List.foldl_nil]
  omega
theorem num_be4 (n : Int) : num (be 4 n) = n % 4294967296 := by
  simp only [be, num, List.nil_append, List.cons_append, List.foldl_cons, List.foldl_nil]
  omega
theorem num_be8 (n : Int) : num (be 8 n) = n % 18446744073709551616 := by
  simp only [be, num, List.nil_append, List.cons_append, List.foldl_cons, List.foldl_nil]
  omega
theorem be_num : ∀ (k : Nat) (l : List Int), l.length = k → Bytes l → be k (num l) = l
  | 0, l, h, _ => by
    obtain rfl : l = [] := List.eq_nil_of_length_eq_zero h
    rfl
  | k + 1, l, h, hb => by
    have hne : l ≠ [] := by rintro rfl; simp at h
    obtain ⟨m, x, rfl⟩ : ∃ m x, l = m ++ [x] := ⟨l.dropLast, l.getLast hne, (List.dropLast_concat_getLast hne).symm⟩
    have ih := be_num k m (by simpa using h) (fun y hy => hb y (by simp [hy]))
    have hx := hb x (by simp)
    rw [num_snoc, be, show (256 * num m + x) / 256 = num m by omega, show (256 * num m + x) % 256 = x by omega, ih]
def parseF : List (Nat × Nat) → (Nat → Int) → List Int → (Nat → Int)
  | [], V, _ => V
  | p :: F, V, xs => parseF F (upd V p.1 (setV (fk p.1) (num (xs.take p.2)))) (xs.drop p.2)
def truthsF : List (Nat × Nat) → List Int → Bool
  | [], _ => true
  | p :: F, xs => setOk (fk p.1) (num (xs.take p.2)) && truthsF F (xs.drop p.2)
def widthF : List (Nat × Nat) → Nat
  | [] => 0
  | p :: F => p.2 + widthF F
theorem takeAll_eq : ∀ (F : List (Nat × Nat)) (V : Nat → Int) (xs : List Int) (t : Bool), takeAll F V xs t = if xs.length < widthF F then none else some (parseF F V xs, xs.drop (widthF F), truthsF F xs && t)
  | [], V, xs, t => by simp [takeAll, widthF, parseF, truthsF]
  | p :: F, V, xs, t => by
    unfold takeAll
    by_cases h : xs.length < p.2
    · rw [if_pos h, if_pos (by unfold widthF; omega)]
    · rw [if_neg h, takeAll_eq F]
      by_cases h2 : (xs.drop p.2).length < widthF F
      · rw [if_pos h2, if_pos (by unfold widthF; rw [List.length_drop] at h2; omega)]
      · rw [if_neg h2, if_neg (by unfold widthF; rw [List.length_drop] at h2; omega)]
        simp only [parseF, truthsF, widthF, List.drop_drop]
        congr 3
        cases setOk (fk p.1) (num (xs.take p.2)) <;> simp
def parseV (xs : List Int) : Nat → Int := parseF (fieldsOf (num (xs.take 1))) (kindV (num (xs.take 1))) (xs.drop 1)
theorem parseF_app : ∀ (F : List (Nat × Nat)) (U : Nat → Int) (xs ys : List Int), widthF F ≤ xs.length → parseF F U (xs ++ ys) = parseF F U xs
  | [], U, xs, ys, _ => rfl
  | p :: F, U, xs, ys, h => by
    unfold widthF at h
    unfold parseF
    rw [List.take_append_of_le_length (by omega), List.drop_append_of_le_length (by omega)]
    exact parseF_app F _ _ ys (by rw [List.length_drop]; omega)
theorem truthsF_app : ∀ (F : List (Nat × Nat)) (xs ys : List Int), widthF F ≤ xs.length → truthsF F (xs ++ ys) = truthsF F xs
  | [], xs, ys, _ => rfl
  | p :: F, xs, ys, h => by
    unfold widthF at h
    unfold truthsF
    rw [List.take_append_of_le_length (by omega), List.drop_append_of_le_length (by omega), truthsF_app F _ ys (by rw [List.length_drop]; omega)]
theorem parseF_at : ∀ (F : List (Nat × Nat)) (U : Nat → Int) (xs : List Int) (j : Nat), j ∉ F.map (·.1) → parseF F U xs j = U j
  | [], U, xs, j, _ => rfl
  | p :: F, U, xs, j, h => by
    rw [List.map_cons, List.mem_cons, not_or] at h
    unfold parseF
    rw [parseF_at F _ _ j h.2]
    unfold upd
    rw [if_neg h.1]
theorem parseF_ok : ∀ (F : List (Nat × Nat)) (U : Nat → Int) (xs : List Int), OkV U → Bytes xs → (∀ p ∈ F, p.2 ≤ 8) → OkV (parseF F U xs)
  | [], U, xs, h, _, _ => h
  | p :: F, U, xs, h, hb, hp => by
    unfold parseF
    refine parseF_ok F _ _ (h.upd p.1 (setV_ok _ ?_)) (hb.drop _) (fun q hq => hp q (List.mem_cons_of_mem _ hq))
    have := hp p (List.mem_cons_self)
    exact num_lt _ (by rw [List.length_take]; omega) (hb.take _)
/-- A field's bytes tell it, and are told by it. -/
theorem be_set {k : FK} {wd : Nat} {c : List Int} (hb : Bytes c) (hl : c.length = wd) (h : match k with | .big => wd = 8 | .word => wd = 4 | .n => wd = 1 ∨ wd = 4 | .is => wd = 1) : (be wd (setV k (num c)) = c ↔ setOk k (num c) = true) := by
  have hn := num_bd _ c rfl hb
  rw [hl] at hn
  cases k with
  | big =>
    simp only at h
    simp only [setV, setOk, iff_true]
    exact be_num _ _ hl hb
  | word =>
    simp only at h
    subst h
    simp only [setV, setOk, iff_true]
    rw [Int.emod_eq_of_lt hn.1 (by have := hn.2; simpa using this)]
    exact be_num _ _ hl hb
  | n =>
    simp only at h
    simp only [setV, setOk, iff_true]
    have e : wrap64 (num c) = num c := by
      unfold wrap64
      rcases h with rfl | rfl <;> simp only [Int.reducePow] at hn <;> omega
    rw [e]
    exact be_num _ _ hl hb
  | is =>
    simp only at h
    subst h
    simp only [setV, setOk, decide_eq_true_eq]
    simp only [Int.reducePow] at hn
    have e := be_num _ _ hl hb
    by_cases h1 : num c ≤ 1
    · have : (if num c = 1 then (1 : Int) else 0) = num c := by split <;> omega
      rw [this, e]
      exact ⟨fun _ => h1, fun _ => rfl⟩
    · rw [if_neg (by omega)]
      refine ⟨fun hh => ?_, fun hh => absurd hh h1⟩
      exfalso
      rw [← hh] at h1
      exact h1 (by decide)
def okP (p : Nat × Nat) : Prop := match fk p.1 with | .big => p.2 = 8 | .word => p.2 = 4 | .n => p.2 = 1 ∨ p.2 = 4 | .is => p.2 = 1
theorem flat_parse : ∀ (F : List (Nat × Nat)) (U : Nat → Int) (xs : List Int), Bytes xs → (F.map (·.1)).Nodup → (∀ p ∈ F, okP p) → widthF F ≤ xs.length → (F.flatMap (fieldB (parseF F U xs)) = xs.take (widthF F) ↔ truthsF F xs = true)
  | [], U, xs, _, _, _, _ => by simp [widthF, truthsF]
  | p :: F, U, xs, hb, hd, hp, hw => by
    rw [List.map_cons, List.nodup_cons] at hd
    unfold widthF at hw
    have hlt : (xs.take p.2).length = p.2 := by rw [List.length_take]; omega
    have key := be_set (k := fk p.1) (hb.take p.2) hlt (hp p List.mem_cons_self)
    have ih := flat_parse F (upd U p.1 (setV (fk p.1) (num (xs.take p.2)))) (xs.drop p.2) (hb.drop _) hd.2 (fun q hq => hp q (List.mem_cons_of_mem _ hq)) (by rw [List.length_drop]; omega)
    unfold truthsF
    rw [List.flatMap_cons, show widthF (p :: F) = p.2 + widthF F from rfl, List.take_add, Bool.and_eq_true, ← key, ← ih]
    have e : fieldB (parseF (p :: F) U xs) p = be p.2 (setV (fk p.1) (num (xs.take p.2))) := by
      unfold fieldB parseF
      rw [parseF_at F _ _ p.1 hd.1]
      unfold upd
      rw [if_pos rfl]
    rw [e, show parseF (p :: F) U xs = parseF F (upd U p.1 (setV (fk p.1) (num (xs.take p.2)))) (xs.drop p.2) from rfl]
    constructor
    · intro h
      exact List.append_inj h (by rw [be_length, hlt])
    · rintro ⟨h1, h2⟩
      rw [h1, h2]
theorem fieldsOf_okP (k : Int) : ∀ p ∈ fieldsOf k, okP p := by
  unfold fieldsOf
  split <;> intro p hp <;> simp at hp
  all_goals first
    | (subst hp; simp [okP, fk])
    | (rcases hp with rfl | rfl <;> simp [okP, fk])
    | (rcases hp with rfl | rfl | rfl | rfl <;> simp [okP, fk])
    | (rcases hp with rfl | rfl | rfl | rfl | rfl | rfl <;> simp [okP, fk])
theorem fieldsOf_nodup (k : Int) : ((fieldsOf k).map (·.1)).Nodup := by
  unfold fieldsOf
  split <;> simp
theorem fieldsOf_zero (k : Int) : 0 ∉ (fieldsOf k).map (·.1) := by
  unfold fieldsOf
  split <;> simp
theorem sizeK_width {k : Int} (h : 1 ≤ k ∧ k ≤ 11) : sizeK k = 1 + (widthF (fieldsOf k) : Int) := by
  have hk : k = 1 ∨ k = 2 ∨ k = 3 ∨ k = 4 ∨ k = 5 ∨ k = 6 ∨ k = 7 ∨ k = 8 ∨ k = 9 ∨ k = 10 ∨ k = 11 := by omega
  rcases hk with rfl | rfl | rfl | rfl | rfl | rfl | rfl | rfl | rfl | rfl | rfl <;> rfl
theorem flat_width : ∀ (F : List (Nat × Nat)) (V : Nat → Int), (F.flatMap (fieldB V)).length = widthF F
  | [], V => rfl
  | p :: F, V => by
    rw [List.flatMap_cons, List.length_append, flat_width F V]
    unfold fieldB
    rw [be_length]
    rfl
theorem optB_size {V : Nat → Int} (h : 1 ≤ V 0 ∧ V 0 ≤ 11) : ((optB V).length : Int) = sizeK (V 0) := by
  unfold optB
  rw [sizeK_width h, List.length_append, be_length, flat_width]
  omega
/-- What an option's fields are when its bytes are read again. -/
def againF : List (Nat × Nat) → (Nat → Int) → (Nat → Int) → Nat → Int
  | [], V, U => U
  | p :: F, V, U => againF F V (upd U p.1 (setV (fk p.1) (num (be p.2 (V p.1)))))
theorem parse_flat : ∀ (F : List (Nat × Nat)) (V U : Nat → Int), parseF F U (F.flatMap (fieldB V)) = againF F V U
  | [], V, U => rfl
  | p :: F, V, U => by
    rw [List.flatMap_cons]
    unfold parseF againF
    have hl : (fieldB V p).length = p.2 := by unfold fieldB; rw [be_length]
    rw [show List.take p.2 (fieldB V p ++ F.flatMap (fieldB V)) = fieldB V p from by rw [← hl]; exact List.take_left, show List.drop p.2 (fieldB V p ++ F.flatMap (fieldB V)) = F.flatMap (fieldB V) from by rw [← hl]; exact List.drop_left]
    exact parse_flat F V _
theorem parse_optB {V : Nat → Int} (h : 1 ≤ V 0 ∧ V 0 ≤ 11) : parseV (optB V) = againF (fieldsOf (V 0)) V (kindV (V 0)) := by
  have h1 : (optB V).take 1 = be 1 (V 0) := by
    unfold optB
    rw [List.take_append_of_le_length (by rw [be_length]; omega)]
    exact List.take_of_length_le (by rw [be_length]; omega)
  have h2 : (optB V).drop 1 = (fieldsOf (V 0)).flatMap (fieldB V) := by
    unfold optB
    have := List.drop_left (l₁ := be 1 (V 0)) (l₂ := (fieldsOf (V 0)).flatMap (fieldB V))
    rwa [be_length] at this
  unfold parseV
  rw [h1, h2, num_be1, Int.emod_eq_of_lt (by omega) (by omega)]
  exact parse_flat _ _ _
end Go.Proofs.YthnennleblgjeaaDoor
namespace Go.Proofs.YthnennleblgjeaaDoor
set_option linter.unusedVariables false
set_option linter.unusedSimpArgs false
open Go.ChangeShapes Go.WideShapes Go.ChangeAt Go.RowKit
set_option linter.unusedVariables false
theorem again_big {x : Int} (h : 0 ≤ x ∧ x < 18446744073709551616) : setV .big (num (be 8 x)) = x := by
  simp only [setV]
  rw [num_be8]; omega
theorem again_word {x : Int} (h : 0 ≤ x ∧ x < 4294967296) : setV .word (num (be 4 x)) = x := by
  simp only [setV]
  rw [num_be4]; omega
theorem again_is {x : Int} (h : x = 0 ∨ x = 1) : setV .is (num (be 1 x)) = x := by
  simp only [setV]
  rw [num_be1]
  rcases h with rfl | rfl <;> rfl
theorem again_n1 {x : Int} : setV .n (num (be 1 x)) = x % 256 := by
  simp only [setV]
  rw [num_be1]; unfold wrap64; omega
theorem again_n4 {x : Int} : setV .n (num (be 4 x)) = x % 4294967296 := by
  simp only [setV]
  rw [num_be4]; unfold wrap64; omega
def refRightB (V : Nat → Int) : Bool :=
  !(decide (sizeK (V 0) = 0) || (decide (V 0 = 9) && decide (V 11 < 0))) && ((decide (V 0 = 9) || mayB (V 5) (decide (V 8 = 1)) (V 9) (decide (V 10 = 1)) (V 11) (V 12) (decide (V 13 = 1))) && optEq (parseV (optB V)) V)
theorem right_false {V : Nat → Int} (h : V 0 < 1 ∨ 11 < V 0) : rightF V = false := by
  cases hr : rightF V
  · rfl
  · have := right_kind hr; omega
theorem optEq_p {U V : Nat → Int} (h7 : V 7 = 0 ∨ V 7 = 1) (h8 : V 8 = 0 ∨ V 8 = 1) (h10 : V 10 = 0 ∨ V 10 = 1) (h13 : V 13 = 0 ∨ V 13 = 1) (u7 : U 7 = 0 ∨ U 7 = 1) (u8 : U 8 = 0 ∨ U 8 = 1) (u10 : U 10 = 0 ∨ U 10 = 1) (u13 : U 13 = 0 ∨ U 13 = 1) :
    optEq U V = true ↔ U 0 = V 0 ∧ U 1 = V 1 ∧ U 2 = V 2 ∧ U 3 = V 3 ∧ U 4 = V 4 ∧ U 5 = V 5 ∧ U 6 = V 6 ∧ U 7 = V 7 ∧ U 8 = V 8 ∧ U 9 = V 9 ∧ U 10 = V 10 ∧ U 11 = V 11 ∧ U 12 = V 12 ∧ U 13 = V 13 := by
  have key : ∀ x y : Int, (x = 0 ∨ x = 1) → (y = 0 ∨ y = 1) → ((decide (x = 1) == decide (y = 1)) = true ↔ x = y) := fun x y hx hy => by
    rcases hx with rfl | rfl <;> rcases hy with rfl | rfl <;> simp
  unfold optEq
  simp only [Bool.and_eq_true, beq_iff_eq (α := Int), key _ _ u7 h7, key _ _ u8 h8, key _ _ u10 h10, key _ _ u13 h13]
def Tr (x : Int) : Prop := x = 0 ∨ x = 1
set_option maxHeartbeats 4000000 in
theorem right_ref {V : Nat → Int} (hV : OkV V) : rightF V = refRightB V := by
  by_cases hk : V 0 < 1 ∨ 11 < V 0
  · rw [right_false hk]
    unfold refRightB
    rw [sizeK_out hk]
    simp
  · have hk' : 1 ≤ V 0 ∧ V 0 ≤ 11 := by omega
    have a1 := again_big (hV 1 (by decide))
    have a2 := again_big (hV 2 (by decide))
    have a3 := again_word (hV 3 (by decide))
    have a4 := again_word (hV 4 (by decide))
    have a7 := again_is (hV 7 (by decide))
    have a8 := again_is (hV 8 (by decide))
    have a10 := again_is (hV 10 (by decide))
    have a13 := again_is (hV 13 (by decide))
    have h7 : V 7 = 0 ∨ V 7 = 1 := hV 7 (by decide)
    have h8 : V 8 = 0 ∨ V 8 = 1 := hV 8 (by decide)
    have h10 : V 10 = 0 ∨ V 10 = 1 := hV 10 (by decide)
    have h13 : V 13 = 0 ∨ V 13 = 1 := hV 13 (by decide)
    have hsz : sizeK (V 0) ≠ 0 := by rw [sizeK_width hk']; omega
    unfold rightF refRightB
    rw [parse_optB hk']
    have hcs : V 0 = 1 ∨ V 0 = 2 ∨ V 0 = 3 ∨ V 0 = 4 ∨ V 0 = 5 ∨ V 0 = 6 ∨ V 0 = 7 ∨ V 0 = 8 ∨ V 0 = 9 ∨ V 0 = 10 ∨ V 0 = 11 := by omega
    rcases hcs with e | e | e | e | e | e | e | e | e | e | e
    all_goals
      rw [e] at hsz ⊢
      simp only [fieldsOf, againF, fk, a1, a2, a3, a4, a7, a8, a10, a13, again_n1, again_n4, List.all_cons, List.all_nil, fitsF, List.length_cons, List.length_nil]
      rw [Bool.eq_iff_iff]
      simp only [Bool.and_eq_true]
      rw [optEq_p h7 h8 h10 h13 (by simp [ownV]; try omega) (by simp [ownV]; try omega) (by simp [ownV]; try omega) (by simp [ownV]; try omega), optEq_p h7 h8 h10 h13 (by simp [upd, kindV]; try omega) (by simp [upd, kindV]; try omega) (by simp [upd, kindV]; try omega) (by simp [upd, kindV]; try omega)]
      simp [ownV, upd, kindV, mayB, dataB, e, hsz, Int.reducePow]
      try omega
end Go.Proofs.YthnennleblgjeaaDoor
namespace Go.Proofs.YthnennleblgjeaaDoor
set_option linter.unusedVariables false
set_option linter.unusedSimpArgs false
open Go.ChangeShapes Go.WideShapes Go.ChangeAt Go.RowKit
set_option linter.unusedVariables false
def refGetR (xs : List Int) : (Nat → Int) × List Int × Int :=
  if xs = [] then (zeroV, [], 3)
  else if sizeK (num (xs.take 1)) = 0 then (zeroV, [], 4)
  else if (xs.length : Int) < sizeK (num (xs.take 1)) then (zeroV, [], 3)
  else if refRightB (parseV (xs.take (sizeK (num (xs.take 1))).toNat)) && decide (optB (parseV (xs.take (sizeK (num (xs.take 1))).toNat)) = xs.take (sizeK (num (xs.take 1))).toNat) then (parseV (xs.take (sizeK (num (xs.take 1))).toNat), xs.drop (sizeK (num (xs.take 1))).toNat, 0)
  else (zeroV, [], 4)
theorem parseV_ok {xs : List Int} (hb : Bytes xs) (hne : xs ≠ []) : OkV (parseV xs) := by
  have hl : 0 < xs.length := List.length_pos_iff.2 hne
  have hk := num_bd 1 (xs.take 1) (by rw [List.length_take]; omega) (hb.take 1)
  simp only [Int.reducePow] at hk
  refine parseF_ok _ _ _ (kindV_ok hk) (hb.drop 1) (fun p hp => ?_)
  have := (fieldsOf_ok _ p hp).2.2.2
  omega
theorem parseV_kind (xs : List Int) : parseV xs 0 = num (xs.take 1) := by
  unfold parseV
  rw [parseF_at _ _ _ 0 (fieldsOf_zero _)]
  rfl
theorem get_ref {xs : List Int} (hb : Bytes xs) : getR xs = refGetR xs := by
  by_cases hne : xs = []
  · subst hne; rfl
  have hl : 0 < xs.length := List.length_pos_iff.2 hne
  have hk := num_bd 1 (xs.take 1) (by rw [List.length_take]; omega) (hb.take 1)
  simp only [Int.reducePow] at hk
  have hbe : be 1 (num (xs.take 1)) = xs.take 1 := be_num 1 _ (by rw [List.length_take]; omega) (hb.take 1)
  have hpv : ∀ ys, parseV ys = parseF (fieldsOf (num (ys.take 1))) (kindV (num (ys.take 1))) (ys.drop 1) := fun _ => rfl
  have hpk := parseV_kind
  have hpo := fun n (h : xs.take n ≠ []) => parseV_ok (hb.take n) h
  have e1 : ∀ W, (xs.take (1 + W)).take 1 = xs.take 1 := fun W => by rw [List.take_take]; congr 1; omega
  have e2 : ∀ W, (xs.take (1 + W)).drop 1 = (xs.drop 1).take W := fun W => by rw [List.drop_take]; congr 1; omega
  unfold getR refGetR
  rw [if_neg hne, if_neg hne, takeAll_eq]
  obtain ⟨k, hkk⟩ : ∃ k, num (xs.take 1) = k := ⟨_, rfl⟩
  rw [hkk] at hk hbe ⊢
  by_cases hko : k < 1 ∨ 11 < k
  · rw [if_pos (sizeK_out hko), fieldsOf_out hko]
    simp only [widthF, Nat.not_lt_zero, if_false, parseF, truthsF]
    rw [right_false (V := kindV k) (by simpa [kindV] using hko)]
    rfl
  · have hk1 : 1 ≤ k ∧ k ≤ 11 := by omega
    have hsz := sizeK_width hk1
    have hnd := fieldsOf_nodup k
    have hok := fieldsOf_okP k
    have hz := fieldsOf_zero k
    obtain ⟨n, hn⟩ : ∃ n, sizeK k = n := ⟨_, rfl⟩
    rw [hn] at hsz ⊢
    obtain ⟨F, hF⟩ : ∃ F, fieldsOf k = F := ⟨_, rfl⟩
    rw [hF] at hsz hnd hok hz ⊢
    obtain ⟨W, hW⟩ : ∃ W, widthF F = W := ⟨_, rfl⟩
    have hD : (xs.drop 1).length = xs.length - 1 := List.length_drop
    have hfl := flat_parse F (kindV k) (xs.drop 1) (hb.drop 1) hnd hok
    have hap := parseF_app F (kindV k) ((xs.drop 1).take W) ((xs.drop 1).drop W)
    rw [List.take_append_drop, List.length_take] at hap
    rw [hW] at hsz hfl hap ⊢
    rw [hD] at hfl hap ⊢
    rw [if_neg (show ¬ n = 0 by omega)]
    by_cases hs : (xs.length : Int) < n
    · rw [if_pos hs, if_pos (show xs.length - 1 < W by omega)]
    · rw [if_neg hs, if_neg (show ¬ xs.length - 1 < W by omega)]
      have hnn : n.toNat = 1 + W := by omega
      rw [hnn]
      have hV : parseV (xs.take (1 + W)) = parseF F (kindV k) (xs.drop 1) := by
        rw [hpv, e1, e2, hkk, hF, hap (by omega)]
      have hVok := hpo (1 + W) (by
        intro hh
        have := congrArg List.length hh
        rw [List.length_take, List.length_nil] at this
        omega)
      have h0 := hpk (xs.take (1 + W))
      rw [e1, hkk] at h0
      rw [hV] at hVok h0 ⊢
      obtain ⟨V, hVe⟩ : ∃ V, parseF F (kindV k) (xs.drop 1) = V := ⟨_, rfl⟩
      rw [hVe] at hVok h0 hfl ⊢
      have hopt : (optB V = xs.take (1 + W) ↔ truthsF F (xs.drop 1) = true) := by
        rw [← hfl (by omega)]
        unfold optB
        rw [h0, hbe, hF, List.take_add]
        constructor
        · intro hh; exact List.append_cancel_left hh
        · intro hh; rw [hh]
      rw [← right_ref hVok]
      have hdec : decide (optB V = xs.take (1 + W)) = truthsF F (xs.drop 1) := by
        rw [Bool.eq_iff_iff, decide_eq_true_eq]; exact hopt
      simp only [hdec, Bool.and_true, List.drop_drop]
      rw [Bool.and_comm]
theorem optEq_congr {U U' V V' : Nat → Int} (hU : ∀ j, j < 14 → U j = U' j) (hV : ∀ j, j < 14 → V j = V' j) : optEq U V = optEq U' V' := by
  unfold optEq
  rw [hU 0 (by decide), hV 0 (by decide), hU 1 (by decide), hV 1 (by decide), hU 2 (by decide), hV 2 (by decide), hU 3 (by decide), hV 3 (by decide), hU 4 (by decide), hV 4 (by decide), hU 5 (by decide), hV 5 (by decide), hU 6 (by decide), hV 6 (by decide), hU 7 (by decide), hV 7 (by decide), hU 8 (by decide), hV 8 (by decide), hU 9 (by decide), hV 9 (by decide), hU 10 (by decide), hV 10 (by decide), hU 11 (by decide), hV 11 (by decide), hU 12 (by decide), hV 12 (by decide), hU 13 (by decide), hV 13 (by decide)]
theorem rightF_congr {V V' : Nat → Int} (h : ∀ j, j < 14 → V j = V' j) : rightF V = rightF V' := by
  have hF := fieldsOf_ok (V 0)
  unfold rightF
  rw [← h 0 (by decide), ← h 5 (by decide), ← h 8 (by decide), ← h 9 (by decide), ← h 10 (by decide), ← h 11 (by decide), ← h 12 (by decide), ← h 13 (by decide)]
  have e1 : (fieldsOf (V 0)).all (fun p => fitsF (fk p.1) p.2 (V p.1)) = (fieldsOf (V 0)).all (fun p => fitsF (fk p.1) p.2 (V' p.1)) := by
    rw [Bool.eq_iff_iff, List.all_eq_true, List.all_eq_true]
    exact ⟨fun hh p hp => by rw [← h p.1 (hF p hp).2.1]; exact hh p hp, fun hh p hp => by rw [h p.1 (hF p hp).2.1]; exact hh p hp⟩
  have e2 : optEq (ownV (fieldsOf (V 0)) V) V = optEq (ownV (fieldsOf (V 0)) V') V' := by
    have e3 : ∀ j, j < 14 → ownV (fieldsOf (V 0)) V j = ownV (fieldsOf (V 0)) V' j := fun j hj => by
      unfold ownV; rw [h j hj]
    exact optEq_congr e3 h
  rw [e1, e2]
theorem optB_bytes (V : Nat → Int) : Bytes (optB V) := by
  unfold optB
  refine (be_bytes _ _).append (fun x hx => ?_)
  obtain ⟨p, _, hp⟩ := List.mem_flatMap.1 hx
  exact be_bytes _ _ x hp
theorem optB_head {V : Nat → Int} (ys : List Int) (h : 1 ≤ V 0 ∧ V 0 ≤ 11) : num ((optB V ++ ys).take 1) = V 0 := by
  have h1 : (optB V ++ ys).take 1 = be 1 (V 0) := by
    unfold optB
    rw [List.append_assoc, List.take_append_of_le_length (by rw [be_length]; omega)]
    exact List.take_of_length_le (by rw [be_length]; omega)
  rw [h1, num_be1]; omega
theorem optB_tail {V : Nat → Int} (ys : List Int) : (optB V ++ ys).drop 1 = (fieldsOf (V 0)).flatMap (fieldB V) ++ ys := by
  unfold optB
  rw [List.append_assoc]
  have := List.drop_left (l₁ := be 1 (V 0)) (l₂ := (fieldsOf (V 0)).flatMap (fieldB V) ++ ys)
  rwa [be_length] at this
theorem flatMap_same {α : Type} {f g : α → List Int} : ∀ {l : List α}, (∀ x ∈ l, f x = g x) → l.flatMap f = l.flatMap g
  | [], _ => rfl
  | x :: l, h => by rw [List.flatMap_cons, List.flatMap_cons, h x List.mem_cons_self, flatMap_same (fun y hy => h y (List.mem_cons_of_mem _ hy))]
theorem get_put {V : Nat → Int} (hV : OkV V) (hr : rightF V = true) (ys : List Int) : ∃ V', getR (optB V ++ ys) = (V', ys, 0) ∧ (∀ j, j < 14 → V' j = V j) := by
  have hk := right_kind hr
  have hne : optB V ++ ys ≠ [] := by
    intro hh
    have h1 := congrArg List.length hh
    rw [List.length_append] at h1
    have := optB_size hk
    have h2 := sizeK_width hk
    simp at h1
    rw [h1.1] at this
    simp at this
    omega
  have hrr := hr
  rw [right_ref hV] at hrr
  unfold refRightB at hrr
  rw [Bool.and_eq_true, Bool.and_eq_true] at hrr
  have hop : OkV (parseV (optB V)) := parseV_ok (optB_bytes V) (by
    intro hh
    have := optB_size hk
    have h2 := sizeK_width hk
    rw [hh] at this
    simp at this
    omega)
  have heq := (optEq_iff hop hV).1 hrr.2.2
  rw [parse_optB hk, ← parse_flat] at heq
  refine ⟨_, ?_, heq⟩
  have hfw := flat_width (fieldsOf (V 0)) V
  refine (show getR (optB V ++ ys) = _ from ?_)
  have htr : truthsF (fieldsOf (V 0)) ((fieldsOf (V 0)).flatMap (fieldB V)) = true := by
    refine (flat_parse (fieldsOf (V 0)) (kindV (V 0)) ((fieldsOf (V 0)).flatMap (fieldB V)) (fun x hx => by obtain ⟨p, _, hp⟩ := List.mem_flatMap.1 hx; exact be_bytes _ _ x hp) (fieldsOf_nodup _) (fieldsOf_okP _) (by rw [hfw]; exact Nat.le_refl _)).1 ?_
    rw [List.take_of_length_le (by rw [hfw]; exact Nat.le_refl _)]
    refine flatMap_same (fun p hp => ?_)
    show be p.2 _ = be p.2 _
    rw [heq p.1 (fieldsOf_ok _ p hp).2.1]
  unfold getR
  rw [if_neg hne, optB_head ys hk, optB_tail, takeAll_eq, if_neg (by rw [List.length_append, hfw]; omega), parseF_app _ _ _ _ (by rw [hfw]; exact Nat.le_refl _), truthsF_app _ _ _ (by rw [hfw]; exact Nat.le_refl _), htr]
  simp only [Bool.and_true, Bool.true_and]
  rw [rightF_congr heq, hr, ← hfw, List.drop_left]
  rfl
theorem get_cut {V : Nat → Int} (hr : rightF V = true) {m : Nat} (hm : m < (optB V).length) : getR ((optB V).take m) = (zeroV, [], 3) := by
  have hk := right_kind hr
  cases m with
  | zero => rfl
  | succ m =>
    have hsz := optB_size hk
    have hw := sizeK_width hk
    have hlen : ((optB V).take (m + 1)).length = m + 1 := by rw [List.length_take]; omega
    have h1 : ((optB V).take (m + 1)).take 1 = (optB V).take 1 := by rw [List.take_take, show min 1 (m + 1) = 1 by omega]
    have h2 := optB_head (V := V) [] hk
    rw [List.append_nil] at h2
    unfold getR
    rw [if_neg (by intro hh; rw [hh] at hlen; simp at hlen), h1, h2, takeAll_eq, if_pos (by rw [List.length_drop, hlen]; omega)]
end Go.Proofs.YthnennleblgjeaaDoor
