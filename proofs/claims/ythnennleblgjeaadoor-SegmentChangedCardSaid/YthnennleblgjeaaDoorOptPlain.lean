/- The laws of option: plain laws of bytes and fields, no program in sight. -/
import Derived.Test.YthnennleblgjeaaDoorOpt11
import Derived.Test.YthnennleblgjeaaDoorOptRef2
namespace Go.Proofs.YthnennleblgjeaaDoor
open Go.ChangeShapes Go.WideShapes Go.ChangeAt Go.RowKit
set_option linter.unusedVariables false
theorem be_mod : ∀ k, k ≤ 8 → ∀ n : Int, be k (n % 18446744073709551616) = be k n
  | 0, _, _ => rfl
  | k + 1, h, n => by
    rw [be_cons, be_cons, be_mod k (by omega) n]
    congr 1
    match k, h with
    | 0, _ | 1, _ | 2, _ | 3, _ | 4, _ | 5, _ | 6, _ | 7, _ => simp only [Int.reducePow]; omega
theorem num_be1 (n : Int) : num (be 1 n) = n % 256 := by
  simp only [be, num, List.nil_append, List.cons_append, List.foldl_cons, List.foldl_nil]
  omega
theorem num_be4 (n : Int) : num (be 4 n) = n % 4294967296 := by
  simp only [be, num, List.nil_append, List.cons_append, List.foldl_cons, List.foldl_nil]
  omega
theorem num_be8 (n : Int) : num (be 8 n) = n % 18446744073709551616 := by
  simp only [be, num, List.nil_append, List.cons_append, List.foldl_cons, List.foldl_nil]
  omega
theorem be_num : ∀ (k : Nat) (l : List Int), l.length = k → Bytes l → be k (num l) = l
  | 0, l, h, _ => by
    obtain rfl : l = [] := List.eq_nil_of_length_eq_zero h
    rfl
  | k + 1, l, h, hb => by
    have hne : l ≠ [] := by rintro rfl; simp at h
    obtain ⟨m, x, rfl⟩ : ∃ m x, l = m ++ [x] := ⟨l.dropLast, l.getLast hne, (List.dropLast_concat_getLast hne).symm⟩
    have ih := be_num k m (by simpa using h) (fun y hy => hb y (by simp [hy]))
    have hx := hb x (by simp)
    rw [num_snoc, be, show (256 * num m + x) / 256 = num m by omega, show (256 * num m + x) % 256 = x by omega, ih]
def parseF : List (Nat × Nat) → (Nat → Int) → List Int → (Nat → Int)
  | [], V, _ => V
  | p :: F, V, xs => parseF F (upd V p.1 (setV (fk p.1) (num (xs.take p.2)))) (xs.drop p.2)
def truthsF : List (Nat × Nat) → List Int → Bool
  | [], _ => true
  | p :: F, xs => setOk (fk p.1) (num (xs.take p.2)) && truthsF F (xs.drop p.2)
def widthF : List (Nat × Nat) → Nat
  | [] => 0
  | p :: F => p.2 + widthF F
theorem takeAll_eq : ∀ (F : List (Nat × Nat)) (V : Nat → Int) (xs : List Int) (t : Bool), takeAll F V xs t = if xs.length < widthF F then none else some (parseF F V xs, xs.drop (widthF F), truthsF F xs && t)
  | [], V, xs, t => by simp [takeAll, widthF, parseF, truthsF]
  | p :: F, V, xs, t => by
    unfold takeAll
    by_cases h : xs.length < p.2
    · rw [if_pos h, if_pos (by unfold widthF; omega)]
    · rw [if_neg h, takeAll_eq F]
      by_cases h2 : (xs.drop p.2).length < widthF F
      · rw [if_pos h2, if_pos (by unfold widthF; rw [List.length_drop] at h2; omega)]
      · rw [if_neg h2, if_neg (by unfold widthF; rw [List.length_drop] at h2; omega)]
        simp only [parseF, truthsF, widthF, List.drop_drop]
        congr 3
        cases setOk (fk p.1) (num (xs.take p.2)) <;> simp
def parseV (xs : List Int) : Nat → Int := parseF (fieldsOf (num (xs.take 1))) (kindV (num (xs.take 1))) (xs.drop 1)
theorem parseF_app : ∀ (F : List (Nat × Nat)) (U : Nat → Int) (xs ys : List Int), widthF F ≤ xs.length → parseF F U (xs ++ ys) = parseF F U xs
  | [], U, xs, ys, _ => rfl
  | p :: F, U, xs, ys, h => by
    unfold widthF at h
    unfold parseF
    rw [List.take_append_of_le_length (by omega), List.drop_append_of_le_length (by omega)]
    exact parseF_app F _ _ ys (by rw [List.length_drop]; omega)
theorem truthsF_app : ∀ (F : List (Nat × Nat)) (xs ys : List Int), widthF F ≤ xs.length → truthsF F (xs ++ ys) = truthsF F xs
  | [], xs, ys, _ => rfl
  | p :: F, xs, ys, h => by
    unfold widthF at h
    unfold truthsF
    rw [List.take_append_of_le_length (by omega), List.drop_append_of_le_length (by omega), truthsF_app F _ ys (by rw [List.length_drop]; omega)]
theorem parseF_at : ∀ (F : List (Nat × Nat)) (U : Nat → Int) (xs : List Int) (j : Nat), j ∉ F.map (·.1) → parseF F U xs j = U j
  | [], U, xs, j, _ => rfl
  | p :: F, U, xs, j, h => by
    rw [List.map_cons, List.mem_cons, not_or] at h
    unfold parseF
    rw [parseF_at F _ _ j h.2]
    unfold upd
    rw [if_neg h.1]
theorem parseF_ok : ∀ (F : List (Nat × Nat)) (U : Nat → Int) (xs : List Int), OkV U → Bytes xs → (∀ p ∈ F, p.2 ≤ 8) → OkV (parseF F U xs)
  | [], U, xs, h, _, _ => h
  | p :: F, U, xs, h, hb, hp => by
    unfold parseF
    refine parseF_ok F _ _ (h.upd p.1 (setV_ok _ ?_)) (hb.drop _) (fun q hq => hp q (List.mem_cons_of_mem _ hq))
    have := hp p (List.mem_cons_self)
    exact num_lt _ (by rw [List.length_take]; omega) (hb.take _)
/-- A field's bytes tell it, and are told by it. -/
theorem be_set {k : FK} {wd : Nat} {c : List Int} (hb : Bytes c) (hl : c.length = wd) (h : match k with | .big => wd = 8 | .word => wd = 4 | .n => wd = 1 ∨ wd = 4 | .is => wd = 1) : (be wd (setV k (num c)) = c ↔ setOk k (num c) = true) := by
  have hn := num_bd _ c rfl hb
  rw [hl] at hn
  cases k with
  | big =>
    simp only at h
    simp only [setV, setOk, iff_true]
    exact be_num _ _ hl hb
  | word =>
    simp only at h
    subst h
    simp only [setV, setOk, iff_true]
    rw [Int.emod_eq_of_lt hn.1 (by have := hn.2; simpa using this)]
    exact be_num _ _ hl hb
  | n =>
    simp only at h
    simp only [setV, setOk, iff_true]
    have e : wrap64 (num c) = num c := by
      unfold wrap64
      rcases h with rfl | rfl <;> simp only [Int.reducePow] at hn <;> omega
    rw [e]
    exact be_num _ _ hl hb
  | is =>
    simp only at h
    subst h
    simp only [setV, setOk, decide_eq_true_eq]
    simp only [Int.reducePow] at hn
    have e := be_num _ _ hl hb
    by_cases h1 : num c ≤ 1
    · have : (if num c = 1 then (1 : Int) else 0) = num c := by split <;> omega
      rw [this, e]
      exact ⟨fun _ => h1, fun _ => rfl⟩
    · rw [if_neg (by omega)]
      refine ⟨fun hh => ?_, fun hh => absurd hh h1⟩
      exfalso
      rw [← hh] at h1
      exact h1 (by decide)
def okP (p : Nat × Nat) : Prop := match fk p.1 with | .big => p.2 = 8 | .word => p.2 = 4 | .n => p.2 = 1 ∨ p.2 = 4 | .is => p.2 = 1
theorem flat_parse : ∀ (F : List (Nat × Nat)) (U : Nat → Int) (xs : List Int), Bytes xs → (F.map (·.1)).Nodup → (∀ p ∈ F, okP p) → widthF F ≤ xs.length → (F.flatMap (fieldB (parseF F U xs)) = xs.take (widthF F) ↔ truthsF F xs = true)
  | [], U, xs, _, _, _, _ => by simp [widthF, truthsF]
  | p :: F, U, xs, hb, hd, hp, hw => by
    rw [List.map_cons, List.nodup_cons] at hd
    unfold widthF at hw
    have hlt : (xs.take p.2).length = p.2 := by rw [List.length_take]; omega
    have key := be_set (k := fk p.1) (hb.take p.2) hlt (hp p List.mem_cons_self)
    have ih := flat_parse F (upd U p.1 (setV (fk p.1) (num (xs.take p.2)))) (xs.drop p.2) (hb.drop _) hd.2 (fun q hq => hp q (List.mem_cons_of_mem _ hq)) (by rw [List.length_drop]; omega)
    unfold truthsF
    rw [List.flatMap_cons, show widthF (p :: F) = p.2 + widthF F from rfl, List.take_add, Bool.and_eq_true, ← key, ← ih]
    have e : fieldB (parseF (p :: F) U xs) p = be p.2 (setV (fk p.1) (num (xs.take p.2))) := by
      unfold fieldB parseF
      rw [parseF_at F _ _ p.1 hd.1]
      unfold upd
      rw [if_pos rfl]
    rw [e, show parseF (p :: F) U xs = parseF F (upd U p.1 (setV (fk p.1) (num (xs.take p.2)))) (xs.drop p.2) from rfl]
    constructor
    · intro h
      exact List.append_inj h (by rw [be_length, hlt])
    · rintro ⟨h1, h2⟩
      rw [h1, h2]
theorem fieldsOf_okP (k : Int) : ∀ p ∈ fieldsOf k, okP p := by
  unfold fieldsOf
  split <;> intro p hp <;> simp at hp
  all_goals first
    | (subst hp; simp [okP, fk])
    | (rcases hp with rfl | rfl <;> simp [okP, fk])
    | (rcases hp with rfl | rfl | rfl | rfl <;> simp [okP, fk])
    | (rcases hp with rfl | rfl | rfl | rfl | rfl | rfl <;> simp [okP, fk])
theorem fieldsOf_nodup (k : Int) : ((fieldsOf k).map (·.1)).Nodup := by
  unfold fieldsOf
  split <;> simp
theorem fieldsOf_zero (k : Int) : 0 ∉ (fieldsOf k).map (·.1) := by
  unfold fieldsOf
  split <;> simp
theorem sizeK_width {k : Int} (h : 1 ≤ k ∧ k ≤ 11) : sizeK k = 1 + (widthF (fieldsOf k) : Int) := by
  have hk : k = 1 ∨ k = 2 ∨ k = 3 ∨ k = 4 ∨ k = 5 ∨ k = 6 ∨ k = 7 ∨ k = 8 ∨ k = 9 ∨ k = 10 ∨ k = 11 := by omega
  rcases hk with rfl | rfl | rfl | rfl | rfl | rfl | rfl | rfl | rfl | rfl | rfl <;> rfl
theorem flat_width : ∀ (F : List (Nat × Nat)) (V : Nat → Int), (F.flatMap (fieldB V)).length = widthF F
  | [], V => rfl
  | p :: F, V => by
    rw [List.flatMap_cons, List.length_append, flat_width F V]
    unfold fieldB
    rw [be_length]
    rfl
theorem optB_size {V : Nat → Int} (h : 1 ≤ V 0 ∧ V 0 ≤ 11) : ((optB V).length : Int) = sizeK (V 0) := by
  unfold optB
  rw [sizeK_width h, List.length_append, be_length, flat_width]
  omega
/-- What an option's fields are when its bytes are read again. -/
def againF : List (Nat × Nat) → (Nat → Int) → (Nat → Int) → Nat → Int
  | [], V, U => U
  | p :: F, V, U => againF F V (upd U p.1 (setV (fk p.1) (num (be p.2 (V p.1)))))
theorem parse_flat : ∀ (F : List (Nat × Nat)) (V U : Nat → Int), parseF F U (F.flatMap (fieldB V)) = againF F V U
  | [], V, U => rfl
  | p :: F, V, U => by
    rw [List.flatMap_cons]
    unfold parseF againF
    have hl : (fieldB V p).length = p.2 := by unfold fieldB; rw [be_length]
    rw [show List.take p.2 (fieldB V p ++ F.flatMap (fieldB V)) = fieldB V p from by rw [← hl]; exact List.take_left, show List.drop p.2 (fieldB V p ++ F.flatMap (fieldB V)) = F.flatMap (fieldB V) from by rw [← hl]; exact List.drop_left]
    exact parse_flat F V _
theorem parse_optB {V : Nat → Int} (h : 1 ≤ V 0 ∧ V 0 ≤ 11) : parseV (optB V) = againF (fieldsOf (V 0)) V (kindV (V 0)) := by
  have h1 : (optB V).take 1 = be 1 (V 0) := by
    unfold optB
    rw [List.take_append_of_le_length (by rw [be_length]; omega)]
    exact List.take_of_length_le (by rw [be_length]; omega)
  have h2 : (optB V).drop 1 = (fieldsOf (V 0)).flatMap (fieldB V) := by
    unfold optB
    have := List.drop_left (l₁ := be 1 (V 0)) (l₂ := (fieldsOf (V 0)).flatMap (fieldB V))
    rwa [be_length] at this
  unfold parseV
  rw [h1, h2, num_be1, Int.emod_eq_of_lt (by omega) (by omega)]
  exact parse_flat _ _ _
end Go.Proofs.YthnennleblgjeaaDoor
