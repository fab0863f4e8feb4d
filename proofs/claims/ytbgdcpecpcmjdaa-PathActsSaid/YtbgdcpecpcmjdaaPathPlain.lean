/- Plain law of the path manager of layer 18. -/
namespace Go.Proofs.Ytbgdcpecpcmjdaa
set_option linter.unusedVariables false

def mayI (a : Int) : Bool := decide (0 ≤ a) && decide (a < 4)
theorem mayI_nat {a : Int} (h : mayI a = true) : ∃ n : Nat, a = (n : Int) ∧ n < 4 := by
  unfold mayI at h
  simp at h
  exact ⟨a.toNat, by omega, by omega⟩
theorem mayI_of {n : Nat} (h : n < 4) : mayI (n : Int) = true := by unfold mayI; simp; omega
theorem mayI_no {a : Int} (h : mayI a = false) : a < 0 ∨ 4 ≤ a := by
  unfold mayI at h
  simp at h
  omega
/-- Those of the first k numbers of which p holds. -/
def addrs (p : Nat → Bool) (k : Nat) : List Int := ((List.range k).filter p).map (fun i : Nat => (i : Int))
theorem addrs_zero (p : Nat → Bool) : addrs p 0 = [] := rfl
theorem addrs_yes {p : Nat → Bool} {k : Nat} (h : p k = true) : addrs p (k + 1) = addrs p k ++ [(k : Int)] := by
  unfold addrs; rw [List.range_succ, List.filter_append, List.map_append]; simp [h]
theorem addrs_no {p : Nat → Bool} {k : Nat} (h : p k = false) : addrs p (k + 1) = addrs p k := by
  unfold addrs; rw [List.range_succ, List.filter_append, List.map_append]; simp [h]
theorem addrs_le (p : Nat → Bool) (k : Nat) : (addrs p k).length ≤ k := by
  unfold addrs; rw [List.length_map]; exact Nat.le_trans (List.length_filter_le _ _) (by simp)
theorem addrs_mem {p : Nat → Bool} {k : Nat} {x : Int} : x ∈ addrs p k ↔ ∃ i : Nat, i < k ∧ x = (i : Int) ∧ p i = true := by
  constructor
  · intro h
    obtain ⟨i, hi, rfl⟩ := List.mem_map.1 h
    obtain ⟨h1, h2⟩ := List.mem_filter.1 hi
    exact ⟨i, List.mem_range.1 h1, rfl, h2⟩
  · rintro ⟨i, hi, rfl, h⟩
    exact List.mem_map.2 ⟨i, List.mem_filter.2 ⟨List.mem_range.2 hi, h⟩, rfl⟩
theorem addrs_has {p : Nat → Bool} {k n : Nat} (h : n < k) : decide ((n : Int) ∈ addrs p k) = p n := by
  rw [Bool.eq_iff_iff, decide_eq_true_iff, addrs_mem]
  constructor
  · rintro ⟨i, hi, e, hp⟩
    obtain rfl : n = i := by omega
    exact hp
  · exact fun hp => ⟨n, h, rfl, hp⟩
theorem addrs_congr {p q : Nat → Bool} {k : Nat} (h : ∀ i, i < k → p i = q i) : addrs p k = addrs q k := by
  unfold addrs
  congr 1
  exact List.filter_congr fun x hx => h x (List.mem_range.1 hx)

/-! The program's state: 4 truths for one's own addresses, 4 for the other's, 4 times 4 for the pairs. -/
def ownB (L : List Bool) (a : Nat) : Bool := L.getD a false
def othB (L : List Bool) (b : Nat) : Bool := L.getD (4 + b) false
def flowB (L : List Bool) (a b : Nat) : Bool := L.getD (8 + a * 4 + b) false
theorem getD_set (L : List Bool) (i j : Nat) (v : Bool) (h : i < L.length) : (L.set i v).getD j false = if i = j then v else L.getD j false := by
  simp only [List.getD, List.getElem?_set, h, if_true]
  split <;> simp
def tellC (L : List Bool) (a : Int) : Int := if mayI a then (if ownB L a.toNat then 8 else 0) else 1
def tellL (L : List Bool) (a : Int) : List Bool := if mayI a then L.set a.toNat true else L
def untellC (L : List Bool) (a : Int) : Int := if mayI a then (if ownB L a.toNat then 0 else 6) else 1
def untellL (L : List Bool) (a : Int) : List Bool := if mayI a then L.set a.toNat false else L
def toldL (L : List Bool) (b : Int) : List Bool := if mayI b then L.set (4 + b.toNat) true else L
def goneB (L : List Bool) (a b : Int) : Bool := mayI a && mayI b && flowB L a.toNat b.toNat
def goneL (L : List Bool) (a b : Int) : List Bool := if mayI a && mayI b then L.set (8 + a.toNat * 4 + b.toNat) false else L
/-- The pairs of the first k own addresses. -/
def pairsN (L : List Bool) : Nat → List (Int × Int)
  | 0 => []
  | k + 1 => pairsN L k ++ (addrs (flowB L k) 4).map fun b => ((k : Int), b)
theorem pairsN_le (L : List Bool) (k : Nat) : (pairsN L k).length ≤ 4 * k := by
  induction k with
  | zero => exact Nat.le_refl _
  | succ k ih =>
    unfold pairsN
    rw [List.length_append, List.length_map]
    have := addrs_le (flowB L k) 4
    omega
theorem pairsN_mem {L : List Bool} {k : Nat} {x y : Int} : (x, y) ∈ pairsN L k ↔ ∃ a b : Nat, a < k ∧ b < 4 ∧ x = (a : Int) ∧ y = (b : Int) ∧ flowB L a b = true := by
  induction k with
  | zero => simp [pairsN]
  | succ k ih =>
    unfold pairsN
    rw [List.mem_append, ih, List.mem_map]
    constructor
    · rintro (⟨a, b, h1, h2⟩ | ⟨z, hz, e⟩)
      · exact ⟨a, b, by omega, h2⟩
      · obtain ⟨b, hb, rfl, hf⟩ := addrs_mem.1 hz
        injection e with e1 e2
        exact ⟨k, b, by omega, hb, e1.symm, e2.symm, hf⟩
    · rintro ⟨a, b, h1, h2, rfl, rfl, hf⟩
      by_cases e : a = k
      · subst e
        exact .inr ⟨b, addrs_mem.2 ⟨b, h2, rfl, hf⟩, rfl⟩
      · exact .inl ⟨a, b, by omega, h2, rfl, rfl, hf⟩
def joinC (L : List Bool) (m : Int) (a b : Int) : Int :=
  if mayI a && mayI b then (if ownB L a.toNat && othB L b.toNat then (if flowB L a.toNat b.toNat then 8 else if m ≤ ((pairsN L 4).length : Int) then 7 else 0) else 6) else 1
def joinL (L : List Bool) (m : Int) (a b : Int) : List Bool := if joinC L m a b = 0 then L.set (8 + a.toNat * 4 + b.toNat) true else L
/-- The pairs with b that the first k own addresses had. -/
def goneN (L : List Bool) (b : Nat) : Nat → List Bool
  | 0 => L
  | k + 1 => (goneN L b k).set (8 + k * 4 + b) false
theorem goneN_length (L : List Bool) (b k : Nat) : (goneN L b k).length = L.length := by
  induction k with
  | zero => rfl
  | succ k ih => unfold goneN; rw [List.length_set, ih]
theorem goneN_at {L : List Bool} {b k : Nat} (hb : b < 4) (hk : k ≤ 4) (hL : L.length = 24) (i : Nat) : (goneN L b k).getD i false = if ∃ a, a < k ∧ i = 8 + a * 4 + b then false else L.getD i false := by
  induction k with
  | zero => unfold goneN; rw [if_neg (by rintro ⟨a, h, _⟩; omega)]
  | succ k ih =>
    unfold goneN
    rw [getD_set _ _ _ _ (by rw [goneN_length, hL]; omega), ih (by omega)]
    by_cases h : 8 + k * 4 + b = i
    · rw [if_pos h, if_pos ⟨k, by omega, h.symm⟩]
    · rw [if_neg h]
      by_cases h2 : ∃ a, a < k ∧ i = 8 + a * 4 + b
      · obtain ⟨a, ha, e⟩ := h2
        rw [if_pos ⟨a, ha, e⟩, if_pos ⟨a, by omega, e⟩]
      · rw [if_neg h2, if_neg]
        rintro ⟨a, ha, e⟩
        by_cases e2 : a = k
        · subst e2; exact h e.symm
        · exact h2 ⟨a, by omega, e⟩
def withB (L : List Bool) (b : Nat) (k : Nat) : List (Int × Int) := (addrs (fun a => flowB L a b) k).map fun a => (a, (b : Int))
def untoldL (L : List Bool) (b : Int) : List Bool := if mayI b then goneN (L.set (4 + b.toNat) false) b.toNat 4 else L
def untoldP (L : List Bool) (b : Int) : List (Int × Int) := if mayI b then withB L b.toNat 4 else []
/-- The first pair that is told, and has no flow. -/
def nextIn (fl : Int → Int → Bool) : List Int → List Int → Option (Int × Int)
  | [], _ => none
  | a :: as, bs => match bs.find? fun b => !fl a b with | some b => some (a, b) | none => nextIn fl as bs
theorem nextIn_end (fl : Int → Int → Bool) (as bs : List Int) {k : Nat} (h : as.length ≤ k) : nextIn fl (as.drop k) bs = none := by
  rw [List.drop_eq_nil_of_le h]; rfl
theorem drop_cons {l : List Int} {k : Nat} (h : k < l.length) : l.drop k = l.getD k 0 :: l.drop (k + 1) := by
  rw [List.drop_eq_getElem_cons h]; simp [List.getD, h]
theorem nextIn_hit (fl : Int → Int → Bool) {as bs : List Int} {k : Nat} (h : k < as.length) {b : Int} (hb : bs.find? (fun b => !fl (as.getD k 0) b) = some b) : nextIn fl (as.drop k) bs = some (as.getD k 0, b) := by
  rw [drop_cons h]; unfold nextIn; rw [hb]
theorem nextIn_miss (fl : Int → Int → Bool) {as bs : List Int} {k : Nat} (h : k < as.length) (hb : bs.find? (fun b => !fl (as.getD k 0) b) = none) : nextIn fl (as.drop k) bs = nextIn fl (as.drop (k + 1)) bs := by
  rw [drop_cons h]; conv => lhs; unfold nextIn
  rw [hb]
theorem find_hit {p : Int → Bool} {bs : List Int} {j : Nat} (h : j < bs.length) (hp : p (bs.getD j 0) = true) : (bs.drop j).find? p = some (bs.getD j 0) := by
  rw [drop_cons h, List.find?_cons, hp]
theorem find_miss {p : Int → Bool} {bs : List Int} {j : Nat} (h : j < bs.length) (hp : p (bs.getD j 0) = false) : (bs.drop j).find? p = (bs.drop (j + 1)).find? p := by
  rw [drop_cons h, List.find?_cons, hp]
theorem nextIn_congr {fl gl : Int → Int → Bool} {as bs : List Int} (h : ∀ a ∈ as, ∀ b ∈ bs, fl a b = gl a b) : nextIn fl as bs = nextIn gl as bs := by
  induction as with
  | nil => rfl
  | cons a as ih =>
    unfold nextIn
    rw [ih (fun x hx => h x (by simp [hx]))]
    have e : bs.find? (fun b => !fl a b) = bs.find? (fun b => !gl a b) := by
      have : ∀ l : List Int, (∀ b ∈ l, fl a b = gl a b) → l.find? (fun b => !fl a b) = l.find? (fun b => !gl a b) := by
        intro l
        induction l with
        | nil => intro _; rfl
        | cons b l ih2 =>
          intro hl
          rw [List.find?_cons, List.find?_cons, hl b (by simp), ih2 (fun x hx => hl x (by simp [hx]))]
      exact this bs (h a (by simp))
    rw [e]
theorem nextIn_some {fl : Int → Int → Bool} {as bs : List Int} {x y : Int} (h : nextIn fl as bs = some (x, y)) : x ∈ as ∧ y ∈ bs ∧ fl x y = false := by
  induction as with
  | nil => cases h
  | cons a as ih =>
    unfold nextIn at h
    split at h
    · rename_i b hb
      injection h with h
      injection h with h1 h2
      subst h1 h2
      have := List.find?_some hb
      exact ⟨by simp, List.mem_of_find?_eq_some hb, by simpa using this⟩
    · obtain ⟨h1, h2⟩ := ih h
      exact ⟨by simp [h1], h2⟩
theorem nextIn_none {fl : Int → Int → Bool} {as bs : List Int} (h : nextIn fl as bs = none) : ∀ a ∈ as, ∀ b ∈ bs, fl a b = true := by
  induction as with
  | nil => intro a ha; cases ha
  | cons x as ih =>
    unfold nextIn at h
    split at h
    · cases h
    · rename_i hb
      intro a ha b hbb
      rcases List.mem_cons.1 ha with rfl | ha
      · have := List.find?_eq_none.1 hb b hbb
        simpa using this
      · exact ih h a ha b hbb
def flowI (L : List Bool) (a b : Int) : Bool := flowB L a.toNat b.toNat
def nextOf (L : List Bool) (m : Int) : Option (Int × Int) := if m ≤ ((pairsN L 4).length : Int) then none else nextIn (flowI L) (addrs (ownB L) 4) (addrs (othB L) 4)
/-- What 'New' makes. -/
def Fresh (L : List Bool) (n k : Nat) : Prop := ∀ i, i < 24 → L.getD i false = decide (i = n ∨ i = 4 + k ∨ i = 8 + n * 4 + k)
end Go.Proofs.Ytbgdcpecpcmjdaa
