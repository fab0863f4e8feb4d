/- What a flow has pushed. Two flows, in plain Lean. -/
import Derived.Test.YtjldgialhgfhmaaXPairM
namespace Go.Proofs.Ytjldgialhgfhmaa
set_option linter.unusedVariables false
set_option linter.unusedSimpArgs false
set_option linter.unusedVariables false
set_option linter.unusedSimpArgs false
/-! What a flow has pushed, one piece behind the other; where each begins. -/
def offH (H : List Pc) (j : Nat) : Nat := total (H.take j)
def pos (iss : Int) (H : List Pc) (j : Nat) : Int := onN iss (offH H j)
def finH (H : List Pc) : Prop := ∃ p ∈ H, p.fin = true
def dat (H : List Pc) : List Int := H.flatMap Pc.xs
structure Hist (iss : Int) (H : List Pc) : Prop where
  len : 1 ≤ H.length
  ib : 0 ≤ iss ∧ iss < 4294967296
  small : total H < 1000000
  seq : ∀ (j : Nat) (p : Pc), H[j]? = some p → p.seq = pos iss H j ∧ 0 < long p
  syn : ∀ (j : Nat) (p : Pc), H[j]? = some p → (p.syn = true ↔ j = 0)
  one : ∀ p, H[0]? = some p → p.xs = [] ∧ p.fin = false
  fin : ∀ (j : Nat) (p : Pc), H[j]? = some p → p.fin = true → j + 1 = H.length ∧ p.xs = []
theorem off_zero (H : List Pc) : offH H 0 = 0 := rfl
theorem off_succ {H : List Pc} {j : Nat} {p : Pc} (h : H[j]? = some p) : offH H (j + 1) = offH H j + long p := by
  unfold offH
  have hj : j < H.length := (List.getElem?_eq_some_iff.1 h).1
  rw [List.take_add_one, total_append, h]
  simp [total]
theorem off_all (H : List Pc) : offH H H.length = total H := by unfold offH; rw [List.take_length]
theorem off_le {H : List Pc} {i j : Nat} (h : i ≤ j) : offH H i ≤ offH H j := by
  unfold offH
  have : H.take j = H.take i ++ (H.take j).drop i := by
    have h1 := (List.take_append_drop i (H.take j)).symm
    rw [List.take_take, Nat.min_eq_left h] at h1
    exact h1
  rw [this, total_append]
  omega
theorem off_tot (H : List Pc) (j : Nat) : offH H j ≤ total H := by
  unfold offH
  have := total_append (H.take j) (H.drop j)
  rw [List.take_append_drop] at this
  omega
theorem off_lt {iss : Int} {H : List Pc} (hH : Hist iss H) {i j : Nat} (h : i < j) (hj : j ≤ H.length) : offH H i < offH H j := by
  have h1 : H[i]? = some H[i] := List.getElem?_eq_getElem (by omega)
  have h2 := off_succ h1
  have h3 := (hH.seq i _ h1).2
  have h4 : offH H (i + 1) ≤ offH H j := off_le h
  omega
theorem off_take {H X : List Pc} {j : Nat} (h : j ≤ H.length) : offH (H ++ X) j = offH H j := by
  unfold offH
  rw [List.take_append_of_le_length h]
theorem pos_app {iss : Int} {H X : List Pc} {j : Nat} (h : j ≤ H.length) : pos iss (H ++ X) j = pos iss H j := by
  unfold pos
  rw [off_take h]
theorem pos_zero {iss : Int} {H : List Pc} (hi : 0 ≤ iss ∧ iss < 4294967296) : pos iss H 0 = iss := by
  unfold pos onN
  rw [off_zero]
  simp
  omega
theorem pos_bd (iss : Int) (H : List Pc) (j : Nat) : 0 ≤ pos iss H j ∧ pos iss H j < 4294967296 := by unfold pos; exact onN_bd _ _
theorem pos_succ {iss : Int} {H : List Pc} {j : Nat} {p : Pc} (h : H[j]? = some p) : pos iss H (j + 1) = onN (pos iss H j) (long p) := by
  unfold pos
  rw [off_succ h]
  unfold onN
  omega
theorem dist_pos {iss : Int} {H : List Pc} (hH : Hist iss H) {i j : Nat} (h : i ≤ j) : dist (pos iss H i) (pos iss H j) = (offH H j : Int) - offH H i := by
  have h1 := off_le (H := H) h
  have h2 := off_tot H j
  have h3 := hH.small
  have h4 := hH.ib
  unfold dist pos onN
  omega
theorem dist_neg {iss : Int} {H : List Pc} (hH : Hist iss H) {i j : Nat} (h : i < j) (hj : j ≤ H.length) : dist (pos iss H j) (pos iss H i) = 4294967296 - ((offH H j : Int) - offH H i) := by
  have h1 := off_lt hH h hj
  have h2 := off_tot H j
  have h3 := hH.small
  have h4 := hH.ib
  unfold dist pos onN
  omega
theorem pos_inj {iss : Int} {H : List Pc} (hH : Hist iss H) {i j : Nat} (hi : i ≤ H.length) (hj : j ≤ H.length) (h : pos iss H i = pos iss H j) : i = j := by
  rcases Nat.lt_trichotomy i j with g | g | g
  · have h1 := dist_pos hH (Nat.le_of_lt g)
    have h2 := off_lt hH g hj
    rw [h] at h1
    unfold dist at h1
    omega
  · exact g
  · have h1 := dist_pos hH (Nat.le_of_lt g)
    have h2 := off_lt hH g hi
    rw [h] at h1
    unfold dist at h1
    omega
theorem begin_pos {iss : Int} {H : List Pc} (hH : Hist iss H) {a : Nat} (ha : a ≤ H.length) : beginQ (H.drop a) (pos iss H H.length) = pos iss H a := by
  rcases Nat.lt_or_ge a H.length with h | h
  · have h1 : H[a]? = some H[a] := List.getElem?_eq_getElem h
    rw [List.drop_eq_getElem_cons h]
    exact (hH.seq a _ h1).1
  · have : a = H.length := by omega
    subst this
    rw [List.drop_length]
    rfl
theorem ackK_off {iss : Int} {H : List Pc} (hH : Hist iss H) : ∀ (n a : Nat), a + n ≤ H.length → ackK (H.drop a) ((offH H (a + n) : Int) - offH H a) = n := by
  intro n
  induction n with
  | zero =>
    intro a ha
    rcases Nat.lt_or_ge a H.length with h | h
    · have h1 : H[a]? = some H[a] := List.getElem?_eq_getElem h
      rw [List.drop_eq_getElem_cons h]
      have := (hH.seq a _ h1).2
      unfold ackK
      rw [if_pos (by simp; omega)]
    · rw [List.drop_of_length_le h]
      rfl
  | succ n ih =>
    intro a ha
    have h : a < H.length := by omega
    have h1 : H[a]? = some H[a] := List.getElem?_eq_getElem h
    have h2 := off_succ h1
    have h3 : offH H (a + 1) ≤ offH H (a + (n + 1)) := off_le (by omega)
    rw [List.drop_eq_getElem_cons h]
    unfold ackK
    rw [if_neg (by omega)]
    have := ih (a + 1) (by omega)
    rw [show a + 1 + n = a + (n + 1) by omega] at this
    rw [show ((offH H (a + (n + 1)) : Int) - offH H a) - long H[a] = (offH H (a + (n + 1)) : Int) - offH H (a + 1) by omega]
    rw [this]
theorem off_inj_le {iss : Int} {H : List Pc} (hH : Hist iss H) {i j : Nat} (hi : i ≤ H.length) (h : offH H i ≤ offH H j) : i ≤ j := by
  rcases Nat.lt_or_ge j i with g | g
  · have := off_lt hH g hi
    omega
  · exact g
theorem dat_app (H X : List Pc) : dat (H ++ X) = dat H ++ dat X := by unfold dat; rw [List.flatMap_append]
theorem dat_succ {H : List Pc} {j : Nat} {p : Pc} (h : H[j]? = some p) : dat (H.take (j + 1)) = dat (H.take j) ++ p.xs := by
  rw [List.take_add_one, h, dat_app]
  simp [dat]
theorem fin_take {H : List Pc} {j : Nat} (h : finH (H.take j)) : finH H := by
  obtain ⟨p, h1, h2⟩ := h
  exact ⟨p, List.mem_of_mem_take h1, h2⟩
theorem Hist.nofin {iss : Int} {H : List Pc} (hH : Hist iss H) {j : Nat} (h : j < H.length) : ¬ finH (H.take j) := by
  rintro ⟨p, h1, h2⟩
  obtain ⟨i, hi⟩ := List.mem_iff_getElem?.1 h1
  have hi2 : i < j := by
    have := (List.getElem?_eq_some_iff.1 hi).1
    simp at this
    omega
  rw [List.getElem?_take_of_lt hi2] at hi
  have := (hH.fin i p hi h2).1
  omega
theorem Hist.nofin1 {iss : Int} {H : List Pc} (hH : Hist iss H) : ¬ finH (H.take 1) := by
  rintro ⟨p, h1, h2⟩
  obtain ⟨i, hi⟩ := List.mem_iff_getElem?.1 h1
  have hi2 : i < 1 := by
    have := (List.getElem?_eq_some_iff.1 hi).1
    simp at this
    omega
  rw [List.getElem?_take_of_lt hi2] at hi
  obtain rfl : i = 0 := by omega
  rw [(hH.one p hi).2] at h2
  cases h2
/-- One more is pushed. -/
theorem Hist.push {iss : Int} {H : List Pc} (hH : Hist iss H) (hf : ¬ finH H) (p : Pc) (hs : p.syn = false) (hp : 0 < long p) (hl : total H + long p < 1000000) (hfin : p.fin = true → p.xs = []) :
    Hist iss (H ++ [withSeq p (pos iss H H.length)]) := by
  have hlen := hH.len
  refine ⟨by simp, hH.ib, ?_, ?_, ?_, ?_, ?_⟩
  · rw [total_append]
    simp only [total]
    have : long (withSeq p (pos iss H H.length)) = long p := rfl
    omega
  · intro j q hq
    rcases Nat.lt_or_ge j H.length with h | h
    · rw [List.getElem?_append_left h] at hq
      rw [pos_app (Nat.le_of_lt h)]
      exact hH.seq j q hq
    · rw [List.getElem?_append_right h] at hq
      have h0 : j - H.length = 0 := by
        have := (List.getElem?_eq_some_iff.1 hq).1
        simp at this
        omega
      rw [h0] at hq
      simp at hq
      subst hq
      have hj : j = H.length := by omega
      subst hj
      rw [pos_app (Nat.le_refl _)]
      exact ⟨rfl, hp⟩
  · intro j q hq
    rcases Nat.lt_or_ge j H.length with h | h
    · rw [List.getElem?_append_left h] at hq
      exact hH.syn j q hq
    · rw [List.getElem?_append_right h] at hq
      have h0 : j - H.length = 0 := by
        have := (List.getElem?_eq_some_iff.1 hq).1
        simp at this
        omega
      rw [h0] at hq
      simp at hq
      subst hq
      show p.syn = true ↔ j = 0
      rw [hs]
      constructor
      · intro h; cases h
      · intro h; omega
  · intro q hq
    rw [List.getElem?_append_left (by omega)] at hq
    exact hH.one q hq
  · intro j q hq hqf
    rcases Nat.lt_or_ge j H.length with h | h
    · rw [List.getElem?_append_left h] at hq
      exact absurd ⟨q, List.mem_of_getElem? hq, hqf⟩ hf
    · rw [List.getElem?_append_right h] at hq
      have h0 : j - H.length = 0 := by
        have := (List.getElem?_eq_some_iff.1 hq).1
        simp at this
        omega
      rw [h0] at hq
      simp at hq
      subst hq
      exact ⟨by simp; omega, hfin hqf⟩
theorem Hist.first {iss : Int} (hi : 0 ≤ iss ∧ iss < 4294967296) : Hist iss [withSeq synP iss] := by
  have key : ∀ (j : Nat) (p : Pc), [withSeq synP iss][j]? = some p → j = 0 ∧ p = withSeq synP iss := by
    intro j p h
    rcases j with _ | j
    · simp at h; exact ⟨rfl, h.symm⟩
    · simp at h
  refine ⟨by simp, hi, by simp [total, long, withSeq, synP], ?_, ?_, ?_, ?_⟩
  · intro j p h
    obtain ⟨rfl, rfl⟩ := key j p h
    rw [pos_zero hi]
    exact ⟨rfl, by simp [long, withSeq, synP]⟩
  · intro j p h
    obtain ⟨rfl, rfl⟩ := key j p h
    simp [withSeq, synP]
  · intro p h
    obtain ⟨_, rfl⟩ := key 0 p h
    exact ⟨rfl, rfl⟩
  · intro j p h hf
    obtain ⟨rfl, rfl⟩ := key j p h
    simp [withSeq, synP] at hf
end Go.Proofs.Ytjldgialhgfhmaa
namespace Go.Proofs.Ytjldgialhgfhmaa
set_option linter.unusedVariables false
set_option linter.unusedSimpArgs false
set_option linter.unusedVariables false
set_option linter.unusedSimpArgs false
/-- A flow that has pushed H, of which a pieces are acknowledged; of the other one's J it took m. -/
structure Sd (S : Fl) (iss : Int) (H : List Pc) (a m : Nat) (isj : Int) (J : List Pc) (b : Bool) : Prop where
  b1 : S.st = 1 → b = true
  b2 : S.st = 2 → b = false
  ps : S.ps = H.drop a
  e : S.e = pos iss H H.length
  al : a ≤ H.length
  ml : m ≤ J.length
  rcv : 1 ≤ m → S.rcv = pos isj J m
  s1 : S.st = 1 → H.length = 1 ∧ a = 0 ∧ m = 0
  s2 : S.st = 2 → H.length = 1 ∧ a = 0 ∧ m = 1
  s3 : 3 ≤ S.st → S.st ≤ 10 → 1 ≤ a ∧ 1 ≤ m
  so : S.st = 3 ∨ S.st = 6 → ¬ finH H
  sf : S.st = 4 ∨ S.st = 7 ∨ S.st = 8 → finH H ∧ a < H.length
  sd : S.st = 5 ∨ S.st = 9 ∨ S.st = 10 → finH H ∧ a = H.length
  sr : S.st = 3 ∨ S.st = 4 ∨ S.st = 5 → ¬ finH (J.take m)
  sx : 6 ≤ S.st → S.st ≤ 10 → m = J.length ∧ finH J
  rng : 1 ≤ S.st ∧ S.st ≤ 11
/-- Its deadline. -/
structure Tm (S : Fl) (tick : Int) : Prop where
  lo : S.st ≤ 8 → (S.has = true ↔ S.ps ≠ [])
  w : S.st = 9 → S.has = true ∧ S.at_ ≤ tick + 8
  hi : 10 ≤ S.st → S.has = false
  at_ : S.has = true → S.at_ ≤ tick + 16
  tr : 0 ≤ S.tries ∧ (S.st ≤ 10 → S.tries ≤ 4)
  r : S.r.ok
  k : S.k ≤ 16
/-- A packet of a flow that has pushed H, and took m of J (b: it is the one that dialed). -/
structure Pk (s : Sm) (iss : Int) (H : List Pc) (isj : Int) (J : List Pc) (m : Nat) (b : Bool) : Prop where
  what : (∃ (j : Nat) (p : Pc), H[j]? = some p ∧ s.seq = p.seq ∧ s.syn = p.syn ∧ s.fin = p.fin ∧ s.xs = p.xs) ∨ (s.syn = false ∧ s.fin = false ∧ s.xs = [] ∧ ∃ j, 1 ≤ j ∧ j ≤ H.length ∧ s.seq = pos iss H j)
  ack : s.acks = true → ∃ j, 1 ≤ j ∧ j ≤ m ∧ s.ack = pos isj J j
  no : s.acks = !(s.syn && b)
def stOne (st : Int) (p : Pc) : Int := if p.syn = true ∧ st = 2 then 3 else if p.fin = true ∧ st = 4 then 5 else if p.fin = true ∧ st = 7 then 9 else if p.fin = true ∧ st = 8 then 10 else st
theorem wentOne_is (t : Int) (S : Fl) (p : Pc) : (wentOne t S p).ps = S.ps ∧ (wentOne t S p).e = S.e ∧ (wentOne t S p).rcv = S.rcv ∧ (wentOne t S p).out = S.out ∧ (wentOne t S p).st = stOne S.st p ∧ (wentOne t S p).tries = S.tries ∧ (wentOne t S p).r = S.r ∧ (wentOne t S p).k = S.k ∧
    (((wentOne t S p).st = 9 ∧ (wentOne t S p).has = true ∧ (wentOne t S p).at_ = t + 8) ∨ ((wentOne t S p).has = S.has ∧ (wentOne t S p).at_ = S.at_ ∧ ((wentOne t S p).st = 9 → S.st = 9))) := by
  unfold wentOne stOne
  split
  · exact ⟨rfl, rfl, rfl, rfl, rfl, rfl, rfl, rfl, .inr ⟨rfl, rfl, fun h => by simp at h⟩⟩
  · split
    · exact ⟨rfl, rfl, rfl, rfl, rfl, rfl, rfl, rfl, .inr ⟨rfl, rfl, fun h => by simp at h⟩⟩
    · split
      · exact ⟨rfl, rfl, rfl, rfl, rfl, rfl, rfl, rfl, .inl ⟨rfl, rfl, rfl⟩⟩
      · split
        · exact ⟨rfl, rfl, rfl, rfl, rfl, rfl, rfl, rfl, .inr ⟨rfl, rfl, fun h => by simp at h⟩⟩
        · exact ⟨rfl, rfl, rfl, rfl, rfl, rfl, rfl, rfl, .inr ⟨rfl, rfl, id⟩⟩
theorem stAll_nine : ∀ l : List Pc, l.foldl stOne 9 = 9
  | [] => rfl
  | q :: l => by
    simp only [List.foldl_cons]
    have : stOne 9 q = 9 := by unfold stOne; simp
    rw [this]
    exact stAll_nine l
theorem wentAll_is (t : Int) (l : List Pc) : ∀ S : Fl, (l.foldl (wentOne t) S).ps = S.ps ∧ (l.foldl (wentOne t) S).e = S.e ∧ (l.foldl (wentOne t) S).rcv = S.rcv ∧ (l.foldl (wentOne t) S).out = S.out ∧ (l.foldl (wentOne t) S).st = l.foldl stOne S.st ∧ (l.foldl (wentOne t) S).tries = S.tries ∧ (l.foldl (wentOne t) S).r = S.r ∧ (l.foldl (wentOne t) S).k = S.k ∧
    (((l.foldl (wentOne t) S).st = 9 ∧ (l.foldl (wentOne t) S).has = true ∧ (l.foldl (wentOne t) S).at_ = t + 8) ∨ ((l.foldl (wentOne t) S).has = S.has ∧ (l.foldl (wentOne t) S).at_ = S.at_ ∧ ((l.foldl (wentOne t) S).st = 9 → S.st = 9))) := by
  induction l with
  | nil => intro S; exact ⟨rfl, rfl, rfl, rfl, rfl, rfl, rfl, rfl, .inr ⟨rfl, rfl, id⟩⟩
  | cons p l ih =>
    intro S
    obtain ⟨a1, a2, a3, a4, a5, a6, a7, a8, a9⟩ := wentOne_is t S p
    obtain ⟨b1, b2, b3, b4, b5, b6, b7, b8, b9⟩ := ih (wentOne t S p)
    simp only [List.foldl_cons]
    refine ⟨b1.trans a1, b2.trans a2, b3.trans a3, b4.trans a4, by rw [b5, a5], b6.trans a6, b7.trans a7, b8.trans a8, ?_⟩
    rcases b9 with h | ⟨h1, h2, h3⟩
    · exact .inl h
    · rcases a9 with ⟨g1, g2, g3⟩ | ⟨g1, g2, g3⟩
      · by_cases h9 : (l.foldl (wentOne t) (wentOne t S p)).st = 9
        · exact .inl ⟨h9, h1.trans g2, h2.trans g3⟩
        · exfalso
          apply h9
          rw [b5, g1]
          exact stAll_nine l
      · exact .inr ⟨h1.trans g1, h2.trans g2, fun h => g3 (h3 h)⟩
theorem stOne_id {p : Pc} (h1 : p.syn = false) (h2 : p.fin = false) (st : Int) : stOne st p = st := by unfold stOne; simp [h1, h2]
theorem stAll_id : ∀ {l : List Pc} (h : ∀ p ∈ l, p.syn = false ∧ p.fin = false) (st : Int), l.foldl stOne st = st
  | [], _, st => rfl
  | p :: l, h, st => by
    simp only [List.foldl_cons]
    rw [stOne_id (h p (by simp)).1 (h p (by simp)).2]
    exact stAll_id (fun q hq => h q (by simp [hq])) st
/-- The state behind an acknowledgement of j pieces, all told. -/
def stAck (st : Int) (all : Prop) [Decidable all] : Int := if st = 2 then 3 else if all then (if st = 4 then 5 else if st = 7 then 9 else if st = 8 then 10 else st) else st
theorem seg_mem {H : List Pc} {a n : Nat} {p : Pc} (h : p ∈ (H.drop a).take n) : ∃ i, a ≤ i ∧ i < a + n ∧ H[i]? = some p := by
  obtain ⟨i, hi⟩ := List.mem_iff_getElem?.1 h
  have hlt : i < n := by
    have := (List.getElem?_eq_some_iff.1 hi).1
    simp at this
    omega
  rw [List.getElem?_take_of_lt hlt, List.getElem?_drop] at hi
  exact ⟨a + i, by omega, by omega, hi⟩
open Classical in
theorem stAll_seg {iss : Int} {H : List Pc} (hH : Hist iss H) {a j : Nat} (ha : a < j) (hj : j ≤ H.length) (st : Int) (h2 : st = 2 → H.length = 1 ∧ a = 0) (h2' : st ≠ 2 → 1 ≤ a ∨ ¬ finH H) :
    ((H.drop a).take (j - a)).foldl stOne st = stAck st (j = H.length ∧ finH H) := by
  by_cases hs : st = 2
  · obtain ⟨g1, rfl⟩ := h2 hs
    subst hs
    have : j = 1 := by omega
    subst this
    have h0 : H[0]? = some H[0] := List.getElem?_eq_getElem (by omega)
    have h1 := (hH.syn 0 _ h0).2 rfl
    rw [List.drop_zero, show (1 : Nat) - 0 = 1 from rfl]
    rw [List.take_add_one, h0]
    simp [stOne, stAck, h1]
  · by_cases hf : j = H.length ∧ finH H
    · obtain ⟨rfl, hf⟩ := hf
      have ha1 : 1 ≤ a := (h2' hs).elim id (fun h => absurd hf h)
      have hlt : H.length - 1 < H.length := by omega
      have hq : H[H.length - 1]? = some H[H.length - 1] := List.getElem?_eq_getElem hlt
      have hqf : H[H.length - 1].fin = true := by
        obtain ⟨p, h1, h2⟩ := hf
        obtain ⟨i, hi⟩ := List.mem_iff_getElem?.1 h1
        have := (hH.fin i p hi h2).1
        have e : H.length - 1 = i := by omega
        rw [← e] at hi
        rw [hq] at hi
        injection hi with hi
        rw [hi]; exact h2
      have hqs : H[H.length - 1].syn = false := by
        have := hH.syn _ _ hq
        cases h : H[H.length - 1].syn
        · rfl
        · have := this.1 h
          omega
      have e : (H.drop a).take (H.length - a) = (H.drop a).take (H.length - 1 - a) ++ [H[H.length - 1]] := by
        rw [show H.length - a = (H.length - 1 - a) + 1 by omega, List.take_add_one, List.getElem?_drop, show a + (H.length - 1 - a) = H.length - 1 by omega, hq]
        rfl
      rw [e, List.foldl_append, stAll_id (l := (H.drop a).take (H.length - 1 - a))]
      · simp [stOne, stAck, hqf, hqs, hs, hf]
      · intro p hp
        obtain ⟨i, h1, h2, h3⟩ := seg_mem hp
        constructor
        · have := hH.syn i p h3
          cases h : p.syn
          · rfl
          · have := this.1 h; omega
        · cases h : p.fin
          · rfl
          · have := (hH.fin i p h3 h).1; omega
    · unfold stAck
      rw [if_neg hs, if_neg hf]
      by_cases ha1 : 1 ≤ a
      · apply stAll_id
        intro p hp
        obtain ⟨i, h1, h2, h3⟩ := seg_mem hp
        constructor
        · have := hH.syn i p h3
          cases h : p.syn
          · rfl
          · have := this.1 h; omega
        · cases h : p.fin
          · rfl
          · exact absurd ⟨by have := (hH.fin i p h3 h).1; omega, p, List.mem_of_getElem? h3, h⟩ hf
      · have hnf := (h2' hs).resolve_left ha1
        have : ∀ l : List Pc, (∀ p ∈ l, p.fin = false) → l.foldl stOne st = st := by
          intro l
          induction l with
          | nil => intro _; rfl
          | cons q l ih =>
            intro h
            simp only [List.foldl_cons]
            have : stOne st q = st := by unfold stOne; simp [hs, h q (by simp)]
            rw [this]
            exact ih (fun p hp => h p (by simp [hp]))
        apply this
        intro p hp
        obtain ⟨i, h1, h2, h3⟩ := seg_mem hp
        cases h : p.fin
        · rfl
        · exact absurd ⟨p, List.mem_of_getElem? h3, h⟩ hnf
section
variable {S : Fl} {iss isj : Int} {H J : List Pc} {a m j : Nat} {tick : Int}
theorem ackd_is (hH : Hist iss H) (hp : S.ps = H.drop a) (he : S.e = pos iss H H.length) (ha : a ≤ j) (hj : j ≤ H.length) : S.ackable (pos iss H j) ∧ S.ackd (pos iss H j) = j - a := by
  unfold Fl.ackable Fl.ackd
  rw [hp, he, begin_pos hH (by omega), dist_pos hH ha, dist_pos hH (by omega : a ≤ H.length)]
  have h1 : offH H j ≤ offH H H.length := off_le hj
  refine ⟨by omega, ?_⟩
  have := ackK_off hH (j - a) a (by omega)
  rw [show a + (j - a) = j by omega] at this
  exact this
theorem ackd_no (hH : Hist iss H) (hp : S.ps = H.drop a) (he : S.e = pos iss H H.length) (hal : a ≤ H.length) (ha : j < a) : ¬ S.ackable (pos iss H j) := by
  unfold Fl.ackable
  rw [hp, he, begin_pos hH hal, dist_neg hH ha hal, dist_pos hH hal]
  have h1 := off_tot H H.length
  have h2 := off_tot H a
  have h3 := hH.small
  omega
theorem renew_is (S : Fl) (t : Int) (hr : S.r.ok) : (S.renew t).ps = S.ps ∧ (S.renew t).e = S.e ∧ (S.renew t).rcv = S.rcv ∧ (S.renew t).out = S.out ∧ (S.renew t).st = S.st ∧ (S.renew t).tries = 0 ∧ (S.renew t).r = S.r ∧ (S.renew t).k = 0 ∧ ((S.renew t).has = true ↔ S.ps ≠ []) ∧ ((S.renew t).has = true → t + 2 ≤ (S.renew t).at_ ∧ (S.renew t).at_ ≤ t + 16) := by
  unfold Fl.renew
  split
  · rename_i h
    exact ⟨rfl, rfl, rfl, rfl, rfl, rfl, rfl, rfl, by simp [h], fun h => by cases h⟩
  · rename_i h
    have := wait_bd S.r.base 0 (Est.base_bd S.r).1
    exact ⟨rfl, rfl, rfl, rfl, rfl, rfl, rfl, rfl, by simp [h, Fl.arm], fun _ => ⟨by simp [Fl.arm]; omega, by simp [Fl.arm]; omega⟩⟩
theorem sampled_is (S : Fl) (t : Int) (hr : S.r.ok) : (S.sampled t).ps = S.ps ∧ (S.sampled t).e = S.e ∧ (S.sampled t).rcv = S.rcv ∧ (S.sampled t).out = S.out ∧ (S.sampled t).st = S.st ∧ (S.sampled t).r.ok := by
  unfold Fl.sampled
  split
  · exact ⟨rfl, rfl, rfl, rfl, rfl, hr⟩
  · exact ⟨rfl, rfl, rfl, rfl, rfl, Est.ok_next hr _⟩
/-- Nothing more is acknowledged. -/
theorem acks_same (hH : Hist iss H) (hp : S.ps = H.drop a) (he : S.e = pos iss H H.length) (hal : a ≤ H.length) : S.acks (pos iss H a) tick = S := by
  have h := (ackd_is hH hp he (Nat.le_refl a) hal).2
  unfold Fl.acks
  rw [h, Nat.sub_self, List.take_zero, List.drop_zero]
  unfold Fl.went
  rw [if_pos rfl]
open Classical in
/-- Some pieces more are acknowledged. -/
theorem acks_is (hH : Hist iss H) (hp : S.ps = H.drop a) (he : S.e = pos iss H H.length) (ha : a < j) (hj : j ≤ H.length) (hr : S.r.ok) (h2 : S.st = 2 → H.length = 1 ∧ a = 0) (h2' : S.st ≠ 2 → 1 ≤ a ∨ ¬ finH H) :
    ∃ S' : Fl, S.acks (pos iss H j) tick = S' ∧ S'.ps = H.drop j ∧ S'.e = S.e ∧ S'.rcv = S.rcv ∧ S'.out = S.out ∧ S'.st = stAck S.st (j = H.length ∧ finH H) ∧ S'.tries = 0 ∧ S'.r.ok ∧ S'.k = 0 ∧
      ((S'.st = 9 ∧ S'.has = true ∧ S'.at_ = tick + 8) ∨ ((S'.has = true ↔ S'.ps ≠ []) ∧ (S'.has = true → tick + 2 ≤ S'.at_ ∧ S'.at_ ≤ tick + 16) ∧ (S'.st = 9 → S.st = 9))) := by
  have h := (ackd_is hH hp he (Nat.le_of_lt ha) hj).2
  have hd : S.ps.drop (j - a) = H.drop j := by rw [hp, List.drop_drop, show a + (j - a) = j by omega]
  unfold Fl.acks
  rw [h, hd, hp]
  unfold Fl.went
  have hne : ¬ (H.drop a).take (j - a) = [] := by
    intro e
    have := congrArg List.length e
    simp at this
    omega
  rw [if_neg hne]
  obtain ⟨a1, a2, a3, a4, a5, a6⟩ := sampled_is ({ S with ps := H.drop j } : Fl) tick hr
  obtain ⟨b1, b2, b3, b4, b5, b6, b7, b8, b9, b10⟩ := renew_is (({ S with ps := H.drop j } : Fl).sampled tick) tick a6
  obtain ⟨c1, c2, c3, c4, c5, c6, c7, c8, c9⟩ := wentAll_is tick ((H.drop a).take (j - a)) ((({ S with ps := H.drop j } : Fl).sampled tick).renew tick)
  refine ⟨_, rfl, c1.trans (b1.trans a1), c2.trans (b2.trans a2), c3.trans (b3.trans a3), c4.trans (b4.trans a4), ?_, c6.trans b6, ?_, c8.trans b8, ?_⟩
  · rw [c5, b5, a5]
    exact stAll_seg hH ha hj S.st h2 h2'
  · rw [c7, b7]; exact a6
  · rcases c9 with h | ⟨g1, g2, g3⟩
    · exact .inl h
    · refine .inr ⟨?_, ?_, fun h => ?_⟩
      · rw [g1, c1, b1]; exact b9
      · rw [g1, g2]; exact b10
      · have := g3 h
        rw [b5, a5] at this
        exact this
end
end Go.Proofs.Ytjldgialhgfhmaa
