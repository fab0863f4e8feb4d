/- Runs of numbers: tidy lists of them, what they hold, what is added and dropped. -/
import Derived.Test.YtnigfdldfmiaiaaSeq
namespace Go.Proofs.Ytnigfdldfmiaiaa
open Go.RowKit
set_option linter.unusedVariables false
set_option linter.unusedSimpArgs false
/-- A run: where it begins, how long it is. -/
abbrev Rn := Int × Int
def rto (r : Rn) : Int := r.1 + r.2
def hasR (r : Rn) (n : Int) : Bool := decide (r.1 ≤ n) && decide (n < rto r)
def inB (l : List Rn) (n : Int) : Bool := l.any (fun r => hasR r n)
theorem hasR_iff {r : Rn} {n : Int} : hasR r n = true ↔ r.1 ≤ n ∧ n < rto r := by simp [hasR]
theorem inB_iff {l : List Rn} {n : Int} : inB l n = true ↔ ∃ r ∈ l, r.1 ≤ n ∧ n < rto r := by
  unfold inB
  rw [List.any_eq_true]
  constructor
  · rintro ⟨r, h1, h2⟩
    exact ⟨r, h1, hasR_iff.mp h2⟩
  · rintro ⟨r, h1, h2⟩
    exact ⟨r, h1, hasR_iff.mpr h2⟩
theorem inB_append (a b : List Rn) (n : Int) : inB (a ++ b) n = (inB a n || inB b n) := by simp [inB]
theorem inB_cons (a : Rn) (b : List Rn) (n : Int) : inB (a :: b) n = (hasR a n || inB b n) := by simp [inB]
theorem inB_nil (n : Int) : inB [] n = false := rfl
structure Tidy (l : List Rn) : Prop where
  rise : l.Pairwise (fun a b => rto a < b.1)
  ok : ∀ r ∈ l, 0 ≤ r.1 ∧ 1 ≤ r.2 ∧ rto r ≤ 4294967296
theorem Tidy.nil : Tidy [] := ⟨List.Pairwise.nil, fun r h => by cases h⟩
theorem Tidy.tail {a : Rn} {l : List Rn} (h : Tidy (a :: l)) : Tidy l := ⟨(List.pairwise_cons.mp h.rise).2, fun r hr => h.ok r (List.mem_cons_of_mem _ hr)⟩
theorem Tidy.head {a : Rn} {l : List Rn} (h : Tidy (a :: l)) : ∀ b ∈ l, rto a < b.1 := (List.pairwise_cons.mp h.rise).1
theorem Tidy.bd {l : List Rn} (h : Tidy l) {n : Int} (hn : inB l n = true) : 0 ≤ n ∧ n < 4294967296 := by
  obtain ⟨r, h1, h2, h3⟩ := inB_iff.mp hn
  have := h.ok r h1
  omega
/-- Of two tidy lists that hold the same numbers the one is the other. -/
theorem Tidy.uniq : ∀ {l m : List Rn}, Tidy l → Tidy m → (∀ n, inB l n = inB m n) → l = m
  | [], [], _, _, _ => rfl
  | [], b :: m, _, hm, h => by
    have h1 := hm.ok b (by simp)
    have h2 : inB (b :: m) b.1 = true := inB_iff.mpr ⟨b, by simp, by unfold rto; omega⟩
    rw [← h] at h2
    cases h2
  | a :: l, [], hl, _, h => by
    have h1 := hl.ok a (by simp)
    have h2 : inB (a :: l) a.1 = true := inB_iff.mpr ⟨a, by simp, by unfold rto; omega⟩
    rw [h] at h2
    cases h2
  | a :: l, b :: m, hl, hm, h => by
    have ha := hl.ok a (by simp)
    have hb := hm.ok b (by simp)
    have low : ∀ {x : Rn} {k : List Rn}, Tidy (x :: k) → ∀ n, inB (x :: k) n = true → x.1 ≤ n := by
      intro x k hk n hn
      obtain ⟨r, h1, h2, h3⟩ := inB_iff.mp hn
      rcases List.mem_cons.mp h1 with rfl | h1
      · exact h2
      · have g1 := hk.head r h1
        have g2 := hk.ok x (by simp)
        unfold rto at g1
        omega
    have far : ∀ {x : Rn} {k : List Rn}, Tidy (x :: k) → inB (x :: k) (rto x) = false := by
      intro x k hk
      cases e : inB (x :: k) (rto x) with
      | false => rfl
      | true =>
        obtain ⟨r, h1, h2, h3⟩ := inB_iff.mp e
        rcases List.mem_cons.mp h1 with rfl | h1
        · omega
        · have g1 := hk.head r h1
          omega
    have e1 : a.1 = b.1 := by
      have h1 : inB (a :: l) a.1 = true := inB_iff.mpr ⟨a, by simp, by unfold rto; omega⟩
      have h2 : inB (b :: m) b.1 = true := inB_iff.mpr ⟨b, by simp, by unfold rto; omega⟩
      have g1 := low hm _ ((h _).symm.trans h1)
      have g2 := low hl _ ((h _).trans h2)
      omega
    have e2 : rto a = rto b := by
      have fa := far hl
      have fb := far hm
      rcases Int.lt_trichotomy (rto a) (rto b) with h1 | h1 | h1
      · have : inB (b :: m) (rto a) = true := inB_iff.mpr ⟨b, by simp, by unfold rto at h1 ⊢; omega⟩
        rw [← h, fa] at this
        cases this
      · exact h1
      · have : inB (a :: l) (rto b) = true := inB_iff.mpr ⟨a, by simp, by unfold rto at h1 ⊢; omega⟩
        rw [h, fb] at this
        cases this
    have e3 : a = b := by
      unfold rto at e2
      exact Prod.ext e1 (by omega)
    subst e3
    have e4 : l = m := by
      refine Tidy.uniq hl.tail hm.tail (fun n => ?_)
      have hn := h n
      rw [inB_cons, inB_cons] at hn
      by_cases hx : hasR a n = true
      · have g1 : inB l n = false := by
          cases e : inB l n with
          | false => rfl
          | true =>
            obtain ⟨r, h1, h2, h3⟩ := inB_iff.mp e
            have := hl.head r h1
            have := hasR_iff.mp hx
            omega
        have g2 : inB m n = false := by
          cases e : inB m n with
          | false => rfl
          | true =>
            obtain ⟨r, h1, h2, h3⟩ := inB_iff.mp e
            have := hm.head r h1
            have := hasR_iff.mp hx
            omega
        rw [g1, g2]
      · have hx : hasR a n = false := by simpa using hx
        rw [hx] at hn
        simpa using hn
    rw [e4]
/-! How many. -/
def total (l : List Rn) : Int := (l.map (·.2)).sum
theorem total_cons (a : Rn) (l : List Rn) : total (a :: l) = a.2 + total l := by simp [total]
theorem countP_or {α : Type} (p q : α → Bool) : ∀ l : List α, (∀ x ∈ l, p x = true → q x = false) → l.countP (fun x => p x || q x) = l.countP p + l.countP q
  | [], _ => rfl
  | a :: l, h => by
    have ih := countP_or p q l (fun x hx => h x (List.mem_cons_of_mem _ hx))
    have h0 := h a (by simp)
    rw [List.countP_cons, List.countP_cons, List.countP_cons, ih]
    cases hp : p a <;> cases hq : q a <;> simp <;> first | omega | (rw [h0 hp] at hq; cases hq)
theorem count_between (a b : Int) (ha : 0 ≤ a) (hab : a ≤ b) : ∀ K : Nat, ((List.range K).countP (fun n : Nat => decide (a ≤ (n : Int)) && decide ((n : Int) < b)) : Int) = if (K : Int) ≤ a then 0 else if (K : Int) ≤ b then K - a else b - a
  | 0 => by simp; omega
  | K + 1 => by
    have ih := count_between a b ha hab K
    rw [List.range_succ, List.countP_append, List.countP_singleton]
    simp only [Bool.and_eq_true, decide_eq_true_eq]
    rw [Int.natCast_add, ih]
    split <;> split <;> split <;> (try split) <;> (try split) <;> simp <;> omega
theorem total_count {l : List Rn} (h : Tidy l) (K : Nat) (hK : ∀ r ∈ l, rto r ≤ K) : total l = ((List.range K).countP (fun n : Nat => inB l (n : Int)) : Int) := by
  induction l with
  | nil => simp [total, inB_nil]
  | cons a l ih =>
    have ha := h.ok a (by simp)
    have hk := hK a (by simp)
    have i := ih h.tail (fun r hr => hK r (List.mem_cons_of_mem _ hr))
    have e : (List.range K).countP (fun n : Nat => inB (a :: l) (n : Int)) = (List.range K).countP (fun n : Nat => hasR a (n : Int)) + (List.range K).countP (fun n : Nat => inB l (n : Int)) := by
      rw [← countP_or]
      · congr 1
      · intro x _ hx
        cases e : inB l (x : Int) with
        | false => rfl
        | true =>
          obtain ⟨r, h1, h2, h3⟩ := inB_iff.mp e
          have := h.head r h1
          have := hasR_iff.mp hx
          omega
    have c := count_between a.1 (rto a) ha.1 (by unfold rto; omega) K
    have c2 : ((List.range K).countP (fun n : Nat => hasR a (n : Int)) : Int) = a.2 := by
      have : ((List.range K).countP (fun n : Nat => hasR a (n : Int)) : Int) = ((List.range K).countP (fun n : Nat => decide (a.1 ≤ (n : Int)) && decide ((n : Int) < rto a)) : Int) := rfl
      rw [this, c]
      unfold rto at hk ⊢
      split
      · omega
      · split <;> omega
    rw [total_cons, e, Int.natCast_add, c2, i]
theorem total_mono {l m : List Rn} (hl : Tidy l) (hm : Tidy m) (h : ∀ n, inB l n = true → inB m n = true) : total l ≤ total m := by
  have hl2 : ∀ r ∈ l, rto r ≤ ((2 ^ 32 : Nat) : Int) := fun r hr => (hl.ok r hr).2.2
  have hm2 : ∀ r ∈ m, rto r ≤ ((2 ^ 32 : Nat) : Int) := fun r hr => (hm.ok r hr).2.2
  generalize (2 ^ 32 : Nat) = K at hl2 hm2
  rw [total_count hl K hl2, total_count hm K hm2]
  exact Int.ofNat_le.mpr (List.countP_mono_left (fun x _ hx => h _ hx))
theorem total_nonneg {l : List Rn} (h : Tidy l) : 0 ≤ total l := by
  have := total_mono Tidy.nil h (fun n hn => by cases hn)
  simpa [total] using this
theorem total_le {l : List Rn} (h : Tidy l) : total l ≤ 4294967296 := by
  have hl2 : ∀ r ∈ l, rto r ≤ ((2 ^ 32 : Nat) : Int) := fun r hr => (h.ok r hr).2.2
  have e : ((2 ^ 32 : Nat) : Int) = 4294967296 := rfl
  rw [← e]
  generalize (2 ^ 32 : Nat) = K at hl2
  rw [total_count h K hl2]
  refine Int.ofNat_le.mpr (Nat.le_trans List.countP_le_length ?_)
  simp
def lowF (f : Int) : List Rn → Int
  | [] => f
  | a :: _ => min f a.1
def highF (t : Int) (mid : List Rn) : Int := match mid.getLast? with
  | none => t
  | some a => max t (rto a)
/-! What is added: runs ahead, runs it touches, runs behind. -/
theorem add_law {l1 mid l2 : List Rn} (h : Tidy (l1 ++ mid ++ l2)) {f t : Int} (h0 : 0 ≤ f) (h1 : f < t) (h2 : t ≤ 4294967296)
    (ha : ∀ x ∈ l1, rto x < f) (hb : ∀ x ∈ mid, f ≤ rto x ∧ x.1 ≤ t) (hc : ∀ x ∈ l2, t < x.1) {mf mt : Int}
    (hmf : mf = lowF f mid) (hmt : mt = highF t mid) :
    Tidy (l1 ++ (mf, mt - mf) :: l2) ∧ ∀ n, inB (l1 ++ (mf, mt - mf) :: l2) n = (inB (l1 ++ mid ++ l2) n || hasR (f, t - f) n) := by
  have hp := h.rise
  rw [List.append_assoc, List.pairwise_append, List.pairwise_append] at hp
  obtain ⟨p1, ⟨p2, p3, p23⟩, p123⟩ := hp
  have ok1 : ∀ x ∈ l1, 0 ≤ x.1 ∧ 1 ≤ x.2 ∧ rto x ≤ 4294967296 := fun x hx => h.ok x (by simp [hx])
  have ok2 : ∀ x ∈ mid, 0 ≤ x.1 ∧ 1 ≤ x.2 ∧ rto x ≤ 4294967296 := fun x hx => h.ok x (by simp [hx])
  have ok3 : ∀ x ∈ l2, 0 ≤ x.1 ∧ 1 ≤ x.2 ∧ rto x ≤ 4294967296 := fun x hx => h.ok x (by simp [hx])
  have key : 0 ≤ mf ∧ mf < mt ∧ mt ≤ 4294967296 ∧ (∀ x ∈ l1, rto x < mf) ∧ (∀ x ∈ l2, mt < x.1) ∧ ∀ n, (mf ≤ n ∧ n < mt) ↔ (inB mid n = true ∨ (f ≤ n ∧ n < t)) := by
    cases mid with
    | nil =>
      subst hmf hmt
      exact ⟨h0, h1, h2, ha, hc, fun n => by simp [inB_nil]⟩
    | cons a m =>
      obtain ⟨z, hz⟩ : ∃ z, (a :: m).getLast? = some z := ⟨_, List.getLast?_eq_some_getLast (by simp)⟩
      unfold highF at hmt
      rw [hz] at hmt
      have hmf : mf = min f a.1 := hmf
      have hmt : mt = max t (rto z) := hmt
      have hzm : z ∈ a :: m := List.mem_of_getLast? hz
      have oa := ok2 a (by simp)
      have oz := ok2 z hzm
      have ba := hb a (by simp)
      have bz := hb z hzm
      have lowA : ∀ x ∈ a :: m, a.1 ≤ x.1 := by
        intro x hx
        rcases List.mem_cons.mp hx with rfl | hx
        · omega
        · have := (List.pairwise_cons.mp p2).1 x hx
          unfold rto at this
          omega
      have highZ : ∀ x ∈ a :: m, rto x ≤ rto z := by
        obtain ⟨ini, hini⟩ := List.getLast?_eq_some_iff.mp hz
        intro x hx
        rw [hini] at hx p2
        rcases List.mem_append.mp hx with hx | hx
        · have := (List.pairwise_append.mp p2).2.2 x hx z (by simp)
          unfold rto at this ⊢
          unfold rto at oz
          omega
        · obtain rfl : x = z := by simpa using hx
          omega
      refine ⟨by omega, by omega, by omega, fun x hx => ?_, fun x hx => ?_, fun n => ⟨fun hn => ?_, fun hn => ?_⟩⟩
      · have g1 := ha x hx
        have g2 := p123 x hx a (by simp)
        omega
      · have g1 := hc x hx
        have g2 := p23 z hzm x hx
        omega
      · by_cases c1 : n < f
        · exact Or.inl (inB_iff.mpr ⟨a, by simp, by omega, by omega⟩)
        · by_cases c2 : n < t
          · exact Or.inr ⟨by omega, c2⟩
          · exact Or.inl (inB_iff.mpr ⟨z, hzm, by omega, by omega⟩)
      · rcases hn with hn | hn
        · obtain ⟨r, g1, g2, g3⟩ := inB_iff.mp hn
          have := lowA r g1
          have := highZ r g1
          omega
        · omega
  obtain ⟨k0, k1, k2, k3, k4, k5⟩ := key
  have hr : rto (mf, mt - mf) = mt := by unfold rto; simp; omega
  constructor
  · constructor
    · rw [List.pairwise_append, List.pairwise_cons]
      refine ⟨p1, ⟨fun x hx => by rw [hr]; exact k4 x hx, p3⟩, fun x hx y hy => ?_⟩
      rcases List.mem_cons.mp hy with rfl | hy
      · exact k3 x hx
      · have g1 := k3 x hx
        have g2 := k4 y hy
        omega
    · intro r hrm
      rcases List.mem_append.mp hrm with hx | hx
      · exact ok1 r hx
      · rcases List.mem_cons.mp hx with rfl | hx
        · rw [hr]; simp; omega
        · exact ok3 r hx
  · intro n
    have e1 : hasR (mf, mt - mf) n = (inB mid n || hasR (f, t - f) n) := by
      rw [Bool.eq_iff_iff, hasR_iff, hr, Bool.or_eq_true, hasR_iff]
      have e2 : rto (f, t - f) = t := by unfold rto; simp; omega
      rw [e2]
      exact k5 n
    rw [inB_append, inB_cons, inB_append, inB_append, e1]
    cases inB l1 n <;> cases inB mid n <;> cases inB l2 n <;> cases hasR (f, t - f) n <;> rfl
/-- What is dropped. -/
def dropL (l : List Rn) (b : Int) : List Rn := match l.filter (fun r => !decide (rto r ≤ b)) with
  | [] => []
  | a :: m => if a.1 < b then (b, rto a - b) :: m else a :: m
theorem drop_law {l : List Rn} (h : Tidy l) (b : Int) : Tidy (dropL l b) ∧ ∀ n, inB (dropL l b) n = (inB l n && decide (b ≤ n)) := by
  have hp : (l.filter (fun r => !decide (rto r ≤ b))).Pairwise (fun a b => rto a < b.1) := h.rise.sublist List.filter_sublist
  have hok : ∀ r ∈ l.filter (fun r => !decide (rto r ≤ b)), (0 ≤ r.1 ∧ 1 ≤ r.2 ∧ rto r ≤ 4294967296) ∧ b < rto r := by
    intro r hr
    obtain ⟨h1, h2⟩ := List.mem_filter.mp hr
    exact ⟨h.ok r h1, by simp at h2; exact h2⟩
  have hin : ∀ n, b ≤ n → inB l n = inB (l.filter (fun r => !decide (rto r ≤ b))) n := by
    intro n hn
    rw [Bool.eq_iff_iff, inB_iff, inB_iff]
    constructor
    · rintro ⟨r, h1, h2, h3⟩
      exact ⟨r, List.mem_filter.mpr ⟨h1, by simp; omega⟩, h2, h3⟩
    · rintro ⟨r, h1, h2⟩
      exact ⟨r, (List.mem_filter.mp h1).1, h2⟩
  unfold dropL
  cases e : l.filter (fun r => !decide (rto r ≤ b)) with
  | nil =>
    rw [e] at hin
    refine ⟨Tidy.nil, fun n => ?_⟩
    by_cases hn : b ≤ n
    · simp [hin n hn, inB_nil]
    · simp [hn, inB_nil]
  | cons a m =>
    rw [e] at hp hok hin
    have oa := hok a (by simp)
    have hh := (List.pairwise_cons.mp hp).1
    by_cases hab : a.1 < b
    · simp only [hab, if_true]
      have hr : rto (b, rto a - b) = rto a := by unfold rto; simp; omega
      refine ⟨⟨List.pairwise_cons.mpr ⟨fun x hx => by rw [hr]; exact hh x hx, (List.pairwise_cons.mp hp).2⟩, fun r hrm => ?_⟩, fun n => ?_⟩
      · rcases List.mem_cons.mp hrm with rfl | hx
        · rw [hr]; simp; omega
        · exact (hok r (List.mem_cons_of_mem _ hx)).1
      · by_cases hn : b ≤ n
        · rw [hin n hn, inB_cons, inB_cons]
          have : hasR (b, rto a - b) n = hasR a n := by
            rw [Bool.eq_iff_iff, hasR_iff, hasR_iff, hr]
            simp
            omega
          simp [this, hn]
        · have g : inB ((b, rto a - b) :: m) n = false := by
            cases e2 : inB ((b, rto a - b) :: m) n with
            | false => rfl
            | true =>
              obtain ⟨r, h1, h2, h3⟩ := inB_iff.mp e2
              rcases List.mem_cons.mp h1 with rfl | h1
              · simp at h2; omega
              · have := hh r h1
                omega
          simp [g, hn]
    · simp only [hab, if_false]
      refine ⟨⟨hp, fun r hrm => (hok r hrm).1⟩, fun n => ?_⟩
      by_cases hn : b ≤ n
      · rw [hin n hn]; simp [hn]
      · have g : inB (a :: m) n = false := by
          cases e2 : inB (a :: m) n with
          | false => rfl
          | true =>
            obtain ⟨r, h1, h2, h3⟩ := inB_iff.mp e2
            rcases List.mem_cons.mp h1 with rfl | h1
            · omega
            · have := hh r h1
              omega
        simp [g, hn]
/-- By the numbers of the first one that it touches, and of the first one behind. -/
theorem add_idx {l : List Rn} (h : Tidy l) {r : Rn} (h0 : 0 ≤ r.1) (h1 : 1 ≤ r.2) (h2 : rto r ≤ 4294967296) {i j : Nat} (hi : i ≤ l.length) (hj : j ≤ l.length)
    (ha : ∀ k x, l[k]? = some x → k < i → rto x < r.1) (hb : ∀ k x, l[k]? = some x → i ≤ k → r.1 ≤ rto x) (hc : ∀ k x, l[k]? = some x → k < j → x.1 ≤ rto r) (hd : ∀ k x, l[k]? = some x → j ≤ k → rto r < x.1) :
    i ≤ j ∧ (i = j → Tidy (l.take i ++ r :: l.drop j) ∧ ∀ n, inB (l.take i ++ r :: l.drop j) n = (inB l n || hasR r n)) ∧
    (∀ x y mf mt, i < j → l[i]? = some x → l[j - 1]? = some y → mf = min r.1 x.1 → mt = max (rto r) (rto y) → Tidy (l.take i ++ (mf, mt - mf) :: l.drop j) ∧ ∀ n, inB (l.take i ++ (mf, mt - mf) :: l.drop j) n = (inB l n || hasR r n)) := by
  have hij : i ≤ j := by
    rcases Nat.lt_or_ge j i with hlt | hge
    · exfalso
      obtain ⟨x, hx⟩ : ∃ x, l[j]? = some x := ⟨_, List.getElem?_eq_getElem (by omega)⟩
      have g1 := ha j x hx hlt
      have g2 := hd j x hx (Nat.le_refl _)
      have g3 := h.ok x (List.mem_of_getElem? hx)
      unfold rto at g1 g2 g3
      omega
    · exact hge
  have hl : l = l.take i ++ (l.drop i).take (j - i) ++ l.drop j := by
    conv => lhs; rw [← List.take_append_drop i l, ← List.take_append_drop (j - i) (l.drop i), List.drop_drop]
    rw [show i + (j - i) = j by omega, List.append_assoc]
  have e0 : r = (r.1, rto r - r.1) := by unfold rto; exact Prod.ext rfl (by simp; omega)
  have ha' : ∀ x ∈ l.take i, rto x < r.1 := by
    intro x hx
    obtain ⟨k, hk⟩ := List.mem_iff_getElem?.mp hx
    rw [List.getElem?_take] at hk
    split at hk
    · rename_i hlt
      exact ha k x hk hlt
    · cases hk
  have hb' : ∀ x ∈ (l.drop i).take (j - i), r.1 ≤ rto x ∧ x.1 ≤ rto r := by
    intro x hx
    obtain ⟨k, hk⟩ := List.mem_iff_getElem?.mp hx
    rw [List.getElem?_take] at hk
    split at hk
    · rename_i hlt
      rw [List.getElem?_drop] at hk
      exact ⟨hb _ x hk (by omega), hc _ x hk (by omega)⟩
    · cases hk
  have hd' : ∀ x ∈ l.drop j, rto r < x.1 := by
    intro x hx
    obtain ⟨k, hk⟩ := List.mem_iff_getElem?.mp hx
    rw [List.getElem?_drop] at hk
    exact hd _ x hk (by omega)
  have hT : Tidy (l.take i ++ (l.drop i).take (j - i) ++ l.drop j) := by rw [← hl]; exact h
  have law := fun mf mt => add_law (mf := mf) (mt := mt) hT h0 (f := r.1) (t := rto r) (by unfold rto; omega) h2 ha' hb' hd'
  rw [← hl, ← e0] at law
  refine ⟨hij, fun e => ?_, fun x y mf mt hlt hx hy hmf hmt => ?_⟩
  · have hm : (l.drop i).take (j - i) = [] := by rw [e, Nat.sub_self, List.take_zero]
    have g := law r.1 (rto r) (by rw [hm]; rfl) (by rw [hm]; rfl)
    rw [← e0] at g
    exact g
  · refine law mf mt ?_ ?_
    · have hm : (l.drop i).take (j - i) = x :: ((l.drop i).take (j - i)).tail := by
        have h1 : ((l.drop i).take (j - i))[0]? = some x := by rw [List.getElem?_take, if_pos (by omega), List.getElem?_drop, Nat.add_zero]; exact hx
        cases e : (l.drop i).take (j - i) with
        | nil => rw [e] at h1; cases h1
        | cons a b => rw [e] at h1; simp at h1; subst h1; rfl
      rw [hm]
      exact hmf
    · have hm : ((l.drop i).take (j - i)).getLast? = some y := by
        rw [List.getLast?_eq_getElem?, List.length_take, List.length_drop, Nat.min_eq_left (by omega), List.getElem?_take, if_pos (by omega), List.getElem?_drop, show i + (j - i - 1) = j - 1 by omega]
        exact hy
      unfold highF
      rw [hm]
      exact hmt
theorem Tidy.length_le {l : List Rn} (h : Tidy l) : l.length ≤ 4294967296 := by
  have key : ∀ l : List Rn, (∀ r ∈ l, 1 ≤ r.2) → (l.length : Int) ≤ total l := by
    intro l
    induction l with
    | nil => intro _; simp [total]
    | cons a l ih =>
      intro hh
      have h1 := hh a (by simp)
      have h2 := ih (fun r hr => hh r (List.mem_cons_of_mem _ hr))
      rw [total_cons, List.length_cons]
      omega
  have h1 := key l (fun r hr => (h.ok r hr).2.1)
  have h2 := total_le h
  omega
/-- A run, as far as it may be; or none. -/
def heldR (f n : Int) : Rn := if f < 0 ∧ 0 < n then (if n + f ≤ 0 then (0, 0) else (0, min (n + f) 4294967296)) else if n ≤ 0 ∨ 4294967296 ≤ f then (0, 0) else (f, min n (4294967296 - f))
theorem heldR_ok (f n : Int) : heldR f n = (0, 0) ∨ (0 ≤ (heldR f n).1 ∧ 1 ≤ (heldR f n).2 ∧ rto (heldR f n) ≤ 4294967296) := by
  unfold heldR
  split
  · split
    · exact Or.inl rfl
    · right; unfold rto; simp; omega
  · split
    · exact Or.inl rfl
    · right; unfold rto; simp; omega
theorem rn_eta (r : Rn) : r = (r.1, r.2) := rfl
end Go.Proofs.Ytnigfdldfmiaiaa
