/- Plain law of sums of 16 bits (layer 2). -/
namespace Go.Proofs.YthnennleblgjeaaDoor
set_option linter.unusedVariables false

/-- What goes beyond 16 bits comes back. -/
def fold16 (n : Int) : Int := n % 65536 + n / 65536
/-- The program's adder: one byte more; odd: it is a lower one. -/
def addB (s : Int × Bool) (c : Int) : Int × Bool := (fold16 (s.1 + if s.2 then c else c * 256), !s.2)
def addL (s : Int × Bool) (l : List Int) : Int × Bool := l.foldl addB s
theorem addL_append (s : Int × Bool) (a b : List Int) : addL s (a ++ b) = addL (addL s a) b := by simp [addL]
theorem addL_snoc (s : Int × Bool) (a : List Int) (x : Int) : addL s (a ++ [x]) = addB (addL s a) x := by simp [addL]

/-- The great sum: numbers of 16 bits, a lower byte that lacks is 0; 'o': the first byte is a lower one. -/
def great (o : Bool) : List Int → Int
  | [] => 0
  | c :: l => (if o then c else c * 256) + great (!o) l
theorem great_append (o : Bool) (a b : List Int) : great o (a ++ b) = great o a + great (o ^^ (a.length % 2 == 1)) b := by
  induction a generalizing o with
  | nil => simp [great]
  | cons c a ih =>
    simp only [List.cons_append, great, ih, List.length_cons]
    have e : ((!o) ^^ (a.length % 2 == 1)) = (o ^^ ((a.length + 1) % 2 == 1)) := by
      rcases Nat.mod_two_eq_zero_or_one a.length with h | h
      · have : (a.length + 1) % 2 = 1 := by omega
        cases o <;> simp [h, this]
      · have : (a.length + 1) % 2 = 0 := by omega
        cases o <;> simp [h, this]
    rw [e]; omega
theorem great_nonneg (o : Bool) (l : List Int) (h : ∀ x ∈ l, 0 ≤ x ∧ x ≤ 255) : 0 ≤ great o l := by
  induction l generalizing o with
  | nil => simp [great]
  | cons c l ih =>
    have h1 := h c (by simp)
    have h2 := ih (!o) (fun x hx => h x (by simp [hx]))
    unfold great; split <;> omega
theorem great_le (o : Bool) (l : List Int) (h : ∀ x ∈ l, 0 ≤ x ∧ x ≤ 255) : great o l ≤ 65280 * l.length := by
  induction l generalizing o with
  | nil => simp [great]
  | cons c l ih =>
    have h1 := h c (by simp)
    have h2 := ih (!o) (fun x hx => h x (by simp [hx]))
    unfold great; simp only [List.length_cons]; split <;> omega

/-- Two sums are one: the same modulo 65535, and one is 0 just if the other one is. -/
def Alike (a b : Int) : Prop := a % 65535 = b % 65535 ∧ (a = 0 ↔ b = 0)
theorem fold16_mod (n : Int) : fold16 n % 65535 = n % 65535 := by unfold fold16; omega
theorem fold16_zero (n : Int) (h : 0 ≤ n) : fold16 n = 0 ↔ n = 0 := by unfold fold16; omega
theorem addL_great (l : List Int) (h : ∀ x ∈ l, 0 ≤ x ∧ x ≤ 255) (s : Int × Bool) (hs : 0 ≤ s.1 ∧ s.1 ≤ 65536) :
    0 ≤ (addL s l).1 ∧ (addL s l).1 ≤ 65536 ∧ Alike (addL s l).1 (s.1 + great s.2 l) ∧ (addL s l).2 = (s.2 ^^ (l.length % 2 == 1)) := by
  induction l generalizing s with
  | nil => simp [addL, great, Alike]; exact hs
  | cons c l ih =>
    have h1 := h c (by simp)
    have hl : ∀ x ∈ l, 0 ≤ x ∧ x ≤ 255 := fun x hx => h x (by simp [hx])
    obtain ⟨n, o⟩ := s
    have hg := great_nonneg (!o) l hl
    have hb : 0 ≤ (addB (n, o) c).1 ∧ (addB (n, o) c).1 ≤ 65536 := by
      unfold addB fold16; simp only at *; cases o <;> simp <;> omega
    obtain ⟨a1, a2, ⟨a3, a4⟩, a5⟩ := ih hl (addB (n, o) c) hb
    have e : addL (n, o) (c :: l) = addL (addB (n, o) c) l := rfl
    rw [e]
    have eb : (addB (n, o) c).2 = !o := rfl
    rw [eb] at a3 a4 a5
    refine ⟨a1, a2, ⟨?_, ?_⟩, ?_⟩
    · rw [a3]
      have hm := fold16_mod (n + if o then c else c * 256)
      have : (addB (n, o) c).1 = fold16 (n + if o then c else c * 256) := rfl
      simp only [this, great]
      simp only at *
      omega
    · rw [a4]
      have hz := fold16_zero (n + if o then c else c * 256) (by simp only at hs; split <;> omega)
      have : (addB (n, o) c).1 = fold16 (n + if o then c else c * 256) := rfl
      simp only [this, great]
      have h0 : 0 ≤ fold16 (n + if o then c else c * 256) := by rw [← this]; exact hb.1
      simp only at *
      split at hz <;> simp_all <;> omega
    · rw [a5, List.length_cons]
      rcases Nat.mod_two_eq_zero_or_one l.length with hh | hh
      · have : (l.length + 1) % 2 = 1 := by omega
        cases o <;> simp [hh, this]
      · have : (l.length + 1) % 2 = 0 := by omega
        cases o <;> simp [hh, this]

/-- The sum that is told, of a great sum. -/
def told (n : Int) : Int := 65535 - (if n = 0 then 0 else (n - 1) % 65535 + 1)
theorem told_alike {a b : Int} (h : Alike a b) (ha : 0 ≤ a) (hb : 0 ≤ b) : told a = told b := by
  obtain ⟨h1, h2⟩ := h
  unfold told
  by_cases h0 : a = 0
  · rw [if_pos h0, if_pos (h2.1 h0)]
  · have hb0 : b ≠ 0 := fun e => h0 (h2.2 e)
    rw [if_neg h0, if_neg hb0]; omega
theorem told_small (n : Int) (h : 0 ≤ n) (h2 : n ≤ 65535) : told n = 65535 - n := by unfold told; split <;> omega
theorem told_fold (n : Int) (h : 0 ≤ n) : told (fold16 n) = told n := told_alike ⟨fold16_mod n, fold16_zero n h⟩ (by unfold fold16; omega) h
theorem told_bd (n : Int) (h : 0 ≤ n) : 0 ≤ told n ∧ told n ≤ 65535 := by unfold told; split <;> omega
theorem told_zero (n : Int) (h : 0 ≤ n) : told n = 0 ↔ (n ≠ 0 ∧ n % 65535 = 0) := by unfold told; split <;> omega
/-- The sum of bytes. -/
def sumOf (l : List Int) : Int := told (great false l)
end Go.Proofs.YthnennleblgjeaaDoor
