/- Plain law of the estimate of layer 12: what the program's and the reference's steps compute. -/
namespace Go.Proofs.Ytjldgialhgfhmaa

set_option linter.unusedVariables false
/-- An estimate: has, smoothed time (eighths), variance (quarters). -/
structure Est where
  has : Bool
  s : Int
  v : Int

def clampT (t : Int) : Int := min (max t 0) 1000
def absI (e : Int) : Int := max e (-e)
def Est.next (r : Est) (t : Int) : Est :=
  if r.has then ⟨true, r.s + (clampT t - r.s / 8), r.v + (absI (clampT t - r.s / 8) - r.v / 4)⟩ else ⟨true, 8 * clampT t, 2 * clampT t⟩
def Est.ok (r : Est) : Prop := 0 ≤ r.s ∧ r.s ≤ 8000 ∧ 0 ≤ r.v ∧ r.v ≤ 4003 ∧ (r.has = false → r.s = 0 ∧ r.v = 0)
theorem clampT_bd (t : Int) : 0 ≤ clampT t ∧ clampT t ≤ 1000 := by unfold clampT; omega
theorem Est.ok_next {r : Est} (h : r.ok) (t : Int) : (r.next t).ok := by
  have hc := clampT_bd t
  obtain ⟨a, b, c, d, e⟩ := h
  unfold Est.next absI
  split
  · refine ⟨?_, ?_, ?_, ?_, by simp⟩ <;> simp only <;> omega
  · refine ⟨?_, ?_, ?_, ?_, by simp⟩ <;> simp only <;> omega

/-- The wait before it is doubled. -/
def Est.base (r : Est) : Int := if r.has then min (max (r.s / 8 + max r.v 1) 2) 16 else 4
theorem Est.base_bd (r : Est) : 2 ≤ r.base ∧ r.base ≤ 16 := by unfold Est.base; split <;> omega
def wait (b : Int) (k : Nat) : Int := min (b * 2 ^ k) 16
def Est.told (r : Est) : Int := if r.has then r.s else 32
theorem two_pow_pos (k : Nat) : (1 : Int) ≤ 2 ^ k := by
  induction k with
  | zero => simp
  | succ k ih => rw [Int.pow_succ]; omega
theorem wait_succ (b : Int) (k : Nat) (hb : 2 ≤ b) : wait b (k + 1) = min (2 * wait b k) 16 := by
  unfold wait
  have h := two_pow_pos k
  have e : b * 2 ^ (k + 1) = 2 * (b * 2 ^ k) := by rw [Int.pow_succ]; rw [← Int.mul_assoc, Int.mul_comm]
  rw [e]
  omega
theorem wait_bd (b : Int) (k : Nat) (hb : 2 ≤ b) : 2 ≤ wait b k ∧ wait b k ≤ 16 := by
  induction k with
  | zero => unfold wait; simp; omega
  | succ k ih => rw [wait_succ b k hb]; omega
theorem wait_zero (b : Int) (h : b ≤ 16) : wait b 0 = b := by unfold wait; simp; omega
theorem wait_mono (b : Int) (k : Nat) (hb : 2 ≤ b) : wait b k ≤ wait b (k + 1) := by have := wait_bd b k hb; rw [wait_succ b k hb]; omega
theorem wait_big (b : Int) (k j : Nat) (hb : 2 ≤ b) (h : wait b k = 16) : wait b (k + j) = 16 := by
  induction j with
  | zero => exact h
  | succ j ih => rw [← Nat.add_assoc, wait_succ b _ hb, ih]; rfl
theorem wait_3 (b : Int) (hb : 2 ≤ b) : wait b 3 = 16 := by unfold wait; omega
/-- Beyond sixteen doublings nothing turns. -/
theorem wait_cap (b : Int) (k : Nat) (hb : 2 ≤ b) : wait b (min k 16) = wait b k := by
  rcases Nat.le_total k 16 with h | h
  · rw [Nat.min_eq_left h]
  · rw [Nat.min_eq_right h]
    have e1 := wait_big b 3 13 hb (wait_3 b hb)
    have e2 := wait_big b 3 (k - 3) hb (wait_3 b hb)
    rw [show 3 + 13 = 16 from rfl] at e1
    rw [show 3 + (k - 3) = k by omega] at e2
    rw [e1, e2]
/-- The same samples, each no less: the smoothed time is no less. -/
theorem next_mono {x y : Est} (hx : x.ok) (hy : y.ok) (hh : x.has = y.has) (hs : x.s ≤ y.s) (t u : Int) (htu : t ≤ u) :
    (x.next t).has = (y.next u).has ∧ (x.next t).s ≤ (y.next u).s := by
  obtain ⟨_, _, _, _, _⟩ := hx
  obtain ⟨_, _, _, _, _⟩ := hy
  have : clampT t ≤ clampT u := by unfold clampT; omega
  unfold Est.next
  rw [hh]
  cases y.has <;> simp <;> omega
theorem next_same (r : Est) (t : Int) (h0 : 0 ≤ t) (h1 : t < 1000) (hs : r.has = true → r.s = 8 * t) : (r.next t).has = true ∧ (r.next t).s = 8 * t := by
  have : clampT t = t := by unfold clampT; omega
  unfold Est.next
  rw [this]
  cases hh : r.has
  · simp
  · have := hs hh
    simp; omega
end Go.Proofs.Ytjldgialhgfhmaa
