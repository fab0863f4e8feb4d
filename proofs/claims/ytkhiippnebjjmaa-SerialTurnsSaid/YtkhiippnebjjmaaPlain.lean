/- Plain facts on numbers that go round at 2^32. -/
namespace Go.Proofs.Ytkhiippnebjjmaa

def dist (a b : Int) : Int := (b - a) % 4294967296
theorem dist_bd (a b : Int) : 0 ≤ dist a b ∧ dist a b < 4294967296 := by unfold dist; omega
def bef (a b : Int) : Bool := decide (0 < dist a b) && decide (dist a b < 2147483648)
def on (a n : Int) : Int := (a + n % 4294967296) % 4294967296
theorem on_bd (a n : Int) : 0 ≤ on a n ∧ on a n < 4294967296 := by unfold on; omega
def later (a b : Int) : Int := if bef a b then b else a

theorem on_dist (a b : Int) (hb : 0 ≤ b ∧ b < 4294967296) : on a (dist a b) = b := by unfold on dist; omega
theorem on_neg (a b : Int) (ha : 0 ≤ a ∧ a < 4294967296) : on b (-(dist a b)) = a := by unfold on dist; omega
theorem bef_half (a b : Int) (h : dist a b = 2147483648) : bef a b = false ∧ bef b a = false := by
  unfold bef; unfold dist at *; constructor <;> simp <;> omega
theorem bef_self (a : Int) : bef a a = false := by unfold bef dist; simp
theorem bef_other (a b : Int) (ha : 0 ≤ a ∧ a < 4294967296) (hb : 0 ≤ b ∧ b < 4294967296) (h : a ≠ b) (h2 : dist a b ≠ 2147483648) : bef b a = !bef a b := by
  unfold bef; unfold dist at *
  rw [Bool.eq_iff_iff]; simp; omega
theorem dist_on (a b n : Int) : dist (on a n) (on b n) = dist a b := by unfold on dist; omega
theorem bef_on (a b n : Int) : bef (on a n) (on b n) = bef a b := by unfold bef; rw [dist_on]
theorem later_on (a b n : Int) : later (on a n) (on b n) = on (later a b) n := by
  unfold later; rw [bef_on]; cases bef a b <;> simp

/-- What the reference says of steps and of the number so many steps behind. -/
theorem dist_ref (a b : Int) (ha : 0 ≤ a ∧ a < 4294967296) (hb : 0 ≤ b ∧ b < 4294967296) : dist a b = if b - a < 0 then b - a + 4294967296 else b - a := by
  unfold dist; split <;> omega
theorem on_ref (a n : Int) (ha : 0 ≤ a ∧ a < 4294967296) : on a n = (a + (if n.tmod 4294967296 < 0 then n.tmod 4294967296 + 4294967296 else n.tmod 4294967296)).tmod 4294967296 := by
  unfold on
  have e : n.tmod 4294967296 = n - 4294967296 * (n.tdiv 4294967296) := by rw [Int.tmod_def]
  rcases Int.le_total 0 n with h | h
  · rw [Int.tmod_eq_emod_of_nonneg h]; rw [if_neg (by omega), Int.tmod_eq_emod_of_nonneg (by omega)]
  · have e2 : n.tmod 4294967296 = -((-n) % 4294967296) := by
      rw [← Int.tmod_eq_emod_of_nonneg (by omega), Int.neg_tmod, Int.neg_neg]
    rw [e2]; split
    · rw [Int.tmod_eq_emod_of_nonneg (by omega)]; omega
    · rw [Int.tmod_eq_emod_of_nonneg (by omega)]; omega
theorem tmod_bd (n : Int) : -4294967296 < n.tmod 4294967296 ∧ n.tmod 4294967296 < 4294967296 := by
  have e : n.tmod 4294967296 = n - 4294967296 * (n.tdiv 4294967296) := by rw [Int.tmod_def]
  rcases Int.le_total 0 n with h | h
  · rw [Int.tmod_eq_emod_of_nonneg h]; omega
  · have e2 : n.tmod 4294967296 = -((-n) % 4294967296) := by
      rw [← Int.tmod_eq_emod_of_nonneg (by omega), Int.neg_tmod, Int.neg_neg]
    rw [e2]; omega
end Go.Proofs.Ytkhiippnebjjmaa
