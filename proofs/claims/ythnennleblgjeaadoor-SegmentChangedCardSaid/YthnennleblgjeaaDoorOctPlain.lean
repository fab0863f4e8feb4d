/- Plain law of numbers as bytes (layer 1): lists of whole numbers, no program in sight. -/
import Derived.Test.YthnennleblgjeaaDoorBytes
namespace Go.Proofs.YthnennleblgjeaaDoor

/-- A number's k lowest bytes, the highest one first. -/
def be : Nat → Int → List Int
  | 0, _ => []
  | k + 1, n => be k (n / 256) ++ [n % 256]
theorem be_length (k : Nat) (n : Int) : (be k n).length = k := by
  induction k generalizing n with
  | zero => rfl
  | succ k ih => simp [be, ih]
theorem be_cons (k : Nat) (n : Int) : be (k + 1) n = (n / 256 ^ k % 256) :: be k n := by
  induction k generalizing n with
  | zero => simp [be]
  | succ k ih =>
    rw [be, ih]
    have e : n / 256 / 256 ^ k = n / 256 ^ (k + 1) := by
      rw [Int.ediv_ediv_of_nonneg (by omega)]
      congr 1
      rw [Int.pow_succ, Int.mul_comm]
    rw [e]
    simp [be]
theorem be_get (k : Nat) (n : Int) (i : Nat) (hi : i < k) : (be k n).getD i 0 = n / 256 ^ (k - 1 - i) % 256 := by
  induction k generalizing i with
  | zero => omega
  | succ k ih =>
    rw [be_cons]
    cases i with
    | zero => simp
    | succ i =>
      have := ih i (by omega)
      rw [show k + 1 - 1 - (i + 1) = k - 1 - i by omega]
      simpa using this
theorem div_pow_succ (n : Int) (j : Nat) : n / 256 ^ (j + 1) = n / 256 ^ j / 256 := by
  rw [Int.pow_succ, Int.ediv_ediv_of_nonneg (Int.pow_nonneg (by omega))]
theorem div_pow_bd (n : Int) (j : Nat) (h0 : 0 ≤ n) : 0 ≤ n / 256 ^ j ∧ n / 256 ^ j ≤ n := by
  induction j with
  | zero => simp; exact h0
  | succ j ih => rw [div_pow_succ]; omega
theorem be_bytes (k : Nat) (n : Int) : Bytes (be k n) := by
  induction k generalizing n with
  | zero => intro x hx; cases hx
  | succ k ih =>
    intro x hx
    simp only [be, List.mem_append, List.mem_singleton] at hx
    rcases hx with hx | rfl
    · exact ih _ x hx
    · omega
/-- A number of some bytes. -/
def num (l : List Int) : Int := l.foldl (fun a x => 256 * a + x) 0
theorem num_snoc (l : List Int) (x : Int) : num (l ++ [x]) = 256 * num l + x := by simp [num]
theorem num_bd : ∀ (k : Nat) (l : List Int), l.length = k → Bytes l → 0 ≤ num l ∧ num l < 256 ^ k
  | 0, l, h, _ => by
    obtain rfl : l = [] := List.eq_nil_of_length_eq_zero h
    simp [num]
  | k + 1, l, h, hb => by
    have hne : l ≠ [] := by rintro rfl; simp at h
    obtain ⟨m, x, rfl⟩ : ∃ m x, l = m ++ [x] := ⟨l.dropLast, l.getLast hne, (List.dropLast_concat_getLast hne).symm⟩
    have ih := num_bd k m (by simpa using h) (fun y hy => hb y (by simp [hy]))
    have hx := hb x (by simp)
    rw [num_snoc, Int.pow_succ]
    constructor <;> omega
theorem num_lt (l : List Int) (h : l.length ≤ 8) (hb : Bytes l) : 0 ≤ num l ∧ num l < 18446744073709551616 := by
  have := num_bd l.length l rfl hb
  refine ⟨this.1, Int.lt_of_lt_of_le this.2 ?_⟩
  have h8 : (256 : Int) ^ l.length ≤ 256 ^ 8 := (show ∀ n : Nat, n ≤ 8 → (256 : Int) ^ n ≤ 256 ^ 8 by decide) _ h
  simpa using h8
/-- One byte more is put ahead of those that are there. -/
theorem put_step (xs : List Int) (m j : Nat) (n : Int) (hj : j < m) (q : Nat) (hq : q = xs.length + (m - 1 - j)) :
    (xs ++ List.replicate (m - j) 0 ++ be j n).set q (n / 256 ^ j % 256) = xs ++ List.replicate (m - (j + 1)) 0 ++ be (j + 1) n := by
  subst hq
  rw [be_cons, List.append_assoc, List.set_append_right _ _ (by omega), Nat.add_sub_cancel_left]
  have e : List.replicate (m - j) (0 : Int) = List.replicate (m - (j + 1)) 0 ++ [0] := by
    rw [show m - j = (m - (j + 1)) + 1 by omega, List.replicate_succ']
  rw [e]
  rw [List.append_assoc, List.append_assoc, List.set_append_right _ _ (by simp; omega)]
  simp [show m - 1 - j - (m - (j + 1)) = 0 by omega]
/-- How many bytes a number has. -/
def width (w : Int) : Nat := (max 1 (min w 8)).toNat
theorem width_bd (w : Int) : 1 ≤ width w ∧ width w ≤ 8 := by unfold width; omega
end Go.Proofs.YthnennleblgjeaaDoor
