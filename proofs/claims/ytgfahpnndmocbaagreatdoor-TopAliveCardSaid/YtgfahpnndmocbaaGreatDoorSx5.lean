/-
  The executor's operators are the model's.
-/
import Derived.Test.YtgfahpnndmocbaaGreatDoorSx4
namespace Go.Proofs.YtgfahpnndmocbaaGreatDoor.Sx
noncomputable section
open Go Go.RowKit
set_option linter.unusedVariables false
set_option linter.unusedSimpArgs false

/-! Numbers. -/
theorem kbits_eq (k : IntKind) : kbits k = k.bits := by cases k <;> rfl
theorem keq_eq {k k' : IntKind} (h : keq k k' = true) : k = k' := by cases k <;> cases k' <;> first | rfl | (simp [keq] at h)
theorem keq_self (k : IntKind) : keq k k = true := by cases k <;> rfl
theorem wrp_eq (k : IntKind) (z : Int) : wrp k z = k.wrap z := by
  unfold wrp
  split
  · rename_i n
    cases hb : Nat.ble n 127
    · rfl
    · have hn : n ≤ 127 := Nat.le_of_ble_eq_true hb
      simp only [cond_true]
      cases k <;> simp only [IntKind.wrap, IntKind.bits, IntKind.signed] <;> simp <;> omega
  · rfl
theorem nbeq (n m : Nat) : Nat.beq n m = decide (n = m) := by
  cases h : Nat.beq n m
  · have := Nat.ne_of_beq_eq_false h
    simp [this]
  · have := Nat.eq_of_beq_eq_true h
    simp [this]
theorem ieq_eq (a b : Int) : ieq a b = (a == b) := by
  have e : (a == b) = decide (a = b) := by
    by_cases h : a = b
    · subst h; simp
    · simp [h]
  rw [e]
  cases a with
  | ofNat n => cases b with
    | ofNat m => exact (nbeq n m).trans (by congr 1; simp only [eq_iff_iff]; exact ⟨fun h => by rw [h], fun h => Int.ofNat.inj h⟩)
    | negSucc m => exact (decide_eq_false (by intro e; cases e)).symm
  | negSucc n => cases b with
    | ofNat m => exact (decide_eq_false (by intro e; cases e)).symm
    | negSucc m => exact (nbeq n m).trans (by congr 1; simp only [eq_iff_iff]; exact ⟨fun h => by rw [h], fun h => Int.negSucc.inj h⟩)
theorem blt_eq (n m : Nat) : Nat.blt n m = decide (n < m) := by
  unfold Nat.blt
  cases h : Nat.ble (n + 1) m
  · have : ¬ n < m := fun hlt => by rw [Nat.ble_eq_true_of_le hlt] at h; cases h
    simp [this]
  · have := Nat.le_of_ble_eq_true h
    exact (decide_eq_true (by omega)).symm
theorem ilt_eq (a b : Int) : ilt a b = decide (a < b) := by
  cases a with
  | ofNat n => cases b with
    | ofNat m => show Nat.blt n m = _; rw [blt_eq]; congr 1; simp only [eq_iff_iff]; exact ⟨fun h => Int.ofNat_lt.2 h, fun h => Int.ofNat_lt.1 h⟩
    | negSucc m => show false = _; symm; simp; omega
  | negSucc n => cases b with
    | ofNat m => show true = _; symm; simp; omega
    | negSucc m => show Nat.blt m n = _; rw [blt_eq]; congr 1; simp only [eq_iff_iff]; omega
theorem ile_eq (a b : Int) : ile a b = decide (a ≤ b) := by
  unfold ile; rw [ilt_eq]
  by_cases h : b < a
  · rw [decide_eq_true h, decide_eq_false (by omega)]; rfl
  · rw [decide_eq_false h, decide_eq_true (by omega)]; rfl

section
variable {P : Program} {E : En} {β : Bm} {w : World}

/-- A run that gives a value which an executor's value means. -/
def Gives (P : Program) (E : En) (β : Bm) (w : World) (x : Sem Value) (r : SV) : Prop := ∃ v, x.run P w = .ok v w ∧ VR E β r v

theorem binI_gives {op : BinOp} {t : TypeId} {k : IntKind} {a b : Int} {r : SV} (hs : op ≠ .shl) (hs' : op ≠ .shr) (h : binI op k a b = some r) :
    Gives P E β w (Go.binOp op t (.int k a) (.int k b)) r := by
  cases op <;> simp only [binI, Option.some.injEq] at h <;> simp only [Go.binOp, ne_eq, not_true_eq_false, if_false]
  case add => subst h; exact ⟨_, rfl, by rw [wrp_eq]; exact .int _ _⟩
  case sub => subst h; exact ⟨_, rfl, by rw [wrp_eq]; exact .int _ _⟩
  case mul => subst h; exact ⟨_, rfl, by rw [wrp_eq]; exact .int _ _⟩
  case quo =>
    cases hb : ieq b 0
    · rw [hb] at h
      rw [ieq_eq] at hb
      have : ¬ b = 0 := by simpa using hb
      simp only [cond_false, Option.some.injEq] at h
      subst h
      exact ⟨_, by simp [Op.intDiv, this], .int _ _⟩
    · rw [hb] at h; cases h
  case rem =>
    cases hb : ieq b 0
    · rw [hb] at h
      rw [ieq_eq] at hb
      have : ¬ b = 0 := by simpa using hb
      simp only [cond_false, Option.some.injEq] at h
      subst h
      exact ⟨_, by simp [Op.intDiv, this], .int _ _⟩
    · rw [hb] at h; cases h
  case and => subst h; exact ⟨_, rfl, .int _ _⟩
  case or => subst h; exact ⟨_, rfl, .int _ _⟩
  case xor => subst h; exact ⟨_, rfl, .int _ _⟩
  case andNot => subst h; exact ⟨_, rfl, .int _ _⟩
  case eql => subst h; exact ⟨_, rfl, by rw [ieq_eq]; exact .bool _⟩
  case neq => subst h; exact ⟨_, rfl, by rw [ieq_eq]; exact .bool _⟩
  case lss => subst h; exact ⟨_, rfl, by rw [ilt_eq]; exact .bool _⟩
  case leq => subst h; exact ⟨_, rfl, by rw [ile_eq]; exact .bool _⟩
  case gtr => subst h; exact ⟨_, rfl, by rw [ilt_eq]; exact .bool _⟩
  case geq => subst h; exact ⟨_, rfl, by rw [ile_eq]; exact .bool _⟩
  all_goals contradiction

theorem shift_gives {op : BinOp} {t : TypeId} {k k' : IntKind} {a b : Int} {r : SV} (hs : op = .shl ∨ op = .shr) (h : binI op k a b = some r) :
    Gives P E β w (Go.binOp op t (.int k a) (.int k' b)) r := by
  rcases hs with rfl | rfl
  · simp only [binI] at h
    cases hb : ilt b 0
    · rw [hb] at h
      rw [ilt_eq] at hb
      have hb' : ¬ b < 0 := by simpa using hb
      simp only [cond_false, Option.some.injEq] at h
      subst h
      exact ⟨_, by simp [Go.binOp, Op.shift, hb'], .int _ _⟩
    · rw [hb] at h; cases h
  · simp only [binI] at h
    cases hb : ilt b 0
    · rw [hb] at h
      rw [ilt_eq] at hb
      have hb' : ¬ b < 0 := by simpa using hb
      simp only [cond_false, Option.some.injEq] at h
      subst h
      exact ⟨_, by simp [Go.binOp, Op.shift, hb'], .int _ _⟩
    · rw [hb] at h; cases h

theorem binII_gives {op : BinOp} {t : TypeId} {k k' : IntKind} {a b : Int} {r : SV} (h : binII op k k' a b = some r) :
    Gives P E β w (Go.binOp op t (.int k a) (.int k' b)) r := by
  by_cases h1 : op = .shl ∨ op = .shr
  · refine shift_gives h1 ?_
    rcases h1 with rfl | rfl <;> exact h
  · have h' : cond (keq k k') (binI op k a b) none = some r := by
      cases op <;> first | exact h | (simp at h1)
    cases hk : keq k k'
    · rw [hk] at h'; cases h'
    · rw [hk] at h'
      have := keq_eq hk
      subst this
      exact binI_gives (fun e => h1 (.inl e)) (fun e => h1 (.inr e)) h'

/-! Unknown numbers. -/
theorem den_lt (E : En) (hs : ∀ t, bits t ≤ 64 → True) : ∀ t, den E t < 2 ^ bits t := by
  intro t
  induction t using Tm.rec (motive_2 := fun _ => True) with
  | c n => simp only [den, bits]; exact Nat.mod_lt _ (by decide)
  | v i => simp only [den]; exact Nat.mod_lt _ (Nat.two_pow_pos _)
  | xr t n ih => simp only [den, bits]; exact Nat.mod_lt _ (by decide)
  | tok t ih => simp only [den, bits]; exact Nat.mod_lt _ (by decide)
  | sh t ih => simp only [den, bits]; exact Nat.mod_lt _ (by decide)
  | key t n ih => simp only [den, bits]; exact Nat.mod_lt _ (by decide)
  | pl t d ih => simp only [den, bits]; exact Nat.mod_lt _ (by decide)
  | hi t k ih =>
    simp only [den, bits]
    show den E t / 256 ^ k < 2 ^ (bits t - 8 * k)
    rw [Nat.div_lt_iff_lt_mul (Nat.pow_pos (by decide)), show (256 : Nat) = 2 ^ 8 from rfl, ← Nat.pow_mul, ← Nat.pow_add]
    exact Nat.lt_of_lt_of_le ih (Nat.pow_le_pow_right (by decide) (by omega))
  | bt t k ih => simp only [den, bits]; exact Nat.mod_lt _ (by decide)
  | s8 t k ih => simp only [den, bits]; exact Nat.mod_lt _ (by decide)
  | su l ih => simp only [den, bits]; exact Nat.mod_lt _ (by decide)
  | op o w t u _ _ => simp only [den]; exact Nat.mod_lt _ (Nat.two_pow_pos _)
  | nil => trivial
  | cons _ _ _ _ => trivial
theorem den_lt' (E : En) (t : Tm) : den E t < 2 ^ bits t := den_lt E (fun _ _ => trivial) t

theorem den_mkHi (E : En) (t : Tm) (k : Nat) : den E (mkHi t k) = den E t / 256 ^ k := by
  unfold mkHi
  cases hk : Nat.beq k 0
  · simp only [cond_false]
    cases t <;> simp only [den]
    rename_i u j
    rw [Nat.div_div_eq_div_mul, ← Nat.pow_add]
    rfl
  · have : k = 0 := Nat.eq_of_beq_eq_true hk
    subst this
    simp
theorem den_mkBt (E : En) (t : Tm) (k : Nat) : den E (mkBt t k) = den E t / 256 ^ k % 256 := by
  unfold mkBt
  cases hb : Nat.ble (bits t) (Nat.mul 8 (Nat.succ k))
  · simp only [cond_false, den]
  · simp only [cond_true, den_mkHi]
    have h1 : bits t ≤ 8 * (k + 1) := Nat.le_of_ble_eq_true hb
    have h2 := den_lt' E t
    have h3 : den E t < 256 ^ (k + 1) := by
      rw [show (256 : Nat) = 2 ^ 8 from rfl, ← Nat.pow_mul]
      exact Nat.lt_of_lt_of_le h2 (Nat.pow_le_pow_right (by decide) h1)
    rw [Nat.mod_eq_of_lt]
    rw [Nat.div_lt_iff_lt_mul (Nat.pow_pos (by decide))]
    rw [Nat.pow_succ] at h3; omega
theorem den_base (E : En) (t : Tm) : (∃ d, t = .pl (base t) d ∧ offs t = d) ∨ (base t = t ∧ offs t = 0) := by
  cases t <;> first | exact .inl ⟨_, rfl, rfl⟩ | exact .inr ⟨rfl, rfl⟩
theorem den_mkPl (E : En) (t : Tm) (d : Nat) (hb : bits t ≤ 32) : den E (mkPl t d) = (den E t + d) % 2 ^ 32 := by
  have h0 := den_lt' E t
  have h32 : den E t < 2 ^ 32 := Nat.lt_of_lt_of_le h0 (Nat.pow_le_pow_right (by decide) hb)
  have other : den E (cond (Nat.beq d 0) t (.pl t d)) = (den E t + d) % 2 ^ 32 := by
    cases hd : Nat.beq d 0
    · simp only [cond_false, den]
    · have : d = 0 := Nat.eq_of_beq_eq_true hd
      subst this
      simp only [cond_true, Nat.add_zero]
      rw [Nat.mod_eq_of_lt h32]
  cases t with
  | pl u e =>
    simp only [mkPl]
    cases hz : (Nat.beq (Nat.mod (Nat.add e d) 4294967296) 0 && Nat.ble (bits u) 32)
    · simp only [cond_false, den]
      show (den E u + (e + d) % 4294967296) % 2 ^ 32 = ((den E u + e) % 2 ^ 32 + d) % 2 ^ 32
      omega
    · simp only [Bool.and_eq_true] at hz
      have hz' : (e + d) % 4294967296 = 0 := Nat.eq_of_beq_eq_true hz.1
      have hu : den E u < 2 ^ 32 := Nat.lt_of_lt_of_le (den_lt' E u) (Nat.pow_le_pow_right (by decide) (Nat.le_of_ble_eq_true hz.2))
      simp only [cond_true, den]
      omega
  | _ => exact other

theorem wrap_u32 (z : Int) : IntKind.u32.wrap z = z % 2 ^ 32 := by simp [IntKind.wrap, IntKind.bits, IntKind.signed]
theorem wrap_u64 (z : Int) : IntKind.u64.wrap z = z % 2 ^ 64 := by simp [IntKind.wrap, IntKind.bits, IntKind.signed]
theorem wrap_u16 (z : Int) : IntKind.u16.wrap z = z % 2 ^ 16 := by simp [IntKind.wrap, IntKind.bits, IntKind.signed]
theorem wrap_u8 (z : Int) : IntKind.u8.wrap z = z % 2 ^ 8 := by simp [IntKind.wrap, IntKind.bits, IntKind.signed]
theorem den_lt_of (E : En) {t : Tm} {n : Nat} (h : bits t ≤ n) : den E t < 2 ^ n := Nat.lt_of_lt_of_le (den_lt' E t) (Nat.pow_le_pow_right (by decide) h)
theorem bits_le (t : Tm) : bits t ≤ 64 := by
  induction t using Tm.rec (motive_2 := fun _ => True) <;> simp only [bits] <;> (try decide)
  case v i => cases Nat.beq i 2 <;> decide
  case hi t k ih => exact Nat.le_trans (Nat.sub_le _ _) ih
  case op o w t u _ _ => cases w <;> decide
theorem bits_mkPl (t : Tm) (d : Nat) (h : bits t ≤ 32) : bits (mkPl t d) ≤ 32 := by
  have other : bits (cond (Nat.beq d 0) t (.pl t d)) ≤ 32 := by cases Nat.beq d 0 <;> simp [bits]; exact h
  cases t with
  | pl u e =>
    simp only [mkPl]
    cases hz : (Nat.beq (Nat.mod (Nat.add e d) 4294967296) 0 && Nat.ble (bits u) 32)
    · simp [bits]
    · simp only [Bool.and_eq_true] at hz
      exact Nat.le_of_ble_eq_true hz.2
  | _ => exact other
theorem bits_mkHi (t : Tm) (k : Nat) : bits (mkHi t k) ≤ bits t := by
  unfold mkHi
  cases hk : Nat.beq k 0
  · cases t <;> simp only [cond_false, bits] <;> first | exact Nat.sub_le _ _ | skip
    rename_i u j
    show bits u - 8 * (j + k) ≤ bits u - 8 * j
    omega
  · exact Nat.le_refl _
theorem bits_mkBt (t : Tm) (k : Nat) : bits (mkBt t k) ≤ 8 := by
  unfold mkBt
  cases hb : Nat.ble (bits t) (Nat.mul 8 (Nat.succ k))
  · simp [bits]
  · have h1 : bits t ≤ 8 * (k + 1) := Nat.le_of_ble_eq_true hb
    simp only [cond_true]
    unfold mkHi
    cases hk : Nat.beq k 0
    · cases t <;> simp only [cond_false, bits] at h1 ⊢
      case hi u j => show bits u - 8 * (j + k) ≤ 8; have : bits u - 8 * j ≤ 8 * (k + 1) := h1; omega
      all_goals (first
        | (show _ - 8 * k ≤ 8; omega)
        | skip)
      all_goals (have := h1; show _ - 8 * k ≤ 8; omega)
    · have : k = 0 := Nat.eq_of_beq_eq_true hk
      subst this
      simpa using h1

theorem isNat_some {z : Int} {n : Nat} (h : isNat z = some n) : z = n := by
  cases z with
  | ofNat m => simp [isNat] at h; subst h; rfl
  | negSucc m => simp [isNat] at h

theorem ofNat_u32 (n : Nat) (h : n < 2 ^ 32) : ((n : Int) % 2 ^ 32) = n := by omega

theorem ofInt_toNat (n b : Nat) : (BitVec.ofInt b (n : Int)).toNat = n % 2 ^ b := by
  simp

theorem mul_pow_or (x n s : Nat) (h : n < 2 ^ s) : x * 2 ^ s ||| n = x * 2 ^ s + n := by
  rw [Nat.mul_comm]
  exact (Nat.two_pow_add_eq_or_of_lt h x).symm

theorem binL_gives {op : BinOp} {ty : TypeId} {k k' : IntKind} {t : Tm} {b : Nat} {r : SV} (hb : bits t ≤ kbits k) (hk : op = .shl ∨ op = .shr ∨ k = k') (h : binL op k t b = some r) :
    Gives P E β w (Go.binOp op ty (.int k (den E t : Nat)) (.int k' b)) r := by
  have hd := den_lt_of E hb
  unfold binL at h
  split at h
  · -- add, u32
    obtain rfl : IntKind.u32 = k' := by simpa using hk
    cases hlt : Nat.blt b 4294967296
    · rw [hlt] at h; cases h
    · rw [hlt] at h
      simp only [cond_true, Option.some.injEq] at h
      subst h
      refine ⟨_, by simp [Go.binOp, Op.intArith]; rfl, ?_⟩
      have := den_mkPl E t b hb
      rw [show IntKind.u32.wrap ((den E t : Int) + b) = ((den E (mkPl t b) : Nat) : Int) from by rw [this, wrap_u32]; omega]
      exact .sym _ _ (bits_mkPl t b hb)
  · -- sub, u32
    obtain rfl : IntKind.u32 = k' := by simpa using hk
    cases hlt : Nat.blt b 4294967296
    · rw [hlt] at h; cases h
    · rw [hlt] at h
      rw [blt_eq] at hlt
      have hlt' : b < 4294967296 := by simpa using hlt
      simp only [cond_true, Option.some.injEq] at h
      subst h
      refine ⟨_, by simp [Go.binOp, Op.intArith]; rfl, ?_⟩
      have := den_mkPl E t (Nat.mod (Nat.sub 4294967296 b) 4294967296) hb
      rw [show IntKind.u32.wrap ((den E t : Int) - b) = ((den E (mkPl t (Nat.mod (Nat.sub 4294967296 b) 4294967296)) : Nat) : Int) from by
        rw [this, wrap_u32]
        show _ = (((den E t + (4294967296 - b) % 4294967296) % 2 ^ 32 : Nat) : Int)
        omega]
      exact .sym _ _ (bits_mkPl t _ hb)
  · -- xor, u64
    obtain rfl : IntKind.u64 = k' := by simpa using hk
    cases hlt : Nat.blt b 18446744073709551616
    · rw [hlt] at h; cases h
    · rw [hlt] at h
      rw [blt_eq] at hlt
      have hlt' : b < 2 ^ 64 := by simpa using hlt
      simp only [cond_true, Option.some.injEq] at h
      subst h
      refine ⟨_, by simp only [Go.binOp, Op.intBits, ne_eq, not_true_eq_false, if_false]; rfl, ?_⟩
      rw [show IntKind.u64.wrap (((BitVec.ofInt IntKind.u64.bits (den E t : Int)) ^^^ (BitVec.ofInt IntKind.u64.bits (b : Int))).toNat : Int) = ((den E (.xr t b) : Nat) : Int) from by
        rw [wrap_u64, BitVec.toNat_xor, ofInt_toNat, ofInt_toNat]
        simp only [den]
        show (((den E t % 2 ^ 64 ^^^ b % 2 ^ 64 : Nat) : Int)) % 2 ^ 64 = _
        rw [Nat.mod_eq_of_lt (show den E t < 2 ^ 64 from hd), Nat.mod_eq_of_lt hlt']
        omega]
      exact .sym _ _ (Nat.le_refl _)
  · -- or, u64
    obtain rfl : IntKind.u64 = k' := by simpa using hk
    split at h
    · rename_i u
      cases hlt : Nat.blt b 4294967296
      · rw [hlt] at h; cases h
      · rw [hlt] at h
        rw [blt_eq] at hlt
        have hlt' : b < 2 ^ 32 := by simpa using hlt
        simp only [cond_true, Option.some.injEq] at h
        subst h
        refine ⟨_, by simp only [Go.binOp, Op.intBits, ne_eq, not_true_eq_false, if_false]; rfl, ?_⟩
        rw [show IntKind.u64.wrap (((BitVec.ofInt IntKind.u64.bits (den E (.sh u) : Int)) ||| (BitVec.ofInt IntKind.u64.bits (b : Int))).toNat : Int) = ((den E (.key u b) : Nat) : Int) from by
          rw [wrap_u64, BitVec.toNat_or, ofInt_toNat, ofInt_toNat]
          simp only [den]
          show (((den E u * 2 ^ 32 % 2 ^ 64 % 2 ^ 64 ||| b % 2 ^ 64 : Nat) : Int)) % 2 ^ 64 = _
          have e1 : den E u * 2 ^ 32 % 2 ^ 64 % 2 ^ 64 = (den E u % 2 ^ 32) * 2 ^ 32 := by omega
          rw [e1, Nat.mod_eq_of_lt (show b < 2 ^ 64 by omega), mul_pow_or _ _ _ hlt']
          omega]
        exact .sym _ _ (Nat.le_refl _)
    · cases h
  · -- shl, u64
    cases h32 : Nat.beq b 32
    · rw [h32] at h
      simp only [cond_false] at h
      cases h8 : Nat.beq b 8
      · rw [h8] at h; cases h
      · rw [h8] at h
        simp only [cond_true] at h
        have hb8 : b = 8 := Nat.eq_of_beq_eq_true h8
        subst hb8
        split at h
        · rename_i u j
          simp only [Option.some.injEq] at h
          subst h
          refine ⟨_, by simp [Go.binOp, Op.shift]; rfl, ?_⟩
          rw [show IntKind.u64.wrap ((den E (.hi u j) : Int) * 256) = ((den E (.s8 u j) : Nat) : Int) from by
            rw [wrap_u64]; simp only [den]
            show ((den E u / 256 ^ j : Nat) : Int) * 256 % 2 ^ 64 = ((den E u / 256 ^ j * 256 % 2 ^ 64 : Nat) : Int)
            omega]
          exact .sym _ _ (Nat.le_refl _)
        · cases h
    · rw [h32] at h
      simp only [cond_true] at h
      have hb32 : b = 32 := Nat.eq_of_beq_eq_true h32
      subst hb32
      cases hle : Nat.ble (bits t) 32
      · rw [hle] at h; cases h
      · rw [hle] at h
        simp only [cond_true, Option.some.injEq] at h
        subst h
        refine ⟨_, by simp [Go.binOp, Op.shift]; rfl, ?_⟩
        rw [show IntKind.u64.wrap ((den E t : Int) * 4294967296) = ((den E (.sh t) : Nat) : Int) from by
          rw [wrap_u64]; simp only [den]
          show (den E t : Int) * 4294967296 % 2 ^ 64 = ((den E t * 2 ^ 32 % 2 ^ 64 : Nat) : Int)
          omega]
        exact .sym _ _ (Nat.le_refl _)
  · -- shr, u64
    cases h8 : Nat.beq (Nat.mod b 8) 0
    · rw [h8] at h; cases h
    · rw [h8] at h
      have hm : b % 8 = 0 := Nat.eq_of_beq_eq_true h8
      simp only [cond_true, Option.some.injEq] at h
      subst h
      refine ⟨_, by simp [Go.binOp, Op.shift]; rfl, ?_⟩
      have e0 : den E (mkHi t (Nat.div b 8)) = den E t / 2 ^ b := by
        rw [den_mkHi, show (256 : Nat) = 2 ^ 8 from rfl, ← Nat.pow_mul]
        congr 2
        show 8 * (b / 8) = b
        omega
      have e1 : den E t / 2 ^ b = den E t / 2 ^ (min b 64) := by
        rcases Nat.le_total b 64 with hle | hge
        · rw [Nat.min_eq_left hle]
        · rw [Nat.min_eq_right hge, Nat.div_eq_of_lt (show den E t < 2 ^ 64 from hd), Nat.div_eq_of_lt (Nat.lt_of_lt_of_le (show den E t < 2 ^ 64 from hd) (Nat.pow_le_pow_right (by decide) hge))]
      rw [show ((den E t : Int).fdiv (2 ^ (min b IntKind.u64.bits))) = ((den E (mkHi t (Nat.div b 8)) : Nat) : Int) from by
        rw [e0, e1]
        simp only [IntKind.bits]
        rw [show ((2 : Int) ^ (min b 64)) = ((2 ^ (min b 64) : Nat) : Int) from by simp]
        exact (Int.ofNat_fdiv _ _).symm]
      exact .sym _ _ (Nat.le_trans (bits_mkHi _ _) hb)
  · cases h

theorem binR_gives {op : BinOp} {ty : TypeId} {k k' : IntKind} {t : Tm} {a : Nat} {r : SV} (hb : bits t ≤ kbits k) (hk : k = k') (h : binR op k a t = some r) :
    Gives P E β w (Go.binOp op ty (.int k (a : Nat)) (.int k' (den E t : Nat))) r := by
  subst hk
  have hd := den_lt_of E hb
  unfold binR at h
  split at h
  · cases hlt : Nat.blt a 4294967296
    · rw [hlt] at h; cases h
    · rw [hlt] at h
      simp only [cond_true, Option.some.injEq] at h
      subst h
      refine ⟨_, by simp [Go.binOp, Op.intArith]; rfl, ?_⟩
      have := den_mkPl E t a hb
      rw [show IntKind.u32.wrap ((a : Int) + den E t) = ((den E (mkPl t a) : Nat) : Int) from by rw [this, wrap_u32]; omega]
      exact .sym _ _ (bits_mkPl t a hb)
  · cases hlt : Nat.blt a 18446744073709551616
    · rw [hlt] at h; cases h
    · rw [hlt] at h
      rw [blt_eq] at hlt
      have hlt' : a < 2 ^ 64 := by simpa using hlt
      simp only [cond_true, Option.some.injEq] at h
      subst h
      refine ⟨_, by simp only [Go.binOp, Op.intBits, ne_eq, not_true_eq_false, if_false]; rfl, ?_⟩
      rw [show IntKind.u64.wrap (((BitVec.ofInt IntKind.u64.bits (a : Int)) ^^^ (BitVec.ofInt IntKind.u64.bits (den E t : Int))).toNat : Int) = ((den E (.xr t a) : Nat) : Int) from by
        rw [wrap_u64, BitVec.toNat_xor, ofInt_toNat, ofInt_toNat]
        simp only [den]
        show (((a % 2 ^ 64 ^^^ den E t % 2 ^ 64 : Nat) : Int)) % 2 ^ 64 = _
        rw [Nat.mod_eq_of_lt (show den E t < 2 ^ 64 from hd), Nat.mod_eq_of_lt hlt', Nat.xor_comm]
        omega]
      exact .sym _ _ (Nat.le_refl _)
  · cases h0 : Nat.beq a 0
    · rw [h0] at h; cases h
    · rw [h0] at h
      have ha : a = 0 := Nat.eq_of_beq_eq_true h0
      subst ha
      simp only [cond_true, Option.some.injEq] at h
      subst h
      refine ⟨_, by simp only [Go.binOp, Op.intBits, ne_eq, not_true_eq_false, if_false]; rfl, ?_⟩
      rw [show IntKind.u64.wrap (((BitVec.ofInt IntKind.u64.bits ((0 : Nat) : Int)) ||| (BitVec.ofInt IntKind.u64.bits (den E t : Int))).toNat : Int) = ((den E t : Nat) : Int) from by
        rw [wrap_u64, BitVec.toNat_or, ofInt_toNat, ofInt_toNat]
        show (((0 % 2 ^ 64 ||| den E t % 2 ^ 64 : Nat) : Int)) % 2 ^ 64 = _
        rw [Nat.mod_eq_of_lt (show den E t < 2 ^ 64 from hd), Nat.zero_mod, Nat.zero_or]
        have hd64 : den E t < 2 ^ 64 := hd
        omega]
      exact .sym _ _ hb
  · cases h

mutual
theorem Tm.beq_eq : ∀ (t u : Tm), Tm.beq t u = true → t = u := by
  intro t u h
  cases t <;> cases u <;> simp only [Tm.beq, Bool.and_eq_true] at h <;> first
    | (cases h; done)
    | (rw [Nat.eq_of_beq_eq_true h]; done)
    | (rw [Nat.eq_of_beq_eq_true h.1, Tm.beq_eq _ _ h.2]; done)
    | (rw [Tm.beq_eq _ _ h]; done)
    | (rw [Tm.beqs_eq _ _ h]; done)
    | (rename_i o w t u o' w' t' u'
       obtain ⟨⟨⟨h1, h2⟩, h3⟩, h4⟩ := h
       have e1 := Nat.eq_of_beq_eq_true h1
       have e2 : w = w' := by cases w <;> cases w' <;> first | rfl | cases h2
       have e3 : t = t' := Tm.beq_eq _ _ (by simpa [Tm.pq] using h3)
       have e4 : u = u' := Tm.beq_eq _ _ (by simpa [Tm.pq] using h4)
       rw [e1, e2, e3, e4])
theorem Tm.beqs_eq : ∀ (l m : List Tm), Tm.beqs l m = true → l = m := by
  intro l m h
  cases l <;> cases m <;> simp only [Tm.beqs, Bool.and_eq_true] at h <;> first
    | rfl
    | (cases h; done)
    | (rw [Tm.beq_eq _ _ h.1, Tm.beqs_eq _ _ h.2]; done)
end

/-- both are the same one, so and so much further -/
theorem den_off (E : En) (t : Tm) : (den E t : Int) % 2 ^ 32 = ((den E (base t) : Int) + offs t) % 2 ^ 32 := by
  cases t <;> simp only [base, offs] <;> first
    | (simp only [den]; omega)
    | simp
theorem apart_ne (E : En) {t u : Tm} (h : apart t u = true) : den E t ≠ den E u := by
  have key : ∀ i t, (Nat.beq i 2 && Tm.beq t ownT) = true → den E (.v i) ≠ den E (.tok t) := by
    intro i t h
    simp only [Bool.and_eq_true] at h
    have e1 := Nat.eq_of_beq_eq_true h.1
    have e2 := Tm.beq_eq _ _ h.2
    subst e1; subst e2
    exact E.ne
  unfold apart at h
  split at h
  · exact key _ _ h
  · exact (key _ _ h).symm
  · cases h
theorem unlike_ne (E : En) {t u : Tm} (h : unlike t u = true) : den E t ≠ den E u := by
  unfold unlike at h
  rw [Bool.or_eq_true] at h
  rcases h with h | h
  rotate_left
  · exact apart_ne E h
  simp only [Bool.and_eq_true, Bool.not_eq_true'] at h
  have e := Tm.beq_eq _ _ h.1
  have hne : ¬ offs t % 4294967296 = offs u % 4294967296 := Nat.ne_of_beq_eq_false h.2
  have h1 := den_off E t
  have h2 := den_off E u
  rw [e] at h1
  intro he
  rw [he, h2] at h1
  omega

theorem binT_gives {op : BinOp} {ty : TypeId} {k k' : IntKind} {t u : Tm} {r : SV} (hb : bits t ≤ kbits k) (hu : bits u ≤ kbits k) (hk : k = k') (h : binT op k t u = some r) :
    Gives P E β w (Go.binOp op ty (.int k (den E t : Nat)) (.int k' (den E u : Nat))) r := by
  subst hk
  have hd := den_lt_of E hb
  have hd' := den_lt_of E hu
  unfold binT at h
  split at h
  · cases hq : (Tm.beq (base t) (base u) && Nat.ble (offs u) 4294967296)
    · rw [hq] at h; cases h
    · rw [hq] at h
      simp only [Bool.and_eq_true] at hq
      have e := Tm.beq_eq _ _ hq.1
      have hle : offs u ≤ 4294967296 := Nat.le_of_ble_eq_true hq.2
      simp only [cond_true, Option.some.injEq] at h
      subst h
      refine ⟨_, by simp [Go.binOp, Op.intArith]; rfl, ?_⟩
      have h1 := den_off E t
      have h2 := den_off E u
      rw [e] at h1
      rw [show IntKind.u32.wrap ((den E t : Int) - den E u) = Int.ofNat (Nat.mod (Nat.sub (Nat.add (offs t) 4294967296) (offs u)) 4294967296) from by
        rw [wrap_u32]
        show _ = (((offs t + 4294967296 - offs u) % 4294967296 : Nat) : Int)
        omega]
      exact .int _ _
  · split at h
    · rename_i r' hj
      simp only [Option.some.injEq] at h
      subst h
      unfold joinB at hj
      split at hj
      · rename_i a j b i
        cases hc : (Tm.beq a b && Nat.beq j (Nat.succ i))
        · rw [hc] at hj; cases hj
        · rw [hc] at hj
          simp only [cond_true, Option.some.injEq] at hj
          simp only [Bool.and_eq_true] at hc
          have e1 := Tm.beq_eq _ _ hc.1
          have e2 : j = i + 1 := Nat.eq_of_beq_eq_true hc.2
          subst e1 e2 hj
          refine ⟨_, by simp only [Go.binOp, Op.intBits, ne_eq, not_true_eq_false, if_false]; rfl, ?_⟩
          rw [show IntKind.u64.wrap (((BitVec.ofInt IntKind.u64.bits (den E (.s8 a (i + 1)) : Int)) ||| (BitVec.ofInt IntKind.u64.bits (den E (.bt a i) : Int))).toNat : Int) = ((den E (mkHi a i) : Nat) : Int) from by
            rw [wrap_u64, BitVec.toNat_or, ofInt_toNat, ofInt_toNat, den_mkHi]
            simp only [den]
            have ha := den_lt_of E (bits_le a)
            have hx : den E a / 256 ^ i < 2 ^ 64 := Nat.lt_of_le_of_lt (Nat.div_le_self _ _) ha
            have hs : den E a / 256 ^ (i + 1) = den E a / 256 ^ i / 256 := by rw [Nat.pow_succ, Nat.div_div_eq_div_mul]
            rw [hs]
            generalize den E a / 256 ^ i = x at *
            show (((x / 256 * 256 % 2 ^ 64 % 2 ^ 64 ||| x % 256 % 2 ^ 64 : Nat) : Int)) % 2 ^ 64 = _
            have e1 : x / 256 * 256 % 2 ^ 64 % 2 ^ 64 = x / 256 * 2 ^ 8 := by omega
            have e2 : x % 256 % 2 ^ 64 = x % 256 := by omega
            rw [e1, e2, mul_pow_or _ _ _ (show x % 256 < 2 ^ 8 by omega)]
            omega]
          exact .sym _ _ (Nat.le_trans (bits_mkHi _ _) (bits_le _))
      · cases hj
    · cases h
  · cases hq : Tm.beq t u
    · rw [hq] at h
      simp only [cond_false] at h
      cases hn : unlike t u
      · rw [hn] at h; cases h
      · rw [hn] at h
        simp only [cond_true, Option.some.injEq] at h
        subst h
        have := unlike_ne E hn
        refine ⟨_, by simp [Go.binOp, Op.intCmp]; rfl, ?_⟩
        rw [show ((den E t : Int) == (den E u : Int)) = false from by rw [beq_eq_false_iff_ne]; omega]
        exact .bool _
    · rw [hq] at h
      simp only [cond_true, Option.some.injEq] at h
      subst h
      have := Tm.beq_eq _ _ hq
      subst this
      exact ⟨_, by simp [Go.binOp, Op.intCmp], .bool _⟩
  · cases hq : Tm.beq t u
    · rw [hq] at h
      simp only [cond_false] at h
      cases hn : unlike t u
      · rw [hn] at h; cases h
      · rw [hn] at h
        simp only [cond_true, Option.some.injEq] at h
        subst h
        have := unlike_ne E hn
        refine ⟨_, by simp [Go.binOp, Op.intCmp]; rfl, ?_⟩
        rw [show ((den E t : Int) != (den E u : Int)) = true from by rw [bne_iff_ne]; omega]
        exact .bool _
    · rw [hq] at h
      simp only [cond_true, Option.some.injEq] at h
      subst h
      have := Tm.beq_eq _ _ hq
      subst this
      refine ⟨_, by simp [Go.binOp, Op.intCmp], .bool _⟩
  · cases h
end
end
end Go.Proofs.YtgfahpnndmocbaaGreatDoor.Sx
