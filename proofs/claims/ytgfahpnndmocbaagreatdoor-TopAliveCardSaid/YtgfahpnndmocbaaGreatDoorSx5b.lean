/-
  Hooks of the executor.
-/
import Derived.Test.YtgfahpnndmocbaaGreatDoorSx5
namespace Go.Proofs.YtgfahpnndmocbaaGreatDoor.Sx
noncomputable section
open Go Go.RowKit
set_option linter.unusedVariables false
set_option linter.unusedSimpArgs false
section
variable {P : Program} {E : En} {β : Bm} {w : World}
theorem wrapN (k : IntKind) (hk : k = .u64 ∨ k = .u32) (n : Nat) : k.wrap (n : Int) = ((n % 2 ^ k.bits : Nat) : Int) := by
  rcases hk with rfl | rfl
  · rw [wrap_u64]; simp [IntKind.bits]
  · rw [wrap_u32]; simp [IntKind.bits]
theorem opT_gives {op : BinOp} {ty : TypeId} {k k' : IntKind} {t u : Tm} {x y : Nat} {r : SV} (hx : den E t % 2 ^ k.bits = x % 2 ^ k.bits) (hy : den E u % 2 ^ k.bits = y % 2 ^ k.bits) (hk : k = k') (h : opT op k t u = some r) :
    Gives P E β w (Go.binOp op ty (.int k (x : Nat)) (.int k' (y : Nat))) r := by
  subst hk
  unfold opT at h
  have key : ∀ (wd : Bool) (o : Nat) (z : Int), (k = .u64 ∧ wd = true ∨ k = .u32 ∧ wd = false) → z = ((opN o (den E t) (den E u) % 2 ^ k.bits : Nat) : Int) → VR E β (.sym k (.op o wd t u)) (.int k z) := by
    intro wd o z hk hz
    have : den E (.op o wd t u) = opN o (den E t) (den E u) % 2 ^ k.bits := by
      simp only [den, bits]
      rcases hk with ⟨rfl, rfl⟩ | ⟨rfl, rfl⟩ <;> rfl
    rw [hz, ← this]
    refine .sym _ _ ?_
    rcases hk with ⟨rfl, rfl⟩ | ⟨rfl, rfl⟩ <;> simp [bits, kbits]
  have hk : k = .u64 ∨ k = .u32 := by cases k <;> simp [wideB] at h <;> simp
  have key2 : ∀ (o : Nat) (z : Int), (match wideB k with | some w => some (SV.sym k (.op o w t u)) | none => none) = some r → z = ((opN o (den E t) (den E u) % 2 ^ k.bits : Nat) : Int) → VR E β r (.int k z) := by
    intro o z hr hz
    rcases hk with rfl | rfl
    · simp only [wideB, Option.some.injEq] at hr; subst hr; exact key _ _ _ (.inl ⟨rfl, rfl⟩) hz
    · simp only [wideB, Option.some.injEq] at hr; subst hr; exact key _ _ _ (.inr ⟨rfl, rfl⟩) hz
  cases op <;> simp only [opc] at h <;> (try (exfalso; rcases hk with rfl | rfl <;> simp [wideB] at h; done)) <;> simp only [Go.binOp, ne_eq, not_true_eq_false, if_false]
  case and => exact ⟨_, rfl, key2 0 _ h (by
    rw [wrapN k hk]; simp only [BitVec.toNat_and, ofInt_toNat, opN, Nat.and_mod_two_pow, hx, hy, Nat.mod_mod])⟩
  case or => exact ⟨_, rfl, key2 1 _ h (by
    rw [wrapN k hk]; simp only [BitVec.toNat_or, ofInt_toNat, opN, Nat.or_mod_two_pow, hx, hy, Nat.mod_mod])⟩
  case xor => exact ⟨_, rfl, key2 2 _ h (by
    rw [wrapN k hk]; simp only [BitVec.toNat_xor, ofInt_toNat, opN, Nat.xor_mod_two_pow, hx, hy, Nat.mod_mod])⟩
  case add => exact ⟨_, rfl, key2 3 _ h (by
    rw [show ((x : Int) + (y : Nat)) = ((x + y : Nat) : Int) by omega, wrapN k hk]; simp only [opN]; rw [Nat.add_mod, Nat.add_mod (den E t), hx, hy])⟩
  case sub => exact ⟨_, rfl, key2 4 _ h (by
    simp only [opN]
    rcases hk with rfl | rfl
    · rw [wrap_u64]; simp only [IntKind.bits] at hx hy ⊢; omega
    · rw [wrap_u32]; simp only [IntKind.bits] at hx hy ⊢; omega)⟩
  case mul => exact ⟨_, rfl, key2 5 _ h (by
    rw [show ((x : Int) * (y : Nat)) = ((x * y : Nat) : Int) by simp, wrapN k hk]; simp only [opN]; rw [Nat.mul_mod, Nat.mul_mod (den E t), hx, hy])⟩

theorem opL_gives {op : BinOp} {ty : TypeId} {k k' : IntKind} {t : Tm} {b : Nat} {r : SV} (hb : bits t ≤ kbits k) (hk : op = .shl ∨ op = .shr ∨ k = k') (h : opL op k t b = some r) :
    Gives P E β w (Go.binOp op ty (.int k (den E t : Nat)) (.int k' b)) r := by
  have hd := den_lt_of E hb
  rw [kbits_eq] at hd
  have key : ∀ (o : Nat) (z : Int), (bif Nat.blt b 32 then (match wideB k with | some w => some (SV.sym k (.op o w t (.c b))) | none => none) else none) = some r →
      (b < 32 → (k = .u64 ∨ k = .u32) → z = ((opN o (den E t) b % 2 ^ k.bits : Nat) : Int)) → VR E β r (.int k z) ∧ b < 32 ∧ (k = .u64 ∨ k = .u32) := by
    intro o z hr hz
    cases hlt : Nat.blt b 32
    · rw [hlt] at hr; cases hr
    · rw [hlt] at hr
      rw [blt_eq] at hlt
      have hb32 : b < 32 := by simpa using hlt
      simp only [cond_true] at hr
      have hk : k = .u64 ∨ k = .u32 := by cases k <;> simp [wideB] at hr <;> simp
      have hc : den E (.c b) = b := by simp only [den]; omega
      rw [hz hb32 hk]
      refine ⟨?_, hb32, hk⟩
      rcases hk with rfl | rfl
      · simp only [wideB, Option.some.injEq] at hr; subst hr
        have : den E (.op o true t (.c b)) = opN o (den E t) b % 2 ^ IntKind.u64.bits := by rw [den, hc]; rfl
        rw [← this]; exact .sym _ _ (by simp [bits, kbits])
      · simp only [wideB, Option.some.injEq] at hr; subst hr
        have : den E (.op o false t (.c b)) = opN o (den E t) b % 2 ^ IntKind.u32.bits := by rw [den, hc]; rfl
        rw [← this]; exact .sym _ _ (by simp [bits, kbits])
  have hb0 : ¬ ((b : Int) < 0) := by omega
  unfold opL at h
  split at h
  · obtain ⟨h1, h2, h3⟩ := key 7 (k.wrap ((den E t : Int) * 2 ^ min b k.bits)) h (fun hb32 hk => by
      have : min b k.bits = b := by rcases hk with rfl | rfl <;> simp [IntKind.bits] <;> omega
      rw [this, show ((den E t : Int) * 2 ^ b) = ((den E t * 2 ^ b : Nat) : Int) by simp, wrapN k hk]; rfl)
    exact ⟨_, by simp [Go.binOp, Op.shift, hb0], h1⟩
  · obtain ⟨h1, h2, h3⟩ := key 8 ((den E t : Int).fdiv (2 ^ min b k.bits)) h (fun hb32 hk => by
      have : min b k.bits = b := by rcases hk with rfl | rfl <;> simp [IntKind.bits] <;> omega
      rw [this]
      simp only [opN]
      rw [Nat.mod_eq_of_lt (Nat.lt_of_le_of_lt (Nat.div_le_self _ _) hd)]
      rw [Int.fdiv_eq_ediv_of_nonneg _ (by exact Int.le_of_lt (Int.pow_pos (by decide)))]
      simp)
    exact ⟨_, by simp [Go.binOp, Op.shift, hb0], h1⟩
  · rename_i n1 n2
    have hk' : k = k' := by
      rcases hk with h | h | h
      · exact absurd h n1
      · exact absurd h n2
      · exact h
    refine opT_gives rfl ?_ hk' h
    simp only [den]
    rw [Nat.mod_mod_of_dvd]
    exact Nat.pow_dvd_pow 2 (by cases k <;> decide)

theorem orE_cases {x y : Option SV} {r : SV} (h : orE x y = some r) : x = some r ∨ y = some r := by
  unfold orE at h
  split at h
  · exact .inl h
  · exact .inr h
theorem convT'_gives {k k' : IntKind} {t : Tm} {r : SV} (hb : bits t ≤ kbits k') (h : (match k with | .u32 => some (SV.sym .u32 (.op 9 false t (.c 0))) | _ => none) = some r) : Gives P E β w (Conv.intToInt k (den E t : Nat)) r := by
  cases k <;> simp only at h <;> try (cases h; done)
  simp only [Option.some.injEq] at h; subst h
  refine ⟨_, rfl, ?_⟩
  have : den E (.op 9 false t (.c 0)) = den E t % 2 ^ 32 := by simp only [den, opN, bits, cond_false]
  rw [show IntKind.u32.wrap (den E t : Nat) = ((den E (.op 9 false t (.c 0)) : Nat) : Int) from by rw [wrap_u32, this]; omega]
  exact .sym _ _ (by simp [bits, kbits])
end
end
end Go.Proofs.YtgfahpnndmocbaaGreatDoor.Sx
