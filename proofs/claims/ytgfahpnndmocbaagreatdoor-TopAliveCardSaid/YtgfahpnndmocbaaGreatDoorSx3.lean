/-
  What the executor's values and memory mean; lists by place.
-/
import Derived.Test.YtgfahpnndmocbaaGreatDoorSx1
import Derived.WalkKit
import Derived.Below
import Derived.Laws.OwnMore
import Derived.Laws.Rows
import Derived.Laws.CopyRow
import Derived.Laws.Cells
import Derived.Deep.Draws
import Derived.Orders
namespace Go.Proofs.YtgfahpnndmocbaaGreatDoor.Sx
noncomputable section
open Go
set_option linter.unusedVariables false
set_option linter.unusedSimpArgs false

/-! Lists. -/
section lists
variable {α : Type}
theorem lget_eq (l : List α) (n : Nat) : lget l n = l[n]? := by
  induction l generalizing n with
  | nil => simp [lget]
  | cons x l ih =>
    cases n with
    | zero => rfl
    | succ n => exact (show lget l n = _ from ih n).trans (by simp)
theorem ldrop_eq (l : List α) (n : Nat) : ldrop l n = l.drop n := by
  induction l generalizing n with
  | nil => simp [ldrop]
  | cons x l ih =>
    cases n with
    | zero => rfl
    | succ n => exact (show ldrop l n = _ from ih n).trans (by simp)
theorem ltake_some {l r : List α} {n : Nat} (h : ltake l n = some r) : n ≤ l.length ∧ r = l.take n := by
  induction l generalizing n r with
  | nil =>
    cases n with
    | zero => simp [ltake] at h; simp [h]
    | succ n => exact absurd (show (none : Option (List α)) = some r from h) (by simp)
  | cons x l ih =>
    cases n with
    | zero => simp [ltake] at h; simp [h]
    | succ n =>
      have h' : (Option.rec none (fun r => some (x :: r)) (ltake l n) : Option (List α)) = some r := h
      cases hr : ltake l n with
      | none => rw [hr] at h'; cases h'
      | some q =>
        rw [hr] at h'
        obtain ⟨h1, h2⟩ := ih hr
        have : x :: q = r := by simpa using h'
        subst this
        exact ⟨by simpa using h1, by simp [h2]⟩
theorem lput_some {l ys r : List α} {n : Nat} (h : lput l n ys = some r) :
    r = l.take n ++ ys ++ l.drop (n + ys.length) ∧ (ys ≠ [] → n + ys.length ≤ l.length) := by
  induction l generalizing n ys r with
  | nil =>
    cases ys with
    | nil =>
      cases n with
      | zero => simp [lput] at h; simp [h]
      | succ n => exact absurd (show (none : Option (List α)) = some r from h) (by simp)
    | cons y ys => simp [lput] at h
  | cons x l ih =>
    cases ys with
    | nil =>
      have : some (x :: l) = some r := h
      cases this
      simp
    | cons y ys =>
      cases n with
      | zero =>
        have h' : (Option.rec none (fun r => some (y :: r)) (lput l 0 ys) : Option (List α)) = some r := h
        cases hr : lput l 0 ys with
        | none => rw [hr] at h'; cases h'
        | some q =>
          rw [hr] at h'
          have : y :: q = r := by simpa using h'
          subst this
          obtain ⟨h1, h2⟩ := ih hr
          refine ⟨by simp [h1, Nat.add_comm], fun _ => ?_⟩
          cases ys with
          | nil => simp
          | cons z ys => have := h2 (by simp); simp at this ⊢; omega
      | succ n =>
        have h' : (Option.rec none (fun r => some (x :: r)) (lput l n (y :: ys)) : Option (List α)) = some r := h
        cases hr : lput l n (y :: ys) with
        | none => rw [hr] at h'; cases h'
        | some q =>
          rw [hr] at h'
          have : x :: q = r := by simpa using h'
          subst this
          obtain ⟨h1, h2⟩ := ih hr
          refine ⟨?_, fun _ => ?_⟩
          · rw [h1, show n + 1 + (y :: ys).length = (n + (y :: ys).length) + 1 by omega]; simp
          · have := h2 (by simp); simp at this ⊢; omega
theorem lseg_some {l r : List α} {off n : Nat} (h : lseg l off n = some r) : (n ≠ 0 → off + n ≤ l.length) ∧ r = (l.drop off).take n ∧ r.length = n := by
  unfold lseg at h
  rw [ldrop_eq] at h
  obtain ⟨h1, h2⟩ := ltake_some h
  refine ⟨fun hn => ?_, h2, ?_⟩
  · simp at h1; omega
  · rw [h2]; simp at h1 ⊢; omega
end lists

/-! The trees. -/
section trees
variable {α : Type}
theorem sel_f {β γ : Type} (f : β → γ) (r : Nat) (a0 a1 a2 a3 a4 a5 a6 a7 : β) :
    f (sel r a0 a1 a2 a3 a4 a5 a6 a7) = sel r (f a0) (f a1) (f a2) (f a3) (f a4) (f a5) (f a6) (f a7) := by
  match r with
  | 0 | 1 | 2 | 3 | 4 | 5 | 6 => rfl
  | _ + 7 => rfl
theorem Tr.get_nil (k : Nat) : (Tr.nil : Tr α).get k = none := rfl
theorem Tr.get_zero (v : Option α) (c0 c1 c2 c3 c4 c5 c6 c7 : Tr α) : (Tr.node v c0 c1 c2 c3 c4 c5 c6 c7).get 0 = v := rfl
theorem Tr.get_succ (v : Option α) (c0 c1 c2 c3 c4 c5 c6 c7 : Tr α) (p : Nat) :
    (Tr.node v c0 c1 c2 c3 c4 c5 c6 c7).get (p + 1) = (sel (Nat.land p 7) c0 c1 c2 c3 c4 c5 c6 c7).get (Nat.div p 8) := by
  rw [sel_f (fun t : Tr α => t.get (Nat.div p 8))]
  show (sel (Nat.land p 7) c0.get c1.get c2.get c3.get c4.get c5.get c6.get c7.get) (Nat.div p 8) = _
  exact sel_f (fun f : Nat → Option α => f (Nat.div p 8)) _ _ _ _ _ _ _ _ _
theorem land7 (p : Nat) : Nat.land p 7 = p % 8 := by
  have := Nat.and_two_pow_sub_one_eq_mod p 3
  simpa using this
theorem key_eq {p q : Nat} (h1 : p % 8 = q % 8) (h2 : p / 8 = q / 8) : p = q := by omega
/-- setting a child -/
theorem put_child (v : Option α) (c0 c1 c2 c3 c4 c5 c6 c7 s : Tr α) (r q : Nat) (hr : r < 8) (hq : q < 8) (j : Nat) :
    (sel q (sel r s c0 c0 c0 c0 c0 c0 c0) (sel r c1 s c1 c1 c1 c1 c1 c1) (sel r c2 c2 s c2 c2 c2 c2 c2) (sel r c3 c3 c3 s c3 c3 c3 c3) (sel r c4 c4 c4 c4 s c4 c4 c4) (sel r c5 c5 c5 c5 c5 s c5 c5) (sel r c6 c6 c6 c6 c6 c6 s c6) (sel r c7 c7 c7 c7 c7 c7 c7 s)).get j
      = if q = r then s.get j else (sel q c0 c1 c2 c3 c4 c5 c6 c7).get j := by
  match r, hr with
  | 0, _ => match q, hq with | 0, _ | 1, _ | 2, _ | 3, _ | 4, _ | 5, _ | 6, _ | 7, _ => rfl
  | 1, _ => match q, hq with | 0, _ | 1, _ | 2, _ | 3, _ | 4, _ | 5, _ | 6, _ | 7, _ => rfl
  | 2, _ => match q, hq with | 0, _ | 1, _ | 2, _ | 3, _ | 4, _ | 5, _ | 6, _ | 7, _ => rfl
  | 3, _ => match q, hq with | 0, _ | 1, _ | 2, _ | 3, _ | 4, _ | 5, _ | 6, _ | 7, _ => rfl
  | 4, _ => match q, hq with | 0, _ | 1, _ | 2, _ | 3, _ | 4, _ | 5, _ | 6, _ | 7, _ => rfl
  | 5, _ => match q, hq with | 0, _ | 1, _ | 2, _ | 3, _ | 4, _ | 5, _ | 6, _ | 7, _ => rfl
  | 6, _ => match q, hq with | 0, _ | 1, _ | 2, _ | 3, _ | 4, _ | 5, _ | 6, _ | 7, _ => rfl
  | 7, _ => match q, hq with | 0, _ | 1, _ | 2, _ | 3, _ | 4, _ | 5, _ | 6, _ | 7, _ => rfl
theorem sel_k (r : Nat) (hr : r < 8) (v : Option α) (c0 c1 c2 c3 c4 c5 c6 c7 s : Tr α) :
    sel r k0 k1 k2 k3 k4 k5 k6 k7 v c0 c1 c2 c3 c4 c5 c6 c7 s =
      .node v (sel r s c0 c0 c0 c0 c0 c0 c0) (sel r c1 s c1 c1 c1 c1 c1 c1) (sel r c2 c2 s c2 c2 c2 c2 c2) (sel r c3 c3 c3 s c3 c3 c3 c3) (sel r c4 c4 c4 c4 s c4 c4 c4) (sel r c5 c5 c5 c5 c5 s c5 c5) (sel r c6 c6 c6 c6 c6 c6 s c6) (sel r c7 c7 c7 c7 c7 c7 c7 s) := by
  match r, hr with
  | 0, _ | 1, _ | 2, _ | 3, _ | 4, _ | 5, _ | 6, _ | 7, _ => rfl
theorem get_put_child (r : Nat) (hr : r < 8) (v : Option α) (c0 c1 c2 c3 c4 c5 c6 c7 s : Tr α) (j : Nat) :
    (sel r k0 k1 k2 k3 k4 k5 k6 k7 v c0 c1 c2 c3 c4 c5 c6 c7 s).get j =
      if j = 0 then v else if (j - 1) % 8 = r then s.get ((j - 1) / 8) else (Tr.node v c0 c1 c2 c3 c4 c5 c6 c7).get j := by
  rw [sel_k r hr]
  cases j with
  | zero => rfl
  | succ j =>
    rw [Tr.get_succ, land7, put_child v c0 c1 c2 c3 c4 c5 c6 c7 s r (j % 8) hr (Nat.mod_lt _ (by decide)), Tr.get_succ, land7]
    simp only [Nat.add_one_ne_zero, if_false, Nat.add_sub_cancel]
    rfl
theorem Tr.mk_get (x : Option α) : ∀ (f k : Nat), k < f → ∀ j, (Tr.mk x f k).get j = if j = k then x else none := by
  intro f
  induction f with
  | zero => intro k h; omega
  | succ f ih =>
    intro k hk j
    cases k with
    | zero =>
      show (Tr.node x .nil .nil .nil .nil .nil .nil .nil .nil).get j = _
      cases j with
      | zero => rfl
      | succ j =>
        rw [Tr.get_succ, sel_f (fun t : Tr α => t.get (Nat.div j 8))]
        simp only [Tr.get_nil]
        have : ∀ r, sel r (none : Option α) none none none none none none none = none := by
          intro r
          match r with
          | 0 | 1 | 2 | 3 | 4 | 5 | 6 => rfl
          | _ + 7 => rfl
        rw [this]
        simp
    | succ p =>
      show (sel (Nat.land p 7) k0 k1 k2 k3 k4 k5 k6 k7 none .nil .nil .nil .nil .nil .nil .nil .nil (Tr.mk x f (Nat.div p 8))).get j = _
      rw [land7, get_put_child (p % 8) (Nat.mod_lt _ (by decide))]
      have hd : Nat.div p 8 < f := by show p / 8 < f; omega
      cases j with
      | zero => simp
      | succ j =>
        simp only [Nat.add_one_ne_zero, if_false, Nat.add_sub_cancel]
        rw [ih _ hd]
        have hdiv : Nat.div p 8 = p / 8 := rfl
        by_cases h1 : j % 8 = p % 8
        · by_cases h2 : j / 8 = p / 8
          · have := key_eq h1 h2
            subst this
            simp [hdiv]
          · have hne : ¬ j + 1 = p + 1 := fun e => h2 (by have : j = p := by omega
                                                          rw [this])
            rw [if_pos h1, hdiv, if_neg h2, if_neg hne]
        · have hne : ¬ j + 1 = p + 1 := fun e => h1 (by have : j = p := by omega
                                                        rw [this])
          rw [if_neg h1, if_neg hne]
          rw [Tr.get_succ, sel_f (fun t : Tr α => t.get (Nat.div j 8))]
          simp only [Tr.get_nil]
          have : ∀ r, sel r (none : Option α) none none none none none none none = none := by
            intro r
            match r with
            | 0 | 1 | 2 | 3 | 4 | 5 | 6 => rfl
            | _ + 7 => rfl
          exact this _
theorem Tr.st_get (x : Option α) (t : Tr α) : ∀ k j, (Tr.st t x k).get j = if j = k then x else t.get j := by
  induction t with
  | nil => intro k j; exact Tr.mk_get x (Nat.succ k) k (Nat.lt_succ_self k) j
  | node v c0 c1 c2 c3 c4 c5 c6 c7 h0 h1 h2 h3 h4 h5 h6 h7 =>
    intro k j
    cases k with
    | zero =>
      show (Tr.node x c0 c1 c2 c3 c4 c5 c6 c7).get j = _
      cases j with
      | zero => rfl
      | succ j => rw [Tr.get_succ, Tr.get_succ]; simp
    | succ p =>
      show (sel (Nat.land p 7) k0 k1 k2 k3 k4 k5 k6 k7 v c0 c1 c2 c3 c4 c5 c6 c7 (sel (Nat.land p 7) (Tr.st c0 x) (Tr.st c1 x) (Tr.st c2 x) (Tr.st c3 x) (Tr.st c4 x) (Tr.st c5 x) (Tr.st c6 x) (Tr.st c7 x) (Nat.div p 8))).get j = _
      rw [land7, get_put_child (p % 8) (Nat.mod_lt _ (by decide))]
      have hdiv : Nat.div p 8 = p / 8 := rfl
      have key : ∀ i, (sel (p % 8) (Tr.st c0 x) (Tr.st c1 x) (Tr.st c2 x) (Tr.st c3 x) (Tr.st c4 x) (Tr.st c5 x) (Tr.st c6 x) (Tr.st c7 x) (Nat.div p 8)).get i =
          if i = p / 8 then x else (sel (p % 8) c0 c1 c2 c3 c4 c5 c6 c7).get i := by
        intro i
        rcases (by omega : p % 8 = 0 ∨ p % 8 = 1 ∨ p % 8 = 2 ∨ p % 8 = 3 ∨ p % 8 = 4 ∨ p % 8 = 5 ∨ p % 8 = 6 ∨ p % 8 = 7) with e | e | e | e | e | e | e | e <;> rw [e]
        · exact h0 (p / 8) i
        · exact h1 (p / 8) i
        · exact h2 (p / 8) i
        · exact h3 (p / 8) i
        · exact h4 (p / 8) i
        · exact h5 (p / 8) i
        · exact h6 (p / 8) i
        · exact h7 (p / 8) i
      cases j with
      | zero => simp [Tr.get_zero]
      | succ j =>
        simp only [Nat.add_one_ne_zero, if_false, Nat.add_sub_cancel, key]
        have hdj : Nat.div j 8 = j / 8 := rfl
        by_cases e1 : j % 8 = p % 8
        · by_cases e2 : j / 8 = p / 8
          · have := key_eq e1 e2
            subst this
            simp
          · have hne : ¬ j + 1 = p + 1 := fun e => e2 (by have : j = p := by omega
                                                          rw [this])
            rw [if_pos e1, if_neg e2, if_neg hne, Tr.get_succ, land7, e1, hdj]
        · have hne : ¬ j + 1 = p + 1 := fun e => e1 (by have : j = p := by omega
                                                        rw [this])
          rw [if_neg e1, if_neg hne, Tr.get_succ, land7]
theorem Tr.get_set (t : Tr α) (k : Nat) (x : Option α) (j : Nat) : (t.set k x).get j = if j = k then x else t.get j := Tr.st_get x t k j
end trees
end
end Go.Proofs.YtgfahpnndmocbaaGreatDoor.Sx
