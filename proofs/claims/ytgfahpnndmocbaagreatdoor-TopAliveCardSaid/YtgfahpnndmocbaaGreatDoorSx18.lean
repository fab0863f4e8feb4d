/-
  Regions that draw their order: the pass, step by step.
-/
import Derived.Test.YtgfahpnndmocbaaGreatDoorSx17
namespace Go.Proofs.YtgfahpnndmocbaaGreatDoor.Sx
noncomputable section
open Go Go.RowKit
set_option linter.unusedVariables false
set_option linter.unusedSimpArgs false

theorem sameP_eq {x y : SV} (h : sameP x y = true) : x = y := by
  unfold sameP at h
  split at h <;> (try simp only [Bool.and_eq_true, kindB] at h) <;> first
    | rfl
    | (cases h; done)
    | skip
  · obtain ⟨h1, h2⟩ := h; rw [ieq_eq] at h2; rw [keq_eq h1, eq_of_beq h2]
  · obtain ⟨h1, h2⟩ := h; rw [keq_eq h1, Tm.beq_eq _ _ h2]
  · rename_i a b; cases a <;> cases b <;> first | rfl | cases h
  · rename_i a b
    have h2 := eq_of_beq h
    obtain ⟨⟨a⟩⟩ := a
    obtain ⟨⟨b⟩⟩ := b
    simp only at h2
    rw [h2]
  · obtain ⟨h1, h2⟩ := h; rw [Nat.eq_of_beq_eq_true h1, Nat.eq_of_beq_eq_true h2]
  · obtain ⟨h1, h2⟩ := h; rw [Nat.eq_of_beq_eq_true h1, Nat.eq_of_beq_eq_true h2]
  · obtain ⟨⟨⟨h1, h2⟩, h3⟩, h4⟩ := h; rw [Nat.eq_of_beq_eq_true h1, Nat.eq_of_beq_eq_true h2, Nat.eq_of_beq_eq_true h3, Nat.eq_of_beq_eq_true h4]
  · obtain ⟨⟨⟨h1, h2⟩, h3⟩, h4⟩ := h; rw [Nat.eq_of_beq_eq_true h1, Nat.eq_of_beq_eq_true h2, Nat.eq_of_beq_eq_true h3, Nat.eq_of_beq_eq_true h4]
  · rw [Nat.eq_of_beq_eq_true h]
theorem samePL_eq : ∀ {l m : List SV}, samePL l m = true → l = m
  | [], [], _ => rfl
  | x :: l, y :: m, h => by simp only [samePL, Bool.and_eq_true] at h; rw [sameP_eq h.1, samePL_eq h.2]
  | [], _ :: _, h => by simp [samePL] at h
  | _ :: _, [], h => by simp [samePL] at h
theorem sameS_eq {x y : SV} (h : sameS x y = true) : x = y := by
  unfold sameS at h
  split at h
  · simp only [Bool.and_eq_true] at h
    obtain ⟨⟨h1, h2⟩, h3⟩ := h
    rw [Nat.eq_of_beq_eq_true h1, samePL_eq h2, samePL_eq h3]
  · exact sameP_eq h
theorem sameL_eq : ∀ {l m : List SV}, sameL l m = true → l = m
  | [], [], _ => rfl
  | x :: l, y :: m, h => by simp only [sameL, Bool.and_eq_true] at h; rw [sameS_eq h.1, sameL_eq h.2]
  | [], _ :: _, h => by simp [sameL] at h
  | _ :: _, [], h => by simp [sameL] at h
theorem sameV_eq {x y : SV} (h : sameV x y = true) : x = y := by
  unfold sameV at h
  split at h
  · rw [sameL_eq h]
  · split at h
    · simp only [Bool.and_eq_true] at h
      rw [sameL_eq h.1, sameS_eq h.2]
    · rw [sameL_eq h]
  · exact sameS_eq h

theorem absorb_n (b : List Nat) : ∀ (pd : Pend) (h : Hp), (absorb b pd h).2.n = h.n
  | [], h => rfl
  | (i, id, bk) :: l, h => by
    have := absorb_n b l h
    simp only [absorb]
    cases memN i b <;> simp [Hp.put, this]
theorem absorb_mem (b : List Nat) : ∀ (pd : Pend) (h : Hp) (x : Nat × Nat × Blk), x ∈ (absorb b pd h).1 ↔ x ∈ pd ∧ x.1 ∉ b
  | [], h, x => by simp [absorb]
  | (i, id, bk) :: l, h, x => by
    have ih := absorb_mem b l h x
    simp only [absorb]
    cases hm : memN i b
    · simp only [cond_false, List.mem_cons, ih]
      have hi : i ∉ b := fun hb => by rw [mem_memN.2 hb] at hm; cases hm
      constructor
      · rintro (rfl | h)
        · exact ⟨.inl rfl, hi⟩
        · exact ⟨.inr h.1, h.2⟩
      · rintro ⟨rfl | h1, h2⟩
        · exact .inl rfl
        · exact .inr ⟨h1, h2⟩
    · simp only [cond_true, List.mem_cons, ih]
      have hi := mem_memN.1 hm
      constructor
      · rintro ⟨h1, h2⟩; exact ⟨.inr h1, h2⟩
      · rintro ⟨rfl | h1, h2⟩
        · exact absurd hi h2
        · exact ⟨h1, h2⟩
/-- what is laid is found -/
theorem absorb_get (b : List Nat) : ∀ (pd : Pend) (h : Hp), pd.Pairwise (fun x y => x.2.1 ≠ y.2.1) → ∀ id,
    (∀ i bk, (i, id, bk) ∈ pd → i ∈ b → (absorb b pd h).2.t.get id = some bk) ∧ ((∀ i bk, (i, id, bk) ∈ pd → i ∉ b) → (absorb b pd h).2.t.get id = h.t.get id)
  | [], h, _, id => by simp [absorb]
  | (i, id', bk') :: l, h, hp, id => by
    obtain ⟨hp1, hp2⟩ := List.pairwise_cons.1 hp
    obtain ⟨ih1, ih2⟩ := absorb_get b l h hp2 id
    simp only [absorb]
    cases hm : memN i b
    · have hi : i ∉ b := fun hb => by rw [mem_memN.2 hb] at hm; cases hm
      simp only [cond_false]
      refine ⟨fun j bk hj hb => ?_, fun hn => ih2 fun j bk hj => hn j bk (by simp [hj])⟩
      rcases List.mem_cons.1 hj with e | hj
      · cases e; exact absurd hb hi
      · exact ih1 j bk hj hb
    · have hi := mem_memN.1 hm
      simp only [cond_true, Hp.put, Tr.get_set]
      refine ⟨fun j bk hj hb => ?_, fun hn => ?_⟩
      · rcases List.mem_cons.1 hj with e | hj
        · cases e; simp
        · rw [if_neg (fun e => hp1 _ hj (by simp [e]))]; exact ih1 j bk hj hb
      · rw [if_neg (fun e => hn i bk' (by simp [e]) hi)]
        exact ih2 fun j bk hj => hn j bk (by simp [hj])
theorem layAll_get : ∀ (pd : Pend) (h : Hp), pd.Pairwise (fun x y => x.2.1 ≠ y.2.1) → ∀ id,
    (∀ i bk, (i, id, bk) ∈ pd → (layAll pd h).t.get id = some bk) ∧ ((∀ i bk, (i, id, bk) ∉ pd) → (layAll pd h).t.get id = h.t.get id)
  | [], h, _, id => by simp [layAll]
  | (i, id', bk') :: l, h, hp, id => by
    obtain ⟨hp1, hp2⟩ := List.pairwise_cons.1 hp
    obtain ⟨ih1, ih2⟩ := layAll_get l h hp2 id
    simp only [layAll, Hp.put, Tr.get_set]
    refine ⟨fun j bk hj => ?_, fun hn => ?_⟩
    · rcases List.mem_cons.1 hj with e | hj
      · cases e; simp
      · rw [if_neg (fun e => hp1 _ hj (by simp [e]))]; exact ih1 j bk hj
    · rw [if_neg (fun e => hn i bk' (by simp [e]))]
      exact ih2 fun j bk hj => hn j bk (by simp [hj])
theorem layAll_n : ∀ (pd : Pend) (h : Hp), (layAll pd h).n = h.n
  | [], h => rfl
  | (i, id, bk) :: l, h => by simp only [layAll, Hp.put]; exact layAll_n l h

section
variable {P : Program} {G : Nat → Option (List SV)} {hook : FuncId → Option (List SV → Hp → Option (SV × Hp))} {ext : FuncId → Option (List SV → Option SV)} {rec : Code → Tp → Hp → Option Out}

/-- The pass. -/
structure Trace (P : Program) (G : Nat → Option (List SV)) (hook : FuncId → Option (List SV → Hp → Option (SV × Hp))) (ext : FuncId → Option (List SV → Option SV)) (rec : Code → Tp → Hp → Option Out)
    (ops : List Oper) (bs : List (List Nat)) (st : Nat → Rs) : Prop where
  step : ∀ (i : Nat) (o : Oper) (b : List Nat), ops[i]? = some o → bs[i]? = some b → stepD P G hook ext rec ops b i o (st i) = some (st (i + 1))

theorem passD_trace {ops : List Oper} : ∀ (l : List Oper) (bs : List (List Nat)) (i : Nat) (s sF : Rs), passD P G hook ext rec ops l bs i s = some sF →
    ∃ st : Nat → Rs, st 0 = s ∧ st l.length = sF ∧ ∀ (q : Nat) (o : Oper) (b : List Nat), l[q]? = some o → bs[q]? = some b → stepD P G hook ext rec ops b (i + q) o (st q) = some (st (q + 1))
  | [], bs, i, s, sF, h => by
    simp only [passD, Option.some.injEq] at h
    subst h
    exact ⟨fun _ => s, rfl, rfl, fun q o b hq => by simp at hq⟩
  | o :: l, [], i, s, sF, h => by simp [passD] at h
  | o :: l, b :: bs, i, s, sF, h => by
    simp only [passD] at h
    split at h
    · rename_i s' hs
      obtain ⟨st, h1, h2, h3⟩ := passD_trace l bs (Nat.succ i) s' sF h
      refine ⟨fun q => match q with | 0 => s | q + 1 => st q, rfl, by simpa using h2, fun q o' b' hq hb => ?_⟩
      cases q with
      | zero =>
        simp at hq hb
        subst hq hb
        simp only [Nat.add_zero, h1]
        exact hs
      | succ q =>
        simp at hq hb
        have := h3 q o' b' hq hb
        rw [show i + (q + 1) = i.succ + q by omega]
        exact this
    · cases h

/-- what an operation is to the pass -/
inductive Step (P : Program) (G : Nat → Option (List SV)) (hook : FuncId → Option (List SV → Hp → Option (SV × Hp))) (ext : FuncId → Option (List SV → Option SV)) (rec : Code → Tp → Hp → Option Out)
    (ops : List Oper) (b : List Nat) (i : Nat) (o : Oper) (s : Rs) : Rs → Prop
  | skipE (hw : wantS ops s.T o.guard = some false) (he : isEff o.op = true) : Step P G hook ext rec ops b i o s ⟨putT s.T o.dst (.tup []), (absorb b s.pend s.h).2, (absorb b s.pend s.h).2 :: s.cores, (absorb b s.pend s.h).1, s.id⟩
  | skip (hw : wantS ops s.T o.guard = some false) (he : isEff o.op = false) : Step P G hook ext rec ops b i o s ⟨putT s.T o.dst (.tup []), s.h, s.cores, s.pend, s.id⟩
  | eff (hw : wantS ops s.T o.guard = some true) (he : isEff o.op = true) (v : SV) (h' : Hp) (hr : effA P G hook ext rec s.T (absorb b s.pend s.h).2 o.op = some (v, h')) :
      Step P G hook ext rec ops b i o s ⟨putT s.T o.dst v, h', h' :: s.cores, (absorb b s.pend s.h).1, s.id⟩
  | new (hw : wantS ops s.T o.guard = some true) (he : isEff o.op = false) (hn : isNew o.op = true) (v : SV) (bk : Blk) (hr : newA P G s.id s.T o.op = some (v, bk)) :
      Step P G hook ext rec ops b i o s ⟨putT s.T o.dst v, s.h, s.cores, (i, s.id, bk) :: s.pend, Nat.succ s.id⟩
  | gives (hw : wantS ops s.T o.guard = some true) (he : isEff o.op = false) (hn : isNew o.op = false) (v : SV) (h1 : Hp) (hr : opA P G s.T s.h o.op = .val v h1) (hnn : h1.n = s.h.n) :
      Step P G hook ext rec ops b i o s ⟨putT s.T o.dst v, s.h, s.cores, s.pend, s.id⟩

theorem stepD_step {ops : List Oper} {b : List Nat} {i : Nat} {o : Oper} {s s' : Rs} (h : stepD P G hook ext rec ops b i o s = some s') : Step P G hook ext rec ops b i o s s' := by
  unfold stepD at h
  cases hw : wantS ops s.T o.guard with
  | none => rw [hw] at h; cases h
  | some c =>
    rw [hw] at h
    cases he : isEff o.op <;> cases c <;> simp only [he, cond_true, cond_false] at h
    · simp only [Option.some.injEq] at h; subst h; exact .skip hw he
    · cases hn : isNew o.op <;> simp only [hn, cond_true, cond_false] at h
      · split at h
        · rename_i v h1 hr
          cases hnn : Nat.beq h1.n s.h.n
          · rw [hnn] at h; cases h
          · rw [hnn] at h
            simp only [cond_true, Option.some.injEq] at h; subst h
            exact .gives hw he hn v h1 hr (Nat.eq_of_beq_eq_true hnn)
        · cases h
      · split at h
        · rename_i v bk hr
          simp only [Option.some.injEq] at h; subst h
          exact .new hw he hn v bk hr
        · cases h
    · simp only [Option.some.injEq] at h; subst h; exact .skipE hw he
    · split at h
      · rename_i v h1 hr
        simp only [Option.some.injEq] at h; subst h
        exact .eff hw he v h1 hr
      · cases h
end
end
end Go.Proofs.YtgfahpnndmocbaaGreatDoor.Sx
