/-
  Regions that draw their order: what the pass says of each operation.
-/
import Derived.Test.YtgfahpnndmocbaaGreatDoorSx18
namespace Go.Proofs.YtgfahpnndmocbaaGreatDoor.Sx
noncomputable section
open Go Go.RowKit
set_option linter.unusedVariables false
set_option linter.unusedSimpArgs false

section
variable {P : Program} {G : Nat → Option (List SV)} {hook : FuncId → Option (List SV → Hp → Option (SV × Hp))} {ext : FuncId → Option (List SV → Option SV)} {rec : Code → Tp → Hp → Option Out}
variable {ops : List Oper} {bs : List (List Nat)} {st : Nat → Rs}

/-- an operation that makes memory, what, and by which name -/
def Made (P : Program) (G : Nat → Option (List SV)) (ops : List Oper) (st : Nat → Rs) (i id : Nat) (bk : Blk) : Prop :=
  ∃ o, ops[i]? = some o ∧ wantS ops (st i).T o.guard = some true ∧ isEff o.op = false ∧ isNew o.op = true ∧ id = (st i).id ∧ ∃ v, newA P G (st i).id (st i).T o.op = some (v, bk)
def EffAt (ops : List Oper) (e : Nat) : Prop := ∃ o, ops[e]? = some o ∧ isEff o.op = true
/-- laid for good, ahead of m -/
def Ab (ops : List Oper) (bs : List (List Nat)) (i m : Nat) : Prop := ∃ f b, f < m ∧ EffAt ops f ∧ bs[f]? = some b ∧ i ∈ b

theorem Made.fn {i id id' : Nat} {b b' : Blk} (h : Made P G ops st i id b) (k : Made P G ops st i id' b') : id = id' ∧ b = b' := by
  obtain ⟨o, h1, _, _, _, rfl, v, h2⟩ := h
  obtain ⟨o', k1, _, _, _, rfl, v', k2⟩ := k
  rw [h1] at k1; cases k1
  rw [h2] at k2; cases k2
  exact ⟨rfl, rfl⟩
theorem Made.not_eff {i id : Nat} {b : Blk} (h : Made P G ops st i id b) : ¬ EffAt ops i := by
  rintro ⟨o', k1, k2⟩
  obtain ⟨o, h1, _, h2, _⟩ := h
  rw [h1] at k1; cases k1
  rw [h2] at k2; cases k2
theorem Made.lt {i id : Nat} {b : Blk} (h : Made P G ops st i id b) : i < ops.length := by
  obtain ⟨o, h1, _⟩ := h
  exact (List.getElem?_eq_some_iff.1 h1).1

variable (hp : Plan ops bs) (ht : Trace P G hook ext rec ops bs st)
include hp ht

theorem Trace.at {i : Nat} (hi : i < ops.length) : ∃ o b, ops[i]? = some o ∧ bs[i]? = some b ∧ Step P G hook ext rec ops b i o (st i) (st (i + 1)) := by
  have hb : i < bs.length := by rw [hp.len]; exact hi
  exact ⟨ops[i], bs[i], List.getElem?_eq_getElem hi, List.getElem?_eq_getElem hb, stepD_step (ht.step i _ _ (List.getElem?_eq_getElem hi) (List.getElem?_eq_getElem hb))⟩

theorem Trace.T1 {i : Nat} {o : Oper} (hi : ops[i]? = some o) {t : Nat} (hd : o.dst ≠ some t) : (st (i + 1)).T.get t = (st i).T.get t := by
  obtain ⟨o', b, h1, h2, h3⟩ := ht.at hp (List.getElem?_eq_some_iff.1 hi).1
  rw [hi] at h1; cases h1
  have put : ∀ v, (putT (st i).T o.dst v).get t = (st i).T.get t := by
    intro v
    cases hq : o.dst with
    | none => rfl
    | some d => simp only [putT, Tr.get_set]; rw [if_neg (fun e => hd (by rw [hq, e]))]
  generalize st (i + 1) = s' at h3 ⊢
  cases h3 <;> exact put _
theorem Trace.T_same {i j : Nat} (hij : i ≤ j) (hj : j ≤ ops.length) {t : Nat} (hd : ∀ (k : Nat) (o : Oper), i ≤ k → k < j → ops[k]? = some o → o.dst ≠ some t) : (st j).T.get t = (st i).T.get t := by
  induction j with
  | zero => have : i = 0 := by omega
            subst this; rfl
  | succ j ih =>
    by_cases e : i = j + 1
    · subst e; rfl
    · have hjl : j < ops.length := by omega
      rw [ht.T1 hp (List.getElem?_eq_getElem hjl) (hd j _ (by omega) (by omega) (List.getElem?_eq_getElem hjl))]
      exact ih (by omega) (by omega) fun k o h1 h2 h3 => hd k o h1 (by omega) h3
theorem Trace.h1 {i : Nat} (hi : i < ops.length) (he : ¬ EffAt ops i) : (st (i + 1)).h = (st i).h ∧ (st (i + 1)).cores = (st i).cores := by
  obtain ⟨o, b, h1, h2, h3⟩ := ht.at hp hi
  generalize st (i + 1) = s' at h3 ⊢
  cases h3 with
  | skipE hw hq => exact absurd ⟨o, h1, hq⟩ he
  | eff hw hq => exact absurd ⟨o, h1, hq⟩ he
  | _ => exact ⟨rfl, rfl⟩
theorem Trace.h_same {i j : Nat} (hij : i ≤ j) (hj : j ≤ ops.length) (hd : ∀ k, i ≤ k → k < j → ¬ EffAt ops k) : (st j).h = (st i).h := by
  induction j with
  | zero => have : i = 0 := by omega
            subst this; rfl
  | succ j ih =>
    by_cases e : i = j + 1
    · subst e; rfl
    · rw [(ht.h1 hp (by omega) (hd j (by omega) (by omega))).1]
      exact ih (by omega) (by omega) fun k h1 h2 => hd k h1 (by omega)

theorem Trace.id1 {i : Nat} (hi : i < ops.length) : (st i).id ≤ (st (i + 1)).id ∧ (∀ id bk, Made P G ops st i id bk → (st (i + 1)).id = (st i).id + 1) ∧ (st (i + 1)).id + countNew (ops.drop (i + 1)) ≤ (st i).id + countNew (ops.drop i) := by
  obtain ⟨o, b, h1, h2, h3⟩ := ht.at hp hi
  have hdrop : ops.drop i = o :: ops.drop (i + 1) := by
    rw [List.drop_eq_getElem_cons hi]
    have := (List.getElem?_eq_some_iff.1 h1).2
    rw [this]
  have hc : countNew (ops.drop (i + 1)) ≤ countNew (ops.drop i) ∧ (isNew o.op = true → countNew (ops.drop i) = countNew (ops.drop (i + 1)) + 1) := by
    rw [hdrop]
    simp only [countNew]
    cases isNew o.op <;> simp
  generalize hs : st (i + 1) = s' at h3 ⊢
  have notmade : ∀ {X : Prop}, (wantS ops (st i).T o.guard = some false ∨ isEff o.op = true ∨ isNew o.op = false) → (∀ id bk, Made P G ops st i id bk → X) := by
    intro X hor id bk hm
    obtain ⟨o', k1, k2, k3, k4, _⟩ := hm
    rw [h1] at k1; cases k1
    rcases hor with h | h | h
    · rw [h] at k2; cases k2
    · rw [h] at k3; cases k3
    · rw [h] at k4; cases k4
  cases h3 with
  | skipE hw he => exact ⟨Nat.le_refl _, notmade (.inl hw), Nat.add_le_add_left hc.1 _⟩
  | skip hw he => exact ⟨Nat.le_refl _, notmade (.inl hw), Nat.add_le_add_left hc.1 _⟩
  | eff hw he => exact ⟨Nat.le_refl _, notmade (.inr (.inl he)), Nat.add_le_add_left hc.1 _⟩
  | new hw he hn =>
    refine ⟨Nat.le_succ _, fun _ _ _ => rfl, ?_⟩
    have := hc.2 hn
    show (st i).id + 1 + _ ≤ _
    omega
  | gives hw he hn => exact ⟨Nat.le_refl _, notmade (.inr (.inr hn)), Nat.add_le_add_left hc.1 _⟩
theorem Trace.id_le {i j : Nat} (hij : i ≤ j) (hj : j ≤ ops.length) : (st i).id ≤ (st j).id := by
  induction j with
  | zero => have : i = 0 := by omega
            subst this; exact Nat.le_refl _
  | succ j ih =>
    by_cases e : i = j + 1
    · subst e; exact Nat.le_refl _
    · exact Nat.le_trans (ih (by omega) (by omega)) (ht.id1 hp (by omega)).1
theorem Trace.id_bound {i : Nat} (hi : i ≤ ops.length) : (st i).id + countNew (ops.drop i) ≤ (st 0).id + countNew ops := by
  induction i with
  | zero => simp
  | succ i ih => exact Nat.le_trans (ht.id1 hp (by omega)).2.2 (ih (by omega))
theorem Trace.made_id {i id : Nat} {bk : Blk} (hm : Made P G ops st i id bk) : (st 0).id ≤ id ∧ id < (st 0).id + countNew ops := by
  have hi := hm.lt
  have h1 := ht.id_le hp (Nat.zero_le i) (by omega)
  have h2 := (ht.id1 hp hi).2.1 id bk hm
  have h3 := ht.id_bound hp (i := i + 1) (by omega)
  obtain ⟨_, _, _, _, _, rfl, _⟩ := hm
  exact ⟨h1, by omega⟩
theorem Trace.made_inj {i j id : Nat} {b c : Blk} (hi : Made P G ops st i id b) (hj : Made P G ops st j id c) : i = j := by
  have key : ∀ {i j id b c}, Made P G ops st i id b → Made P G ops st j id c → ¬ i < j := by
    intro i j id b c hi hj hlt
    have h1 := (ht.id1 hp hi.lt).2.1 _ _ hi
    have h2 := ht.id_le hp (i := i + 1) (j := j) (by omega) (by have := hj.lt; omega)
    obtain ⟨_, _, _, _, _, e1, _⟩ := hi
    obtain ⟨_, _, _, _, _, e2, _⟩ := hj
    omega
  have h1 := key hi hj
  have h2 := key hj hi
  omega

/-- what has been made, and not laid -/
theorem Trace.pend (h0 : (st 0).pend = []) {m : Nat} (hm : m ≤ ops.length) : ∀ i id bk, (i, id, bk) ∈ (st m).pend ↔ i < m ∧ Made P G ops st i id bk ∧ ¬ Ab ops bs i m := by
  induction m with
  | zero => intro i id bk; rw [h0]; simp
  | succ m ih =>
    have ih := ih (by omega)
    obtain ⟨o, b, h1, h2, h3⟩ := ht.at hp (by omega : m < ops.length)
    intro i id bk
    have abE : EffAt ops m → (Ab ops bs i (m + 1) ↔ Ab ops bs i m ∨ i ∈ b) := by
      intro he
      constructor
      · rintro ⟨f, c, hf, hfe, hc, hi⟩
        by_cases e : f = m
        · subst e; rw [h2] at hc; cases hc; exact .inr hi
        · exact .inl ⟨f, c, by omega, hfe, hc, hi⟩
      · rintro (⟨f, c, hf, r⟩ | hi)
        · exact ⟨f, c, by omega, r⟩
        · exact ⟨m, b, by omega, he, h2, hi⟩
    have abN : ¬ EffAt ops m → (Ab ops bs i (m + 1) ↔ Ab ops bs i m) := by
      intro he
      constructor
      · rintro ⟨f, c, hf, hfe, r⟩
        exact ⟨f, c, by have : f ≠ m := (fun e => he (e ▸ hfe)); omega, hfe, r⟩
      · rintro ⟨f, c, hf, r⟩
        exact ⟨f, c, by omega, r⟩
    have notmade : (wantS ops (st m).T o.guard = some false ∨ isEff o.op = true ∨ isNew o.op = false) → Made P G ops st i id bk → i ≠ m := by
      rintro hor hmd rfl
      obtain ⟨o', k1, k2, k3, k4, _⟩ := hmd
      rw [h1] at k1; cases k1
      rcases hor with h | h | h
      · rw [h] at k2; cases k2
      · rw [h] at k3; cases k3
      · rw [h] at k4; cases k4
    have same : ¬ EffAt ops m → (Made P G ops st i id bk → i ≠ m) → ((i, id, bk) ∈ (st m).pend ↔ i < m + 1 ∧ Made P G ops st i id bk ∧ ¬ Ab ops bs i (m + 1)) := by
      intro he hne
      rw [ih, abN he]
      constructor
      · rintro ⟨a, b, c⟩; exact ⟨by omega, b, c⟩
      · rintro ⟨a, b, c⟩; exact ⟨by have := hne b; omega, b, c⟩
    have turned : EffAt ops m → (Made P G ops st i id bk → i ≠ m) → ((i, id, bk) ∈ (absorb b (st m).pend (st m).h).1 ↔ i < m + 1 ∧ Made P G ops st i id bk ∧ ¬ Ab ops bs i (m + 1)) := by
      intro he hne
      rw [absorb_mem, ih, abE he]
      simp only [not_or]
      constructor
      · rintro ⟨⟨a, b, c⟩, d⟩; exact ⟨by omega, b, c, d⟩
      · rintro ⟨a, b, c, d⟩; exact ⟨⟨by have := hne b; omega, b, c⟩, d⟩
    have ne : isEff o.op = false → ¬ EffAt ops m := by
      rintro he ⟨o', k1, k2⟩
      rw [h1] at k1; cases k1
      rw [he] at k2; cases k2
    generalize hs : st (m + 1) = s' at h3 ⊢
    cases h3 with
    | skipE hw he => exact turned ⟨o, h1, he⟩ (notmade (.inl hw))
    | skip hw he => exact same (ne he) (notmade (.inl hw))
    | eff hw he => exact turned ⟨o, h1, he⟩ (notmade (.inr (.inl he)))
    | new hw he hn v bk' hr =>
      have hmm : Made P G ops st m (st m).id bk' := ⟨o, h1, hw, he, hn, rfl, v, hr⟩
      simp only [List.mem_cons, Prod.mk.injEq]
      constructor
      · rintro (⟨rfl, rfl, rfl⟩ | hmem)
        · refine ⟨by omega, hmm, ?_⟩
          rintro ⟨f, c, hf, hfe, hc, hi⟩
          have := hp.lt f c i hc hi
          omega
        · have := (ih i id bk).1 hmem
          exact ⟨by omega, this.2.1, fun hab => this.2.2 ((abN (ne he)).1 hab)⟩
      · rintro ⟨a, hmd, c⟩
        by_cases e : i = m
        · subst e
          obtain ⟨rfl, rfl⟩ := hmd.fn hmm
          exact .inl ⟨rfl, rfl, rfl⟩
        · exact .inr ((ih i id bk).2 ⟨by omega, hmd, fun hab => c ((abN (ne he)).2 hab)⟩)
    | gives hw he hn => exact same (ne he) (notmade (.inr (.inr hn)))
omit hp ht in
theorem absorb_sub (b : List Nat) : ∀ (pd : Pend) (h : Hp), (absorb b pd h).1.Sublist pd
  | [], h => by simp [absorb]
  | (i, id, bk) :: l, h => by
    have := absorb_sub b l h
    simp only [absorb]
    cases memN i b
    · exact this.cons_cons _
    · exact this.cons _
theorem Trace.pair (h0 : (st 0).pend = []) {m : Nat} (hm : m ≤ ops.length) : (st m).pend.Pairwise (fun x y => x.2.1 ≠ y.2.1) ∧ ∀ x ∈ (st m).pend, x.2.1 < (st m).id := by
  induction m with
  | zero => rw [h0]; simp
  | succ m ih =>
    obtain ⟨ih1, ih2⟩ := ih (by omega)
    obtain ⟨o, b, h1, h2, h3⟩ := ht.at hp (by omega : m < ops.length)
    have sub : (absorb b (st m).pend (st m).h).1.Pairwise (fun x y => x.2.1 ≠ y.2.1) ∧ ∀ x ∈ (absorb b (st m).pend (st m).h).1, x.2.1 < (st m).id :=
      ⟨ih1.sublist (absorb_sub b _ _), fun x hx => ih2 x ((absorb_sub b _ _).subset hx)⟩
    generalize hs : st (m + 1) = s' at h3 ⊢
    cases h3 with
    | skipE hw he => exact sub
    | skip hw he => exact ⟨ih1, ih2⟩
    | eff hw he => exact sub
    | new hw he hn v bk' hr =>
      refine ⟨List.pairwise_cons.2 ⟨fun x hx => ?_, ih1⟩, fun x hx => ?_⟩
      · have := ih2 x hx
        show (st m).id ≠ x.2.1
        omega
      · rcases List.mem_cons.1 hx with rfl | hx
        · exact Nat.lt_succ_self _
        · exact Nat.lt_succ_of_lt (ih2 x hx)
    | gives hw he hn => exact ⟨ih1, ih2⟩
end
end
end Go.Proofs.YtgfahpnndmocbaaGreatDoor.Sx
