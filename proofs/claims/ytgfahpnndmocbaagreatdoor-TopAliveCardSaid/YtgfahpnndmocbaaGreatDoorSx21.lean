/-
  Regions that draw their order: whichever is drawn, it leaves what the pass says.
-/
import Derived.Test.YtgfahpnndmocbaaGreatDoorSx20
namespace Go.Proofs.YtgfahpnndmocbaaGreatDoor.Sx
noncomputable section
open Go Go.RowKit
set_option linter.unusedVariables false
set_option linter.unusedSimpArgs false

section
variable {P : Program} {E : En} {N : Nat} {W : World} {G : Nat → Option (List SV)} {hook : FuncId → Option (List SV → Hp → Option (SV × Hp))} {ext : FuncId → Option (List SV → Option SV)} {rec : Code → Tp → Hp → Option Out}
variable {F : Nat → Option Blk} {h : Hp} {bs : List (List Nat)} {st : Nat → Rs} {L : List Oper}

/-- what stands beside the memory that the pass holds -/
noncomputable def FUA (P : Program) (G : Nat → Option (List SV)) (L : List Oper) (st : Nat → Rs) (F : Nat → Option Blk) (D A : Nat → Prop) : Nat → Option Blk := fun id =>
  open Classical in if hx : ∃ b, F id = some b ∨ ∃ i, Made P G L st i id b ∧ D i ∧ ¬ A i then some hx.choose else none
noncomputable def FU (P : Program) (G : Nat → Option (List SV)) (L : List Oper) (bs : List (List Nat)) (st : Nat → Rs) (F : Nat → Option Blk) (D : Nat → Prop) (m : Nat) : Nat → Option Blk := FUA P G L st F D (fun i => Ab L bs i m)

/-- the pass, and from where it goes -/
structure Pass (P : Program) (G : Nat → Option (List SV)) (hook : FuncId → Option (List SV → Hp → Option (SV × Hp))) (ext : FuncId → Option (List SV → Option SV)) (rec : Code → Tp → Hp → Option Out)
    (L : List Oper) (st : Nat → Rs) (T0 : Tp) (h : Hp) : Prop where
  plan : Plan L (planOf L).bs
  tr : Trace P G hook ext rec L (planOf L).bs st
  start : st 0 = ⟨T0, ⟨h.t, h.n + countNew L⟩, [⟨h.t, h.n + countNew L⟩], [], h.n⟩
  reads : readsOk P G (st L.length).T L (st L.length).cores.reverse L (planOf L).lo (planOf L).hi = true

variable {T0 : Tp}

theorem FU_iff (hP : Pass P G hook ext rec L st T0 h) (dj : Dj h F) {D : Nat → Prop} {m : Nat} (id : Nat) (b : Blk) :
    FU P G L (planOf L).bs st F D m id = some b ↔ F id = some b ∨ ∃ i, Made P G L st i id b ∧ D i ∧ ¬ Ab L (planOf L).bs i m := by
  have uniq : ∀ b c, (F id = some b ∨ ∃ i, Made P G L st i id b ∧ D i ∧ ¬ Ab L (planOf L).bs i m) → (F id = some c ∨ ∃ i, Made P G L st i id c ∧ D i ∧ ¬ Ab L (planOf L).bs i m) → b = c := by
    have lo : ∀ i b, Made P G L st i id b → h.n ≤ id := fun i b hm => by have := (hP.tr.made_id hP.plan hm).1; rw [hP.start] at this; exact this
    rintro b c (h1 | ⟨i, h1, _⟩) (h2 | ⟨j, h2, _⟩)
    · rw [h1] at h2; cases h2; rfl
    · have := (dj id b h1).1; have := lo j c h2; omega
    · have := (dj id c h2).1; have := lo i b h1; omega
    · have := hP.tr.made_inj hP.plan h1 h2; subst this
      exact (h1.fn h2).2
  unfold FU FUA
  split
  · rename_i hx
    constructor
    · intro he; cases he; exact hx.choose_spec
    · intro hb; rw [uniq _ _ hx.choose_spec hb]
  · rename_i hx
    constructor
    · intro he; cases he
    · intro hb; exact absurd ⟨b, hb⟩ hx

def Ins (D : Nat → Prop) (i : Nat) : Nat → Prop := fun j => D j ∨ j = i

structure Inv (P : Program) (E : En) (N : Nat) (W : World) (G : Nat → Option (List SV)) (L : List Oper) (st : Nat → Rs) (F : Nat → Option Blk) (T0 : Tp) (h : Hp) (β0 : Bm) (a0 : Act)
    (D : Nat → Prop) (m : Nat) (a : Act) (w : World) (β : Bm) : Prop where
  closed : Closed L (planOf L).bs D
  upto : Upto L D m
  ext : Ext β0 β h.n
  mem : Mem E N W (FU P G L (planOf L).bs st F D m) β (st m).h w
  undone : ∀ i id b, Made P G L st i id b → ¬ D i → β id = none
  free : ∀ i id b, Made P G L st i id b → ¬ Ab L (planOf L).bs i m → id < (st m).h.n ∧ (st m).h.t.get id = none
  grow : Grow h (st m).h
  temps : ∀ t, (∀ (j : Nat) (o : Oper), D j → L[j]? = some o → o.dst = some t → ∀ x, (st (j + 1)).T.get t = some x → ∃ v, a.tmps[t]? = some v ∧ VR E β x v) ∧
    ((∀ (j : Nat) (o : Oper), D j → L[j]? = some o → o.dst ≠ some t) → ∀ x, T0.get t = some x → ∃ v, a.tmps[t]? = some v ∧ VR E β x v)
  size : a.tmps.size = a0.tmps.size
  defers : a.defers = a0.defers

variable {β0 β : Bm} {a0 a : Act} {w : World} {D : Nat → Prop} {m : Nat}

theorem FU_same {D : Nat → Prop} {m m' : Nat} (h1 : Upto L D m) (h2 : Upto L D m') : FU P G L bs st F D m = FU P G L bs st F D m' := by
  have : (fun i => Ab L bs i m) = fun i => Ab L bs i m' := funext fun i => propext (ab_same h1 h2 i)
  unfold FU
  rw [this]

theorem Inv.to (hP : Pass P G hook ext rec L st T0 h) (I : Inv P E N W G L st F T0 h β0 a0 D m a w β) {m' : Nat} (hm : Upto L D m') : Inv P E N W G L st F T0 h β0 a0 D m' a w β := by
  have e := hP.tr.h_upto hP.plan I.upto hm
  refine ⟨I.closed, hm, I.ext, ?_, I.undone, ?_, ?_, I.temps, I.size, I.defers⟩
  · rw [← e, ← FU_same I.upto hm]; exact I.mem
  · rw [← e]; exact fun i id b hd ha => I.free i id b hd fun hx => ha ((ab_same I.upto hm i).1 hx)
  · rw [← e]; exact I.grow

/-- what an operation looks at -/
theorem Inv.at (hP : Pass P G hook ext rec L st T0 h) (I : Inv P E N W G L st F T0 h β0 a0 D m a w β) {i : Nat} {o : Oper} {b : List Nat} (ho : L[i]? = some o) (hb : (planOf L).bs[i]? = some b) (hbD : ∀ j ∈ b, D j) (hni : ¬ D i) :
    TR E β (cut (st i).T (looks L o)) a ∧ ((isRead o.op && !isEff o.op) = true → ∀ t ∈ looks L o, (st L.length).T.get t = (st i).T.get t) := by
  have hil := (List.getElem?_eq_some_iff.1 ho).1
  obtain ⟨_, b', hb', hs⟩ := hP.plan.ssa i o ho
  rw [hb] at hb'; cases hb'
  have two : ∀ t ∈ looks L o, (∃ (j : Nat) (p : Oper), D j ∧ L[j]? = some p ∧ p.dst = some t ∧ (st i).T.get t = (st (j + 1)).T.get t ∧ (st L.length).T.get t = (st i).T.get t) ∨
      ((∀ (j : Nat) (p : Oper), D j → L[j]? = some p → p.dst ≠ some t) ∧ (st i).T.get t = T0.get t ∧ ((isRead o.op && !isEff o.op) = true → (st L.length).T.get t = (st i).T.get t)) := by
    intro t ht
    rcases Classical.em (∃ (j : Nat) (p : Oper), L[j]? = some p ∧ p.dst = some t) with ⟨j, p, hj, hd⟩ | hno
    · have only : ∀ k q, L[k]? = some q → q.dst = some t → k = j := fun k q hk hq => hP.plan.once k j q p t hk hj hq hd
      rcases hs j p t hj hd ht with hjb | ⟨hst, c, hc, hic⟩
      · have hji := hP.plan.lt i b j hb hjb
        have hjl : j < L.length := by omega
        refine .inl ⟨j, p, hbD j hjb, hj, hd, ?_, ?_⟩
        · exact hP.tr.T_same hP.plan (by omega) (by omega) fun k q h1 h2 hk hq => by have := only k q hk hq; omega
        · exact hP.tr.T_same hP.plan (by omega) (Nat.le_refl _) fun k q h1 h2 hk hq => by have := only k q hk hq; omega
      · have hij := hP.plan.lt j c i hc hic
        refine .inr ⟨fun k q hk hq hqd => ?_, ?_, fun hs => by rw [hst] at hs; cases hs⟩
        · have := only k q hq hqd; subst this
          exact hni (I.closed.2 k c i hk hc hic)
        · have := hP.tr.T_same hP.plan (i := 0) (j := i) (t := t) (by omega) (by omega) fun k q h1 h2 hk hq => by have := only k q hk hq; omega
          rw [this, hP.start]
    · refine .inr ⟨fun k q _ hk hq => hno ⟨k, q, hk, hq⟩, ?_, fun _ => ?_⟩
      · have := hP.tr.T_same hP.plan (i := 0) (j := i) (t := t) (by omega) (by omega) fun k q _ _ hk hq => hno ⟨k, q, hk, hq⟩
        rw [this, hP.start]
      · exact hP.tr.T_same hP.plan (by omega) (Nat.le_refl _) fun k q _ _ hk hq => hno ⟨k, q, hk, hq⟩
  refine ⟨fun t x hx => ?_, fun hr t ht => ?_⟩
  · rw [cut_get] at hx
    split at hx
    · rename_i ht
      rcases two t ht with ⟨j, p, hj, hp, hd, e, _⟩ | ⟨hn, e, _⟩
      · rw [e] at hx; exact (I.temps t).1 j p hj hp hd x hx
      · rw [e] at hx; exact (I.temps t).2 hn x hx
    · cases hx
  · rcases two t ht with ⟨j, p, _, _, _, _, e⟩ | ⟨_, _, e⟩
    · exact e
    · exact e hr

/-- slots, one operation more -/
theorem Inv.put (hP : Pass P G hook ext rec L st T0 h) (I : Inv P E N W G L st F T0 h β0 a0 D m a w β) {i : Nat} {o : Oper} (ho : L[i]? = some o) (hni : ¬ D i) {β' : Bm} (hle : Le β β') {r : SV} {v : Value} (hr : VR E β' r v)
    (hT : (st (i + 1)).T = putT (st i).T o.dst r) (hf : fitsO a0.tmps.size o = true) (t : Nat) :
    (∀ (j : Nat) (p : Oper), Ins D i j → L[j]? = some p → p.dst = some t → ∀ x, (st (j + 1)).T.get t = some x → ∃ u, (a.put o.dst v).tmps[t]? = some u ∧ VR E β' x u) ∧
    ((∀ (j : Nat) (p : Oper), Ins D i j → L[j]? = some p → p.dst ≠ some t) → ∀ x, T0.get t = some x → ∃ u, (a.put o.dst v).tmps[t]? = some u ∧ VR E β' x u) := by
  have keep : o.dst ≠ some t → (a.put o.dst v).tmps[t]? = a.tmps[t]? := by
    intro hne
    cases hd : o.dst with
    | none => rfl
    | some d =>
      simp only [Act.put]
      rw [Array.getElem?_setIfInBounds_ne (fun e => hne (by rw [hd, e]))]
  refine ⟨fun j p hj hp hd x hx => ?_, fun hn x hx => ?_⟩
  · by_cases e : j = i
    · subst e
      rw [ho] at hp; cases hp
      rw [hT, hd] at hx
      simp only [putT, Tr.get_set, if_true, Option.some.injEq] at hx
      subst hx
      refine ⟨v, ?_, hr⟩
      rw [hd]
      simp only [Act.put]
      have := fitsO_ok hf t hd
      rw [← I.size] at this
      simp [this]
    · have hjD : D j := by rcases hj with hj | hj; exact hj; exact absurd hj e
      have hne : o.dst ≠ some t := fun ho' => e (hP.plan.once j i p o t hp ho hd ho')
      rw [keep hne]
      obtain ⟨u, h1, h2⟩ := (I.temps t).1 j p hjD hp hd x hx
      exact ⟨u, h1, h2.mono hle⟩
  · rw [keep (hn i o (.inr rfl) ho)]
    obtain ⟨u, h1, h2⟩ := (I.temps t).2 (fun j p hj => hn j p (.inl hj)) x hx
    exact ⟨u, h1, h2.mono hle⟩

theorem closed_ins (I : Closed L (planOf L).bs D) {i : Nat} {b : List Nat} (hil : i < L.length) (hb : (planOf L).bs[i]? = some b) (hbD : ∀ j ∈ b, D j) : Closed L (planOf L).bs (Ins D i) := by
  refine ⟨fun j hj => ?_, fun j c k hj hc hk => ?_⟩
  · rcases hj with hj | rfl
    · exact I.1 j hj
    · exact hil
  · rcases hj with hj | rfl
    · exact .inl (I.2 j c k hj hc hk)
    · rw [hb] at hc; cases hc; exact .inl (hbD k hk)
theorem upto_ins (I : Upto L D m) {i : Nat} (he : ¬ EffAt L i) : Upto L (Ins D i) m := by
  refine ⟨I.1, fun e hee => ?_⟩
  rw [← I.2 e hee]
  constructor
  · rintro (h | rfl)
    · exact h
    · exact absurd hee he
  · exact .inl
theorem upto_inse {i : Nat} (hil : i < L.length) (I : Upto L D i) (hni : ¬ D i) : Upto L (Ins D i) (i + 1) := by
  refine ⟨hil, fun e hee => ?_⟩
  have := I.2 e hee
  constructor
  · rintro (h | rfl)
    · have := this.1 h; omega
    · omega
  · intro hlt
    by_cases e1 : e = i
    · exact .inr e1
    · exact .inl (this.2 (by omega))

/-- an operation that neither makes nor turns memory -/
theorem Inv.gave (hP : Pass P G hook ext rec L st T0 h) (dj : Dj h F) (I : Inv P E N W G L st F T0 h β0 a0 D m a w β) {i : Nat} {o : Oper} {b : List Nat} (ho : L[i]? = some o) (hb : (planOf L).bs[i]? = some b) (hbD : ∀ j ∈ b, D j) (hni : ¬ D i)
    (he : ¬ EffAt L i) (hm : ∀ id bk, ¬ Made P G L st i id bk) (hf : fitsO a0.tmps.size o = true) {β' : Bm} {w' : World} (p : Post E N W (FU P G L (planOf L).bs st F D m) β (st m).h (st m).h β' w') {r : SV} {v : Value} (hr : VR E β' r v)
    (hT : (st (i + 1)).T = putT (st i).T o.dst r) : Inv P E N W G L st F T0 h β0 a0 (Ins D i) m (a.put o.dst v) w' β' := by
  have hil := (List.getElem?_eq_some_iff.1 ho).1
  have hFU : FU P G L (planOf L).bs st F (Ins D i) m = FU P G L (planOf L).bs st F D m := by
    funext id
    apply Option.ext
    intro bk
    rw [FU_iff hP dj, FU_iff hP dj]
    constructor
    · rintro (h | ⟨j, h1, h2 | rfl, h3⟩)
      · exact .inl h
      · exact .inr ⟨j, h1, h2, h3⟩
      · exact absurd h1 (hm _ _)
    · rintro (h | ⟨j, h1, h2, h3⟩)
      · exact .inl h
      · exact .inr ⟨j, h1, .inl h2, h3⟩
  have hle := Post.le I.mem p
  refine ⟨closed_ins I.closed hil hb hbD, upto_ins I.upto he, ?_, ?_, ?_, I.free, I.grow, I.put hP ho hni hle hr hT hf, ?_, ?_⟩
  · exact I.ext.trans p.ext I.grow.1
  · rw [hFU]; exact p.mem
  · intro j id bk hj hnd
    have h1 := I.undone j id bk hj fun hd => hnd (.inl hd)
    have hab : ¬ Ab L (planOf L).bs j m := by
      rintro ⟨f, c, hf, hfe, hc, hjc⟩
      exact hnd (.inl (I.closed.2 f c j ((I.upto.2 f hfe).2 hf) hc hjc))
    rw [p.ext id (I.free j id bk hj hab).1]; exact h1
  · rw [(put_size a o.dst v).1]; exact I.size
  · rw [(put_size a o.dst v).2]; exact I.defers

/-- an operation that makes memory -/
theorem Inv.made (hP : Pass P G hook ext rec L st T0 h) (dj : Dj h F) (I : Inv P E N W G L st F T0 h β0 a0 D m a w β) {i : Nat} {o : Oper} {b : List Nat} (ho : L[i]? = some o) (hb : (planOf L).bs[i]? = some b) (hbD : ∀ j ∈ b, D j) (hni : ¬ D i)
    {id : Nat} {bk : Blk} (hm : Made P G L st i id bk) (hf : fitsO a0.tmps.size o = true) {mk : Nat → SV} {ob : Obj} {e : Nat} {v : Value}
    (hbk : ∀ β', Le β β' → BR E β' { w with heap := w.heap.push ob } (w.heap.size, 0, e) bk) (hv : ∀ β' id, β' id = some (w.heap.size, 0, e) → VR E β' (mk id) v)
    (hT : (st (i + 1)).T = putT (st i).T o.dst (mk id)) : Inv P E N W G L st F T0 h β0 a0 (Ins D i) m (a.put o.dst v) { w with heap := w.heap.push ob } (β.add id (w.heap.size, 0, e)) := by
  have hil := (List.getElem?_eq_some_iff.1 ho).1
  have hab : ¬ Ab L (planOf L).bs i m := by
    rintro ⟨f, c, hf, hfe, hc, hjc⟩
    exact hni (I.closed.2 f c i ((I.upto.2 f hfe).2 hf) hc hjc)
  obtain ⟨hlt, hfree⟩ := I.free i id bk hm hab
  have hnone := I.undone i id bk hm hni
  have hle : Le β (β.add id (w.heap.size, 0, e)) := Bm.add_le hnone
  have hlow : h.n ≤ id := by have := (hP.tr.made_id hP.plan hm).1; rw [hP.start] at this; exact this
  have hun : un (st m).h (FU P G L (planOf L).bs st F (Ins D i) m) = upd (un (st m).h (FU P G L (planOf L).bs st F D m)) id (some bk) := by
    funext j
    simp only [un, upd]
    by_cases ej : j = id
    · subst ej
      rw [hfree, if_pos rfl]
      exact (FU_iff hP dj _ _).2 (.inr ⟨i, hm, .inr rfl, hab⟩)
    · rw [if_neg ej]
      have : FU P G L (planOf L).bs st F (Ins D i) m j = FU P G L (planOf L).bs st F D m j := by
        apply Option.ext
        intro c
        rw [FU_iff hP dj, FU_iff hP dj]
        constructor
        · rintro (h | ⟨k, h1, h2 | rfl, h3⟩)
          · exact .inl h
          · exact .inr ⟨k, h1, h2, h3⟩
          · exact absurd (h1.fn hm).1 ej
        · rintro (h | ⟨k, h1, h2, h3⟩)
          · exact .inl h
          · exact .inr ⟨k, h1, .inl h2, h3⟩
      rw [this]
  refine ⟨closed_ins I.closed hil hb hbD, upto_ins I.upto hm.not_eff, ?_, ⟨?_, ?_, I.mem.lv⟩, ?_, I.free, I.grow, I.put hP ho hni hle (hv _ _ (Bm.add_same _ _ _)) hT hf, ?_, ?_⟩
  · exact fun j hj => (Bm.add_other _ _ _ (by omega)).trans (I.ext j hj)
  · rw [hun]; exact I.mem.hr.new id hnone hlt ob bk e (hbk _ hle)
  · intro j c hc
    by_cases ej : j = id
    · subst ej; exact ⟨hlt, hfree⟩
    · rcases (FU_iff hP dj _ _).1 hc with h | ⟨k, h1, h2 | rfl, h3⟩
      · exact I.mem.dj j c ((FU_iff hP dj _ _).2 (.inl h))
      · exact I.mem.dj j c ((FU_iff hP dj _ _).2 (.inr ⟨k, h1, h2, h3⟩))
      · exact absurd (h1.fn hm).1 ej
  · intro j id' bk' hj hnd
    have hne : id' ≠ id := by
      rintro rfl
      exact hnd (.inr (hP.tr.made_inj hP.plan hj hm))
    rw [Bm.add_other _ _ _ hne]
    exact I.undone j id' bk' hj fun hd => hnd (.inl hd)
  · rw [(put_size a o.dst v).1]; exact I.size
  · rw [(put_size a o.dst v).2]; exact I.defers

/-- what must come ahead of an effect is laid -/
theorem Inv.laid (hP : Pass P G hook ext rec L st T0 h) (dj : Dj h F) {i : Nat} (I : Inv P E N W G L st F T0 h β0 a0 D i a w β) {b : List Nat} (hi : EffAt L i) (hb : (planOf L).bs[i]? = some b) (hbD : ∀ j ∈ b, D j) (hni : ¬ D i) :
    Mem E N W (FU P G L (planOf L).bs st F (Ins D i) (i + 1)) β (absorb b (st i).pend (st i).h).2 w ∧ Grow h (absorb b (st i).pend (st i).h).2 ∧
    ∀ j id bk, Made P G L st j id bk → ¬ Ab L (planOf L).bs j (i + 1) → id < (absorb b (st i).pend (st i).h).2.n ∧ (absorb b (st i).pend (st i).h).2.t.get id = none := by
  have hil : i ≤ L.length := I.upto.1
  have hpd := hP.tr.pend hP.plan (by rw [hP.start]) hil
  have hpr := (hP.tr.pair hP.plan (by rw [hP.start]) hil).1
  have hn := absorb_n b (st i).pend (st i).h
  have hget := absorb_get b (st i).pend (st i).h hpr
  generalize hH : (absorb b (st i).pend (st i).h).2 = H at hn hget ⊢
  have lo : ∀ {j id bk}, Made P G L st j id bk → h.n ≤ id := fun hm => by have := (hP.tr.made_id hP.plan hm).1; rw [hP.start] at this; exact this
  have abb : ∀ j, j ∈ b → Ab L (planOf L).bs j (i + 1) := fun j hj => ⟨i, b, by omega, hi, hb, hj⟩
  have abm : ∀ j, Ab L (planOf L).bs j i → Ab L (planOf L).bs j (i + 1) := fun j ⟨f, c, h1, r⟩ => ⟨f, c, by omega, r⟩
  have abr : ∀ j, Ab L (planOf L).bs j (i + 1) → Ab L (planOf L).bs j i ∨ j ∈ b := by
    rintro j ⟨f, c, h1, h2, h3, h4⟩
    by_cases e : f = i
    · subst e; rw [hb] at h3; cases h3; exact .inr h4
    · exact .inl ⟨f, c, by omega, h2, h3, h4⟩
  -- laid now
  have yes : ∀ {j id bk}, Made P G L st j id bk → ¬ Ab L (planOf L).bs j i → j ∈ b → H.t.get id = some bk := fun hm ha hj =>
    (hget _).1 _ _ ((hpd _ _ _).2 ⟨hP.plan.lt i b _ hb hj, hm, ha⟩) hj
  -- not laid now
  have no : ∀ id, (∀ j bk, Made P G L st j id bk → ¬ Ab L (planOf L).bs j i → j ∉ b) → H.t.get id = (st i).h.t.get id := fun id hno =>
    (hget id).2 fun j bk hj => hno j bk ((hpd _ _ _).1 hj).2.1 ((hpd _ _ _).1 hj).2.2
  have low : ∀ id, id < h.n → H.t.get id = (st i).h.t.get id := fun id hid => no id fun j bk hm _ _ => by have := lo hm; omega
  have free' : ∀ j id bk, Made P G L st j id bk → ¬ Ab L (planOf L).bs j (i + 1) → id < H.n ∧ H.t.get id = none := by
    intro j id bk hm ha
    obtain ⟨f1, f2⟩ := I.free j id bk hm fun h => ha (abm j h)
    refine ⟨by rw [hn]; exact f1, ?_⟩
    rw [no id fun k c hk _ hkb => ?_]
    · exact f2
    · have := hP.tr.made_inj hP.plan hk hm; subst this
      exact ha (abb _ hkb)
  have same : ∀ id, (∀ j bk, Made P G L st j id bk → ¬ Ab L (planOf L).bs j i → j ∉ b) → FU P G L (planOf L).bs st F (Ins D i) (i + 1) id = FU P G L (planOf L).bs st F D i id := by
    intro id hno
    apply Option.ext
    intro c
    rw [FU_iff hP dj, FU_iff hP dj]
    constructor
    · rintro (h | ⟨k, h1, h2 | rfl, h3⟩)
      · exact .inl h
      · exact .inr ⟨k, h1, h2, fun h => h3 (abm k h)⟩
      · exact absurd hi h1.not_eff
    · rintro (h | ⟨k, h1, h2, h3⟩)
      · exact .inl h
      · refine .inr ⟨k, h1, .inl h2, fun h => ?_⟩
        rcases abr k h with h | h
        · exact h3 h
        · exact hno k c h1 h3 h
  -- one that is laid now stands no more beside
  have gone : ∀ {j id bk}, Made P G L st j id bk → j ∈ b → FU P G L (planOf L).bs st F (Ins D i) (i + 1) id = none := by
    intro j id bk hm hj
    cases hc : FU P G L (planOf L).bs st F (Ins D i) (i + 1) id with
    | none => rfl
    | some c =>
      rcases (FU_iff hP dj _ _).1 hc with h | ⟨k, h1, _, h3⟩
      · have := (dj id c h).1; have := lo hm; omega
      · have := hP.tr.made_inj hP.plan h1 hm; subst this
        exact absurd (abb _ hj) h3
  have cases' : ∀ id, (∃ j bk, Made P G L st j id bk ∧ ¬ Ab L (planOf L).bs j i ∧ j ∈ b) ∨ (∀ j bk, Made P G L st j id bk → ¬ Ab L (planOf L).bs j i → j ∉ b) := by
    intro id
    rcases Classical.em (∃ j bk, Made P G L st j id bk ∧ ¬ Ab L (planOf L).bs j i ∧ j ∈ b) with h | h
    · exact .inl h
    · exact .inr fun j bk h1 h2 h3 => h ⟨j, bk, h1, h2, h3⟩
  have hun : un H (FU P G L (planOf L).bs st F (Ins D i) (i + 1)) = un (st i).h (FU P G L (planOf L).bs st F D i) := by
    funext id
    rcases cases' id with ⟨j, bk, h1, h2, h3⟩ | hno
    · simp only [un]
      rw [yes h1 h2 h3, (I.free j id bk h1 h2).2]
      exact ((FU_iff hP dj _ _).2 (.inr ⟨j, h1, hbD j h3, h2⟩)).symm
    · simp only [un]
      rw [no id hno, same id hno]
  refine ⟨⟨?_, ?_, ?_⟩, ⟨?_, ?_⟩, free'⟩
  · rw [hun, hn]; exact I.mem.hr
  · intro id c hc
    rcases cases' id with ⟨j, bk, h1, h2, h3⟩ | hno
    · rw [gone h1 h3] at hc; cases hc
    · rw [same id hno] at hc
      rw [hn, no id hno]
      exact I.mem.dj id c hc
  · intro id c hc
    rw [hn]
    rcases cases' id with ⟨j, bk, h1, h2, h3⟩ | hno
    · exact (I.free j id bk h1 h2).1
    · rw [no id hno] at hc; exact I.mem.lv id c hc
  · rw [hn]; exact I.grow.1
  · intro id hid hnone
    rw [low id hid]; exact I.grow.2 id hid hnone

/-- an effect -/
theorem Inv.turned (hP : Pass P G hook ext rec L st T0 h) (dj : Dj h F) {i : Nat} (I : Inv P E N W G L st F T0 h β0 a0 D i a w β) {o : Oper} {b : List Nat} (ho : L[i]? = some o) (he : isEff o.op = true) (hb : (planOf L).bs[i]? = some b) (hbD : ∀ j ∈ b, D j) (hni : ¬ D i)
    (hf : fitsO a0.tmps.size o = true) {β' : Bm} {w' : World} (p : Post E N W (FU P G L (planOf L).bs st F (Ins D i) (i + 1)) β (absorb b (st i).pend (st i).h).2 (st (i + 1)).h β' w') {r : SV} {v : Value} (hr : VR E β' r v)
    (hT : (st (i + 1)).T = putT (st i).T o.dst r) : Inv P E N W G L st F T0 h β0 a0 (Ins D i) (i + 1) (a.put o.dst v) w' β' := by
  have hil := (List.getElem?_eq_some_iff.1 ho).1
  obtain ⟨hmem, hgrow, hfree⟩ := I.laid hP dj ⟨o, ho, he⟩ hb hbD hni
  have hcl := closed_ins I.closed hil hb hbD
  have hup := upto_inse hil I.upto hni
  refine ⟨hcl, hup, ?_, p.mem, ?_, ?_, hgrow.trans p.grow, I.put hP ho hni (Post.le hmem p) hr hT hf, ?_, ?_⟩
  · exact I.ext.trans p.ext hgrow.1
  · intro j id bk hj hnd
    have h1 := I.undone j id bk hj fun hd => hnd (.inl hd)
    have hab : ¬ Ab L (planOf L).bs j (i + 1) := by
      rintro ⟨f, c, hf, hfe, hc, hjc⟩
      exact hnd (hcl.2 f c j ((hup.2 f hfe).2 hf) hc hjc)
    rw [p.ext id (hfree j id bk hj hab).1]; exact h1
  · intro j id bk hj hab
    obtain ⟨h1, h2⟩ := hfree j id bk hj hab
    exact ⟨Nat.lt_of_lt_of_le h1 p.grow.1, p.grow.2 id h1 h2⟩
  · rw [(put_size a o.dst v).1]; exact I.size
  · rw [(put_size a o.dst v).2]; exact I.defers
end
end
end Go.Proofs.YtgfahpnndmocbaaGreatDoor.Sx
