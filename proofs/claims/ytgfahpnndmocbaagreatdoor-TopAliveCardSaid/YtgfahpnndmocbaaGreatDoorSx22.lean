/-
  Regions that draw their order, and all code.
-/
import Derived.Test.YtgfahpnndmocbaaGreatDoorSx21
import Derived.Orders
namespace Go.Proofs.YtgfahpnndmocbaaGreatDoor.Sx
noncomputable section
open Go Go.RowKit
set_option linter.unusedVariables false
set_option linter.unusedSimpArgs false

section
variable {P : Program} {E : En} {N : Nat} {W : World} {G : Nat → Option (List SV)} {hook : FuncId → Option (List SV → Hp → Option (SV × Hp))} {ext : FuncId → Option (List SV → Option SV)} {rec : Code → Tp → Hp → Option Out}
variable {F : Nat → Option Blk} {h : Hp} {st : Nat → Rs} {T0 : Tp} {β0 β : Bm} {a0 a : Act} {w : World} {D : Nat → Prop} {m : Nat}

theorem cut_congr {T T' : Tp} : ∀ {L : List Nat}, (∀ t ∈ L, T.get t = T'.get t) → cut T L = cut T' L
  | [], _ => rfl
  | t :: l, h => by simp only [cut]; rw [h t (by simp), cut_congr fun u hu => h u (by simp [hu])]
theorem looks_op {ops : List Oper} {o : Oper} : ∀ t ∈ opTs (opnds o.op), t ∈ looks ops o := fun t ht => List.mem_append_left _ ht

theorem Inv.step (hG : Gok E N W G) (hH : HookOk P E N W hook) (hX : ExtOk P E ext) (hN : NoCount P) (hrec : SoundC P E N W rec) {ops : Array Oper} (hP : Pass P G hook ext rec ops.toList st T0 h) (dj : Dj h F)
    (I : Inv P E N W G ops.toList st F T0 h β0 a0 D m a w β) {i : Nat} {o : Oper} {b : List Nat} (ho : ops.toList[i]? = some o) (hb : (planOf ops.toList).bs[i]? = some b) (hbD : ∀ j ∈ b, D j) (hni : ¬ D i) (hf : fitsO a0.tmps.size o = true)
    {K : Act → World → Prop} {Q : Exit → Act → World → Prop} (hK : ∀ m' a' w' β', Inv P E N W G ops.toList st F T0 h β0 a0 (Ins D i) m' a' w' β' → K a' w') : wpOp P ops Q i K a w := by
  obtain ⟨hTR, hrd⟩ := I.at hP ho hb hbD hni
  have hil := (List.getElem?_eq_some_iff.1 ho).1
  obtain ⟨o', b', ho', hb', hs⟩ := hP.tr.at hP.plan hil
  rw [ho] at ho'; cases ho'
  rw [hb] at hb'; cases hb'
  have hoA : ops[i]? = some o := by simpa using ho
  have hwant : ∀ c, wantS ops.toList (st i).T o.guard = some c → Region.wanted o (yielded ops a.tmps) = c := fun c hc =>
    wantS_ok hTR (by rw [wantS_cut fun t ht => ht]; exact hc)
  have hcut : ∀ (H : Hp), opA P G (cut (st i).T (looks ops.toList o)) H o.op = opA P G (st i).T H o.op := fun H => opA_cut looks_op
  unfold wpOp
  rw [hoA]
  simp only
  have notmade : (wantS ops.toList (st i).T o.guard = some false ∨ isEff o.op = true ∨ isNew o.op = false) → ∀ id bk, ¬ Made P G ops.toList st i id bk := by
    rintro hor id bk ⟨o', k1, k2, k3, k4, _⟩
    rw [ho] at k1; cases k1
    rcases hor with h | h | h
    · rw [h] at k2; cases k2
    · rw [h] at k3; cases k3
    · rw [h] at k4; cases k4
  have noeff : isEff o.op = false → ¬ EffAt ops.toList i := by
    rintro he ⟨o', k1, k2⟩
    rw [ho] at k1; cases k1
    rw [he] at k2; cases k2
  generalize hst : st (i + 1) = s' at hs
  cases hs with
  | skipE hw he =>
    rw [hwant _ hw]
    simp only [Bool.false_eq_true, if_false]
    have I' := I.to hP (upto_eff hP.plan I.closed ⟨o, ho, he⟩ hb hbD hni)
    exact hK _ _ _ _ (I'.turned hP dj ho he hb hbD hni hf (by rw [hst]; exact Post.same (I'.laid hP dj ⟨o, ho, he⟩ hb hbD hni).1) (.tup _ _ .nil) (by rw [hst]))
  | skip hw he =>
    rw [hwant _ hw]
    simp only [Bool.false_eq_true, if_false]
    exact hK _ _ _ _ (I.gave hP dj ho hb hbD hni (noeff he) (notmade (.inl hw)) hf (Post.same I.mem) (.tup _ _ .nil) (by rw [hst]))
  | eff hw he v h' hr =>
    rw [hwant _ hw]
    simp only [if_true]
    left
    have I' := I.to hP (upto_eff hP.plan I.closed ⟨o, ho, he⟩ hb hbD hni)
    obtain ⟨hmem, _, _⟩ := I'.laid hP dj ⟨o, ho, he⟩ hb hbD hni
    have hr' : effA P G hook ext rec (cut (st i).T (looks ops.toList o)) (absorb b (st i).pend (st i).h).2 o.op = some (v, h') := by
      unfold effA at hr ⊢
      rw [hcut]; exact hr
    refine eff_ok hG hH hX hN hrec hmem hTR hr' _ _ (fun β' w' u p hv => ?_)
    exact hK _ _ _ _ (I'.turned hP dj ho he hb hbD hni hf (by rw [hst]; exact p) hv (by rw [hst]))
  | new hw he hn v bk hr =>
    rw [hwant _ hw]
    simp only [if_true]
    left
    have hr' : newA P G (st i).id (cut (st i).T (looks ops.toList o)) o.op = some (v, bk) := by
      unfold newA at hr ⊢
      rw [hcut]; exact hr
    obtain ⟨s, mk, h1, rfl, u, ob, e, h2, h3, h4⟩ := new_ok (w := w) hTR hn hr'
    unfold Oper.wp
    rw [h1]
    simp only [Sem.run_bind, h2, Result.andThen_ok, Sem.run_pure]
    exact hK _ _ _ _ (I.made hP dj ho hb hbD hni ⟨o, ho, hw, he, hn, rfl, _, hr⟩ hf h3 h4 (by rw [hst]))
  | gives hw he hn v h1 hr hnn =>
    rw [hwant _ hw]
    simp only [if_true]
    left
    have key : opA P G (cut (st i).T (looks ops.toList o)) (st m).h o.op = .val v (st m).h := by
      cases hrr : isRead o.op
      · rw [hcut]
        exact opA_pure he hn hrr (hP.plan.ssa i o ho).1 hr hnn _
      · have hTn := hrd (by simp [hrr, he])
        have hcc : cut (st ops.toList.length).T (looks ops.toList o) = cut (st i).T (looks ops.toList o) := cut_congr hTn
        obtain ⟨lo, hi, hlo, hhi, h3, h4⟩ := window hP.plan I.closed I.upto hb hbD hni
        have hwn : wantS ops.toList (st ops.toList.length).T o.guard = some true := by
          rw [← wantS_cut (L := looks ops.toList o) fun t ht => ht, hcc, wantS_cut fun t ht => ht]; exact hw
        rcases readsOk_spec _ _ _ hP.reads i o lo hi ho hlo hhi hrr he with hx | ⟨_, hx | hx⟩
        · rw [hwn] at hx; cases hx
        · obtain ⟨lo', hi', hlo', hhi', h3', h4'⟩ := window (D := fun j => j < i) hP.plan ⟨fun j hj => by omega, fun j c k hj hc hk => by have := hP.plan.lt j c k hc hk; omega⟩ ⟨Nat.le_of_lt hil, fun e _ => Iff.rfl⟩ hb (fun j hj => hP.plan.lt i b j hb hj) (Nat.lt_irrefl i)
          rw [hlo] at hlo'; cases hlo'
          rw [hhi] at hhi'; cases hhi'
          have ee : (effsOf (ops.toList.take m) 0).length = (effsOf (ops.toList.take i) 0).length := by omega
          have c1 := hP.tr.core_at hP.plan (by rw [hP.start]) I.upto.1
          have c2 := hP.tr.core_at hP.plan (by rw [hP.start]) (Nat.le_of_lt hil)
          rw [ee, c2] at c1
          have e2 : (st i).h = (st m).h := by simpa using c1
          rw [hcut, ← e2]
          have e1 := opA_read he hrr hr
          rw [e1] at hr; exact hr
        · obtain ⟨v', h5, d, h6, h7, h8⟩ := readOk_spec _ _ hx _ _ (hP.tr.core_at hP.plan (by rw [hP.start]) I.upto.1) (by simpa using h3) (by simpa using h4)
          have h9 : (st ops.toList.length).T.get d = (st (i + 1)).T.get d := hP.tr.T_same hP.plan (by omega) (Nat.le_refl _) fun k q a1 a2 a3 a4 => by
            have := hP.plan.once k i q o d a3 ho a4 h7; omega
          rw [h9, hst, h7] at h8
          simp only [putT, Tr.get_set, if_true, Option.some.injEq] at h8
          subst h8
          have e1 := opA_read he hrr h6
          rw [e1] at h6
          rw [← hcc, opA_cut looks_op]; exact h6
    have told := opA_ok (P := P) hG I.mem hTR o
    rw [key] at told
    obtain ⟨u, w', β', h2, h3, h4⟩ := told
    unfold Oper.wp
    rw [h2]
    exact hK _ _ _ _ (I.gave hP dj ho hb hbD hni (noeff he) (notmade (.inr (.inr hn))) hf h3 h4 (by rw [hst]))

variable {L : List Oper}
/-- all is done -/
theorem Inv.done (hP : Pass P G hook ext rec L st T0 h) (dj : Dj h F) (I : Inv P E N W G L st F T0 h β0 a0 D m a w β) (hall : ∀ i, i < L.length → D i) :
    QOut E N W F β0 h a0 (.norm (st L.length).T (layAll (st L.length).pend (st L.length).h)) .normal a w := by
  have hup : Upto L D L.length := ⟨Nat.le_refl _, fun e ⟨o, ho, _⟩ => by
    have := (List.getElem?_eq_some_iff.1 ho).1
    exact ⟨fun _ => this, fun _ => hall e this⟩⟩
  have I := I.to hP hup
  have hpd := hP.tr.pend hP.plan (by rw [hP.start]) (Nat.le_refl L.length)
  have hpr := (hP.tr.pair hP.plan (by rw [hP.start]) (Nat.le_refl L.length)).1
  have hn := layAll_n (st L.length).pend (st L.length).h
  have hget := layAll_get (st L.length).pend (st L.length).h hpr
  generalize layAll (st L.length).pend (st L.length).h = H at hn hget ⊢
  have lo : ∀ {j id bk}, Made P G L st j id bk → h.n ≤ id := fun hm => by have := (hP.tr.made_id hP.plan hm).1; rw [hP.start] at this; exact this
  have cases' : ∀ id, (∃ j bk, Made P G L st j id bk ∧ ¬ Ab L (planOf L).bs j L.length) ∨ (∀ j bk, Made P G L st j id bk → Ab L (planOf L).bs j L.length) := by
    intro id
    rcases Classical.em (∃ j bk, Made P G L st j id bk ∧ ¬ Ab L (planOf L).bs j L.length) with h | h
    · exact .inl h
    · exact .inr fun j bk h1 => Classical.byContradiction fun h2 => h ⟨j, bk, h1, h2⟩
  have yes : ∀ {j id bk}, Made P G L st j id bk → ¬ Ab L (planOf L).bs j L.length → H.t.get id = some bk := fun hm ha => (hget _).1 _ _ ((hpd _ _ _).2 ⟨hm.lt, hm, ha⟩)
  have no : ∀ {id}, (∀ j bk, Made P G L st j id bk → Ab L (planOf L).bs j L.length) → H.t.get id = (st L.length).h.t.get id := fun hno =>
    (hget _).2 fun j bk hj => ((hpd _ _ _).1 hj).2.2 (hno j bk ((hpd _ _ _).1 hj).2.1)
  have hun : un H F = un (st L.length).h (FU P G L (planOf L).bs st F D L.length) := by
    funext id
    simp only [un]
    rcases cases' id with ⟨j, bk, h1, h2⟩ | hno
    · rw [yes h1 h2, (I.free j id bk h1 h2).2]
      exact ((FU_iff hP dj _ _).2 (.inr ⟨j, h1, hall j h1.lt, h2⟩)).symm
    · rw [no hno]
      have : FU P G L (planOf L).bs st F D L.length id = F id := by
        apply Option.ext
        intro c
        rw [FU_iff hP dj]
        constructor
        · rintro (h | ⟨k, h1, _, h3⟩)
          · exact h
          · exact absurd (hno k c h1) h3
        · exact .inl
      rw [this]
  have hgrow : Grow h H := by
    refine ⟨by rw [hn]; exact I.grow.1, fun id hid hnone => ?_⟩
    rw [no fun j bk hm => by have := lo hm; omega]
    exact I.grow.2 id hid hnone
  refine ⟨β, ⟨I.ext, ⟨?_, dj.grow hgrow, ?_⟩, hgrow⟩, ?_, I.defers, I.size⟩
  · rw [hun, hn]; exact I.mem.hr
  · intro id c hc
    rw [hn]
    rcases cases' id with ⟨j, bk, h1, h2⟩ | hno
    · exact (I.free j id bk h1 h2).1
    · rw [no hno] at hc; exact I.mem.lv id c hc
  · intro t x hx
    rcases Classical.em (∃ (j : Nat) (p : Oper), L[j]? = some p ∧ p.dst = some t) with ⟨j, p, hj, hd⟩ | hno
    · have hjl := (List.getElem?_eq_some_iff.1 hj).1
      have e := hP.tr.T_same hP.plan (i := j + 1) (j := L.length) (t := t) (by omega) (Nat.le_refl _) fun k q h1 h2 hk hq => by
        have := hP.plan.once k j q p t hk hj hq hd; omega
      rw [e] at hx
      exact (I.temps t).1 j p (hall j hjl) hj hd x hx
    · have e := hP.tr.T_same hP.plan (i := 0) (j := L.length) (t := t) (by omega) (Nat.le_refl _) fun k q h1 h2 hk hq => hno ⟨k, q, hk, hq⟩
      rw [e, hP.start] at hx
      exact (I.temps t).2 (fun j p _ hj hd => hno ⟨j, p, hj, hd⟩) x hx

/-- nothing is done -/
theorem Inv.begin (hP : Pass P G hook ext rec L st T0 h) (mm : Mem E N W F β h w) (hT : TR E β T0 a) :
    Inv P E N W G L st F T0 h β a (fun _ => False) 0 a { w with drawn := w.drawn + 1 } β := by
  have hFU : FU P G L (planOf L).bs st F (fun _ => False) 0 = F := by
    funext id
    apply Option.ext
    intro c
    rw [FU_iff hP mm.dj]
    constructor
    · rintro (h | ⟨k, _, h2, _⟩)
      · exact h
      · exact h2.elim
    · exact .inl
  have eh : (st 0).h = ⟨h.t, h.n + countNew L⟩ := by rw [hP.start]
  refine ⟨⟨fun i hi => hi.elim, fun i b j hi => hi.elim⟩, ⟨Nat.zero_le _, fun e _ => ⟨fun h => h.elim, fun h => by omega⟩⟩, Ext.refl _ _, ?_, ?_, ?_, ?_, ?_, rfl, rfl⟩
  · rw [hFU, eh]
    refine ⟨?_, fun id c hc => ?_, fun id c hc => ?_⟩
    · exact (mm.hr.more (Nat.le_add_right _ _)).drew
    · have := mm.dj id c hc; exact ⟨Nat.lt_of_lt_of_le this.1 (Nat.le_add_right _ _), this.2⟩
    · exact Nat.lt_of_lt_of_le (mm.lv id c hc) (Nat.le_add_right _ _)
  · intro i id bk hm _
    have := (hP.tr.made_id hP.plan hm).1; rw [hP.start] at this
    exact mm.hr.dom id this
  · intro i id bk hm _
    obtain ⟨h1, h2⟩ := hP.tr.made_id hP.plan hm
    rw [hP.start] at h1 h2
    rw [eh]
    refine ⟨h2, ?_⟩
    cases hg : h.t.get id with
    | none => rfl
    | some c => have := mm.lv id c hg; simp only at h1; omega
  · rw [eh]; exact ⟨Nat.le_add_right _ _, fun id _ e => e⟩
  · exact fun t => ⟨fun j o hj => hj.elim, fun _ x hx => hT t x hx⟩

theorem mem_direct {o : Oper} {d : Nat} : d ∈ direct o ↔ ∃ e ∈ o.after.toList, Region.binds .any e = true ∧ e.on = d := by
  unfold direct
  simp only [List.mem_filterMap]
  constructor
  · rintro ⟨e, he, h⟩
    by_cases hb : Region.binds .any e = true
    · rw [if_pos hb] at h; exact ⟨e, he, hb, by simpa using h⟩
    · rw [if_neg hb] at h; cases h
  · rintro ⟨e, he, hb, rfl⟩
    exact ⟨e, he, by rw [if_pos hb]⟩

theorem Inv.any (hG : Gok E N W G) (hH : HookOk P E N W hook) (hX : ExtOk P E ext) (hN : NoCount P) (hrec : SoundC P E N W rec) {ops : Array Oper} (hP : Pass P G hook ext rec ops.toList st T0 h) (dj : Dj h F) (hf : ops.toList.all (fitsO a0.tmps.size) = true)
    {Q : Exit → Act → World → Prop} (hend : ∀ D m a w β, Inv P E N W G ops.toList st F T0 h β0 a0 D m a w β → (∀ i, i < ops.toList.length → D i) → Q .normal a w) :
    ∀ (fuel : Nat) (listed : Array Bool) (D : Nat → Prop) (m : Nat) (a : Act) (w : World) (β : Bm), listed.size = ops.size → (∀ i, D i ↔ listed[i]? = some true) → listed.toList.countP (fun b => !b) ≤ fuel →
      Inv P E N W G ops.toList st F T0 h β0 a0 D m a w β → wpAny P .any ops Q fuel listed a w := by
  have hget : ∀ (listed : Array Bool) (D : Nat → Prop), listed.size = ops.size → (∀ i, D i ↔ listed[i]? = some true) → ∀ i, i < ops.size → (D i ↔ listed.getD i true = true) ∧ (D i ↔ listed.getD i false = true) := by
    intro listed D hs hD i hi
    rw [hD i]
    have hil : i < listed.size := by omega
    simp [Array.getD_eq_getD_getElem?, Array.getElem?_eq_getElem hil]
  have ready : ∀ (listed : Array Bool) (D : Nat → Prop) (m : Nat) (a : Act) (w : World) (β : Bm), listed.size = ops.size → (∀ i, D i ↔ listed[i]? = some true) → Inv P E N W G ops.toList st F T0 h β0 a0 D m a w β →
      Region.ready .any ops listed = [] → ∀ i, i < ops.toList.length → D i := by
    intro listed D m a w β hs hD I hr i
    induction i using Nat.strongRecOn with
    | _ i ih =>
      intro hil
      refine Classical.byContradiction fun hni => ?_
      have hil' : i < ops.size := by simpa using hil
      have : i ∈ Region.ready .any ops listed := by
        unfold Region.ready
        rw [List.mem_filter]
        refine ⟨List.mem_range.2 hil', ?_⟩
        have h1 : listed.getD i true = false := by
          cases hq : listed.getD i true
          · rfl
          · exact absurd ((hget listed D hs hD i hil').1.2 hq) hni
        rw [h1, Array.getElem?_eq_getElem hil']
        simp only [Bool.not_false, Bool.true_and, Option.map_some, Option.getD_some, Array.all_eq_true_iff_forall_mem]
        intro e he
        cases hb : Region.binds .any e
        · rfl
        · have hd : e.on ∈ direct ops[i] := mem_direct.2 ⟨e, by simpa using he, hb, rfl⟩
          have hlt := hP.plan.back i ops[i] e.on (by simp [hil']) hd
          have hDe := ih e.on hlt (by omega)
          have := (hget listed D hs hD e.on (by omega)).2.1 hDe
          simp [this]
      rw [hr] at this
      cases this
  intro fuel
  induction fuel with
  | zero =>
    intro listed D m a w β hs hD hc I
    have hall : ∀ i, i < ops.toList.length → D i := by
      intro i hi
      rw [hD i]
      have hil : i < listed.size := by rw [hs]; simpa using hi
      have h0 : listed.toList.countP (fun b => !b) = 0 := Nat.le_zero.1 hc
      rw [List.countP_eq_zero] at h0
      have := h0 listed[i] (by simp)
      rw [Array.getElem?_eq_getElem hil]
      simpa using this
    refine ⟨?_, hend D m a w β I hall⟩
    unfold Region.ready
    rw [List.filter_eq_nil_iff]
    intro i hi
    have hil := List.mem_range.1 hi
    have := (hget listed D hs hD i hil).1.1 (hall i (by simpa using hil))
    simp [this]
  | succ fuel ih =>
    intro listed D m a w β hs hD hc I
    refine ⟨fun hr => hend D m a w β I (ready listed D m a w β hs hD I hr), fun i hi => ?_⟩
    unfold Region.ready at hi
    rw [List.mem_filter] at hi
    obtain ⟨h1, h2⟩ := hi
    have hil := List.mem_range.1 h1
    simp only [Bool.and_eq_true, Bool.not_eq_true', Array.getElem?_eq_getElem hil, Option.map_some, Option.getD_some, Array.all_eq_true_iff_forall_mem] at h2
    obtain ⟨h3, h4⟩ := h2
    have hni : ¬ D i := fun hd => by
      have := (hget listed D hs hD i hil).1.1 hd
      rw [h3] at this; cases this
    have ho : ops.toList[i]? = some ops[i] := by simp [hil]
    have hbl : i < (planOf ops.toList).bs.length := by rw [hP.plan.len]; simpa using hil
    have hb := List.getElem?_eq_getElem hbl
    have hdir : ∀ d ∈ direct ops[i], D d := by
      intro d hd
      have hlt := hP.plan.back i ops[i] d ho hd
      obtain ⟨e, he, hbd, rfl⟩ := mem_direct.1 hd
      have := h4 e (by simpa using he)
      rw [hbd] at this
      exact (hget listed D hs hD e.on (by omega)).2.2 (by simpa using this)
    have hbD : ∀ j ∈ (planOf ops.toList).bs[i], D j := by
      intro j hj
      obtain ⟨d, hd, k⟩ := hP.plan.direct i _ _ j ho hb hj
      rcases k with rfl | ⟨c, hc, hx⟩
      · exact hdir _ hd
      · exact I.closed.2 d c j (hdir d hd) hc hx
    have hfo : fitsO a0.tmps.size ops[i] = true := List.all_eq_true.1 hf _ (by simp)
    refine I.step hG hH hX hN hrec hP dj ho hb hbD hni hfo (fun m' a' w' β' I' => ?_)
    have hilL : i < listed.size := by omega
    refine ih _ (Ins D i) m' a' w' β' (by simp [hs]) (fun j => ?_) ?_ I'
    · by_cases e : j = i
      · subst e; simp [Ins, hilL]
      · rw [Array.getElem?_setIfInBounds_ne (Ne.symm e), ← hD j]
        simp [Ins, e]
    · have hfalse : listed[i] = false := by
        have : listed.getD i true = listed[i] := by simp [Array.getD_eq_getD_getElem?, hilL]
        rw [← this]; exact h3
      have := List.countP_set (p := fun b => !b) (l := listed.toList) (i := i) (a := true) (by simpa using hilL)
      have e1 : listed.toList[i]'(by simpa using hilL) = false := by simpa using hfalse
      rw [e1] at this
      simp only [Array.toList_setIfInBounds]
      rw [this]
      simp only [Bool.not_false, Bool.not_true, if_true, Bool.false_eq_true, if_false]
      omega

theorem soundD (hM : P.follows .mixedOrders = true) (hG : Gok E N W G) (hH : HookOk P E N W hook) (hX : ExtOk P E ext) (hN : NoCount P) (hrec : SoundC P E N W rec) : SoundD P E N W G hook ext rec := by
  intro id ops T h r hr F β a w mm hT hf
  unfold regD at hr
  cases hp : planOk ops.toList (planOf ops.toList)
  · rw [hp] at hr; cases hr
  · rw [hp] at hr
    simp only [cond_true] at hr
    split at hr
    · rename_i s hs
      cases hrd : readsOk P G s.T ops.toList s.cores.reverse ops.toList (planOf ops.toList).lo (planOf ops.toList).hi
      · rw [hrd] at hr; cases hr
      · rw [hrd] at hr
        simp only [cond_true, Option.some.injEq] at hr
        subst hr
        obtain ⟨st, h1, rfl, h3⟩ := passD_trace _ _ _ _ _ hs
        have hP : Pass P G hook ext rec ops.toList st T h := ⟨plan_ok hp, ⟨fun i o b ho hb => by simpa using h3 i o b ho hb⟩, h1, hrd⟩
        refine wp_region_any hM ?_
        refine Inv.any (a0 := a) (β0 := β) hG hH hX hN hrec hP mm.dj hf (fun D m a' w' β' I hall => I.done hP mm.dj hall) ops.size _ (fun _ => False) 0 a _ β (by simp) (fun i => ?_) ?_ (Inv.begin hP mm hT)
        · simp [Array.getElem?_replicate]
        · have := List.countP_le_length (p := fun b => !b) (l := (Array.replicate ops.size false).toList)
          simpa using this
    · cases hr

/-- The executor is sound. -/
theorem exec_ok (hM : P.follows .mixedOrders = true) (hG : Gok E N W G) (hH : HookOk P E N W hook) (hX : ExtOk P E ext) (hN : NoCount P) : ∀ n, SoundC P E N W (exec P G hook ext n) ∧ SoundL P E N W (exec P G hook ext n)
  | 0 => ⟨fun c T h r hr => (by cases hr), fun c T h r hr => (by cases hr)⟩
  | n + 1 => by
    obtain ⟨h1, h2⟩ := exec_ok hM hG hH hX hN n
    exact codeA_ok hG hH hX hN h1 h2 (soundD hM hG hH hX hN h1)
end
end
end Go.Proofs.YtgfahpnndmocbaaGreatDoor.Sx
