/-
  Regions that draw their order: effects, cores, reads.
-/
import Derived.Test.YtgfahpnndmocbaaGreatDoorSx19
namespace Go.Proofs.YtgfahpnndmocbaaGreatDoor.Sx
noncomputable section
open Go Go.RowKit
set_option linter.unusedVariables false
set_option linter.unusedSimpArgs false

section
variable {P : Program} {G : Nat → Option (List SV)} {hook : FuncId → Option (List SV → Hp → Option (SV × Hp))} {ext : FuncId → Option (List SV → Option SV)} {rec : Code → Tp → Hp → Option Out}
variable {ops : List Oper} {bs : List (List Nat)} {st : Nat → Rs}

/-- what is done so far: with each, all that must come ahead -/
def Closed (ops : List Oper) (bs : List (List Nat)) (D : Nat → Prop) : Prop := (∀ i, D i → i < ops.length) ∧ ∀ i b j, D i → bs[i]? = some b → j ∈ b → D j
/-- the effects that are done are those ahead of m -/
def Upto (ops : List Oper) (D : Nat → Prop) (m : Nat) : Prop := m ≤ ops.length ∧ ∀ e, EffAt ops e → (D e ↔ e < m)

theorem closed_direct (hp : Plan ops bs) {D : Nat → Prop} (hlt : ∀ i, D i → i < ops.length) (h : ∀ i o d, D i → ops[i]? = some o → d ∈ direct o → D d) : Closed ops bs D := by
  refine ⟨hlt, ?_⟩
  intro i
  induction i using Nat.strongRecOn with
  | _ i ih =>
    intro b j hi hb hj
    have hil := hlt i hi
    obtain ⟨d, hd, k⟩ := hp.direct i ops[i] b j (List.getElem?_eq_getElem hil) hb hj
    have hDd := h i _ d hi (List.getElem?_eq_getElem hil) hd
    rcases k with rfl | ⟨c, hc, hx⟩
    · exact hDd
    · exact ih d (hp.back i _ d (List.getElem?_eq_getElem hil) hd) c j hDd hc hx

/-- an effect whose forerunners are done: the effects done are those ahead of it -/
theorem upto_eff (hp : Plan ops bs) {D : Nat → Prop} (hc : Closed ops bs D) {i : Nat} {b : List Nat} (hi : EffAt ops i) (hb : bs[i]? = some b) (hbD : ∀ j ∈ b, D j) (hni : ¬ D i) : Upto ops D i := by
  refine ⟨?_, fun e he => ⟨fun hD => ?_, fun hlt => ?_⟩⟩
  · obtain ⟨o, ho, _⟩ := hi; exact Nat.le_of_lt (List.getElem?_eq_some_iff.1 ho).1
  · -- none at i or behind
    refine Classical.byContradiction fun hge => ?_
    have key : ∀ f, EffAt ops f → i ≤ f → ¬ D f := by
      intro f
      induction f using Nat.strongRecOn with
      | _ f ih =>
        intro hf hif hD
        by_cases e : f = i
        · subst e; exact hni hD
        · obtain ⟨o, ho, hoe⟩ := hf
          rcases hp.chain f o ho hoe with k | ⟨g, p, hg, hge, hgf, hmax, c, hcc, hgc⟩
          · obtain ⟨o', ho', hoe'⟩ := hi
            exact k i o' ho' hoe' (by omega)
          · obtain ⟨o', ho', hoe'⟩ := hi
            have := hmax i o' ho' hoe' (by omega)
            exact ih g hgf ⟨p, hg, hge⟩ this (hc.2 f c g hD hcc hgc)
    exact key e he (by omega) hD
  · have key : ∀ k f, i - f ≤ k → EffAt ops f → f < i → D f := by
      -- downwards from i
      intro k
      induction k with
      | zero => intro f h1 _ h2; omega
      | succ k ih =>
        intro f h1 hf h2
        -- the next effect behind f that does not go beyond i
        have : ∃ g, EffAt ops g ∧ f < g ∧ g ≤ i ∧ ∀ x, EffAt ops x → x < g → x ≤ f := by
          have aux : ∀ n g, g - f ≤ n → EffAt ops g → f < g → g ≤ i → ∃ g, EffAt ops g ∧ f < g ∧ g ≤ i ∧ ∀ x, EffAt ops x → x < g → x ≤ f := by
            intro n
            induction n with
            | zero => intro g h1 _ h2; omega
            | succ n ihn =>
              intro g h3 hg h4 h5
              rcases Classical.em (∀ x, EffAt ops x → x < g → x ≤ f) with h | h
              · exact ⟨g, hg, h4, h5, h⟩
              · simp only [Classical.not_forall] at h
                obtain ⟨x, hx, hxg, hxf⟩ := h
                exact ihn x (by omega) hx (by omega) (by omega)
          exact aux (i - f) i (Nat.le_refl _) hi h2 (Nat.le_refl _)
        obtain ⟨g, hg, hfg, hgi, hmin⟩ := this
        obtain ⟨o, ho, hoe⟩ := hg
        obtain ⟨p, hp1, hp2⟩ := hf
        rcases hp.chain g o ho hoe with q | ⟨x, y, hx, hxe, hxg, hmax, c, hcc, hxc⟩
        · exact absurd hfg (q f p hp1 hp2)
        · have e : x = f := by
            have a1 := hmax f p hp1 hp2 hfg
            have a2 := hmin x ⟨y, hx, hxe⟩ hxg
            omega
          subst e
          by_cases eg : g = i
          · subst eg; rw [hb] at hcc; cases hcc; exact hbD x hxc
          · exact hc.2 g c x (ih g (by omega) ⟨o, ho, hoe⟩ (by omega)) hcc hxc
    exact key (i - e) e (Nat.le_refl _) he hlt

theorem upto_same {D : Nat → Prop} {m m' : Nat} (h : Upto ops D m) (h' : Upto ops D m') : ∀ k, m ≤ k → k < m' → ¬ EffAt ops k := by
  intro k h1 h2 he
  have a := (h.2 k he).1 ((h'.2 k he).2 h2)
  omega
theorem ab_same {D : Nat → Prop} {m m' : Nat} (h : Upto ops D m) (h' : Upto ops D m') (i : Nat) : Ab ops bs i m ↔ Ab ops bs i m' := by
  constructor
  · rintro ⟨f, b, h1, h2, r⟩; exact ⟨f, b, (h'.2 f h2).1 ((h.2 f h2).2 h1), h2, r⟩
  · rintro ⟨f, b, h1, h2, r⟩; exact ⟨f, b, (h.2 f h2).1 ((h'.2 f h2).2 h1), h2, r⟩
theorem Trace.h_upto (hp : Plan ops bs) (ht : Trace P G hook ext rec ops bs st) {D : Nat → Prop} {m m' : Nat} (h : Upto ops D m) (h' : Upto ops D m') : (st m).h = (st m').h := by
  rcases Nat.le_total m m' with hle | hle
  · exact (ht.h_same hp hle h'.1 (upto_same h h')).symm
  · exact ht.h_same hp hle h.1 (upto_same h' h)

theorem effsOf_append : ∀ (l m : List Oper) (i : Nat), effsOf (l ++ m) i = effsOf l i ++ effsOf m (i + l.length)
  | [], m, i => by simp [effsOf]
  | o :: l, m, i => by
    simp only [List.cons_append, effsOf, effsOf_append l m (Nat.succ i), List.length_cons]
    rw [show i.succ + l.length = i + (l.length + 1) by omega]
    cases isEff o.op <;> simp
theorem effs_take (m : Nat) : effsOf ops 0 = effsOf (ops.take m) 0 ++ effsOf (ops.drop m) (ops.take m).length := by
  have := effsOf_append (ops.take m) (ops.drop m) 0
  rw [List.take_append_drop, Nat.zero_add] at this
  exact this

/-- the cores, the latest first -/
theorem Trace.cores (hp : Plan ops bs) (ht : Trace P G hook ext rec ops bs st) (h0 : (st 0).cores = [(st 0).h]) {m : Nat} (hm : m ≤ ops.length) :
    (st m).cores.length = (effsOf (ops.take m) 0).length + 1 ∧ ∃ r, (st m).cores = (st m).h :: r := by
  induction m with
  | zero => rw [h0]; simp [effsOf]
  | succ m ih =>
    obtain ⟨ih1, r, ih2⟩ := ih (by omega)
    have hml : m < ops.length := by omega
    obtain ⟨o, b, h1, h2, h3⟩ := ht.at hp hml
    have htake : ops.take (m + 1) = ops.take m ++ [o] := by
      rw [List.take_add_one, h1]; rfl
    have hl : (effsOf (ops.take (m + 1)) 0).length = (effsOf (ops.take m) 0).length + if isEff o.op then 1 else 0 := by
      rw [htake, effsOf_append]
      simp only [effsOf, List.length_append]
      cases isEff o.op <;> simp
    rw [hl]
    generalize hs : st (m + 1) = s' at h3 ⊢
    cases h3 with
    | skipE hw he => simp [he, ih1]
    | skip hw he => simp only [he]; exact ⟨by simpa using ih1, r, ih2⟩
    | eff hw he => simp [he, ih1]
    | new hw he hn => simp only [he]; exact ⟨by simpa using ih1, r, ih2⟩
    | gives hw he hn => simp only [he]; exact ⟨by simpa using ih1, r, ih2⟩
theorem Trace.cores_suffix (hp : Plan ops bs) (ht : Trace P G hook ext rec ops bs st) {m n : Nat} (hmn : m ≤ n) (hn : n ≤ ops.length) : ∃ p, (st n).cores = p ++ (st m).cores := by
  induction n with
  | zero => have : m = 0 := by omega
            subst this; exact ⟨[], rfl⟩
  | succ n ih =>
    by_cases e : m = n + 1
    · subst e; exact ⟨[], rfl⟩
    · obtain ⟨p, hpp⟩ := ih (by omega) (by omega)
      obtain ⟨o, b, h1, h2, h3⟩ := ht.at hp (by omega : n < ops.length)
      generalize hs : st (n + 1) = s' at h3 ⊢
      cases h3 with
      | skipE hw he => exact ⟨_ :: p, by rw [List.cons_append, ← hpp]⟩
      | eff hw he => exact ⟨_ :: p, by rw [List.cons_append, ← hpp]⟩
      | _ => exact ⟨p, hpp⟩
theorem Trace.core_at (hp : Plan ops bs) (ht : Trace P G hook ext rec ops bs st) (h0 : (st 0).cores = [(st 0).h]) {m : Nat} (hm : m ≤ ops.length) :
    (st ops.length).cores.reverse[(effsOf (ops.take m) 0).length]? = some (st m).h := by
  obtain ⟨h1, r, h2⟩ := ht.cores hp h0 hm
  obtain ⟨p, h3⟩ := ht.cores_suffix hp hm (Nat.le_refl _)
  rw [h3, List.reverse_append, List.getElem?_append_left (by simp [h1]), h2, List.reverse_cons]
  have : r.length = (effsOf (ops.take m) 0).length := by rw [h2] at h1; simpa using h1
  rw [← this, List.getElem?_append_right (by simp)]
  simp

theorem countIn_le {b : List Nat} : ∀ {A : List Nat}, countIn b A ≤ A.length
  | [] => Nat.le_refl _
  | e :: es => by
    have := countIn_le (b := b) (A := es)
    simp only [countIn]
    cases memN e b <;> simp <;> omega
theorem countIn_append {b : List Nat} : ∀ {A B : List Nat}, countIn b (A ++ B) = countIn b A + countIn b B
  | [], B => by simp [countIn]
  | e :: A, B => by
    simp only [List.cons_append, countIn, countIn_append (A := A)]
    cases memN e b <;> simp <;> omega
theorem countIn_none {b : List Nat} : ∀ {B : List Nat}, (∀ e ∈ B, e ∉ b) → countIn b B = 0
  | [], _ => rfl
  | e :: B, h => by
    have : memN e b = false := by
      cases hm : memN e b
      · rfl
      · exact absurd (mem_memN.1 hm) (h e (by simp))
    simp only [countIn, this, cond_false]
    exact countIn_none fun x hx => h x (by simp [hx])
theorem hiOf_ge {i : Nat} : ∀ {A B : List Nat}, (∀ e ∈ A, ∃ b, bs[e]? = some b ∧ i ∉ b) → A.length ≤ hiOf bs i (A ++ B)
  | [], B, _ => Nat.zero_le _
  | e :: A, B, h => by
    obtain ⟨b, hb, hi⟩ := h e (by simp)
    have : memN i b = false := by
      cases hm : memN i b
      · rfl
      · exact absurd (mem_memN.1 hm) hi
    simp only [List.cons_append, hiOf, lget_eq, hb, this, cond_false, List.length_cons]
    exact Nat.succ_le_succ (hiOf_ge fun x hx => h x (by simp [hx]))

theorem upto_get : ∀ (n i k : Nat), (upto n i)[k]? = if k < n then some (i + k) else none
  | 0, i, k => by simp [upto]
  | n + 1, i, k => by
    cases k with
    | zero => simp [upto]
    | succ k =>
      simp only [upto, List.getElem?_cons_succ, upto_get n (Nat.succ i) k]
      by_cases h : k < n
      · simp [h]; omega
      · simp [h]

/-- the cores that a read may look at -/
theorem window (hp : Plan ops (planOf ops).bs) {D : Nat → Prop} (hc : Closed ops (planOf ops).bs D) {m : Nat} (hm : Upto ops D m) {i : Nat} {b : List Nat} (hb : (planOf ops).bs[i]? = some b) (hbD : ∀ j ∈ b, D j) (hni : ¬ D i) :
    ∃ lo hi, (planOf ops).lo[i]? = some lo ∧ (planOf ops).hi[i]? = some hi ∧ lo ≤ (effsOf (ops.take m) 0).length ∧ (effsOf (ops.take m) 0).length ≤ hi := by
  have hil : i < ops.length := by rw [← hp.len]; exact (List.getElem?_eq_some_iff.1 hb).1
  refine ⟨countIn b (effsOf ops 0), hiOf (planOf ops).bs i (effsOf ops 0), ?_, ?_, ?_, ?_⟩
  · show ((planOf ops).bs.map _)[i]? = _
    rw [List.getElem?_map, hb]; rfl
  · show ((upto ops.length 0).map _)[i]? = _
    rw [List.getElem?_map, upto_get, if_pos hil, Nat.zero_add]; rfl
  · rw [effs_take m, countIn_append, countIn_none (B := effsOf (ops.drop m) _), Nat.add_zero]
    · exact countIn_le
    · intro e he hx
      obtain ⟨q, o, h1, h2, h3⟩ := (effsOf_spec _ _ e).1 he
      rw [List.getElem?_drop] at h1
      have hlen : (ops.take m).length = m := by simp [hm.1]
      rw [hlen] at h3
      have := (hm.2 e ⟨o, by rw [h3]; exact h1, h2⟩).1 (hbD e hx)
      omega
  · have key := hiOf_ge (bs := (planOf ops).bs) (i := i) (A := effsOf (ops.take m) 0) (B := effsOf (ops.drop m) (ops.take m).length) ?_
    · rw [← effs_take m] at key; exact key
    intro e he
    obtain ⟨q, o, h1, h2, h3⟩ := (effsOf_spec _ _ e).1 he
    rw [List.getElem?_take] at h1
    split at h1
    · rename_i hq
      rw [Nat.zero_add] at h3; subst h3
      have hel : e < (planOf ops).bs.length := by rw [hp.len]; exact (List.getElem?_eq_some_iff.1 h1).1
      refine ⟨(planOf ops).bs[e], List.getElem?_eq_getElem hel, fun hx => hni ?_⟩
      exact hc.2 e _ i ((hm.2 e ⟨o, h1, h2⟩).2 hq) (List.getElem?_eq_getElem hel) hx
    · cases h1

theorem readOk_spec {T : Tp} {o : Oper} {lo hi : Nat} : ∀ (cs : List Hp) (k : Nat), readOk P G T o cs k lo hi = true → ∀ q h, cs[q]? = some h → lo ≤ k + q → k + q ≤ hi →
    ∃ v h1 d, opA P G T h o.op = .val v h1 ∧ o.dst = some d ∧ T.get d = some v
  | [], k, _, q, h, hq, _, _ => by simp at hq
  | c :: cs, k, hr, q, h, hq, h1, h2 => by
    simp only [readOk, Bool.and_eq_true] at hr
    cases q with
    | zero =>
      simp at hq; subst hq
      have e : (Nat.ble lo k && Nat.ble k hi) = true := by
        rw [Bool.and_eq_true]; exact ⟨Nat.ble_eq_true_of_le (by simpa using h1), Nat.ble_eq_true_of_le (by simpa using h2)⟩
      rw [e] at hr
      simp only [cond_true] at hr
      have hr1 := hr.1
      split at hr1
      · rename_i v h3 d ho hd
        split at hr1
        · rename_i x hx
          have := sameV_eq hr1
          subst this
          exact ⟨_, _, d, ho, hd, hx⟩
        · cases hr1
      · cases hr1
    | succ q =>
      simp at hq
      exact readOk_spec cs (Nat.succ k) hr.2 q h hq (by omega) (by omega)
theorem readsOk_spec {T : Tp} {cores : List Hp} : ∀ (l : List Oper) (los his : List Nat), readsOk P G T ops cores l los his = true → ∀ (q : Nat) (o : Oper) (lo hi : Nat), l[q]? = some o → los[q]? = some lo → his[q]? = some hi →
    isRead o.op = true → isEff o.op = false → wantS ops T o.guard = some false ∨ (wantS ops T o.guard = some true ∧ (lo = hi ∨ readOk P G T o cores 0 lo hi = true))
  | [], los, his, _, q, o, lo, hi, h, _, _, _, _ => by simp at h
  | o :: l, [], his, h, q, o', lo, hi, _, h2, _, _, _ => by simp at h2
  | o :: l, _ :: _, [], h, q, o', lo, hi, _, _, h3, _, _ => by simp at h3
  | o :: l, lo :: los, hi :: his, h, q, o', lo', hi', h1, h2, h3, hr, he => by
    simp only [readsOk, Bool.and_eq_true] at h
    cases q with
    | zero =>
      simp at h1 h2 h3; subst h1 h2 h3
      have h4 := h.1
      simp only [hr, he, Bool.not_false, Bool.and_self, cond_true] at h4
      split at h4
      · rename_i hw
        refine .inr ⟨hw, ?_⟩
        cases hb : Nat.beq lo hi
        · rw [hb] at h4; exact .inr h4
        · exact .inl (Nat.eq_of_beq_eq_true hb)
      · rename_i hw; exact .inl hw
      · cases h4
    | succ q =>
      simp at h1 h2 h3
      exact readsOk_spec l los his h.2 q o' lo' hi' h1 h2 h3 hr he
end
end
end Go.Proofs.YtgfahpnndmocbaaGreatDoor.Sx
