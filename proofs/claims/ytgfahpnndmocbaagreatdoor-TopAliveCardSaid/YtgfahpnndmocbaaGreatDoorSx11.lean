/-
  The executor's operations are the model's: copy, clear, len, min and max, maps, iterators.
-/
import Derived.Test.YtgfahpnndmocbaaGreatDoorSx10
namespace Go.Proofs.YtgfahpnndmocbaaGreatDoor.Sx
noncomputable section
open Go Go.RowKit
set_option linter.unusedVariables false
set_option linter.unusedSimpArgs false

section
variable {P : Program} {E : En} {N : Nat} {W : World} {β : Bm} {h : Hp} {F : Nat → Option Blk} {w : World}

/-- cells laid into a block that a slice lies in -/
theorem put_ok (m : Mem E N W F β h w) {id off b o e : Nat} {l l' cs : List SV} {ws : Array Value} (hb : β id = some (b, o, e)) (hl : h.t.get id = some (.cells l)) (hput : lput l off cs = some l')
    (k2 : VRs E β cs ws.toList) (k3 : allOne cs = true) :
    ∃ w', (storeCells ⟨b, o + off, none⟩ ws.toList).run P w = .ok () w' ∧ Post E N W F β h (h.put id (.cells l')) β w' := by
  obtain ⟨b', o', e'', c, ty', pre, vs, post, q1, q2, q3, q4, q5, q6, q7⟩ := m.row hl
  rw [hb] at q1; cases q1
  obtain ⟨w', r1, r2, r3, r4, r5, r6, r7⟩ := store_row (P := P) q3 q4 q5 q2 q6 q7 k2 k3 hput
  exact ⟨w', r1, m.turn hl hb r2 r3 r4 r5 r6 r7⟩

theorem copyA_ok (m : Mem E N W F β h w) {t ty : TypeId} {d s r : SV} {vd vs : Value} {h' : Hp} (hd : VR E β d vd) (hs : VR E β s vs)
    (hc : copyA P h t d s = some (r, h')) {ats : Array TypeId} (ha0 : ats[0]? = some t) :
    ∃ v w' β', (Builtin.copy_ ats ty #[vd, vs]).run P w = .ok v w' ∧ Post E N W F β h h' β' w' ∧ VR E β' r v := by
  unfold copyA at hc
  have a0 : (#[vd, vs] : Array Value)[0]? = some vd := rfl
  have a1 : (#[vd, vs] : Array Value)[1]? = some vs := rfl
  split at hc
  · cases hc
  · rename_i e sz he
    obtain ⟨hu, hsz⟩ := elemO_ok he
    split at hc
    · rename_i dl sl hdl hsl
      have hlen := (lenS_ok (P := P) (w := w) hs hsl).1
      simp only at hc
      have hmin : (bif Nat.ble sl dl then sl else dl) = Nat.min sl dl := by
        cases hb : Nat.ble sl dl
        · have : ¬ sl ≤ dl := fun hle => by rw [Nat.ble_eq_true_of_le hle] at hb; cases hb
          simp only [cond_false]; exact (Nat.min_eq_right (by omega)).symm
        · simp only [cond_true]; exact (Nat.min_eq_left (Nat.le_of_ble_eq_true hb)).symm
      rw [hmin] at hc
      split at hc
      · cases hc
      · rename_i cs hcs
        obtain ⟨ws, k1, k2, k3⟩ := firstS_ok (P := P) m hs hcs
        have run : ∀ (base : Option Addr) (cap : Nat) (w' : World), vd = .slice base dl cap → (∀ a, base = some a → (storeCells a ws.toList).run P w = .ok () w') → (base = none → w' = w) →
            (Builtin.copy_ ats ty #[vd, vs]).run P w = .ok (goInt (Nat.min sl dl : Nat)) w' := by
          intro base cap w' hv hst hnil
          subst hv
          simp only [Builtin.copy_, ha0, a0, a1, Sem.run_bind, run_und hu, Result.andThen_ok, hlen, szO_run hsz, k1 w rfl]
          cases base with
          | none => rw [hnil rfl]; rfl
          | some a => simp only [Sem.run_bind, hst a rfl, Result.andThen_ok, Sem.run_pure]
        split at hc
        · cases hd
          simp only [lenS, Option.some.injEq] at hdl; subst hdl
          simp only [Option.some.injEq, Prod.mk.injEq] at hc
          obtain ⟨rfl, rfl⟩ := hc
          have := run none 0 w rfl (fun a ha => by cases ha) (fun _ => rfl)
          refine ⟨_, w, β, this, Post.same m, ?_⟩
          have : Nat.min sl 0 = 0 := Nat.min_zero sl
          rw [this]; exact .int _ _
        · rename_i id off n1 cap
          simp only [lenS, Option.some.injEq] at hdl; subst hdl
          cases hd
          rename_i b o e' hb
          split at hc
          · rename_i l hl
            split at hc
            · rename_i l' hput
              simp only [Option.some.injEq, Prod.mk.injEq] at hc
              obtain ⟨rfl, rfl⟩ := hc
              obtain ⟨w', r1, p⟩ := put_ok (P := P) m hb hl hput k2 k3
              exact ⟨_, w', β, run _ _ w' rfl (fun a ha => by cases ha; exact r1) (fun h => by cases h), p, .int _ _⟩
            · cases hc
          · cases hc
        · rename_i id off n1 sz'
          simp only [lenS, Option.some.injEq] at hdl; subst hdl
          cases hd
          rename_i b o e' c hb hnc hce
          split at hc
          · rename_i l hl
            split at hc
            · rename_i l' hput
              simp only [Option.some.injEq, Prod.mk.injEq] at hc
              obtain ⟨rfl, rfl⟩ := hc
              obtain ⟨w', r1, p⟩ := put_ok (P := P) m hb hl hput k2 k3
              exact ⟨_, w', β, run _ _ w' rfl (fun a ha => by cases ha; exact r1) (fun h => by cases h), p, .int _ _⟩
            · cases hc
          · cases hc
        · cases hc
    · cases hc

theorem zeroCells_ok {z : List SV} {zv : Value} {n sz : Nat} (h2 : VRs E β z zv.cells.toList) (h3 : allOne z = true) (hz : z.length = sz) (hp : 0 < sz) :
    VRs E β (rep z n) (Builtin.zeroCells zv.cells n).toList ∧ allOne (rep z n) = true := by
  obtain ⟨a, b⟩ := rep_ok h2 h3 n
  have hzs : zv.cells.size = sz := by rw [← hz]; have := h2.length; simpa using this.symm
  refine ⟨?_, b⟩
  unfold Builtin.zeroCells
  rw [zeros_eq zv.cells (by omega) n]
  exact a

theorem clearA_ok (m : Mem E N W F β h w) {t ty : TypeId} {s : SV} {vs : Value} {h' : Hp} (hs : VR E β s vs)
    (hc : clearA P h t s = some h') {ats : Array TypeId} (ha0 : ats[0]? = some t) :
    ∃ w', (Builtin.clear_ ats ty #[vs]).run P w = .ok (.tuple #[]) w' ∧ Post E N W F β h h' β w' := by
  unfold clearA at hc
  have a0 : (#[vs] : Array Value)[0]? = some vs := rfl
  split at hc
  · cases hc
  · rename_i e sz he
    obtain ⟨hu, hsz⟩ := elemO_ok he
    have empty : ∀ (a : Option Addr) (c : Nat), vs = .slice a 0 c → (Builtin.clear_ ats ty #[vs]).run P w = .ok (.tuple #[]) w := by
      intro a c hv; subst hv
      cases a <;> simp [Builtin.clear_, ha0, run_und hu]
    have full : ∀ (a : Addr) (n c : Nat) (z : List SV) (zv : Value) (w' : World), vs = .slice (some a) n c → n ≠ 0 → (zeroValue e).run P w = .ok zv w → (storeCells a (Builtin.zeroCells zv.cells n).toList).run P w = .ok () w' →
        (Builtin.clear_ ats ty #[vs]).run P w = .ok (.tuple #[]) w' := by
      intro a n c z zv w' hv hn hz hst; subst hv
      obtain ⟨k, rfl⟩ : ∃ k, n = k + 1 := ⟨n - 1, by omega⟩
      simp [Builtin.clear_, ha0, run_und hu, hz, hst]
    split at hc
    · cases hs
      simp only [Option.some.injEq] at hc; subst hc
      exact ⟨w, empty none 0 rfl, Post.same m⟩
    · cases hs
      simp only [Option.some.injEq] at hc; subst hc
      exact ⟨w, empty _ _ rfl, Post.same m⟩
    all_goals try (cases hc; done)
    all_goals
      rename_i id off n x4
      cases hn : Nat.beq n 0
      · rw [hn] at hc
        simp only [cond_false] at hc
        have hn0 : n ≠ 0 := Nat.ne_of_beq_eq_false hn
        split at hc
        · rename_i l hl
          split at hc
          · rename_i z hz
            cases hb : (Nat.beq z.length sz && Nat.blt 0 sz)
            · rw [hb] at hc; cases hc
            · rw [hb] at hc
              simp only [Bool.and_eq_true] at hb
              have e1 : z.length = sz := Nat.eq_of_beq_eq_true hb.1
              have e2 : 0 < sz := by have := hb.2; rw [blt_eq] at this; simpa using this
              simp only [cond_true] at hc
              split at hc
              · rename_i l' hput
                simp only [Option.some.injEq] at hc; subst hc
                obtain ⟨zv, g1, g2, g3⟩ := zeroC_ok (P := P) (E := E) (w := w) hz β
                obtain ⟨g4, g5⟩ := zeroCells_ok (n := n) g2 g3 e1 e2
                cases hs
                obtain ⟨w', r1, p⟩ := put_ok (P := P) m (by assumption) hl hput g4 g5
                exact ⟨w', full _ _ _ z zv w' rfl hn0 g1 r1, p⟩
              · cases hc
          · cases hc
        · cases hc
      · rw [hn] at hc
        have hn0 : n = 0 := Nat.eq_of_beq_eq_true hn
        subst hn0
        simp only [cond_true, Option.some.injEq] at hc; subst hc
        cases hs
        exact ⟨w, empty _ _ rfl, Post.same m⟩

theorem ERs.length {l : List (SV × SV × Nat)} {m : List MapEntry} (h : ERs E β l m) : l.length = m.length := by
  induction l generalizing m with
  | nil => cases m with
    | nil => rfl
    | cons _ _ => exact h.elim
  | cons x l ih =>
    obtain ⟨k, v, b⟩ := x
    cases m with
    | nil => exact h.elim
    | cons e m => simp [ih h.2.2.2]

/-- a map in a world -/
theorem Mem.mapAt (m : Mem E N W F β h w) {id : Nat} {es : List (SV × SV × Nat)} {clock : Nat} {v : Value} (hg : h.t.get id = some (.mp es clock)) (hv : VR E β (.map id) v) :
    ∃ b e cs, v = .map (some b) ∧ β id = some (b, 0, e) ∧ w.heap[b]? = some (.map cs clock) ∧ ERs E β es cs.toList := by
  cases hv
  rename_i b e hb
  obtain ⟨⟨b', o', e'⟩, h1, h2, h3⟩ := m.hr.live id _ (un_some hg)
  rw [hb] at h1; cases h1
  obtain ⟨cs, k1, k2, k3⟩ := h3
  exact ⟨b, e, cs, rfl, hb, k1, k2⟩

theorem run_getObj {r : Nat} {o : Obj} (hr : w.heap[r]? = some o) (hc : ∀ c t f, o ≠ .cells c t f) : (getObj r).run P w = .ok o w := by
  simp only [getObj, Sem.run, hr]

theorem lenA_ok (m : Mem E N W F β h w) {t ty : TypeId} {x r : SV} {v : Value} (hx : VR E β x v) (hl : lenA P h t x = some r) {ats : Array TypeId} (ha0 : ats[0]? = some t) :
    Gives P E β w (Builtin.len_ ats ty #[v]) r := by
  unfold lenA at hl
  have a0 : (#[v] : Array Value)[0]? = some v := rfl
  split at hl
  all_goals try (cases hl; done)
  · rename_i hu; cases hx; simp only [Option.some.injEq] at hl; subst hl
    exact ⟨_, by simp [Builtin.len_, ha0, run_und hu]; rfl, .int _ _⟩
  · rename_i hu; simp only [Option.some.injEq] at hl; subst hl
    exact ⟨_, by simp [Builtin.len_, ha0, run_und hu]; rfl, .int _ _⟩
  · rename_i hu; cases hx; simp only [Option.some.injEq] at hl; subst hl
    exact ⟨_, by simp [Builtin.len_, ha0, run_und hu]; rfl, .int _ _⟩
  · rename_i hu; cases hx; simp only [Option.some.injEq] at hl; subst hl
    exact ⟨_, by simp [Builtin.len_, ha0, run_und hu]; rfl, .int _ _⟩
  · rename_i hu; cases hx; simp only [Option.some.injEq] at hl; subst hl
    exact ⟨_, by simp [Builtin.len_, ha0, run_und hu]; rfl, .int _ _⟩
  · rename_i hu; cases hx; simp only [Option.some.injEq] at hl; subst hl
    exact ⟨_, by simp [Builtin.len_, ha0, run_und hu]; rfl, .int _ _⟩
  · rename_i hu; cases hx; simp only [Option.some.injEq] at hl; subst hl
    exact ⟨_, by simp [Builtin.len_, ha0, run_und hu]; rfl, .int _ _⟩
  · rename_i k e id hu
    split at hl
    · rename_i es clock hg
      simp only [Option.some.injEq] at hl; subst hl
      obtain ⟨b, e', cs, rfl, hb, hw, he⟩ := m.mapAt hg hx
      refine ⟨goInt cs.size, ?_, ?_⟩
      · simp only [Builtin.len_, ha0, a0, Sem.run_bind, run_und hu, Result.andThen_ok, run_getObj hw (by intro _ _ _ h; cases h), Sem.run_pure]
      · have : es.length = cs.size := by have := he.length; simpa using this
        rw [this]; exact .int _ _
    · cases hl

theorem minmax_ok : ∀ (mx : Bool) (xs : List SV) (x r : SV) (v : Value) (vs : List Value), VR E β x v → VRs E β xs vs → minmax mx x xs = some r →
    Gives P E β w (vs.foldlM (if mx then Builtin.max2 else Builtin.min2) v) r := by
  intro mx xs
  induction xs with
  | nil =>
    intro x r v vs hx hxs hm
    cases hxs
    simp only [minmax, Option.some.injEq] at hm
    subst hm
    exact ⟨v, rfl, hx⟩
  | cons y ys ih =>
    intro x r v vs hx hxs hm
    cases hxs with
    | cons _ u _ us hy hys =>
      cases x <;> cases y <;> simp only [minmax] at hm <;> try (cases hm; done)
      rename_i k a k' b
      cases hx; cases hy
      cases hk : keq k k'
      · rw [hk] at hm; cases hm
      · rw [hk] at hm
        have := keq_eq hk
        subst this
        simp only [cond_true] at hm
        cases mx
        · simp only [cond_false] at hm
          have hone : (Builtin.min2 (.int k a) (.int k b)).run P w = .ok (.int k (if b < a then b else a)) w := rfl
          have he : (bif ilt b a then SV.int k b else SV.int k a) = .int k (if b < a then b else a) := by
            rw [ilt_eq]; by_cases h : b < a <;> simp [h]
          rw [he] at hm
          obtain ⟨q, hq, hr⟩ := ih _ _ _ us (.int _ _) hys hm
          exact ⟨q, by simp only [List.foldlM_cons, Sem.run_bind, Bool.false_eq_true, if_false, hone, Result.andThen_ok]; simpa using hq, hr⟩
        · simp only [cond_true] at hm
          have hone : (Builtin.max2 (.int k a) (.int k b)).run P w = .ok (.int k (if b > a then b else a)) w := rfl
          have he : (bif ilt a b then SV.int k b else SV.int k a) = .int k (if b > a then b else a) := by
            rw [ilt_eq]; by_cases h : a < b <;> simp [h]
          rw [he] at hm
          obtain ⟨q, hq, hr⟩ := ih _ _ _ us (.int _ _) hys hm
          exact ⟨q, by simp only [List.foldlM_cons, Sem.run_bind, if_true, hone, Result.andThen_ok]; simpa using hq, hr⟩
end
end
end Go.Proofs.YtgfahpnndmocbaaGreatDoor.Sx
