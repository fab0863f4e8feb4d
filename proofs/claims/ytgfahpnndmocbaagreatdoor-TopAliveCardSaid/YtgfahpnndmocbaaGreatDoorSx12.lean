/-
  The executor's operations are the model's: maps and iterators.
-/
import Derived.Test.YtgfahpnndmocbaaGreatDoorSx11
namespace Go.Proofs.YtgfahpnndmocbaaGreatDoor.Sx
noncomputable section
open Go Go.RowKit
set_option linter.unusedVariables false
set_option linter.unusedSimpArgs false

section
variable {P : Program} {E : En} {N : Nat} {W : World} {β : Bm} {h : Hp} {F : Nat → Option Blk} {w : World}

theorem bytes_beq (a b : ByteArray) : (a == b) = (a.data.toList == b.data.toList) := by
  have h0 : (a == b) = (a.data == b.data) := by cases a; cases b; rfl
  rw [h0]
  by_cases e : a.data = b.data
  · rw [e]; simp
  · have h1 : ¬ a.data.toList = b.data.toList := fun h => e (Array.toList_inj.1 h)
    rw [beq_eq_false_iff_ne.2 e, beq_eq_false_iff_ne.2 h1]

/-- the type of the keys, as the model sees it -/
def kindOf (isInt : Bool) (d : TypeDesc) : Prop := if isInt then ∃ k, d = .int k else d = .string
theorem keyKind_ok {t : TypeId} {isInt : Bool} (hk : keyKind P t = some isInt) : ∃ d, P.underlying t = some d ∧ kindOf isInt d := by
  unfold keyKind at hk
  split at hk
  · rename_i k hu; simp only [Option.some.injEq] at hk; subst hk; exact ⟨_, hu, k, rfl⟩
  · rename_i hu; simp only [Option.some.injEq] at hk; subst hk; exact ⟨_, hu, rfl⟩
  · cases hk

theorem eqK_ok {isInt : Bool} {d : TypeDesc} {x y : SV} {v u : Value} {b : Bool} (hd : kindOf isInt d) (hx : VR E β x v) (hy : VR E β y u) (hk : eqK isInt x y = some b) :
    Instr.sameNow d v u = some b ∧ (b = true → ∀ n, Instr.sameBits (n + 1) u v = true) := by
  unfold eqK at hk
  cases isInt
  · simp only [cond_false] at hk
    have : d = .string := hd
    subst this
    unfold eqS at hk
    split at hk
    · cases hx; cases hy
      simp only [Option.some.injEq] at hk; subst hk
      rename_i a c
      refine ⟨by simp only [Instr.sameNow]; rw [bytes_beq], fun ht n => ?_⟩
      change (c == a) = true
      rw [bytes_beq]
      have : a.data.toList = c.data.toList := by simpa using ht
      rw [this]; simp
    · cases hk
  · simp only [cond_true] at hk
    obtain ⟨k0, rfl⟩ : ∃ k, d = .int k := hd
    unfold eqI at hk
    split at hk
    · rename_i k a k' c
      cases hx; cases hy
      cases hkk : keq k k'
      · rw [hkk] at hk; cases hk
      · rw [hkk] at hk
        have := keq_eq hkk
        subst this
        simp only [cond_true, Option.some.injEq] at hk; subst hk
        refine ⟨by simp [Instr.sameNow, ieq_eq], fun ht n => ?_⟩
        rw [ieq_eq] at ht
        have : a = c := by simpa using ht
        subst this
        simp [Instr.sameBits]
    · rename_i k t k' t'
      cases hx; cases hy
      cases hkk : keq k k'
      · rw [hkk] at hk; cases hk
      · rw [hkk] at hk
        have := keq_eq hkk
        subst this
        simp only [cond_true] at hk
        cases hbb : Tm.beq t t'
        · rw [hbb] at hk
          simp only [cond_false] at hk
          cases huu : unlike t t'
          · rw [huu] at hk; cases hk
          · rw [huu] at hk
            simp only [cond_true, Option.some.injEq] at hk; subst hk
            have hne := unlike_ne E huu
            refine ⟨?_, fun ht => by cases ht⟩
            simp only [Instr.sameNow, Option.some.injEq, decide_eq_false_iff_not]
            first
              | (intro he; exact hne (by exact_mod_cast he))
              | (simp; intro he; exact hne (by exact_mod_cast he))
              | (simp [hne])
        · rw [hbb] at hk
          have := Tm.beq_eq _ _ hbb
          subst this
          simp only [cond_true, Option.some.injEq] at hk; subst hk
          exact ⟨by simp [Instr.sameNow], fun _ n => by simp [Instr.sameBits]⟩
    · cases hk

theorem findE_ok {isInt : Bool} {d : TypeDesc} {k : SV} {vk : Value} (hd : kindOf isInt d) (hk : VR E β k vk) : ∀ {es : List (SV × SV × Nat)} {cs : List MapEntry} {i : Nat} {r : Option (Nat × SV)}, ERs E β es cs → findE isInt k es i = some r →
    match r with
    | none => Instr.findNow d vk cs i = some none
    | some (j, v) => ∃ e, Instr.findNow d vk cs i = some (some (j, e.val)) ∧ VR E β v e.val ∧ i ≤ j ∧ cs[j - i]? = some e ∧ Instr.sameBits 10000 e.key vk = true := by
  intro es
  induction es with
  | nil =>
    intro cs i r he hf
    cases cs with
    | cons _ _ => exact he.elim
    | nil => simp only [findE, Option.some.injEq] at hf; subst hf; rfl
  | cons x es ih =>
    intro cs i r he hf
    obtain ⟨k', v, b⟩ := x
    cases cs with
    | nil => exact he.elim
    | cons e cs =>
      obtain ⟨h1, h2, h3, h4⟩ := he
      simp only [findE] at hf
      split at hf
      · rename_i hq
        simp only [Option.some.injEq] at hf; subst hf
        obtain ⟨q1, q2⟩ := eqK_ok hd hk h1 hq
        exact ⟨e, by simp [Instr.findNow, q1], h2, Nat.le_refl _, by simp, q2 rfl _⟩
      · rename_i hq
        obtain ⟨q1, _⟩ := eqK_ok hd hk h1 hq
        have := ih h4 hf
        cases r with
        | none => simpa [Instr.findNow, q1] using this
        | some jv =>
          obtain ⟨j, v'⟩ := jv
          obtain ⟨e', g1, g2, g3, g4, g5⟩ := this
          refine ⟨e', by simpa [Instr.findNow, q1] using g1, g2, by omega, ?_, g5⟩
          obtain ⟨q, rfl⟩ : ∃ q, j = i + 1 + q := ⟨j - (i + 1), by omega⟩
          rw [show i + 1 + q - i = q + 1 by omega]
          rw [show i + 1 + q - (i + 1) = q by omega] at g4
          simpa using g4
      · cases hf

theorem checkKey_ok {isInt : Bool} {kt : TypeId} {d : TypeDesc} {vk : Value} {b : Bool} (hu : P.underlying kt = some d) (hd : kindOf isInt d) (w : World) : (Instr.checkKey b 10000 kt vk).run P w = .ok () w := by
  unfold Instr.checkKey
  simp only [Sem.run_bind, run_und hu, Result.andThen_ok]
  cases isInt
  · have : d = .string := hd
    subst this; rfl
  · obtain ⟨k, rfl⟩ : ∃ k, d = .int k := hd
    rfl

theorem findKey_ok {kt : TypeId} {d : TypeDesc} {vk : Value} {cs : List MapEntry} {r : Option (Nat × Value)} (hu : P.underlying kt = some d) (hf : Instr.findNow d vk cs 0 = some r) (w : World) :
    (Instr.findKey kt vk cs).run P w = .ok r w := by
  simp [Instr.findKey, run_und hu, hf]

theorem zeroV_ok {e : TypeId} {i : TypeInfo} {z : Value} (hi : P.info? e = some i) (hz : i.zero = some z) (w : World) : (zeroValue e).run P w = .ok z w := by
  simp [zeroValue, typeInfo, hi, hz]

theorem foundA_none {e : TypeId} {ok : Bool} {r : SV} (hf : foundA P e ok none = some r) : ∃ z v, (∀ w, (zeroValue e).run P w = .ok z w) ∧ VR E β v z ∧ r = (bif ok then .tup [v, .bool false] else v) := by
  unfold foundA at hf
  simp only at hf
  split at hf
  · rename_i i hi
    split at hf
    · rename_i z hz
      split at hf
      · rename_i v hv
        simp only [Option.some.injEq] at hf
        exact ⟨z, v, fun w => zeroV_ok hi hz w, ofV_ok hv β, hf.symm⟩
      · cases hf
    · cases hf
  · cases hf

theorem lookupA_ok (m : Mem E N W F β h w) {t : TypeId} {x k r : SV} {v vk : Value} {ok : Bool} (hx : VR E β x v) (hk : VR E β k vk) (hl : lookupA P h t x k ok = some r) :
    Gives P E β w (Instr.lookup t v vk ok) r := by
  unfold lookupA at hl
  split at hl
  · rename_i kt e hu
    split at hl
    · rename_i isInt hkk
      obtain ⟨d, hd, hkd⟩ := keyKind_ok hkk
      have fin : ∀ (q : SV) (z : Value) (b : Bool), VR E β q z → VR E β (bif ok then .tup [q, .bool b] else q) (if ok then .tuple #[z, .bool b] else z) := by
        intro q z b hq
        cases ok
        · exact hq
        · exact .tup _ _ (.cons _ _ _ _ hq (.cons _ _ _ _ (.bool b) .nil))
      split at hl
      · cases hx
        obtain ⟨z, q, h1, h2, rfl⟩ := foundA_none (E := E) (β := β) hl
        refine ⟨_, ?_, fin q z false h2⟩
        simp only [Instr.lookup, Sem.run_bind, run_und hu, Result.andThen_ok, Sem.run_pure, checkKey_ok hd hkd w, findKey_ok hd (show Instr.findNow d vk [] 0 = some none from rfl) w, h1]
      · rename_i id
        split at hl
        · rename_i es clock hg
          split at hl
          · rename_i r' hr
            obtain ⟨b, e', cs, rfl, hb, hw, he⟩ := m.mapAt hg hx
            have hobj : (getObj b).run P w = .ok (.map cs clock) w := run_getObj hw (by intro _ _ _ h; cases h)
            have hfind := findE_ok hkd hk he hr
            cases r' with
            | none =>
              obtain ⟨z, q, h1, h2, rfl⟩ := foundA_none (E := E) (β := β) hl
              refine ⟨_, ?_, fin q z false h2⟩
              simp only [Instr.lookup, Sem.run_bind, run_und hu, Result.andThen_ok, Sem.run_pure, hobj, checkKey_ok hd hkd w, findKey_ok hd hfind w, h1]
            | some jv =>
              obtain ⟨j, q⟩ := jv
              obtain ⟨e2, g1, g2, g3, g4, g5⟩ := hfind
              simp only [foundA, Option.some.injEq] at hl; subst hl
              refine ⟨_, ?_, fin q e2.val true g2⟩
              simp only [Instr.lookup, Sem.run_bind, run_und hu, Result.andThen_ok, Sem.run_pure, hobj, checkKey_ok hd hkd w, findKey_ok hd g1 w]
          · cases hl
        · cases hl
      · cases hl
    · cases hl
  · cases hl

theorem run_setObj {r : Nat} {o o' : Obj} (hr : w.heap[r]? = some o) (hc : ∀ c t f, o ≠ .cells c t f) : (setObj r o').run P w = .ok () { w with heap := w.heap.setIfInBounds r o' } := by
  unfold setObj
  simp only [Sem.run, hr]

/-- an object that is no row turns -/
theorem Mem.turnObj (m : Mem E N W F β h w) {id b o e : Nat} {b0 bk : Blk} {o' : Obj} (hg : h.t.get id = some b0) (hb : β id = some (b, o, e)) (hlt : b < w.heap.size)
    (hbr : ∀ w' : World, w'.heap[b]? = some o' → BR E β w' (b, o, e) bk) : Post E N W F β h (h.put id bk) β { w with heap := w.heap.setIfInBounds b o' } := by
  refine m.turn (w' := { w with heap := w.heap.setIfInBounds b o' }) hg hb (fun k hk => ?_) (by simp) rfl rfl rfl (hbr _ ?_)
  · show (w.heap.setIfInBounds b o')[k]? = _
    rw [Array.getElem?_setIfInBounds_ne (Ne.symm hk)]
  · show (w.heap.setIfInBounds b o')[b]? = _
    simp [hlt]

theorem ERs.modE {es : List (SV × SV × Nat)} {cs : List MapEntry} {k v : SV} {vk vv : Value} (hk : VR E β k vk) (hv : VR E β v vv) : ∀ {i : Nat}, ERs E β es cs → ERs E β (Sx.modE v k es i) (cs.modify i fun e => { e with key := vk, val := vv }) := by
  induction es generalizing cs with
  | nil => intro i he; cases cs with
    | nil => simp [Sx.modE]; trivial
    | cons _ _ => exact he.elim
  | cons x es ih =>
    intro i he
    obtain ⟨k', v', b⟩ := x
    cases cs with
    | nil => exact he.elim
    | cons e cs =>
      obtain ⟨h1, h2, h3, h4⟩ := he
      cases i with
      | zero => exact ⟨hk, hv, h3, h4⟩
      | succ i => exact ⟨h1, h2, h3, ih h4⟩
theorem ERs.delE {es : List (SV × SV × Nat)} {cs : List MapEntry} : ∀ {i : Nat}, ERs E β es cs → ERs E β (Sx.delE es i) (cs.eraseIdx i) := by
  induction es generalizing cs with
  | nil => intro i he; cases cs with
    | nil => simp [Sx.delE]; trivial
    | cons _ _ => exact he.elim
  | cons x es ih =>
    intro i he
    obtain ⟨k', v', b⟩ := x
    cases cs with
    | nil => exact he.elim
    | cons e cs =>
      obtain ⟨h1, h2, h3, h4⟩ := he
      cases i with
      | zero => exact h4
      | succ i => exact ⟨h1, h2, h3, ih h4⟩
theorem ERs.append {es fs : List (SV × SV × Nat)} {cs ds : List MapEntry} (he : ERs E β es cs) (hf : ERs E β fs ds) : ERs E β (es ++ fs) (cs ++ ds) := by
  induction es generalizing cs with
  | nil => cases cs with
    | nil => exact hf
    | cons _ _ => exact he.elim
  | cons x es ih =>
    obtain ⟨k', v', b⟩ := x
    cases cs with
    | nil => exact he.elim
    | cons e cs => exact ⟨he.1, he.2.1, he.2.2.1, ih he.2.2.2⟩

theorem updateA_ok (m : Mem E N W F β h w) {t : TypeId} {x k v : SV} {vx vk vv : Value} {h' : Hp} (hx : VR E β x vx) (hk : VR E β k vk) (hv : VR E β v vv) (hu' : updateA P h t x k v = some h') :
    ∃ w', (Instr.mapUpdate t vx vk vv).run P w = .ok () w' ∧ Post E N W F β h h' β w' := by
  unfold updateA at hu'
  split at hu'
  · rename_i kt e hu
    split at hu'
    · rename_i isInt hkk
      obtain ⟨d, hd, hkd⟩ := keyKind_ok hkk
      split at hu'
      · rename_i id
        split at hu'
        · rename_i es clock hg
          obtain ⟨b, e', cs, rfl, hb, hw, he⟩ := m.mapAt hg hx
          have hobj : (getObj b).run P w = .ok (.map cs clock) w := run_getObj hw (by intro _ _ _ h; cases h)
          have hlt : b < w.heap.size := (Array.getElem?_eq_some_iff.1 hw).1
          split at hu'
          · rename_i i q hr
            simp only [Option.some.injEq] at hu'; subst hu'
            obtain ⟨e2, g1, g2, g3, g4, g5⟩ := findE_ok hkd hk he hr
            refine ⟨_, ?_, m.turnObj (o' := .map (cs.modify i fun e => { e with key := vk, val := vv }) clock) hg hb hlt fun w' hw' => ⟨_, hw', ?_, rfl⟩⟩
            · have hget : cs[i]? = some e2 := by simpa using g4
              simp only [Instr.mapUpdate, Sem.run_bind, run_und hu, Result.andThen_ok, hobj, checkKey_ok hd hkd w, findKey_ok hd g1 w, Instr.keyThatStays, hget, Option.map_some, Option.getD_some, g5, if_true, Sem.run_pure, run_setObj hw (by intro _ _ _ h; cases h)]
            · have := ERs.modE hk hv (i := i) he
              simpa [Array.toList_modify] using this
          · rename_i hr
            simp only [Option.some.injEq] at hu'; subst hu'
            have hfind := findE_ok hkd hk he hr
            refine ⟨_, ?_, m.turnObj (o' := .map (cs.push { key := vk, val := vv, born := clock }) (clock + 1)) hg hb hlt fun w' hw' => ⟨_, hw', ?_, rfl⟩⟩
            · simp only [Instr.mapUpdate, Sem.run_bind, run_und hu, Result.andThen_ok, hobj, checkKey_ok hd hkd w, findKey_ok hd hfind w, run_setObj hw (by intro _ _ _ h; cases h)]
            · have := ERs.append he (fs := [(k, v, clock)]) (ds := [{ key := vk, val := vv, born := clock }]) ⟨hk, hv, rfl, trivial⟩
              simpa using this
          · cases hu'
        · cases hu'
      · cases hu'
    · cases hu'
  · cases hu'

theorem deleteA_ok (m : Mem E N W F β h w) {t ty : TypeId} {x k : SV} {vx vk : Value} {h' : Hp} (hx : VR E β x vx) (hk : VR E β k vk) (hu' : deleteA P h t x k = some h') {ats : Array TypeId} (ha0 : ats[0]? = some t) :
    ∃ w', (Builtin.delete_ ats ty #[vx, vk]).run P w = .ok (.tuple #[]) w' ∧ Post E N W F β h h' β w' := by
  unfold deleteA at hu'
  have a0 : (#[vx, vk] : Array Value)[0]? = some vx := rfl
  have a1 : (#[vx, vk] : Array Value)[1]? = some vk := rfl
  split at hu'
  · rename_i kt e hu
    split at hu'
    · rename_i isInt hkk
      obtain ⟨d, hd, hkd⟩ := keyKind_ok hkk
      split at hu'
      · cases hx
        simp only [Option.some.injEq] at hu'; subst hu'
        refine ⟨w, ?_, Post.same m⟩
        simp only [Builtin.delete_, ha0, a0, a1, Sem.run_bind, run_und hu, Result.andThen_ok, checkKey_ok hd hkd w, Sem.run_pure]
      · rename_i id
        split at hu'
        · rename_i es clock hg
          obtain ⟨b, e', cs, rfl, hb, hw, he⟩ := m.mapAt hg hx
          have hobj : (getObj b).run P w = .ok (.map cs clock) w := run_getObj hw (by intro _ _ _ h; cases h)
          have hlt : b < w.heap.size := (Array.getElem?_eq_some_iff.1 hw).1
          split at hu'
          · rename_i i q hr
            simp only [Option.some.injEq] at hu'; subst hu'
            obtain ⟨e2, g1, g2, g3, g4, g5⟩ := findE_ok hkd hk he hr
            refine ⟨_, ?_, m.turnObj (o' := .map (cs.eraseIdxIfInBounds i) clock) hg hb hlt fun w' hw' => ⟨_, hw', ?_, rfl⟩⟩
            · simp only [Builtin.delete_, ha0, a0, a1, Sem.run_bind, run_und hu, Result.andThen_ok, hobj, checkKey_ok hd hkd w, findKey_ok hd g1 w, run_setObj hw (by intro _ _ _ h; cases h), Sem.run_pure]
            · have := ERs.delE (i := i) he
              simpa using this
          · rename_i hr
            simp only [Option.some.injEq] at hu'; subst hu'
            have hfind := findE_ok hkd hk he hr
            refine ⟨{ w with heap := w.heap.setIfInBounds b (.map cs clock) }, ?_, ?_⟩
            · simp only [Builtin.delete_, ha0, a0, a1, Sem.run_bind, run_und hu, Result.andThen_ok, hobj, checkKey_ok hd hkd w, findKey_ok hd hfind w, run_setObj hw (by intro _ _ _ h; cases h), Sem.run_pure]
            · have : w.heap.setIfInBounds b (.map cs clock) = w.heap := by
                apply Array.ext_getElem?
                intro i
                by_cases hi : b = i
                · subst hi; simp [hlt]; exact (Array.getElem?_eq_some_iff.1 hw).2.symm
                · rw [Array.getElem?_setIfInBounds_ne hi]
              rw [this]
              exact Post.same m
          · cases hu'
        · cases hu'
      · cases hu'
    · cases hu'
  · cases hu'
end
end
end Go.Proofs.YtgfahpnndmocbaaGreatDoor.Sx
