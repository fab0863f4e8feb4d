/-
  One operation of the executor is the model's.
-/
import Derived.Test.YtgfahpnndmocbaaGreatDoorSx13
import Derived.Test.YtgfahpnndmocbaaGreatDoorT2
namespace Go.Proofs.YtgfahpnndmocbaaGreatDoor.Sx
noncomputable section
open Go Go.RowKit
set_option linter.unusedVariables false
set_option linter.unusedSimpArgs false

/-- The temporaries. -/
def TR (E : En) (β : Bm) (T : Tp) (a : Act) : Prop := ∀ t x, T.get t = some x → ∃ v, a.tmps[t]? = some v ∧ VR E β x v

section
variable {P : Program} {E : En} {N : Nat} {W : World} {β : Bm} {h : Hp} {F : Nat → Option Blk} {w : World} {T : Tp} {a : Act} {G : Nat → Option (List SV)}

theorem TR.mono {β' : Bm} (hle : Le β β') (r : TR E β T a) : TR E β' T a := fun t x e => let ⟨v, p, q⟩ := r t x e; ⟨v, p, q.mono hle⟩

theorem evO_ok (r : TR E β T a) {x : Operand} {y : SV} (e : evO T x = some y) : VR E β y (a.eval x) := by
  unfold evO at e
  cases x with
  | tmp t =>
    obtain ⟨v, h1, h2⟩ := r t y e
    simp only [Act.eval, Array.getD_eq_getD_getElem?, h1, Option.getD_some]
    exact h2
  | const v => exact ofV_ok e β
  | global g => simp only [Option.some.injEq] at e; subst e; exact .gptr g 0
  | func f => simp only [Option.some.injEq] at e; subst e; exact .fn _ _ _ _ _ .nil .nil
theorem evOs_ok (r : TR E β T a) : ∀ {l : List Operand} {ys : List SV}, evOs T l = some ys → VRs E β ys (l.map a.eval)
  | [], ys, e => by simp only [evOs, Option.some.injEq] at e; subst e; exact .nil
  | x :: l, ys, e => by
    simp only [evOs] at e
    split at e
    · rename_i v hv
      split at e
      · rename_i q hq
        simp only [Option.some.injEq] at e; subst e
        exact .cons _ _ _ _ (evO_ok r hv) (evOs_ok r hq)
      · cases e
    · cases e
theorem evPs_ok (r : TR E β T a) : ∀ {l : List (Nat × Operand)} {ys : List (Nat × SV)}, evPs T l = some ys → PRs E β ys (l.map fun (i, x) => (i, a.eval x))
  | [], ys, e => by simp only [evPs, Option.some.injEq] at e; subst e; trivial
  | (i, x) :: l, ys, e => by
    simp only [evPs] at e
    split at e
    · rename_i v hv
      split at e
      · rename_i q hq
        simp only [Option.some.injEq] at e; subst e
        exact ⟨rfl, evO_ok r hv, evPs_ok r hq⟩
      · cases e
    · cases e
theorem evOp_ok (r : TR E β T a) {x : Option Operand} {y : Option SV} (e : evOp T x = some y) : OR E β y (x.map a.eval) := by
  cases x with
  | none => simp only [evOp, Option.some.injEq] at e; subst e; trivial
  | some x =>
    simp only [evOp] at e
    split at e
    · rename_i v hv
      simp only [Option.some.injEq] at e; subst e
      exact evO_ok r hv
    · cases e

/-- what an operation does, as the executor tells it -/
def Told (P : Program) (E : En) (N : Nat) (W : World) (F : Nat → Option Blk) (β : Bm) (h : Hp) (w : World) (s : Sem Next) : Go1 → Prop
  | .no => True
  | .val r h' => ∃ v w' β', s.run P w = .ok (.value v) w' ∧ Post E N W F β h h' β' w' ∧ VR E β' r v
  | .sk h' => ∃ w' β', s.run P w = .ok .skip w' ∧ Post E N W F β h h' β' w'
  | .call f args => ∃ vs : Array Value, s.run P w = (callFunc f vs).run P w ∧ VRs E β args vs.toList

theorem told_vh (m : Mem E N W F β h w) {x : Option SV} {s : Sem Value} (hs : ∀ r, x = some r → Gives P E β w s r) : Told P E N W F β h w (do pure (.value (← s))) (vh h x) := by
  cases x with
  | none => trivial
  | some r =>
    obtain ⟨v, h1, h2⟩ := hs r rfl
    exact ⟨v, w, β, by simp [h1], Post.same m, h2⟩
theorem told_pure (m : Mem E N W F β h w) {x : Option SV} {v : Value} (hs : ∀ r, x = some r → VR E β r v) : Told P E N W F β h w (pure (.value v)) (vh h x) := by
  cases x with
  | none => trivial
  | some r => exact ⟨v, w, β, rfl, Post.same m, hs r rfl⟩
theorem told_val {r : SV} {h' : Hp} {s : Sem Value} (hs : ∃ v w' β', s.run P w = .ok v w' ∧ Post E N W F β h h' β' w' ∧ VR E β' r v) : Told P E N W F β h w (do pure (.value (← s))) (.val r h') := by
  obtain ⟨v, w', β', h1, h2, h3⟩ := hs
  exact ⟨v, w', β', by simp [h1], h2, h3⟩
theorem told_xh {x : Option (SV × Hp)} {s : Sem Value} (hs : ∀ r h', x = some (r, h') → ∃ v w' β', s.run P w = .ok v w' ∧ Post E N W F β h h' β' w' ∧ VR E β' r v) : Told P E N W F β h w (do pure (.value (← s))) (xh x) := by
  cases x with
  | none => trivial
  | some r => obtain ⟨r, h'⟩ := r; exact told_val (hs r h' rfl)
theorem told_th {x : Option Hp} {s : Sem Value} (hs : ∀ h', x = some h' → ∃ w', s.run P w = .ok (.tuple #[]) w' ∧ Post E N W F β h h' β w') : Told P E N W F β h w (do pure (.value (← s))) (th x) := by
  cases x with
  | none => trivial
  | some h' =>
    obtain ⟨w', h1, h2⟩ := hs h' rfl
    exact ⟨_, w', β, by simp [h1], h2, .tup _ _ .nil⟩
theorem told_uh {x : Option Hp} {s : Sem Unit} (hs : ∀ h', x = some h' → ∃ w', s.run P w = .ok () w' ∧ Post E N W F β h h' β w') : Told P E N W F β h w (do s; pure .skip) (uh x) := by
  cases x with
  | none => trivial
  | some h' =>
    obtain ⟨w', h1, h2⟩ := hs h' rfl
    exact ⟨w', β, by simp [h1], h2⟩

theorem arr1 {A : Array Value} {x : SV} (hv : VRs E β [x] A.toList) : ∃ v, A = #[v] ∧ VR E β x v := by
  cases hA : A.toList with
  | nil => rw [hA] at hv; cases hv
  | cons v r =>
    rw [hA] at hv
    cases hv with
    | cons _ _ _ _ hx hr => cases hr; exact ⟨v, Array.ext' (by simpa using hA), hx⟩
theorem arr2 {A : Array Value} {x y : SV} (hv : VRs E β [x, y] A.toList) : ∃ v u, A = #[v, u] ∧ VR E β x v ∧ VR E β y u := by
  cases hA : A.toList with
  | nil => rw [hA] at hv; cases hv
  | cons v r =>
    rw [hA] at hv
    cases hv with
    | cons _ _ _ _ hx hr => cases hr with | cons _ u _ _ hy hz => cases hz; exact ⟨v, u, Array.ext' (by simpa using hA), hx, hy⟩

theorem ats0 {ats : Array TypeId} {t : TypeId} {r : List TypeId} (h : ats.toList = t :: r) : ats[0]? = some t := by
  have : ats.toList[0]? = some t := by rw [h]; rfl
  simpa using this
theorem ats1 {ats : Array TypeId} {t u : TypeId} {r : List TypeId} (h : ats.toList = t :: u :: r) : ats[1]? = some u := by
  have : ats.toList[1]? = some u := by rw [h]; rfl
  simpa using this

theorem builtinA_ok (m : Mem E N W F β h w) {b : Builtin} {ats : Array TypeId} {ty : TypeId} {cs : Array Bool} {args : List SV} {A : Array Value} (hA : VRs E β args A.toList) :
    Told P E N W F β h w (builtin b ats ty cs A) (builtinA P b ats.toList args h) := by
  unfold builtinA
  split
  · -- len
    unfold bLen
    split
    · rename_i x t r e
      obtain ⟨v, rfl, hx⟩ := arr1 hA
      exact told_vh m fun r hr => lenA_ok m hx hr (ats0 e)
    · trivial
  · -- append
    unfold bAppend
    split
    · rename_i s x t u r e
      obtain ⟨v, v', rfl, hs, hx⟩ := arr2 hA
      split
      · trivial
      · rename_i du hni hdu
        exact told_xh fun r h' hr => appendA_ok m hs hx hdu (fun k e => hni k e) hr (ats0 e) (ats1 e)
      · trivial
    · trivial
  · unfold bCopy
    split
    · rename_i d s t r e
      obtain ⟨v, v', rfl, hd, hs⟩ := arr2 hA
      exact told_xh fun r h' hr => copyA_ok m hd hs hr (ats0 e)
    · trivial
  · unfold bClear
    split
    · rename_i s t r e
      obtain ⟨v, rfl, hs⟩ := arr1 hA
      exact told_th fun h' hr => clearA_ok m hs hr (ats0 e)
    · trivial
  · unfold bDelete
    split
    · rename_i x k t r e
      obtain ⟨v, v', rfl, hx, hk⟩ := arr2 hA
      exact told_th fun h' hr => deleteA_ok m hx hk hr (ats0 e)
    · trivial
  · unfold bMin
    split
    · rename_i x r
      cases hA' : A.toList with
      | nil => rw [hA'] at hA; cases hA
      | cons v vs =>
        rw [hA'] at hA
        cases hA with
        | cons _ _ _ _ hx hr =>
          refine told_vh m fun q hq => ?_
          obtain ⟨z, h1, h2⟩ := minmax_ok (P := P) (w := w) false _ _ _ _ _ hx hr hq
          refine ⟨z, ?_, h2⟩
          unfold Builtin.min_
          rw [hA']
          simpa using h1
    · trivial
  · unfold bMin
    split
    · rename_i x r
      cases hA' : A.toList with
      | nil => rw [hA'] at hA; cases hA
      | cons v vs =>
        rw [hA'] at hA
        cases hA with
        | cons _ _ _ _ hx hr =>
          refine told_vh m fun q hq => ?_
          obtain ⟨z, h1, h2⟩ := minmax_ok (P := P) (w := w) true _ _ _ _ _ hx hr hq
          refine ⟨z, ?_, h2⟩
          unfold Builtin.max_
          rw [hA']
          simpa using h1
    · trivial
  · trivial

def notNil : Value → Prop
  | .pointer none => False
  | .nilIface => False
  | .nilFunc => False
  | .func (.method _) _ _ => False
  | _ => True
theorem nilCheckA_ok {x r : SV} {v : Value} (hx : VR E β x v) (hn : nilCheckA x = some r) : VR E β r v ∧ notNil v := by
  unfold nilCheckA at hn
  split at hn <;> first
    | (cases hn; done)
    | (simp only [Option.some.injEq] at hn; subst hn; refine ⟨hx, ?_⟩; cases hx; trivial)

theorem nili_gives {op : BinOp} {t : TypeId} {X Y : Operand} {v u : Value} {r : SV} (hc : (isConst X || isConst Y) = true) (hi : isIface P t = true) (hv : v = .nilIface) (hu : u = .nilIface) (h : eqB op true = some r) :
    Gives P E β w (do eqGuard op t X Y v u; Go.binOp op t v u) r := by
  subst hv hu
  obtain ⟨ms, hms⟩ : ∃ ms, P.underlying t = some (.interface ms) := by
    unfold isIface at hi; split at hi; exact ⟨_, by assumption⟩; cases hi
  have hq : (eqGuard op t X Y .nilIface .nilIface).run P w = .ok () w := by
    cases X <;> cases Y <;> simp [isConst] at hc <;> cases op <;> rfl
  obtain ⟨q, h1, h2⟩ := equal_gives (P := P) (E := E) (β := β) (w := w) (t := t) (v := .nilIface) (u := .nilIface) h (by simp) (by simp) (by simp) (by simp) (by
    unfold Op.equal Op.maxDepth Op.equalIn
    simp [run_und hms])
  exact ⟨q, by simp only [Sem.run_bind, hq, Result.andThen_ok, h1], h2⟩

theorem opA_ok (hG : Gok E N W G) (m : Mem E N W F β h w) (hT : TR E β T a) (o : Oper) : Told P E N W F β h w (execOp a.eval o) (opA P G T h o.op) := by
  obtain ⟨dst, op, type, pos, after, guard⟩ := o
  unfold opA
  cases op <;> simp only [execOp] <;> try trivial
  case move x => exact told_pure m fun r hr => evO_ok hT hr
  case assign x => exact told_pure m fun r hr => evO_ok hT hr
  case pick c x y =>
    unfold oPick
    split
    · rename_i hc
      have := evO_ok hT hc
      cases hv : evO T x with
      | none => trivial
      | some r =>
        generalize a.eval c = vc at this ⊢
        cases this
        exact ⟨a.eval x, w, β, by simp [asBool], Post.same m, evO_ok hT hv⟩
    · rename_i hc
      have := evO_ok hT hc
      cases hv : evO T y with
      | none => trivial
      | some r =>
        generalize a.eval c = vc at this ⊢
        cases this
        exact ⟨a.eval y, w, β, by simp [asBool], Post.same m, evO_ok hT hv⟩
    · trivial
  case alloc t =>
    unfold oAlloc
    split
    · rename_i z hz; exact told_val (alloc_ok m hz)
    · trivial
  case box t x =>
    unfold oBox
    split
    · rename_i v hv
      split
      · rename_i cs hc; exact told_val (box_ok m (evO_ok hT hv) hc)
      · trivial
    · trivial
  case build t ps =>
    unfold oBuild
    split
    · rename_i l hl
      have hp := evPs_ok hT hl
      exact told_vh m fun r hr => buildA_ok (by simpa using hp) hr
    · trivial
  case buildSlice t len ps =>
    unfold oRow
    split
    · rename_i l hl
      have hp := evPs_ok hT hl
      split
      · rename_i cs hc; exact told_val (row_ok m (by simpa using hp) hc)
      · trivial
    · trivial
  case insert t mm k x =>
    unfold oUpdate
    split
    · rename_i q1 q2 q3 h1 h2 h3
      exact told_uh fun h' hr => updateA_ok m (evO_ok hT h1) (evO_ok hT h2) (evO_ok hT h3) hr
    · trivial
  case load t x =>
    unfold oLoad
    split
    · rename_i v hv
      exact told_vh m fun r hr => by obtain ⟨q, h1, h2⟩ := loadA_ok (P := P) G hG m (evO_ok hT hv) hr; exact ⟨q, h1, h2⟩
    · trivial
  case store t x y =>
    unfold oStore
    split
    · rename_i v hv
      split
      · rename_i u hu
        exact told_uh fun h' hr => storeA_ok m (evO_ok hT hv) (evO_ok hT hu) hr
      · trivial
    · trivial
  case nilCheck x =>
    unfold oNil
    cases hv : evO T x with
    | none => trivial
    | some v =>
      have hx := evO_ok hT hv
      show Told P E N W F β h w _ (vh h (nilCheckA v))
      cases hn : nilCheckA v with
      | none => trivial
      | some r =>
        obtain ⟨h1, h2⟩ := nilCheckA_ok hx hn
        refine ⟨a.eval x, w, β, ?_, Post.same m, h1⟩
        clear hx h1
        generalize a.eval x = vx at h2 ⊢
        cases vx <;> first | rfl | (exact h2.elim) | skip
        · rename_i p; cases p <;> first | rfl | exact h2.elim
        · rename_i f fs cs; cases f <;> first | rfl | exact h2.elim
  case binOp op xType x y yType =>
    unfold oBin
    split
    · rename_i u hu
      split
      · rename_i v hv
        split
        · split
          · cases hb : ((isConst x || isConst y) && isIface P xType)
            · trivial
            · simp only [Bool.and_eq_true] at hb
              refine told_vh m fun r hr => nili_gives hb.1 hb.2 ?_ ?_ hr
              · have := evO_ok hT hu; generalize a.eval x = vx at this; cases this; rfl
              · have := evO_ok hT hv; generalize a.eval y = vy at this; cases this; rfl
          · trivial
        · exact told_vh m fun r hr => binA_gives (evO_ok hT hu) (evO_ok hT hv) hr
      · trivial
    · trivial
  case unOp op xType x =>
    unfold oUn
    split
    · rename_i u hu; exact told_vh m fun r hr => unA_gives (evO_ok hT hu) hr
    · trivial
  case convert s d x =>
    unfold oConv
    split
    · rename_i a0 hu
      split
      · rename_i ds hs
        cases hb : isRow8 P d
        · exact told_vh m fun r hr => convA_gives (evO_ok hT hu) hr
        · have hx := evO_ok hT hu
          generalize a.eval x = vx at hx
          cases hx
          exact told_val (convBytes_ok m hs hb)
      · trivial
    · rename_i u _ hu; exact told_vh m fun r hr => convA_gives (evO_ok hT hu) hr
    · trivial
  case makeFunc f x y =>
    unfold oFunc
    split
    · rename_i u hu
      split
      · rename_i v hv
        refine ⟨.func f (x.map a.eval) (y.map a.eval), w, β, rfl, Post.same m, .fn _ _ _ _ _ ?_ ?_⟩
        · simpa using evOs_ok hT hu
        · simpa using evOs_ok hT hv
      · trivial
    · trivial
  case makeMap t r =>
    have key : ∃ β', Post E N W F β h (h.new (.mp [] 0)) β' { w with heap := w.heap.push (.map #[] 0) } ∧ β' h.n = some (w.heap.size, 0, 0) :=
      m.new (.map #[] 0) (.mp [] 0) 0 fun β' _ => ⟨#[], by simp, trivial, rfl⟩
    obtain ⟨β', p, hb⟩ := key
    unfold oMap
    split
    · exact ⟨_, _, β', rfl, p, .map _ _ _ hb⟩
    · rename_i x
      split
      · rename_i kt e hu
        split
        · rename_i k z hx
          have := evO_ok hT hx
          refine ⟨.map (some w.heap.size), _, β', ?_, p, .map _ _ _ hb⟩
          generalize hvx : a.eval x = vx at this
          cases this
          simp [Instr.makeMap, run_und hu, asInt, asIntOf, hvx]
        · trivial
      · trivial
  case makeSlice t l c =>
    unfold oMake
    split
    · rename_i u hu
      split
      · rename_i v hv
        cases hm : makeSl P h t u v with
        | val r h' => exact told_val (make_ok m (evO_ok hT hu) (evO_ok hT hv) hm)
        | no => trivial
        | sk h' => exfalso; unfold makeSl at hm; (repeat' (split at hm)) <;> first | (cases hm; done) | (rename_i hh; cases hq : (Nat.ble _ _ && Nat.blt _ _ && Nat.beq _ _ && Nat.blt _ _ && smallT P _) <;> rw [hq] at hm <;> cases hm)
        | call f args => exfalso; unfold makeSl at hm; (repeat' (split at hm)) <;> first | (cases hm; done) | (rename_i hh; cases hq : (Nat.ble _ _ && Nat.blt _ _ && Nat.beq _ _ && Nat.blt _ _ && smallT P _) <;> rw [hq] at hm <;> cases hm)
      · trivial
    · trivial
  case slice t x lo hi mx =>
    unfold oSlice
    split
    · rename_i u hu
      split
      · rename_i q1 q2 q3 h1 h2 h3
        exact told_vh m fun r hr => sliceA_gives (evO_ok hT hu) (evOp_ok hT h1) (evOp_ok hT h2) (evOp_ok hT h3) hr
      · trivial
    · trivial
  case fieldAddr s x f =>
    unfold oFieldAddr
    split
    · rename_i u hu; exact told_vh m fun r hr => fieldAddrA_gives (evO_ok hT hu) hr
    · trivial
  case field s x f =>
    unfold oField
    split
    · rename_i u hu; exact told_vh m fun r hr => fieldA_gives (evO_ok hT hu) hr
    · trivial
  case indexAddr t x i =>
    unfold oIndexAddr
    split
    · rename_i u hu
      split
      · rename_i v hv; exact told_vh m fun r hr => indexAddrA_gives (evO_ok hT hu) (evO_ok hT hv) hr
      · trivial
    · trivial
  case index t x i =>
    unfold oIndex
    split
    · rename_i u hu
      split
      · rename_i v hv; exact told_vh m fun r hr => indexA_gives (evO_ok hT hu) (evO_ok hT hv) hr
      · trivial
    · trivial
  case lookup t x i ok =>
    unfold oLookup
    split
    · rename_i u hu
      split
      · rename_i v hv; exact told_vh m fun r hr => lookupA_ok m (evO_ok hT hu) (evO_ok hT hv) hr
      · trivial
    · trivial
  case mapUpdate t mm k x =>
    unfold oUpdate
    split
    · rename_i q1 q2 q3 h1 h2 h3
      exact told_uh fun h' hr => updateA_ok m (evO_ok hT h1) (evO_ok hT h2) (evO_ok hT h3) hr
    · trivial
  case range t x =>
    unfold oRange
    split
    · rename_i u hu
      split
      · rename_i b hb; exact told_val (rangeA_ok m (evO_ok hT hu) hb)
      · trivial
    · trivial
  case next it s =>
    unfold oNext
    split
    · rename_i u hu; exact told_xh fun r h' hr => nextA_ok m (evO_ok hT hu) hr
    · trivial
  case entry it =>
    unfold oEntry
    split
    · rename_i u hu; exact told_vh m fun r hr => entryA_ok m (evO_ok hT hu) hr
    · trivial
  case extract x i =>
    unfold oExtract
    split
    · rename_i l hl; exact told_vh m fun r hr => extract_gives (evO_ok hT hl) hr
    · trivial
  case call c =>
    obtain ⟨callee, args, ts⟩ := c
    unfold oCall
    simp only
    split
    · rename_i xs hxs
      have hA := evOs_ok hT hxs
      cases callee with
      | builtin b =>
        have := builtinA_ok (P := P) m (b := b) (ats := ts) (ty := type) (cs := args.map fun | .const _ => true | _ => false) (A := args.map a.eval) (args := xs) (by simpa using hA)
        exact this
      | value f =>
        simp only
        split
        · rename_i g x y hf
          have hv := evO_ok hT hf
          generalize hvx : a.eval f = vx at hv
          cases hv
          rename_i x' y' hx hy
          refine ⟨x' ++ args.map a.eval ++ y', ?_, ?_⟩
          · simp [resolve, hvx, Deferred.ofValue, invoke]
          · have := hx.append (VRs.append (by simpa using hA) hy)
            simpa using this
        · trivial
      | invoke r mth => trivial
    · trivial
end
end
end Go.Proofs.YtgfahpnndmocbaaGreatDoor.Sx
