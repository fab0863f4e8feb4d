/-
  The executor's steps are the model's: guards, calls, regions that come in order, code.
-/
import Derived.Test.YtgfahpnndmocbaaGreatDoorSx14
import Derived.Scope
namespace Go.Proofs.YtgfahpnndmocbaaGreatDoor.Sx
noncomputable section
open Go Go.RowKit
set_option linter.unusedVariables false
set_option linter.unusedSimpArgs false

section
variable {P : Program} {E : En} {N : Nat} {W : World} {G : Nat → Option (List SV)} {hook : FuncId → Option (List SV → Hp → Option (SV × Hp))} {ext : FuncId → Option (List SV → Option SV)}

/-- what is left when code has run -/
def QOut (E : En) (N : Nat) (W : World) (F : Nat → Option Blk) (β : Bm) (h : Hp) (a : Act) : Out → Exit → Act → World → Prop
  | .norm T' h', .normal, a', w' => ∃ β', Post E N W F β h h' β' w' ∧ TR E β' T' a' ∧ a'.defers = a.defers ∧ a'.tmps.size = a.tmps.size
  | .exit id T' h', .exit id', a', w' => id' = id ∧ ∃ β', Post E N W F β h h' β' w' ∧ TR E β' T' a' ∧ a'.defers = a.defers ∧ a'.tmps.size = a.tmps.size
  | .ret T' h', .ret, a', w' => ∃ β', Post E N W F β h h' β' w' ∧ TR E β' T' a' ∧ a'.defers = a.defers ∧ a'.tmps.size = a.tmps.size
  | _, _, _, _ => False

theorem QOut.trans {F : Nat → Option Blk} {β β1 : Bm} {h h1 : Hp} {a a1 : Act} {w1 : World} (p : Post E N W F β h h1 β1 w1) (hd : a1.defers = a.defers) (hs : a1.tmps.size = a.tmps.size) {r : Out} {e : Exit} {a' : Act} {w' : World}
    (q : QOut E N W F β1 h1 a1 r e a' w') : QOut E N W F β h a r e a' w' := by
  cases r <;> cases e <;> first
    | trivial
    | exact q.elim
    | (obtain ⟨β', p', t, d, s⟩ := q; exact ⟨β', p.trans p', t, d.trans hd, s.trans hs⟩)
    | (obtain ⟨hid, β', p', t, d, s⟩ := q; exact ⟨hid, β', p.trans p', t, d.trans hd, s.trans hs⟩)

/-- The executor's code is the model's. -/
def SoundC (P : Program) (E : En) (N : Nat) (W : World) (rec : Code → Tp → Hp → Option Out) : Prop :=
  ∀ c T h r, rec c T h = some r → ∀ F β a w, Mem E N W F β h w → TR E β T a → fitsC a.tmps.size c = true → c.wp P (QOut E N W F β h a r) a w

/-- a loop that has begun -/
def wpIn (P : Program) (c : Code) (Q : Exit → Act → World → Prop) (a : Act) (w : World) : Prop :=
  ∀ (b : Frame) (k : List Item) (cs : List Frame), ∃ e a' w', Q e a' w' ∧ Arrives P (lone (b.at a (.code c :: .inLoop c :: k)) cs w) b k cs e a' w'
theorem wpIn_of {c : Code} {Q : Exit → Act → World → Prop} {a : Act} {w : World} (h : wpIn P c Q a w) : (Code.loop c).wp P Q a w :=
  fun b k cs => let ⟨e, a', w', q, r⟩ := h b k cs; ⟨e, a', w', q, .of_steps (.one step_loop) r⟩
theorem wpIn_round {c : Code} {Q : Exit → Act → World → Prop} {a : Act} {w : World} (h : c.wp P (Exit.then (wpIn P c Q) Q) a w) : wpIn P c Q a w := by
  intro b k cs
  obtain ⟨e, a₁, w₁, hq, harr⟩ := h b (.inLoop c :: k) cs
  cases e with
  | normal =>
    obtain ⟨e₂, a₂, w₂, hq₂, harr₂⟩ := hq b k cs
    exact ⟨e₂, a₂, w₂, hq₂, .of_steps (Steps.trans harr (.one step_inLoop)) harr₂⟩
  | exit id => exact ⟨_, a₁, w₁, hq, .pass (x := .inLoop c) rfl (fun _ _ => .inl (by simp)) harr⟩
  | goto l => exact ⟨_, a₁, w₁, hq, .pass (x := .inLoop c) rfl (fun _ _ => .inl (by simp)) harr⟩
  | ret => exact ⟨_, a₁, w₁, hq, .pass (x := .inLoop c) rfl (fun _ _ => .inl (by simp)) harr⟩
  | panic ch => exact ⟨_, a₁, w₁, hq, .pass (x := .inLoop c) rfl (fun _ _ => .inl (by simp)) harr⟩
  | outgrown => exact ⟨_, a₁, w₁, hq, .pass (x := .inLoop c) rfl (fun _ _ => .inl (by simp)) harr⟩
def SoundL (P : Program) (E : En) (N : Nat) (W : World) (rec : Code → Tp → Hp → Option Out) : Prop :=
  ∀ c T h r, rec (.loop c) T h = some r → ∀ F β a w, Mem E N W F β h w → TR E β T a → fitsC a.tmps.size c = true → wpIn P c (QOut E N W F β h a r) a w

/-- the hooks: functions whose contracts are proved elsewhere -/
def HookOk (P : Program) (E : En) (N : Nat) (W : World) (hook : FuncId → Option (List SV → Hp → Option (SV × Hp))) : Prop :=
  ∀ f k, hook f = some k → (∃ fn c, P.funcs[f]? = some fn ∧ fn.body = some c) ∧ ∀ args h r h', k args h = some (r, h') → ∀ F β w vs, Mem E N W F β h w → VRs E β args vs.toList →
    Calls P f vs w (fun e w' => match e with | .returned v => ∃ β', Post E N W F β h h' β' w' ∧ VR E β' r v | .panicked _ => False | .outgrown => False)
def ExtOk (P : Program) (E : En) (ext : FuncId → Option (List SV → Option SV)) : Prop :=
  ∀ f k, ext f = some k → ∀ args r, k args = some r → ∀ β (w : World) (vs : Array Value), VRs E β args vs.toList → ∃ v, (callFunc f vs).run P w = .ok (.value v) w ∧ VR E β r v
def NoCount (P : Program) : Prop := ∀ (f : FuncId) fn, P.funcs[f]? = some fn → fn.name ≠ "runtime.NumGoroutine"

variable {F : Nat → Option Blk} {β : Bm} {h : Hp} {w : World} {T : Tp} {a : Act}

theorem args0_get : ∀ (l : List SV) (i : Nat) (T : Tp) (j : Nat), (args0 l i T).get j = if i ≤ j ∧ j < i + l.length then l[j - i]? else T.get j
  | [], i, T, j => by simp [args0]; intro h1 h2; omega
  | v :: l, i, T, j => by
    rw [args0, args0_get l (Nat.succ i) _ j, Tr.get_set]
    by_cases h1 : i + 1 ≤ j ∧ j < i + 1 + l.length
    · rw [if_pos h1, if_pos (by simp; omega)]
      obtain ⟨q, rfl⟩ : ∃ q, j = i + 1 + q := ⟨j - (i + 1), by omega⟩
      rw [show i + 1 + q - (i.succ) = q by omega, show i + 1 + q - i = q + 1 by omega]
      simp
    · rw [if_neg h1]
      by_cases h2 : j = i
      · subst h2; simp
      · rw [if_neg h2, if_neg (by simp; omega)]

def resM (a : Act) (r : ResultVar) : Sem Value := match r with
  | .tmp t => pure (a.tmps.getD t undef)
  | .cell x t => do loadVar t (← asAddr (a.tmps.getD x undef))

theorem results_ok (hG : Gok E N W G) (m : Mem E N W F β h w) (hT : TR E β T a) : ∀ (l : List ResultVar) {xs : List SV}, resSs P G T h l = some xs →
    ∃ vs : List Value, (l.mapM (resM a)).run P w = .ok vs w ∧ VRs E β xs vs
  | [], xs, hr => by simp only [resSs, Option.some.injEq] at hr; subst hr; exact ⟨[], rfl, .nil⟩
  | r :: l, xs, hr => by
    simp only [resSs] at hr
    split at hr
    · rename_i x hx
      split at hr
      · rename_i q hq
        simp only [Option.some.injEq] at hr; subst hr
        obtain ⟨vs, h1, h2⟩ := results_ok hG m hT l hq
        have one : ∃ v, (resM a r).run P w = .ok v w ∧ VR E β x v := by
          cases r with
          | tmp t =>
            obtain ⟨v, k1, k2⟩ := hT t x hx
            exact ⟨v, by simp [resM, Array.getD_eq_getD_getElem?, k1], k2⟩
          | cell s t =>
            simp only [resS] at hx
            split at hx
            · rename_i p hp
              obtain ⟨v, k1, k2⟩ := hT s p hp
              obtain ⟨u, k3, k4⟩ := loadA_ok (P := P) G hG m k2 hx
              refine ⟨u, ?_, k4⟩
              unfold loadA at hx
              split at hx
              · rename_i l off hc
                obtain ⟨b, o, vs', rfl, _, _, _⟩ := cellsAt_ok G hG m k2 hc
                simp only [Instr.loadAt, Instr.sureAddr, Sem.run_bind, Sem.run_pure, Result.andThen_ok] at k3
                simp [resM, Array.getD_eq_getD_getElem?, k1, asAddr, k3]
              · cases hx
            · cases hx
        obtain ⟨v, k1, k2⟩ := one
        refine ⟨v :: vs, ?_, .cons _ _ _ _ k2 h2⟩
        rw [List.mapM_cons]
        simp only [Sem.run_bind, k1, Result.andThen_ok, h1, Sem.run_pure]
      · cases hr
    · cases hr

theorem one_ok {xs : List SV} {vs : List Value} (hv : VRs E β xs vs) : VR E β (one xs) (if h : vs.toArray.size = 1 then vs.toArray[0] else .tuple vs.toArray) := by
  cases hv with
  | nil => exact .tup _ _ .nil
  | cons x v l vs hx hs =>
    cases hs with
    | nil => simpa [one] using hx
    | cons y u l vs hy hs => simp only [one]; rw [dif_neg (by simp)]; exact .tup _ _ (by simpa using VRs.cons _ _ _ _ hx (VRs.cons _ _ _ _ hy hs))

theorem callA_ok (hG : Gok E N W G) (hH : HookOk P E N W hook) (hX : ExtOk P E ext) (hN : NoCount P) {rec : Code → Tp → Hp → Option Out} (hrec : SoundC P E N W rec) (m : Mem E N W F β h w) {f : FuncId} {args : List SV} {vs : Array Value} {r : SV} {h' : Hp}
    (hv : VRs E β args vs.toList) (hc : callA P G hook ext rec f args h = some (r, h')) :
    (∃ v, (callFunc f vs).run P w = .ok (.value v) w ∧ VR E β r v ∧ h' = h) ∨
    ((callFunc f vs).run P w = .ok (.enter f vs) w ∧ Calls P f vs w (fun e w' => match e with | .returned v => ∃ β', Post E N W F β h h' β' w' ∧ VR E β' r v | .panicked _ => False | .outgrown => False)) := by
  have enter : ∀ fn c, P.funcs[f]? = some fn → fn.body = some c → (callFunc f vs).run P w = .ok (.enter f vs) w := by
    intro fn c hf hb
    have hn := hN f fn hf
    simp [callFunc, hf, hn, hb]
  unfold callA at hc
  split at hc
  · rename_i k hk
    obtain ⟨⟨fn, c, hf, hb⟩, hcall⟩ := hH f k hk
    exact .inr ⟨enter fn c hf hb, hcall args h r h' hc F β w vs m hv⟩
  · split at hc
    · rename_i k hk
      split at hc
      · rename_i v hv'
        simp only [Option.some.injEq, Prod.mk.injEq] at hc
        obtain ⟨rfl, rfl⟩ := hc
        obtain ⟨u, h1, h2⟩ := hX f k hk args v hv' β w vs hv
        exact .inl ⟨u, h1, h2, rfl⟩
      · cases hc
    · split at hc
      · rename_i fn hf
        split at hc
        · rename_i c hb
          cases hfit : fitsC fn.ntmps c
          · rw [hfit] at hc; cases hc
          · rw [hfit] at hc
            simp only [cond_true] at hc
            refine .inr ⟨enter fn c hf hb, ?_⟩
            have key : ∀ (T1 : Tp) (h1 : Hp) (xs : List SV), resSs P G T1 h1 fn.results.toList = some xs → ∀ (a' : Act) (w' : World) β', Post E N W F β h h1 β' w' → TR E β' T1 a' → a'.defers = [] →
                ∃ v, (results fn a'.tmps).run P w' = .ok v w' ∧ VR E β' (one xs) v := by
              intro T1 h1 xs hxs a' w' β' p t hd
              obtain ⟨us, k1, k2⟩ := results_ok (P := P) hG p.mem t fn.results.toList hxs
              refine ⟨_, ?_, one_ok k2⟩
              have hres : results fn a'.tmps = (do let vs ← fn.results.mapM (resM a'); pure (if h : vs.size = 1 then vs[0] else .tuple vs)) := by
                unfold results
                congr 1
              rw [hres, Array.mapM_eq_mapM_toList]
              simp only [Sem.run_bind, Sem.run_map]
              rw [k1]
              rfl
            have hwp : ∀ (r0 : Out), rec c (args0 args 0 .nil) h = some r0 → c.wp P (QOut E N W F β h { tmps := vs ++ Array.replicate (fn.ntmps - vs.size) undef, defers := [] } r0) { tmps := vs ++ Array.replicate (fn.ntmps - vs.size) undef, defers := [] } w := by
              intro r0 hr0
              refine hrec c _ h r0 hr0 F β _ w m ?_ ?_
              · intro t x ht
                rw [args0_get] at ht
                simp only [Nat.zero_le, Nat.zero_add, true_and, Nat.sub_zero] at ht
                split at ht
                · rename_i hlt
                  obtain ⟨v, h1, h2⟩ := hv.get ht
                  refine ⟨v, ?_, h2⟩
                  have hlt' : t < vs.size := by rw [hv.length] at hlt; simpa using hlt
                  rw [Array.getElem?_append_left hlt']
                  simpa using h1
                · cases ht
              · have hmono : ∀ (n m : Nat) (hnm : n ≤ m) (c : Code), fitsC n c = true → fitsC m c = true := by
                  intro n m hnm c
                  have ho : ∀ o, fitsO n o = true → fitsO m o = true := by
                    intro o ho
                    unfold fitsO at ho ⊢
                    split at ho
                    · rw [blt_eq] at ho ⊢; simp at ho ⊢; omega
                    · rfl
                  induction c with
                  | region id ops d => intro hh; simp only [fitsC, List.all_eq_true] at hh ⊢; exact fun o hm => ho o (hh o hm)
                  | seq x y ihx ihy => intro hh; simp only [fitsC, Bool.and_eq_true] at hh ⊢; exact ⟨ihx hh.1, ihy hh.2⟩
                  | cond q x y ihx ihy => intro hh; simp only [fitsC, Bool.and_eq_true] at hh ⊢; exact ⟨ihx hh.1, ihy hh.2⟩
                  | block id x ih => intro hh; simp only [fitsC] at hh ⊢; exact ih hh
                  | loop x ih => intro hh; simp only [fitsC] at hh ⊢; exact ih hh
                  | scope x ih => intro hh; simp only [fitsC] at hh ⊢; exact ih hh
                  | _ => intro _; rfl
                exact hmono _ _ (by simp; omega) c hfit
            refine calls_of_wp hf hb ?_
            split at hc
            · rename_i T1 h1 hr0
              split at hc
              · rename_i xs hxs
                simp only [Option.some.injEq, Prod.mk.injEq] at hc
                obtain ⟨rfl, rfl⟩ := hc
                refine wp_mono (hwp _ hr0) fun e a' w' q => ?_
                cases e <;> first
                  | exact q.elim
                  | trivial
                  | (obtain ⟨β', p, t, d, s⟩ := q
                     obtain ⟨v, k1, k2⟩ := key T1 h1 xs hxs a' w' β' p t d
                     exact ⟨d, v, k1, β', p, k2⟩)
              · cases hc
            · rename_i T1 h1 hr0
              split at hc
              · rename_i xs hxs
                simp only [Option.some.injEq, Prod.mk.injEq] at hc
                obtain ⟨rfl, rfl⟩ := hc
                refine wp_mono (hwp _ hr0) fun e a' w' q => ?_
                cases e <;> first
                  | exact q.elim
                  | trivial
                  | (obtain ⟨β', p, t, d, s⟩ := q
                     obtain ⟨v, k1, k2⟩ := key T1 h1 xs hxs a' w' β' p t d
                     exact ⟨d, v, k1, β', p, k2⟩)
              · cases hc
            · cases hc
        · cases hc
      · cases hc

theorem wantS_ok {ops : Array Oper} {o : Oper} {b : Bool} (hT : TR E β T a) (hw : wantS ops.toList T o.guard = some b) : Region.wanted o (yielded ops a.tmps) = b := by
  unfold wantS at hw
  unfold Region.wanted
  split at hw
  · rename_i hg; rw [hg]; simpa using hw
  · rename_i j want hg
    rw [hg]
    simp only
    split at hw
    · rename_i p hp
      rw [lget_eq] at hp
      have hp' : ops[j]? = some p := by simpa using hp
      split at hw
      · rename_i d hd
        split at hw
        · rename_i c hc
          obtain ⟨v, h1, h2⟩ := hT d _ hc
          cases h2
          simp only [Option.some.injEq] at hw; subst hw
          have : yielded ops a.tmps j = some c := by simp [yielded, hp', hd, h1]
          rw [this]
          cases want <;> cases c <;> rfl
        · rename_i hc
          obtain ⟨v, h1, h2⟩ := hT d _ hc
          cases h2
          simp only [Option.some.injEq] at hw; subst hw
          have : yielded ops a.tmps j = none := by simp [yielded, hp', hd, h1]
          rw [this]
          rfl
        · cases hw
      · cases hw
    · cases hw

theorem TR.put (hT : TR E β T a) {dst : Option Tmp} {x : SV} {v : Value} (hx : VR E β x v) (hf : ∀ d, dst = some d → d < a.tmps.size) : TR E β (putT T dst x) (a.put dst v) := by
  cases dst with
  | none => exact hT
  | some d =>
    intro t y ht
    simp only [putT, Tr.get_set] at ht
    simp only [Act.put]
    by_cases e : t = d
    · subst e
      simp only [if_true, Option.some.injEq] at ht
      subst ht
      exact ⟨v, by simp [hf t rfl], hx⟩
    · rw [if_neg e] at ht
      obtain ⟨u, h1, h2⟩ := hT t y ht
      exact ⟨u, by rw [Array.getElem?_setIfInBounds_ne (Ne.symm e)]; exact h1, h2⟩

theorem put_size (a : Act) (dst : Option Tmp) (v : Value) : (a.put dst v).tmps.size = a.tmps.size ∧ (a.put dst v).defers = a.defers := by
  cases dst <;> simp [Act.put]
theorem fitsO_ok {n : Nat} {o : Oper} (h : fitsO n o = true) : ∀ d, o.dst = some d → d < n := by
  intro d hd
  unfold fitsO at h
  simp only [hd] at h
  rw [blt_eq] at h
  simpa using h

/-- what an operation leaves: how it goes on -/
def Goes (P : Program) (E : En) (N : Nat) (W : World) (F : Nat → Option Blk) (β : Bm) (h : Hp) (r : SV) (h' : Hp) (o : Oper) (a : Act) (w : World) : Prop :=
  ∀ (next : Act → World → Prop) (Q : Exit → Act → World → Prop), (∀ β' w' v, Post E N W F β h h' β' w' → VR E β' r v → next (a.put o.dst v) w') → o.wp P a w next Q

theorem eff_ok (hG : Gok E N W G) (hH : HookOk P E N W hook) (hX : ExtOk P E ext) (hN : NoCount P) {rec : Code → Tp → Hp → Option Out} (hrec : SoundC P E N W rec) (m : Mem E N W F β h w) (hT : TR E β T a) {o : Oper} {r : SV} {h' : Hp}
    (he : effA P G hook ext rec T h o.op = some (r, h')) : Goes P E N W F β h r h' o a w := by
  intro next Q hnext
  have htold := opA_ok (P := P) hG m hT o
  unfold effA at he
  unfold Oper.wp
  split at he
  · rename_i v h1 ho
    simp only [Option.some.injEq, Prod.mk.injEq] at he
    obtain ⟨rfl, rfl⟩ := he
    rw [ho] at htold
    obtain ⟨u, w', β', h1, h2, h3⟩ := htold
    rw [h1]
    exact hnext β' w' u h2 h3
  · rename_i h1 ho
    simp only [Option.some.injEq, Prod.mk.injEq] at he
    obtain ⟨rfl, rfl⟩ := he
    rw [ho] at htold
    obtain ⟨w', β', h1, h2⟩ := htold
    rw [h1]
    exact hnext β' w' undef h2 (.tup _ _ .nil)
  · rename_i f args ho
    rw [ho] at htold
    obtain ⟨vs, h1, h2⟩ := htold
    rw [h1]
    rcases callA_ok hG hH hX hN hrec m h2 he with ⟨v, k1, k2, rfl⟩ | ⟨k1, k2⟩
    · rw [k1]
      exact hnext β w v (Post.same m) k2
    · rw [k1]
      refine Calls.mono k2 fun e w' q => ?_
      cases e with
      | returned v => obtain ⟨β', p, hv⟩ := q; exact hnext β' w' v p hv
      | panicked c => exact q.elim
      | outgrown => exact q.elim
  · cases he

/-- Operations that come in order. -/
theorem opsA_ok (hG : Gok E N W G) (hH : HookOk P E N W hook) (hX : ExtOk P E ext) (hN : NoCount P) {rec : Code → Tp → Hp → Option Out} (hrec : SoundC P E N W rec) {ops : Array Oper} {h0 : Hp} {β0 : Bm} {a0 : Act} {r : Out} :
    ∀ (l : List Oper) (T : Tp) (h : Hp) (β : Bm) (a : Act) (w : World), opsA P G hook ext rec ops.toList l T h = some r → Post E N W F β0 h0 h β w → TR E β T a → l.all (fitsO a0.tmps.size) = true →
      a.tmps.size = a0.tmps.size → a.defers = a0.defers → wpList P ops (QOut E N W F β0 h0 a0 r) l a w := by
  intro l
  induction l with
  | nil =>
    intro T h β a w ho p hT hf hs hd
    have : some (Out.norm T h) = some r := ho
    cases this
    exact ⟨β, p, hT, hd, hs⟩
  | cons o l ih =>
    intro T h β a w ho p hT hf hs hd
    simp only [List.all_cons, Bool.and_eq_true] at hf
    have ho' : oneA P G hook ext rec ops.toList o (opsA P G hook ext rec ops.toList l) T h = some r := ho
    unfold oneA at ho'
    obtain ⟨dst, op, type, pos, after, guard⟩ := o
    simp only at ho'
    have hfd : ∀ d, dst = some d → d < a.tmps.size := by rw [hs]; exact fitsO_ok (o := ⟨dst, op, type, pos, after, guard⟩) hf.1
    unfold wpList
    cases hw : wantS ops.toList T guard with
    | none => rw [hw] at ho'; cases ho'
    | some b =>
      have hwant := wantS_ok (o := ⟨dst, op, type, pos, after, guard⟩) hT hw
      rw [hw] at ho'
      rw [hwant]
      cases b
      · simp only [Bool.false_eq_true, if_false]
        refine ih _ _ β _ _ ho' p (hT.put (.tup _ _ .nil) hfd) hf.2 ?_ ?_
        · rw [(put_size a dst undef).1, hs]
        · rw [(put_size a dst undef).2, hd]
      · simp only [if_true]
        left
        have key : ∀ (r1 : SV) (h1 : Hp), effA P G hook ext rec T h op = some (r1, h1) → opsA P G hook ext rec ops.toList l (putT T dst r1) h1 = some r →
            Oper.wp P ⟨dst, op, type, pos, after, guard⟩ a w (wpList P ops (QOut E N W F β0 h0 a0 r) l) (QOut E N W F β0 h0 a0 r) := by
          intro r1 h1 he hrest
          refine eff_ok hG hH hX hN hrec p.mem hT (o := ⟨dst, op, type, pos, after, guard⟩) he _ _ (fun β' w' v p' hv => ?_)
          refine ih _ _ β' _ _ hrest (p.trans p') ((hT.mono (Post.le p.mem p')).put hv hfd) hf.2 ?_ ?_
          · rw [(put_size a dst v).1, hs]
          · rw [(put_size a dst v).2, hd]
        unfold goOn at ho'
        cases hop : opA P G T h op with
        | no => rw [hop] at ho'; cases ho'
        | val v h1 => rw [hop] at ho'; exact key v h1 (by unfold effA; rw [hop]) ho'
        | sk h1 => rw [hop] at ho'; exact key (.tup []) h1 (by unfold effA; rw [hop]) ho'
        | call f args =>
          rw [hop] at ho'
          simp only at ho'
          split at ho'
          · rename_i v h1 hc
            exact key v h1 (by unfold effA; rw [hop]; exact hc) ho'
          · cases ho'

/-- what is asked of regions that draw their order -/
def SoundD (P : Program) (E : En) (N : Nat) (W : World) (G : Nat → Option (List SV)) (hook : FuncId → Option (List SV → Hp → Option (SV × Hp))) (ext : FuncId → Option (List SV → Option SV)) (rec : Code → Tp → Hp → Option Out) : Prop :=
  ∀ id ops T h r, regD P G hook ext rec ops.toList T h = some r → ∀ F β a w, Mem E N W F β h w → TR E β T a → ops.toList.all (fitsO a.tmps.size) = true → (Code.region id ops true).wp P (QOut E N W F β h a r) a w

theorem Exit.then_mono {next next' : Act → World → Prop} {Q Q' : Exit → Act → World → Prop} (h1 : ∀ a w, next a w → next' a w) (h2 : ∀ e a w, e ≠ .normal → Q e a w → Q' e a w) : ∀ e a w, Exit.then next Q e a w → Exit.then next' Q' e a w := by
  intro e a w q
  cases e <;> first | exact h1 _ _ q | exact h2 _ _ _ (by simp) q

/-- Code. -/
theorem codeA_ok (hG : Gok E N W G) (hH : HookOk P E N W hook) (hX : ExtOk P E ext) (hN : NoCount P) {rec : Code → Tp → Hp → Option Out} (hrec : SoundC P E N W rec) (hloop : SoundL P E N W rec) (hD : SoundD P E N W G hook ext rec) :
    SoundC P E N W (codeA P G hook ext rec) ∧ SoundL P E N W (codeA P G hook ext rec) := by
  -- the loop first
  have L : SoundL P E N W (codeA P G hook ext rec) := by
    intro c T h r hr F β a w m hT hf
    simp only [codeA] at hr
    refine wpIn_round ?_
    split at hr
    · rename_i T1 h1 h1r
      refine wp_mono (hrec c T h _ h1r F β a w m hT hf) fun e a' w' q => ?_
      cases e <;> first
        | exact q.elim
        | (obtain ⟨β', p, t, d, s⟩ := q
           intro b k cs
           obtain ⟨e2, a2, w2, q2, r2⟩ := hloop c T1 h1 r hr F β' a' w' p.mem t (by rw [s]; exact hf) b k cs
           exact ⟨e2, a2, w2, QOut.trans p d s q2, r2⟩)
    · rename_i r1 hne
      refine wp_mono (hrec c T h _ hr F β a w m hT hf) fun e a' w' q => ?_
      cases r with
      | norm T1 h1 => exact (hne T1 h1 hr).elim
      | exit id T1 h1 => cases e <;> first | exact q.elim | exact q
      | ret T1 h1 => cases e <;> first | exact q.elim | exact q
  refine ⟨?_, L⟩
  intro c T h r hr F β a w m hT hf
  cases c with
  | skip =>
    simp only [codeA, Option.some.injEq] at hr; subst hr
    exact wp_skip ⟨β, Post.same m, hT, rfl, rfl⟩
  | label l =>
    simp only [codeA, Option.some.injEq] at hr; subst hr
    exact wp_label ⟨β, Post.same m, hT, rfl, rfl⟩
  | region id ops draw =>
    simp only [codeA] at hr
    simp only [fitsC] at hf
    cases draw
    · refine wp_region_list ?_
      exact opsA_ok hG hH hX hN hrec ops.toList T h β a w hr (Post.same m) hT hf rfl rfl
    · exact hD id ops T h r hr F β a w m hT hf
  | seq x y =>
    simp only [codeA] at hr
    simp only [fitsC, Bool.and_eq_true] at hf
    refine wp_seq ?_
    split at hr
    · rename_i T1 h1 h1r
      refine wp_mono (hrec x T h _ h1r F β a w m hT hf.1) fun e a' w' q => ?_
      cases e <;> first
        | exact q.elim
        | (obtain ⟨β', p, t, d, s⟩ := q
           exact wp_mono (hrec y T1 h1 r hr F β' a' w' p.mem t (by rw [s]; exact hf.2)) fun e2 a2 w2 q2 => QOut.trans p d s q2)
    · rename_i r1 hne
      refine wp_mono (hrec x T h _ hr F β a w m hT hf.1) fun e a' w' q => ?_
      cases r with
      | norm T1 h1 => exact (hne T1 h1 hr).elim
      | exit id T1 h1 => cases e <;> first | exact q.elim | exact q
      | ret T1 h1 => cases e <;> first | exact q.elim | exact q
  | cond q x y =>
    simp only [codeA] at hr
    simp only [fitsC, Bool.and_eq_true] at hf
    split at hr
    · rename_i hq
      have hv := evO_ok hT hq
      have : a.eval q = .bool true := by generalize a.eval q = v at hv; cases hv; rfl
      exact wp_cond_true this (hrec x T h r hr F β a w m hT hf.1)
    · rename_i hq
      have hv := evO_ok hT hq
      have : a.eval q = .bool false := by generalize a.eval q = v at hv; cases hv; rfl
      exact wp_cond_false this (hrec y T h r hr F β a w m hT hf.2)
    · cases hr
  | block id x =>
    simp only [codeA] at hr
    simp only [fitsC] at hf
    refine wp_block ?_
    split at hr
    · rename_i id' T1 h1 h1r
      refine wp_mono (hrec x T h _ h1r F β a w m hT hf) fun e a' w' q => ?_
      cases hb : Nat.beq id' id
      · rw [hb] at hr
        simp only [cond_false, Option.some.injEq] at hr; subst hr
        have hne : id' ≠ id := Nat.ne_of_beq_eq_false hb
        cases e <;> first
          | exact q.elim
          | exact q
          | (rename_i id2
             obtain ⟨rfl, β', p, t, d, s⟩ := q
             show if _ = id then _ else _
             rw [if_neg hne]
             exact ⟨rfl, β', p, t, d, s⟩)
      · rw [hb] at hr
        simp only [cond_true, Option.some.injEq] at hr; subst hr
        have hid : id' = id := Nat.eq_of_beq_eq_true hb
        cases e <;> first
          | exact q.elim
          | trivial
          | (rename_i id2
             obtain ⟨rfl, β', p, t, d, s⟩ := q
             show if _ = id then _ else _
             rw [if_pos hid]
             exact ⟨β', p, t, d, s⟩)
    · rename_i r1 hne
      refine wp_mono (hrec x T h _ hr F β a w m hT hf) fun e a' w' q => ?_
      cases r with
      | norm T1 h1 => cases e <;> first | exact q.elim | exact q
      | exit id T1 h1 => exact (hne id T1 h1 hr).elim
      | ret T1 h1 => cases e <;> first | exact q.elim | exact q
  | loop x =>
    simp only [fitsC] at hf
    exact wpIn_of (L x T h r hr F β a w m hT hf)
  | exit id =>
    simp only [codeA, Option.some.injEq] at hr; subst hr
    exact wp_exit ⟨rfl, β, Post.same m, hT, rfl, rfl⟩
  | scope x =>
    simp only [codeA] at hr
    simp only [fitsC] at hf
    refine wp_scope_straight (wp_mono (hrec x T h r hr F β a w m hT hf) fun e a' w' q => ?_)
    cases e <;> first
      | exact q
      | (cases r <;> exact q.elim)
  | ret =>
    simp only [codeA, Option.some.injEq] at hr; subst hr
    exact wp_ret ⟨β, Post.same m, hT, rfl, rfl⟩
  | rangeFunc f ps as b => cases hr
  | goto l => cases hr
  | refuse why => cases hr
end
end
end Go.Proofs.YtgfahpnndmocbaaGreatDoor.Sx
