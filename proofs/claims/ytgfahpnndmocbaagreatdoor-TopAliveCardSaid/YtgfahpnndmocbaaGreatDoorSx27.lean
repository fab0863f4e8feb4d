/-
  Long runs in parts, by the executor in closed words: codes one behind the other, rounds of a loop, a call that is known from one memory, a loop of ticks.
-/
import Derived.Test.YtgfahpnndmocbaaGreatDoorSxF
namespace Go.Proofs.YtgfahpnndmocbaaGreatDoor.Sx
noncomputable section
open Go Go.RowKit
set_option linter.unusedVariables false
set_option linter.unusedSimpArgs false
noncomputable section

section
variable {P : Program} {E : En} {N : Nat} {W : World} {G : Nat → Option (List SV)} {hook : FuncId → Option (List SV → Hp → Option (SV × Hp))} {ext : FuncId → Option (List SV → Option SV)}
variable {F : Nat → Option Blk}

theorem soundF {n : Nat} (hS : SoundC P E N W (exec P G hook ext n)) : SoundC P E N W (execF P G hook ext n) := by rw [execF_eq]; exact hS

theorem seqF_ok {n : Nat} {Q : Exit → Act → World → Prop} (hS : SoundC P E N W (execF P G hook ext n)) {y : Code} {d : Act} {β0 : Bm} {h0 : Hp} {T' : Tp} {h' : Hp} : ∀ (l : List Code) {T : Tp} {h : Hp} {β : Bm} {a : Act} {w : World}, runF P G hook ext n l T h = some (T', h') → Post E N W F β0 h0 h β w → TR E β T a → l.all (fitsC d.tmps.size) = true →
    a.defers = d.defers → a.tmps.size = d.tmps.size →
    (∀ β' a' w', Post E N W F β0 h0 h' β' w' → TR E β' T' a' → a'.defers = d.defers → a'.tmps.size = d.tmps.size → y.wp P Q a' w') → (seqL l y).wp P Q a w
  | [], T, h, β, a, w, hc, m, hT, hf, hd, hz, hy => by
    simp only [runF, Option.some.injEq, Prod.mk.injEq] at hc
    obtain ⟨rfl, rfl⟩ := hc
    exact hy β a w m hT hd hz
  | c :: l, T, h, β, a, w, hc, m, hT, hf, hd, hz, hy => by
    simp only [runF] at hc
    simp only [List.all_cons, Bool.and_eq_true] at hf
    split at hc
    · rename_i T1 h1 he
      refine wp_seq (wp_mono (hS c T h _ he F β a w m.mem hT (by rw [hz]; exact hf.1)) fun e a' w' q => ?_)
      cases e <;> first
        | exact q.elim
        | (obtain ⟨β', p, t, d1, s1⟩ := q
           exact seqF_ok hS l hc (m.trans p) t hf.2 (d1.trans hd) (s1.trans hz) hy)
    · cases hc
theorem chkF_ok {n : Nat} {Q : Exit → Act → World → Prop} (hS : SoundC P E N W (execF P G hook ext n)) {l : List Code} {y : Code} {lt : List (Nat × SV)} {lh : List (Nat × Blk)} {k : Nat} {d : Act} {β0 β : Bm} {h0 h : Hp} {T : Tp} {a : Act} {w : World} (hc : chkF P G hook ext n l T h lt lh k = true) (m : Post E N W F β0 h0 h β w) (hT : TR E β T a) (hf : l.all (fitsC d.tmps.size) = true)
    (hd : a.defers = d.defers) (hz : a.tmps.size = d.tmps.size)
    (hy : ∀ β' a' w', Post E N W F β0 h0 ⟨mkB lh, k⟩ β' w' → TR E β' (mkT lt) a' → a'.defers = d.defers → a'.tmps.size = d.tmps.size → y.wp P Q a' w') : (seqL l y).wp P Q a w := by
  unfold chkF at hc
  split at hc
  · rename_i T' h' he
    simp only [Bool.and_eq_true] at hc
    exact seqF_ok hS l he m hT hf hd hz fun β' a' w' m' t' d' z' => hy β' a' w' (m'.sub (mkB_sub hc.1.2) (Nat.le_of_ble_eq_true hc.2)) (t'.sub (mkT_sub hc.1.1)) d' z'
  · cases hc

/-! Rounds. -/
variable (P G hook ext) in
def rndF (n : Nat) (X : Code) : Nat → Tp → Hp → Option (Tp × Hp)
  | 0, T, h => some (T, h)
  | k + 1, T, h => match execF P G hook ext n X T h with
    | some (.norm T' h') => rndF n X k T' h'
    | _ => none
variable (P G hook ext) in
def chkR (n : Nat) (X : Code) (k : Nat) (T : Tp) (h : Hp) (lt : List (Nat × SV)) (lh : List (Nat × Blk)) (m : Nat) : Bool := match rndF P G hook ext n X k T h with
  | some (T', h') => subT T' lt && subB h'.t lh && Nat.ble h'.n m
  | _ => false
variable (P G hook ext) in
def chkE (n : Nat) (X : Code) (id : Nat) (T : Tp) (h : Hp) (lt : List (Nat × SV)) (lh : List (Nat × Blk)) (m : Nat) : Bool := match execF P G hook ext n X T h with
  | some (.exit id' T' h') => Nat.beq id' id && subT T' lt && subB h'.t lh && Nat.ble h'.n m
  | _ => false
theorem rndF_ok {n : Nat} {X : Code} {Q : Exit → Act → World → Prop} (hS : SoundC P E N W (execF P G hook ext n)) {d : Act} {β0 : Bm} {h0 : Hp} {T' : Tp} {h' : Hp} (hf : fitsC d.tmps.size X = true)
    (hy : ∀ β' a' w', Post E N W F β0 h0 h' β' w' → TR E β' T' a' → a'.defers = d.defers → a'.tmps.size = d.tmps.size → wpIn P X Q a' w') : ∀ (k : Nat) {T : Tp} {h : Hp} {β : Bm} {a : Act} {w : World}, rndF P G hook ext n X k T h = some (T', h') →
    Post E N W F β0 h0 h β w → TR E β T a → a.defers = d.defers → a.tmps.size = d.tmps.size → wpIn P X Q a w
  | 0, T, h, β, a, w, hc, m, hT, hd, hz => by
    simp only [rndF, Option.some.injEq, Prod.mk.injEq] at hc
    obtain ⟨rfl, rfl⟩ := hc
    exact hy β a w m hT hd hz
  | k + 1, T, h, β, a, w, hc, m, hT, hd, hz => by
    simp only [rndF] at hc
    split at hc
    · rename_i T1 h1 he
      refine wpIn_round (wp_mono (hS X T h _ he F β a w m.mem hT (by rw [hz]; exact hf)) fun e a' w' q => ?_)
      cases e <;> first
        | exact q.elim
        | (obtain ⟨β', p, t, d1, s1⟩ := q
           exact rndF_ok hS hf hy k hc (m.trans p) t (d1.trans hd) (s1.trans hz))
    · cases hc
theorem chkR_ok {n k m : Nat} {X : Code} {Q : Exit → Act → World → Prop} (hS : SoundC P E N W (execF P G hook ext n)) {lt : List (Nat × SV)} {lh : List (Nat × Blk)} {d : Act} {β0 β : Bm} {h0 h : Hp} {T : Tp} {a : Act} {w : World} (hc : chkR P G hook ext n X k T h lt lh m = true) (p : Post E N W F β0 h0 h β w) (hT : TR E β T a)
    (hf : fitsC d.tmps.size X = true) (hd : a.defers = d.defers) (hz : a.tmps.size = d.tmps.size)
    (hy : ∀ β' a' w', Post E N W F β0 h0 ⟨mkB lh, m⟩ β' w' → TR E β' (mkT lt) a' → a'.defers = d.defers → a'.tmps.size = d.tmps.size → wpIn P X Q a' w') : wpIn P X Q a w := by
  unfold chkR at hc
  split at hc
  · rename_i T' h' he
    simp only [Bool.and_eq_true] at hc
    exact rndF_ok hS hf (fun β' a' w' m' t' d' z' => hy β' a' w' (m'.sub (mkB_sub hc.1.2) (Nat.le_of_ble_eq_true hc.2)) (t'.sub (mkT_sub hc.1.1)) d' z') k he p hT hd hz
  · cases hc
theorem chkE_ok {n id m : Nat} {X : Code} {Q : Exit → Act → World → Prop} (hS : SoundC P E N W (execF P G hook ext n)) {lt : List (Nat × SV)} {lh : List (Nat × Blk)} {d : Act} {β0 β : Bm} {h0 h : Hp} {T : Tp} {a : Act} {w : World} (hc : chkE P G hook ext n X id T h lt lh m = true) (p : Post E N W F β0 h0 h β w) (hT : TR E β T a)
    (hf : fitsC d.tmps.size X = true) (hd : a.defers = d.defers) (hz : a.tmps.size = d.tmps.size)
    (hy : ∀ β' a' w', Post E N W F β0 h0 ⟨mkB lh, m⟩ β' w' → TR E β' (mkT lt) a' → a'.defers = d.defers → a'.tmps.size = d.tmps.size → Q .normal a' w') : wpIn P X (Exit.inBlock id Q) a w := by
  unfold chkE at hc
  split at hc
  · rename_i id' T' h' he
    simp only [Bool.and_eq_true] at hc
    have hid := Nat.eq_of_beq_eq_true hc.1.1.1
    subst hid
    refine wpIn_round (wp_mono (hS X T h _ he F β a w p.mem hT (by rw [hz]; exact hf)) fun e a' w' q => ?_)
    cases e <;> first
      | exact q.elim
      | skip
    obtain ⟨hi, β', p', t, d1, s1⟩ := q
    subst hi
    show (if _ = _ then _ else _)
    rw [if_pos rfl]
    exact hy β' a' w' ((p.trans p').sub (mkB_sub hc.1.2) (Nat.le_of_ble_eq_true hc.2)) (t.sub (mkT_sub hc.1.1.2)) (d1.trans hd) (s1.trans hz)
  · cases hc

/-! A call that is known from one memory. -/
def memoH (as : List SV) (lt : List (Nat × Blk)) (n : Nat) (r : SV) (lh : List (Nat × Blk)) (n' : Nat) : List SV → Hp → Option (SV × Hp) := fun args h =>
  bif sameL args as && subB h.t lt && Nat.ble h.n n then some (r, ⟨mkB lh, n'⟩) else none
theorem memoH_ok {f : FuncId} {as : List SV} {lt lh : List (Nat × Blk)} {n n' : Nat} {r : SV}
    (hC : ∀ (F : Nat → Option Blk) (β : Bm) (w : World) (vs : Array Value), Mem E N W F β ⟨mkB lt, n⟩ w → VRs E β as vs.toList → Calls P f vs w (fun e w' => match e with | .returned v => ∃ β', Post E N W F β ⟨mkB lt, n⟩ ⟨mkB lh, n'⟩ β' w' ∧ VR E β' r v | .panicked _ => False | .outgrown => False))
    {args : List SV} {h h1 : Hp} {r1 : SV} (hk : memoH as lt n r lh n' args h = some (r1, h1)) {β : Bm} {w : World} {vs : Array Value} (m : Mem E N W F β h w) (hv : VRs E β args vs.toList) :
    Calls P f vs w (fun e w' => match e with | .returned v => ∃ β', Post E N W F β h h1 β' w' ∧ VR E β' r1 v | .panicked _ => False | .outgrown => False) := by
  unfold memoH at hk
  cases hb : (sameL args as && subB h.t lt && Nat.ble h.n n)
  · rw [hb] at hk; cases hk
  · rw [hb] at hk
    simp only [cond_true, Option.some.injEq, Prod.mk.injEq] at hk
    obtain ⟨rfl, rfl⟩ := hk
    simp only [Bool.and_eq_true] at hb
    have ha := sameL_eq hb.1.1
    subst ha
    have hs : ∀ id b, (mkB lt).get id = some b → h.t.get id = some b := mkB_sub hb.1.2
    have hn : h.n ≤ n := Nat.le_of_ble_eq_true hb.2
    refine (hC F β w vs (m.sub (h' := ⟨mkB lt, n⟩) hs hn) hv).mono fun e w' q => ?_
    cases e with
    | returned v =>
      obtain ⟨β', p, hr⟩ := q
      refine ⟨β', ⟨fun id hi => p.ext id (Nat.lt_of_lt_of_le hi hn), p.mem, Nat.le_trans hn p.grow.1, fun id hi e => p.grow.2 id (Nat.lt_of_lt_of_le hi hn) ?_⟩, hr⟩
      cases hk : (mkB lt).get id with
      | none => rfl
      | some b => have := hs id b hk; rw [e] at this; cases this
    | panicked x => exact q
    | outgrown => exact q

/-- A call, by what is known of its body. -/
theorem call_by (hG : Gok E N W G) (hN : NoCount P) {f : FuncId} {fn : Func} {c : Code} (hf : P.funcs[f]? = some fn) (hb : fn.body = some c) (hfit : fitsC fn.ntmps c = true) {args : List SV} {h h1 : Hp} {T1 : Tp} {l : List SV} (hres : resSs P G T1 h1 fn.results.toList = some l)
    (hwp : ∀ (F : Nat → Option Blk) (β : Bm) (a : Act) (w : World), Mem E N W F β h w → TR E β (args0 args 0 .nil) a → fitsC a.tmps.size c = true → c.wp P (QOut E N W F β h a (.norm T1 h1)) a w)
    {β : Bm} {w : World} {vs : Array Value} (m : Mem E N W F β h w) (hv : VRs E β args vs.toList) :
    Calls P f vs w (fun e w' => match e with | .returned v => ∃ β', Post E N W F β h h1 β' w' ∧ VR E β' (one l) v | .panicked _ => False | .outgrown => False) := by
  classical
  let rec' : Code → Tp → Hp → Option Out := fun c' T' h' => if c' = c ∧ T' = args0 args 0 .nil ∧ h' = h then some (.norm T1 h1) else none
  have hS : SoundC P E N W rec' := by
    intro c' T' h' r hr F' β' a' w' m' hT' hfc'
    simp only [rec'] at hr
    split at hr
    · rename_i hh
      simp only [Option.some.injEq] at hr; subst hr
      rw [hh.1] at hfc' ⊢
      rw [hh.2.1] at hT'
      rw [hh.2.2] at m' ⊢
      exact hwp F' β' a' w' m' hT' hfc'
    · cases hr
  have hc : callA P G (fun _ => none) (fun _ => none) rec' f args h = some (one l, h1) := by
    unfold callA
    simp only [hf, hb, hfit, cond_true, rec', and_self, if_true, hres]
  rcases callA_ok (hook := fun _ => none) (ext := fun _ => none) hG (fun f k h => by cases h) (fun f k h => by cases h) hN hS m hv hc with ⟨v, k1, _⟩ | ⟨_, k2⟩
  · have hn := hN f fn hf
    have : (callFunc f vs).run P w = .ok (.enter f vs) w := by simp [callFunc, hf, hn, hb]
    rw [this] at k1; cases k1
  · exact k2

/-! A loop of ticks. -/
variable (P G hook ext) in
/-- the end, from here: both ways of slot sn (or, with u, either) -/
def tlF (L : Lp) (u : Bool) (T : Tp) (h : Hp) : Bool :=
  (match T.get L.sn with | some (.sym .u32 (.pl (.v 4) 0)) => true | _ => false) &&
  (bif u then retF P G hook ext L.s L.n L.tl T h else retF P G hook ext L.s L.n L.tl (T.set L.sn (some (.sym .u32 (.v 2)))) h && retF P G hook ext L.s L.n L.tl (T.set L.sn (some (.sym .u32 (.tok L.own)))) h)
variable (P G hook ext) in
/-- k states, each with its end, and then one that is listed -/
def goN (L : Lp) (u : Bool) (lt : List (Nat × SV)) (lh : List (Nat × Blk)) (m : Nat) : Nat → Nat → Tp → Hp → Bool
  | 0, i, T, h => subT T lt && subB h.t lh && Nat.ble h.n m
  | k + 1, i, T, h => tlF P G hook ext L u (T.set L.sb (some (.bool false))) h && (match execF P G hook ext L.n L.bd (T.set L.sb (some (.bool true))) h with
    | some (.norm T' h') => atI L T' (Nat.succ i) && goN L u lt lh m k (Nat.succ i) T' h'
    | _ => false)
variable (P G hook ext) in
/-- k rounds, and the end -/
def goL (L : Lp) (u : Bool) : Nat → Nat → Tp → Hp → Bool
  | 0, i, T, h => tlF P G hook ext L u (T.set L.sb (some (.bool false))) h
  | k + 1, i, T, h => tlF P G hook ext L u (T.set L.sb (some (.bool false))) h && (match execF P G hook ext L.n L.bd (T.set L.sb (some (.bool true))) h with
    | some (.norm T' h') => atI L T' (Nat.succ i) && goL L u k (Nat.succ i) T' h'
    | _ => false)

theorem tlF_ok {L : Lp} {u : Bool} {β : Bm} {T : Tp} {h : Hp} {a : Act} {w : World} (hS : SoundC P E N W (exec P G hook ext L.n)) (ho : bits (.tok L.own) ≤ 32) (hn : E.u 4 % 2 ^ 64 % 2 ^ 32 = E.u 2 % 2 ^ 32 ∨ E.u 4 % 2 ^ 64 % 2 ^ 32 = den E (.tok L.own)) (hc : tlF P G hook ext L u T h = true) (m : Mem E N W F β h w) (hT : TR E β T a)
    (hf : fitsC a.tmps.size L.tl = true) {d : Act} (hd : a.defers = d.defers) (hz : a.tmps.size = d.tmps.size) : L.tl.wp P (Qf E N W L.s d) a w := by
  unfold tlF at hc
  simp only [retF_eq] at hc
  cases u
  · exact tlB_ok hS ho hn (by unfold tlB; rw [Bool.and_assoc]; exact hc) m hT hf hd hz
  · simp only [Bool.and_eq_true, cond_true] at hc
    exact chkRet_ok hS hc.2 m hT hf hd hz

section
variable {L : Lp} {R : Code} {id : Nat} {d : Act} {u : Bool}
/-- one round: the test, and then either the end or a tick -/
theorem go_step (hS : SoundC P E N W (exec P G hook ext L.n)) (ho : bits (.tok L.own) ≤ 32) (hn : E.u 4 % 2 ^ 64 % 2 ^ 32 = E.u 2 % 2 ^ 32 ∨ E.u 4 % 2 ^ 64 % 2 ^ 32 = den E (.tok L.own))
    (hne : L.sb ≠ L.sL ∧ L.sb ≠ L.si ∧ L.si ≠ L.sL)
    (hR : ∀ T h i l, T.get L.si = some (.int .i64 (.ofNat i)) → T.get L.sL = some (.int .i64 (.ofNat l)) → exec P G hook ext L.n R T h = some (.norm (T.set L.sb (some (.bool (Nat.blt i l)))) h))
    (hfR : fitsC d.tmps.size R = true) (hfB : fitsC d.tmps.size L.bd = true) (hfT : fitsC d.tmps.size L.tl = true) (hu : E.u 9 < 2 ^ 63)
    {i : Nat} {T : Tp} {h : Hp} {β : Bm} {a : Act} {w : World} (ht : tlF P G hook ext L u (T.set L.sb (some (.bool false))) h = true) (hi : atI L T i = true) (hle : i ≤ E.u 9)
    (m : Mem E N W F β h w) (hT : TR E β T a) (hd : a.defers = d.defers) (hz : a.tmps.size = d.tmps.size)
    (hgo : i < E.u 9 → ∃ T' h', execF P G hook ext L.n L.bd (T.set L.sb (some (.bool true))) h = some (.norm T' h') ∧ ∀ β' a' w', Mem E N W F β' h' w' → TR E β' T' a' → a'.defers = d.defers → a'.tmps.size = d.tmps.size →
      wpIn P (.seq R (.seq (.cond (.tmp L.sb) .skip (.exit id)) L.bd)) (Exit.inBlock id (Exit.then (L.tl.wp P (Qf E N W L.s d)) (Qf E N W L.s d))) a' w') :
    wpIn P (.seq R (.seq (.cond (.tmp L.sb) .skip (.exit id)) L.bd)) (Exit.inBlock id (Exit.then (L.tl.wp P (Qf E N W L.s d)) (Qf E N W L.s d))) a w := by
  have hu9 : E.u 9 % 2 ^ bits (.v 9) = E.u 9 := Nat.mod_eq_of_lt (Nat.lt_of_lt_of_le hu (by decide))
  have test : ∀ {β : Bm} {a : Act} {T : Tp} {b : Bool}, TR E β (Tr.set T L.sb (some (.bool b))) a → a.eval (.tmp L.sb) = Value.bool b := by
    intro β a T b t
    have hv := evO_ok (x := Operand.tmp L.sb) (y := SV.bool b) t (by simp only [evO]; rw [Tr.get_set, if_pos rfl])
    generalize a.eval (.tmp L.sb) = v at hv
    cases hv; rfl
  unfold atI at hi
  simp only [Bool.and_eq_true] at hi
  have h46 : T.get L.si = some (.int .i64 (.ofNat i)) := by
    have h1 := hi.1
    split at h1
    · rename_i j hj; rw [hj, Nat.eq_of_beq_eq_true h1]
    · cases h1
  have h45 : T.get L.sL = some (.sym .i64 (.v 9)) := by
    have h1 := hi.2
    split at h1
    · assumption
    · cases h1
  have hT1 : TR E β (T.set L.sL (some (.int .i64 (.ofNat (E.u 9))))) a := hT.other h45 fun v hv => by
    cases hv
    rw [show den E (.v 9) = E.u 9 from hu9]
    exact VR.int .i64 _
  have he := hR (T.set L.sL (some (.int .i64 (.ofNat (E.u 9))))) h i (E.u 9) (by rw [Tr.get_set, if_neg hne.2.2]; exact h46) (by rw [Tr.get_set, if_pos rfl])
  refine wpIn_round (wp_seq (wp_mono (hS _ _ _ _ he F β a w m hT1 (by rw [hz]; exact hfR)) fun e a' w' q => ?_))
  cases e <;> first
    | exact q.elim
    | skip
  obtain ⟨β', p, t, d1, s1⟩ := q
  have d' := d1.trans hd
  have z' := s1.trans hz
  have m' := p.mem
  have t' : TR E β' (T.set L.sb (some (.bool (Nat.blt i (E.u 9))))) a' := by
    intro x y hx
    rw [Tr.get_set] at hx
    by_cases e1 : x = L.sb
    · rw [if_pos e1] at hx
      exact t x y (by rw [Tr.get_set, if_pos e1]; exact hx)
    · rw [if_neg e1] at hx
      by_cases e2 : x = L.sL
      · subst e2
        rw [h45] at hx
        simp only [Option.some.injEq] at hx
        subst hx
        obtain ⟨v, h1, h2⟩ := t L.sL (.int .i64 (.ofNat (E.u 9))) (by rw [Tr.get_set, if_neg e1, Tr.get_set, if_pos rfl])
        refine ⟨v, h1, ?_⟩
        cases h2
        have := VR.sym (E := E) (β := β') .i64 (.v 9) (by decide)
        rw [show den E (.v 9) = E.u 9 from hu9] at this
        exact this
      · exact t x y (by rw [Tr.get_set, if_neg e1, Tr.get_set, if_neg e2]; exact hx)
  by_cases hlt : i < E.u 9
  · have hb : Nat.blt i (E.u 9) = true := by rw [blt_eq]; simpa using hlt
    rw [hb] at t'
    obtain ⟨T2, h2, he2, hk⟩ := hgo hlt
    rw [execF_eq] at he2
    refine wp_seq (wp_cond_true (test t') (wp_skip ?_))
    show L.bd.wp P _ a' w'
    refine wp_mono (hS _ _ _ _ he2 F β' a' w' m' t' (by rw [z']; exact hfB)) fun e a2 w2 q => ?_
    cases e <;> first
      | exact q.elim
      | (obtain ⟨β2, p, t2, d2, s2⟩ := q
         exact hk β2 a2 w2 p.mem t2 (d2.trans d') (s2.trans z'))
  · have hi' : E.u 9 = i := by omega
    have hb : Nat.blt i (E.u 9) = false := by rw [hi', blt_eq]; simp
    rw [hb] at t'
    refine wp_seq (wp_cond_false (test t') (wp_exit ?_))
    show (if id = id then _ else _)
    rw [if_pos rfl]
    exact tlF_ok hS ho hn ht m' t' (by rw [z']; exact hfT) d' z'

theorem goN_ok (hS : SoundC P E N W (exec P G hook ext L.n)) (ho : bits (.tok L.own) ≤ 32) (hn : E.u 4 % 2 ^ 64 % 2 ^ 32 = E.u 2 % 2 ^ 32 ∨ E.u 4 % 2 ^ 64 % 2 ^ 32 = den E (.tok L.own))
    (hne : L.sb ≠ L.sL ∧ L.sb ≠ L.si ∧ L.si ≠ L.sL)
    (hR : ∀ T h i l, T.get L.si = some (.int .i64 (.ofNat i)) → T.get L.sL = some (.int .i64 (.ofNat l)) → exec P G hook ext L.n R T h = some (.norm (T.set L.sb (some (.bool (Nat.blt i l)))) h))
    (hfR : fitsC d.tmps.size R = true) (hfB : fitsC d.tmps.size L.bd = true) (hfT : fitsC d.tmps.size L.tl = true) (hu : E.u 9 < 2 ^ 63) {lt : List (Nat × SV)} {lh : List (Nat × Blk)} {mm : Nat} (j : Nat)
    (hnext : j ≤ E.u 9 → ∀ β a w, Mem E N W F β ⟨mkB lh, mm⟩ w → TR E β (mkT lt) a → a.defers = d.defers → a.tmps.size = d.tmps.size →
      wpIn P (.seq R (.seq (.cond (.tmp L.sb) .skip (.exit id)) L.bd)) (Exit.inBlock id (Exit.then (L.tl.wp P (Qf E N W L.s d)) (Qf E N W L.s d))) a w) :
    ∀ k i T h β a w, goN P G hook ext L u lt lh mm k i T h = true → atI L T i = true → i + k = j → i ≤ E.u 9 → Mem E N W F β h w → TR E β T a → a.defers = d.defers → a.tmps.size = d.tmps.size →
      wpIn P (.seq R (.seq (.cond (.tmp L.sb) .skip (.exit id)) L.bd)) (Exit.inBlock id (Exit.then (L.tl.wp P (Qf E N W L.s d)) (Qf E N W L.s d))) a w := by
  intro k
  induction k with
  | zero =>
    intro i T h β a w hg hi hj hle m hT hd hz
    simp only [goN, Bool.and_eq_true] at hg
    exact hnext (by omega) β a w (m.sub (mkB_sub hg.1.2) (Nat.le_of_ble_eq_true hg.2)) (hT.sub (mkT_sub hg.1.1)) hd hz
  | succ k ih =>
    intro i T h β a w hg hi hj hle m hT hd hz
    simp only [goN, Bool.and_eq_true] at hg
    refine go_step hS ho hn hne hR hfR hfB hfT hu hg.1 hi hle m hT hd hz fun hlt => ?_
    have h2 := hg.2
    split at h2
    · rename_i T2 h2' he
      simp only [Bool.and_eq_true] at h2
      exact ⟨T2, h2', he, fun β' a' w' m' t' d' z' => ih (Nat.succ i) T2 h2' β' a' w' h2.2 h2.1 (by omega) hlt m' t' d' z'⟩
    · cases h2

theorem goL_ok (hS : SoundC P E N W (exec P G hook ext L.n)) (ho : bits (.tok L.own) ≤ 32) (hn : E.u 4 % 2 ^ 64 % 2 ^ 32 = E.u 2 % 2 ^ 32 ∨ E.u 4 % 2 ^ 64 % 2 ^ 32 = den E (.tok L.own))
    (hne : L.sb ≠ L.sL ∧ L.sb ≠ L.si ∧ L.si ≠ L.sL)
    (hR : ∀ T h i l, T.get L.si = some (.int .i64 (.ofNat i)) → T.get L.sL = some (.int .i64 (.ofNat l)) → exec P G hook ext L.n R T h = some (.norm (T.set L.sb (some (.bool (Nat.blt i l)))) h))
    (hfR : fitsC d.tmps.size R = true) (hfB : fitsC d.tmps.size L.bd = true) (hfT : fitsC d.tmps.size L.tl = true) (hu : E.u 9 < 2 ^ 63) :
    ∀ k i T h β a w, goL P G hook ext L u k i T h = true → atI L T i = true → i ≤ E.u 9 → E.u 9 ≤ i + k → Mem E N W F β h w → TR E β T a → a.defers = d.defers → a.tmps.size = d.tmps.size →
      wpIn P (.seq R (.seq (.cond (.tmp L.sb) .skip (.exit id)) L.bd)) (Exit.inBlock id (Exit.then (L.tl.wp P (Qf E N W L.s d)) (Qf E N W L.s d))) a w := by
  intro k
  induction k with
  | zero =>
    intro i T h β a w hg hi hle hge m hT hd hz
    exact go_step hS ho hn hne hR hfR hfB hfT hu hg hi hle m hT hd hz fun hlt => absurd hlt (by omega)
  | succ k ih =>
    intro i T h β a w hg hi hle hge m hT hd hz
    simp only [goL, Bool.and_eq_true] at hg
    refine go_step hS ho hn hne hR hfR hfB hfT hu hg.1 hi hle m hT hd hz fun hlt => ?_
    have h2 := hg.2
    split at h2
    · rename_i T2 h2' he
      simp only [Bool.and_eq_true] at h2
      exact ⟨T2, h2', he, fun β' a' w' m' t' d' z' => ih (Nat.succ i) T2 h2' β' a' w' h2.2 h2.1 hlt (by omega) m' t' d' z'⟩
    · cases h2
end
end
end
end
end Go.Proofs.YtgfahpnndmocbaaGreatDoor.Sx
