/-
  Calls from any world; functions that are answered by a table, or by what the executor makes of them.
-/
import Derived.Test.YtgfahpnndmocbaaGreatDoorSx24
import Derived.Test.YtgfahpnndmocbaaGreatDoorSx23
import Derived.Lib.Bytealg
namespace Go.Proofs.YtgfahpnndmocbaaGreatDoor.Sx
noncomputable section
open Go Go.RowKit
set_option linter.unusedVariables false
set_option linter.unusedSimpArgs false

section
variable {P : Program} {E : En} {N : Nat} {W : World} {G : Nat → Option (List SV)} {hook : FuncId → Option (List SV → Hp → Option (SV × Hp))} {ext : FuncId → Option (List SV → Option SV)}
variable {F : Nat → Option Blk} {β : Bm} {h : Hp} {w : World}

/-- What leaves all memory as it was leaves the executor's. -/
theorem Post.below (m : Mem E N W F β h w) {w' : World} (hb : Below w.heap.size w w') : Post E N W F β h h β w' := by
  refine ⟨Ext.refl _ _, ⟨⟨m.hr.dom, fun id b hg => ?_, m.hr.inj, ?_, Nat.le_trans m.hr.size hb.size⟩, m.dj, m.lv⟩, Grow.refl h⟩
  · obtain ⟨p, h1, h2, h3⟩ := m.hr.live id b hg
    exact ⟨p, h1, h2, h3.congr (hb.block _ h3.lt)⟩
  · have o := m.hr.old
    exact ⟨hb.os.trans o.os, hb.tape.trans o.tape, hb.output.trans o.output, Nat.le_trans o.size hb.size, fun k hk => (hb.block k (Nat.lt_of_lt_of_le hk m.hr.size)).trans (o.block k hk)⟩

/-- nothing is known of memory -/
theorem Mem.start (E : En) (w : World) : Mem E w.heap.size w (fun _ => none) (fun _ => none) ⟨.nil, 0⟩ w :=
  ⟨⟨fun _ _ => rfl, fun id b e => (by simp [un, Tr.get_nil] at e), fun i j b c p q hi => (by simp [un, Tr.get_nil] at hi), Below.refl _ _, Nat.le_refl _⟩, fun id b e => (by cases e), fun id b e => (by simp [Tr.get_nil] at e)⟩

/-- A call from any world, by the executor. -/
theorem call_any {n : Nat} (hS : ∀ (E : En) (w : World), Gok E w.heap.size w G → SoundC P E w.heap.size w (exec P G hook ext n)) (hG : Gok E w.heap.size w G) (hH : HookOk P E w.heap.size w hook) (hX : ExtOk P E ext) (hN : NoCount P)
    {f : FuncId} {fn : Func} {c : Code} (hf : P.funcs[f]? = some fn) (hb : fn.body = some c) {args : List SV} {vs : Array Value} (hv : VRs E (fun _ => none) args vs.toList) {r : SV} {h' : Hp}
    (hc : callA P G hook ext (exec P G hook ext n) f args ⟨.nil, 0⟩ = some (r, h')) :
    Calls P f vs w (fun e w' => match e with | .returned v => Below w.heap.size w w' ∧ ∃ β', VR E β' r v | .panicked _ => False | .outgrown => False) := by
  rcases callA_ok (F := fun _ => none) hG hH hX hN (hS E w hG) (Mem.start E w) hv hc with ⟨v, h1, _⟩ | ⟨_, h2⟩
  · have hn := hN f fn hf
    have : (callFunc f vs).run P w = .ok (.enter f vs) w := by simp [callFunc, hf, hn, hb]
    rw [this] at h1; cases h1
  · refine h2.mono fun e w' q => ?_
    cases e with
    | returned v => obtain ⟨β', p, k⟩ := q; exact ⟨p.mem.hr.old, β', k⟩
    | panicked x => exact q
    | outgrown => exact q

/-! The natives. -/
theorem countB_eq (c : Nat) (hc : c < 256) : ∀ (l : List UInt8) (n : Nat), countB c l n = n + Lib.countByte l c.toUInt8
  | [], n => by simp [countB, Lib.countByte]
  | x :: l, n => by
    unfold countB
    rw [countB_eq c hc l]
    unfold Lib.countByte
    rw [List.count_cons]
    have e : (x == c.toUInt8) = Nat.beq x.toNat c := by
      have : c.toUInt8.toNat = c := by simp [Nat.toUInt8]; omega
      rcases h : Nat.beq x.toNat c with _ | _
      · have := Nat.ne_of_beq_eq_false h
        simp only [beq_eq_false_iff_ne]
        rintro rfl
        omega
      · have h := Nat.eq_of_beq_eq_true h
        rw [beq_iff_eq]
        exact UInt8.toNat_inj.1 (by omega)
    rw [e]
    cases Nat.beq x.toNat c <;> simp <;> omega
theorem indexB_eq (c : Nat) (hc : c < 256) : ∀ (l : List UInt8) (n : Nat), indexB c l n = if Lib.indexByte l c.toUInt8 = -1 then -1 else Lib.indexByte l c.toUInt8 + n
  | [], n => by simp [indexB, Lib.indexByte]
  | x :: l, n => by
    unfold indexB
    rw [indexB_eq c hc l]
    have hge := Lib.indexByte_ge l c.toUInt8
    have hun : Lib.indexByte (x :: l) c.toUInt8 = if x == c.toUInt8 then 0 else if Lib.indexByte l c.toUInt8 == -1 then -1 else Lib.indexByte l c.toUInt8 + 1 := rfl
    rw [hun]
    generalize Lib.indexByte l c.toUInt8 = q at *
    have e : (x == c.toUInt8) = Nat.beq x.toNat c := by
      have : c.toUInt8.toNat = c := by simp [Nat.toUInt8]; omega
      rcases h : Nat.beq x.toNat c with _ | _
      · have := Nat.ne_of_beq_eq_false h
        simp only [beq_eq_false_iff_ne]
        rintro rfl
        omega
      · have h := Nat.eq_of_beq_eq_true h
        rw [beq_iff_eq]
        exact UInt8.toNat_inj.1 (by omega)
    rw [e]
    cases Nat.beq x.toNat c
    · simp only [cond_false, Bool.false_eq_true, if_false, beq_iff_eq]
      by_cases h1 : q = -1
      · simp [h1]
      · rw [if_neg h1, if_neg h1, if_neg (by omega)]; omega
    · simp

theorem uarr {α : Type} {vs : Array α} {x : α} (h : vs.toList = [x]) : vs = #[x] := Array.toList_inj.1 h

theorem sumH_ok {f : FuncId} (hSum : ∀ (w : World) (A : Option Addr) (n c : Nat) (ws : List Value) (ls : List (List Nat)), Pieces w ws ls → ws.length = n → n < 1048576 → Shows w A ws →
      Calls P f #[.slice A n c] w fun e w' => e = .returned (.int .u16 (told (addL (0, false) (ints ls.flatten)).1)) ∧ Below w.heap.size w w')
    {args : List SV} {r : SV} {h' : Hp} (hk : sumH args h = some (r, h')) (m : Mem E N W F β h w) {vs : Array Value} (hv : VRs E β args vs.toList) :
    Calls P f vs w (fun e w' => match e with | .returned v => ∃ β', Post E N W F β h h' β' w' ∧ VR E β' r v | .panicked _ => False | .outgrown => False) := by
  unfold sumH at hk
  split at hk
  · rename_i s h0
    split at hk
    · rename_i n hn
      cases hlt : Nat.blt n 1048576
      · rw [hlt] at hk; cases hk
      · rw [hlt] at hk
        simp only [cond_true] at hk
        rw [blt_eq] at hlt
        have hlt : n < 1048576 := by simpa using hlt
        split at hk
        · rename_i l hl
          split at hk
          · rename_i bs hbs
            generalize hvl : vs.toList = vl at hv
            cases hv with
            | cons _ v _ vs' hx hs =>
              cases hs
              have hvs := uarr hvl
              subst hvs
              obtain ⟨A, c, ws, rfl, k1, k2, k3⟩ := shows_ok m hx hn hl
              obtain ⟨ls, q1, q2⟩ := bytesAll_ok m hbs k1
              have hby : ∀ x ∈ dens E bs, x < 256 := by
                rw [← q1]
                intro x hx
                obtain ⟨ns, hns, hx⟩ := List.mem_flatten.1 hx
                obtain ⟨i, hi⟩ := List.getElem?_of_mem hns
                exact (q2.2 i ns hi).2.1 x hx
              refine (hSum w A n c ws ls q2 k2 hlt k3).mono fun e w' he => ?_
              obtain ⟨rfl, hb⟩ := he
              rw [q1, ← sumOf_told hby]
              cases hsm : summed true bs []
              · rw [hsm] at hk
                simp only [cond_false, Option.some.injEq, Prod.mk.injEq] at hk
                obtain ⟨rfl, rfl⟩ := hk
                refine ⟨β, Post.below m hb, ?_⟩
                have := VR.sym (E := E) (β := β) .u16 (.su bs) (by simp [bits, kbits])
                simp only [den] at this
                rw [Nat.mod_eq_of_lt (show sumOf (dens E bs) < 2 ^ 16 from sumOf_lt _)] at this
                exact this
              · rw [hsm] at hk
                simp only [cond_true, Option.some.injEq, Prod.mk.injEq] at hk
                obtain ⟨rfl, rfl⟩ := hk
                refine ⟨β, Post.below m hb, ?_⟩
                have := summed_ok (E := E) (e := true) (l := bs) (r := []) hsm (by simp) (by simpa using hby)
                simp only [List.reverse_nil, List.nil_append] at this
                rw [this]
                exact .int _ _
          · cases hk
        · cases hk
    · cases hk
  · cases hk

theorem tokH_ok {f : FuncId} (hTok : ∀ (w : World) (k : Nat), k < 2 ^ 64 → Calls P f #[.int .u64 (k : Nat)] w fun e w' => e = .returned (.int .u32 ((E.tk k % 2 ^ 32 : Nat) : Int)) ∧ Below w.heap.size w w')
    {args : List SV} {r : SV} {h' : Hp} (hk : tokH args h = some (r, h')) (m : Mem E N W F β h w) {vs : Array Value} (hv : VRs E β args vs.toList) :
    Calls P f vs w (fun e w' => match e with | .returned v => ∃ β', Post E N W F β h h' β' w' ∧ VR E β' r v | .panicked _ => False | .outgrown => False) := by
  have key : ∀ (t : Tm) (k : Nat), den E t = k → k < 2 ^ 64 → vs = #[.int .u64 (k : Nat)] → r = .sym .u32 (.tok t) → h' = h →
      Calls P f vs w (fun e w' => match e with | .returned v => ∃ β', Post E N W F β h h' β' w' ∧ VR E β' r v | .panicked _ => False | .outgrown => False) := by
    rintro t k ht hlt rfl rfl rfl
    refine (hTok w k hlt).mono fun e w' he => ?_
    obtain ⟨rfl, hb⟩ := he
    refine ⟨β, Post.below m hb, ?_⟩
    have := VR.sym (E := E) (β := β) .u32 (.tok t) (by simp [bits, kbits])
    simp only [den, ht] at this
    exact this
  generalize hvl : vs.toList = vl at hv
  unfold tokH at hk
  split at hk
  · rename_i n
    cases hlt : Nat.blt n 18446744073709551616
    · rw [hlt] at hk; cases hk
    · rw [hlt] at hk
      simp only [cond_true, Option.some.injEq, Prod.mk.injEq] at hk
      rw [blt_eq] at hlt
      have hlt : n < 18446744073709551616 := by simpa using hlt
      cases hv with
      | cons _ v _ vs' hx hs =>
        cases hs
        cases hx
        exact key (.c n) n (by simp only [den]; exact Nat.mod_eq_of_lt hlt) hlt (uarr hvl) hk.1.symm hk.2.symm
  · rename_i t
    simp only [Option.some.injEq, Prod.mk.injEq] at hk
    cases hv with
    | cons _ v _ vs' hx hs =>
      cases hs
      cases hx
      rename_i hb
      exact key t (den E t) rfl (den_lt_of E hb) (uarr hvl) hk.1.symm hk.2.symm
  · cases hk

theorem exts_ok {a b : Nat} (ha : ∀ (w : World) (s : ByteArray) (c : Int), (callFunc a #[.string s, .int .u8 c]).run P w = .ok (.value (.int .i64 (Lib.countByte s.data.toList c.toNat.toUInt8))) w)
    (hb : ∀ (w : World) (s : ByteArray) (c : Int), (callFunc b #[.string s, .int .u8 c]).run P w = .ok (.value (.int .i64 (Lib.indexByte s.data.toList c.toNat.toUInt8))) w) : ExtOk P E (exts a b) := by
  intro f k hf args r hk β w vs hv
  generalize hvl : vs.toList = vl at hv
  have arr : ∀ {x y : Value}, vs.toList = [x, y] → vs = #[x, y] := fun h => Array.toList_inj.1 h
  unfold exts at hf
  cases h1 : Nat.beq f a
  · rw [h1] at hf
    simp only [cond_false] at hf
    cases h2 : Nat.beq f b
    · rw [h2] at hf; cases hf
    · rw [h2] at hf
      simp only [cond_true, Option.some.injEq] at hf; subst hf
      have := Nat.eq_of_beq_eq_true h2; subst this
      unfold indexH at hk
      split at hk
      · rename_i s c
        cases hlt : Nat.blt c 256
        · rw [hlt] at hk; cases hk
        · rw [hlt] at hk
          simp only [cond_true, Option.some.injEq] at hk; subst hk
          rw [blt_eq] at hlt
          have hlt : c < 256 := by simpa using hlt
          cases hv with
          | cons _ _ _ _ hx hs => cases hs with
            | cons _ _ _ _ hy hs =>
              cases hs; cases hx; cases hy
              have e := arr hvl
              subst e
              refine ⟨_, hb w s _, ?_⟩
              have h3 := indexB_eq c hlt s.data.toList 0
              have h4 : ((.ofNat c : Int).toNat.toUInt8) = c.toUInt8 := rfl
              rw [h4]
              have h5 : indexB c s.data.toList 0 = Lib.indexByte s.data.toList c.toUInt8 := by
                rw [h3]; split
                · rename_i h6; exact h6.symm
                · simp
              rw [h5]
              exact .int _ _
      · cases hk
  · rw [h1] at hf
    simp only [cond_true, Option.some.injEq] at hf; subst hf
    have := Nat.eq_of_beq_eq_true h1; subst this
    unfold countH at hk
    split at hk
    · rename_i s c
      cases hlt : Nat.blt c 256
      · rw [hlt] at hk; cases hk
      · rw [hlt] at hk
        simp only [cond_true, Option.some.injEq] at hk; subst hk
        rw [blt_eq] at hlt
        have hlt : c < 256 := by simpa using hlt
        cases hv with
        | cons _ _ _ _ hx hs => cases hs with
          | cons _ _ _ _ hy hs =>
            cases hs; cases hx; cases hy
            have e := arr hvl
            subst e
            refine ⟨_, ha w s _, ?_⟩
            have h4 : ((.ofNat c : Int).toNat.toUInt8) = c.toUInt8 := rfl
            rw [h4, countB_eq c hlt, Nat.zero_add]
            exact .int _ _
    · cases hk

theorem hooks_ok {a b : Nat} (fa : ∃ fn c, P.funcs[a]? = some fn ∧ fn.body = some c) (fb : ∃ fn c, P.funcs[b]? = some fn ∧ fn.body = some c)
    (hTok : ∀ (w : World) (k : Nat), k < 2 ^ 64 → Calls P a #[.int .u64 (k : Nat)] w fun e w' => e = .returned (.int .u32 ((E.tk k % 2 ^ 32 : Nat) : Int)) ∧ Below w.heap.size w w')
    (hSum : ∀ (w : World) (A : Option Addr) (n c : Nat) (ws : List Value) (ls : List (List Nat)), Pieces w ws ls → ws.length = n → n < 1048576 → Shows w A ws →
      Calls P b #[.slice A n c] w fun e w' => e = .returned (.int .u16 (told (addL (0, false) (ints ls.flatten)).1)) ∧ Below w.heap.size w w') : HookOk P E N W (hooks a b) := by
  intro f k hf
  unfold hooks at hf
  cases h1 : Nat.beq f a
  · rw [h1] at hf
    simp only [cond_false] at hf
    cases h2 : Nat.beq f b
    · rw [h2] at hf; cases hf
    · rw [h2] at hf
      simp only [cond_true, Option.some.injEq] at hf; subst hf
      have := Nat.eq_of_beq_eq_true h2; subst this
      exact ⟨fb, fun args h r h' hk F β w vs m hv => sumH_ok hSum hk m hv⟩
  · rw [h1] at hf
    simp only [cond_true, Option.some.injEq] at hf; subst hf
    have := Nat.eq_of_beq_eq_true h1; subst this
    exact ⟨fa, fun args h r h' hk F β w vs m hv => tokH_ok hTok hk m hv⟩
end
end
end Go.Proofs.YtgfahpnndmocbaaGreatDoor.Sx
