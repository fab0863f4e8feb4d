/-
  The executor's operations are the model's: iterators.
-/
import Derived.Test.YtgfahpnndmocbaaGreatDoorSx12
namespace Go.Proofs.YtgfahpnndmocbaaGreatDoor.Sx
noncomputable section
open Go Go.RowKit
set_option linter.unusedVariables false
set_option linter.unusedSimpArgs false

section
variable {P : Program} {E : En} {N : Nat} {W : World} {β : Bm} {h : Hp} {F : Nat → Option Blk} {w : World}

theorem rangeA_ok (m : Mem E N W F β h w) {t : TypeId} {x : SV} {v : Value} {bk : Blk} (hx : VR E β x v) (hr : rangeA P h t x = some bk) :
    ∃ u w' β', (Instr.range t v).run P w = .ok u w' ∧ Post E N W F β h (h.new bk) β' w' ∧ VR E β' (.ptr h.n 0) u := by
  unfold rangeA at hr
  split at hr
  · rename_i s hu
    cases hx
    simp only [Option.some.injEq] at hr; subst hr
    obtain ⟨β', p, hb⟩ := m.new (.stringIter s 0) (.sit s 0) 0 fun β' _ => ⟨by simp, rfl⟩
    exact ⟨_, _, β', by simp only [Instr.range, Sem.run_bind, run_und hu, Result.andThen_ok, Sem.run_pure, run_newObj], p, .ptr _ _ _ _ _ hb⟩
  · rename_i kt e hu
    cases hx
    simp only [Option.some.injEq] at hr; subst hr
    obtain ⟨β', p, hb⟩ := m.new (.mapIter none 0 #[] 0) (.mit none 0 [] 0) 0 fun β' _ => ⟨rfl, none, by simp, rfl⟩
    exact ⟨_, _, β', by simp only [Instr.range, Sem.run_bind, run_und hu, Result.andThen_ok, Sem.run_pure, run_newObj], p, .ptr _ _ _ _ _ hb⟩
  · rename_i kt e id hu
    split at hr
    · rename_i es clock hg
      simp only [Option.some.injEq] at hr; subst hr
      obtain ⟨b, e', cs, rfl, hb, hw, he⟩ := m.mapAt hg hx
      have hobj : (getObj b).run P w = .ok (.map cs clock) w := run_getObj hw (by intro _ _ _ h; cases h)
      obtain ⟨β', p, hb'⟩ := m.new (.mapIter (some b) clock #[] clock) (.mit (some id) clock [] clock) 0 fun β' hle => ⟨rfl, some b, by simp, b, e', hle _ _ hb, rfl⟩
      exact ⟨_, _, β', by simp only [Instr.range, Sem.run_bind, run_und hu, Result.andThen_ok, Sem.run_pure, run_newObj, hobj], p, .ptr _ _ _ _ _ hb'⟩
    · cases hr
  · cases hr

theorem Mem.iter (m : Mem E N W F β h w) {id : Nat} {bk : Blk} {v : Value} (hg : h.t.get id = some bk) (hv : VR E β (.ptr id 0) v) :
    ∃ b o e, v = .pointer (some ⟨b, o + 0, none⟩) ∧ β id = some (b, o, e) ∧ BR E β w (b, o, e) bk := by
  cases hv
  rename_i b o e hb
  obtain ⟨p, h1, h2, h3⟩ := m.hr.live id _ (un_some hg)
  rw [hb] at h1; cases h1
  exact ⟨b, o, e, rfl, hb, h3⟩

theorem memN_eq (n : Nat) (l : List Nat) : memN n l = l.contains n := by
  induction l with
  | nil => rfl
  | cons m l ih =>
    simp only [memN, List.contains_cons, nbeq, ih]
    by_cases e : n = m <;> simp [e]

theorem leftE_ok {seen : List Nat} : ∀ {es : List (SV × SV × Nat)} {cs : List MapEntry}, ERs E β es cs → ERs E β (leftE seen es) (cs.filter fun e => !seen.toArray.contains e.born) := by
  intro es
  induction es with
  | nil => intro cs he; cases cs with
    | nil => trivial
    | cons _ _ => exact he.elim
  | cons x es ih =>
    intro cs he
    obtain ⟨k, v, b⟩ := x
    cases cs with
    | nil => exact he.elim
    | cons e cs =>
      obtain ⟨h1, h2, h3, h4⟩ := he
      subst h3
      simp only [leftE, memN_eq]
      cases hc : seen.contains e.born
      · have hc' : ¬ e.born ∈ seen := by simpa using hc
        simp only [cond_false]
        rw [List.filter_cons_of_pos (by simpa using hc')]
        exact ⟨h1, h2, rfl, ih h4⟩
      · have hc' : e.born ∈ seen := by simpa using hc
        simp only [cond_true]
        rw [List.filter_cons_of_neg (by simpa using hc')]
        exact ih h4

theorem allLt_ok {n : Nat} : ∀ {es : List (SV × SV × Nat)} {cs : List MapEntry}, ERs E β es cs → allLt n es = true → ∀ e ∈ cs, e.born < n := by
  intro es
  induction es with
  | nil => intro cs he _; cases cs with
    | nil => simp
    | cons _ _ => exact he.elim
  | cons x es ih =>
    intro cs he ha
    obtain ⟨k, v, b⟩ := x
    cases cs with
    | nil => exact he.elim
    | cons e cs =>
      obtain ⟨h1, h2, h3, h4⟩ := he
      simp only [allLt, Bool.and_eq_true] at ha
      intro f hf
      rcases List.mem_cons.1 hf with rfl | hf
      · have := ha.1; rw [blt_eq] at this; rw [h3]; simpa using this
      · exact ih h4 ha.2 f hf

theorem nextA_ok (m : Mem E N W F β h w) {t : TypeId} {x r : SV} {v : Value} {isString : Bool} {h' : Hp} (hx : VR E β x v) (hn : nextA h x isString = some (r, h')) :
    ∃ u w' β', (Instr.next v isString t).run P w = .ok u w' ∧ Post E N W F β h h' β' w' ∧ VR E β' r u := by
  have over : VR E β (.tup [.bool false]) (.tuple #[.bool false]) := .tup _ _ (.cons _ _ _ _ (.bool false) .nil)
  unfold nextA at hn
  split at hn
  · rename_i id
    split at hn
    · -- a string
      rename_i s pos hg
      obtain ⟨b, o, e, rfl, hb, hw, ho⟩ := m.iter hg hx
      simp only at ho
      subst ho
      have hobj : (getObj b).run P w = .ok (.stringIter s pos) w := run_getObj hw (by intro _ _ _ h; cases h)
      have hlt : b < w.heap.size := (Array.getElem?_eq_some_iff.1 hw).1
      cases hp : Nat.blt pos s.size
      · rw [hp] at hn
        rw [blt_eq] at hp
        have hp' : ¬ pos < s.size := by simpa using hp
        simp only [cond_false, Option.some.injEq, Prod.mk.injEq] at hn
        obtain ⟨rfl, rfl⟩ := hn
        refine ⟨_, w, β, ?_, Post.same m, over⟩
        simp only [Instr.next, Sem.run_bind, hobj, Result.andThen_ok, hp', if_false, Sem.run_pure]
      · rw [hp] at hn
        rw [blt_eq] at hp
        have hp' : pos < s.size := by simpa using hp
        simp only [cond_true, Option.some.injEq, Prod.mk.injEq] at hn
        obtain ⟨rfl, rfl⟩ := hn
        refine ⟨.tuple #[.bool true, goInt pos, .int .i32 (Utf8.decode s pos).1], _, β, ?_, m.turnObj (o' := .stringIter s (pos + (Utf8.decode s pos).2)) hg hb hlt fun w' hw' => ⟨hw', rfl⟩, ?_⟩
        · simp only [Instr.next, Sem.run_bind, hobj, Result.andThen_ok, hp', if_true, Sem.run_pure, run_setObj hw (by intro _ _ _ h; cases h)]
        · exact .tup _ _ (.cons _ _ _ _ (.bool true) (.cons _ _ _ _ (.int _ _) (.cons _ _ _ _ (.int _ _) .nil)))
    · -- a nil map
      rename_i since seen last hg
      obtain ⟨b, o, e, rfl, hb, ho, m', hw, hm⟩ := m.iter hg hx
      simp only at ho hm
      subst ho hm
      have hobj : (getObj b).run P w = .ok (.mapIter none since seen.toArray last) w := run_getObj hw (by intro _ _ _ h; cases h)
      simp only [Option.some.injEq, Prod.mk.injEq] at hn
      obtain ⟨rfl, rfl⟩ := hn
      refine ⟨_, w, β, ?_, Post.same m, over⟩
      simp only [Instr.next, Sem.run_bind, hobj, Result.andThen_ok, Sem.run_pure]
    · -- a map
      rename_i mid since seen last hg
      split at hn
      · rename_i es clock hgm
        cases hc : (allLt since es && Nat.beq clock since && Nat.beq last since)
        · rw [hc] at hn; cases hn
        · rw [hc] at hn
          simp only [Bool.and_eq_true] at hc
          have e1 : clock = since := Nat.eq_of_beq_eq_true hc.1.2
          have e2 : last = since := Nat.eq_of_beq_eq_true hc.2
          subst e1 e2
          simp only [cond_true] at hn
          obtain ⟨b, o, e, rfl, hb, ho, m', hw, bm, em, hbm, rfl⟩ := m.iter hg hx
          simp only at ho
          subst ho
          have hobj : (getObj b).run P w = .ok (.mapIter (some bm) last seen.toArray last) w := run_getObj hw (by intro _ _ _ h; cases h)
          have hlt : b < w.heap.size := (Array.getElem?_eq_some_iff.1 hw).1
          obtain ⟨bm', em', cs, hv, hbm', hwm, he⟩ := m.mapAt hgm (VR.map mid bm em hbm)
          simp only [Value.map.injEq, Option.some.injEq] at hv
          subst hv
          have hobjm : (getObj bm).run P w = .ok (.map cs last) w := run_getObj hwm (by intro _ _ _ h; cases h)
          have hall := allLt_ok he hc.1.1
          have hleft := leftE_ok (seen := seen) he
          have hunless : ¬ ((!seen.toArray.isEmpty && !cs.isEmpty && cs.all fun x => decide (x.born ≥ last)) = true) := by
            intro hh
            simp only [Bool.and_eq_true] at hh
            obtain ⟨⟨_, hne⟩, hal⟩ := hh
            have hne' : cs.toList ≠ [] := by
              intro h0
              have : cs = #[] := by simpa using h0
              subst this
              simp at hne
            obtain ⟨q, hq⟩ := List.exists_mem_of_ne_nil _ hne'
            have hh1 := hall q hq
            rw [← Array.all_toList, List.all_eq_true] at hal
            have := hal q hq
            simp at this
            omega
          have hold : (cs.filter fun e => !seen.toArray.contains e.born).filter (fun x => decide (x.born < last)) = cs.filter fun e => !seen.toArray.contains e.born := by
            apply Array.ext'
            rw [Array.toList_filter]
            apply List.filter_eq_self.2
            intro q hq
            rw [Array.toList_filter] at hq
            have := hall q (List.mem_filter.1 hq).1
            simpa using this
          have hnew : (cs.filter fun e => !seen.toArray.contains e.born).filter (fun x => decide (x.born ≥ last)) = #[] := by
            apply Array.ext'
            rw [Array.toList_filter]
            show _ = []
            apply List.filter_eq_nil_iff.2
            intro q hq
            rw [Array.toList_filter] at hq
            have := hall q (List.mem_filter.1 hq).1
            simp; omega
          have hleftL : (cs.filter fun e => !seen.toArray.contains e.born).toList = cs.toList.filter fun e => !seen.toArray.contains e.born := Array.toList_filter ..
          split at hn
          · -- none is left
            rename_i hl0
            simp only [Option.some.injEq, Prod.mk.injEq] at hn
            obtain ⟨rfl, rfl⟩ := hn
            rw [hl0] at hleft
            have hempty : (cs.filter fun e => !seen.toArray.contains e.born) = #[] := by
              apply Array.ext'
              rw [hleftL]
              cases hq : cs.toList.filter fun e => !seen.toArray.contains e.born with
              | nil => rfl
              | cons _ _ => rw [hq] at hleft; exact hleft.elim
            refine ⟨_, w, β, ?_, Post.same m, over⟩
            simp only [Instr.next, Sem.run_bind, hobj, Result.andThen_ok, hobjm, hunless, hold, hnew, hempty, if_false]
            simp [Question.forced]
          · rename_i k v' born hl1
            simp only [Option.some.injEq, Prod.mk.injEq] at hn
            obtain ⟨rfl, rfl⟩ := hn
            rw [hl1] at hleft
            have hone : ∃ e1, (cs.filter fun e => !seen.toArray.contains e.born) = #[e1] ∧ VR E β k e1.key ∧ VR E β v' e1.val ∧ e1.born = born := by
              cases hq : cs.toList.filter fun e => !seen.toArray.contains e.born with
              | nil => rw [hq] at hleft; exact hleft.elim
              | cons e1 rest =>
                rw [hq] at hleft
                obtain ⟨g1, g2, g3, g4⟩ := hleft
                cases rest with
                | nil => exact ⟨e1, by apply Array.ext'; rw [hleftL, hq], g1, g2, g3⟩
                | cons _ _ => exact g4.elim
            obtain ⟨e1, hq, g1, g2, g3⟩ := hone
            refine ⟨.tuple #[.bool true, e1.key, e1.val], _, β, ?_, m.turnObj (o' := .mapIter (some bm) last (seen.toArray.push born) last) hg hb hlt fun w' hw' => ⟨rfl, some bm, by rw [hw']; simp, bm, em, hbm, rfl⟩, ?_⟩
            · simp only [Instr.next, Sem.run_bind, hobj, Result.andThen_ok, hobjm, hunless, hold, hnew, hq, if_false]
              have hlt1 : e1.born < last := by
                have : e1 ∈ (cs.filter fun e => !seen.toArray.contains e.born).toList := by rw [hq]; simp
                rw [hleftL] at this
                exact hall _ (List.mem_filter.1 this).1
              have hge1 : ¬ last ≤ e1.born := by omega
              have hset : ∀ o', (setObj b o').run P w = .ok () { w with heap := w.heap.setIfInBounds b o' } := fun o' => run_setObj hw (by intro _ _ _ h; cases h)
              subst g3
              have hf1 : (#[e1] : Array MapEntry).filter (fun x => decide (x.born < last)) = #[e1] := by simp [hlt1]
              have hf2 : (#[e1] : Array MapEntry).filter (fun x => decide (x.born ≥ last)) = #[] := by simp [hlt1]
              rw [hf1, hf2]
              simp [Question.forced, hset]
            · exact .tup _ _ (.cons _ _ _ _ (.bool true) (.cons _ _ _ _ g1 (.cons _ _ _ _ g2 .nil)))
          · cases hn
      · cases hn
    · cases hn
  · cases hn

theorem lastN_eq : ∀ (l : List Nat), lastN l = l.getLast?
  | [] => rfl
  | [n] => rfl
  | _ :: b :: l => by
    show lastN (b :: l) = _
    rw [lastN_eq (b :: l)]; simp

theorem bornE_ok {n : Nat} : ∀ {es : List (SV × SV × Nat)} {cs : List MapEntry} {k v : SV}, ERs E β es cs → bornE n es = some (k, v) → ∃ e, cs.find? (fun e => e.born == n) = some e ∧ VR E β k e.key ∧ VR E β v e.val := by
  intro es
  induction es with
  | nil => intro cs k v he hb; cases hb
  | cons x es ih =>
    intro cs k v he hb
    obtain ⟨k', v', b⟩ := x
    cases cs with
    | nil => exact he.elim
    | cons e cs =>
      obtain ⟨h1, h2, h3, h4⟩ := he
      simp only [bornE, nbeq] at hb
      by_cases hq : b = n
      · simp only [hq, decide_true, cond_true, Option.some.injEq, Prod.mk.injEq] at hb
        obtain ⟨rfl, rfl⟩ := hb
        exact ⟨e, by simp [h3, hq], h1, h2⟩
      · simp only [hq, decide_false, cond_false] at hb
        obtain ⟨e', g1, g2, g3⟩ := ih h4 hb
        exact ⟨e', by rw [List.find?_cons_of_neg (by simp [h3, hq])]; exact g1, g2, g3⟩

theorem entryA_ok (m : Mem E N W F β h w) {x r : SV} {v : Value} (hx : VR E β x v) (hn : entryA h x = some r) : Gives P E β w (Instr.entry v) r := by
  unfold entryA at hn
  split at hn
  · rename_i id
    split at hn
    · rename_i mid since seen last hg
      split at hn
      · rename_i b0 es clock hl hgm
        cases hc : Nat.beq clock last
        · rw [hc] at hn; cases hn
        · rw [hc] at hn
          have e1 : clock = last := Nat.eq_of_beq_eq_true hc
          subst e1
          simp only [cond_true] at hn
          split at hn
          · rename_i k v' hq
            simp only [Option.some.injEq] at hn; subst hn
            obtain ⟨b, o, e, rfl, hb, ho, m', hw, bm, em, hbm, rfl⟩ := m.iter hg hx
            simp only at ho
            subst ho
            have hobj : (getObj b).run P w = .ok (.mapIter (some bm) since seen.toArray clock) w := run_getObj hw (by intro _ _ _ h; cases h)
            obtain ⟨bm', em', cs, hv, hbm', hwm, he⟩ := m.mapAt hgm (VR.map mid bm em hbm)
            simp only [Value.map.injEq, Option.some.injEq] at hv
            subst hv
            have hobjm : (getObj bm).run P w = .ok (.map cs clock) w := run_getObj hwm (by intro _ _ _ h; cases h)
            obtain ⟨e', g1, g2, g3⟩ := bornE_ok he hq
            have hback : seen.toArray.back? = some b0 := by
              rw [lastN_eq] at hl
              rw [← hl]; simp
            have hfind : cs.find? (fun e => e.born == b0) = some e' := by
              rw [← Array.find?_toList]; exact g1
            refine ⟨.tuple #[e'.key, e'.val], ?_, .tup _ _ (.cons _ _ _ _ g2 (.cons _ _ _ _ g3 .nil))⟩
            simp only [Instr.entry, Sem.run_bind, hobj, Result.andThen_ok, hback, hobjm]
            simp [hfind]
          · cases hn
      · cases hn
    · cases hn
  · cases hn
end
end
end Go.Proofs.YtgfahpnndmocbaaGreatDoor.Sx
