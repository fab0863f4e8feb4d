/-
  The words of the digest's rows; a key's token, by the executor, once with an unknown key.
-/
import Derived.Test.YtgfahpnndmocbaaGreatDoorProg
import Derived.Test.YtgfahpnndmocbaaGreatDoorSx25
import Derived.KernelRfl
namespace Go.Proofs.YtgfahpnndmocbaaGreatDoor.Sx
open Go Go.RowKit
noncomputable section
set_option linter.unusedVariables false

noncomputable def plainB : List Func → Bool
  | [] => true
  | f :: l => !(f.name == "runtime.NumGoroutine") && plainB l
theorem plain_ok : ∀ {l : List Func}, plainB l = true → ∀ f ∈ l, f.name ≠ "runtime.NumGoroutine"
  | [], _, f, h => by cases h
  | g :: l, hl, f, h => by
    simp only [plainB, Bool.and_eq_true] at hl
    rcases List.mem_cons.1 h with rfl | h
    · intro e; rw [e] at hl; simp at hl
    · exact plain_ok hl.2 f h
theorem plain : plainB Tryz.prog.funcs.toList = true := by kernel_rfl
theorem noCount : NoCount Tryz.prog := fun f fn h => plain_ok plain fn (by
  have := List.mem_of_getElem? (l := Tryz.prog.funcs.toList) (i := f) (a := fn) (by simpa using h)
  exact this)
theorem mixed : Tryz.prog.follows .mixedOrders = true := by kernel_rfl
noncomputable def fnOf (k : Nat) : Func := match Tryz.prog.funcs[k]? with
  | some fn => fn
  | none => default
noncomputable def cdOf (k : Nat) : Code := match (fnOf k).body with
  | some c => c
  | none => .skip
theorem count_ok (w : World) (s : ByteArray) (c : Int) : (callFunc 283 #[.string s, .int .u8 c]).run Tryz.prog w = .ok (.value (.int .i64 (Lib.countByte s.data.toList c.toNat.toUInt8))) w := by
  rw [run_callFunc_extern (P := Tryz.prog) (f := 283) (fn := fnOf 283) (e := Extern.BytealgCount.count) (by kernel_rfl) (by kernel_rfl) (by kernel_rfl) (by kernel_rfl) (by kernel_rfl), Lib.run_countString]
  rfl
theorem index_ok (w : World) (s : ByteArray) (c : Int) : (callFunc 392 #[.string s, .int .u8 c]).run Tryz.prog w = .ok (.value (.int .i64 (Lib.indexByte s.data.toList c.toNat.toUInt8))) w := by
  rw [run_callFunc_extern (P := Tryz.prog) (f := 392) (fn := fnOf 392) (e := Extern.BytealgIndexByte.indexByte) (by kernel_rfl) (by kernel_rfl) (by kernel_rfl) (by kernel_rfl) (by kernel_rfl), Lib.run_indexByteString]
  rfl
theorem natives (E : En) : ExtOk Tryz.prog E (exts 283 392) := exts_ok count_ok index_ok

noncomputable def hexD (b : Nat) : Nat := bif Nat.blt b 58 then Nat.sub b 48 else Nat.sub b 87
noncomputable def hexN : List Nat → Nat → Nat
  | [], n => n
  | b :: l, n => hexN l (Nat.add (Nat.mul n 16) (hexD b))
noncomputable def hexAt (row : List Nat) (i : Nat) : Nat := match ltake (ldrop row (Nat.mul 8 i)) 8 with
  | some l => hexN l 0
  | none => 0
noncomputable def eqN : List UInt8 → List Nat → Bool
  | [], [] => true
  | x :: l, n :: m => Nat.beq x.toNat n && eqN l m
  | _, _ => false
noncomputable def rowN (l : List Nat) : ByteArray := ⟨(l.map Nat.toUInt8).toArray⟩
theorem eqN_ok : ∀ {l : List UInt8} {m : List Nat}, eqN l m = true → l = m.map Nat.toUInt8
  | [], [], _ => rfl
  | [], _ :: _, h => by simp [eqN] at h
  | _ :: _, [], h => by simp [eqN] at h
  | x :: l, n :: m, h => by
    simp only [eqN, Bool.and_eq_true] at h
    have h1 := Nat.eq_of_beq_eq_true h.1
    rw [List.map_cons, ← eqN_ok h.2, ← h1]
    congr 1
    exact UInt8.toNat_inj.1 (by simp)
theorem rowN_ok {s : ByteArray} {m : List Nat} (h : eqN s.data.toList m = true) : s = rowN m := by
  have := eqN_ok h
  obtain ⟨d⟩ := s
  unfold rowN
  congr 1
  exact Array.toList_inj.1 (by simpa using this)
noncomputable def roundsN : List Nat := [52, 50, 56, 97, 50, 102, 57, 56, 55, 49, 51, 55, 52, 52, 57, 49, 98, 53, 99, 48, 102, 98, 99, 102, 101, 57, 98, 53, 100, 98, 97, 53, 51, 57, 53, 54, 99, 50, 53, 98, 53, 57, 102, 49, 49, 49, 102, 49, 57, 50, 51, 102, 56, 50, 97, 52, 97, 98, 49, 99, 53, 101, 100, 53, 100, 56, 48, 55, 97, 97, 57, 56, 49, 50, 56, 51, 53, 98, 48, 49, 50, 52, 51, 49, 56, 53, 98, 101, 53, 53, 48, 99, 55, 100, 99, 51, 55, 50, 98, 101, 53, 100, 55, 52, 56, 48, 100, 101, 98, 49, 102, 101, 57, 98, 100, 99, 48, 54, 97, 55, 99, 49, 57, 98, 102, 49, 55, 52, 101, 52, 57, 98, 54, 57, 99, 49, 101, 102, 98, 101, 52, 55, 56, 54, 48, 102, 99, 49, 57, 100, 99, 54, 50, 52, 48, 99, 97, 49, 99, 99, 50, 100, 101, 57, 50, 99, 54, 102, 52, 97, 55, 52, 56, 52, 97, 97, 53, 99, 98, 48, 97, 57, 100, 99, 55, 54, 102, 57, 56, 56, 100, 97, 57, 56, 51, 101, 53, 49, 53, 50, 97, 56, 51, 49, 99, 54, 54, 100, 98, 48, 48, 51, 50, 55, 99, 56, 98, 102, 53, 57, 55, 102, 99, 55, 99, 54, 101, 48, 48, 98, 102, 51, 100, 53, 97, 55, 57, 49, 52, 55, 48, 54, 99, 97, 54, 51, 53, 49, 49, 52, 50, 57, 50, 57, 54, 55, 50, 55, 98, 55, 48, 97, 56, 53, 50, 101, 49, 98, 50, 49, 51, 56, 52, 100, 50, 99, 54, 100, 102, 99, 53, 51, 51, 56, 48, 100, 49, 51, 54, 53, 48, 97, 55, 51, 53, 52, 55, 54, 54, 97, 48, 97, 98, 98, 56, 49, 99, 50, 99, 57, 50, 101, 57, 50, 55, 50, 50, 99, 56, 53, 97, 50, 98, 102, 101, 56, 97, 49, 97, 56, 49, 97, 54, 54, 52, 98, 99, 50, 52, 98, 56, 98, 55, 48, 99, 55, 54, 99, 53, 49, 97, 51, 100, 49, 57, 50, 101, 56, 49, 57, 100, 54, 57, 57, 48, 54, 50, 52, 102, 52, 48, 101, 51, 53, 56, 53, 49, 48, 54, 97, 97, 48, 55, 48, 49, 57, 97, 52, 99, 49, 49, 54, 49, 101, 51, 55, 54, 99, 48, 56, 50, 55, 52, 56, 55, 55, 52, 99, 51, 52, 98, 48, 98, 99, 98, 53, 51, 57, 49, 99, 48, 99, 98, 51, 52, 101, 100, 56, 97, 97, 52, 97, 53, 98, 57, 99, 99, 97, 52, 102, 54, 56, 50, 101, 54, 102, 102, 51, 55, 52, 56, 102, 56, 50, 101, 101, 55, 56, 97, 53, 54, 51, 54, 102, 56, 52, 99, 56, 55, 56, 49, 52, 56, 99, 99, 55, 48, 50, 48, 56, 57, 48, 98, 101, 102, 102, 102, 97, 97, 52, 53, 48, 54, 99, 101, 98, 98, 101, 102, 57, 97, 51, 102, 55, 99, 54, 55, 49, 55, 56, 102, 50]
noncomputable def beginsN : List Nat := [54, 97, 48, 57, 101, 54, 54, 55, 98, 98, 54, 55, 97, 101, 56, 53, 51, 99, 54, 101, 102, 51, 55, 50, 97, 53, 52, 102, 102, 53, 51, 97, 53, 49, 48, 101, 53, 50, 55, 102, 57, 98, 48, 53, 54, 56, 56, 99, 49, 102, 56, 51, 100, 57, 97, 98, 53, 98, 101, 48, 99, 100, 49, 57]

noncomputable def none1 (g : Nat) : Option (List SV) := none
noncomputable def none2 (f : FuncId) : Option (List SV → Hp → Option (SV × Hp)) := none
noncomputable def runW (args : List SV) : Option (SV × Hp) := callA Tryz.prog none1 none2 (exts 283 392) (exec Tryz.prog none1 none2 (exts 283 392) 100000) 386 args ⟨.nil, 0⟩
noncomputable def wOk (row : List Nat) (i : Nat) : Bool := match runW [.str (rowN row), .int .i64 (.ofNat i)] with
  | some (.int .u32 (.ofNat n), _) => Nat.beq n (hexAt row i)
  | _ => false
noncomputable def below (p : Nat → Bool) : Nat → Bool := Nat.rec true (fun n r => p n && r)
theorem below_ok {p : Nat → Bool} : ∀ {n i : Nat}, below p n = true → i < n → p i = true
  | 0, i, _, hi => by omega
  | n + 1, i, h, hi => by
    have h : (p n && below p n) = true := h
    rw [Bool.and_eq_true] at h
    by_cases e : i = n
    · subst e; exact h.1
    · exact below_ok h.2 (by omega)
theorem rounds_ok : below (wOk roundsN) 64 = true := by kernel_rfl
theorem begins_ok : below (wOk beginsN) 8 = true := by kernel_rfl

noncomputable def wordH : List SV → Hp → Option (SV × Hp)
  | [.str s, .int .i64 (.ofNat i)], h => bif Nat.blt i 64 && eqN s.data.toList roundsN then some (.int .u32 (Int.ofNat (hexAt roundsN i)), h)
    else bif Nat.blt i 8 && eqN s.data.toList beginsN then some (.int .u32 (Int.ofNat (hexAt beginsN i)), h) else none
  | _, _ => none
noncomputable def hooksW (f : FuncId) : Option (List SV → Hp → Option (SV × Hp)) := bif Nat.beq f 386 then some wordH else none

theorem gok0 (E : En) (N : Nat) (W : World) : Gok E N W none1 := fun g l h => by cases h
theorem hok0 (E : En) (N : Nat) (W : World) : HookOk Tryz.prog E N W none2 := fun f k h => by cases h
theorem body_word : ∃ fn c, Tryz.prog.funcs[386]? = some fn ∧ fn.body = some c := ⟨fnOf 386, cdOf 386, by kernel_rfl, by kernel_rfl⟩
theorem word_call {row : List Nat} {i : Nat} (h : wOk row i = true) (w : World) : Calls Tryz.prog 386 #[.string (rowN row), .int .i64 (i : Nat)] w fun e w' => e = .returned (.int .u32 (hexAt row i : Nat)) ∧ Below w.heap.size w w' := by
  unfold wOk at h
  split at h
  · rename_i n h' hr
    have hn := Nat.eq_of_beq_eq_true h
    subst hn
    obtain ⟨fn, c, hf, hb⟩ := body_word
    let E : En := ⟨fun _ => 1, fun _ => 0, by decide⟩
    refine (call_any (E := E) (w := w) (hook := none2) (G := none1) (fun E w hG => (exec_ok mixed hG (hok0 E _ w) (natives E) noCount _).1) (gok0 E _ w) (hok0 E _ w) (natives E) noCount hf hb (vs := #[.string (rowN row), .int .i64 (i : Nat)])
      (.cons _ _ _ _ (.str _) (.cons _ _ _ _ (.int _ _) .nil)) hr).mono fun e w' q => ?_
    cases e with
    | returned v => obtain ⟨hb, β', hv⟩ := q; cases hv; exact ⟨rfl, hb⟩
    | panicked x => exact q.elim
    | outgrown => exact q.elim
  · cases h

theorem hokW (E : En) (N : Nat) (W : World) : HookOk Tryz.prog E N W hooksW := by
  intro f k hf
  unfold hooksW at hf
  cases h1 : Nat.beq f 386
  · rw [h1] at hf; cases hf
  · rw [h1] at hf
    simp only [cond_true, Option.some.injEq] at hf; subst hf
    have := Nat.eq_of_beq_eq_true h1; subst this
    refine ⟨body_word, fun args h r h' hk F β w vs m hv => ?_⟩
    generalize hvl : vs.toList = vl at hv
    unfold wordH at hk
    split at hk
    · rename_i s i
      have key : ∀ row, wOk row i = true → s = rowN row → r = .int .u32 (Int.ofNat (hexAt row i)) → h' = h →
          Calls Tryz.prog 386 vs w (fun e w' => match e with | .returned v => ∃ β', Post E N W F β h h' β' w' ∧ VR E β' r v | .panicked _ => False | .outgrown => False) := by
        rintro row hw rfl rfl rfl
        cases hv with
        | cons _ _ _ _ hx hs => cases hs with
          | cons _ _ _ _ hy hs =>
            cases hs; cases hx; cases hy
            have e : vs = #[.string (rowN row), .int .i64 (i : Nat)] := Array.toList_inj.1 hvl
            subst e
            refine (word_call hw w).mono fun e w' q => ?_
            obtain ⟨rfl, hb⟩ := q
            exact ⟨β, Post.below m hb, .int _ _⟩
      cases hc : (Nat.blt i 64 && eqN s.data.toList roundsN)
      · rw [hc] at hk
        simp only [cond_false] at hk
        cases hd : (Nat.blt i 8 && eqN s.data.toList beginsN)
        · rw [hd] at hk; cases hk
        · rw [hd] at hk
          simp only [cond_true, Option.some.injEq, Prod.mk.injEq] at hk
          simp only [Bool.and_eq_true, blt_eq, decide_eq_true_eq] at hd
          exact key beginsN (below_ok begins_ok hd.1) (rowN_ok hd.2) hk.1.symm hk.2.symm
      · rw [hc] at hk
        simp only [cond_true, Option.some.injEq, Prod.mk.injEq] at hk
        simp only [Bool.and_eq_true, blt_eq, decide_eq_true_eq] at hc
        exact key roundsN (below_ok rounds_ok hc.1) (rowN_ok hc.2) hk.1.symm hk.2.symm
    · cases hk
end
end Go.Proofs.YtgfahpnndmocbaaGreatDoor.Sx
