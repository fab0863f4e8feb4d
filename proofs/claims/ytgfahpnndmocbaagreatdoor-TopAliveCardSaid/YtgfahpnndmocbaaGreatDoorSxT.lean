/-
  A key's token, by the executor, once with an unknown key.
-/
import Derived.Test.YtgfahpnndmocbaaGreatDoorSxW
namespace Go.Proofs.YtgfahpnndmocbaaGreatDoor.Sx
open Go Go.RowKit
noncomputable section
set_option linter.unusedVariables false

noncomputable def tokRun : Option (SV × Hp) := callA Tryz.prog none1 hooksW (exts 283 392) (exec Tryz.prog none1 hooksW (exts 283 392) 100000) 247 [.sym .u64 (.v 0)] ⟨.nil, 0⟩
noncomputable def isSym32 (r : Option (SV × Hp)) : Bool := match r with
  | some (.sym .u32 _, _) => true
  | _ => false
theorem tok_runs : isSym32 tokRun = true := by kernel_rfl
noncomputable def tokT : Tm := match tokRun with
  | some (.sym .u32 t, _) => t
  | _ => .c 0
noncomputable def Ek (k : Nat) : En := ⟨fun i => if i = 0 then k else 1, fun _ => 0, by simp⟩
/-- a key's token -/
noncomputable def tkF (k : Nat) : Nat := den (Ek k) tokT
theorem body_tok : ∃ fn c, Tryz.prog.funcs[247]? = some fn ∧ fn.body = some c := ⟨fnOf 247, cdOf 247, by kernel_rfl, by kernel_rfl⟩
theorem token_any (w : World) (k : Nat) (hk : k < 2 ^ 64) : Calls Tryz.prog 247 #[.int .u64 (k : Nat)] w fun e w' => e = .returned (.int .u32 ((tkF k % 2 ^ 32 : Nat) : Int)) ∧ Below w.heap.size w w' := by
  have h := tok_runs
  have e : ∃ h', tokRun = some (.sym .u32 tokT, h') := by
    unfold isSym32 at h
    unfold tokT
    split at h
    · rename_i t h' hr; exact ⟨h', by rw [hr]⟩
    · cases h
  obtain ⟨h', hr⟩ := e
  obtain ⟨fn, c, hf, hb⟩ := body_tok
  have hv : VR (Ek k) (fun _ => none) (.sym .u64 (.v 0)) (.int .u64 (k : Nat)) := by
    have := VR.sym (E := Ek k) (β := fun _ => none) .u64 (.v 0) (by decide)
    have e1 : den (Ek k) (.v 0) = k := by
      simp only [den]
      exact Nat.mod_eq_of_lt hk
    rw [e1] at this; exact this
  refine (call_any (E := Ek k) (w := w) (hook := hooksW) (G := none1) (fun E w hG => (exec_ok mixed hG (hokW E _ w) (natives E) noCount _).1) (gok0 _ _ w) (hokW _ _ w) (natives _) noCount hf hb (vs := #[.int .u64 (k : Nat)])
    (.cons _ _ _ _ hv .nil) hr).mono fun e w' q => ?_
  cases e with
  | returned v =>
    obtain ⟨hb, β', hv⟩ := q
    cases hv
    rename_i hbits
    refine ⟨?_, hb⟩
    have : tkF k < 2 ^ 32 := den_lt_of (Ek k) hbits
    rw [Nat.mod_eq_of_lt this]
    rfl
  | panicked x => exact q.elim
  | outgrown => exact q.elim
end
end Go.Proofs.YtgfahpnndmocbaaGreatDoor.Sx
