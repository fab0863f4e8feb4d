/-
  A function whose run is cut in parts: its call.
-/
import Derived.Test.YtgfahpnndmocbaaGreatDoorSx25
namespace Go.Proofs.YtgfahpnndmocbaaGreatDoor.Sx
noncomputable section
open Go Go.RowKit
set_option linter.unusedVariables false
set_option linter.unusedSimpArgs false

section
variable {P : Program} {E : En} {G : Nat → Option (List SV)} {w : World}

theorem call_parts (hG : Gok E w.heap.size w G) {f : FuncId} {fn : Func} {c : Code} (hf : P.funcs[f]? = some fn) (hb : fn.body = some c) {s : Nat} (hres : fn.results.toList = [.tmp s]) {args : List SV} {vs : Array Value}
    (hv : VRs E (fun _ => none) args vs.toList) (hsz : vs.size ≤ fn.ntmps)
    (hbody : ∀ a : Act, TR E (fun _ => none) (args0 args 0 .nil) a → a.tmps.size = fn.ntmps → c.wp P (Qf E w.heap.size w s a) a w) :
    Calls P f vs w (fun e w' => e = .returned (.bool true) ∧ Below w.heap.size w w') := by
  refine calls_of_wp hf hb ?_
  refine wp_mono (hbody _ ?_ (by simp; omega)) fun e a' w' q => ?_
  · intro t x ht
    rw [args0_get] at ht
    simp only [Nat.zero_le, Nat.zero_add, true_and, Nat.sub_zero] at ht
    split at ht
    · rename_i hlt
      obtain ⟨v, h1, h2⟩ := hv.get ht
      refine ⟨v, ?_, h2⟩
      have hlt' : t < vs.size := by rw [hv.length] at hlt; simpa using hlt
      rw [Array.getElem?_append_left hlt']
      simpa using h1
    · rw [Tr.get_nil] at ht; cases ht
  · cases e <;> first
      | exact q.elim
      | skip
    obtain ⟨F, β', T, h', m, t, h6, hd, hz⟩ := q
    refine ⟨hd, .bool true, ?_, rfl, m.hr.old⟩
    obtain ⟨us, k1, k2⟩ := results_ok (P := P) hG m t fn.results.toList (xs := [.bool true]) (by rw [hres]; simp [resSs, resS, h6])
    cases k2 with
    | cons _ v _ vs' hx hs =>
      cases hs
      cases hx
      have hr : results fn a'.tmps = (do let vs ← fn.results.mapM (resM a'); pure (if h : vs.size = 1 then vs[0] else .tuple vs)) := by
        unfold results
        congr 1
      rw [hr, Array.mapM_eq_mapM_toList]
      simp only [Sem.run_bind, Sem.run_map]
      rw [k1]
      rfl
end
end
end Go.Proofs.YtgfahpnndmocbaaGreatDoor.Sx
