/- The laws NetOrder, NetSpoils, NetCopies, of what is handed over. -/
import Derived.Test.YthnennleblgjeaaDoorXNet6
import Derived.Test.YthnennleblgjeaaDoorXNet9
namespace Go.Proofs.YthnennleblgjeaaDoor
set_option linter.unusedVariables false
set_option linter.unusedSimpArgs false
open Go.ChangeShapes Go.WideShapes Go.ChangeAt Go.RowKit
set_option linter.unusedVariables false
theorem RS.of_intsI {k : IntKind} {w : World} {a : Option Addr} {len cap : Nat} {zs : List Int} (h : IntsIn k w a len cap zs) : RS (layI k) w a cap zs := by
  obtain ⟨h1, h2, h3, h4, h5, h6⟩ := h
  refine ⟨by omega, h2, fun e => (h4 e).2, fun hp => ?_⟩
  obtain ⟨b, off, e, hb, hc⟩ := h6 (by omega)
  refine ⟨b, off, e, hb, fun i v hv => ?_⟩
  rw [flatI, List.getElem?_map] at hv
  cases hz : zs[i]? with
  | none => rw [hz] at hv; cases hv
  | some z =>
    rw [hz] at hv
    injection hv with hv
    subst hv
    have hi := (List.getElem?_eq_some_iff.1 hz).1
    rw [hc i (by omega)]
    simp [List.getD, hz]
theorem lawNetOrder (w : World) (hT : TabW w) (a : Option Addr) (len cap : Nat) (zs : List Int) (hz : IntsIn .u32 w a len cap zs) (n : Int) (wn : (Lit.int .u8 n).wf = true) : Calls Tryd.prog 8 #[.slice a len cap, .int .u8 n] w fun r w' => r = .returned (.bool true) ∧ Fine w w' := by
  have hn := bounds_u8 wn
  obtain ⟨M, rfl⟩ : ∃ M : Nat, n = (M : Int) := ⟨n.toNat, by omega⟩
  have hr := RS.of_intsI hz
  obtain ⟨_, _, h3, _, h5, _⟩ := hz
  subst h3
  exact netOrder_any a cap zs (fun q hq => by have := bounds_u32 (h5 q hq); omega) M (by omega) w hT hr
theorem lawNetSpoils (w : World) (hT : TabW w) (s : Sg) (hs : s.At w) (n : Int) (wn : (Lit.int .u16 n).wf = true) (y : Int) (wy : (Lit.int .u8 y).wf = true) : Calls Tryd.prog 9 #[.agg s.cells.toArray, .int .u16 n, .int .u8 y] w fun r w' => r = .returned (.bool true) ∧ Fine w w' := by
  have hn := bounds_u16 wn
  have hy := bounds_u8 wy
  exact netSpoils_any s.N s.A s.B s.l.length s.xs.length s.c s.d w hT s.l s.xs rfl rfl hs.num hs.ok hs.opts hs.data n y (by omega) (by omega)
theorem lawNetCopies (w : World) (hT : TabW w) (s : Sg) (hs : s.At w) (n : Int) (wn : (Lit.int .u8 n).wf = true) : Calls Tryd.prog 10 #[.agg s.cells.toArray, .int .u8 n] w fun r w' => r = .returned (.bool true) ∧ Fine w w' := by
  have hn := bounds_u8 wn
  obtain ⟨M, rfl⟩ : ∃ M : Nat, n = (M : Int) := ⟨n.toNat, by omega⟩
  exact netCopies_any s.N s.A s.B s.l.length s.xs.length s.c s.d w hT s.l s.xs rfl rfl hs.num hs.ok hs.opts hs.data M (by omega)
end Go.Proofs.YthnennleblgjeaaDoor
