/- The laws of option: options, as they are handed over. -/
import Derived.Test.YthnennleblgjeaaOpt9
import Derived.Test.YthnennleblgjeaaStructs
namespace Go.Proofs.Ythnennleblgjeaa
open Go.ChangeShapes Go.WideShapes Go.ChangeAt Go.RowKit
set_option linter.unusedVariables false
def valAt (cs : List Value) (j : Nat) : Int := match fk j with | .is => if cellBool cs[j]? then 1 else 0 | _ => cellInt cs[j]?
theorem e01 (t : Bool) : Value.bool (decide ((if t then (1 : Int) else 0) = 1)) = .bool t := by cases t <;> rfl
theorem bool01 (t : Bool) : (if t then (1 : Int) else 0) = 0 ∨ (if t then (1 : Int) else 0) = 1 := by cases t <;> simp
section
variable {H : Type} {enc : TypeId × Value → H} {w : World} {m : Nat}
set_option maxRecDepth 20000 in
theorem opt_of {fs : Array Field} {cs : List Value} (hfs : Try.prog.underlying 56 = some (.struct fs)) (h : Fielded enc Try.prog w (fun _ => true) true m fs cs) (hl : cs.length = 14) : cs = optL (valAt cs) ∧ OkV (valAt cs) := by
  have e1 := hfs.symm.trans Try.underlying56
  injection e1 with e1
  injection e1 with e1
  subst e1
  have h0 := h.int 0 0 3 (by kernel_rfl) (by kernel_rfl) Try.underlying3
  have h1 := h.int 1 1 38 (by kernel_rfl) (by kernel_rfl) Try.underlying38
  have h2 := h.int 2 2 38 (by kernel_rfl) (by kernel_rfl) Try.underlying38
  have h3 := h.int 3 3 48 (by kernel_rfl) (by kernel_rfl) Try.underlying48
  have h4 := h.int 4 4 48 (by kernel_rfl) (by kernel_rfl) Try.underlying48
  have h5 := h.int 5 5 3 (by kernel_rfl) (by kernel_rfl) Try.underlying3
  have h6 := h.int 6 6 3 (by kernel_rfl) (by kernel_rfl) Try.underlying3
  have h7 := h.bool 7 7 4 (by kernel_rfl) (by kernel_rfl) Try.underlying4
  have h8 := h.bool 8 8 4 (by kernel_rfl) (by kernel_rfl) Try.underlying4
  have h9 := h.int 9 9 3 (by kernel_rfl) (by kernel_rfl) Try.underlying3
  have h10 := h.bool 10 10 4 (by kernel_rfl) (by kernel_rfl) Try.underlying4
  have h11 := h.int 11 11 3 (by kernel_rfl) (by kernel_rfl) Try.underlying3
  have h12 := h.int 12 12 3 (by kernel_rfl) (by kernel_rfl) Try.underlying3
  have h13 := h.bool 13 13 4 (by kernel_rfl) (by kernel_rfl) Try.underlying4
  constructor
  · apply List.ext_getElem?
    intro i
    rcases i with _ | _ | _ | _ | _ | _ | _ | _ | _ | _ | _ | _ | _ | _ | i
    · exact h0.1
    · exact h1.1
    · exact h2.1
    · exact h3.1
    · exact h4.1
    · exact h5.1
    · exact h6.1
    · exact h7.trans (congrArg some (e01 _).symm)
    · exact h8.trans (congrArg some (e01 _).symm)
    · exact h9.1
    · exact h10.trans (congrArg some (e01 _).symm)
    · exact h11.1
    · exact h12.1
    · exact h13.trans (congrArg some (e01 _).symm)
    · rw [List.getElem?_eq_none (by omega), List.getElem?_eq_none (by simp)]
  · intro j hj
    match j, hj with
    | 0, _ => have hb := bounds_i64 h0.2; have g : -9223372036854775808 ≤ cellInt cs[0]? ∧ cellInt cs[0]? < 9223372036854775808 := ⟨by omega, by omega⟩; exact g
    | 1, _ => have hb := bounds_u64 h1.2; have g : 0 ≤ cellInt cs[1]? ∧ cellInt cs[1]? < 18446744073709551616 := ⟨by omega, by omega⟩; exact g
    | 2, _ => have hb := bounds_u64 h2.2; have g : 0 ≤ cellInt cs[2]? ∧ cellInt cs[2]? < 18446744073709551616 := ⟨by omega, by omega⟩; exact g
    | 3, _ => have hb := bounds_u32 h3.2; have g : 0 ≤ cellInt cs[3]? ∧ cellInt cs[3]? < 4294967296 := ⟨by omega, by omega⟩; exact g
    | 4, _ => have hb := bounds_u32 h4.2; have g : 0 ≤ cellInt cs[4]? ∧ cellInt cs[4]? < 4294967296 := ⟨by omega, by omega⟩; exact g
    | 5, _ => have hb := bounds_i64 h5.2; have g : -9223372036854775808 ≤ cellInt cs[5]? ∧ cellInt cs[5]? < 9223372036854775808 := ⟨by omega, by omega⟩; exact g
    | 6, _ => have hb := bounds_i64 h6.2; have g : -9223372036854775808 ≤ cellInt cs[6]? ∧ cellInt cs[6]? < 9223372036854775808 := ⟨by omega, by omega⟩; exact g
    | 7, _ => exact bool01 _
    | 8, _ => exact bool01 _
    | 9, _ => have hb := bounds_i64 h9.2; have g : -9223372036854775808 ≤ cellInt cs[9]? ∧ cellInt cs[9]? < 9223372036854775808 := ⟨by omega, by omega⟩; exact g
    | 10, _ => exact bool01 _
    | 11, _ => have hb := bounds_i64 h11.2; have g : -9223372036854775808 ≤ cellInt cs[11]? ∧ cellInt cs[11]? < 9223372036854775808 := ⟨by omega, by omega⟩; exact g
    | 12, _ => have hb := bounds_i64 h12.2; have g : -9223372036854775808 ≤ cellInt cs[12]? ∧ cellInt cs[12]? < 9223372036854775808 := ⟨by omega, by omega⟩; exact g
    | 13, _ => exact bool01 _
theorem open_opts {t : TypeId} (ht : Try.prog.underlying t = some (.slice 56)) {a : Option Addr} {len cap : Nat} {d : DataW H} {p : List MemPlace} (h : DataW.Trod enc Try.prog w 0 (fun _ => true) true t (.slice a len cap) d p) :
    ∃ z : List (Nat → Int), RS layO w a cap z ∧ z.length = len ∧ ∀ V ∈ z, OkV V := by
  obtain ⟨h1, h2, h3, h4⟩ := slice_structs 14 ht Try.underlying56 (by kernel_rfl) (by omega) h
  rcases Nat.eq_zero_or_pos len with h0 | hpos
  · subst h0
    exact ⟨[], ⟨Nat.zero_le _, h2, fun e => (h3 e).2, fun h => absurd h (by simp)⟩, rfl, fun V hV => by cases hV⟩
  · obtain ⟨b, off, ha, hb, hel⟩ := h4 hpos
    have key : ∀ i, ∃ V : Nat → Int, i < len → (∀ j, j < 14 → w.cell? ⟨b, off + (i * 14 + j), none⟩ = (layO.cs V)[j]?) ∧ OkV V := by
      intro i
      by_cases hi : i < len
      · obtain ⟨cs, m, hl, hc, hF⟩ := hel i hi
        obtain ⟨e1, e2⟩ := opt_of Try.underlying56 hF hl
        exact ⟨valAt cs, fun _ => ⟨fun j hj => by rw [hc j hj]; exact congrArg (·[j]?) e1, e2⟩⟩
      · exact ⟨fun _ => 0, fun h => absurd h hi⟩
    obtain ⟨f, hf⟩ := Classical.axiomOfChoice key
    refine ⟨(List.range len).map f, RS.ofCells _ h1 h2 h3 (fun _ => ⟨b, off, ha, hb, fun i hi j hj => (hf i hi).1 j hj⟩), by simp, fun V hV => ?_⟩
    obtain ⟨i, hi, rfl⟩ := List.mem_map.1 hV
    exact (hf i (by simpa using hi)).2
end
theorem lawOptionFinds (w : World) (A : Option Addr) (len cap : Nat) (z : List (Nat → Int)) (hz : RS layO w A cap z ∧ z.length = len ∧ ∀ V ∈ z, OkV V) (k : Int) (hk : (Lit.int .i64 k).wf = true) :
    Calls Try.prog 13 #[.slice A len cap, .int .i64 k] w fun r w' => r = .returned (.bool true) ∧ Fine w w' := by
  obtain ⟨h1, rfl, h2⟩ := hz
  exact optionFinds_any A cap z k w h1
end Go.Proofs.Ythnennleblgjeaa
