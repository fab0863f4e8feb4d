/- 'append(s, make([]byte, n)...)': zeros behind what is the call's own. -/
import Derived.Test.YthnennleblgjeaaBytes
import Derived.Lib.AppendStr
import Derived.Lib.AppendZeros
namespace Go.Proofs.Ythnennleblgjeaa
set_option linter.unusedSimpArgs false
open Go.RowKit

def zeroBytes (m : Nat) : ByteArray := ⟨Array.replicate m 0⟩
theorem zeroBytes_size (m : Nat) : (zeroBytes m).size = m := by simp [zeroBytes, ByteArray.size]
theorem zeroBytes_cells (m : Nat) : Lib.strCells (zeroBytes m) = List.replicate m (Value.int .u8 0) := by simp [zeroBytes, Lib.strCells]
theorem zeroCells_bytes (m : Nat) : Builtin.zeroCells (Value.int .u8 0).cells m = (List.replicate m (Value.int .u8 0)).toArray := by
  have e : (Value.int .u8 0).cells = #[Value.int .u8 0] := rfl
  rw [e]
  unfold Builtin.zeroCells
  apply Array.ext
  · simp
  · intro i h1 h2
    simp [Nat.mod_one]

theorem run_zeros_as_string {P : Program} (w : World) (t tn u ty e : TypeId) (i : TypeInfo) (k kn : IntKind) (ht : P.underlying t = some (.slice e)) (htn : P.underlying tn = some (.int kn)) (hu : P.underlying u = some .string)
    (hi : P.info? e = some i) (hz : i.zero = some (.int .u8 0)) (hs1 : i.size = 1) (hb : i.bytes = 1) (base : Option Addr) (n m cap : Nat) (hc : n ≤ cap) (h : n + m ≤ 140737488355328) :
    (Builtin.append_ #[t, tn] ty #[.slice base n cap, .int k m]).run P w = (Builtin.append_ #[t, u] ty #[.slice base n cap, .string (zeroBytes m)]).run P w := by
  have hw : IntKind.i64.wrap (m : Int) = m := by rw [IntKind.wrap_i64]; omega
  have hneg : ¬ ((m : Int) < 0) := by omega
  have h48i : ¬ (281474976710656 < (m : Int)) := by omega
  have hf := fun w => Lib.run_firstCells_string (P := P) w 1 (zeroBytes m)
  rw [zeroBytes_size, zeroBytes_cells] at hf
  by_cases hroom : n + m ≤ cap
  · by_cases hm : m = 0
    · subst hm
      have hw0 : IntKind.i64.wrap 0 = 0 := by decide
      have hf0 := hf
      simp only [List.replicate_zero] at hf0
      simp [hw0, hc, hf0, Builtin.append_, run_underlying ht, run_underlying htn, run_underlying hu, sizeOf, typeInfo, hi, hs1, hb, asInt, asIntOf, Builtin.lenOf, zeroBytes_size]
    · simp [Builtin.append_, run_underlying ht, run_underlying htn, run_underlying hu, sizeOf, typeInfo, zeroValue, hi, hz, hs1, hb, asInt, asIntOf, hw, Builtin.lenOf, hroom, hf, zeroBytes_size, hneg, h48i, hm, zeroCells_bytes]
  · have hm : m ≠ 0 := by omega
    have h63 : ¬ (9223372036854775807 < ((n : Int) + (m : Int))) := by omega
    have h48 : ¬ (281474976710656 < Builtin.nextslicecap (n + m) cap * 1) := by
      have := growslice_fits (need := n + m) (old := cap) (bytes := 1) (by omega) (by omega)
      omega
    rw [Nat.mul_one] at h48
    simp [Builtin.append_, run_underlying ht, run_underlying htn, run_underlying hu, sizeOf, typeInfo, zeroValue, hi, hz, hs1, hb, asInt, asIntOf, hw, Builtin.lenOf, hroom, hf, zeroBytes_size, hneg, h48i, hm, zeroCells_bytes, h63, h48]

/-- 'append(s, make([]byte, n)...)', s the call's own bytes. -/
theorem run_zerosB {w : World} (ty : TypeId) (base : Nat) (A : Option Addr) (n c : Nat) (xs : List Int) (hown : OwnB w base (.slice A n c) xs) (m : Nat) (hlen : xs.length + m ≤ 140737488355328) (hbase : base ≤ w.heap.size) :
    ∃ v' w', (Builtin.append_ #[24, 3] ty #[.slice A n c, .int .i64 m]).run Try.prog w = .ok v' w' ∧ OwnB w' base v' (xs ++ List.replicate m 0) ∧ Kept (fun k => base ≤ k) w w' := by
  obtain ⟨i, hi, hz0, hz1, hz2⟩ := info_parts infoB
  have hn := hown.bs
  have hnc : n ≤ c := by rw [hn.2]; exact hn.1.le
  rw [run_zeros_as_string w 24 3 9 ty 5 i .i64 .i64 Try.underlying24 Try.underlying3 (by kernel_rfl) hi hz0 hz1 hz2 A n m c hnc (by rw [hn.2]; omega)]
  obtain ⟨v', w', h1, h2, h3, _⟩ := Lib.run_append_own_string w base 24 9 ty 5 i Try.underlying24 (by kernel_rfl) hi hz0 hz1 hz2 (.slice A n c) xs.length (cellB xs) hown.2 (zeroBytes m)
    (by rw [zeroBytes_size]; unfold maxLen; omega) (by rw [zeroBytes_size]; omega) hbase
  refine ⟨v', w', h1, ⟨hown.1.append (fun x hx => ?_), ?_⟩, (Kept.refl _ _).grown h3 (fun k hk _ => (hown.lt k hk).1)⟩
  · have := List.eq_of_mem_replicate hx
    omega
  · rw [cellB_append, List.length_append, List.length_replicate]
    rw [zeroBytes_size, zeroBytes_cells] at h2
    simpa [cellB] using h2

theorem wpList_zerosS {w : World} {ops : Array Oper} {rest : List Oper} {o : Oper} {a : Act} {Q : Exit → Act → World → Prop} (hgd : o.guard = none) (s x : Operand)
    (ho : o.op = .call { callee := .builtin .append, args := #[s, x], argTypes := #[24, 3] })
    (base : Nat) (A : Option Addr) (n c : Nat) (xs : List Int) (hs : a.eval s = .slice A n c) (hown : OwnB w base (.slice A n c) xs) (m : Nat) (hx : a.eval x = .int .i64 m)
    (hlen : xs.length + m ≤ 140737488355328) (hbase : base ≤ w.heap.size)
    (h : ∀ A' c' w', Hid (OwnB w' base (.slice A' (xs.length + m) c') (xs ++ List.replicate m 0)) → Hid (BS w' A' c' (xs ++ List.replicate m 0)) → Kept (fun k => base ≤ k) w w' → wpList Try.prog ops Q rest (a.put o.dst (.slice A' (xs.length + m) c')) w') : wpList Try.prog ops Q (o :: rest) a w := by
  obtain ⟨v', w', h1, h2, h3⟩ := run_zerosB o.type base A n c xs hown m hlen hbase
  refine Lib.wpList_append_run w hgd s x 24 3 ho _ _ hs hx v' w' h1 ?_
  obtain ⟨A', c', e, hb, _⟩ := h2.form
  rw [List.length_append, List.length_replicate] at e
  subst e
  exact h A' c' w' h2 hb h3
end Go.Proofs.Ythnennleblgjeaa
