/- Contracts: slices.Replace by one; Add. -/
import Derived.Test.YtnigfdldfmiaiaaSpan7
import Derived.Deep.RegionHeld3
namespace Go.Proofs.Ytnigfdldfmiaiaa
open Go.ChangeShapes Go.WideShapes Go.ChangeAt Go.RowKit
set_option linter.unusedVariables false
set_option linter.unusedSimpArgs false
theorem cutAny {P : Program} {t e : TypeId} {n bytes : Nat} (T : SliceTy P t e n bytes) (A : Option Addr) (len c i j : Nat) (x y : Int) (hx : x = (i : Int)) (hy : y = (j : Int)) (hij : i ≤ j) (hj : j ≤ c) :
    ∃ A', ∀ w, (Instr.sliceAt t (.slice A len c) (some (.int .i64 x)) (some (.int .i64 y)) none).run P w = .ok (.slice A' (j - i) (c - i)) w := by
  subst hx hy
  obtain ⟨i', hi', hz⟩ := Option.map_eq_some_iff.1 T.size
  refine ⟨if c = i then A else A.map (·.add (i * n)), fun w => ?_⟩
  simp only [Instr.sliceAt, Instr.slice, Sem.run_bind, run_underlying T.ht, Result.andThen_ok, Instr.sliceBounds, Sem.run_pure]
  rw [run_sliceBound (w := w) .i64 j c _ (by omega) (by omega)]
  simp only [Result.andThen_ok, Int.toNat_natCast]
  rw [run_sliceBound (w := w) .i64 i j _ (by omega) (by omega)]
  simp [sizeOf, typeInfo, hi', hz, Result.andThen]
set_option maxHeartbeats 2000000 in
set_option maxRecDepth 20000 in
theorem replace_none (base : Nat) (A : Option Addr) (n c : Nat) (l : List Rn) (hn : n = l.length) (hl : n ≤ 8589934592) (i : Nat) (hi : i ≤ n) (r : Rn) (q : Nat) (w : World) (hbw : base ≤ w.heap.size) (hq : Blk w q 32 #[.int .i64 r.1, .int .i64 r.2]) (hqA : (Value.slice A n c).ownBlock ≠ some q) (h : Own layR 32 w base (.slice A n c) l) :
    Calls Try.prog 74 #[.slice A n c, .int .i64 i, .int .i64 i, .slice (some ⟨q, 0, none⟩) 1 1] w (RowOf base (n + 1) (.slice A n c) (l.take i ++ r :: l.drop i) w) := by
  have HI := Lib.hid (insert_any base A n c l hn hl i hi r q w hbw hq hqA h)
  have hnc : n ≤ c := hn ▸ h.rs.1.1
  obtain ⟨A', e1⟩ := cutAny sliceR A n c i i (i : Int) (i : Int) rfl rfl (Nat.le_refl _) (by omega)
  clear h hq hqA hbw hn
  go_enter Try.func74, Try.ntmps74
  go_wp2_with fail
  refine HI.out.mono ?_
  rintro x w2 ⟨A2, c2, rfl, h2⟩
  have H2 := Lib.hid h2
  clear h2
  go_wp2_with fail
  go_ret
  exact ⟨A2, c2, rfl, H2.out⟩
theorem replace_any (base : Nat) (A : Option Addr) (n c : Nat) (l : List Rn) (hn : n = l.length) (hl : n ≤ 8589934592) (i j : Nat) (hij : i ≤ j) (hj : j ≤ n) (r : Rn) (q : Nat) (w : World) (hbw : base ≤ w.heap.size) (hq : Blk w q 32 #[.int .i64 r.1, .int .i64 r.2]) (hqA : (Value.slice A n c).ownBlock ≠ some q) (h : Own layR 32 w base (.slice A n c) l) :
    Calls Try.prog 74 #[.slice A n c, .int .i64 i, .int .i64 j, .slice (some ⟨q, 0, none⟩) 1 1] w (RowOf base (i + 1 + (n - j)) (.slice A n c) (l.take i ++ r :: l.drop j) w) := by
  by_cases he : i = j
  · subst he
    rw [show i + 1 + (n - i) = n + 1 by omega]
    exact replace_none base A n c l hn hl i hj r q w hbw hq hqA h
  · obtain ⟨g, cap, cur, e1, _⟩ := h.block (by omega)
    injection e1 with e1 e2 e3
    subst e1 e2
    have hqg : q ≠ g := fun e => hqA (by rw [e]; rfl)
    by_cases hje : j = l.length
    · subst hje
      rw [List.drop_length, Nat.sub_self, Nat.add_zero]
      exact replace_end base g c l i (by omega) hl r q w hq h
    · exact replace_mid base g c l i j (by omega) (by omega) hl r q w hq hqg _ rfl h
end Go.Proofs.Ytnigfdldfmiaiaa
