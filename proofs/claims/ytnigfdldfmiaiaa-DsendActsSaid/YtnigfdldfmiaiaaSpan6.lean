/- Contracts: slices.Replace by one. -/
import Derived.Test.YtnigfdldfmiaiaaSpan5
namespace Go.Proofs.Ytnigfdldfmiaiaa
open Go.ChangeShapes Go.WideShapes Go.ChangeAt Go.RowKit
set_option linter.unusedVariables false
set_option linter.unusedSimpArgs false
theorem zeroR : ∀ w, (zeroValue 32).run Try.prog w = .ok (.agg #[.int .i64 0, .int .i64 0]) w := fun w => by kernel_rfl
theorem zeroOne : ∀ v ∈ (Value.agg #[.int .i64 0, .int .i64 0]).cells, v.oneCell' = true := by
  intro v hv
  have hv : v ∈ (#[.int .i64 0, .int .i64 0] : Array Value) := hv
  simp at hv
  subst hv
  rfl
set_option maxHeartbeats 2000000 in
set_option maxRecDepth 20000 in
/-- All behind is replaced: in place. -/
theorem replace_end (base g c : Nat) (l : List Rn) (i : Nat) (hi : i < l.length) (hl : l.length ≤ 8589934592) (r : Rn) (q : Nat) (w : World) (hq : Blk w q 32 #[.int .i64 r.1, .int .i64 r.2]) (h : Own layR 32 w base (.slice (some ⟨g, 0, none⟩) l.length c) l) :
    Calls Try.prog 74 #[.slice (some ⟨g, 0, none⟩) l.length c, .int .i64 i, .int .i64 (l.length : Int), .slice (some ⟨q, 0, none⟩) 1 1] w (RowOf base (i + 1) (.slice (some ⟨g, 0, none⟩) l.length c) (l.take i ++ [r]) w) := by
  obtain ⟨g', cap', cur, e1, hbg, hbk, hle, hmax, hcs, htk⟩ := h.block (by omega)
  injection e1 with e1 e2 e3
  injection e1 with e1
  injection e1 with e1 _ _
  subst e1 e3
  obtain ⟨n, hn⟩ : ∃ n, l.length = n := ⟨_, rfl⟩
  have htl : (l.take i).length = i := by rw [List.length_take]; omega
  rw [hn] at hi hl h hle
  rw [hn]
  obtain ⟨k2, hk2⟩ : ∃ x, n - (i + 1) = x := ⟨_, rfl⟩
  obtain ⟨c2, hc2⟩ : ∃ x, c - (i + 1) = x := ⟨_, rfl⟩
  obtain ⟨p1, hp1⟩ : ∃ x, (i + 1) * 2 = x := ⟨_, rfl⟩
  have hLl : cur.toList.length = c * 2 := by rw [Array.length_toList]; exact hcs
  have e1n : (i + 1) * 2 ≤ n * 2 := Nat.mul_le_mul_right 2 (by omega)
  have hcn : n * 2 ≤ c * 2 := Nat.mul_le_mul_right 2 hle
  have q0 := cutM sliceR g n c i n (i : Int) (n : Int) rfl rfl (by omega) (by omega) (by omega)
  have q1 := cutF sliceR g n c i (i : Int) rfl (by omega)
  have q2 : ∀ w, (Instr.sliceAt 29 (.slice (some ⟨g, 0, none⟩) n c) (some (.int .i64 ((i : Int) + 1))) none none).run Try.prog w = .ok (.slice (some ⟨g, p1, none⟩) k2 c2) w ∨ i + 1 = n := by
    intro w
    by_cases h : i + 1 < c
    · left
      have h := cutB sliceR g n c (i + 1) ((i : Int) + 1) (by simp) (by omega) hle h w
      rw [hp1, hk2, hc2] at h
      exact h
    · right; omega
  have hne : ((i : Int) == (n : Int)) = false := by simp; omega
  have HS : Hid (∀ j v, (layR.flat [r])[j]? = some v → w.cell? (Addr.add ⟨q, 0, none⟩ j) = some v) := Lib.hid (fun j v hv => by
    rw [layR.flat_one] at hv
    rw [Go.WideShapes.add_plain, Nat.zero_add, hq.cell j, ← Array.getElem?_toList]
    exact hv)
  have HNum := Lib.hid (show n - (i + 1) = k2 ∧ (i + 1) * 2 = p1 ∧ (i + 1) * 2 ≤ n * 2 ∧ n * 2 ≤ c * 2 ∧ cur.toList.length = c * 2 ∧ cur.size = c * 2 ∧ c ≤ maxLen ∧ base ≤ g ∧ l.length = n ∧ (l.take i).length = i from ⟨hk2, hp1, e1n, hcn, hLl, hcs, hmax, hbg, hn, htl⟩)
  have HBK := Lib.hid hbk; have HTK := Lib.hid htk; have HQ2 := Lib.hid q2
  have HF : Hid (i * 2 + 1 * 2 ≤ cur.size) := Lib.hid (by rw [hcs]; omega)
  have hic : i + 1 ≤ c := by omega
  clear hk2 hp1 e1n hcn hLl hcs hmax hbg hn htl hbk htk q2 hq h e2 hc2
  have w1 : IntKind.i64.wrap ((i : Int) + 1) = (i : Int) + 1 := IntWalk.i64_in _ (by omega)
  go_enter Try.func74, Try.ntmps74
  go_upto_region 6 with (at_builtin; refine wpList_appM (E := layR) rfl sliceR (.tmp 32) (.tmp 33) rfl HBK.out i c rfl ⟨q, 0, none⟩ 1 1 rfl [r] rfl HS.out hic HF.out ?_; intro wa ba ka; have HA := Lib.hid (And.intro ba ka); clear ba ka)
  obtain ⟨hk2, hp1, e1n, hcn, hLl, hcs, hmax, hbg, hn, htl⟩ := HNum.out
  obtain ⟨ba, ka⟩ := HA.out
  obtain ⟨L1, hL1⟩ : ∃ L, cur.toList.take (i * 2) ++ layR.flat [r] ++ cur.toList.drop (i * 2 + 1 * 2) = L := ⟨_, rfl⟩
  rw [hL1] at ba
  have hL1l : L1.length = c * 2 := by
    rw [← hL1, List.length_append, List.length_append, List.length_take, List.length_drop, layR.flat_length, hLl]
    simp
    omega
  have hL1t : L1.take ((i + 1) * 2) = layR.flat (l.take i ++ [r]) := by
    have ha : cur.toList.take (i * 2) = layR.flat (l.take i) := take_le HTK.out (by omega)
    rw [← hL1, ha, layR.flat_append, List.take_left']
    rw [List.length_append, layR.flat_length, layR.flat_length, htl]
    simp
    omega
  have hlen : (l.take i ++ [r]).length = i + 1 := by rw [List.length_append, htl]; rfl
  by_cases hlast : i + 1 = n
  · have hng : ¬ (i : Int) + 1 < (n : Int) := by omega
    have ho : Own layR 32 wa base (.slice (some ⟨g, 0, none⟩) (l.take i ++ [r]).length c) (l.take i ++ [r]) := Own.make hbg ba (by rw [hlen]; exact hic) hmax (by rw [List.size_toArray]; exact hL1l) (by rw [List.toList_toArray, hlen]; exact hL1t)
    rw [hlen] at ho
    have HO := Lib.hid ho
    have HK : Hid (Kept (fun k => (Value.slice (some ⟨g, 0, none⟩) n c).ownBlock = some k) w wa) := Lib.hid (ka.mono (fun x _ e => by rw [e]; rfl))
    clear hk2 hp1 e1n hcn hLl hcs hmax hbg hn htl ba ka hL1 hL1l hL1t hlen ho hlast
    go_wp2_with fail
    go_ret
    exact ⟨some ⟨g, 0, none⟩, c, rfl, HO.out, HK.out, .inl rfl⟩
  · have hng : (i : Int) + 1 < (n : Int) := by omega
    have q2 := fun w => (HQ2.out w).resolve_right hlast
    obtain ⟨wb, zs, hrun, hz, bb, kb⟩ := run_clearM (n := 2) Try.underlying29 _ zeroR rfl zeroOne ba p1 k2 (by rw [List.size_toArray, hL1l]; omega)
    rw [List.toList_toArray] at bb
    have ho : Own layR 32 wb base (.slice (some ⟨g, 0, none⟩) (l.take i ++ [r]).length c) (l.take i ++ [r]) := Own.make hbg bb (by rw [hlen]; exact hic) hmax (by
      rw [List.size_toArray, List.length_append, List.length_append, List.length_take, List.length_drop, hz, hL1l]
      omega) (by
      rw [List.toList_toArray, hlen, hp1, List.append_assoc, List.take_left' (by rw [List.length_take, hL1l]; omega), ← hp1]
      exact hL1t)
    rw [hlen] at ho
    have HO := Lib.hid ho
    have HK : Hid (Kept (fun k => (Value.slice (some ⟨g, 0, none⟩) n c).ownBlock = some k) w wb) := Lib.hid ((ka.mono (fun x _ e => by rw [e]; rfl)).trans (kb.mono (fun x _ e => by rw [e]; rfl)))
    clear hk2 hp1 e1n hcn hLl hcs hmax hbg hn htl ba ka hL1 hL1l hL1t hlen ho hlast bb kb hz
    go_wp2_with fail
    go_ret
    exact ⟨some ⟨g, 0, none⟩, c, rfl, HO.out, HK.out, .inl rfl⟩
end Go.Proofs.Ytnigfdldfmiaiaa
