/- Contracts: the document's set. -/
import Derived.Test.YtnigfdldfmiaiaaSpan22
namespace Go.Proofs.Ytnigfdldfmiaiaa
open Go.ChangeShapes Go.WideShapes Go.ChangeAt Go.RowKit
set_option linter.unusedVariables false
set_option linter.unusedSimpArgs false
def mkL (p : Nat → Bool) : List Bool := (List.range 200).map p
def boolC (L : List Bool) : Array Value := (L.map Value.bool).toArray
theorem mkL_len (p : Nat → Bool) : (mkL p).length = 200 := by simp [mkL]
theorem mkL_congr {p q : Nat → Bool} (h : ∀ i, i < 200 → p i = q i) : mkL p = mkL q := List.map_congr_left (fun i hi => h i (List.mem_range.mp hi))
theorem boolC_get {p : Nat → Bool} {i : Nat} (h : i < 200) : (boolC (mkL p))[i]? = some (.bool (p i)) := by
  unfold boolC mkL
  simp [h]
theorem mkL_set (p : Nat → Bool) (k : Nat) (b : Bool) : (mkL p).set k b = mkL (fun i => if i = k then b else p i) := by
  apply List.ext_getElem?
  intro i
  unfold mkL
  rw [List.getElem?_set]
  simp only [List.length_map, List.length_range, List.getElem?_map]
  by_cases hk : k = i
  · subst hk
    by_cases hlt : k < 200
    · simp [hlt]
    · simp [hlt, List.getElem?_eq_none]
  · have hk' : ¬ i = k := fun e => hk e.symm
    by_cases hlt : i < 200
    · simp [hk, hk', hlt]
    · simp [hk, hlt, List.getElem?_eq_none]
theorem boolC_set (p : Nat → Bool) (k : Nat) (b : Bool) : (boolC (mkL p)).setIfInBounds k (.bool b) = boolC (mkL (fun i => if i = k then b else p i)) := by
  rw [← mkL_set]
  unfold boolC
  simp [List.map_set]
/-- The document's set: which of 200 numbers. -/
def RefS (w : World) (x gb : Nat) (p : Nat → Bool) : Prop := Blk w x 39 #[.slice (some ⟨gb, 0, none⟩) 200 200] ∧ Blk w gb 4 (boolC (mkL p)) ∧ gb ≠ x
theorem RefS.fine {w w' : World} {x gb : Nat} {p : Nat → Bool} (h : RefS w x gb p) (f : Fine w w') : RefS w' x gb p := ⟨h.1.fine f, h.2.1.fine f, h.2.2⟩
theorem RefS.kept {S : Nat → Prop} {w w' : World} {x gb : Nat} {p : Nat → Bool} (h : RefS w x gb p) (k : Kept S w w') (hx : ¬ S x) (hg : ¬ S gb) : RefS w' x gb p := ⟨h.1.kept k hx, h.2.1.kept k hg, h.2.2⟩
theorem RefS.congr {w : World} {x gb : Nat} {p q : Nat → Bool} (h : RefS w x gb p) (e : ∀ i, i < 200 → p i = q i) : RefS w x gb q := ⟨h.1, by rw [← mkL_congr e]; exact h.2.1, h.2.2⟩
theorem RefS.cell {w : World} {x gb : Nat} {p : Nat → Bool} (h : RefS w x gb p) {i : Nat} (hi : i < 200) : w.cell? ⟨gb, i, none⟩ = some (.bool (p i)) := h.2.1.cellOf (boolC_get hi)
theorem RefS.set {w : World} {x gb : Nat} {p : Nat → Bool} (h : RefS w x gb p) (k : Nat) (b : Bool) : RefS (w.setCell ⟨gb, k, none⟩ (.bool b)) x gb (fun i => if i = k then b else p i) :=
  ⟨h.1.far (p := ⟨gb, k, none⟩) (fun e => h.2.2 e.symm) _, by rw [← boolC_set]; exact h.2.1.set_ k (.bool b), h.2.2⟩
theorem infoBo : (Try.prog.info? 4).map (fun i => (i.zero, i.size, i.bytes)) = some (some (.bool false), 1, 1) := by kernel_rfl
set_option maxRecDepth 20000 in
theorem wpList_makeBo {w : World} {ops : Array Oper} {rest : List Oper} {o : Oper} {a : Act} {Q : Exit → Act → World → Prop} (hgd : o.guard = none) (l c : Operand) (hop : o.op = Op.makeSlice 37 l c)
    (hl : a.eval l = .int .i64 200) (hc : a.eval c = .int .i64 200)
    (h : ∀ w', Blk w' w.heap.size 4 (boolC (mkL (fun _ => false))) → Fine w w' → wpList Try.prog ops Q rest (a.put o.dst (.slice (some ⟨w.heap.size, 0, none⟩) 200 200)) w') : wpList Try.prog ops Q (o :: rest) a w := by
  obtain ⟨i, hi, hz0, hz1, hz2⟩ := info_parts infoBo
  refine wpList_make_full w hgd l c 37 hop w.heap.size 4 i _ 1 Try.underlying37 hi hz0 hz1 .i64 .i64 200 200 200 hl hc rfl rfl (by rw [hz2]; omega) (by unfold maxLen; omega) (Nat.le_refl _) fun w' hown hg => h w' ?_ ((Fine.refl w).grown hg (fun k hk => by cases hk))
  obtain ⟨_, hv⟩ := hown
  rcases hv with ⟨h1, _⟩ | ⟨g, cap, cur, h1, _, hh, _, _, hcs, ht⟩
  · cases h1
  · injection h1 with h1 _ h3
    injection h1 with h1
    injection h1 with h1 _
    subst h1 h3
    unfold Blk
    rw [hh]
    congr 2
    apply Array.toList_inj.1
    rw [List.take_of_length_le (by simp [hcs])] at ht
    rw [ht]
    simp [boolC, mkL, Value.cells, toList_madeCells_one]
    rfl
set_option maxHeartbeats 1000000 in
set_option maxRecDepth 20000 in
theorem rnew_any (w : World) : Calls Try.prog 23 #[.int .i64 200] w fun r w' => ∃ x gb, r = .returned (.pointer (some ⟨x, 0, none⟩)) ∧ RefS w' x gb (fun _ => false) ∧ Fine w w' ∧ w.heap.size ≤ x ∧ w.heap.size ≤ gb := by
  go_enter Try.func23, Try.ntmps23
  go_wp2_with (at_make; refine wpList_makeBo rfl (.tmp 3) (.tmp 3) rfl rfl rfl ?_; intro w2 hb2 f2)
  go_ret
  exact ⟨w2.heap.size, w.heap.size, rfl, ⟨Blk.new _ _ _, hb2.alloc _, by have := hb2.lt; omega⟩, f2.alloc _, f2.size, Nat.le_refl _⟩
/-- Counting. -/
def cntP (q : Nat → Bool) (k : Nat) : Int := ((List.range k).countP q : Nat)
theorem cntP_zero (q : Nat → Bool) : cntP q 0 = 0 := rfl
theorem cntP_succ (q : Nat → Bool) (k : Nat) : cntP q (k + 1) = cntP q k + (if q k = true then 1 else 0) := by
  unfold cntP
  rw [List.range_succ, List.countP_append, List.countP_singleton, Int.natCast_add]
  split <;> rfl
theorem cntP_le (q : Nat → Bool) (k : Nat) : 0 ≤ cntP q k ∧ cntP q k ≤ k := by
  unfold cntP
  have := List.countP_le_length (p := q) (l := List.range k)
  rw [List.length_range] at this
  omega
theorem cntP_congr {q r : Nat → Bool} (k : Nat) (h : ∀ i, i < k → q i = r i) : cntP q k = cntP r k := by
  unfold cntP
  congr 1
  exact List.countP_congr (fun i hi => by rw [h i (List.mem_range.mp hi)])
def condA (f n : Int) (i : Nat) : Bool := decide (f ≤ (i : Int)) && decide ((i : Int) - f < n)
set_option maxHeartbeats 2000000 in
set_option maxRecDepth 20000 in
theorem radd_any (x gb : Nat) (p : Nat → Bool) (f n : Int) (hf : -1099511627776 ≤ f ∧ f ≤ 9223372036854775807) (w : World) (h : RefS w x gb p) :
    Calls Try.prog 24 #[.pointer (some ⟨x, 0, none⟩), .int .i64 f, .int .i64 n] w fun r w' => r = .returned (.int .i64 (cntP (fun i => condA f n i && !p i) 200)) ∧ RefS w' x gb (fun i => p i || condA f n i) ∧ Kept (· = gb) w w' := by
  have HP := Lib.hid h
  clear h
  go_enter Try.func24, Try.ntmps24
  go_wp2_with fail
  go_loopw [7, 8] (fun s7 s8 wr => ∃ (k : Nat) (c : Int), k ≤ 200 ∧ s8 = .int .i64 k ∧ s7 = .int .i64 c ∧ (0 ≤ c ∧ c ≤ 200) ∧ Hid (c = cntP (fun i => condA f n i && !p i) k ∧ RefS wr x gb (fun i => p i || (decide (i < k) && condA f n i)) ∧ Kept (· = gb) w wr)) (fun _ s8 _ => 200 - (intOf s8).toNat)
  case atStart => exact ⟨0, 0, by omega, rfl, rfl, by omega, Lib.hid ⟨rfl, HP.out.congr (fun i hi => by simp), Kept.refl _ _⟩⟩
  case round =>
    obtain ⟨k, c, hk, rfl, rfl, hc, HI⟩ := hrel
    have c0 : wr.cell? ⟨x, 0, none⟩ = some (.slice (some ⟨gb, 0, none⟩) 200 200) := HI.out.2.1.1.cell1
    by_cases hlt : k < 200
    · have hcl := HI.out.2.1.cell hlt
      simp only [Nat.lt_irrefl, decide_false, Bool.false_and, Bool.or_false] at hcl
      have hfr := HI.out.2.1.2.1.frozen k
      have hs := cntP_succ (fun i => condA f n i && !p i) k
      have HS := Lib.hid hs
      obtain ⟨v, hv⟩ : ∃ v, p k = v := ⟨_, rfl⟩
      have HV := Lib.hid hv
      rw [hv] at hcl
      have hcb := cntP_le (fun i => condA f n i && !p i) (k + 1)
      have HCB := Lib.hid hcb
      clear hs hv hcb
      by_cases h1 : f ≤ (k : Int)
      · obtain ⟨q, hq⟩ : ∃ q, (k : Int) - f = q := ⟨_, rfl⟩
        have e1 : IntKind.i64.wrap ((k : Int) - f) = q := by rw [hq]; exact IntWalk.i64_in _ (by omega)
        have g1 : (k : Int) ≥ f := h1
        by_cases h2 : q < n
        · have HC : Hid (condA f n k = true) := Lib.hid (by unfold condA; simp; omega)
          clear hq
          cases v
          · have e2 : IntKind.i64.wrap (c + 1) = c + 1 := IntWalk.i64_in _ (by omega)
            go_wp2_with fail
            have hcn : c + 1 = cntP (fun i => condA f n i && !p i) (k + 1) := by rw [HS.out, HC.out, HV.out, ← HI.out.1]; rfl
            refine ⟨⟨k + 1, c + 1, hlt, by simp, rfl, by rw [hcn]; have := HCB.out; omega, Lib.hid ⟨hcn, (HI.out.2.1.set k true).congr (fun i hi => ?_), HI.out.2.2.setIn rfl _⟩⟩, by simp only [intOf]; omega⟩
            by_cases hik : i = k
            · subst hik
              simp [HC.out]
            · have : decide (i < k + 1) = decide (i < k) := by simp; omega
              simp [hik, this]
          · go_wp2_with fail
            have hcn : c = cntP (fun i => condA f n i && !p i) (k + 1) := by rw [HS.out, HC.out, HV.out, ← HI.out.1]; simp
            refine ⟨⟨k + 1, c, hlt, by simp, rfl, hc, Lib.hid ⟨hcn, HI.out.2.1.congr (fun i hi => ?_), HI.out.2.2⟩⟩, by simp only [intOf]; omega⟩
            by_cases hik : i = k
            · subst hik
              simp [HV.out]
            · have : decide (i < k + 1) = decide (i < k) := by simp; omega
              simp [this]
        · have HC : Hid (condA f n k = false) := Lib.hid (by unfold condA; simp; omega)
          clear hq
          go_wp2_with fail
          have hcn : c = cntP (fun i => condA f n i && !p i) (k + 1) := by rw [HS.out, HC.out, ← HI.out.1]; simp
          refine ⟨⟨k + 1, c, hlt, by simp, rfl, hc, Lib.hid ⟨hcn, HI.out.2.1.congr (fun i hi => ?_), HI.out.2.2⟩⟩, by simp only [intOf]; omega⟩
          by_cases hik : i = k
          · subst hik
            simp [HC.out]
          · have : decide (i < k + 1) = decide (i < k) := by simp; omega
            simp [this]
      · have g1 : ¬ (k : Int) ≥ f := h1
        have HC : Hid (condA f n k = false) := Lib.hid (by unfold condA; simp; omega)
        go_wp2_with fail
        have hcn : c = cntP (fun i => condA f n i && !p i) (k + 1) := by rw [HS.out, HC.out, ← HI.out.1]; simp
        refine ⟨⟨k + 1, c, hlt, by simp, rfl, hc, Lib.hid ⟨hcn, HI.out.2.1.congr (fun i hi => ?_), HI.out.2.2⟩⟩, by simp only [intOf]; omega⟩
        by_cases hik : i = k
        · subst hik
          simp [HC.out]
        · have : decide (i < k + 1) = decide (i < k) := by simp; omega
          simp [this]
    · have hke : k = 200 := by omega
      subst hke
      go_wp2_with fail
      go_ret
      exact ⟨by rw [HI.out.1]; rfl, HI.out.2.1.congr (fun i hi => by simp [hi]), HI.out.2.2⟩
set_option maxHeartbeats 2000000 in
set_option maxRecDepth 20000 in
theorem rdrop_any (x gb : Nat) (p : Nat → Bool) (b : Int) (w : World) (h : RefS w x gb p) :
    Calls Try.prog 25 #[.pointer (some ⟨x, 0, none⟩), .int .i64 b] w fun r w' => r = .returned (.int .i64 (cntP (fun i => decide ((i : Int) < b) && p i) 200)) ∧ RefS w' x gb (fun i => p i && decide (b ≤ (i : Int))) ∧ Kept (· = gb) w w' := by
  have HP := Lib.hid h
  clear h
  go_enter Try.func25, Try.ntmps25
  go_wp2_with fail
  go_loopw [5, 6] (fun s5 s6 wr => ∃ (k : Nat) (c : Int), k ≤ 200 ∧ s6 = .int .i64 k ∧ s5 = .int .i64 c ∧ (0 ≤ c ∧ c ≤ 200) ∧ Hid (c = cntP (fun i => decide ((i : Int) < b) && p i) k ∧ RefS wr x gb (fun i => p i && !(decide (i < k) && decide ((i : Int) < b))) ∧ Kept (· = gb) w wr)) (fun _ s6 _ => 200 - (intOf s6).toNat)
  case atStart => exact ⟨0, 0, by omega, rfl, rfl, by omega, Lib.hid ⟨rfl, HP.out.congr (fun i hi => by simp), Kept.refl _ _⟩⟩
  case round =>
    obtain ⟨k, c, hk, rfl, rfl, hc, HI⟩ := hrel
    have c0 : wr.cell? ⟨x, 0, none⟩ = some (.slice (some ⟨gb, 0, none⟩) 200 200) := HI.out.2.1.1.cell1
    by_cases hlt : k < 200
    · have hcl := HI.out.2.1.cell hlt
      simp only [Nat.lt_irrefl, decide_false, Bool.false_and, Bool.not_false, Bool.and_true] at hcl
      have hfr := HI.out.2.1.2.1.frozen k
      have HS := Lib.hid (cntP_succ (fun i => decide ((i : Int) < b) && p i) k)
      have HCB := Lib.hid (cntP_le (fun i => decide ((i : Int) < b) && p i) (k + 1))
      obtain ⟨v, hv⟩ : ∃ v, p k = v := ⟨_, rfl⟩
      have HV := Lib.hid hv
      rw [hv] at hcl
      clear hv
      by_cases h1 : (k : Int) < b
      · have HC : Hid (decide ((k : Int) < b) = true) := Lib.hid (decide_eq_true h1)
        cases v
        · go_wp2_with fail
          have hcn : c = cntP (fun i => decide ((i : Int) < b) && p i) (k + 1) := by rw [HS.out, HC.out, HV.out, ← HI.out.1]; simp
          refine ⟨⟨k + 1, c, hlt, by simp, rfl, hc, Lib.hid ⟨hcn, HI.out.2.1.congr (fun i hi => ?_), HI.out.2.2⟩⟩, by simp only [intOf]; omega⟩
          by_cases hik : i = k
          · subst hik
            simp [HV.out]
          · have : decide (i < k + 1) = decide (i < k) := by simp; omega
            simp [this]
        · have e2 : IntKind.i64.wrap (c + 1) = c + 1 := IntWalk.i64_in _ (by omega)
          go_wp2_with fail
          have hcn : c + 1 = cntP (fun i => decide ((i : Int) < b) && p i) (k + 1) := by rw [HS.out, HC.out, HV.out, ← HI.out.1]; rfl
          refine ⟨⟨k + 1, c + 1, hlt, by simp, rfl, by rw [hcn]; have := HCB.out; omega, Lib.hid ⟨hcn, (HI.out.2.1.set k false).congr (fun i hi => ?_), HI.out.2.2.setIn rfl _⟩⟩, by simp only [intOf]; omega⟩
          by_cases hik : i = k
          · subst hik
            simp [HC.out]
          · have : decide (i < k + 1) = decide (i < k) := by simp; omega
            simp [hik, this]
      · have h2 : b ≤ (k : Int) := by omega
        have hcn : Hid (c = cntP (fun i => decide ((i : Int) < b) && p i) 200) := Lib.hid (by
          have key : ∀ d, k + d ≤ 200 → cntP (fun i => decide ((i : Int) < b) && p i) (k + d) = c := by
            intro d
            induction d with
            | zero => intro _; exact HI.out.1.symm
            | succ d ih =>
              intro hd
              rw [← Nat.add_assoc, cntP_succ, ih (by omega)]
              have : decide (((k + d : Nat) : Int) < b) = false := by simp; omega
              rw [this]
              simp
          have := key (200 - k) (by omega)
          rw [show k + (200 - k) = 200 by omega] at this
          exact this.symm)
        go_wp2_with fail
        go_ret
        exact ⟨by rw [hcn.out]; rfl, HI.out.2.1.congr (fun i hi => by
          by_cases hib : (i : Int) < b
          · have h3 : i < k := by omega
            have h4 : ¬ b ≤ (i : Int) := by omega
            simp [hib, h3, h4]
          · have h4 : b ≤ (i : Int) := by omega
            simp [hib, h4]), HI.out.2.2⟩
    · have hke : k = 200 := by omega
      subst hke
      go_wp2_with fail
      go_ret
      exact ⟨by rw [HI.out.1]; rfl, HI.out.2.1.congr (fun i hi => by
        by_cases hib : (i : Int) < b
        · have h4 : ¬ b ≤ (i : Int) := by omega
          simp [hib, hi, h4]
        · have h4 : b ≤ (i : Int) := by omega
          simp [hib, h4]), HI.out.2.2⟩
set_option maxHeartbeats 2000000 in
set_option maxRecDepth 20000 in
theorem rnext_any (x gb : Nat) (p : Nat → Bool) (f : Nat) (hf : f ≤ 200) (w : World) (h : RefS w x gb p) :
    Calls Try.prog 28 #[.pointer (some ⟨x, 0, none⟩), .int .i64 f] w fun r w' => ∃ k : Nat, r = .returned (.int .i64 k) ∧ f ≤ k ∧ k ≤ 200 ∧ (k < 200 → p k = false) ∧ (∀ j, f ≤ j → j < k → p j = true) ∧ w' = w := by
  have HP := Lib.hid h
  have c0 : w.cell? ⟨x, 0, none⟩ = some (.slice (some ⟨gb, 0, none⟩) 200 200) := h.1.cell1
  clear h
  go_enter Try.func28, Try.ntmps28
  go_wp2_with fail
  go_loopw [1] (fun s1 wr => ∃ (k : Nat), f ≤ k ∧ k ≤ 200 ∧ s1 = .int .i64 k ∧ wr = w ∧ Hid (∀ j, f ≤ j → j < k → p j = true)) (fun s1 _ => 200 - (intOf s1).toNat)
  case atStart => exact ⟨f, Nat.le_refl _, hf, (by first | rfl | trivial), (by first | rfl | trivial), Lib.hid (fun j h1 h2 => absurd h1 (by omega))⟩
  case round =>
    obtain ⟨k, hfk, hk, rfl, rfl, HI⟩ := hrel
    by_cases hlt : k < 200
    · have hcl := HP.out.cell hlt
      obtain ⟨v, hv⟩ : ∃ v, p k = v := ⟨_, rfl⟩
      have HV := Lib.hid hv
      rw [hv] at hcl
      clear hv
      cases v
      · go_wp2_with fail
        go_ret
        exact ⟨k, rfl, hfk, hk, fun _ => HV.out, HI.out, rfl⟩
      · go_wp2_with fail
        refine ⟨⟨k + 1, by omega, hlt, by simp, (by first | rfl | trivial), Lib.hid (fun j h1 h2 => ?_)⟩, by simp only [intOf]; omega⟩
        by_cases e : j = k
        · subst e; exact HV.out
        · exact HI.out j h1 (by omega)
    · have hke : k = 200 := by omega
      subst hke
      go_wp2_with fail
      go_ret
      exact ⟨200, rfl, hfk, hk, fun h => absurd h (by omega), HI.out, rfl⟩
end Go.Proofs.Ytnigfdldfmiaiaa
