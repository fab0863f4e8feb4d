/- Contracts: cuts; slices.Insert of one. -/
import Derived.Test.YtnigfdldfmiaiaaSpan3
import Derived.Deep.RegionLaw
import Derived.StillTailTactics
namespace Go.Proofs.Ytnigfdldfmiaiaa
open Go.ChangeShapes Go.WideShapes Go.ChangeAt Go.RowKit
set_option linter.unusedVariables false
set_option linter.unusedSimpArgs false
section
variable {P : Program} {t e : TypeId} {n bytes : Nat}
/-- 's[:k]', k within the capacity. -/
theorem cutF (T : SliceTy P t e n bytes) (g len c k : Nat) (x : Int) (hx : x = (k : Int)) (hk : k ≤ c) (w : World) :
    (Instr.sliceAt t (.slice (some ⟨g, 0, none⟩) len c) none (some (.int .i64 x)) none).run P w = .ok (.slice (some ⟨g, 0, none⟩) k c) w := by
  subst hx
  obtain ⟨i, hi, hz⟩ := Option.map_eq_some_iff.1 T.size
  simp only [Instr.sliceAt, Instr.slice, Sem.run_bind, run_underlying T.ht, Result.andThen_ok, Instr.sliceBounds, Sem.run_pure]
  rw [run_sliceBound (w := w) .i64 k c _ (by omega) (by omega)]
  simp [sizeOf, typeInfo, hi, hz, Result.andThen, Addr.add]
/-- 's[i:]'. -/
theorem cutB (T : SliceTy P t e n bytes) (g len c i : Nat) (x : Int) (hx : x = (i : Int)) (hi : i ≤ len) (hc : len ≤ c) (hlt : i < c) (w : World) :
    (Instr.sliceAt t (.slice (some ⟨g, 0, none⟩) len c) (some (.int .i64 x)) none none).run P w = .ok (.slice (some ⟨g, i * n, none⟩) (len - i) (c - i)) w := by
  subst hx
  obtain ⟨i', hi', hz⟩ := Option.map_eq_some_iff.1 T.size
  simp only [Instr.sliceAt, Instr.slice, Sem.run_bind, run_underlying T.ht, Result.andThen_ok, Instr.sliceBounds, Sem.run_pure]
  rw [run_sliceBound (w := w) .i64 i len _ (by omega) (by omega)]
  have hne : ¬ c = i := by omega
  simp [sizeOf, typeInfo, hi', hz, Result.andThen, hne, Go.WideShapes.add_plain]
/-- 's[i:j]'. -/
theorem cutM (T : SliceTy P t e n bytes) (g len c i j : Nat) (x y : Int) (hx : x = (i : Int)) (hy : y = (j : Int)) (hij : i ≤ j) (hj : j ≤ c) (hlt : i < c) (w : World) :
    (Instr.sliceAt t (.slice (some ⟨g, 0, none⟩) len c) (some (.int .i64 x)) (some (.int .i64 y)) none).run P w = .ok (.slice (some ⟨g, i * n, none⟩) (j - i) (c - i)) w := by
  subst hx hy
  obtain ⟨i', hi', hz⟩ := Option.map_eq_some_iff.1 T.size
  simp only [Instr.sliceAt, Instr.slice, Sem.run_bind, run_underlying T.ht, Result.andThen_ok, Instr.sliceBounds, Sem.run_pure]
  rw [run_sliceBound (w := w) .i64 j c _ (by omega) (by omega)]
  simp only [Result.andThen_ok, Int.toNat_natCast]
  rw [run_sliceBound (w := w) .i64 i j _ (by omega) (by omega)]
  have hne : ¬ c = i := by omega
  simp [sizeOf, typeInfo, hi', hz, Result.andThen, hne, Go.WideShapes.add_plain]
end
theorem step_copyM {P : Program} {α : Type} {n : Nat} {E : Lay α n} {t e : TypeId} {bytes : Nat} {w : World} {ops : Array Oper} {o : Oper} {a : Act} {K : Act → World → Prop} {Q : Exit → Act → World → Prop} {F : Prop} (hgd : o.guard = none) (T : SliceTy P t e n bytes) (d s : Operand)
    (ho : o.op = .call { callee := .builtin .copy, args := #[d, s], argTypes := #[t, t] })
    {g : Nat} {cur : Array Value} (hb : Blk w g e cur) (off k kc : Nat) (hd : a.eval d = .slice (some ⟨g, off, none⟩) k kc) (A : Addr) (sl sc : Nat) (hs : a.eval s = .slice (some A) sl sc) (ys : List α) (hm : ys.length = Nat.min sl k) (hsrc : ∀ j v, (E.flat ys)[j]? = some v → w.cell? (A.add j) = some v) (hfit : off + ys.length * n ≤ cur.size)
    (h : ∀ w', Blk w' g e (cur.toList.take off ++ E.flat ys ++ cur.toList.drop (off + ys.length * n)).toArray → Kept (· = g) w w' → K (a.put o.dst (goInt ys.length)) w') : if Region.wanted o (yielded ops a.tmps) = true then Oper.wp P o a w K Q else F := by
  have hw : Region.wanted o (yielded ops a.tmps) = true := by simp [Region.wanted, hgd]
  rw [if_pos hw]
  exact wp_copyM T d s ho hb off k kc hd A sl sc hs ys hm hsrc hfit h
theorem step_copyR {w : World} {ops : Array Oper} {o : Oper} {a : Act} {K : Act → World → Prop} {Q : Exit → Act → World → Prop} {F : Prop} (hgd : o.guard = none) (d s : Operand)
    (ho : o.op = .call { callee := .builtin .copy, args := #[d, s], argTypes := #[29, 29] })
    (g : Nat) (cur : Array Value) (hb : Blk w g 32 cur) (off k kc : Nat) (hd : a.eval d = .slice (some ⟨g, off, none⟩) k kc) (b p : Nat) (sl sc : Nat) (hs : a.eval s = .slice (some ⟨b, p, none⟩) sl sc) (ys : List Rn) (hm : ys.length = Nat.min sl k) (hsrc : ∀ j v, (layR.flat ys)[j]? = some v → w.cell? ⟨b, p + j, none⟩ = some v) (hfit : off + ys.length * 2 ≤ cur.size)
    (h : ∀ w', Blk w' g 32 (cur.toList.take off ++ layR.flat ys ++ cur.toList.drop (off + ys.length * 2)).toArray → Kept (· = g) w w' → K (a.put o.dst (goInt ys.length)) w') : if Region.wanted o (yielded ops a.tmps) = true then Oper.wp Try.prog o a w K Q else F :=
  step_copyM (E := layR) hgd sliceR d s ho hb off k kc hd ⟨b, p, none⟩ sl sc hs ys hm (fun j v hv => by rw [Go.WideShapes.add_plain]; exact hsrc j v hv) hfit h
theorem wpList_copyR {w : World} {ops : Array Oper} {rest : List Oper} {o : Oper} {a : Act} {Q : Exit → Act → World → Prop} (hgd : o.guard = none) (d s : Operand)
    (ho : o.op = .call { callee := .builtin .copy, args := #[d, s], argTypes := #[29, 29] })
    (g : Nat) (cur : Array Value) (hb : Blk w g 32 cur) (off k kc : Nat) (hd : a.eval d = .slice (some ⟨g, off, none⟩) k kc) (b p : Nat) (sl sc : Nat) (hs : a.eval s = .slice (some ⟨b, p, none⟩) sl sc) (ys : List Rn) (hm : ys.length = Nat.min sl k) (hsrc : ∀ j v, (layR.flat ys)[j]? = some v → w.cell? ⟨b, p + j, none⟩ = some v) (hfit : off + ys.length * 2 ≤ cur.size)
    (h : ∀ w', Blk w' g 32 (cur.toList.take off ++ layR.flat ys ++ cur.toList.drop (off + ys.length * 2)).toArray → Kept (· = g) w w' → wpList Try.prog ops Q rest (a.put o.dst (goInt ys.length)) w') : wpList Try.prog ops Q (o :: rest) a w :=
  wpList_copyM (E := layR) hgd sliceR d s ho hb off k kc hd ⟨b, p, none⟩ sl sc hs ys hm (fun j v hv => by rw [Go.WideShapes.add_plain]; exact hsrc j v hv) hfit h
/-- What Insert and Replace answer: the row, what was written to. -/
def RowOf (base n : Nat) (v : Value) (l : List Rn) (w : World) (r : Ending) (w' : World) : Prop :=
  ∃ A' c', r = .returned (.slice A' n c') ∧ Own layR 32 w' base (.slice A' n c') l ∧ Kept (fun k => v.ownBlock = some k) w w' ∧ ((Value.slice A' n c').ownBlock = v.ownBlock ∨ ∀ k, (Value.slice A' n c').ownBlock = some k → w.heap.size ≤ k)
set_option maxHeartbeats 2000000 in
set_option maxRecDepth 20000 in
theorem insert_end (base : Nat) (A : Option Addr) (n c : Nat) (l : List Rn) (hn : n = l.length) (hl : n ≤ 8589934592) (r : Rn) (q : Nat) (w : World) (hq : Blk w q 32 #[.int .i64 r.1, .int .i64 r.2]) (hb : base ≤ w.heap.size) (h : Own layR 32 w base (.slice A n c) l) :
    Calls Try.prog 89 #[.slice A n c, .int .i64 n, .slice (some ⟨q, 0, none⟩) 1 1] w (RowOf base (n + 1) (.slice A n c) (l ++ [r]) w) := by
  have hrs := h.rs.1
  have HRS := Lib.hid (RS.ofBlk (E := layR) (c := 1) (xs := [r]) hq (by rw [layR.flat_one]; rfl) rfl (by unfold maxLen; omega))
  have h1 : ∃ A', (∀ w, (Instr.sliceAt 29 (.slice A n c) (some (.int .i64 n)) none none).run Try.prog w = .ok (.slice A' 0 (c - n)) w) := by
    obtain ⟨A', e, _⟩ := hrs.run_behind sliceR n (by omega)
    rw [← hn, Nat.sub_self] at e
    exact ⟨A', e⟩
  obtain ⟨A', e1⟩ := h1
  have H := Lib.hid h; have HN := Lib.hid hn; have HB := Lib.hid hb
  clear hrs hq hb h hn
  go_enter Try.func89, Try.ntmps89
  go_wp2_with (at_builtin; refine wpList_appE rfl sliceR (.tmp 23) (.tmp 24) rfl base _ l rfl H.out (some ⟨q, 0, none⟩) 1 1 [r] rfl rfl HRS.out (by have := HN.out; simp; omega) (by unfold maxLen; have := HN.out; simp; omega) HB.out ?_; intro A2 c2 w2 ho kk hgr)
  have e : l.length + [r].length = n + 1 := by rw [HN.out]; rfl
  rw [e] at ho hgr
  go_ret
  exact ⟨A2, c2, by first | rfl | (show Ending.returned (Value.slice A2 (l.length + [r].length) c2) = _; rw [e]), ho.out, (Kept.refl _ _).grown hgr.out.1 (fun k hk _ => hk), by
    rcases hgr.out.2 with h | h
    · exact .inl h
    · exact .inr (fun k hk => by rw [h] at hk; injection hk with hk; omega)⟩
set_option maxHeartbeats 800000 in
set_option maxRecDepth 20000 in
/-- There is room: in place. -/
theorem insert_room (base g c : Nat) (l : List Rn) (i : Nat) (hi : i < l.length) (hl : l.length ≤ 8589934592) (hroom : l.length + 1 ≤ c) (r : Rn) (q : Nat) (w : World) (hq : Blk w q 32 #[.int .i64 r.1, .int .i64 r.2]) (hqg : q ≠ g) (h : Own layR 32 w base (.slice (some ⟨g, 0, none⟩) l.length c) l) :
    Calls Try.prog 89 #[.slice (some ⟨g, 0, none⟩) l.length c, .int .i64 i, .slice (some ⟨q, 0, none⟩) 1 1] w (RowOf base (l.length + 1) (.slice (some ⟨g, 0, none⟩) l.length c) (l.take i ++ r :: l.drop i) w) := by
  obtain ⟨g', cap', cur, e1, hbg, hbk, hle, hmax, hcs, htk⟩ := h.block (by omega)
  injection e1 with e1 e2 e3
  injection e1 with e1
  injection e1 with e1 _ _
  subst e1 e3
  obtain ⟨n, hn⟩ : ∃ n, l.length = n := ⟨_, rfl⟩
  have hcl : (l.drop i).length = n - i := by rw [List.length_drop, hn]
  have hLl : cur.toList.length = c * 2 := by rw [Array.length_toList]; exact hcs
  have key := ins_flat (E := layR) (L := cur.toList) (xs := l) (i := i) r htk (by omega) (by rw [hLl]; exact Nat.mul_le_mul_right 2 (by omega)) _ _ rfl rfl
  have hsrc : ∀ w', Fine w w' → ∀ j v, (layR.flat (l.drop i))[j]? = some v → w'.cell? ⟨g, i * 2 + j, none⟩ = some v := by
    intro w' f j v hv
    have h1 := cell_drop (E := layR) htk i hv
    have h2 : w'.cell? ⟨g, i * 2 + j, none⟩ = cur[i * 2 + j]? := (hbk.fine f).cell _
    rw [h2, ← Array.getElem?_toList]
    exact h1
  rw [hn] at hi hl hroom h
  rw [hn]
  obtain ⟨k0, hk0⟩ : ∃ x, n - i = x := ⟨_, rfl⟩
  obtain ⟨k1, hk1⟩ : ∃ x, n + 1 - i = x := ⟨_, rfl⟩
  obtain ⟨c0, hc0⟩ : ∃ x, c - i = x := ⟨_, rfl⟩
  obtain ⟨c1, hc1⟩ : ∃ x, c - (i + 1) = x := ⟨_, rfl⟩
  obtain ⟨p0, hp0⟩ : ∃ x, i * 2 = x := ⟨_, rfl⟩
  obtain ⟨p1, hp1⟩ : ∃ x, (i + 1) * 2 = x := ⟨_, rfl⟩
  have hov : ∀ lb cb (w' : World), Fine w w' → (callFunc 90 #[.slice (some ⟨q, 0, none⟩) 1 1, .slice (some ⟨g, p1, none⟩) lb cb]).run Try.prog w' = .ok (.value (.bool false)) w' := fun lb cb w' f => by
    have hq' := hq.fine f
    have hbk' := hbk.fine f
    rw [run_callFunc_extern Try.func90 (by kernel_rfl) (by kernel_rfl) (by kernel_rfl) (e := Extern.SlicesOverlaps.overlaps #[29, 29] #[4]) (by kernel_rfl),
      Lib.run_overlaps_apart w' 29 4 32 Try.underlying29 2 (by intro w; kernel_rfl) ⟨q, 0, none⟩ ⟨g, p1, none⟩ 1 1 lb cb hqg 32 32 2 cur.size (by unfold World.shape?; rw [show w'.heap[q]? = _ from hq']; rfl) (by unfold World.shape?; rw [show w'.heap[g]? = _ from hbk']) (by rw [hcs]; omega) (hq'.frozen 0) (hq'.frozen 2)]
    rfl
  have q1 := cutB sliceR g n c i (i : Int) rfl (by omega) (by omega) (by omega)
  rw [hp0, hk0, hc0] at q1
  have q2 := cutF sliceR g n c (n + 1) ((n : Int) + 1) (by simp) hroom
  have q3 := cutB sliceR g (n + 1) c (i + 1) ((i : Int) + 1) (by simp) (by omega) (by omega) (by omega)
  rw [hp1, show n + 1 - (i + 1) = k0 by omega, hc1] at q3
  have q4 := cutB sliceR g (n + 1) c i (i : Int) rfl (by omega) (by omega) (by omega)
  rw [hp0, hk1, hc0] at q4
  have w1 : IntKind.i64.wrap ((n : Int) + 1) = (n : Int) + 1 := IntWalk.i64_in _ (by omega)
  have w2 : IntKind.i64.wrap ((i : Int) + 1) = (i : Int) + 1 := IntWalk.i64_in _ (by omega)
  have hne : ((i : Int) == (n : Int)) = false := by simp; omega
  have hng : ¬ (n : Int) + 1 > (c : Int) := by omega
  have hmin : (l.drop i).length = Nat.min k1 k0 := by rw [hcl]; show n - i = min k1 k0; omega
  have hmin2 : [r].length = Nat.min 1 k1 := by show 1 = min 1 k1; omega
  have hfit : p1 + (l.drop i).length * 2 ≤ cur.size := by rw [hcl, hcs]; omega
  rw [hp0] at hsrc
  have HOV := Lib.hid hov; have HSRC := Lib.hid hsrc; have HMIN := Lib.hid hmin; have HMIN2 := Lib.hid hmin2; have HFIT := Lib.hid hfit; have HBK := Lib.hid hbk; have HKEY := Lib.hid key; have HQ := Lib.hid hq; have HP := Lib.hid (And.intro hp0 hp1); have HCS := Lib.hid hcs; have HMAX := Lib.hid hmax; have HBG := Lib.hid hbg; have HCL := Lib.hid hcl; have HN := Lib.hid hn; have HQG := Lib.hid hqg
  have o1 := hov k0 c1 w (Fine.refl w)
  clear hov hsrc hmin hmin2 hfit hbk key hq hp0 hp1 hcs hmax hbg hcl hn hqg h e2 htk hLl hk0 hk1 hc0 hc1 hle hl
  go_enter Try.func89, Try.ntmps89
  go_upto_region 15 with (fail)
  clear q1 q2 o1 HOV
  go_still_tail 8, (by kernel_rfl)
  change wpList _ _ _ _ _ w.drew
  refine wpList_copyR rfl (.tmp 73) (.tmp 76) rfl g cur HBK.out.drew p1 k0 c1 rfl g p0 k1 c0 rfl (l.drop i) HMIN.out (HSRC.out _ (Fine.refl w).drew) HFIT.out ?_
  intro wa hb1 kk1
  generalize goInt _ = gi
  obtain ⟨L1, hL1⟩ : ∃ L, cur.toList.take p1 ++ layR.flat (l.drop i) ++ cur.toList.drop (p1 + (l.drop i).length * 2) = L := ⟨_, rfl⟩
  rw [hL1] at hb1
  obtain ⟨cur1, hc1⟩ : ∃ a : Array Value, L1.toArray = a := ⟨_, rfl⟩
  rw [hc1] at hb1
  have hsz : cur1.size = c * 2 := by
    rw [← hc1, ← hL1]
    simp only [List.size_toArray, List.length_append, List.length_take, List.length_drop, layR.flat_length, Array.length_toList]
    have := HFIT.out
    have := HCS.out
    rw [List.length_drop] at *
    omega
  have HC1 := Lib.hid hc1; have HL1 := Lib.hid hL1; have HSZ := Lib.hid hsz
  have HB1 := Lib.hid hb1
  have HQA := Lib.hid (Blk.kept (w := w.drew) HQ.out.drew kk1 HQG.out)
  have HS2 : Hid (∀ j v, (layR.flat [r])[j]? = some v → wa.cell? (Addr.add ⟨q, 0, none⟩ j) = some v) := Lib.hid (fun j v hv => by
    rw [layR.flat_one] at hv
    rw [Go.WideShapes.add_plain, Nat.zero_add, HQA.out.cell j, ← Array.getElem?_toList]
    exact hv)
  have HF2 : Hid (p0 + [r].length * 2 ≤ cur1.size) := Lib.hid (by rw [HSZ.out]; have := HP.out; simp; omega)
  clear hb1 hc1 hL1 hsz
  obtain ⟨wb, hrun, hb2, kk2⟩ := run_copyM (E := layR) sliceR HB1.out p0 k1 c0 ⟨q, 0, none⟩ 1 1 [r] HMIN2.out HS2.out HF2.out 3
  have HB2 := Lib.hid hb2; clear hb2
  go_wp2_with fail
  have hkey := HKEY.out
  rw [HP.out.1, HP.out.2, HL1.out] at hkey
  have hb2 := HB2.out
  rw [← HC1.out, List.toList_toArray] at hb2
  have hn1 : (l.take i ++ r :: l.drop i).length = n + 1 := by rw [List.length_append, List.length_cons, List.length_take, HCL.out, HN.out]; omega
  have ho : Own layR 32 wb base (.slice (some ⟨g, 0, none⟩) (l.take i ++ r :: l.drop i).length c) (l.take i ++ r :: l.drop i) := Own.make HBG.out hb2 (by rw [hn1]; omega) HMAX.out (by rw [List.size_toArray]; exact hkey.1.trans ((Array.length_toList).trans HCS.out)) (by rw [List.toList_toArray, hn1, ← HN.out]; exact hkey.2)
  rw [hn1] at ho
  have hk : Kept (fun k => (Value.slice (some ⟨g, 0, none⟩) n c).ownBlock = some k) w wb := (((Kept.refl _ w).drew).trans (kk1.mono (fun x _ e => by rw [e]; rfl))).trans (kk2.mono (fun x _ e => by rw [e]; rfl))
  clear hkey hb2 hn1 hrun
  go_ret
  exact ⟨some ⟨g, 0, none⟩, c, rfl, ho, hk, .inl rfl⟩
end Go.Proofs.Ytnigfdldfmiaiaa
