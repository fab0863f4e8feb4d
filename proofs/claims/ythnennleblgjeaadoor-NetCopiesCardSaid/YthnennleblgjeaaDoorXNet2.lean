/- Nets: Copy, Take. -/
import Derived.Test.YthnennleblgjeaaDoorXNet1
import Derived.Deep.RegionHeld3
import Derived.IntWalk
namespace Go.Proofs.YthnennleblgjeaaDoor
set_option linter.unusedVariables false
set_option linter.unusedSimpArgs false
open Go.ChangeShapes Go.WideShapes Go.ChangeAt Go.RowKit
set_option linter.unusedVariables false
set_option linter.unusedSimpArgs false
theorem run_front3 {P : Program} {t e : TypeId} {n bytes : Nat} (T : SliceTy P t e n bytes) (A : Option Addr) (len c k : Nat) (hk : k ≤ len) (hc : len ≤ c) (hA : A = none → c = 0) (w : World) :
    (Instr.sliceAt t (.slice A len c) none (some (.int .i64 k)) (some (.int .i64 k))).run P w = .ok (.slice A k k) w := by
  obtain ⟨i, hi, hz⟩ := Option.map_eq_some_iff.1 T.size
  simp only [Instr.sliceAt, Instr.slice, Sem.run_bind, run_underlying T.ht, Result.andThen_ok, Instr.sliceBounds, Sem.run_pure]
  rw [run_sliceBound (w := w) .i64 k c _ (by omega) (by omega)]
  simp only [Result.andThen_ok, Int.toNat_natCast]
  rw [run_sliceBound (w := w) .i64 k k _ (by omega) (by omega)]
  simp [sizeOf, typeInfo, hi, hz, Result.andThen]
  intro _
  cases A with
  | none => rfl
  | some ad => simp [Addr.add]
set_option maxHeartbeats 2000000 in
set_option maxRecDepth 50000 in
theorem copy_any (base g : Nat) (ps : List Pk) (p : Pk) (i : Nat) (hp : ps[i]? = some p) (hl : ps.length ≤ 1000) (hx : p.xs.length ≤ 100000) (pl : Nat) (sd : Int) (hpl : p.xs.length = pl) (hsd : p.side = sd) (w : World) (h : NetR w base g ps) :
    Calls Tryd.prog 29 #[.pointer (some ⟨g, 0, none⟩), .int .i64 i] w fun r w' => ∃ A' c', r = .returned (.tuple #[.agg #[.int .i64 sd, .slice A' pl c'], .int .i64 0]) ∧ OwnB w' w.heap.size (.slice A' pl c') p.xs ∧ Fine w w' := by
  have H := Lib.hid h
  have HPL := Lib.hid hpl; have HSD := Lib.hid hsd; clear hpl hsd
  have hi := (List.getElem?_eq_some_iff.1 hp).1
  obtain ⟨A, c, h1, h2, h3, h4, h5⟩ := h
  have H2 := Lib.hid h2; have H3 := Lib.hid h3; have H5 := Lib.hid (h5 p (List.mem_of_getElem? hp))
  have HP := Lib.hid hp
  clear h1 h2 h3 h4 h5 hp
  obtain ⟨nn, hnn⟩ : ∃ n, ps.length = n := ⟨_, rfl⟩
  have HI : Hid (i < ps.length ∧ ps.length ≤ 1000) := Lib.hid ⟨hi, hl⟩
  rw [hnn] at hi hl H2
  have HX := Lib.hid hx; clear hx hnn
  go_enter Tryd.func29, Tryd.ntmps29
  go_wp2_with fail
  have f1 : Fine w (w.alloc (.cells #[.int .i64 0, .slice none 0 0] 48)) := (Fine.refl w).alloc _
  have b1 : Blk (w.alloc (.cells #[.int .i64 0, .slice none 0 0] 48)) w.heap.size 48 #[.int .i64 0, .slice none 0 0] := Blk.new w 48 _
  generalize (w.alloc (.cells #[.int .i64 0, .slice none 0 0] 48)) = w1 at f1 b1 ⊢
  obtain ⟨x1, hx1⟩ : ∃ x1, w.heap.size = x1 := ⟨_, rfl⟩
  have hxx : w.heap.size ≤ x1 := by omega
  rw [hx1] at b1 ⊢
  clear hx1
  refine (wrong_any base g ps i HI.out.1 HI.out.2 w1 (H.out.fine f1)).mono ?_
  rintro x w2 ⟨rfl, f⟩
  have b2 := b1.fine f; have f2 := f1.trans f
  clear b1 f1 f
  have c0 : w2.cell? ⟨g, 0, none⟩ = some (.slice A nn c) := (H2.out.fine f2).cell 0
  obtain ⟨b, o, rfl, hb, hc⟩ := (H3.out.fine f2).at_ HP.out
  have d0 := hc 0 (.int .i64 p.side) rfl
  have d1 := hc 1 (.slice p.A p.xs.length p.c) rfl
  simp only [← Nat.add_assoc, Nat.add_zero] at d0 d1
  rw [HPL.out] at d1
  rw [HSD.out] at d0
  have B2 := Lib.hid b2; have HXX := Lib.hid hxx
  clear hc b2 hxx
  go_wp2_with fail
  refine (own_any sd p.A pl p.c p.xs HPL.out.symm HX.out w2 ((H5.out.fine f2).bs.1)).mono ?_
  rintro x w3 ⟨A', c', rfl, o3, f⟩
  have f3 := f2.trans f
  have b3 := B2.out.fine f
  have o3 := o3.lower f2.size
  have e0 : w3.cell? ⟨x1, 0, none⟩ = some (.int .i64 0) := b3.cell 0
  have e1 : w3.cell? ⟨x1, 1, none⟩ = some (.slice none 0 0) := b3.cell 1
  have z0 : w3.frozen? ⟨x1, 0, none⟩ = false := b3.frozen 0
  have z1 : w3.frozen? ⟨x1, 1, none⟩ = false := b3.frozen 1
  have HO := Lib.hid ((o3.farT (by decide) b3 ((Kept.refl _ _).setC (i := 0) (u := .int .i64 sd))).farT (by decide) (b3.set_ 0 (.int .i64 sd)) ((Kept.refl _ _).setC (i := 1) (u := .slice A' pl c')))
  have hxx := HXX.out
  clear f b3 o3 c0 d0 d1 B2
  go_wp2_with fail
  exact bodyPost_ret (v := .tuple #[.agg #[.int .i64 sd, .slice A' pl c'], .int .i64 0]) (by simp [results, Tryd.results29, go_sem, e0, e1]) rfl ⟨A', c', rfl, HO.out, by repeat (first | with_reducible exact f3 | with_reducible refine Fine.setCell ?_ hxx _)⟩
theorem RS.front3 {w : World} {A : Option Addr} {c : Nat} {ps : List Pk} (h : RS layK w A c ps) (k : Nat) (hk : k ≤ ps.length) : RS layK w A k (ps.take k) := by
  have h1 := h.front k hk
  have := h.le
  have := h.2.1
  exact ⟨by simp; omega, by unfold maxLen at *; omega, fun e => by have := h.2.2.1 e; omega, h1.2.2.2⟩
/-- append of nothing, onto a slice that is full. -/
theorem step_appR0 {ops : Array Oper} {o : Oper} {a : Act} {w : World} {K : Act → World → Prop} {Q : Exit → Act → World → Prop} {E : Prop} (hgd : o.guard = none) (s x : Operand)
    (ho : o.op = .call { callee := .builtin .append, args := #[s, x], argTypes := #[54, 54] })
    (b off n : Nat) (hs : a.eval s = .slice (some ⟨b, off, none⟩) n n) (A9 : Option Addr) (c : Nat) (hx : a.eval x = .slice A9 0 c)
    (h : K (a.put o.dst (.slice (some ⟨b, off, none⟩) n n)) w) : if Region.wanted o (yielded ops a.tmps) = true then Oper.wp Tryd.prog o a w K Q else E := by
  obtain ⟨i, z, hi, hz, hsize, hby, hzs⟩ := sliceK.hi
  cases A9 with
  | some ad =>
    refine step_append_room hgd s x 54 ho 48 i 2 Tryd.underlying54 hi hsize b off n n hs ad 0 c [] hx rfl (fun j u h => by cases h) (fun u h => by cases h) (Nat.le_refl _) (fun j hj => absurd hj (by simp)) ?_
    exact h
  | none =>
    have hw : Region.wanted o (yielded ops a.tmps) = true := by simp [Region.wanted, hgd]
    rw [if_pos hw]
    unfold Oper.wp
    simp [execOp, ho, resolve, invoke, builtin, hs, hx, Builtin.append_, run_underlying Tryd.underlying54, sizeOf, typeInfo, hi, Builtin.lenOf, Builtin.firstCells, storeCells, Result.andThen]
    exact h
/-- append of something, onto a slice that is full: a row of its own. -/
theorem step_appRG {ops : Array Oper} {o : Oper} {a : Act} {w : World} {K : Act → World → Prop} {Q : Exit → Act → World → Prop} {E : Prop} (hgd : o.guard = none) (s x : Operand)
    (ho : o.op = .call { callee := .builtin .append, args := #[s, x], argTypes := #[54, 54] })
    (A : Option Addr) (n : Nat) (xs : List Pk) (hs : a.eval s = .slice A n n) (hn : n = xs.length) (hxs : RS layK w A n xs) (A9 : Option Addr) (m c : Nat) (ys : List Pk) (hx : a.eval x = .slice A9 m c) (hm : m = ys.length) (hys : RS layK w A9 c ys) (hp : 0 < m) (hl : n + m ≤ 100000)
    (h : ∀ A' c' w', Own layK 48 w' w.heap.size (.slice A' (n + m) c') (xs ++ ys) → Fine w w' → K (a.put o.dst (.slice A' (n + m) c')) w') : if Region.wanted o (yielded ops a.tmps) = true then Oper.wp Tryd.prog o a w K Q else E := by
  subst hm hn
  obtain ⟨i, z, hi, hz, hsize, hby, hzs⟩ := sliceK.hi
  obtain ⟨b, off, rfl, _, hc⟩ := hys.2.2.2 hp
  refine step_append_grows hgd s x 54 ho 48 i z 2 32 Tryd.underlying54 hi hz hsize hby hzs (by decide) A xs.length xs.length (layK.flat xs) hs (fun e => by have := hxs.2.2.1 e; omega) (layK.flat_length xs) (fun bb e => ?_) ⟨b, off, none⟩ ys.length c (layK.flat ys) hx (layK.flat_length ys) (fun j u hu => by rw [Go.WideShapes.add_plain]; exact hc j u hu) (layK.flat_oneCell ys) (by omega) (by unfold maxLen; omega) (by omega) (fun v' w' hown hgr => ?_)
  · intro j u hu
    have hpx : 0 < xs.length := by
      have := (List.getElem?_eq_some_iff.1 hu).1
      rw [layK.flat_length] at this
      omega
    obtain ⟨b2, off2, e2, _, hc2⟩ := hxs.2.2.2 hpx
    obtain rfl := Option.some.inj (e2.symm.trans e)
    rw [Go.WideShapes.add_plain]
    exact hc2 j u hu
  · have ho : Own layK 48 w' w.heap.size v' (xs ++ ys) := by
      unfold Own
      rw [layK.flat_append, List.length_append]
      exact hown
    obtain ⟨A', c', e, _, _⟩ := ho.form
    rw [List.length_append] at e
    subst e
    exact h A' c' w' ho ((Fine.refl w).grown hgr (fun k hk => by cases hk))
theorem OwnB.keptS {S : Nat → Prop} {w w' : World} {base : Nat} {v : Value} {xs : List Int} (h : OwnB w base v xs) (hk : Kept S w w') (hn : ∀ k, v.ownBlock = some k → ¬ S k) : OwnB w' base v xs := by
  refine ⟨h.1, h.2.1, ?_⟩
  rcases h.2.2 with hn' | ⟨g, cap, cur, rfl, hb, hgg, rest⟩
  · exact .inl hn'
  · exact .inr ⟨g, cap, cur, rfl, hb, (hk.block g (Array.getElem?_eq_some_iff.1 hgg).1 (hn g rfl)).trans hgg, rest⟩
theorem OwnB.ne81 {w : World} {base g : Nat} {v : Value} {xs : List Int} {cs : Array Value} {t : TypeId} (h : OwnB w base v xs) (hg : Blk w g t cs) (ht : t ≠ 5) : ∀ k, v.ownBlock = some k → ¬ k = g := by
  intro k hk e
  subst e
  rcases h.2.2 with ⟨rfl, _⟩ | ⟨q, cap, cur, rfl, _, hgg, _⟩
  · cases hk
  · injection hk with hk
    have hk : q = k := hk
    subst hk
    have h2 : Blk w q 5 cur := hgg
    exact hg.ne_ h2 ht rfl
theorem NetR.cut {w w' : World} {base g : Nat} {ps : List Pk} {A : Option Addr} {c k : Nat} (h1 : base ≤ g) (h2 : Blk w g 81 #[.slice A ps.length c]) (h3 : RS layK w A c ps) (h4 : ∀ b off, A = some ⟨b, off, none⟩ → base ≤ b ∧ b ≠ g) (h5 : Pks w base ps) (hk : k ≤ ps.length) (hK : Kept (fun x => x = g) w w') (hb : Blk w' g 81 #[.slice A k k]) : NetR w' base g (ps.take k) := by
  have e : (ps.take k).length = k := by rw [List.length_take]; omega
  refine ⟨A, k, h1, by rw [e]; exact hb, (h3.front3 k hk).kept hK (fun b off ea => (h4 b off ea).2), h4, fun p hp => ?_⟩
  have hp := List.mem_of_mem_take hp
  exact (h5 p hp).keptS hK ((h5 p hp).ne81 h2 (by decide))
set_option maxHeartbeats 4000000 in
set_option maxRecDepth 50000 in
/-- Take of the last one. -/
theorem take_last (base g : Nat) (ps : List Pk) (p : Pk) (i : Nat) (hp : ps[i]? = some p) (hlast : i + 1 = ps.length) (hl : ps.length ≤ 1000) (hx : p.xs.length ≤ 100000) (pl : Nat) (sd : Int) (hpl : p.xs.length = pl) (hsd : p.side = sd) (w : World) (h : NetR w base g ps) :
    Calls Tryd.prog 28 #[.pointer (some ⟨g, 0, none⟩), .int .i64 i] w fun r w' => ∃ A' c', r = .returned (.tuple #[.agg #[.int .i64 sd, .slice A' pl c'], .int .i64 0]) ∧ OwnB w' w.heap.size (.slice A' pl c') p.xs ∧ NetR w' base g (ps.take i) ∧ Kept (· = g) w w' := by
  have HC := Lib.hid (fun w' (f : Fine w w') => copy_any base g ps p i hp hl hx pl sd hpl hsd w' (h.fine f))
  have H := Lib.hid h
  obtain ⟨A, c, h1, h2, h3, h4, h5⟩ := h
  have H2 := Lib.hid h2; have H3 := Lib.hid h3; have H4 := Lib.hid h4; have H5 := Lib.hid h5; have H1 := Lib.hid h1
  have hglt := h2.lt
  obtain ⟨nn, hnn⟩ : ∃ n, ps.length = n := ⟨_, rfl⟩
  have HNN := Lib.hid hnn
  have hle := h3.le
  rw [hnn] at hlast hl hle H2
  have h63 : nn ≤ c := hle
  have eF := fun w' => run_front3 sliceK A nn c i (by omega) h63 h3.2.2.1 w'
  have hA0 := h3.2.2.1
  clear h1 h2 h3 h4 h5 hp hpl hsd hx hnn hle hA0
  subst hlast
  have eB : ∃ A', (∀ w', (Instr.sliceAt 54 (.slice A (i + 1) c) (some (.int .i64 ((i : Int) + 1))) none none).run Tryd.prog w' = .ok (.slice A' 0 (c - (i + 1))) w') ∧ RS layK w A' (c - (i + 1)) [] := by
    obtain ⟨A', e1, e2, _⟩ := H3.out.run_behind sliceK (i + 1) (by rw [HNN.out]; exact Nat.le_refl _)
    rw [HNN.out, Nat.sub_self, Int.natCast_add] at e1
    refine ⟨A', e1, ?_⟩
    have h := e2 w H3.out
    rw [List.drop_eq_nil_of_le (by rw [HNN.out]; exact Nat.le_refl _)] at h
    exact h
  obtain ⟨A9, eB, hB9⟩ := eB
  have HB9 := Lib.hid hB9; clear hB9
  go_enter Tryd.func28, Tryd.ntmps28
  go_wp2_with fail
  have f1 : Fine w (w.alloc (.cells #[.int .i64 0, .slice none 0 0] 48)) := (Fine.refl w).alloc _
  have b1 : Blk (w.alloc (.cells #[.int .i64 0, .slice none 0 0] 48)) w.heap.size 48 #[.int .i64 0, .slice none 0 0] := Blk.new w 48 _
  generalize (w.alloc (.cells #[.int .i64 0, .slice none 0 0] 48)) = w1 at f1 b1 ⊢
  obtain ⟨x1, hx1⟩ : ∃ x1, w.heap.size = x1 := ⟨_, rfl⟩
  have hxx : w.heap.size ≤ x1 := by omega
  rw [hx1] at b1 ⊢
  clear hx1
  refine (HC.out w1 f1).mono ?_
  rintro x w2 ⟨A', c', rfl, o2, f⟩
  have b2 := b1.fine f; have f2 := f1.trans f
  have o2 := o2.lower f1.size
  clear b1 f1 f
  go_upto_region 3 with (fail)
  have hne : 0 < ps.length := by rw [HNN.out]; omega
  obtain ⟨bA, oA, eA, _, _⟩ := H3.out.2.2.2 hne
  clear hne
  subst eA
  have f3 := f2.alloc (.cells #[.int .i64 sd, .slice A' pl c'] 48)
  have b3 := b2.alloc (.cells #[.int .i64 sd, .slice A' pl c'] 48)
  have b4 : Blk (w2.alloc (.cells #[.int .i64 sd, .slice A' pl c'] 48)) w2.heap.size 48 #[.int .i64 sd, .slice A' pl c'] := Blk.new w2 48 _
  have o3 := o2.alloc (.cells #[.int .i64 sd, .slice A' pl c'] 48)
  have hsz := f2.size
  generalize (w2.alloc (.cells #[.int .i64 sd, .slice A' pl c'] 48)) = w3 at f3 b3 b4 o3 ⊢
  obtain ⟨x2, hx2⟩ : ∃ x, w2.heap.size = x := ⟨_, rfl⟩
  rw [hx2] at b4 hsz ⊢
  have c0 : w3.cell? ⟨g, 0, none⟩ = some (.slice (some ⟨bA, oA, none⟩) (i + 1) c) := (H2.out.fine f3).cell 0
  have z0 : w3.frozen? ⟨g, 0, none⟩ = false := (H2.out.fine f3).frozen 0
  have i1 : IntKind.i64.wrap ((i : Int) + 1) = (i : Int) + 1 := IntWalk.i64_in _ (by omega)
  have i2 : (0 : Int) ≤ (i : Int) + 1 := by omega
  go_region_law (refine step_appR0 rfl (.tmp 23) (.tmp 30) rfl bA oA i rfl A9 _ rfl ?_)
  all_goals
    have hgx : g ≠ x1 := (H2.out.fine f3).ne_ b3 (by decide)
    have hgx2 : g ≠ x2 := (H2.out.fine f3).ne_ b4 (by decide)
    have b5 : Blk (w3.setCell ⟨g, 0, none⟩ (.slice (some ⟨bA, oA, none⟩) i i)).drew x1 48 #[.int .i64 0, .slice none 0 0] := b3.far hgx.symm _
    have b6 : Blk (w3.setCell ⟨g, 0, none⟩ (.slice (some ⟨bA, oA, none⟩) i i)).drew x2 48 #[.int .i64 sd, .slice A' pl c'] := b4.far hgx2.symm _
    have b7 : Blk (w3.setCell ⟨g, 0, none⟩ (.slice (some ⟨bA, oA, none⟩) i i)).drew g 81 #[.slice (some ⟨bA, oA, none⟩) i i] := (H2.out.fine f3).set_ 0 _
    have k3 : Kept (fun x => x = g) w (w3.setCell ⟨g, 0, none⟩ (.slice (some ⟨bA, oA, none⟩) i i)).drew := ((Kept.of_fine (S := fun x => x = g) f3).setIn (p := ⟨g, 0, none⟩) rfl _).drew
    have o4 : OwnB (w3.setCell ⟨g, 0, none⟩ (.slice (some ⟨bA, oA, none⟩) i i)).drew w.heap.size (.slice A' pl c') p.xs := o3.farT (by decide) (H2.out.fine f3) ((Kept.refl _ _).setC.drew)
    generalize (w3.setCell ⟨g, 0, none⟩ (.slice (some ⟨bA, oA, none⟩) i i)).drew = w4 at b5 b6 b7 k3 o4 ⊢
    have e0 : w4.cell? ⟨x1, 0, none⟩ = some (.int .i64 0) := b5.cell 0
    have e1 : w4.cell? ⟨x1, 1, none⟩ = some (.slice none 0 0) := b5.cell 1
    have y0 : w4.frozen? ⟨x1, 0, none⟩ = false := b5.frozen 0
    have y1 : w4.frozen? ⟨x1, 1, none⟩ = false := b5.frozen 1
    have d0 : w4.cell? ⟨x2, 0, none⟩ = some (.int .i64 sd) := b6.cell 0
    have d1 : w4.cell? ⟨x2, 1, none⟩ = some (.slice A' pl c') := b6.cell 1
    have hx1 : x1 < w.heap.size → x1 = g := fun h => absurd h (by omega)
    have HO := Lib.hid ((o4.farT (by decide) b5 ((Kept.refl _ _).setC (i := 0) (u := .int .i64 sd))).farT (by decide) (b5.set_ 0 (.int .i64 sd)) ((Kept.refl _ _).setC (i := 1) (u := .slice A' pl c')))
    have HK := Lib.hid ((k3.setCell (p := ⟨x1, 0, none⟩) hx1 (.int .i64 sd)).setCell (p := ⟨x1, 1, none⟩) hx1 (.slice A' pl c'))
    have HG := Lib.hid ((b7.far (p := ⟨x1, 0, none⟩) hgx (.int .i64 sd)).far (p := ⟨x1, 1, none⟩) hgx (.slice A' pl c'))
    clear b3 b4 o3 f3 b5 b6 b7 k3 o4 c0 z0 eB eF i1 i2 hx1 f2 b2 o2 HB9
    go_wp2_with fail
    exact bodyPost_ret (v := .tuple #[.agg #[.int .i64 sd, .slice A' pl c'], .int .i64 0]) (by simp [results, Tryd.results28, go_sem, e0, e1]) rfl ⟨A', c', rfl, HO.out, NetR.cut H1.out (by rw [HNN.out]; exact H2.out) H3.out H4.out H5.out (by rw [HNN.out]; omega) HK.out HG.out, HK.out⟩
set_option maxHeartbeats 4000000 in
set_option maxRecDepth 50000 in
/-- Take of one behind which there are others. -/
theorem take_mid (base g : Nat) (ps : List Pk) (p : Pk) (i : Nat) (hp : ps[i]? = some p) (hmid : i + 1 < ps.length) (hl : ps.length ≤ 1000) (hx : p.xs.length ≤ 100000) (pl : Nat) (sd : Int) (hpl : p.xs.length = pl) (hsd : p.side = sd) (w : World) (h : NetR w base g ps) :
    Calls Tryd.prog 28 #[.pointer (some ⟨g, 0, none⟩), .int .i64 i] w fun r w' => ∃ A' c', r = .returned (.tuple #[.agg #[.int .i64 sd, .slice A' pl c'], .int .i64 0]) ∧ OwnB w' w.heap.size (.slice A' pl c') p.xs ∧ NetR w' base g (ps.take i ++ ps.drop (i + 1)) ∧ Kept (· = g) w w' := by
  have HC := Lib.hid (fun w' (f : Fine w w') => copy_any base g ps p i hp hl hx pl sd hpl hsd w' (h.fine f))
  have H := Lib.hid h
  obtain ⟨A, c, h1, h2, h3, h4, h5⟩ := h
  have H2 := Lib.hid h2; have H3 := Lib.hid h3; have H4 := Lib.hid h4; have H5 := Lib.hid h5; have H1 := Lib.hid h1
  have hglt := h2.lt
  obtain ⟨nn, hnn⟩ : ∃ n, ps.length = n := ⟨_, rfl⟩
  have HNN := Lib.hid hnn
  have hle := h3.le
  rw [hnn] at hmid hl hle H2
  have h63 : nn ≤ c := hle
  have eF := fun w' => run_front3 sliceK A nn c i (by omega) h63 h3.2.2.1 w'
  clear h1 h2 h3 h4 h5 hp hpl hsd hx hnn hle
  have eB : ∃ A', (∀ w', (Instr.sliceAt 54 (.slice A nn c) (some (.int .i64 ((i : Int) + 1))) none none).run Tryd.prog w' = .ok (.slice A' (nn - (i + 1)) (c - (i + 1))) w') ∧ ∀ w', RS layK w' A c ps → RS layK w' A' (c - (i + 1)) (ps.drop (i + 1)) := by
    obtain ⟨A', e1, e2, _⟩ := H3.out.run_behind sliceK (i + 1) (by rw [HNN.out]; omega)
    rw [HNN.out, Int.natCast_add] at e1
    exact ⟨A', e1, e2⟩
  obtain ⟨A9, eB, hB9⟩ := eB
  have HB9 := Lib.hid hB9; clear hB9
  obtain ⟨m9, hm9⟩ : ∃ x, nn - (i + 1) = x := ⟨_, rfl⟩
  rw [hm9] at eB
  have HM9 : Hid (m9 = (ps.drop (i + 1)).length ∧ 0 < m9 ∧ i + m9 ≤ 1000) := Lib.hid (by rw [List.length_drop, HNN.out]; omega)
  clear hm9
  go_enter Tryd.func28, Tryd.ntmps28
  go_wp2_with fail
  have f1 : Fine w (w.alloc (.cells #[.int .i64 0, .slice none 0 0] 48)) := (Fine.refl w).alloc _
  have b1 : Blk (w.alloc (.cells #[.int .i64 0, .slice none 0 0] 48)) w.heap.size 48 #[.int .i64 0, .slice none 0 0] := Blk.new w 48 _
  generalize (w.alloc (.cells #[.int .i64 0, .slice none 0 0] 48)) = w1 at f1 b1 ⊢
  obtain ⟨x1, hx1⟩ : ∃ x1, w.heap.size = x1 := ⟨_, rfl⟩
  have hxx : w.heap.size ≤ x1 := by omega
  rw [hx1] at b1 ⊢
  clear hx1
  refine (HC.out w1 f1).mono ?_
  rintro x w2 ⟨A', c', rfl, o2, f⟩
  have b2 := b1.fine f; have f2 := f1.trans f
  have o2 := o2.lower f1.size
  clear b1 f1 f
  go_upto_region 3 with (fail)
  have f3 := f2.alloc (.cells #[.int .i64 sd, .slice A' pl c'] 48)
  have b3 := b2.alloc (.cells #[.int .i64 sd, .slice A' pl c'] 48)
  have b4 : Blk (w2.alloc (.cells #[.int .i64 sd, .slice A' pl c'] 48)) w2.heap.size 48 #[.int .i64 sd, .slice A' pl c'] := Blk.new w2 48 _
  have o3 := o2.alloc (.cells #[.int .i64 sd, .slice A' pl c'] 48)
  have hsz := f2.size
  generalize (w2.alloc (.cells #[.int .i64 sd, .slice A' pl c'] 48)) = w3 at f3 b3 b4 o3 ⊢
  obtain ⟨x2, hx2⟩ : ∃ x, w2.heap.size = x := ⟨_, rfl⟩
  rw [hx2] at b4 hsz ⊢
  have c0 : w3.cell? ⟨g, 0, none⟩ = some (.slice A nn c) := (H2.out.fine f3).cell 0
  have z0 : w3.frozen? ⟨g, 0, none⟩ = false := (H2.out.fine f3).frozen 0
  have i1 : IntKind.i64.wrap ((i : Int) + 1) = (i : Int) + 1 := IntWalk.i64_in _ (by omega)
  have i2 : (0 : Int) ≤ (i : Int) + 1 := by omega
  have HT : Hid (i = (ps.take i).length) := Lib.hid (by rw [List.length_take, HNN.out]; omega)
  have HR3 := Lib.hid (((H3.out.fine f3).front3 i (by rw [HNN.out]; omega)).fine (Fine.refl w3).drew)
  have HR9 := Lib.hid (HB9.out _ ((H3.out.fine f3).fine (Fine.refl w3).drew))
  have hx1l : x1 < w3.heap.size := b3.lt
  have hgl3 : w.heap.size ≤ w3.heap.size := f3.size
  go_region_law (refine step_appRG rfl (.tmp 23) (.tmp 30) rfl A i (ps.take i) rfl HT.out HR3.out A9 m9 (c - (i + 1)) (ps.drop (i + 1)) rfl HM9.out.1 HR9.out HM9.out.2.1 (by have := HM9.out; omega) ?_; intro Az dz wz oz fz; have cz : wz.cell? ⟨g, 0, none⟩ = some (.slice A nn c) := (((H2.out.fine f3).drew).fine fz).cell 0; have zz : wz.frozen? ⟨g, 0, none⟩ = false := (((H2.out.fine f3).drew).fine fz).frozen 0)
  all_goals
    have f4 := (Fine.refl w3).drew.trans fz
    have b3 := b3.fine f4
    have b4 := b4.fine f4
    have f3 := f3.trans f4
    have o3 := o3.fine f4
    have hgx : g ≠ x1 := (H2.out.fine f3).ne_ b3 (by decide)
    have hgx2 : g ≠ x2 := (H2.out.fine f3).ne_ b4 (by decide)
    have og := own_ne oz (H2.out.fine f3) (by decide)
    have oz2 : Own layK 48 (wz.setCell ⟨g, 0, none⟩ (.slice Az (i + m9) dz)) w3.heap.size (.slice Az (i + m9) dz) (ps.take i ++ ps.drop (i + 1)) := oz.kept ((Kept.refl (fun x => x = g) wz).setIn (p := ⟨g, 0, none⟩) rfl _) og
    have lz := oz2.lt
    have b5 : Blk (wz.setCell ⟨g, 0, none⟩ (.slice Az (i + m9) dz)) x1 48 #[.int .i64 0, .slice none 0 0] := b3.far hgx.symm _
    have b6 : Blk (wz.setCell ⟨g, 0, none⟩ (.slice Az (i + m9) dz)) x2 48 #[.int .i64 sd, .slice A' pl c'] := b4.far hgx2.symm _
    have b7 : Blk (wz.setCell ⟨g, 0, none⟩ (.slice Az (i + m9) dz)) g 81 #[.slice Az (i + m9) dz] := (H2.out.fine f3).set_ 0 _
    have k3 : Kept (fun x => x = g) w (wz.setCell ⟨g, 0, none⟩ (.slice Az (i + m9) dz)) := (Kept.of_fine (S := fun x => x = g) f3).setIn (p := ⟨g, 0, none⟩) rfl _
    have o4 : OwnB (wz.setCell ⟨g, 0, none⟩ (.slice Az (i + m9) dz)) w.heap.size (.slice A' pl c') p.xs := o3.farT (by decide) (H2.out.fine f3) (Kept.refl _ _).setC
    generalize (wz.setCell ⟨g, 0, none⟩ (.slice Az (i + m9) dz)) = w4 at b5 b6 b7 k3 o4 oz2 lz ⊢
    have e0 : w4.cell? ⟨x1, 0, none⟩ = some (.int .i64 0) := b5.cell 0
    have e1 : w4.cell? ⟨x1, 1, none⟩ = some (.slice none 0 0) := b5.cell 1
    have y0 : w4.frozen? ⟨x1, 0, none⟩ = false := b5.frozen 0
    have y1 : w4.frozen? ⟨x1, 1, none⟩ = false := b5.frozen 1
    have d0 : w4.cell? ⟨x2, 0, none⟩ = some (.int .i64 sd) := b6.cell 0
    have d1 : w4.cell? ⟨x2, 1, none⟩ = some (.slice A' pl c') := b6.cell 1
    have hx1 : x1 < w.heap.size → x1 = g := fun h => absurd h (by omega)
    have HO := Lib.hid ((o4.farT (by decide) b5 ((Kept.refl _ _).setC (i := 0) (u := .int .i64 sd))).farT (by decide) (b5.set_ 0 (.int .i64 sd)) ((Kept.refl _ _).setC (i := 1) (u := .slice A' pl c')))
    have HK := Lib.hid ((k3.setCell (p := ⟨x1, 0, none⟩) hx1 (.int .i64 sd)).setCell (p := ⟨x1, 1, none⟩) hx1 (.slice A' pl c'))
    have HG := Lib.hid ((b7.far (p := ⟨x1, 0, none⟩) hgx (.int .i64 sd)).far (p := ⟨x1, 1, none⟩) hgx (.slice A' pl c'))
    have HR := Lib.hid (oz2.kept (((Kept.refl (fun x => x = x1) w4).setIn (p := ⟨x1, 0, none⟩) rfl (.int .i64 sd)).setIn (p := ⟨x1, 1, none⟩) rfl (.slice A' pl c')) (fun k hk e => by have := lz k hk; omega))
    have HLZ := Lib.hid lz
    have HLN : Hid ((ps.take i ++ ps.drop (i + 1)).length = i + m9) := Lib.hid (by rw [List.length_append, ← HT.out, ← HM9.out.1])
    have HBG : Hid (base ≤ w3.heap.size ∧ g < w3.heap.size) := Lib.hid (by have := H1.out; omega)
    clear b3 b4 o3 f3 f4 b5 b6 b7 k3 o4 c0 z0 eB eF i1 i2 hx1 f2 b2 o2 HB9 cz zz fz oz og lz oz2 HR3 HR9 HT
    go_wp2_with fail
    exact bodyPost_ret (v := .tuple #[.agg #[.int .i64 sd, .slice A' pl c'], .int .i64 0]) (by simp [results, Tryd.results28, go_sem, e0, e1]) rfl ⟨A', c', rfl, HO.out, ⟨Az, dz, H1.out, by rw [HLN.out]; exact HG.out, HR.out.rs.1, fun b off e => by
      have h := HLZ.out b (by rw [e]; rfl)
      have := HBG.out
      omega, fun q hq => by
      have hq2 : q ∈ ps := by
        rcases List.mem_append.mp hq with h | h
        · exact List.mem_of_mem_take h
        · exact List.mem_of_mem_drop h
      exact (H5.out q hq2).keptS HK.out ((H5.out q hq2).ne81 H2.out (by decide))⟩, HK.out⟩
end Go.Proofs.YthnennleblgjeaaDoor
