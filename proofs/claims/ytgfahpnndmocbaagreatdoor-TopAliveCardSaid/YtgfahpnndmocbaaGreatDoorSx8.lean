/-
  The executor's operations on memory are the model's: what makes memory; addresses.
-/
import Derived.Test.YtgfahpnndmocbaaGreatDoorSx7
namespace Go.Proofs.YtgfahpnndmocbaaGreatDoor.Sx
noncomputable section
open Go Go.RowKit
set_option linter.unusedVariables false
set_option linter.unusedSimpArgs false

section
variable {P : Program} {E : En} {N : Nat} {W : World} {β : Bm} {h : Hp} {F : Nat → Option Blk} {w : World}

theorem ofV1_ok {v : Value} {x : SV} (hv : ofV1 v = some x) (β : Bm) : VR E β x v ∧ oneS x = true ∧ v.cells = #[v] := by
  unfold ofV1 at hv
  split at hv <;> first
    | (simp only [Option.some.injEq] at hv; subst hv; exact ⟨by constructor, rfl, rfl⟩)
    | cases hv
theorem ofVs_ok : ∀ {vs : List Value} {l : List SV} (hv : ofVs vs = some l) (β : Bm), VRs E β l vs ∧ allOne l = true := by
  intro vs
  induction vs with
  | nil => intro l hv β; simp only [ofVs, Option.some.injEq] at hv; subst hv; exact ⟨.nil, rfl⟩
  | cons v vs ih =>
    intro l hv β
    simp only [ofVs] at hv
    split at hv
    · rename_i x hx
      split at hv
      · rename_i r hr
        simp only [Option.some.injEq] at hv; subst hv
        obtain ⟨h1, h2, _⟩ := ofV1_ok (E := E) hx β
        obtain ⟨h3, h4⟩ := ih hr β
        exact ⟨.cons _ _ _ _ h1 h3, by simp [allOne, h2, h4]⟩
      · cases hv
    · cases hv
theorem ofV_ok {v : Value} {x : SV} (hv : ofV v = some x) (β : Bm) : VR E β x v := by
  unfold ofV at hv
  split at hv
  · rename_i cs
    split at hv
    · rename_i l hl
      simp only [Option.some.injEq] at hv; subst hv
      obtain ⟨h1, h2⟩ := ofVs_ok (E := E) hl β
      exact .agg _ _ h1 h2
    · cases hv
  · exact (ofV1_ok hv β).1

theorem zeroC_ok {t : TypeId} {z : List SV} (hz : zeroC P t = some z) (β : Bm) :
    ∃ zv, (zeroValue t).run P w = .ok zv w ∧ VRs E β z zv.cells.toList ∧ allOne z = true := by
  unfold zeroC at hz
  split at hz
  · rename_i i hi
    split at hz
    · rename_i zv hzv
      split at hz
      · rename_i v hv
        obtain ⟨h1, h2⟩ := (ofV_ok (E := E) hv β).cells hz
        exact ⟨zv, by simp [zeroValue, typeInfo, hi, hzv], h1, h2⟩
      · cases hz
    · cases hz
  · cases hz

/-- a new row of cells -/
theorem Mem.newRow (m : Mem E N W F β h w) {cs : List SV} {ws : Array Value} (t : TypeId) (hc : VRs E β cs ws.toList) (h1 : allOne cs = true) :
    ∃ β', Post E N W F β h (h.new (.cells cs)) β' { w with heap := w.heap.push (.cells ws t) } ∧ β' h.n = some (w.heap.size, 0, ws.size) := by
  refine m.new _ _ ws.size fun β' hle => ⟨h1, ws, t, [], ws.toList, [], ?_, rfl, hc.mono hle, by simp, rfl⟩
  simp

theorem alloc_ok (m : Mem E N W F β h w) {t : TypeId} {z : List SV} (hz : zeroC P t = some z) :
    ∃ v w' β', (Instr.alloc t true (.tuple #[])).run P w = .ok v w' ∧ Post E N W F β h (h.new (.cells z)) β' w' ∧ VR E β' (.ptr h.n 0) v := by
  obtain ⟨zv, h1, h2, h3⟩ := zeroC_ok (P := P) (E := E) (w := w) hz β
  obtain ⟨β', p, hb⟩ := m.newRow t h2 h3
  refine ⟨_, _, β', ?_, p, .ptr _ _ _ _ _ hb⟩
  simp only [Instr.alloc, Sem.run_bind, h1, Result.andThen_ok]
  rfl

theorem box_ok (m : Mem E N W F β h w) {t : TypeId} {x : SV} {v : Value} {cs : List SV} (hx : VR E β x v) (hc : cellsOf x = some cs) :
    ∃ u w' β', (Instr.box t v).run P w = .ok u w' ∧ Post E N W F β h (h.new (.cells cs)) β' w' ∧ VR E β' (.ptr h.n 0) u := by
  obtain ⟨h2, h3⟩ := hx.cells hc
  obtain ⟨β', p, hb⟩ := m.newRow t h2 h3
  exact ⟨_, _, β', rfl, p, .ptr _ _ _ _ _ hb⟩

/-- values laid one behind the other over an array -/
theorem foldl_set (off : Nat) : ∀ (vs : List Value) (k : Nat) (cells : Array Value), off + k + vs.length ≤ cells.size →
    ((vs.zipIdx k).foldl (fun cs x => cs.setIfInBounds (off + x.2) x.1) cells).toList = cells.toList.take (off + k) ++ vs ++ cells.toList.drop (off + k + vs.length)
  | [], k, cells, _ => by simp
  | v :: vs, k, cells, hl => by
    simp only [List.zipIdx_cons, List.foldl_cons]
    rw [foldl_set off vs (k + 1) (cells.setIfInBounds (off + k) v) (by simp at hl ⊢; omega)]
    have e := list_seg_step cells.toList (off + k) v vs (by simp at hl ⊢; omega)
    simpa [Array.toList_setIfInBounds, Nat.add_assoc] using e

/-- numbered values -/
def PRs (E : En) (β : Bm) : List (Nat × SV) → List (Nat × Value) → Prop
  | [], [] => True
  | (i, x) :: l, (j, v) :: m => i = j ∧ VR E β x v ∧ PRs E β l m
  | _, _ => False

theorem fill_ok {place : Nat → Option (Nat × Nat)} : ∀ {parts : List (Nat × SV)} {vparts : List (Nat × Value)} {cells l : List SV} {vcells : Array Value},
    PRs E β parts vparts → VRs E β cells vcells.toList → allOne cells = true →
    fillS place cells parts = some l → ∃ vl, Instr.fill place vcells vparts = some vl ∧ VRs E β l vl.toList ∧ allOne l = true := by
  intro parts
  induction parts with
  | nil =>
    intro vparts cells l vcells hp hc h1 hf
    cases vparts with
    | cons _ _ => exact hp.elim
    | nil =>
    simp only [fillS, Option.some.injEq] at hf; subst hf
    exact ⟨vcells, rfl, hc, h1⟩
  | cons p rest ih =>
    intro vparts cells l vcells hp hc h1 hf
    obtain ⟨i, x⟩ := p
    cases vparts with
    | nil => exact hp.elim
    | cons q vrest =>
      obtain ⟨j, v⟩ := q
      obtain ⟨rfl, hv, hp⟩ := hp
      simp only [fillS] at hf
      split at hf
      · rename_i off size hpl
        split at hf
        · rename_i cs hcs
          cases hb : (Nat.beq cs.length size && Nat.blt 0 size)
          · rw [hb] at hf; cases hf
          · rw [hb] at hf
            simp only [Bool.and_eq_true] at hb
            have hcn : cs.length = size := Nat.eq_of_beq_eq_true hb.1
            have hpos : 0 < size := by have := hb.2; rw [blt_eq] at this; simpa using this
            simp only [cond_true] at hf
            split at hf
            · rename_i c hput
              obtain ⟨k1, k2⟩ := hv.cells hcs
              obtain ⟨e1, e2⟩ := lput_some hput
              have hvn : v.cells.size = size := by rw [← hcn]; have := k1.length; simpa using this.symm
              have hcl := hc.length
              have hvl := k1.length
              simp only [Array.length_toList] at hcl hvl
              have h0 : cs ≠ [] := by rintro rfl; simp at hcn; omega
              · have hfit := e2 h0
                have hnot : ¬ (v.cells.size ≠ size ∨ off + v.cells.size > vcells.size) := by omega
                have hfold := foldl_set off v.cells.toList 0 vcells (by simp; omega)
                have hnew : VRs E β c ((v.cells.zipIdx.foldl (fun cs (x : Value × Nat) => cs.setIfInBounds (off + x.2) x.1) vcells)).toList := by
                  rw [← Array.foldl_toList, Array.toList_zipIdx, hfold, e1, hvl]
                  simp only [Nat.add_zero, Array.length_toList]
                  exact ((hc.take off).append k1).append (hc.drop _)
                obtain ⟨vl, g1, g2, g3⟩ := ih (vparts := vrest) hp hnew
                  (by rw [e1]; exact allOne_append (allOne_append (allOne_take h1 _) k2) (allOne_drop h1 _)) hf
                refine ⟨vl, ?_, g2, g3⟩
                simp only [Instr.fill, hpl]
                rw [if_neg (by simpa using hnot)]
                exact g1
            · cases hf
        · cases hf
      · cases hf

theorem places_ok : ∀ {fs : List Field} {ps : List (Nat × Nat)}, placesL P fs = some ps →
    (fs.mapM fun f => (do pure (f.offset, ← sizeOf f.type) : Sem (Nat × Nat))).run P w = .ok ps w := by
  intro fs
  induction fs with
  | nil => intro ps h; simp only [placesL, Option.some.injEq] at h; subst h; rfl
  | cons f fs ih =>
    intro ps h
    simp only [placesL] at h
    split at h
    · rename_i n hn
      split at h
      · rename_i r hr
        simp only [Option.some.injEq] at h; subst h
        rw [List.mapM_cons]
        simp only [Sem.run_bind, szO_run hn, Result.andThen_ok, Sem.run_pure, ih hr]
      · cases h
    · cases h

theorem buildA_ok {t : TypeId} {parts : List (Nat × SV)} {vparts : Array (Nat × Value)} {r : SV} (hp : PRs E β parts vparts.toList) (hb : buildA P t parts = some r) :
    Gives P E β w (Instr.build t vparts) r := by
  unfold buildA at hb
  split at hb
  · rename_i z hz
    obtain ⟨zv, h1, h2, h3⟩ := zeroC_ok (P := P) (E := E) (w := w) hz β
    split at hb
    · rename_i fs hu
      split at hb
      · rename_i ps hps
        split at hb
        · rename_i l hl
          simp only [Option.some.injEq] at hb; subst hb
          obtain ⟨vl, g1, g2, g3⟩ := fill_ok hp h2 h3 hl
          refine ⟨.agg vl, ?_, .agg _ _ g2 g3⟩
          have hm : (fs.mapM fun f => (do pure (f.offset, ← sizeOf f.type) : Sem (Nat × Nat))).run P w = .ok ps.toArray w := by
            rw [Array.mapM_eq_mapM_toList]
            simp only [Sem.run_map]
            rw [places_ok hps]
            rfl
          have hf : (fun i => ps.toArray[i]?) = lget ps := by funext i; rw [lget_eq]; simp
          simp only [Instr.build, Sem.run_bind, h1, run_und hu, Result.andThen_ok, hm]
          rw [hf, g1]
          rfl
        · cases hb
      · cases hb
    · rename_i k e hu
      split at hb
      · rename_i n hn
        split at hb
        · rename_i l hl
          simp only [Option.some.injEq] at hb; subst hb
          obtain ⟨vl, g1, g2, g3⟩ := fill_ok hp h2 h3 hl
          refine ⟨.agg vl, ?_, .agg _ _ g2 g3⟩
          simp only [Instr.build, Sem.run_bind, h1, run_und hu, Result.andThen_ok, szO_run hn]
          rw [show (fun i => some (i * n, n)) = (fun i => some (Nat.mul i n, n)) from rfl, g1]
          rfl
        · cases hb
      · cases hb
    · cases hb
  · cases hb

/-- zeros, element by element -/
theorem rep_ok {z : List SV} {zs : List Value} (hz : VRs E β z zs) (h1 : allOne z = true) : ∀ n, VRs E β (rep z n) ((List.replicate n zs).flatten) ∧ allOne (rep z n) = true
  | 0 => ⟨.nil, rfl⟩
  | n + 1 => by
    obtain ⟨a, b⟩ := rep_ok hz h1 n
    exact ⟨by simpa [rep, List.replicate_succ] using hz.append a, allOne_append h1 b⟩
theorem zeros_eq (zs : Array Value) (hp : 0 < zs.size) : ∀ n, ((Array.range (n * zs.size)).map (fun i => zs[i % zs.size]!)).toList = (List.replicate n zs.toList).flatten := by
  intro n
  induction n with
  | zero => simp
  | succ n ih =>
    have e : (Array.range ((n + 1) * zs.size)).map (fun i => zs[i % zs.size]!) = (Array.range (n * zs.size)).map (fun i => zs[i % zs.size]!) ++ zs := by
      apply Array.ext
      · simp [Nat.succ_mul]
      · intro i h1 h2
        simp only [Array.getElem_map, Array.getElem_range]
        rw [Array.getElem_append]
        split
        · rename_i hlt
          simp
        · rename_i hge
          simp at hge
          simp [Nat.succ_mul] at h1
          obtain ⟨j, rfl⟩ : ∃ j, i = j + n * zs.size := ⟨i - n * zs.size, by omega⟩
          have hj : j < zs.size := by omega
          rw [Nat.add_mul_mod_self_right, Nat.mod_eq_of_lt hj]
          simp [hj]
    rw [e, Array.toList_append, ih]
    rw [show n + 1 = n.succ from rfl, List.replicate_succ', List.flatten_append]
    simp

theorem elemO_ok {t e : TypeId} {n : Nat} (h : elemO P t = some (e, n)) : P.underlying t = some (.slice e) ∧ szO P e = some n := by
  unfold elemO at h
  split at h
  · rename_i e' hu
    split at h
    · rename_i n' hn
      simp only [Option.some.injEq, Prod.mk.injEq] at h
      obtain ⟨rfl, rfl⟩ := h
      exact ⟨hu, hn⟩
    · cases h
  · cases h

theorem flat_length (zs : List Value) : ∀ n, ((List.replicate n zs).flatten).length = n * zs.length
  | 0 => by simp
  | n + 1 => by simp [List.replicate_succ, flat_length zs n, Nat.succ_mul, Nat.add_comm]

theorem row_ok (m : Mem E N W F β h w) {t : TypeId} {len : Nat} {parts : List (Nat × SV)} {vparts : Array (Nat × Value)} {cs : List SV} (hp : PRs E β parts vparts.toList) (hr : rowA P t len parts = some cs) :
    ∃ v w' β', (Instr.buildSlice t len vparts).run P w = .ok v w' ∧ Post E N W F β h (h.new (.cells cs)) β' w' ∧ VR E β' (.sli h.n 0 len len) v := by
  unfold rowA at hr
  split at hr
  · rename_i e n he
    obtain ⟨hu, hn⟩ := elemO_ok he
    split at hr
    · rename_i z hz
      cases hb : (Nat.beq z.length n && Nat.blt 0 n && Nat.ble (Nat.mul len n) 16777216)
      · rw [hb] at hr; cases hr
      · rw [hb] at hr
        simp only [Bool.and_eq_true] at hb
        obtain ⟨⟨b1, b2⟩, b3⟩ := hb
        have e1 : z.length = n := Nat.eq_of_beq_eq_true b1
        have e2 : 0 < n := by rw [blt_eq] at b2; simpa using b2
        have e3 : len * n ≤ 16777216 := Nat.le_of_ble_eq_true b3
        simp only [cond_true] at hr
        obtain ⟨zv, h1, h2, h3⟩ := zeroC_ok (P := P) (E := E) (w := w) hz β
        have hzs : zv.cells.size = n := by rw [← e1]; have := h2.length; simpa using this.symm
        obtain ⟨r1, r2⟩ := rep_ok h2 h3 len
        have hz0 : ∀ (zz : Array Value), (if len * n = 0 then #[] else zv.cells) = zz → ((Array.range (len * n)).map (fun i => zz[i % zz.size]!)).toList = (List.replicate len zv.cells.toList).flatten := by
          intro zz hzz
          by_cases h0 : len * n = 0
          · have : len = 0 := by
              rcases Nat.mul_eq_zero.1 h0 with h | h
              · exact h
              · omega
            subst this
            simp
          · rw [if_neg h0] at hzz
            subst hzz
            have := zeros_eq zv.cells (by omega) len
            rw [hzs] at this ⊢
            exact this
        obtain ⟨vl, g1, g2, g3⟩ := fill_ok (vcells := (Array.range (len * n)).map (fun i => (if len * n = 0 then #[] else zv.cells)[i % (if len * n = 0 then #[] else zv.cells).size]!)) hp (by rw [hz0 _ rfl]; exact r1) r2 hr
        obtain ⟨β', p, hb⟩ := m.newRow e g2 g3
        refine ⟨_, _, β', ?_, p, .sli _ _ _ _ _ _ _ hb⟩
        have hlim : ¬ len * n > 2 ^ 24 := by omega
        simp only [Instr.buildSlice, Sem.run_bind, run_und hu, szO_run hn, Result.andThen_ok, hlim, if_false]
        by_cases h0 : len * n = 0
        · simp only [h0, if_true] at g1 ⊢
          simp only [Sem.run_bind, Sem.run_pure, Result.andThen_ok]
          rw [show (fun i => some (i * n, n)) = (fun i => some (Nat.mul i n, n)) from rfl, g1]
          rfl
        · simp only [h0, if_false] at g1 ⊢
          simp only [Sem.run_bind, h1, Sem.run_pure, Result.andThen_ok]
          rw [show (fun i => some (i * n, n)) = (fun i => some (Nat.mul i n, n)) from rfl, g1]
          rfl
    · cases hr
  · cases hr

theorem natOf_ok {x : SV} {v : Value} {n : Nat} (hx : VR E β x v) (h : natOf x = some n) : ∃ k, v = .int k (n : Nat) := by
  unfold natOf at h
  split at h
  · cases hx
    simp only [Option.some.injEq] at h; subst h
    exact ⟨_, rfl⟩
  · cases h

theorem smallT_ok {t : TypeId} (h : smallT P t = true) : ∃ i, P.info? t = some i ∧ i.bytes ≤ 1048576 := by
  unfold smallT at h
  split at h
  · rename_i i hi; exact ⟨i, hi, Nat.le_of_ble_eq_true h⟩
  · cases h

theorem make_ok (m : Mem E N W F β h w) {t : TypeId} {l c r : SV} {vl vc : Value} {h' : Hp} (hl : VR E β l vl) (hc : VR E β c vc) (hm : makeSl P h t l c = .val r h') :
    ∃ v w' β', (Instr.makeSlice t vl vc).run P w = .ok v w' ∧ Post E N W F β h h' β' w' ∧ VR E β' r v := by
  unfold makeSl at hm
  split at hm
  · rename_i ln cn hln hcn
    obtain ⟨k1, rfl⟩ := natOf_ok hl hln
    obtain ⟨k2, rfl⟩ := natOf_ok hc hcn
    split at hm
    · rename_i e n he
      obtain ⟨hu, hn⟩ := elemO_ok he
      split at hm
      · rename_i z hz
        cases hb : (Nat.ble ln cn && Nat.blt cn 1048576 && Nat.beq z.length n && Nat.blt 0 n && smallT P e)
        · rw [hb] at hm; cases hm
        · rw [hb] at hm
          simp only [Bool.and_eq_true] at hb
          obtain ⟨⟨⟨⟨b1, b2⟩, b3⟩, b4⟩, b5⟩ := hb
          have e1 : ln ≤ cn := Nat.le_of_ble_eq_true b1
          have e2 : cn < 1048576 := by rw [blt_eq] at b2; simpa using b2
          have e3 : z.length = n := Nat.eq_of_beq_eq_true b3
          have e4 : 0 < n := by rw [blt_eq] at b4; simpa using b4
          obtain ⟨i, hi, hbytes⟩ := smallT_ok b5
          simp only [cond_true, Go1.val.injEq] at hm
          obtain ⟨rfl, rfl⟩ := hm
          obtain ⟨zv, h1, h2, h3⟩ := zeroC_ok (P := P) (E := E) (w := w) hz β
          have hzs : zv.cells.size = n := by rw [← e3]; have := h2.length; simpa using this.symm
          obtain ⟨r1, r2⟩ := rep_ok h2 h3 cn
          have wc : IntKind.i64.wrap (cn : Int) = cn := by simp [IntKind.wrap, IntKind.bits, IntKind.signed]; omega
          have wl : IntKind.i64.wrap (ln : Int) = ln := by simp [IntKind.wrap, IntKind.bits, IntKind.signed]; omega
          have hmul : i.bytes * cn ≤ 1048576 * 1048576 := Nat.mul_le_mul hbytes (by omega)
          have hnot : ¬ (((decide ((cn : Int) < 0) || decide ((i.bytes : Int) * cn > 2 ^ 48)) || decide ((ln : Int) < 0) || decide ((ln : Int) > cn)) = true) := by
            simp only [Bool.or_eq_true, decide_eq_true_eq, not_or]
            refine ⟨⟨⟨by omega, ?_⟩, by omega⟩, by omega⟩
            have : (i.bytes : Int) * cn = ((i.bytes * cn : Nat) : Int) := by simp
            rw [this]; omega
          by_cases h0 : cn * n = 0
          · have hcn0 : cn = 0 := by
              rcases Nat.mul_eq_zero.1 h0 with h | h
              · exact h
              · omega
            subst hcn0
            obtain ⟨β', p, hb⟩ := m.newRow (cs := rep z 0) (ws := ((Array.range (0 * n)).map (fun i => (#[] : Array Value)[i % (#[] : Array Value).size]!))) e (by simpa using r1) r2
            refine ⟨_, _, β', ?_, p, .sli _ _ _ _ _ _ _ hb⟩
            simp only [Instr.makeSlice, Sem.run_bind, run_und hu, asInt, asIntOf, Sem.run_pure, Result.andThen_ok, typeInfo, run_program, hi, wc, wl]
            rw [if_neg (by simpa using hnot)]
            simp only [Sem.run_bind, run_askRoom, Result.andThen_ok, szO_run hn, Int.toNat_natCast, Nat.zero_mul, if_true, Sem.run_pure]
            rfl
          · obtain ⟨β', p, hb⟩ := m.newRow (cs := rep z cn) (ws := ((Array.range (cn * n)).map (fun i => zv.cells[i % zv.cells.size]!))) e (by
              have := zeros_eq zv.cells (by omega) cn
              rw [← hzs, this]; exact r1) r2
            refine ⟨_, _, β', ?_, p, .sli _ _ _ _ _ _ _ hb⟩
            simp only [Instr.makeSlice, Sem.run_bind, run_und hu, asInt, asIntOf, Sem.run_pure, Result.andThen_ok, typeInfo, run_program, hi, wc, wl]
            rw [if_neg (by simpa using hnot)]
            simp only [Sem.run_bind, run_askRoom, Result.andThen_ok, szO_run hn, Int.toNat_natCast, h0, if_false, Sem.run_pure, h1]
            rfl
      · cases hm
    · cases hm
  · cases hm
end
end
end Go.Proofs.YtgfahpnndmocbaaGreatDoor.Sx
