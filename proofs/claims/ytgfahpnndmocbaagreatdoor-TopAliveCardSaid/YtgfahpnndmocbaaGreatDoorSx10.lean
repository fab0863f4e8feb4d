/-
  The executor's operations are the model's: append, copy, clear.
-/
import Derived.Test.YtgfahpnndmocbaaGreatDoorSx9
namespace Go.Proofs.YtgfahpnndmocbaaGreatDoor.Sx
noncomputable section
open Go Go.RowKit
set_option linter.unusedVariables false
set_option linter.unusedSimpArgs false

section
variable {P : Program} {E : En} {N : Nat} {W : World} {β : Bm} {h : Hp} {F : Nat → Option Blk} {w : World}

theorem lenS_ok {x : SV} {v : Value} {n : Nat} (hx : VR E β x v) (h : lenS x = some n) : (Builtin.lenOf v).run P w = .ok n w ∧ (oneS x = true) := by
  unfold lenS at h
  cases hx <;> simp only [Option.some.injEq] at h <;> first | (subst h; exact ⟨rfl, rfl⟩) | cases h

/-- the first n elements of a slice -/
theorem firstS_ok (m : Mem E N W F β h w) {x : SV} {v : Value} {sz n : Nat} {cs : List SV} (hx : VR E β x v) (hf : firstS h sz n x = some cs) :
    ∃ ws : Array Value, (∀ w', w'.heap = w.heap → (Builtin.firstCells sz n v).run P w' = .ok ws w') ∧ VRs E β cs ws.toList ∧ allOne cs = true := by
  have row : ∀ {id off b o e : Nat} {l : List SV}, β id = some (b, o, e) → h.t.get id = some (.cells l) → lseg l off (Nat.mul n sz) = some cs →
      ∃ ws : Array Value, (∀ w', w'.heap = w.heap → (loadCells ⟨b, o + off, none⟩ (n * sz)).run P w' = .ok ws w') ∧ VRs E β cs ws.toList ∧ allOne cs = true := by
    intro id off b o e l hb hl hs
    obtain ⟨b', o', e', c, t, pre, vs, post, k1, k2, k3, k4, k5, k6, k7⟩ := m.row hl
    rw [hb] at k1; cases k1
    obtain ⟨e1, e2, e3⟩ := lseg_some hs
    have key : ∀ w' : World, w'.heap = w.heap → (loadCells ⟨b, o + off, none⟩ (n * sz)).run P w' = .ok ((vs.drop off).take (n * sz)).toArray w' := by
      intro w' hw'
      have k3' : w'.heap[b]? = some (.cells c t (0, 0)) := by rw [hw']; exact k3
      exact loadCells_ok (P := P) (w := w') (b := b) (o := o + off) (vs := vs) (off := off) (n := n * sz) (fun j x hx => by
        rw [cell_row k3', Nat.add_assoc, ← k7]; exact cell_pre k6 hx) (fun h0 => by have := e1 h0; rw [k5.length] at this; exact this)
    refine ⟨_, key, ?_, ?_⟩
    · rw [e2]; simpa using (k5.drop off).take (n * sz)
    · rw [e2]; exact allOne_take (allOne_drop k2 _) _
  unfold firstS at hf
  cases hx <;> simp only at hf <;> try (cases hf; done)
  · simp only [Option.some.injEq] at hf; subst hf; exact ⟨#[], fun _ _ => rfl, .nil, rfl⟩
  · rename_i id off ln cp b o e hb
    split at hf
    · rename_i l hl
      exact row hb hl hf
    · cases hf
  · rename_i id off ln sz' b o e c hb hn hc
    split at hf
    · rename_i l hl
      exact row hb hl hf
    · cases hf
  · rename_i a c
    cases h0 : Nat.beq n 0
    · rw [h0] at hf; cases hf
    · rw [h0] at hf
      have := Nat.eq_of_beq_eq_true h0
      subst this
      simp only [cond_true, Option.some.injEq] at hf; subst hf
      exact ⟨#[], fun _ _ => by simp [Builtin.firstCells, loadCells, loadCellsFrom], .nil, rfl⟩

theorem growT_ok {e : TypeId} {sz : Nat} (hg : growT P e sz = true) (w : World) :
    ∃ i zv, P.info? e = some i ∧ i.bytes ≤ 1048576 ∧ 0 < sz ∧ (∀ w, (zeroValue e).run P w = .ok zv w) ∧ zv.cells.size = sz := by
  unfold growT at hg
  simp only [Bool.and_eq_true] at hg
  obtain ⟨⟨g1, g2⟩, g3⟩ := hg
  obtain ⟨i, hi, hb⟩ := smallT_ok g1
  split at g3
  · rename_i z hz
    have e1 : z.length = sz := Nat.eq_of_beq_eq_true g3
    obtain ⟨zv, h1, h2, h3⟩ := zeroC_ok (P := P) (E := ⟨fun _ => 1, fun _ => 0, by decide⟩) (w := w) hz (fun _ => none)
    refine ⟨i, zv, hi, hb, by rw [blt_eq] at g2; simpa using g2, fun w' => ?_, by rw [← e1]; have := h2.length; simpa using this.symm⟩
    obtain ⟨zv', k1, k2, k3⟩ := zeroC_ok (P := P) (E := ⟨fun _ => 1, fun _ => 0, by decide⟩) (w := w') hz (fun _ => none)
    have : zv = zv' := by
      unfold zeroValue typeInfo at h1 k1
      simp only [Sem.run_bind, run_program, Result.andThen_ok, hi, Sem.run_pure] at h1 k1
      cases hzz : i.zero with
      | none => rw [hzz] at h1; cases h1
      | some q => rw [hzz] at h1 k1; simp at h1 k1; rw [← h1, ← k1]
    rw [this]; exact k1
  · cases g3

theorem growBy_le (n : Nat) : ∀ r c, c < n → Builtin.growBy n r c ≤ 2 * n + 200 := by
  intro r
  induction r with
  | zero => intro c h; simp [Builtin.growBy]; omega
  | succ r ih =>
    intro c h
    simp only [Builtin.growBy]
    rw [if_neg (by omega)]
    by_cases h2 : c + (c + 768) / 4 < n
    · exact ih _ h2
    · cases r with
      | zero => simp [Builtin.growBy]; omega
      | succ r => simp only [Builtin.growBy]; rw [if_pos (by omega)]; omega
theorem next_le {n c : Nat} (h : c < n) : Builtin.nextslicecap n c ≤ 2 * n + 200 := by
  unfold Builtin.nextslicecap
  split
  · omega
  · split
    · omega
    · exact growBy_le n 4 c h

/-- a slice that has not the room grows -/
theorem grow_run {t u ty e : TypeId} {sz n len cap : Nat} {base : Option Addr} {x : Value} {du : TypeDesc} {old new : Array Value} (hu : P.underlying t = some (.slice e)) (hsz : szO P e = some sz)
    (hdu : P.underlying u = some du) (hni : ∀ k, du ≠ .int k) (hx : (Builtin.lenOf x).run P w = .ok n w) (hc : ¬ len + n ≤ cap) (hs : len + n < 1048576) (hg : growT P e sz = true)
    (hold : ∀ w', w'.heap = w.heap → (Builtin.firstCells sz len (.slice base len cap)).run P w' = .ok old w') (hnew : ∀ w', w'.heap = w.heap → (Builtin.firstCells sz n x).run P w' = .ok new w')
    {ats : Array TypeId} (ha0 : ats[0]? = some t) (ha1 : ats[1]? = some u) :
    ∃ nc rest, len + n ≤ nc ∧ rest.size = (nc - (len + n)) * sz ∧ (Builtin.append_ ats ty #[.slice base len cap, x]).run P w =
      .ok (.slice (some ⟨w.heap.size, 0, none⟩) (len + n) nc) { w with drawn := w.drawn + 1, heap := w.heap.push (.cells (old ++ new ++ rest) e) } := by
  obtain ⟨i, zv, hi, hb, hpos, hz, hzs⟩ := growT_ok hg w
  let q : Question := .appendCap (len + n) cap e
  let nc := q.cut (w.tape w.drawn q)
  refine ⟨nc, Builtin.zeroCells zv.cells (nc - (len + n)), Nat.le_add_right _ _, by simp [Builtin.zeroCells, hzs], ?_⟩
  have hbytes : ∀ w', (typeInfo e).run P w' = .ok i w' := fun w' => by simp [typeInfo, hi]
  have hnl : Builtin.nextslicecap (len + n) cap * i.bytes ≤ (2 * (len + n) + 200) * 1048576 := Nat.mul_le_mul (next_le (by omega)) hb
  have hnl' : ¬ Builtin.nextslicecap (len + n) cap * i.bytes > 2 ^ 48 := by omega
  have hmax : ¬ (((len + n : Nat) : Int) > IntKind.i64.max ∧ (false = true ∨ i.bytes = 0)) := by
    simp [IntKind.max, IntKind.bits, IntKind.signed]; omega
  have hmax' : ¬ (((len + n : Nat) : Int) > IntKind.i64.max ∧ (False ∨ i.bytes = 0)) := fun hh => hmax ⟨hh.1, hh.2.imp (fun f => f.elim) id⟩
  have a0 : (#[Value.slice base len cap, x] : Array Value)[0]? = some (.slice base len cap) := rfl
  have a1 : (#[Value.slice base len cap, x] : Array Value)[1]? = some x := rfl
  have hch : (choose (.appendCap (len + n) cap e)).run P w = .ok nc { w with drawn := w.drawn + 1 } := by rw [run_choose]; rfl
  have ho := hold { w with drawn := w.drawn + 1 } rfl
  have hn := hnew { w with drawn := w.drawn + 1 } rfl
  cases du <;> first
    | exact absurd rfl (hni _)
    | (simp only [Builtin.append_, ha0, ha1, a0, a1, Sem.run_bind, run_und hu, run_und hdu, Result.andThen_ok, szO_run hsz, Sem.run_pure, Bool.false_eq_true, if_false, hx, hc, hbytes, Bool.not_false, if_true]
       rw [if_neg hmax']
       simp only [Sem.run_bind, hbytes, Result.andThen_ok, hnl', if_false]
       rw [hch]
       simp only [Result.andThen_ok, Sem.run_bind, hbytes, run_askRoom, ho, hn, hz, Sem.run_pure]
       rfl)

theorem getD1 {x : Value} {a b : Value} : (#[a, b] : Array Value)[0]? = some a ∧ (#[a, b] : Array Value)[1]? = some b := ⟨rfl, rfl⟩

/-- a slice that has the room takes in its place -/
theorem place_run {t u ty e : TypeId} {sz n len cap : Nat} {base : Option Addr} {x : Value} {du : TypeDesc} {new : Array Value} {w' : World} (hu : P.underlying t = some (.slice e)) (hsz : szO P e = some sz)
    (hdu : P.underlying u = some du) (hni : ∀ k, du ≠ .int k) (hx : (Builtin.lenOf x).run P w = .ok n w) (hc : len + n ≤ cap)
    (hnew : (Builtin.firstCells sz n x).run P w = .ok new w) (hst : ∀ a, base = some a → (storeCells (a.add (len * sz)) new.toList).run P w = .ok () w') (hnil : base = none → w' = w)
    {ats : Array TypeId} (ha0 : ats[0]? = some t) (ha1 : ats[1]? = some u) :
    (Builtin.append_ ats ty #[.slice base len cap, x]).run P w = .ok (.slice base (len + n) cap) w' := by
  have a0 : (#[Value.slice base len cap, x] : Array Value)[0]? = some (.slice base len cap) := rfl
  have a1 : (#[Value.slice base len cap, x] : Array Value)[1]? = some x := rfl
  cases du <;> first
    | exact absurd rfl (hni _)
    | (simp only [Builtin.append_, ha0, ha1, a0, a1, Sem.run_bind, run_und hu, run_und hdu, Result.andThen_ok, szO_run hsz, Sem.run_pure, Bool.false_eq_true, if_false, hx, hc, Bool.not_false, if_true, hnew]
       cases base with
       | none => rw [hnil rfl]; rfl
       | some a => simp only [Sem.run_bind, hst a rfl, Result.andThen_ok, Sem.run_pure])


/-- the cells of a grown slice -/
theorem grown_row {cs : List SV} {old new rest : Array Value} {e : TypeId} {l : Nat} (hc : VRs E β cs (old ++ new).toList) (h1 : allOne cs = true) (β' : Bm) (hle : Le β β') {w0 : World} :
    BR E β' { w0 with heap := w0.heap.push (.cells (old ++ new ++ rest) e) } (w0.heap.size, 0, (old ++ new ++ rest).size) (.cells cs) :=
  ⟨h1, _, e, [], (old ++ new).toList, rest.toList, by simp, rfl, hc.mono hle, by simp, rfl⟩

theorem Mem.drew (m : Mem E N W F β h w) : Mem E N W F β h { w with drawn := w.drawn + 1 } := ⟨m.hr.drew, m.dj, m.lv⟩

theorem loadCells_len {a : Addr} {n : Nat} {ws : Array Value} {w1 w2 : World} (hr : (loadCells a n).run P w1 = .ok ws w2) : ws.size = n := by
  have key : ∀ (n i : Nat) (acc : Array Value) (w1 w2 : World) (ws : Array Value), (loadCellsFrom a i n acc).run P w1 = .ok ws w2 → ws.size = acc.size + n := by
    intro n
    induction n with
    | zero => intro i acc w1 w2 ws h; simp [loadCellsFrom] at h; rw [← h.1]; rfl
    | succ n ih =>
      intro i acc w1 w2 ws h
      simp only [loadCellsFrom, Sem.run_bind] at h
      cases hl : (load (a.add i)).run P w1 with
      | ok v w3 => rw [hl] at h; have := ih _ _ _ _ _ h; simp at this; omega
      | halt x w3 => rw [hl] at h; cases h
  have := key n 0 #[] w1 w2 ws hr
  simpa using this

theorem Mem.grow (m : Mem E N W F β h w) {e : TypeId} {sz n len nc : Nat} {cs : List SV} {old new rest : Array Value} (hc : VRs E β cs (old ++ new).toList) (h1 : allOne cs = true) (hlen : (old ++ new).size = (len + n) * sz)
    (hnc : len + n ≤ nc) (hrest : rest.size = (nc - (len + n)) * sz) :
    ∃ β', Post E N W F β h (h.new (.cells cs)) β' { w with drawn := w.drawn + 1, heap := w.heap.push (.cells (old ++ new ++ rest) e) } ∧
      VR E β' (.slu h.n 0 (len + n) sz) (.slice (some ⟨w.heap.size, 0, none⟩) (len + n) nc) := by
  obtain ⟨β', p, hb⟩ := m.drew.new (.cells (old ++ new ++ rest) e) (.cells cs) (old ++ new ++ rest).size fun β' hle => grown_row (l := 0) hc h1 β' hle (w0 := { w with drawn := w.drawn + 1 })
  refine ⟨β', p, ?_⟩
  refine .slu _ _ _ _ _ _ _ _ hb hnc ?_
  rw [Array.size_append, hlen, hrest]
  have : (len + n) * sz + (nc - (len + n)) * sz = nc * sz := by rw [← Nat.add_mul]; congr 1; omega
  omega

/-- the elder block is forgotten, a new one is there -/
theorem Mem.kill (m : Mem E N W F β h w) (id : Nat) {b0 : Blk} (hg : h.t.get id = some b0) : Mem E N W F β (h.kill id) w :=
  ⟨by rw [un_kill m.dj hg]; exact m.hr.sub (fun i b hb => by unfold upd at hb; split at hb; cases hb; exact hb), m.dj.grow (Grow.kill h id), m.lv.kill id⟩

/-- a block lies on under a new name -/
theorem Mem.move (m : Mem E N W F β h w) {id : Nat} {b0 bk : Blk} {b o e o2 e2 : Nat} {w' : World} (hl : h.t.get id = some b0) (hb : β id = some (b, o, e))
    (hother : ∀ k, k ≠ b → w'.heap[k]? = w.heap[k]?) (hsize : w'.heap.size = w.heap.size) (hos : w'.os = w.os) (htape : w'.tape = w.tape) (hout : w'.output = w.output)
    (hbr : BR E (β.add h.n (b, o2, e2)) w' (b, o2, e2) bk) : Post E N W F β h ((h.kill id).new bk) (β.add h.n (b, o2, e2)) w' := by
  have hn : β h.n = none := m.hr.dom _ (Nat.le_refl _)
  have g1 := Grow.kill h id
  have g2 := Grow.new (h.kill id) bk
  refine ⟨fun i hi => Bm.add_other _ _ _ (by omega), ⟨?_, m.dj.grow (g1.trans g2), (m.lv.kill id).new bk⟩, g1.trans g2⟩
  rw [un_new, un_kill m.dj hl]
  exact (m.hr.more (Nat.le_succ _)).rename (un_some hl) hb hn (Nat.lt_succ_self _) hother hsize hos htape hout hbr

theorem firstS_len {x : SV} {sz n : Nat} {cs : List SV} (hl : lenS x = some n) (hf : firstS h sz n x = some cs) : cs.length = n * sz := by
  unfold firstS at hf
  split at hf
  · simp only [lenS, Option.some.injEq] at hl; subst hl
    simp only [Option.some.injEq] at hf; subst hf; simp
  · simp only [lenS, Option.some.injEq] at hl; subst hl
    simp only [Option.some.injEq, nbeq, decide_true, cond_true] at hf; subst hf; simp
  · split at hf
    · exact (lseg_some hf).2.2
    · cases hf
  · split at hf
    · exact (lseg_some hf).2.2
    · cases hf
  · cases hf

theorem first0 {x : SV} {v : Value} {sz : Nat} (hx : VR E β x v) (hl : lenS x = some 0) (w' : World) : (Builtin.firstCells sz 0 v).run P w' = .ok #[] w' := by
  unfold lenS at hl
  cases hx <;> simp only at hl <;> first | (cases hl; done) | (simp [Builtin.firstCells, loadCells, loadCellsFrom])

theorem appendA_ok (m : Mem E N W F β h w) {t u ty : TypeId} {du : TypeDesc} {s x r : SV} {vs vx : Value} {h' : Hp} (hs : VR E β s vs) (hx : VR E β x vx) (hdu : P.underlying u = some du) (hni : ∀ k, du ≠ .int k)
    (ha : appendA P h t s x = some (r, h')) {ats : Array TypeId} (ha0 : ats[0]? = some t) (ha1 : ats[1]? = some u) :
    ∃ v w' β', (Builtin.append_ ats ty #[vs, vx]).run P w = .ok v w' ∧ Post E N W F β h h' β' w' ∧ VR E β' r v := by
  unfold appendA at ha
  split at ha
  · cases ha
  · rename_i e sz he
    obtain ⟨hu, hsz⟩ := elemO_ok he
    split at ha
    · cases ha
    · rename_i n hn
      have hlen := (lenS_ok (P := P) (w := w) hx hn).1
      cases h0 : Nat.beq n 0
      · rw [h0] at ha
        simp only [cond_false] at ha
        have hn0 : n ≠ 0 := Nat.ne_of_beq_eq_false h0
        split at ha
        · cases ha
        · rename_i new hnew
          obtain ⟨nw, k1, k2, k3⟩ := firstS_ok (P := P) m hx hnew
          have knl := firstS_len hn hnew
          have knw : nw.size = n * sz := by rw [← knl]; have := k2.length; simpa using this.symm
          unfold appendS at ha
          split at ha
          · -- nil
            cases hs
            cases hb : (Nat.blt n 1048576 && growT P e sz)
            · rw [hb] at ha; cases ha
            · rw [hb] at ha
              simp only [Bool.and_eq_true] at hb
              have hlt : n < 1048576 := by have := hb.1; rw [blt_eq] at this; simpa using this
              simp only [cond_true, Option.some.injEq, Prod.mk.injEq] at ha
              obtain ⟨rfl, rfl⟩ := ha
              obtain ⟨nc, rest, g1, g2, g3⟩ := grow_run (P := P) (w := w) (ty := ty) (base := none) (len := 0) (cap := 0) (old := #[]) (new := nw) hu hsz hdu hni hlen (by omega) (by omega) hb.2 (fun w' _ => rfl) k1 ha0 ha1
              obtain ⟨β', p, hv⟩ := m.grow (e := e) (sz := sz) (n := n) (len := 0) (cs := new) (old := #[]) (new := nw) (rest := rest) (nc := nc) (by simpa using k2) k3 (by simpa using knw) g1 g2
              refine ⟨_, _, β', g3, p, ?_⟩
              simpa using hv
          · rename_i id off len cap
            cases hs
            rename_i b o e' hb
            cases hc : Nat.ble (Nat.add len n) cap
            · rw [hc] at ha
              have hnc : ¬ len + n ≤ cap := fun hle => by rw [show Nat.ble (Nat.add len n) cap = true from Nat.ble_eq_true_of_le hle] at hc; cases hc
              simp only [cond_false] at ha
              split at ha
              · rename_i old hold
                cases hb2 : (Nat.blt (Nat.add len n) 1048576 && growT P e sz)
                · rw [hb2] at ha; cases ha
                · rw [hb2] at ha
                  simp only [Bool.and_eq_true] at hb2
                  have hlt : len + n < 1048576 := by have := hb2.1; rw [blt_eq] at this; simpa using this
                  simp only [cond_true, Option.some.injEq, Prod.mk.injEq] at ha
                  obtain ⟨rfl, rfl⟩ := ha
                  obtain ⟨ow, l1, l2, l3⟩ := firstS_ok (P := P) m (VR.sli id off len cap b o e' hb) hold
                  have kol := firstS_len (x := .sli id off len cap) rfl hold
                  have kow : ow.size = len * sz := by rw [← kol]; have := l2.length; simpa using this.symm
                  obtain ⟨nc, rest, g1, g2, g3⟩ := grow_run (P := P) (w := w) (ty := ty) (base := some ⟨b, o + off, none⟩) (len := len) (cap := cap) (old := ow) (new := nw) hu hsz hdu hni hlen hnc hlt hb2.2 l1 k1 ha0 ha1
                  obtain ⟨β', p, hv⟩ := m.grow (e := e) (sz := sz) (n := n) (len := len) (cs := old ++ new) (old := ow) (new := nw) (rest := rest) (nc := nc) (by simpa using l2.append k2) (allOne_append l3 k3)
                    (by simp [kow, knw, Nat.add_mul]) g1 g2
                  exact ⟨_, _, β', g3, p, hv⟩
              · cases ha
            · rw [hc] at ha
              have hnc : len + n ≤ cap := Nat.le_of_ble_eq_true hc
              simp only [cond_true] at ha
              split at ha
              · rename_i l hl
                split at ha
                · rename_i l' hput
                  simp only [Option.some.injEq, Prod.mk.injEq] at ha
                  obtain ⟨rfl, rfl⟩ := ha
                  obtain ⟨b', o', e'', c, ty', pre, ws, post, q1, q2, q3, q4, q5, q6, q7⟩ := m.row hl
                  rw [hb] at q1; cases q1
                  obtain ⟨w', r1, r2, r3, r4, r5, r6, r7⟩ := store_row (P := P) q3 q4 q5 q2 q6 q7 k2 k3 hput
                  refine ⟨_, w', β, place_run (P := P) (base := some ⟨b, o + off, none⟩) (len := len) (cap := cap) (new := nw) hu hsz hdu hni hlen hnc (k1 w rfl) (fun a ha => ?_) (fun h => by cases h) ha0 ha1, m.turn hl hb r2 r3 r4 r5 r6 r7, .sli _ _ _ _ _ _ _ hb⟩
                  cases ha
                  rw [addr_add, Nat.add_assoc]
                  exact r1
                · cases ha
              · cases ha
          · rename_i id off len sz'
            split at ha
            · rename_i old hold
              cases hb2 : (Nat.beq sz sz' && Nat.blt (Nat.add len n) 1048576 && growT P e sz)
              · rw [hb2] at ha; cases ha
              · rw [hb2] at ha
                simp only [Bool.and_eq_true] at hb2
                have hss : sz = sz' := Nat.eq_of_beq_eq_true hb2.1.1
                subst hss
                have hlt : len + n < 1048576 := by have := hb2.1.2; rw [blt_eq] at this; simpa using this
                simp only [cond_true, Option.some.injEq, Prod.mk.injEq] at ha
                obtain ⟨rfl, rfl⟩ := ha
                obtain ⟨ow, l1, l2, l3⟩ := firstS_ok (P := P) m hs hold
                have kol := firstS_len (x := .slu id off len sz) rfl hold
                have kow : ow.size = len * sz := by rw [← kol]; have := l2.length; simpa using this.symm
                cases hs
                rename_i b o e' c hb hnc hce
                -- the elder block
                have hl : ∃ l, h.t.get id = some (.cells l) := by
                  unfold firstS at hold
                  simp only at hold
                  split at hold
                  · rename_i l hl; exact ⟨l, hl⟩
                  · cases hold
                obtain ⟨l, hl⟩ := hl
                have hseg : lseg l off (Nat.mul len sz) = some old := by
                  unfold firstS at hold
                  simp only [hl] at hold
                  exact hold
                obtain ⟨b', o', e'', cc, ty', pre, ws, post, q1, q2, q3, q4, q5, q6, q7⟩ := m.row hl
                rw [hb] at q1; cases q1
                by_cases hroom : len + n ≤ c
                · -- in its place
                  have hfit : o + off + (len + n) * sz ≤ cc.size := by
                    have := Nat.mul_le_mul_right sz hroom
                    omega
                  have hrun := run_storeCells_at (P := P) b (o + off + len * sz) ty' nw.toList 0 cc w q3 (by simp [knw, Nat.add_mul] at hfit ⊢; omega) (k2.one k3)
                  have hsegs := lseg_some hseg
                  have hold2 : (cc.toList.drop (o + off)).take (len * sz) = ow.toList := by
                    have e1 := l1 w rfl
                    have e2 := loadCells_ok (P := P) (w := w) (b := b) (o := o + off) (vs := ws) (off := off) (n := len * sz) (fun j x hx => by
                      rw [cell_row q3, Nat.add_assoc, ← q7]; exact cell_pre q6 hx) (fun h0 => by have := hsegs.1 h0; rw [q5.length] at this; exact this)
                    have e3 : (Builtin.firstCells sz len (.slice (some ⟨b, o + off, none⟩) len c)).run P w = .ok ((ws.drop off).take (len * sz)).toArray w := e2
                    rw [e1] at e3
                    simp only [Result.ok.injEq, and_true] at e3
                    rw [e3, q6, ← q7]
                    simp only [List.toList_toArray]
                    by_cases hz0 : len * sz = 0
                    · rw [hz0]; simp
                    · have hh := hsegs.1 hz0
                      rw [q5.length] at hh
                      have hh' : off + len * sz ≤ ws.length := hh
                      rw [List.drop_length_add_append, List.drop_append_of_le_length (by omega), List.take_append_of_le_length (by simp; omega)]
                  have hpost : Post E N W F β h ((h.kill id).new (.cells (old ++ new))) (β.add h.n (b, o + off, cc.size)) (w.setRow b (cc.toList.take (o + off + len * sz + 0) ++ nw.toList ++ cc.toList.drop (o + off + len * sz + 0 + nw.toList.length)).toArray) := by
                    refine m.move hl hb (fun k hk => setRow_other w b k _ hk) (size_setRow _ _ _) rfl rfl rfl ?_
                    have hle : Le β (β.add h.n (b, o + off, cc.size)) := Bm.add_le (m.hr.dom _ (Nat.le_refl _))
                    have hnl : nw.toList.length = n * sz := by simpa using knw
                    have hfit2 : o + off + len * sz + n * sz ≤ cc.toList.length := by
                      have : (len + n) * sz = len * sz + n * sz := Nat.add_mul _ _ _
                      simp only [Array.length_toList]; omega
                    refine ⟨allOne_append l3 k3, _, ty', cc.toList.take (o + off), ow.toList ++ nw.toList, cc.toList.drop (o + off + len * sz + 0 + nw.toList.length), setRow_heap w b cc _ ty' _ q3, ?_, (l2.append k2).mono hle, ?_, ?_⟩
                    · simp only [List.size_toArray, List.length_append, List.length_take, List.length_drop, hnl]
                      simp only [Array.length_toList] at hfit2 ⊢
                      omega
                    · rw [← hold2]
                      simp only [Nat.add_zero, List.append_assoc]
                      rw [← List.append_assoc (cc.toList.take (o + off)), ← List.take_add]
                    · rw [List.length_take]; exact Nat.min_eq_left (by omega)
                  refine ⟨_, _, _, place_run (P := P) (base := some ⟨b, o + off, none⟩) (len := len) (cap := c) (new := nw) hu hsz hdu hni hlen hroom (k1 w rfl) (fun a ha => by cases ha; rw [addr_add]; exact hrun) (fun h => by cases h) ha0 ha1, hpost, ?_⟩
                  have hv : VR E (β.add h.n (b, o + off, cc.size)) (.slu h.n 0 (len + n) sz) (.slice (some ⟨b, (o + off) + 0, none⟩) (len + n) c) :=
                    .slu h.n 0 (len + n) sz b (o + off) cc.size c (Bm.add_same _ _ _) hroom (by omega)
                  exact hv
                · obtain ⟨nc, rest, g1, g2, g3⟩ := grow_run (P := P) (w := w) (ty := ty) (base := some ⟨b, o + off, none⟩) (len := len) (cap := c) (old := ow) (new := nw) hu hsz hdu hni hlen hroom hlt hb2.2 l1 k1 ha0 ha1
                  obtain ⟨β', p, hv⟩ := (m.kill id hl).grow (e := e) (sz := sz) (n := n) (len := len) (cs := old ++ new) (old := ow) (new := nw) (rest := rest) (nc := nc) (by simpa using l2.append k2) (allOne_append l3 k3)
                    (by simp [kow, knw, Nat.add_mul]) g1 g2
                  exact ⟨_, _, β', g3, ⟨p.ext, p.mem, (Grow.kill h id).trans p.grow⟩, hv⟩
            · cases ha
          · cases ha
      · rw [h0] at ha
        have hn0 : n = 0 := Nat.eq_of_beq_eq_true h0
        subst hn0
        simp only [cond_true] at ha
        have hf0 := first0 (P := P) (sz := sz) hx hn w
        unfold append0 at ha
        split at ha
        · cases hs
          simp only [Option.some.injEq, Prod.mk.injEq] at ha
          obtain ⟨rfl, rfl⟩ := ha
          exact ⟨_, w, β, place_run (P := P) (base := none) (len := 0) (cap := 0) (new := #[]) hu hsz hdu hni hlen (by omega) hf0 (fun a ha => by cases ha) (fun _ => rfl) ha0 ha1, Post.same m, .nils⟩
        · rename_i id off len cap
          cases hs
          rename_i b o e' hb
          cases hc : Nat.ble len cap
          · rw [hc] at ha; cases ha
          · rw [hc] at ha
            simp only [cond_true, Option.some.injEq, Prod.mk.injEq] at ha
            obtain ⟨rfl, rfl⟩ := ha
            exact ⟨_, w, β, place_run (P := P) (base := some _) (len := len) (cap := cap) (new := #[]) hu hsz hdu hni hlen (Nat.le_of_ble_eq_true hc) hf0 (fun a ha => rfl) (fun h => by cases h) ha0 ha1, Post.same m, .sli _ _ _ _ _ _ _ hb⟩
        · rename_i id off len sz'
          cases hs
          rename_i b o e' c hb hnc hce
          simp only [Option.some.injEq, Prod.mk.injEq] at ha
          obtain ⟨rfl, rfl⟩ := ha
          exact ⟨_, w, β, place_run (P := P) (base := some _) (len := len) (cap := c) (new := #[]) hu hsz hdu hni hlen hnc hf0 (fun a ha => rfl) (fun h => by cases h) ha0 ha1, Post.same m, .slu _ _ _ _ _ _ _ _ hb hnc hce⟩
        · cases ha
end
end
end Go.Proofs.YtgfahpnndmocbaaGreatDoor.Sx
