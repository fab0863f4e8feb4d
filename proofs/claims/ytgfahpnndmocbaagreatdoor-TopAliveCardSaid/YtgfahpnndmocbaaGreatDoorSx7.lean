/-
  The executor's operations on memory are the model's: reading and writing.
-/
import Derived.Test.YtgfahpnndmocbaaGreatDoorSx6
namespace Go.Proofs.YtgfahpnndmocbaaGreatDoor.Sx
noncomputable section
open Go Go.RowKit
set_option linter.unusedVariables false
set_option linter.unusedSimpArgs false

/-- the executor's memory, with what stands beside it -/
def un (h : Hp) (F : Nat → Option Blk) : Nat → Option Blk := fun id => match h.t.get id with | some b => some b | none => F id
def Dj (h : Hp) (F : Nat → Option Blk) : Prop := ∀ id b, F id = some b → id < h.n ∧ h.t.get id = none
def Lv (h : Hp) : Prop := ∀ id b, h.t.get id = some b → id < h.n
def Grow (h h' : Hp) : Prop := h.n ≤ h'.n ∧ ∀ id, id < h.n → h.t.get id = none → h'.t.get id = none
theorem Grow.refl (h : Hp) : Grow h h := ⟨Nat.le_refl _, fun _ _ e => e⟩
theorem Grow.trans {a b c : Hp} (h : Grow a b) (k : Grow b c) : Grow a c := ⟨Nat.le_trans h.1 k.1, fun id hi e => k.2 id (Nat.lt_of_lt_of_le hi h.1) (h.2 id hi e)⟩
theorem Dj.grow {h h' : Hp} {F : Nat → Option Blk} (d : Dj h F) (k : Grow h h') : Dj h' F := fun id b e => let ⟨a, c⟩ := d id b e; ⟨Nat.lt_of_lt_of_le a k.1, k.2 id a c⟩
theorem un_some {h : Hp} {F : Nat → Option Blk} {id : Nat} {b : Blk} (e : h.t.get id = some b) : un h F id = some b := by simp [un, e]
theorem un_put {h : Hp} {F : Nat → Option Blk} (id : Nat) (b : Blk) : un (h.put id b) F = upd (un h F) id (some b) := by
  funext i
  simp only [un, upd, Hp.put, Tr.get_set]
  by_cases e : i = id <;> simp [e]
theorem un_new {h : Hp} {F : Nat → Option Blk} (b : Blk) : un (h.new b) F = upd (un h F) h.n (some b) := by
  funext i
  simp only [un, upd, Hp.new, Tr.get_set]
  by_cases e : i = h.n <;> simp [e]
theorem un_kill {h : Hp} {F : Nat → Option Blk} (d : Dj h F) {id : Nat} {b0 : Blk} (e0 : h.t.get id = some b0) : un (h.kill id) F = upd (un h F) id none := by
  funext i
  simp only [un, upd, Hp.kill, Tr.get_set]
  by_cases e : i = id
  · subst e
    simp only [if_true]
    cases hF : F i with
    | none => rfl
    | some c => have := (d i c hF).2; rw [e0] at this; cases this
  · simp [e]
theorem Grow.new (h : Hp) (b : Blk) : Grow h (h.new b) := ⟨Nat.le_succ _, fun id hi e => by simp only [Hp.new, Tr.get_set]; rw [if_neg (by omega)]; exact e⟩
theorem Grow.put {h : Hp} {id : Nat} {b0 : Blk} (b : Blk) (e0 : h.t.get id = some b0) : Grow h (h.put id b) :=
  ⟨Nat.le_refl _, fun i hi e => by simp only [Hp.put, Tr.get_set]; rw [if_neg (by rintro rfl; rw [e0] at e; cases e)]; exact e⟩
theorem Grow.kill (h : Hp) (id : Nat) : Grow h (h.kill id) :=
  ⟨Nat.le_refl _, fun i hi e => by simp only [Hp.kill, Tr.get_set]; split; rfl; exact e⟩
theorem Lv.new {h : Hp} (l : Lv h) (b : Blk) : Lv (h.new b) := fun id c e => by
  simp only [Hp.new, Tr.get_set] at e ⊢
  by_cases hi : id = h.n
  · subst hi; exact Nat.lt_succ_self _
  · rw [if_neg hi] at e; exact Nat.lt_succ_of_lt (l id c e)
theorem Lv.put {h : Hp} (l : Lv h) {id : Nat} {b0 : Blk} (b : Blk) (e0 : h.t.get id = some b0) : Lv (h.put id b) := fun i c e => by
  simp only [Hp.put, Tr.get_set] at e ⊢
  by_cases hi : i = id
  · subst hi; exact l _ _ e0
  · rw [if_neg hi] at e; exact l i c e
theorem Lv.kill {h : Hp} (l : Lv h) (id : Nat) : Lv (h.kill id) := fun i c e => by
  simp only [Hp.kill, Tr.get_set] at e ⊢
  by_cases hi : i = id
  · rw [if_pos hi] at e; cases e
  · rw [if_neg hi] at e; exact l i c e

section
variable {P : Program} {E : En} {N : Nat} {W : World} {β : Bm} {h : Hp} {F : Nat → Option Blk} {w : World}

/-- The executor's memory lies in a world. -/
structure Mem (E : En) (N : Nat) (W : World) (F : Nat → Option Blk) (β : Bm) (h : Hp) (w : World) : Prop where
  hr : HR E N W β h.n (un h F) w
  dj : Dj h F
  lv : Lv h

/-- What comes of an operation that gives a value. -/
structure Post (E : En) (N : Nat) (W : World) (F : Nat → Option Blk) (β : Bm) (h h' : Hp) (β' : Bm) (w' : World) : Prop where
  ext : Ext β β' h.n
  mem : Mem E N W F β' h' w'
  grow : Grow h h'

theorem Post.le {h' : Hp} {β' : Bm} {w' : World} (m : Mem E N W F β h w) (p : Post E N W F β h h' β' w') : Le β β' := p.ext.le m.hr
theorem Post.trans {h1 h2 : Hp} {β1 β2 : Bm} {w1 w2 : World} (p : Post E N W F β h h1 β1 w1) (q : Post E N W F β1 h1 h2 β2 w2) : Post E N W F β h h2 β2 w2 :=
  ⟨p.ext.trans q.ext p.grow.1, q.mem, p.grow.trans q.grow⟩
theorem Post.same (m : Mem E N W F β h w) : Post E N W F β h h β w := ⟨Ext.refl _ _, m, Grow.refl h⟩

/-- a new block -/
theorem Mem.new (m : Mem E N W F β h w) (o : Obj) (b : Blk) (e : Nat)
    (hb : ∀ β', Le β β' → BR E β' { w with heap := w.heap.push o } (w.heap.size, 0, e) b) :
    ∃ β', Post E N W F β h (h.new b) β' { w with heap := w.heap.push o } ∧ β' h.n = some (w.heap.size, 0, e) := by
  have hn : β h.n = none := m.hr.dom _ (Nat.le_refl _)
  refine ⟨β.add h.n (w.heap.size, 0, e), ⟨fun id hi => Bm.add_other _ _ _ (by omega), ⟨?_, m.dj.grow (Grow.new h b), m.lv.new b⟩, Grow.new h b⟩, Bm.add_same _ _ _⟩
  rw [un_new]
  exact (m.hr.more (Nat.le_succ _)).new h.n hn (Nat.lt_succ_self _) o b e (hb _ (Bm.add_le hn))

/-- a block turns -/
theorem Mem.turn (m : Mem E N W F β h w) {id : Nat} {b0 : Blk} {p : Nat × Nat × Nat} (hg : h.t.get id = some b0) (hp : β id = some p) {w' : World}
    (hother : ∀ k, k ≠ p.1 → w'.heap[k]? = w.heap[k]?) (hsize : w'.heap.size = w.heap.size) (hos : w'.os = w.os) (htape : w'.tape = w.tape) (hout : w'.output = w.output)
    {b : Blk} (hb : BR E β w' p b) : Post E N W F β h (h.put id b) β w' := by
  refine ⟨Ext.refl _ _, ⟨?_, m.dj.grow (Grow.put b hg), m.lv.put b hg⟩, Grow.put b hg⟩
  rw [un_put]
  exact m.hr.turn (un_some hg) hp hother hsize hos htape hout hb

/-- a row of cells in a world -/
theorem Mem.row (m : Mem E N W F β h w) {id : Nat} {l : List SV} (hg : h.t.get id = some (.cells l)) :
    ∃ b o e c t pre vs post, β id = some (b, o, e) ∧ allOne l = true ∧ w.heap[b]? = some (.cells c t (0, 0)) ∧ c.size = e ∧ VRs E β l vs ∧ c.toList = pre ++ (vs ++ post) ∧ pre.length = o := by
  obtain ⟨⟨b, o, e⟩, h1, h2, h3, c, t, pre, vs, post, h4⟩ := m.hr.live id _ (un_some hg)
  exact ⟨b, o, e, c, t, pre, vs, post, h1, h3, h4⟩

theorem cell_row {b : Nat} {c : Array Value} {t : TypeId} (hw : w.heap[b]? = some (.cells c t (0, 0))) (j : Nat) : w.cell? ⟨b, j, none⟩ = c[j]? := by
  simp [World.cell?, hw]
theorem cell_pre {c : Array Value} {pre vs post : List Value} (hc : c.toList = pre ++ (vs ++ post)) {j : Nat} {x : Value} (hx : vs[j]? = some x) : c[pre.length + j]? = some x := by
  have hj : j < vs.length := (List.getElem?_eq_some_iff.1 hx).1
  have : c.toList[pre.length + j]? = some x := by
    rw [hc, List.getElem?_append_right (by omega), Nat.add_sub_cancel_left, List.getElem?_append_left hj]; exact hx
  simpa using this

variable (G : Nat → Option (List SV))
/-- What is known of the package's variables. -/
def Gok (E : En) (N : Nat) (W : World) (G : Nat → Option (List SV)) : Prop :=
  ∀ g l, G g = some l → g < N ∧ allOne l = true ∧ ∃ c t fr vs post, W.heap[g]? = some (.cells c t fr) ∧ VRs E (fun _ => none) l vs ∧ c.toList = vs ++ post

theorem none_le (β : Bm) : Le (fun _ => none) β := fun _ _ e => by cases e

theorem cellsAt_ok (hG : Gok E N W G) (m : Mem E N W F β h w) {a : SV} {v : Value} (ha : VR E β a v) {l : List SV} {off : Nat} (hc : cellsAt G h a = some (l, off)) :
    ∃ b o vs, v = .pointer (some ⟨b, o, none⟩) ∧ allOne l = true ∧ VRs E β l vs ∧ ∀ j x, vs[off + j]? = some x → w.cell? ⟨b, o + j, none⟩ = some x := by
  unfold cellsAt at hc
  cases ha <;> simp only at hc <;> try (cases hc; done)
  · rename_i id off' b o e hb
    split at hc
    · rename_i l' hl
      simp only [Option.some.injEq, Prod.mk.injEq] at hc
      obtain ⟨rfl, rfl⟩ := hc
      obtain ⟨b', o', e', c, t, pre, vs, post, h1, h2, h3, h4, h5, h6, h7⟩ := m.row hl
      rw [hb] at h1; cases h1
      refine ⟨b, o + off', vs, rfl, h2, h5, fun j x hx => ?_⟩
      rw [cell_row h3, Nat.add_assoc, ← h7]
      exact cell_pre h6 hx
    · rename_i l' hl
      simp only [Option.some.injEq, Prod.mk.injEq] at hc
      obtain ⟨rfl, rfl⟩ := hc
      obtain ⟨⟨b', o', e'⟩, h1, h2, h3, c, t, fr, vs, post, h4, h5, h6, h7, h8⟩ := m.hr.live id _ (un_some hl)
      rw [hb] at h1; cases h1
      simp only at h4 h8
      subst h8
      refine ⟨b, 0 + off', vs, rfl, h3, h6, fun j x hx => ?_⟩
      have := cell_pre (pre := []) (c := c) (vs := vs) (post := post) (by simpa using h7) hx
      simp [World.cell?, h4]
      simpa using this
    · cases hc
  · rename_i g off'
    split at hc
    · rename_i l' hl
      simp only [Option.some.injEq, Prod.mk.injEq] at hc
      obtain ⟨rfl, rfl⟩ := hc
      obtain ⟨h0, h1, c, t, fr, vs, post, h2, h3, h4⟩ := hG _ _ hl
      refine ⟨g, off', vs, rfl, h1, h3.mono (none_le β), fun j x hx => ?_⟩
      have hw : w.heap[g]? = some (.cells c t fr) := (m.hr.old.block g h0).trans h2
      have := cell_pre (pre := []) (c := c) (vs := vs) (post := post) (by simpa using h4) hx
      simp [World.cell?, hw]
      simpa using this
    · cases hc

theorem addr_add (b o n : Nat) : (⟨b, o, none⟩ : Addr).add n = ⟨b, o + n, none⟩ := by
  unfold Addr.add; split <;> simp_all

/-- cells that stand in a row are read -/
theorem loadCells_ok {b o : Nat} {vs : List Value} {off n : Nat} (hc : ∀ j x, vs[off + j]? = some x → w.cell? ⟨b, o + j, none⟩ = some x) (hn : n ≠ 0 → off + n ≤ vs.length) :
    (loadCells ⟨b, o, none⟩ n).run P w = .ok ((vs.drop off).take n).toArray w := by
  have hl : ((vs.drop off).take n).length = n := by
    rw [List.length_take, List.length_drop]
    by_cases h0 : n = 0
    · subst h0; simp
    · have := hn h0; omega
  have := run_loadCells_list (P := P) w ⟨b, o, none⟩ ((vs.drop off).take n) (fun j v hv => by
    rw [addr_add]
    apply hc
    rw [List.getElem?_take] at hv
    split at hv
    · rw [List.getElem?_drop] at hv; exact hv
    · cases hv)
  rw [hl] at this
  exact this

theorem loadVar_ok {b o : Nat} {l : List SV} {vs : List Value} {off : Nat} {t : TypeId} {r : SV} (hl : VRs E β l vs) (h1 : allOne l = true)
    (hc : ∀ j x, vs[off + j]? = some x → w.cell? ⟨b, o + j, none⟩ = some x) (hp : part P t l off = some r) :
    ∃ v, (loadVar t ⟨b, o, none⟩).run P w = .ok v w ∧ VR E β r v := by
  unfold part at hp
  split at hp
  · rename_i ha
    split at hp
    · rename_i n hn
      split at hp
      · rename_i q hq
        simp only [Option.some.injEq] at hp; subst hp
        obtain ⟨e1, e2, e3⟩ := lseg_some hq
        have := loadCells_ok (P := P) hc (n := n) (fun h0 => by have := e1 h0; rw [hl.length] at this; exact this)
        refine ⟨.agg ((vs.drop off).take n).toArray, by simp [loadVar, aggO_run ha, szO_run hn, this], ?_⟩
        refine .agg _ _ ?_ ?_
        · rw [e2]; simpa using (hl.drop off).take n
        · rw [e2]; exact allOne_take (allOne_drop h1 _) _
      · cases hp
    · cases hp
  · rename_i ha
    rw [lget_eq] at hp
    obtain ⟨v, hv, hr⟩ := hl.get hp
    have := hc 0 v (by simpa using hv)
    exact ⟨v, by simp [loadVar, aggO_run ha]; simp [show w.cell? ⟨b, o, none⟩ = some v from this], hr⟩
  · cases hp

theorem loadA_ok (hG : Gok E N W G) (m : Mem E N W F β h w) {t : TypeId} {a r : SV} {v : Value} (ha : VR E β a v) (hl : loadA P G h t a = some r) :
    ∃ x, (Instr.loadAt t v).run P w = .ok x w ∧ VR E β r x := by
  unfold loadA at hl
  split at hl
  · rename_i l off hc
    obtain ⟨b, o, vs, rfl, h1, h2, h3⟩ := cellsAt_ok G hG m ha hc
    obtain ⟨x, hx, hr⟩ := loadVar_ok (P := P) (t := t) h2 h1 h3 hl
    exact ⟨x, by simp [Instr.loadAt, Instr.sureAddr, hx], hr⟩
  · cases hl

/-- writing cells over a row -/
theorem store_row {b o e : Nat} {l l' cs : List SV} {c : Array Value} {t : TypeId} {pre vs post ws : List Value} {off : Nat} (hw : w.heap[b]? = some (.cells c t (0, 0))) (he : c.size = e)
    (hl : VRs E β l vs) (h1 : allOne l = true) (hc : c.toList = pre ++ (vs ++ post)) (hp : pre.length = o) (hcs : VRs E β cs ws) (hc1 : allOne cs = true) (hput : lput l off cs = some l') :
    ∃ w', (storeCells ⟨b, o + off, none⟩ ws).run P w = .ok () w' ∧ (∀ k, k ≠ b → w'.heap[k]? = w.heap[k]?) ∧ w'.heap.size = w.heap.size ∧ w'.os = w.os ∧ w'.tape = w.tape ∧ w'.output = w.output ∧
      BR E β w' (b, o, e) (.cells l') := by
  obtain ⟨e1, e2⟩ := lput_some hput
  have hlen := hl.length
  have hclen := hcs.length
  have hsz : c.size = pre.length + (vs.length + post.length) := by
    have := congrArg List.length hc; simpa using this
  cases hws : ws with
  | nil =>
    subst hws
    have : cs = [] := List.eq_nil_of_length_eq_zero (by simpa using hclen)
    subst this
    simp at e1; subst e1
    exact ⟨w, rfl, fun _ _ => rfl, rfl, rfl, rfl, rfl, h1, c, t, pre, vs, post, hw, he, hl, hc, hp⟩
  | cons y ys =>
    rw [← hws]
    have hne : cs ≠ [] := by rintro rfl; rw [hws] at hclen; simp at hclen
    have hfit := e2 hne
    rw [hlen, hclen] at hfit
    have hrun := run_storeCells_at (P := P) b (o + off) t ws 0 c w hw (by rw [hsz, ← hp]; omega) (hcs.one hc1)
    refine ⟨_, hrun, fun k hk => setRow_other w b k _ hk, size_setRow _ _ _, rfl, rfl, rfl, ?_⟩
    have hsplit : c.toList.take (o + off + 0) ++ ws ++ c.toList.drop (o + off + 0 + ws.length) = pre ++ ((vs.take off ++ ws ++ vs.drop (off + ws.length)) ++ post) := by
      rw [hc, ← hp]
      simp only [Nat.add_zero]
      rw [List.take_length_add_append, Nat.add_assoc, List.drop_length_add_append, List.take_append_of_le_length (by omega), List.drop_append_of_le_length (by omega)]
      simp [List.append_assoc]
    refine ⟨?_, _, t, pre, vs.take off ++ ws ++ vs.drop (off + ws.length), post, setRow_heap w b c _ t _ hw, ?_, ?_, ?_, hp⟩
    · rw [e1]; exact allOne_append (allOne_append (allOne_take h1 _) hc1) (allOne_drop h1 _)
    · rw [hsplit]; simp [hsz] at he ⊢; omega
    · rw [e1, hclen]; exact ((hl.take off).append hcs).append (hl.drop _)
    · rw [hsplit]

theorem storeA_ok (m : Mem E N W F β h w) {t : TypeId} {a v : SV} {va vv : Value} {h' : Hp} (ha : VR E β a va) (hv : VR E β v vv) (hs : storeA P h t a v = some h') :
    ∃ w', (Instr.storeAt t va vv).run P w = .ok () w' ∧ Post E N W F β h h' β w' := by
  unfold storeA at hs
  cases ha <;> simp only at hs <;> try (cases hs; done)
  rename_i id off b o e hb
  split at hs
  · rename_i l hl
    split at hs
    · rename_i n hn
      split at hs
      · rename_i cs hcs
        cases hb2 : Nat.beq cs.length n
        · rw [hb2] at hs; cases hs
        · rw [hb2] at hs
          have hcn : cs.length = n := Nat.eq_of_beq_eq_true hb2
          simp only [cond_true] at hs
          split at hs
          · rename_i l' hput
            simp only [Option.some.injEq] at hs; subst hs
            obtain ⟨hc1, hc2⟩ := hv.cells hcs
            obtain ⟨b', o', e', c, ty, pre, vs, post, k1, k2, k3, k4, k5, k6, k7⟩ := m.row hl
            rw [hb] at k1; cases k1
            obtain ⟨w', r1, r2, r3, r4, r5, r6, r7⟩ := store_row (P := P) k3 k4 k5 k2 k6 k7 hc1 hc2 hput
            refine ⟨w', ?_, m.turn hl hb r2 r3 r4 r5 r6 r7⟩
            have hsz : vv.cells.size = n := by rw [← hcn]; have := hc1.length; simpa using this.symm
            simp only [Instr.storeAt, Instr.sureAddr, storeVar, Sem.run_bind, Sem.run_pure, Result.andThen_ok, szO_run hn, hsz, ne_eq, not_true_eq_false, if_false]
            exact r1
          · cases hs
      · cases hs
    · cases hs
  · cases hs
end
end
end Go.Proofs.YtgfahpnndmocbaaGreatDoor.Sx
