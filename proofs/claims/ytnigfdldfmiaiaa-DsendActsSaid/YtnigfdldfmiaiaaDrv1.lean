/- A receiver: how it lies; edge, may, Ended. -/
import Derived.Test.YtnigfdldfmiaiaaSpan20
import Derived.Test.YtnigfdldfmiaiaaSpan21
import Derived.Maps.OwnOps
import Derived.Maps.OwnSet
namespace Go.Proofs.Ytnigfdldfmiaiaa
open Go.ChangeShapes Go.WideShapes Go.ChangeAt Go.RowKit Go.Maps
set_option linter.unusedVariables false
set_option linter.unusedSimpArgs false
/-! A map of numbers to bytes that the call has made. -/
def MapB (w : World) (b n : Nat) (E : Int → Int) : Prop :=
  ∃ D : DataW Unit, w.ownsMap Try.prog 3 (plainElem Try.prog 5) b n D ∧ ∀ x : Int, D.atKey (.int .i64 x) (.lit (.int .u8 0)) = .lit (.int .u8 (E x))
theorem kI : Keyed Try.prog 3 := int_keyed Try.underlying3
theorem zeroU8 (w : World) : (zeroValue 5).run Try.prog w = .ok (.int .u8 0) w := by kernel_rfl
theorem wf64 {x : Int} (h : -9223372036854775808 ≤ x ∧ x ≤ 9223372036854775807) : (Lit.int .i64 x).wf = true := by have h1 : IntKind.i64.min = -9223372036854775808 := rfl; have h2 : IntKind.i64.max = 9223372036854775807 := rfl; simp [Lit.wf, h1, h2]; omega
theorem wf8 {x : Int} (h : 0 ≤ x ∧ x ≤ 255) : (Lit.int .u8 x).wf = true := by have h1 : IntKind.u8.min = 0 := rfl; have h2 : IntKind.u8.max = 255 := rfl; simp [Lit.wf, h1, h2]; omega
theorem MapB.new (w : World) : MapB (w.alloc (.map #[] 0)) w.heap.size 0 (fun _ => 0) := ⟨.map [], World.ownsMap_made _ _ _ _, fun x => rfl⟩
theorem MapB.lt {w : World} {b n : Nat} {E : Int → Int} (h : MapB w b n E) : b < w.heap.size := by
  obtain ⟨D, h1, _⟩ := h
  exact h1.lt
theorem MapB.block {w w' : World} {b n : Nat} {E : Int → Int} (h : MapB w b n E) (hb : w'.heap[b]? = w.heap[b]?) : MapB w' b n E := by
  obtain ⟨D, ⟨es, clock, e, r⟩, h2⟩ := h
  exact ⟨D, ⟨es, clock, hb.trans e, r⟩, h2⟩
theorem MapB.mono {w : World} {b n n' : Nat} {E : Int → Int} (h : MapB w b n E) (hn : n ≤ n') : MapB w b n' E := by
  obtain ⟨D, h1, h2⟩ := h
  exact ⟨D, h1.mono hn, h2⟩
set_option maxRecDepth 20000 in
theorem MapB.look {w : World} {b n : Nat} {E : Int → Int} (h : MapB w b n E) {x : Int} (hx : -9223372036854775808 ≤ x ∧ x ≤ 9223372036854775807) :
    (Instr.lookup 106 (.map (some b)) (.int .i64 x) false).run Try.prog w = .ok (.int .u8 (E x)) w := by
  obtain ⟨D, h1, h3⟩ := h
  obtain ⟨c, hrun, hc, _⟩ := h1.lookup_int kI Try.underlying106 Try.underlying5 (zeroU8 w) (keyOf_int_mk Try.underlying3 (wf64 hx))
  rw [h3 x] at hc
  injection hc with hc
  injection hc with _ hc
  rw [hrun, hc]
set_option maxRecDepth 20000 in
theorem MapB.put {w : World} {b n : Nat} {E : Int → Int} (h : MapB w b n E) (hn : n < maxLen) {x c : Int} (hx : -9223372036854775808 ≤ x ∧ x ≤ 9223372036854775807) (hc : 0 ≤ c ∧ c ≤ 255) :
    ∃ w', (Instr.mapUpdate 106 (.map (some b)) (.int .i64 x) (.int .u8 c)).run Try.prog w = .ok () w' ∧ MapB w' b (n + 1) (fun y => if y = x then c else E y) ∧ Kept (· = b) w w' := by
  obtain ⟨D, h1, h3⟩ := h
  obtain ⟨w', hrun, r1, r2⟩ := h1.update kI Try.underlying106 hn (keyOf_int_mk Try.underlying3 (wf64 hx)) (plainElem_int Try.underlying5 (wf8 hc))
  refine ⟨w', hrun, ⟨_, r1, fun y => ?_⟩, ⟨r2.os, r2.tape, r2.output, r2.size, fun k hk hne => r2.block k hk (fun e => hne (by injection e))⟩⟩
  have hD := h1.isMap
  have hk : WideAt.IsKeyLit (.int .i64 x) := trivial
  by_cases e : y = x
  · subst e
    rw [atKey_put_same hD hk]
    simp
  · have hne : Lit.int .i64 y ≠ Lit.int .i64 x := fun e' => e (by injection e')
    rw [atKey_put_other hne, h3 y]
    simp [e]
set_option maxRecDepth 20000 in
theorem MapB.del {w : World} {b n : Nat} {E : Int → Int} (h : MapB w b n E) {x : Int} (hx : -9223372036854775808 ≤ x ∧ x ≤ 9223372036854775807) (ty : TypeId) :
    ∃ w', (Builtin.delete_ #[106, 3] ty #[.map (some b), .int .i64 x]).run Try.prog w = .ok (.tuple #[]) w' ∧ MapB w' b n (fun y => if y = x then 0 else E y) ∧ Kept (· = b) w w' := by
  obtain ⟨D, h1, h3⟩ := h
  obtain ⟨w', hrun, r1, r2⟩ := h1.drop kI Try.underlying106 (keyOf_int_mk Try.underlying3 (wf64 hx)) ty
  have r3 := r2.grown
  refine ⟨w', hrun, ⟨_, r1, fun y => ?_⟩, ⟨r3.os, r3.tape, r3.output, r3.size, fun k hk hne => r3.block k hk (fun e => hne (by injection e))⟩⟩
  by_cases e : y = x
  · subst e
    rw [atKey_del_same]
    simp
  · have hne : Lit.int .i64 y ≠ Lit.int .i64 x := fun e' => e (by injection e')
    rw [atKey_del_other hne, h3 y]
    simp [e]
/-! Blocks that hold unlike things are not the same. -/
theorem MapB.ne_blk {w : World} {b n : Nat} {E : Int → Int} (h : MapB w b n E) {g : Nat} {t : TypeId} {cs : Array Value} (hb : Blk w g t cs) : b ≠ g := by
  rintro rfl
  obtain ⟨D, ⟨es, clock, e, _⟩, _⟩ := h
  unfold Blk at hb
  rw [e] at hb
  injection hb with hb
  cases hb
theorem Own.obj {α : Type} {n : Nat} {E : Lay α n} {e : TypeId} {w : World} {base : Nat} {v : Value} {xs : List α} (h : Own E e w base v xs) {k : Nat} (hk : v.ownBlock = some k) : ∃ cur, w.heap[k]? = some (.cells cur e (0, 0)) := by
  obtain ⟨_, h2⟩ := h
  rcases h2 with ⟨rfl, _⟩ | ⟨g, cap, cur, rfl, _, hh, _⟩
  · cases hk
  · have e1 : g = k := by
      have : some g = some k := hk
      injection this
    subst e1
    exact ⟨cur, hh⟩
theorem Own.ne_blk {α : Type} {n : Nat} {E : Lay α n} {e : TypeId} {w : World} {base : Nat} {v : Value} {xs : List α} (h : Own E e w base v xs) {k : Nat} (hk : v.ownBlock = some k) {g : Nat} {t : TypeId} {cs : Array Value} (hb : Blk w g t cs) (ht : t ≠ e) : k ≠ g := by
  rintro rfl
  obtain ⟨cur, hc⟩ := h.obj hk
  unfold Blk at hb
  rw [hc] at hb
  injection hb with hb
  injection hb with _ h2
  exact ht h2.symm
theorem Own.ne_map {α : Type} {n : Nat} {E : Lay α n} {e : TypeId} {w : World} {base : Nat} {v : Value} {xs : List α} (h : Own E e w base v xs) {k : Nat} (hk : v.ownBlock = some k) {b m : Nat} {E' : Int → Int} (hb : MapB w b m E') : k ≠ b := by
  rintro rfl
  obtain ⟨cur, hc⟩ := h.obj hk
  obtain ⟨D, ⟨es, clock, e, _⟩, _⟩ := hb
  rw [hc] at e
  injection e with e
  cases e
theorem Own.ne_own {α β : Type} {n m : Nat} {E : Lay α n} {E' : Lay β m} {e e' : TypeId} {w : World} {base base' : Nat} {v v' : Value} {xs : List α} {ys : List β} (h : Own E e w base v xs) (h' : Own E' e' w base' v' ys) (he : e ≠ e') {k : Nat} (hk : v.ownBlock = some k) : v'.ownBlock ≠ some k := by
  intro hk'
  obtain ⟨cur, hc⟩ := h.obj hk
  obtain ⟨cur', hc'⟩ := h'.obj hk'
  rw [hc] at hc'
  injection hc' with hc'
  injection hc' with _ h2
  exact he h2
theorem SetA.blk {base : Nat} {w : World} {g : Nat} {v : Value} {l : List Rn} (h : SetA base w g v l) : Blk w g 97 #[v] := by
  obtain ⟨A, c, rfl, h1, _⟩ := h
  exact h1
theorem SetA.ow {base : Nat} {w : World} {g : Nat} {v : Value} {l : List Rn} (h : SetA base w g v l) : Own layR 32 w base v l := by
  obtain ⟨A, c, rfl, _, h2, _⟩ := h
  exact h2
theorem SetA.lower {base : Nat} {w : World} {g : Nat} {v : Value} {l : List Rn} (h : SetA base w g v l) : SetA 0 w g v l := by
  obtain ⟨A, c, e, h1, h2, h3⟩ := h
  exact ⟨A, c, e, h1, h2.lower (Nat.zero_le _), h3⟩
/-- Bytes, one behind the other. -/
abbrev layB : Lay Int 1 := layI .u8
/-- A receiver at g: its ready bytes, its map, its set; all its blocks are F's. -/
structure RcX (F : Nat → Prop) (w : World) (g : Nat) (A : Option Addr) (c bm gs : Nat) (v : Value) (l : List Rn) (buf : List Int) (E : Int → Int) (nx e : Int) (mz : Nat) : Prop where
  box : Blk w g 108 #[.int .i64 nx, .slice A buf.length c, .map (some bm), .pointer (some ⟨gs, 0, none⟩), .int .i64 e]
  own : Own layB 5 w 0 (.slice A buf.length c) buf
  map : MapB w bm mz E
  set : SetA 0 w gs v l
  tidy : Tidy l
  fg : F g
  fm : F bm
  fs : F gs
  fa : ∀ x, (Value.slice A buf.length c).ownBlock = some x → F x
  fv : ∀ x, v.ownBlock = some x → F x
  lt : ∀ x, F x → x < w.heap.size
section
variable {F : Nat → Prop} {w w' : World} {g : Nat} {A : Option Addr} {c bm gs : Nat} {v : Value} {l : List Rn} {buf : List Int} {E : Int → Int} {nx e : Int} {mz : Nat}
theorem RcX.kept {S : Nat → Prop} (h : RcX F w g A c bm gs v l buf E nx e mz) (k : Kept S w w') (hd : ∀ x, F x → ¬ S x) : RcX F w' g A c bm gs v l buf E nx e mz :=
  ⟨h.box.kept k (hd _ h.fg), h.own.kept k (fun x hx => hd x (h.fa x hx)), h.map.block (k.block _ h.map.lt (hd _ h.fm)), h.set.kept k (hd _ h.fs) (fun x hx => hd x (h.fv x hx)), h.tidy, h.fg, h.fm, h.fs, h.fa, h.fv, fun x hx => Nat.lt_of_lt_of_le (h.lt x hx) k.size⟩
theorem RcX.fine (h : RcX F w g A c bm gs v l buf E nx e mz) (k : Fine w w') : RcX F w' g A c bm gs v l buf E nx e mz := h.kept (S := fun _ => False) (Kept.of_fine k) (fun _ _ f => f)
theorem RcX.wider {F' : Nat → Prop} (h : RcX F w g A c bm gs v l buf E nx e mz) (hf : ∀ x, F x → F' x) (hl : ∀ x, F' x → x < w.heap.size) : RcX F' w g A c bm gs v l buf E nx e mz :=
  ⟨h.box, h.own, h.map, h.set, h.tidy, hf _ h.fg, hf _ h.fm, hf _ h.fs, fun x hx => hf x (h.fa x hx), fun x hx => hf x (h.fv x hx), hl⟩
theorem RcX.ne_am (h : RcX F w g A c bm gs v l buf E nx e mz) : ∀ x, (Value.slice A buf.length c).ownBlock = some x → x ≠ g ∧ x ≠ bm ∧ x ≠ gs ∧ v.ownBlock ≠ some x := fun x hx =>
  ⟨h.own.ne_blk hx h.box (by decide), h.own.ne_map hx h.map, h.own.ne_blk hx h.set.blk (by decide), h.own.ne_own h.set.ow (by decide) hx⟩
theorem RcX.ne_v (h : RcX F w g A c bm gs v l buf E nx e mz) : ∀ x, v.ownBlock = some x → x ≠ g ∧ x ≠ bm ∧ x ≠ gs := fun x hx =>
  ⟨h.set.ow.ne_blk hx h.box (by decide), h.set.ow.ne_map hx h.map, h.set.ow.ne_blk hx h.set.blk (by decide)⟩
theorem RcX.ne_g (h : RcX F w g A c bm gs v l buf E nx e mz) : bm ≠ g ∧ bm ≠ gs ∧ gs ≠ g := ⟨h.map.ne_blk h.box, h.map.ne_blk h.set.blk, h.set.blk.ne_ h.box (by decide)⟩
/-- Another number is next. -/
theorem RcX.setNx (h : RcX F w g A c bm gs v l buf E nx e mz) (m : Int) : RcX F (w.setCell ⟨g, 0, none⟩ (.int .i64 m)) g A c bm gs v l buf E m e mz := by
  have n := h.ne_g
  have k : Kept (· = g) w (w.setCell ⟨g, 0, none⟩ (.int .i64 m)) := (Kept.refl (· = g) w).setIn (p := ⟨g, 0, none⟩) rfl _
  exact ⟨h.box.set_ 0 (.int .i64 m), h.own.kept k (fun x hx e => (h.ne_am x hx).1 e), h.map.block (k.block _ h.map.lt n.1), h.set.kept k n.2.2 (fun x hx e => (h.ne_v x hx).1 e), h.tidy, h.fg, h.fm, h.fs, h.fa, h.fv, fun x hx => Nat.lt_of_lt_of_le (h.lt x hx) k.size⟩
/-- Another end. -/
theorem RcX.setE (h : RcX F w g A c bm gs v l buf E nx e mz) (m : Int) : RcX F (w.setCell ⟨g, 4, none⟩ (.int .i64 m)) g A c bm gs v l buf E nx m mz := by
  have n := h.ne_g
  have k : Kept (· = g) w (w.setCell ⟨g, 4, none⟩ (.int .i64 m)) := (Kept.refl (· = g) w).setIn (p := ⟨g, 4, none⟩) rfl _
  exact ⟨h.box.set_ 4 (.int .i64 m), h.own.kept k (fun x hx e => (h.ne_am x hx).1 e), h.map.block (k.block _ h.map.lt n.1), h.set.kept k n.2.2 (fun x hx e => (h.ne_v x hx).1 e), h.tidy, h.fg, h.fm, h.fs, h.fa, h.fv, fun x hx => Nat.lt_of_lt_of_le (h.lt x hx) k.size⟩
/-- Its map has turned. -/
theorem RcX.mapped {E' : Int → Int} {mz' : Nat} (h : RcX F w g A c bm gs v l buf E nx e mz) (k : Kept (· = bm) w w') (hm : MapB w' bm mz' E') : RcX F w' g A c bm gs v l buf E' nx e mz' := by
  have n := h.ne_g
  exact ⟨h.box.kept k (fun e => n.1 e.symm), h.own.kept k (fun x hx e => (h.ne_am x hx).2.1 e), hm, h.set.kept k (fun e => n.2.1 e.symm) (fun x hx e => (h.ne_v x hx).2.1 e), h.tidy, h.fg, h.fm, h.fs, h.fa, h.fv, fun x hx => Nat.lt_of_lt_of_le (h.lt x hx) k.size⟩
/-- What has grown. -/
def Grew (F : Nat → Prop) (w w' : World) (x : Nat) : Prop := F x ∨ (w.heap.size ≤ x ∧ x < w'.heap.size)
/-- Its set has turned. -/
theorem RcX.came {v' : Value} {l' : List Rn} (h : RcX F w g A c bm gs v l buf E nx e mz) (k : Kept (fun x => x = gs ∨ v.ownBlock = some x) w w') (hs : SetA 0 w' gs v' l') (hT : Tidy l') (hv : v'.ownBlock = v.ownBlock ∨ ∀ k, v'.ownBlock = some k → w.heap.size ≤ k) :
    RcX (Grew F w w') w' g A c bm gs v' l' buf E nx e mz := by
  have n := h.ne_g
  refine ⟨h.box.kept k (fun e => e.elim (fun e => n.2.2 e.symm) (fun e => (h.ne_v _ e).1 rfl)), h.own.kept k (fun x hx e => e.elim (fun e => (h.ne_am x hx).2.2.1 e) (fun e => (h.ne_am x hx).2.2.2 e)), h.map.block (k.block _ h.map.lt (fun e => e.elim (fun e => n.2.1 e) (fun e => (h.ne_v _ e).2.1 rfl))), hs, hT, .inl h.fg, .inl h.fm, .inl h.fs, fun x hx => .inl (h.fa x hx), fun x hx => ?_, fun x hx => ?_⟩
  · rcases hv with h1 | h1
    · exact .inl (h.fv x (h1 ▸ hx))
    · exact .inr ⟨h1 x hx, (hs.own x hx).2⟩
  · rcases hx with h1 | h1
    · exact Nat.lt_of_lt_of_le (h.lt x h1) k.size
    · exact h1.2
end
theorem sliceB : SliceTy Try.prog 46 5 1 1 := SliceTy.mk' (z := .int .u8 0) Try.underlying46 (by kernel_rfl) rfl
section
variable {F : Nat → Prop} {g : Nat} {A : Option Addr} {c bm gs : Nat} {v : Value} {l : List Rn} {buf : List Int} {E : Int → Int} {nx e : Int} {mz : Nat}
set_option maxHeartbeats 1000000 in
set_option maxRecDepth 20000 in
theorem edge_any (ed : Int) (hed : nx - (buf.length : Int) + 32 = ed) (hb : 0 ≤ nx ∧ nx ≤ 4294967296 ∧ buf.length ≤ 4294967296) (w : World) (h : RcX F w g A c bm gs v l buf E nx e mz) :
    Calls Try.prog 79 #[.pointer (some ⟨g, 0, none⟩)] w fun r w' => r = .returned (.int .i64 ed) ∧ Fine w w' := by
  have c0 : w.cell? ⟨g, 0, none⟩ = some (.int .i64 nx) := h.box.cell 0
  have c1 : w.cell? ⟨g, 1, none⟩ = some (.slice A buf.length c) := h.box.cell 1
  obtain ⟨n, hn⟩ : ∃ n, buf.length = n := ⟨_, rfl⟩
  rw [hn] at c1 hed hb
  obtain ⟨d, hd⟩ : ∃ d, nx - (n : Int) = d := ⟨_, rfl⟩
  have e1 : IntKind.i64.wrap (nx - (n : Int)) = d := by rw [hd]; exact IntWalk.i64_in _ (by omega)
  have e2 : IntKind.i64.wrap (d + 32) = ed := by rw [show d + 32 = ed by omega]; exact IntWalk.i64_in _ (by omega)
  clear h hn hed hd hb
  go_enter Try.func79, Try.ntmps79
  go_upto_region 1 with fail
  go_quiet (fail)
  go_wp2_with fail
  go_ret
  exact ⟨rfl, (Fine.refl w).drewN _⟩
def mayB (nx ed e : Int) (l : List Rn) (n : Int) : Bool := (decide (nx ≤ n) && decide (n < ed)) && (decide (e = 0) || decide (n < e)) && !inB l n
set_option maxHeartbeats 1000000 in
set_option maxRecDepth 20000 in
theorem may_any (ed : Int) (hed : nx - (buf.length : Int) + 32 = ed) (hb : 0 ≤ nx ∧ nx ≤ 4294967296 ∧ buf.length ≤ 4294967296) (n : Int) (w : World) (h : RcX F w g A c bm gs v l buf E nx e mz) :
    Calls Try.prog 80 #[.pointer (some ⟨g, 0, none⟩), .int .i64 n] w fun r w' => r = .returned (.bool (mayB nx ed e l n)) ∧ Fine w w' := by
  have c0 : w.cell? ⟨g, 0, none⟩ = some (.int .i64 nx) := h.box.cell 0
  have HE := Lib.hid (fun w' (f : Fine w w') => edge_any ed hed hb w' (h.fine f))
  have H := Lib.hid h
  clear h hed hb
  have leaf : ∀ w', Fine w w' → (w'.cell? ⟨g, 3, none⟩ = some (.pointer (some ⟨gs, 0, none⟩)) ∧ w'.cell? ⟨g, 4, none⟩ = some (.int .i64 e)) := fun w' f => ⟨(H.out.box.fine f).cell 3, (H.out.box.fine f).cell 4⟩
  have HL := Lib.hid leaf
  clear leaf
  by_cases h1 : nx ≤ n
  · have h1' : n ≥ nx := h1
    have m1 : decide (nx ≤ n) = true := decide_eq_true h1
    go_enter Try.func80, Try.ntmps80
    go_wp2_with fail
    refine (HE.out w (Fine.refl w)).mono ?_
    rintro r w1 ⟨rfl, f1⟩
    obtain ⟨c3, c4⟩ := HL.out w1 f1
    have HA := Lib.hid (has_any gs l H.out.tidy n w1 (H.out.fine f1).set.set)
    have F1 := Lib.hid f1
    clear f1 c0
    by_cases h2 : n < ed
    · have m2 : decide (n < ed) = true := decide_eq_true h2
      by_cases h3 : e = 0
      · subst h3
        go_wp2_with fail
        refine HA.out.mono ?_
        rintro r w2 ⟨rfl, f2⟩
        go_wp2_with fail
        go_ret
        exact ⟨by unfold mayB; rw [m1, m2]; simp, F1.out.trans f2⟩
      · have h3' : (e == 0) = false := by simpa using h3
        by_cases h4 : n < e
        · go_wp2_with fail
          refine HA.out.mono ?_
          rintro r w2 ⟨rfl, f2⟩
          go_wp2_with fail
          go_ret
          exact ⟨by unfold mayB; rw [m1, m2, decide_eq_true h4]; simp, F1.out.trans f2⟩
        · go_wp2_with fail
          go_ret
          exact ⟨by unfold mayB; rw [m1, m2, decide_eq_false (show ¬ n < e by omega), decide_eq_false h3]; simp, F1.out⟩
    · have m2 : decide (n < ed) = false := decide_eq_false h2
      go_wp2_with fail
      go_ret
      exact ⟨by unfold mayB; rw [m1, m2]; simp, F1.out⟩
  · have h1' : ¬ n ≥ nx := h1
    have m1 : decide (nx ≤ n) = false := decide_eq_false h1
    go_enter Try.func80, Try.ntmps80
    go_wp2_with fail
    go_ret
    exact ⟨by unfold mayB; rw [m1]; simp, Fine.refl w⟩
end
end Go.Proofs.Ytnigfdldfmiaiaa
