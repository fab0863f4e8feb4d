/-
  What the executor's values and memory mean.
-/
import Derived.Test.YtgfahpnndmocbaaGreatDoorSx3
namespace Go.Proofs.YtgfahpnndmocbaaGreatDoor.Sx
noncomputable section
open Go Go.RowKit
set_option linter.unusedVariables false
set_option linter.unusedSimpArgs false

/-- The unknowns: numbers, and what a key's token is. -/
structure En where
  u : Nat → Nat
  tk : Nat → Nat
  ne : u 2 % 2 ^ 32 ≠ tk ((tk ((u 1 % 2 ^ 64 ^^^ 1) % 2 ^ 64) % 2 ^ 32 * 2 ^ 32 + 1) % 2 ^ 64) % 2 ^ 32

/-- the sum of 16 bits of bytes, one by one (odd: the next one is a lower byte) -/
def sumGo : List Nat → Bool → Nat → Nat
  | [], _, n => n
  | c :: l, odd, n =>
    let m := if odd then n + c else n + c * 256
    sumGo l (!odd) (m % 65536 + m / 65536)
def sumEnd (n : Nat) : Nat := let m := n % 65536 + n / 65536; 65535 - (m % 65536 + m / 65536) % 65536
def sumOf (l : List Nat) : Nat := sumEnd (sumGo l false 0)

/-- what is not looked into -/
def opN (o a b : Nat) : Nat := match o with
  | 0 => a &&& b
  | 1 => a ||| b
  | 2 => a ^^^ b
  | 3 => a + b
  | 4 => a + (2 ^ 64 - b % 2 ^ 64)
  | 5 => a * b
  | 6 => a ^^^ (a &&& b)
  | 7 => a * 2 ^ b
  | 8 => a / 2 ^ b
  | _ => a

mutual
def den (E : En) : Tm → Nat
  | .c n => n % 2 ^ 64
  | .v i => E.u i % 2 ^ bits (.v i)
  | .xr t n => (den E t ^^^ n) % 2 ^ 64
  | .tok t => E.tk (den E t) % 2 ^ 32
  | .sh t => den E t * 2 ^ 32 % 2 ^ 64
  | .key t n => (den E t * 2 ^ 32 + n) % 2 ^ 64
  | .pl t d => (den E t + d) % 2 ^ 32
  | .hi t k => den E t / 256 ^ k
  | .bt t k => den E t / 256 ^ k % 256
  | .s8 t k => den E t / 256 ^ k * 256 % 2 ^ 64
  | .su l => sumOf (dens E l) % 2 ^ 16
  | .op o w t u => opN o (den E t) (den E u) % 2 ^ bits (.op o w t u)
def dens (E : En) : List Tm → List Nat
  | [] => []
  | t :: l => den E t :: dens E l
end

/-- Where an abstract block lies: which block, from which cell on, how many cells that has. -/
abbrev Bm := Nat → Option (Nat × Nat × Nat)

mutual
inductive VR (E : En) (β : Bm) : SV → Value → Prop
  | int (k : IntKind) (z : Int) : VR E β (.int k z) (.int k z)
  | sym (k : IntKind) (t : Tm) (h : bits t ≤ kbits k) : VR E β (.sym k t) (.int k (den E t : Nat))
  | bool (b : Bool) : VR E β (.bool b) (.bool b)
  | str (s : ByteArray) : VR E β (.str s) (.string s)
  | nilp : VR E β .nilp (.pointer none)
  | ptr (id off b o e : Nat) (h : β id = some (b, o, e)) : VR E β (.ptr id off) (.pointer (some ⟨b, o + off, none⟩))
  | gptr (g off : Nat) : VR E β (.gptr g off) (.pointer (some ⟨g, off, none⟩))
  | nils : VR E β .nils (.slice none 0 0)
  | sli (id off n c b o e : Nat) (h : β id = some (b, o, e)) : VR E β (.sli id off n c) (.slice (some ⟨b, o + off, none⟩) n c)
  | slu (id off n sz b o e c : Nat) (h : β id = some (b, o, e)) (hn : n ≤ c) (hc : o + off + c * sz ≤ e) : VR E β (.slu id off n sz) (.slice (some ⟨b, o + off, none⟩) n c)
  | sle (a : Addr) (c : Nat) : VR E β .sle (.slice (some a) 0 c)
  | nilm : VR E β .nilm (.map none)
  | map (id b e : Nat) (h : β id = some (b, 0, e)) : VR E β (.map id) (.map (some b))
  | fn (f : Fn) (a c : List SV) (a' c' : Array Value) (ha : VRs E β a a'.toList) (hc : VRs E β c c'.toList) : VR E β (.fn f a c) (.func f a' c')
  | nilf : VR E β .nilf .nilFunc
  | nili : VR E β .nili .nilIface
  | agg (l : List SV) (cs : Array Value) (h : VRs E β l cs.toList) (h1 : allOne l = true) : VR E β (.agg l) (.agg cs)
  | tup (l : List SV) (cs : Array Value) (h : VRs E β l cs.toList) : VR E β (.tup l) (.tuple cs)
inductive VRs (E : En) (β : Bm) : List SV → List Value → Prop
  | nil : VRs E β [] []
  | cons (x : SV) (v : Value) (l : List SV) (vs : List Value) (h : VR E β x v) (hs : VRs E β l vs) : VRs E β (x :: l) (v :: vs)
end

def Le (β β' : Bm) : Prop := ∀ id p, β id = some p → β' id = some p
theorem Le.refl (β : Bm) : Le β β := fun _ _ h => h
theorem Le.trans {a b c : Bm} (h : Le a b) (k : Le b c) : Le a c := fun _ _ e => k _ _ (h _ _ e)

theorem VR.mono {E : En} {β β' : Bm} (h : Le β β') {x : SV} {v : Value} (r : VR E β x v) : VR E β' x v := by
  refine VR.rec (E := E) (β := β) (motive_1 := fun x v _ => VR E β' x v) (motive_2 := fun l vs _ => VRs E β' l vs) ?_ ?_ ?_ ?_ ?_ ?_ ?_ ?_ ?_ ?_ ?_ ?_ ?_ ?_ ?_ ?_ ?_ ?_ ?_ ?_ r
  all_goals (intros; first
    | exact .int _ _ | exact .sym _ _ (by assumption) | exact .bool _ | exact .str _ | exact .nilp | exact .ptr _ _ _ _ _ (h _ _ (by assumption)) | exact .gptr _ _ | exact .nils
    | exact .sli _ _ _ _ _ _ _ (h _ _ (by assumption)) | exact .slu _ _ _ _ _ _ _ _ (h _ _ (by assumption)) (by assumption) (by assumption) | exact .sle _ _ | exact .nilm | exact .map _ _ _ (h _ _ (by assumption))
    | exact .fn _ _ _ _ _ (by assumption) (by assumption) | exact .nilf | exact .nili | exact .agg _ _ (by assumption) (by assumption) | exact .tup _ _ (by assumption)
    | exact VRs.nil | exact VRs.cons _ _ _ _ (by assumption) (by assumption))
theorem VRs.mono {E : En} {β β' : Bm} (h : Le β β') {l : List SV} {vs : List Value} (r : VRs E β l vs) : VRs E β' l vs := by
  refine VRs.rec (E := E) (β := β) (motive_1 := fun x v _ => VR E β' x v) (motive_2 := fun l vs _ => VRs E β' l vs) ?_ ?_ ?_ ?_ ?_ ?_ ?_ ?_ ?_ ?_ ?_ ?_ ?_ ?_ ?_ ?_ ?_ ?_ ?_ ?_ r
  all_goals (intros; first
    | exact .int _ _ | exact .sym _ _ (by assumption) | exact .bool _ | exact .str _ | exact .nilp | exact .ptr _ _ _ _ _ (h _ _ (by assumption)) | exact .gptr _ _ | exact .nils
    | exact .sli _ _ _ _ _ _ _ (h _ _ (by assumption)) | exact .slu _ _ _ _ _ _ _ _ (h _ _ (by assumption)) (by assumption) (by assumption) | exact .sle _ _ | exact .nilm | exact .map _ _ _ (h _ _ (by assumption))
    | exact .fn _ _ _ _ _ (by assumption) (by assumption) | exact .nilf | exact .nili | exact .agg _ _ (by assumption) (by assumption) | exact .tup _ _ (by assumption)
    | exact VRs.nil | exact VRs.cons _ _ _ _ (by assumption) (by assumption))

section lists
variable {E : En} {β : Bm}
theorem VRs.length {l : List SV} {vs : List Value} (h : VRs E β l vs) : l.length = vs.length := by
  induction l generalizing vs with
  | nil => cases h; rfl
  | cons x l ih => cases h with | cons _ v _ vs hx hs => simp [ih hs]
theorem VRs.get {l : List SV} {vs : List Value} (h : VRs E β l vs) {j : Nat} {x : SV} (hj : l[j]? = some x) : ∃ v, vs[j]? = some v ∧ VR E β x v := by
  induction l generalizing vs j with
  | nil => simp at hj
  | cons y l ih =>
    cases h with
    | cons _ v _ vs hx hs =>
      cases j with
      | zero => simp at hj; subst hj; exact ⟨v, by simp, hx⟩
      | succ j => simp at hj; obtain ⟨w, h1, h2⟩ := ih hs hj; exact ⟨w, by simpa using h1, h2⟩
theorem VRs.drop {l : List SV} {vs : List Value} (h : VRs E β l vs) (n : Nat) : VRs E β (l.drop n) (vs.drop n) := by
  induction l generalizing vs n with
  | nil => cases h; simp; exact .nil
  | cons y l ih =>
    cases h with
    | cons _ v _ vs hx hs =>
      cases n with
      | zero => exact .cons _ _ _ _ hx hs
      | succ n => simpa using ih hs n
theorem VRs.take {l : List SV} {vs : List Value} (h : VRs E β l vs) (n : Nat) : VRs E β (l.take n) (vs.take n) := by
  induction l generalizing vs n with
  | nil => cases h; simp; exact .nil
  | cons y l ih =>
    cases h with
    | cons _ v _ vs hx hs =>
      cases n with
      | zero => simp; exact .nil
      | succ n => simpa using VRs.cons _ _ _ _ hx (ih hs n)
theorem VRs.append {l m : List SV} {vs ws : List Value} (h : VRs E β l vs) (k : VRs E β m ws) : VRs E β (l ++ m) (vs ++ ws) := by
  induction l generalizing vs with
  | nil => cases h; simpa using k
  | cons y l ih => cases h with | cons _ v _ vs hx hs => exact .cons _ _ _ _ hx (ih hs)
theorem allOne_mem {l : List SV} (h : allOne l = true) : ∀ x ∈ l, oneS x = true := by
  induction l with
  | nil => simp
  | cons y l ih => simp [allOne] at h; intro x hx; rcases List.mem_cons.1 hx with rfl | hx; exact h.1; exact ih h.2 x hx
theorem allOne_of {l : List SV} (h : ∀ x ∈ l, oneS x = true) : allOne l = true := by
  induction l with
  | nil => rfl
  | cons y l ih => simp [allOne]; exact ⟨h y (by simp), ih fun x hx => h x (by simp [hx])⟩
theorem allOne_append {l m : List SV} (h : allOne l = true) (k : allOne m = true) : allOne (l ++ m) = true :=
  allOne_of fun x hx => by rcases List.mem_append.1 hx with hx | hx; exact allOne_mem h x hx; exact allOne_mem k x hx
theorem allOne_drop {l : List SV} (h : allOne l = true) (n : Nat) : allOne (l.drop n) = true := allOne_of fun x hx => allOne_mem h x (List.mem_of_mem_drop hx)
theorem allOne_take {l : List SV} (h : allOne l = true) (n : Nat) : allOne (l.take n) = true := allOne_of fun x hx => allOne_mem h x (List.mem_of_mem_take hx)
theorem VR.one {x : SV} {v : Value} (h : VR E β x v) (h1 : oneS x = true) : v.oneCell' = true := by
  cases h <;> first | rfl | (simp [oneS] at h1)
theorem VRs.one {l : List SV} {vs : List Value} (h : VRs E β l vs) (h1 : allOne l = true) : ∀ v ∈ vs, v.oneCell' = true := by
  induction l generalizing vs with
  | nil => cases h; simp
  | cons y l ih =>
    cases h with
    | cons _ v _ vs hx hs =>
      simp [allOne] at h1
      intro w hw
      rcases List.mem_cons.1 hw with rfl | hw
      · exact hx.one h1.1
      · exact ih hs h1.2 w hw
/-- the cells of a value -/
theorem VR.cells {x : SV} {v : Value} {cs : List SV} (h : VR E β x v) (hc : cellsOf x = some cs) : VRs E β cs v.cells.toList ∧ allOne cs = true := by
  cases h with
  | agg l ds hl h1 => simp [cellsOf] at hc; subst hc; exact ⟨hl, h1⟩
  | tup l ds hl => simp [cellsOf] at hc
  | _ => (simp only [cellsOf, Option.some.injEq] at hc; subst hc; exact ⟨.cons _ _ _ _ (by constructor <;> assumption) .nil, rfl⟩)
end lists

/-! Memory. -/
def ERs (E : En) (β : Bm) : List (SV × SV × Nat) → List MapEntry → Prop
  | [], [] => True
  | (k, v, b) :: l, e :: m => VR E β k e.key ∧ VR E β v e.val ∧ e.born = b ∧ ERs E β l m
  | _, _ => False

def BR (E : En) (β : Bm) (w : World) (p : Nat × Nat × Nat) : Blk → Prop
  | .cells l => allOne l = true ∧ ∃ (c : Array Value) (t : TypeId) (pre vs post : List Value), w.heap[p.1]? = some (.cells c t (0, 0)) ∧ c.size = p.2.2 ∧ VRs E β l vs ∧
      c.toList = pre ++ (vs ++ post) ∧ pre.length = p.2.1
  | .mp es clock => ∃ cs, w.heap[p.1]? = some (.map cs clock) ∧ ERs E β es cs.toList ∧ p.2.1 = 0
  | .sit s pos => w.heap[p.1]? = some (.stringIter s pos) ∧ p.2.1 = 0
  | .fz l => allOne l = true ∧ ∃ (c : Array Value) (t : TypeId) (fr : Nat × Nat) (vs post : List Value), w.heap[p.1]? = some (.cells c t fr) ∧ c.size = p.2.2 ∧ VRs E β l vs ∧ c.toList = vs ++ post ∧ p.2.1 = 0
  | .mit m since seen last => p.2.1 = 0 ∧ ∃ m', w.heap[p.1]? = some (.mapIter m' since seen.toArray last) ∧ (match m with
      | none => m' = none
      | some id => ∃ b e, β id = some (b, 0, e) ∧ m' = some b)

/-- The memory of the executor (which blocks there are, as a function) lies in a world; what is older than N of W is as it was. -/
structure HR (E : En) (N : Nat) (W : World) (β : Bm) (n : Nat) (g : Nat → Option Blk) (w : World) : Prop where
  dom : ∀ id, n ≤ id → β id = none
  live : ∀ id b, g id = some b → ∃ p, β id = some p ∧ N ≤ p.1 ∧ BR E β w p b
  inj : ∀ i j b c p q, g i = some b → g j = some c → β i = some p → β j = some q → p.1 = q.1 → i = j
  old : Below N W w
  size : N ≤ w.heap.size

/-- β' is β on what was there. -/
def Ext (β β' : Bm) (n : Nat) : Prop := ∀ id, id < n → β' id = β id
theorem Ext.refl (β : Bm) (n : Nat) : Ext β β n := fun _ _ => rfl
theorem Ext.trans {a b c : Bm} {n m : Nat} (h : Ext a b n) (k : Ext b c m) (hn : n ≤ m) : Ext a c n := fun id hi => (k id (Nat.lt_of_lt_of_le hi hn)).trans (h id hi)
theorem Ext.le {E : En} {N : Nat} {W : World} {β β' : Bm} {n : Nat} {g : Nat → Option Blk} {w : World} (h : Ext β β' n) (r : HR E N W β n g w) : Le β β' := by
  intro id p hp
  have : id < n := by
    rcases Nat.lt_or_ge id n with hlt | hge
    · exact hlt
    · rw [r.dom id hge] at hp; cases hp
  rw [h id this]; exact hp

theorem ERs.mono {E : En} {β β' : Bm} (h : Le β β') {l : List (SV × SV × Nat)} {m : List MapEntry} (r : ERs E β l m) : ERs E β' l m := by
  induction l generalizing m with
  | nil => cases m <;> first | exact r | trivial
  | cons x l ih =>
    obtain ⟨k, v, b⟩ := x
    cases m with
    | nil => simp [ERs] at r
    | cons e m => simp only [ERs] at r ⊢; exact ⟨r.1.mono h, r.2.1.mono h, r.2.2.1, ih r.2.2.2⟩
theorem BR.mono {E : En} {β β' : Bm} (h : Le β β') {w : World} {p : Nat × Nat × Nat} {b : Blk} (r : BR E β w p b) : BR E β' w p b := by
  cases b with
  | cells l => obtain ⟨h1, c, t, pre, vs, post, a, b, d, e, f⟩ := r; exact ⟨h1, c, t, pre, vs, post, a, b, d.mono h, e, f⟩
  | mp es clock => obtain ⟨cs, a, b, c⟩ := r; exact ⟨cs, a, b.mono h, c⟩
  | sit s pos => exact r
  | fz l => obtain ⟨h1, c, t, fr, vs, post, a, b, d, e, f⟩ := r; exact ⟨h1, c, t, fr, vs, post, a, b, d.mono h, e, f⟩
  | mit m since seen last =>
    obtain ⟨h0, m', h1, h2⟩ := r
    refine ⟨h0, m', h1, ?_⟩
    cases m with
    | none => exact h2
    | some id => obtain ⟨b, e, hb, hm⟩ := h2; exact ⟨b, e, h _ _ hb, hm⟩
/-- what a block is hangs on its own place alone -/
theorem BR.congr {E : En} {β : Bm} {w w' : World} {p : Nat × Nat × Nat} {b : Blk} (h : w'.heap[p.1]? = w.heap[p.1]?) (r : BR E β w p b) : BR E β w' p b := by
  cases b with
  | cells l => obtain ⟨h1, c, t, pre, vs, post, a, r⟩ := r; exact ⟨h1, c, t, pre, vs, post, h.trans a, r⟩
  | mp es clock => obtain ⟨cs, a, r⟩ := r; exact ⟨cs, h.trans a, r⟩
  | sit s pos => exact ⟨h.trans r.1, r.2⟩
  | fz l => obtain ⟨h1, c, t, fr, vs, post, a, r⟩ := r; exact ⟨h1, c, t, fr, vs, post, h.trans a, r⟩
  | mit m since seen last => obtain ⟨h0, m', h1, h2⟩ := r; exact ⟨h0, m', h.trans h1, h2⟩

theorem BR.lt {E : En} {β : Bm} {w : World} {p : Nat × Nat × Nat} {b : Blk} (r : BR E β w p b) : p.1 < w.heap.size := by
  have key : ∀ o, w.heap[p.1]? = some o → p.1 < w.heap.size := fun o h => (Array.getElem?_eq_some_iff.1 h).1
  cases b with
  | cells l => obtain ⟨h1, c, t, pre, vs, post, a, r⟩ := r; exact key _ a
  | mp es clock => obtain ⟨cs, a, r⟩ := r; exact key _ a
  | sit s pos => exact key _ r.1
  | fz l => obtain ⟨h1, c, t, fr, vs, post, a, r⟩ := r; exact key _ a
  | mit m since seen last => obtain ⟨h0, m', h1, h2⟩ := r; exact key _ h1

section heap
variable {E : En} {N : Nat} {W : World} {β : Bm} {n : Nat} {g : Nat → Option Blk} {w : World}

theorem HR.drew (r : HR E N W β n g w) : HR E N W β n g { w with drawn := w.drawn + 1 } :=
  ⟨r.dom, fun id b h => let ⟨p, a, c, d⟩ := r.live id b h; ⟨p, a, c, d.congr rfl⟩, r.inj, ⟨r.old.os, r.old.tape, r.old.output, r.old.size, r.old.block⟩, r.size⟩

/-- Memory may be forgotten. -/
theorem HR.sub (r : HR E N W β n g w) {g' : Nat → Option Blk} (h : ∀ id b, g' id = some b → g id = some b) : HR E N W β n g' w :=
  ⟨r.dom, fun id b hb => r.live id b (h id b hb), fun i j b c p q hi hj => r.inj i j b c p q (h i b hi) (h j c hj), r.old, r.size⟩
theorem HR.more (r : HR E N W β n g w) {m : Nat} (h : n ≤ m) : HR E N W β m g w :=
  ⟨fun id hi => r.dom id (Nat.le_trans h hi), r.live, r.inj, r.old, r.size⟩

/-- the map, one block more -/
def Bm.add (β : Bm) (id : Nat) (p : Nat × Nat × Nat) : Bm := fun i => if i = id then some p else β i
theorem Bm.add_same (β : Bm) (id : Nat) (p : Nat × Nat × Nat) : β.add id p id = some p := by simp [Bm.add]
theorem Bm.add_other (β : Bm) (id : Nat) (p : Nat × Nat × Nat) {i : Nat} (h : i ≠ id) : β.add id p i = β i := by simp [Bm.add, h]
theorem Bm.add_le {β : Bm} {id : Nat} {p : Nat × Nat × Nat} (h : β id = none) : Le β (β.add id p) := by
  intro i q hq
  by_cases e : i = id
  · subst e; rw [h] at hq; cases hq
  · rw [Bm.add_other _ _ _ e]; exact hq

def upd (g : Nat → Option Blk) (id : Nat) (b : Option Blk) : Nat → Option Blk := fun i => if i = id then b else g i

/-- A new block. -/
theorem HR.new (r : HR E N W β n g w) (id : Nat) (hid : β id = none) (hlt : id < n) (o : Obj) (b : Blk) (e : Nat)
    (hb : BR E (β.add id (w.heap.size, 0, e)) { w with heap := w.heap.push o } (w.heap.size, 0, e) b) :
    HR E N W (β.add id (w.heap.size, 0, e)) n (upd g id (some b)) { w with heap := w.heap.push o } := by
  have hpush : ∀ k, k < w.heap.size → (w.heap.push o)[k]? = w.heap[k]? := fun k hk => by simp [Array.getElem?_push, Nat.ne_of_lt hk]
  refine ⟨fun i hi => ?_, fun i c hc => ?_, fun i j c d p q hi hj hp hq hpq => ?_, ?_, ?_⟩
  · rw [Bm.add_other _ _ _ (by omega)]; exact r.dom i hi
  · by_cases ei : i = id
    · subst ei
      simp [upd] at hc; subst hc
      exact ⟨_, Bm.add_same _ _ _, r.size, hb⟩
    · simp [upd, ei] at hc
      obtain ⟨p, h1, h2, h3⟩ := r.live i c hc
      exact ⟨p, by rw [Bm.add_other _ _ _ ei]; exact h1, h2, (h3.congr (w' := { w with heap := w.heap.push o }) (hpush _ h3.lt)).mono (Bm.add_le hid)⟩
  · by_cases ei : i = id
    · by_cases ej : j = id
      · rw [ei, ej]
      · subst ei
        simp [upd, ej] at hj
        obtain ⟨q', h1, h2, h3⟩ := r.live j d hj
        rw [Bm.add_other _ _ _ ej] at hq
        rw [Bm.add_same] at hp
        cases hp
        rw [h1] at hq; cases hq
        have := h3.lt
        simp at hpq; omega
    · simp [upd, ei] at hi
      obtain ⟨p', h1, h2, h3⟩ := r.live i c hi
      rw [Bm.add_other _ _ _ ei] at hp
      rw [h1] at hp; cases hp
      by_cases ej : j = id
      · subst ej
        rw [Bm.add_same] at hq
        cases hq
        have := h3.lt
        simp at hpq; omega
      · simp [upd, ej] at hj
        rw [Bm.add_other _ _ _ ej] at hq
        exact r.inj i j c d _ q hi hj h1 hq hpq
  · refine ⟨r.old.os, r.old.tape, r.old.output, ?_, fun k hk => ?_⟩
    · have := r.old.size; simp; omega
    · show (w.heap.push o)[k]? = _
      rw [hpush k (Nat.lt_of_lt_of_le hk r.size)]; exact r.old.block k hk
  · have := r.size; simp; omega

/-- A block turns. -/
theorem HR.turn (r : HR E N W β n g w) {id : Nat} {b0 : Blk} {p : Nat × Nat × Nat} (hg : g id = some b0) (hp : β id = some p) {w' : World}
    (hother : ∀ k, k ≠ p.1 → w'.heap[k]? = w.heap[k]?) (hsize : w'.heap.size = w.heap.size) (hos : w'.os = w.os) (htape : w'.tape = w.tape) (hout : w'.output = w.output)
    {b : Blk} (hb : BR E β w' p b) : HR E N W β n (upd g id (some b)) w' := by
  obtain ⟨p', h1, h2, h3⟩ := r.live id b0 hg
  rw [hp] at h1; cases h1
  refine ⟨r.dom, fun i c hc => ?_, fun i j c d p' q hi hj hp' hq hpq => ?_, ?_, by rw [hsize]; exact r.size⟩
  · by_cases ei : i = id
    · subst ei
      simp [upd] at hc; subst hc
      exact ⟨p, hp, h2, hb⟩
    · simp [upd, ei] at hc
      obtain ⟨q, k1, k2, k3⟩ := r.live i c hc
      have : q.1 ≠ p.1 := fun e => ei (r.inj i id c b0 q p hc hg k1 hp e)
      exact ⟨q, k1, k2, k3.congr (hother _ this)⟩
  · have hi' : ∃ c', g i = some c' := by
      by_cases ei : i = id
      · subst ei; exact ⟨b0, hg⟩
      · simp [upd, ei] at hi; exact ⟨c, hi⟩
    have hj' : ∃ c', g j = some c' := by
      by_cases ej : j = id
      · subst ej; exact ⟨b0, hg⟩
      · simp [upd, ej] at hj; exact ⟨d, hj⟩
    obtain ⟨c', hi'⟩ := hi'
    obtain ⟨d', hj'⟩ := hj'
    exact r.inj i j c' d' p' q hi' hj' hp' hq hpq
  · refine ⟨hos.trans r.old.os, htape.trans r.old.tape, hout.trans r.old.output, by rw [hsize]; exact r.old.size, fun k hk => ?_⟩
    rw [hother k (by omega)]; exact r.old.block k hk

/-- A block is known under another name, from another cell on; the elder name is gone. -/
theorem HR.rename (r : HR E N W β n g w) {id : Nat} {b0 : Blk} {p : Nat × Nat × Nat} (hg : g id = some b0) (hp : β id = some p) {new : Nat} (hnew : β new = none) (hlt : new < n) {w' : World}
    (hother : ∀ k, k ≠ p.1 → w'.heap[k]? = w.heap[k]?) (hsize : w'.heap.size = w.heap.size) (hos : w'.os = w.os) (htape : w'.tape = w.tape) (hout : w'.output = w.output)
    {b : Blk} {o e : Nat} (hb : BR E (β.add new (p.1, o, e)) w' (p.1, o, e) b) : HR E N W (β.add new (p.1, o, e)) n (upd (upd g id none) new (some b)) w' := by
  obtain ⟨p', h1, h2, h3⟩ := r.live id b0 hg
  rw [hp] at h1; cases h1
  have hne : id ≠ new := fun e => by rw [e, hnew] at hp; cases hp
  refine ⟨fun i hi => ?_, fun i c hc => ?_, fun i j c d p' q hi hj hp' hq hpq => ?_, ?_, by rw [hsize]; exact r.size⟩
  · rw [Bm.add_other _ _ _ (by omega)]; exact r.dom i hi
  · by_cases ei : i = new
    · subst ei
      simp [upd] at hc; subst hc
      exact ⟨_, Bm.add_same _ _ _, h2, hb⟩
    · by_cases ej : i = id
      · simp [upd, ei, ej] at hc; exact absurd hc.1 hne
      · simp [upd, ei, ej] at hc
        obtain ⟨q, k1, k2, k3⟩ := r.live i c hc
        have : q.1 ≠ p.1 := fun e => ej (r.inj i id c b0 q p hc hg k1 hp e)
        exact ⟨q, by rw [Bm.add_other _ _ _ ei]; exact k1, k2, (k3.congr (hother _ this)).mono (Bm.add_le hnew)⟩
  · -- who is at the block of p?
    have key : ∀ i c p', upd (upd g id none) new (some b) i = some c → β.add new (p.1, o, e) i = some p' → (i = new ∧ p'.1 = p.1) ∨ (i ≠ new ∧ i ≠ id ∧ g i = some c ∧ β i = some p') := by
      intro i c p' hc hp'
      by_cases ei : i = new
      · subst ei; rw [Bm.add_same] at hp'; cases hp'; exact .inl ⟨rfl, rfl⟩
      · rw [Bm.add_other _ _ _ ei] at hp'
        by_cases ej : i = id
        · subst ej; simp [upd, ei] at hc
        · simp [upd, ei, ej] at hc; exact .inr ⟨ei, ej, hc, hp'⟩
    rcases key i c p' hi hp' with ⟨e1, e2⟩ | ⟨e1, e2, e3, e4⟩
    · rcases key j d q hj hq with ⟨f1, f2⟩ | ⟨f1, f2, f3, f4⟩
      · rw [e1, f1]
      · exact absurd (r.inj j id d b0 q p f3 hg f4 hp (by rw [← hpq, e2])) f2
    · rcases key j d q hj hq with ⟨f1, f2⟩ | ⟨f1, f2, f3, f4⟩
      · exact absurd (r.inj i id c b0 p' p e3 hg e4 hp (by rw [hpq, f2])) e2
      · exact r.inj i j c d p' q e3 f3 e4 f4 hpq
  · refine ⟨hos.trans r.old.os, htape.trans r.old.tape, hout.trans r.old.output, by rw [hsize]; exact r.old.size, fun k hk => ?_⟩
    rw [hother k (by omega)]; exact r.old.block k hk
end heap
end
end Go.Proofs.YtgfahpnndmocbaaGreatDoor.Sx
