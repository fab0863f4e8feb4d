/- A flow: how it lies; what it tells. -/
import Derived.Test.YtjldgialhgfhmaaXFlow1
import Derived.Test.YtjldgialhgfhmaaNb
import Derived.Test.YtjldgialhgfhmaaQTail
import Derived.Deep.QuietTactic
import Derived.BigQuiet
namespace Go.Proofs.Ytjldgialhgfhmaa
set_option linter.unusedVariables false
set_option linter.unusedSimpArgs false
open Go.ChangeShapes Go.WideShapes Go.ChangeAt Go.RowKit Go.Maps
set_option linter.unusedVariables false
set_option linter.unusedSimpArgs false
structure FineBy (w : World) where
  W : World
  h : Fine w W
instance (w : World) : Inhabited (FineBy w) := ⟨⟨w, Fine.refl w⟩⟩
theorem wp_region_quiet_fine {P : Program} {id : Nat} {Q : Exit → Act → World → Prop} {a : Act} {w : World} {l : List Oper} (hm : P.follows .mixedOrders = true) (hB : Region.lexB .any l.toArray = true)
    (h : wpQuiet P l.toArray (fun w' => ∃ p : FineBy w, w' = p.W) (fun a' => ∀ w', (∃ p : FineBy w, w' = p.W) → Q .normal a' w') l a) : (Code.region id l.toArray true).wp P Q a w :=
  wp_region_quiet (C := fun w' => ∃ p : FineBy w, w' = p.W) hm hB ⟨⟨w.drew, (Fine.refl w).drew⟩, rfl⟩ (by simpa using h)
theorem Calls.fine_of {P : Program} {f : FuncId} {args : Array Value} {w : World} {p : FineBy w} {v : Value}
    (h : Calls P f args p.W fun e w' => e = .returned v ∧ Fine p.W w') : Calls P f args p.W fun e w'' => e = .returned v ∧ ∃ q : FineBy w, w'' = q.W :=
  h.mono fun _ _ ⟨he, hq⟩ => ⟨he, ⟨_, p.h.trans hq⟩, rfl⟩
theorem FineBy.of {w w' : World} (h : ∃ p : FineBy w, w' = p.W) : Fine w w' := by obtain ⟨p, rfl⟩ := h; exact p.h
theorem wp_region_quiet_fine_tail {P : Program} {id : Nat} {Q : Exit → Act → World → Prop} {a : Act} {w : World} {l : List Oper} (n : Nat) (hm : P.follows .mixedOrders = true)
    (hB : (Region.lexB .any (l.take n).toArray && guardsB l n && backB (l.take n).toArray && decide (n < l.length) && Region.sinkB .any l.toArray n && Region.chainB .any l.toArray n && Region.seqB .any l.toArray (l.length - n) n ((Array.replicate n true) ++ (Array.replicate (l.length - n) false))) = true)
    (h : wpQuiet P (l.take n).toArray (fun w' => ∃ p : FineBy w, w' = p.W) (fun a' => ∀ w', (∃ p : FineBy w, w' = p.W) → wpList P l.toArray Q (l.drop n) a' w') (l.take n) a) : (Code.region id l.toArray true).wp P Q a w :=
  wp_region_quiet_tail n hm hB ⟨⟨w.drew, (Fine.refl w).drew⟩, rfl⟩ h
theorem Own.obj {α : Type} {n : Nat} {E : Lay α n} {e : TypeId} {w : World} {base : Nat} {v : Value} {xs : List α} (h : Own E e w base v xs) {k : Nat} (hk : v.ownBlock = some k) : ∃ cur, w.heap[k]? = some (.cells cur e (0, 0)) := by
  obtain ⟨_, h2⟩ := h
  rcases h2 with ⟨rfl, _⟩ | ⟨g, cap, cur, rfl, _, hh, _⟩
  · cases hk
  · have e1 : g = k := by
      have : some g = some k := hk
      injection this
    subst e1
    exact ⟨cur, hh⟩
theorem Own.ne_blk {α : Type} {n : Nat} {E : Lay α n} {e : TypeId} {w : World} {base : Nat} {v : Value} {xs : List α} (h : Own E e w base v xs) {k : Nat} (hk : v.ownBlock = some k) {g : Nat} {t : TypeId} {cs : Array Value} (hb : Blk w g t cs) (ht : t ≠ e) : k ≠ g := by
  rintro rfl
  obtain ⟨cur, hc⟩ := h.obj hk
  unfold Blk at hb
  rw [hc] at hb
  injection hb with hb
  injection hb with _ h2
  exact ht h2.symm
/-- What is to be sent: its cells; what it is. -/
structure Ro where
  r : Raw
  ack : Int
  acks : Bool
  rst : Bool
structure Ot where
  p : Pc
  ack : Int
  acks : Bool
  rst : Bool
abbrev Ro.cells (o : Ro) : List Value := [.int .u32 o.r.seq, .bool o.r.syn, .bool o.r.fin, .slice o.r.A o.r.len o.r.cap, .int .i64 o.r.dsn, .bool o.r.last, .int .u32 o.ack, .bool o.acks, .bool o.rst]
def layO : Lay Ro 9 := { cs := Ro.cells, len := fun _ => rfl, one := fun x u hu => by simp [Ro.cells] at hu; rcases hu with rfl | rfl | rfl | rfl | rfl | rfl | rfl | rfl | rfl <;> rfl, pos := by decide }
theorem sliceO : SliceTy Try.prog 91 94 9 56 := SliceTy.mk' Try.underlying91 (z := .agg #[.int .u32 0, .bool false, .bool false, .slice none 0 0, .int .i64 0, .bool false, .int .u32 0, .bool false, .bool false]) (by kernel_rfl) rfl
def IsO (w : World) (v : Nat → Prop) (o : Ro) (t : Ot) : Prop := Is w v o.r t.p ∧ o.ack = t.ack ∧ o.acks = t.acks ∧ o.rst = t.rst
def IsOs (w : World) (v : Nat → Prop) (os : List Ro) (ts : List Ot) : Prop := os.length = ts.length ∧ ∀ (i : Nat) (o : Ro) (t : Ot), os[i]? = some o → ts[i]? = some t → IsO w v o t
section
variable {w w' : World} {v v' S : Nat → Prop} {os : List Ro} {ts : List Ot}
theorem IsOs.kept (h : IsOs w v os ts) (hf : Kept S w w') (hv : ∀ b, v b → ¬ S b) : IsOs w' v os ts := ⟨h.1, fun i o t e1 e2 => ⟨(h.2 i o t e1 e2).1.kept hf hv, (h.2 i o t e1 e2).2⟩⟩
theorem IsOs.fine (h : IsOs w v os ts) (hf : Fine w w') : IsOs w' v os ts := h.kept (S := fun _ => False) (Kept.of_fine hf) (fun _ _ f => f)
theorem IsOs.less (h : IsOs w v os ts) (hv : ∀ b, v b → v' b) : IsOs w v' os ts := ⟨h.1, fun i o t e1 e2 => ⟨(h.2 i o t e1 e2).1.less hv, (h.2 i o t e1 e2).2⟩⟩
theorem IsOs.nil_ (w : World) (v : Nat → Prop) : IsOs w v [] [] := ⟨rfl, fun i o t e => by simp at e⟩
theorem IsOs.snoc {o : Ro} {t : Ot} (h : IsOs w v os ts) (ho : IsO w v o t) : IsOs w v (os ++ [o]) (ts ++ [t]) := by
  refine ⟨by simp [h.1], fun i o' t' e1 e2 => ?_⟩
  have hl := h.1
  rcases Nat.lt_or_ge i os.length with hi | hi
  · rw [List.getElem?_append_left hi] at e1
    rw [List.getElem?_append_left (by omega)] at e2
    exact h.2 i o' t' e1 e2
  · rw [List.getElem?_append_right hi] at e1
    rw [List.getElem?_append_right (by omega), ← hl] at e2
    rcases Nat.eq_zero_or_pos (i - os.length) with h0 | h0
    · rw [h0] at e1 e2
      simp at e1 e2
      subst e1 e2
      exact ho
    · rw [List.getElem?_eq_none (by simp; omega)] at e1
      cases e1
end
/-- What a flow is. -/
structure Fl where
  ps : List Pc
  e : Int
  r : Est
  k : Nat
  st : Int
  rcv : Int
  tries : Int
  at_ : Int
  has : Bool
  since : Int
  tw : Bool
  out : List Ot
/-- A flow at f: its queue at q, its row of what is to be sent; all its blocks are F's, the queue's Q's, its data D's. -/
structure FlX (F : Nat → Prop) (w : World) (f q : Nat) (A : Option Addr) (c : Nat) (ros : List Ro) (Q D : Nat → Prop) (S : Fl) : Prop where
  box : Blk w f 111 (fc q S.r.has S.r.s S.r.v S.k S.st S.rcv S.tries S.at_ S.has S.since S.tw (.slice A ros.length c))
  que : QB w Q q S.ps S.e
  row : Own layO 94 w 0 (.slice A ros.length c) ros
  outs : IsOs w D ros S.out
  ff : F f
  fq : ∀ b, Q b → F b
  fr : ∀ b, (Value.slice A ros.length c).ownBlock = some b → F b
  fd : ∀ b, D b → F b
  nq : ∀ b, Q b → b ≠ f ∧ (Value.slice A ros.length c).ownBlock ≠ some b ∧ ¬ D b
  nr : ∀ b, (Value.slice A ros.length c).ownBlock = some b → ¬ D b
  nd : ∀ b, D b → b ≠ f
  lt : ∀ b, F b → b < w.heap.size
def FlS (F : Nat → Prop) (w : World) (f : Nat) (S : Fl) : Prop := ∃ q A c ros Q D, FlX F w f q A c ros Q D S
/-- What a call leaves of it. -/
def FlOf (F : Nat → Prop) (f : Nat) (S' : Fl) (w w' : World) : Prop := ∃ F', FlS F' w' f S' ∧ Kept F w w' ∧ ∀ b, F' b → F b ∨ w.heap.size ≤ b
section
variable {F : Nat → Prop} {w w' wB : World} {f q : Nat} {A : Option Addr} {c : Nat} {ros : List Ro} {Q D : Nat → Prop} {S S' : Fl}
theorem FlX.kept {K : Nat → Prop} (h : FlX F w f q A c ros Q D S) (k : Kept K w w') (hd : ∀ b, F b → ¬ K b) : FlX F w' f q A c ros Q D S :=
  ⟨h.box.kept k (hd f h.ff), h.que.kept k (fun b hb => hd b (h.fq b hb)), h.row.kept k (fun b hb => hd b (h.fr b hb)), h.outs.kept k (fun b hb => hd b (h.fd b hb)), h.ff, h.fq, h.fr, h.fd, h.nq, h.nr, h.nd, fun b hb => Nat.lt_of_lt_of_le (h.lt b hb) k.size⟩
theorem FlX.fine (h : FlX F w f q A c ros Q D S) (k : Fine w w') : FlX F w' f q A c ros Q D S := h.kept (K := fun _ => False) (Kept.of_fine k) (fun _ _ f => f)
theorem FlS.kept {K : Nat → Prop} (h : FlS F w f S) (k : Kept K w w') (hd : ∀ b, F b → ¬ K b) : FlS F w' f S := by
  obtain ⟨q, A, c, ros, Q, D, hX⟩ := h
  exact ⟨q, A, c, ros, Q, D, hX.kept k hd⟩
theorem FlS.fine (h : FlS F w f S) (k : Fine w w') : FlS F w' f S := h.kept (K := fun _ => False) (Kept.of_fine k) (fun _ _ f => f)
theorem FlS.lt (h : FlS F w f S) : ∀ b, F b → b < w.heap.size := by
  obtain ⟨q, A, c, ros, Q, D, hX⟩ := h
  exact hX.lt
theorem FlX.nf (h : FlX F w f q A c ros Q D S) : ∀ b, (Value.slice A ros.length c).ownBlock = some b → b ≠ f := fun b hb => h.row.ne_blk hb h.box (by decide)
/-- Its own block has turned alone. -/
theorem FlX.turned (h : FlX F w f q A c ros Q D S) (hb : Blk w' f 111 (fc q S'.r.has S'.r.s S'.r.v S'.k S'.st S'.rcv S'.tries S'.at_ S'.has S'.since S'.tw (.slice A ros.length c))) (k : Kept (· = f) w w') (e1 : S'.ps = S.ps) (e2 : S'.e = S.e) (e3 : S'.out = S.out) : FlX F w' f q A c ros Q D S' :=
  ⟨hb, by rw [e1, e2]; exact h.que.kept k (fun b hb e => (h.nq b hb).1 e), h.row.kept k (fun b hb e => h.nf b hb e), by rw [e3]; exact h.outs.kept k (fun b hb e => h.nd b hb e), h.ff, h.fq, h.fr, h.fd, h.nq, h.nr, h.nd, fun b hb => Nat.lt_of_lt_of_le (h.lt b hb) k.size⟩
/-- One more is to be sent. -/
theorem FlX.more {A2 : Option Addr} {n2 c2 : Nat} {o : Ro} {t : Ot} {v : Nat → Prop} (h : FlX F w f q A c ros Q D S) (k : Kept (fun y => (Value.slice A ros.length c).ownBlock = some y) w wB) (hn : n2 = (ros ++ [o]).length) (ho : Own layO 94 wB 0 (.slice A2 n2 c2) (ros ++ [o]))
    (hv : (Value.slice A2 n2 c2).ownBlock = (Value.slice A ros.length c).ownBlock ∨ ∀ k, (Value.slice A2 n2 c2).ownBlock = some k → w.heap.size ≤ k) (ht : IsO w v o t) (hvF : ∀ b, v b → ¬ F b ∧ b < w.heap.size) :
    FlX (fun b => F b ∨ v b ∨ (w.heap.size ≤ b ∧ b < wB.heap.size)) (wB.setCell ⟨f, 12, none⟩ (.slice A2 n2 c2)) f q A2 c2 (ros ++ [o]) Q (fun b => D b ∨ v b) { S with out := S.out ++ [t] } := by
  subst hn
  have hbx : Blk wB f 111 (fc q S.r.has S.r.s S.r.v S.k S.st S.rcv S.tries S.at_ S.has S.since S.tw (.slice A ros.length c)) := h.box.kept k (fun e => h.nf f e rfl)
  have k2 : Kept (· = f) wB (wB.setCell ⟨f, 12, none⟩ (.slice A2 (ros ++ [o]).length c2)) := (Kept.refl (· = f) wB).setIn (p := ⟨f, 12, none⟩) rfl _
  have hnf : ∀ y, (Value.slice A2 (ros ++ [o]).length c2).ownBlock = some y → y ≠ f := fun y hy => ho.ne_blk hy hbx (by decide)
  have vf : ∀ b, v b → b ≠ f := fun b hb e => (hvF b hb).1 (e ▸ h.ff)
  have ownv : ∀ b, (Value.slice A ros.length c).ownBlock = some b → ¬ v b := fun b hb hvb => (hvF b hvb).1 (h.fr b hb)
  refine ⟨hbx.set_ 12 _, (h.que.kept k (fun b hb e => (h.nq b hb).2.1 e)).kept k2 (fun b hb e => (h.nq b hb).1 e), ho.kept k2 (fun y hy e => hnf y hy e), ?_, .inl h.ff, fun b hb => .inl (h.fq b hb), fun y hy => ?_, fun b hb => ?_, fun b hb => ⟨(h.nq b hb).1, ?_, ?_⟩, fun y hy hd => ?_, fun b hb => ?_, fun b hb => ?_⟩
  · have h1 : IsOs wB (fun b => D b ∨ v b) ros S.out := (h.outs.kept k (fun b hb e => h.nr b e hb)).less (fun b hb => .inl hb)
    have h2 : IsO wB (fun b => D b ∨ v b) o t := ⟨(ht.1.kept k (fun b hb e => ownv b e hb)).less (fun b hb => .inr hb), ht.2⟩
    exact (h1.snoc h2).kept k2 (fun b hb e => hb.elim (fun hb => h.nd b hb e) (fun hb => vf b hb e))
  · rcases hv with h1 | h1
    · exact .inl (h.fr y (h1 ▸ hy))
    · exact .inr (.inr ⟨h1 y hy, (ho.lt y hy).2⟩)
  · rcases hb with hb | hb
    · exact .inl (h.fd b hb)
    · exact .inr (.inl hb)
  · rcases hv with h1 | h1
    · rw [h1]; exact (h.nq b hb).2.1
    · intro e
      have := h1 b e
      have := h.lt b (h.fq b hb)
      omega
  · rintro (hd | hd)
    · exact (h.nq b hb).2.2 hd
    · exact (hvF b hd).1 (h.fq b hb)
  · rcases hv with h1 | h1
    · rw [h1] at hy
      rcases hd with hd | hd
      · exact h.nr y hy hd
      · exact ownv y hy hd
    · have h3 := h1 y hy
      rcases hd with hd | hd
      · have := h.lt y (h.fd y hd)
        omega
      · have := (hvF y hd).2
        omega
  · rcases hb with hb | hb
    · exact h.nd b hb
    · exact vf b hb
  · refine Nat.lt_of_lt_of_le ?_ k2.size
    rcases hb with hb | hb | hb
    · exact Nat.lt_of_lt_of_le (h.lt b hb) k.size
    · exact Nat.lt_of_lt_of_le (hvF b hb).2 k.size
    · exact hb.2
end
/-! A flow that is not there. -/
theorem kill_nil (w : World) : Calls Try.prog 52 #[.pointer none] w fun e w' => e = .returned (.tuple #[]) ∧ Fine w w' := by
  have hov : Calls Try.prog 73 #[.pointer none] w fun e w' => e = .returned (.bool true) ∧ Fine w w' := by
    go_enter Try.func73, Try.ntmps73
    go_wp2_with fail
    go_ret
    exact ⟨rfl, Fine.refl w⟩
  go_enter Try.func52, Try.ntmps52
  go_wp2_with fail
  refine hov.mono ?_
  rintro e w1 ⟨rfl, f1⟩
  go_wp2_with fail
  exact bodyPost_ret (results_none rfl _ _ _) rfl ⟨rfl, f1⟩
theorem over_nil (w : World) : Calls Try.prog 73 #[.pointer none] w fun e w' => e = .returned (.bool true) ∧ Fine w w' := by
  go_enter Try.func73, Try.ntmps73
  go_wp2_with fail
  go_ret
  exact ⟨rfl, Fine.refl w⟩
theorem at_nil (w : World) : Calls Try.prog 49 #[.pointer none] w fun e w' => e = .returned (.tuple #[.int .i64 0, .bool false]) ∧ Fine w w' := by
  go_enter Try.func49, Try.ntmps49
  go_wp2_with fail
  exact bodyPost_ret (v := .tuple #[.int .i64 0, .bool false]) (by simp [results, Try.results49, go_sem]) rfl ⟨rfl, Fine.refl w⟩
theorem send_nil (d : Value) (n : Int) (b : Bool) (t : Int) (w : World) : Calls Try.prog 57 #[.pointer none, d, .int .i64 n, .bool b, .int .i64 t] w fun e w' => e = .returned (.int .i64 2) ∧ Fine w w' := by
  go_enter Try.func57, Try.ntmps57
  go_wp2_with fail
  go_ret
  exact ⟨rfl, Fine.refl w⟩
theorem close_nil (t : Int) (w : World) : Calls Try.prog 58 #[.pointer none, .int .i64 t] w fun e w' => e = .returned (.int .i64 2) ∧ Fine w w' := by
  go_enter Try.func58, Try.ntmps58
  go_wp2_with fail
  go_ret
  exact ⟨rfl, Fine.refl w⟩
theorem tell_nil (w : World) : Calls Try.prog 59 #[.pointer none] w fun e w' => e = .returned (.int .i64 2) ∧ Fine w w' := by
  go_enter Try.func59, Try.ntmps59
  go_wp2_with fail
  go_ret
  exact ⟨rfl, Fine.refl w⟩
theorem probe_nil (w : World) : Calls Try.prog 60 #[.pointer none] w fun e w' => e = .returned (.int .i64 2) ∧ Fine w w' := by
  go_enter Try.func60, Try.ntmps60
  go_wp2_with fail
  refine (tell_nil w).mono ?_
  rintro e w1 ⟨rfl, f1⟩
  go_wp2_with fail
  go_ret
  exact ⟨rfl, f1⟩
theorem out_nil (w : World) : Calls Try.prog 53 #[.pointer none] w fun e w' => e = .returned (.slice none 0 0) ∧ Fine w w' := by
  go_enter Try.func53, Try.ntmps53
  go_wp2_with fail
  go_ret
  exact ⟨rfl, Fine.refl w⟩
theorem left_nil (w : World) : Calls Try.prog 50 #[.pointer none] w fun e w' => e = .returned (.slice none 0 0) ∧ Fine w w' := by
  go_enter Try.func50, Try.ntmps50
  go_wp2_with fail
  go_ret
  exact ⟨rfl, Fine.refl w⟩
theorem state_nil (w : World) : Calls Try.prog 47 #[.pointer none] w fun e w' => e = .returned (.int .i64 0) ∧ Fine w w' := by
  go_enter Try.func47, Try.ntmps47
  go_wp2_with fail
  go_ret
  exact ⟨rfl, Fine.refl w⟩
theorem fsm_nil (w : World) : Calls Try.prog 61 #[.pointer none] w fun e w' => e = .returned (.int .i64 32) ∧ Fine w w' := by
  go_enter Try.func61, Try.ntmps61
  go_wp2_with fail
  go_ret
  exact ⟨rfl, Fine.refl w⟩
end Go.Proofs.Ytjldgialhgfhmaa
