/- A flow: Dial, Answer, Out; wakes; the law FlowNil. -/
import Derived.Test.YtjldgialhgfhmaaXFlow4
import Derived.Test.YtjldgialhgfhmaaXFlow6
namespace Go.Proofs.Ytjldgialhgfhmaa
set_option linter.unusedVariables false
set_option linter.unusedSimpArgs false
open Go.ChangeShapes Go.WideShapes Go.ChangeAt Go.RowKit Go.Maps
set_option linter.unusedVariables false
set_option linter.unusedSimpArgs false
def flow0 (iss st rcv : Int) : Fl := ⟨[], iss, est0, 0, st, rcv, 0, 0, false, 0, false, []⟩
def synP : Pc := ⟨0, true, false, [], 0, false⟩
theorem flow0_ok {iss st rcv : Int} (h : 0 ≤ iss ∧ iss < 4294967296) : (flow0 iss st rcv).Ok := ⟨est0_ok, by simp [flow0], by simp [flow0], fun p hp => (by cases hp), h, by simp [flow0]⟩
theorem flow0_at {w w1 : World} {iss st rcv : Int} {F0 : Nat → Prop} {f q : Nat} (hq : QB w F0 q [] iss) (hf : f = w.heap.size) (hw1 : w1 = w.alloc (.cells (fc q false 0 0 0 st rcv 0 0 false 0 false (.slice none 0 0)) 111)) :
    FlS (fun b => F0 b ∨ b = f) w1 f (flow0 iss st rcv) := by
  subst hw1
  have fa := (Fine.refl w).alloc (.cells (fc q false 0 0 0 st rcv 0 0 false 0 false (.slice none 0 0)) 111)
  have hb := Blk.newAt (w := w) (t := 111) (cs := fc q false 0 0 0 st rcv 0 0 false 0 false (.slice none 0 0)) hf
  obtain ⟨_, _, _, _, _, _, _, _, q6⟩ := hq
  have hq : QB w F0 q [] iss := ⟨_, _, _, by assumption, by assumption, by assumption, by assumption, by assumption, q6⟩
  exact ⟨q, none, 0, [], F0, fun _ => False, hb, hq.fine fa, Own.nil_ _ _ _ _, IsOs.nil_ _ _, .inr rfl, fun b hb => .inl hb, fun b hb => (by cases hb), fun b hb => hb.elim, fun b hb => ⟨fun e => (by have := q6 b hb; omega), fun e => (by cases e), fun h => h⟩, fun b hb => (by cases hb), fun b hb => hb.elim, fun b h => h.elim (fun h => Nat.lt_of_lt_of_le (q6 b h) fa.size) (fun h => by rw [h]; exact hb.lt)⟩
/-- A flow that was made. -/
def FlNew (S : Fl) (w : World) (r : Ending) (w' : World) : Prop := ∃ f F, r = .returned (.pointer (some ⟨f, 0, none⟩)) ∧ FlS F w' f S ∧ (∀ b, F b → w.heap.size ≤ b) ∧ Fine w w'
theorem synIs (w : World) : Is w (fun _ => False) ⟨0, true, false, none, 0, 0, 0, false⟩ synP := ⟨rfl, rfl, rfl, rfl, rfl, rfl, RS.nil_ _ _, fun b off e => by cases e⟩
set_option maxHeartbeats 2000000 in
set_option maxRecDepth 20000 in
theorem dial_any (iss tick : Int) (hi : 0 ≤ iss ∧ iss < 4294967296) (ht : 0 ≤ tick ∧ tick ≤ 1099511627776) (w : World) : Calls Try.prog 42 #[.int .u32 iss, .int .i64 tick] w (FlNew ((flow0 iss 1 0).send synP tick) w) := by
  go_enter Try.func42, Try.ntmps42
  go_wp2_with fail
  refine (new_any iss w).mono ?_
  rintro r w1 ⟨rfl, hq, f1⟩
  have HQ := Lib.hid hq; have F1 := Lib.hid f1
  have hs1 : w.heap.size < w1.heap.size := by have := hq.endAt.2.2.1; exact this
  clear hq f1
  obtain ⟨q, hq⟩ : ∃ q, w.heap.size = q := ⟨_, rfl⟩
  rw [hq] at HQ ⊢
  obtain ⟨f, hf⟩ : ∃ f, w1.heap.size = f := ⟨_, rfl⟩
  have HS : Hid (FlS (fun b => b = q ∨ b = f) (w1.alloc (.cells #[.pointer (some ⟨q, 0, none⟩), .bool false, .int .i64 0, .int .i64 0, .int .i64 0, .int .i64 1, .int .u32 0, .int .i64 0, .int .i64 0, .bool false, .int .i64 0, .bool false, .slice none 0 0] 111)) f (flow0 iss 1 0)) := Lib.hid (flow0_at (st := 1) (rcv := 0) HQ.out hf.symm rfl)
  have F2 := Lib.hid (F1.out.alloc (.cells #[.pointer (some ⟨q, 0, none⟩), .bool false, .int .i64 0, .int .i64 0, .int .i64 0, .int .i64 1, .int .u32 0, .int .i64 0, .int .i64 0, .bool false, .int .i64 0, .bool false, .slice none 0 0] 111))
  have HB : Hid (∀ b, (b = q ∨ b = f) → w.heap.size ≤ b) := Lib.hid (fun b hb => by omega)
  have HOK := Lib.hid (flow0_ok (st := 1) (rcv := 0) hi)
  clear hq
  go_wp2_with fail
  generalize w1.alloc (.cells #[.pointer (some ⟨q, 0, none⟩), .bool false, .int .i64 0, .int .i64 0, .int .i64 0, .int .i64 1, .int .u32 0, .int .i64 0, .int .i64 0, .bool false, .int .i64 0, .bool false, .slice none 0 0] 111) = w2 at HS F2 ⊢
  refine (fsend_any (p := synP) tick ht HOK.out (by simp [synP]) (synIs w2) (fun b hb => hb.elim) HS.out).mono ?_
  rintro r w3 ⟨rfl, F3, j1, j2, j3⟩
  have R : Hid (FlNew ((flow0 iss 1 0).send synP tick) w (.returned (.pointer (some ⟨f, 0, none⟩))) w3) := Lib.hid ⟨f, F3, rfl, j1, fun b hb => (j3 b hb).elim (fun h => HB.out b h) (fun h => Nat.le_trans F2.out.size h), F2.out.kept j2 (fun x hx hh => by have := HB.out x hh; omega)⟩
  clear j1 j2 j3
  go_wp2_with fail
  go_ret
  exact R.out
/-- What is to be sent, handed out. -/
def OutOf (F : Nat → Prop) (f : Nat) (S : Fl) (w : World) (r : Ending) (w' : World) : Prop :=
  ∃ A c ros D F', r = .returned (.slice A ros.length c) ∧ RS layO w' A c ros ∧ IsOs w' D ros S.out ∧ FlS F' w' f { S with out := [] } ∧ (∀ b, F' b → F b) ∧ (∀ b, D b → F b ∧ ¬ F' b) ∧ (∀ b o, A = some ⟨b, o, none⟩ → F b ∧ ¬ F' b) ∧ Kept (· = f) w w'
theorem Own.block_' {α : Type} {n : Nat} {E : Lay α n} {e : TypeId} {w : World} {base : Nat} {A : Option Addr} {m c : Nat} {xs : List α} (h : Own E e w base (.slice A m c) xs) : ∀ b o, A = some ⟨b, o, none⟩ → (Value.slice A m c).ownBlock = some b := by
  intro b o e
  obtain ⟨_, h⟩ := h
  rcases h with ⟨e1, _⟩ | ⟨g, cap, cur, e1, _⟩
  · injection e1 with e1
    subst e1
    cases e
  · injection e1 with e1
    subst e1
    injection e with e
    injection e with e _
    subst e
    rfl
theorem out_any {F : Nat → Prop} {f : Nat} {S : Fl} {w : World} (h : FlS F w f S) : Calls Try.prog 53 #[.pointer (some ⟨f, 0, none⟩)] w (OutOf F f S w) := by
  obtain ⟨q, A, c, ros, Q, D, hX⟩ := h
  have H := Lib.hid hX
  obtain ⟨n, hn⟩ : ∃ n, ros.length = n := ⟨_, rfl⟩
  have HN := Lib.hid hn
  have c12 : w.cell? ⟨f, 12, none⟩ = some (.slice A n c) := by have := hX.box.cell 12; rw [hn] at this; exact this
  have z12 := hX.box.frozen 12
  clear hX hn
  go_enter Try.func53, Try.ntmps53
  go_wp2_with fail
  go_ret
  have kx : Kept (· = f) w (w.setCell ⟨f, 12, none⟩ (.slice none 0 0)) := (Kept.refl (· = f) w).setIn (p := ⟨f, 12, none⟩) rfl _
  have h1 := H.out
  refine ⟨A, c, ros, D, fun b => F b ∧ (Value.slice A ros.length c).ownBlock ≠ some b ∧ ¬ D b, (by rw [HN.out]; rfl), h1.row.rs.1.kept kx (fun b o e hb => h1.nf b (h1.row.block_' b o e) hb), h1.outs.kept kx (fun b hb e => h1.nd b hb e), ?_, fun b hb => hb.1, fun b hb => ⟨h1.fd b hb, fun h => h.2.2 hb⟩, fun b o e => ⟨h1.fr b (h1.row.block_' b o e), fun h => h.2.1 (h1.row.block_' b o e)⟩, kx⟩
  refine ⟨q, none, 0, [], Q, fun _ => False, h1.box.set_ 12 (.slice none 0 0), h1.que.kept kx (fun b hb e => (h1.nq b hb).1 e), Own.nil_ _ _ _ _, IsOs.nil_ _ _, ⟨h1.ff, fun e => h1.nf f e rfl, fun hd => h1.nd f hd rfl⟩, fun b hb => ⟨h1.fq b hb, (h1.nq b hb).2.1, (h1.nq b hb).2.2⟩, fun b hb => (by cases hb), fun b hb => hb.elim, fun b hb => ⟨(h1.nq b hb).1, fun e => (by cases e), fun h => h⟩, fun b hb => (by cases hb), fun b hb => hb.elim, fun b hb => Nat.lt_of_lt_of_le (h1.lt b hb.1) kx.size⟩
theorem at_any {F : Nat → Prop} {f : Nat} {S : Fl} {w : World} (h : FlS F w f S) : Calls Try.prog 49 #[.pointer (some ⟨f, 0, none⟩)] w fun e w' => e = .returned (.tuple #[.int .i64 S.at_, .bool S.has]) ∧ Fine w w' := by
  obtain ⟨q, A, c, ros, Q, D, hX⟩ := h
  exact fat_any hX.box
theorem state_any {F : Nat → Prop} {f : Nat} {S : Fl} {w : World} (h : FlS F w f S) : Calls Try.prog 47 #[.pointer (some ⟨f, 0, none⟩)] w fun e w' => e = .returned (.int .i64 S.st) ∧ Fine w w' := by
  obtain ⟨q, A, c, ros, Q, D, hX⟩ := h
  exact fstate_any hX.box
set_option maxHeartbeats 2000000 in
set_option maxRecDepth 20000 in
theorem flowWakes_any (w : World) : Calls Try.prog 41 #[] w fun r w' => r = .returned (.bool true) ∧ Fine w w' := by
  have e1 : ((flow0 5 1 0).send synP 0).out = [⟨⟨5, true, false, [], 0, false⟩, 0, false, false⟩] := by
    simp [Fl.send, Fl.sent, Fl.pushed, Fl.put, Fl.putting, Fl.armed, Fl.arm, flow0, withSeq, synP]
  have e2 : ((flow0 5 1 0).send synP 0).at_ = 4 ∧ ((flow0 5 1 0).send synP 0).has = true := by
    have h1 : wait est0.base 0 = 4 := by decide
    simp [Fl.send, Fl.sent, Fl.pushed, Fl.put, Fl.putting, Fl.armed, Fl.arm, flow0, withSeq, synP, h1]
  have E1 := Lib.hid e1; have E2 := Lib.hid e2
  clear e1 e2
  go_enter Try.func41, Try.ntmps41
  go_wp2_with fail
  refine (dial_any 5 0 (by omega) (by omega) w).mono ?_
  rintro r w1 ⟨f, F, rfl, h1, hB, f1⟩
  have H1 := Lib.hid h1; have HB := Lib.hid hB; have F1 := Lib.hid f1
  clear h1 hB f1
  go_wp2_with fail
  refine (out_any H1.out).mono ?_
  rintro r w2 ⟨A, c, ros, D, F', rfl, rs, hi, h2, hF', hD, hA, k2⟩
  rw [E1.out] at hi
  have hl : ros.length = 1 := hi.1
  obtain ⟨o, rfl⟩ : ∃ o, ros = [o] := by
    cases ros with
    | nil => cases hl
    | cons a t => cases t with
      | nil => exact ⟨a, rfl⟩
      | cons b t => simp at hl
  have ho := hi.2 0 o _ rfl rfl
  have FW2 := Lib.hid (F1.out.kept k2 (fun x hx e => by have h3 := HB.out f (by obtain ⟨q, A, c, ros, Q, D, hX⟩ := H1.out; exact hX.ff); have e : x = f := e; omega))
  obtain ⟨b, off, rfl, hbl, hc⟩ := rs.at_ (k := 0) (x := o) rfl
  have H2 := Lib.hid h2
  have ho1 : o.r.syn = true := ho.1.2.1
  have ho0 : o.r.seq = 5 := ho.1.1
  have ho2 : o.acks = false := ho.2.2.1
  have d0 : w2.cell? ⟨b, off, none⟩ = some (.int .u32 5) := by have := hc 0 _ rfl; rw [ho0] at this; simpa using this
  have d1 : w2.cell? ⟨b, off + 1, none⟩ = some (.bool true) := by have := hc 1 _ rfl; rw [ho1] at this; simpa using this
  have d7 : w2.cell? ⟨b, off + 7, none⟩ = some (.bool false) := by have := hc 7 _ rfl; rw [ho2] at this; simpa using this
  have HAT := Lib.hid (at_any h2)
  dsimp only at HAT
  rw [E2.out.1, E2.out.2] at HAT
  have HC : Hid (∀ w', Fine w2 w' → w'.cell? ⟨b, off, none⟩ = some (.int .u32 5) ∧ w'.cell? ⟨b, off + 1, none⟩ = some (.bool true) ∧ w'.cell? ⟨b, off + 7, none⟩ = some (.bool false)) := Lib.hid (fun w' f => by
    have hb : b < w2.heap.size := hbl
    exact ⟨(f.cell (p := ⟨b, off, none⟩) hb).trans d0, (f.cell (p := ⟨b, off + 1, none⟩) hb).trans d1, (f.cell (p := ⟨b, off + 7, none⟩) hb).trans d7⟩)
  clear rs hi h2 hF' hD hA k2 ho ho0 ho1 ho2 hc d0 d1 d7 hl
  go_wp2_with fail
  refine HAT.out.mono ?_
  rintro r w3 ⟨rfl, f3⟩
  obtain ⟨d0, d1, d7⟩ := HC.out w3 f3
  have F3 := Lib.hid (FW2.out.trans f3)
  clear f3
  go_wp2_with fail
  go_ret
  exact ⟨rfl, F3.out⟩
end Go.Proofs.Ytjldgialhgfhmaa
