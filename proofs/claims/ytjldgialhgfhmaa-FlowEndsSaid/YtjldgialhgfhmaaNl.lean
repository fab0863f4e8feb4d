/- Two flows: what a step does to them, before the walk. Two flows: a packet comes. Two flows: a step, what stands before its walks. Two flows: a step, what stands before its walks (2). The laws of two flows: begins. -/
import Derived.Test.YtjldgialhgfhmaaNk
import Derived.Test.YtjldgialhgfhmaaNj
import Derived.Test.YtjldgialhgfhmaaNf
import Derived.Test.YtjldgialhgfhmaaNg
import Derived.Test.YtjldgialhgfhmaaNi
import Derived.Test.YtjldgialhgfhmaaXFlow28
import Derived.Test.YtjldgialhgfhmaaXFlow28b
import Derived.Test.YtjldgialhgfhmaaXFlow28c
import Derived.Test.YtjldgialhgfhmaaXFlow25
namespace Go.Proofs.Ytjldgialhgfhmaa
set_option linter.unusedVariables false
set_option linter.unusedSimpArgs false
open Go.ChangeShapes Go.WideShapes Go.ChangeAt Go.RowKit Go.Maps
set_option linter.unusedVariables false
set_option linter.unusedSimpArgs false
section
variable {col c1 : Nat → Nat} {w0 w w' w1 w2 wm wB : World} {g f0 x : Nat} {p1 : Option Nat} {wA : Option Addr} {wc : Nat} {ks : List Rk} {a0 a1 b0 b1 : SlV} {P P' : Pr} {s : Sg}
/-- The way's row is a new one. -/
theorem PrX.cut (h : PrX col w0 w g f0 p1 wA wc ks a0 a1 b0 b1 P) (fB : Fine w wB) {A3 : Option Addr} {n3 c3 : Nat} {ks' : List Rk} (hn : n3 = ks'.length) (hm : ∀ k ∈ ks', k ∈ ks) (oB : Own layK 114 wB 0 (.slice A3 n3 c3) ks') (bB : ∀ b, (Value.slice A3 n3 c3).ownBlock = some b → w.heap.size ≤ b) (hs : IsG w (fun b => col b = 3) s) :
    CameOf col w0 g { P with way := ks'.map Rk.pl } s w (wB.setCell ⟨g, 2, none⟩ (.slice A3 n3 c3)) := by
  subst hn
  obtain ⟨F, hF⟩ : ∃ F : Nat → Prop, F = fun b => (Value.slice A3 ks'.length c3).ownBlock = some b := ⟨_, rfl⟩
  have hFm : ∀ b, F b ↔ (Value.slice A3 ks'.length c3).ownBlock = some b := fun b => by rw [hF]
  have h1 := h.fine_ fB
  have k2 : Kept (fun b => col b = 9) wB (wB.setCell ⟨g, 2, none⟩ (.slice A3 ks'.length c3)) := (Kept.refl (fun b => col b = 9) wB).setIn (p := ⟨g, 2, none⟩) h.cg _
  have k0 : Kept (fun b => col b = 9) w (wB.setCell ⟨g, 2, none⟩ (.slice A3 ks'.length c3)) := (Kept.of_fine fB).trans k2
  have hz : ∀ b, F b → col b = 0 := fun b hb => Classical.byContradiction fun e => by have := (h.base b e).2; have := bB b ((hFm b).1 hb); omega
  have hin : ∀ b, recol col 4 F b = 4 ↔ F b := fun b => recol_in (by decide)
  have ho : ∀ m : Nat, m ≠ 4 → m ≠ 0 → ∀ b, recol col 4 F b = m ↔ col b = m := fun m a c b => recol_out a (fun b hb => .inr (hz b hb)) c
  have hd : ∀ m : Nat, m ≠ 9 → ∀ b, col b = m → ¬ col b = 9 := fun m hm b e e2 => hm (e.symm.trans e2)
  have hsn : ∀ b, recol col 4 F b ≠ 0 → F b ∨ col b ≠ 0 := fun b hb => by
    unfold recol at hb
    split at hb
    · rename_i e; exact .inl e
    · split at hb
      · exact absurd rfl hb
      · exact .inr hb
  have hl := oB.lt
  refine ⟨recol col 4 F, ⟨f0, p1, A3, c3, ks', a0, a1, b0, b1, h1.fine.kept k2 (fun x hx e => by have := (h1.base x (by rw [e]; decide)).1; omega), fun b hb => ?_, (ho 9 (by decide) (by decide) g).2 h.cg, (h1.box.set_ 2 _).cast (by simp), ?_, fun T e => ?_, h.no1, oB.kept k2 (fun b e o => by have := hz b ((hFm b).2 e); rw [o] at this; cases this), fun b e => (hin b).2 ((hFm b).2 e), fun x hx => ((h1.dat x (hm x hx)).kept k2 (hd 3 (by decide))).less (fun b hb => (ho 3 (by decide) (by decide) b).2 hb), rfl, h1.r0.kept k2 (fun b e => hd 5 (by decide) b (h.c0 b e)), fun b e => (ho 5 (by decide) (by decide) b).2 (h.c0 b e), h1.r1.kept k2 (fun b e => hd 6 (by decide) b (h.c1 b e)), fun b e => (ho 6 (by decide) (by decide) b).2 (h.c1 b e), h1.r2.kept k2 (fun b e => hd 7 (by decide) b (h.c2 b e)), fun b e => (ho 7 (by decide) (by decide) b).2 (h.c2 b e), h1.r3.kept k2 (fun b e => hd 8 (by decide) b (h.c3 b e)), fun b e => (ho 8 (by decide) (by decide) b).2 (h.c3 b e)⟩, ((hs.fine fB).kept k2 (hd 3 (by decide))).less (fun b hb => (ho 3 (by decide) (by decide) b).2 hb), k0.mono (fun y _ e => by show col y ≠ 0; have e : col y = 9 := e; rw [e]; decide), fun b hb => (hsn b hb).elim (fun e => .inr (bB b ((hFm b).1 e))) .inl⟩
  · rcases hsn b hb with e | e
    · have e := (hFm b).1 e
      exact ⟨Nat.le_trans h.fine.size (bB b e), Nat.lt_of_lt_of_le (hl b e).2 k2.size⟩
    · exact ⟨(h1.base b e).1, Nat.lt_of_lt_of_le (h1.base b e).2 k2.size⟩
  · have e : (fun b => recol col 4 F b = 1) = (fun b => col b = 1) := funext fun b => propext (ho 1 (by decide) (by decide) b)
    rw [e]
    exact h1.fl0.kept k2 (hd 1 (by decide))
  · obtain ⟨f1, e1, h2⟩ := h1.fl1 T e
    refine ⟨f1, e1, ?_⟩
    have e : (fun b => recol col 4 F b = 2) = (fun b => col b = 2) := funext fun b => propext (ho 2 (by decide) (by decide) b)
    rw [e]
    exact h2.kept k2 (hd 2 (by decide))
/-- What is sent, and the bytes still there. -/
def SentOf (col : Nat → Nat) (w0 : World) (g : Nat) (P' : Pr) (A : Option Addr) (c : Nat) (xs : List Int) (w w' : World) : Prop := ∃ col', PrS col' w0 w' g P' ∧ RS LB w' A c xs ∧ Kept (fun b => col b ≠ 0) w w' ∧ ∀ b, col' b ≠ 0 → col b ≠ 0 ∨ w.heap.size ≤ b
theorem PrX.send0 (h : PrX col w0 w g f0 p1 wA wc ks a0 a1 b0 b1 P) (hF : FitF P.f0) (ht : 0 ≤ P.tick ∧ P.tick ≤ 1099511627776) {A : Option Addr} {n c : Nat} {xs : List Int} (hx : xs.length = n) (hr : RS LB w A c xs) (hA : ∀ b o, A = some ⟨b, o, none⟩ → col b = 0) (hc : P.f0.canSend xs) (wx : World) (fx : Fine w wx) :
    Calls Try.prog 57 #[.pointer (some ⟨f0, 0, none⟩), .slice A n c, .int .i64 1, .bool false, .int .i64 P.tick] wx fun e w' => e = .returned (.int .i64 0) ∧ SentOf col w0 g { P with f0 := P.f0.send (dataP xs) P.tick } A c xs wx w' := by
  have hX := h.fine_ fx
  have hr := hr.fine fx
  refine (sendD_yes P.tick ht hF.ok 1 false A n c xs hx hr (fun b o e e2 => by rw [hA b o e] at e2; cases e2) hc.1 (by have := hc.2; omega) hX.fl0).mono ?_
  rintro e w' ⟨h1, h2⟩
  obtain ⟨c1, k1, k2, k3, _⟩ := hX.flow0 h2
  exact ⟨h1, c1, k1, hr.keptP k2 (fun b o e z e2 => by have e2 : col b = 1 := e2; rw [hA b o e] at e2; cases e2), k2.mono (fun y _ e => by show col y ≠ 0; have e : col y = 1 := e; rw [e]; decide), k3⟩
theorem PrX.send1 {f1 : Nat} {S : Fl} (h : PrX col w0 w g f0 p1 wA wc ks a0 a1 b0 b1 P) (hp : p1 = some f1) (hS : P.f1 = some S) (hF : FitF S) (ht : 0 ≤ P.tick ∧ P.tick ≤ 1099511627776) {A : Option Addr} {n c : Nat} {xs : List Int} (hx : xs.length = n) (hr : RS LB w A c xs) (hA : ∀ b o, A = some ⟨b, o, none⟩ → col b = 0) (hc : S.canSend xs) (wx : World) (fx : Fine w wx) :
    Calls Try.prog 57 #[.pointer (some ⟨f1, 0, none⟩), .slice A n c, .int .i64 1, .bool false, .int .i64 P.tick] wx fun e w' => e = .returned (.int .i64 0) ∧ SentOf col w0 g { P with f1 := some (S.send (dataP xs) P.tick) } A c xs wx w' := by
  have hX := h.fine_ fx
  have hr := hr.fine fx
  have hfl : FlS (fun b => col b = 2) wx f1 S := by
    obtain ⟨f, e, hh⟩ := hX.fl1 S hS
    rw [hp] at e; injection e with e; subst e; exact hh
  refine (sendD_yes P.tick ht hF.ok 1 false A n c xs hx hr (fun b o e e2 => by rw [hA b o e] at e2; cases e2) hc.1 (by have := hc.2; omega) hfl).mono ?_
  rintro e w' ⟨h1, h2⟩
  obtain ⟨c1, k1, k2, k3, _⟩ := hX.flow1 hp h2
  exact ⟨h1, c1, k1, hr.keptP k2 (fun b o e z e2 => by have e2 : col b = 2 := e2; rw [hA b o e] at e2; cases e2), k2.mono (fun y _ e => by show col y ≠ 0; have e : col y = 2 := e; rw [e]; decide), k3⟩
/-- A row of what was sent has grown. -/
theorem SentOf.fine_ {A : Option Addr} {c : Nat} {xs : List Int} (h : SentOf col w0 g P' A c xs w w') (f : Fine w' w2) : SentOf col w0 g P' A c xs w w2 := by
  obtain ⟨c1, j1, j2, j3, j4⟩ := h
  exact ⟨c1, j1.fine_ f, j2.fine f, j3.trans (Kept.of_fine f), j4⟩
/-- Nothing may be sent. -/
theorem PrX.nosend (h : PrX col w0 w g f0 p1 wA wc ks a0 a1 b0 b1 P) {A : Option Addr} {n c : Nat} {xs : List Int} (hx : xs.length = n) :
    (¬ P.f0.canSend xs → ∀ wx, Fine w wx → Calls Try.prog 57 #[.pointer (some ⟨f0, 0, none⟩), .slice A n c, .int .i64 1, .bool false, .int .i64 P.tick] wx fun e w' => (∃ k : Int, k ≠ 0 ∧ e = .returned (.int .i64 k)) ∧ Fine wx w') ∧
    ((∀ T, P.f1 = some T → ¬ T.canSend xs) → ∀ wx, Fine w wx → Calls Try.prog 57 #[.pointer (p1.map fun f => ⟨f, 0, none⟩), .slice A n c, .int .i64 1, .bool false, .int .i64 P.tick] wx fun e w' => (∃ k : Int, k ≠ 0 ∧ e = .returned (.int .i64 k)) ∧ Fine wx w') := by
  refine ⟨fun hn wx fx => sendD_no P.tick 1 false A n c (fun e => hn ⟨e.1, by omega, by omega⟩) (h.fine_ fx).fl0, fun hn wx fx => ?_⟩
  cases hT : P.f1 with
  | none =>
    have e := h.no1 hT
    subst e
    refine (send_nil (.slice A n c) 1 false P.tick wx).mono ?_
    rintro e w' ⟨h1, h2⟩
    exact ⟨⟨2, by decide, h1⟩, h2⟩
  | some T =>
    obtain ⟨f1, e, hh⟩ := (h.fine_ fx).fl1 T hT
    subst e
    exact sendD_no P.tick 1 false A n c (fun e => hn T hT ⟨e.1, by omega, by omega⟩) hh
theorem PrX.close0 (h : PrX col w0 w g f0 p1 wA wc ks a0 a1 b0 b1 P) (hF : FitF P.f0) (ht : 0 ≤ P.tick ∧ P.tick ≤ 1099511627776) (wx : World) (fx : Fine w wx) :
    Calls Try.prog 58 #[.pointer (some ⟨f0, 0, none⟩), .int .i64 P.tick] wx fun e w' => (∃ k : Int, e = .returned (.int .i64 k)) ∧ PrOf col w0 g { P with f0 := P.f0.close P.tick } wx w' := by
  have hX := h.fine_ fx
  refine (close_any P.tick ht hF.ok hX.fl0).mono ?_
  rintro e w' ⟨h1, h2⟩
  obtain ⟨c1, k1, k2, k3, _⟩ := hX.flow0 h2
  exact ⟨h1, c1, k1, k2.mono (fun y _ e => by show col y ≠ 0; have e : col y = 1 := e; rw [e]; decide), k3⟩
theorem PrX.close1 (h : PrX col w0 w g f0 p1 wA wc ks a0 a1 b0 b1 P) (hF : ∀ T, P.f1 = some T → FitF T) (ht : 0 ≤ P.tick ∧ P.tick ≤ 1099511627776) (wx : World) (fx : Fine w wx) :
    Calls Try.prog 58 #[.pointer (p1.map fun f => ⟨f, 0, none⟩), .int .i64 P.tick] wx fun e w' => (∃ k : Int, e = .returned (.int .i64 k)) ∧ PrOf col w0 g { P with f1 := P.f1.map (fun S => S.close P.tick) } wx w' := by
  have hX := h.fine_ fx
  cases hT : P.f1 with
  | none =>
    have e := h.no1 hT
    subst e
    refine (close_nil P.tick wx).mono ?_
    rintro e w' ⟨h1, h2⟩
    refine ⟨⟨2, h1⟩, ?_⟩
    have e : ({ P with f1 := (none : Option Fl).map (fun S => S.close P.tick) } : Pr) = P := by cases P; dsimp only at hT; subst hT; rfl
    rw [e]
    exact PrOf.self ⟨_, _, _, _, _, _, _, _, _, hX⟩ h2
  | some T =>
    obtain ⟨f1, e, hh⟩ := hX.fl1 T hT
    subst e
    refine (close_any P.tick ht (hF T hT).ok hh).mono ?_
    rintro e w' ⟨h1, h2⟩
    obtain ⟨c1, k1, k2, k3, _⟩ := hX.flow1 rfl h2
    exact ⟨h1, c1, k1, k2.mono (fun y _ e => by show col y ≠ 0; have e : col y = 2 := e; rw [e]; decide), k3⟩
/-- The first flow's deadline, the second one's. -/
theorem expire0 {v : Value} {wt : World} (h : PrOf col w0 g P w wt) (hv : wt.cell? ⟨g, 0, none⟩ = some v) (hF : FitF P.f0) (ht : 0 ≤ P.tick ∧ P.tick ≤ 1099511627776) :
    Calls Try.prog 56 #[v, .int .i64 P.tick] wt fun e w' => (∃ u, e = .returned u) ∧ PrOf col w0 g { P with f0 := P.f0.expire P.tick } w w' ∧ w'.cell? ⟨g, 1, none⟩ = wt.cell? ⟨g, 1, none⟩ := by
  obtain ⟨c1, ⟨f0, p1, wA, wc, ks, a0, a1, b0, b1, X⟩, j2, j3⟩ := h
  have e0 : v = .pointer (some ⟨f0, 0, none⟩) := Option.some.inj (hv.symm.trans (X.box.cell 0))
  subst e0
  refine (expire_any P.tick ht hF.ok hF.tr X.fl0).mono ?_
  rintro e w' ⟨h1, h2⟩
  obtain ⟨c2, k1, k2, k3, _⟩ := X.flow0 h2
  refine ⟨h1, PrOf.after j2 j3 ⟨c2, k1, k2.mono (fun y _ e => by show c1 y ≠ 0; have e : c1 y = 1 := e; rw [e]; decide), k3⟩, ?_⟩
  exact k2.cell (p := ⟨g, 1, none⟩) X.box.lt (fun e => by have e : c1 g = 1 := e; rw [X.cg] at e; cases e)
theorem expire1 {v : Value} {wt : World} (h : PrOf col w0 g P w wt) (hv : wt.cell? ⟨g, 1, none⟩ = some v) (hF : ∀ T, P.f1 = some T → FitF T) (ht : 0 ≤ P.tick ∧ P.tick ≤ 1099511627776) :
    Calls Try.prog 56 #[v, .int .i64 P.tick] wt fun e w' => (∃ u, e = .returned u) ∧ PrOf col w0 g { P with f1 := P.f1.map (fun S => S.expire P.tick) } w w' := by
  obtain ⟨c1, ⟨f0, p1, wA, wc, ks, a0, a1, b0, b1, X⟩, j2, j3⟩ := h
  have e0 : v = .pointer (p1.map fun f => ⟨f, 0, none⟩) := Option.some.inj (hv.symm.trans (X.box.cell 1))
  subst e0
  cases hT : P.f1 with
  | none =>
    have e := X.no1 hT
    subst e
    refine (expire_nil P.tick wt).mono ?_
    rintro e w' ⟨h1, h2⟩
    refine ⟨⟨_, h1⟩, ?_⟩
    have e : ({ P with f1 := (none : Option Fl).map (fun S => S.expire P.tick) } : Pr) = P := by cases P; dsimp only at hT; subst hT; rfl
    rw [e]
    exact PrOf.after j2 j3 (PrOf.self ⟨_, _, _, _, _, _, _, _, _, X⟩ h2)
  | some T =>
    obtain ⟨f1, e, hh⟩ := X.fl1 T hT
    subst e
    refine (expire_any P.tick ht (hF T hT).ok (hF T hT).tr hh).mono ?_
    rintro e w' ⟨h1, h2⟩
    obtain ⟨c2, k1, k2, k3, _⟩ := X.flow1 rfl h2
    exact ⟨h1, PrOf.after j2 j3 ⟨c2, k1, k2.mono (fun y _ e => by show c1 y ≠ 0; have e : c1 y = 2 := e; rw [e]; decide), k3⟩⟩
/-- The tick goes on. -/
theorem PrX.ticked (h : PrX col w0 w g f0 p1 wA wc ks a0 a1 b0 b1 P) : PrOf col w0 g { P with tick := P.tick + 1 } w (w.setCell ⟨g, 7, none⟩ (.int .i64 (P.tick + 1))) := by
  have k2 : Kept (fun b => col b = 9) w (w.setCell ⟨g, 7, none⟩ (.int .i64 (P.tick + 1))) := (Kept.refl (fun b => col b = 9) w).setIn (p := ⟨g, 7, none⟩) h.cg _
  have hd : ∀ m : Nat, m ≠ 9 → ∀ b, col b = m → ¬ col b = 9 := fun m hm b e e2 => hm (e.symm.trans e2)
  refine ⟨col, ⟨f0, p1, wA, wc, ks, a0, a1, b0, b1, h.fine.kept k2 (fun x hx e => by have := (h.base x (by rw [e]; decide)).1; omega), fun b hb => ⟨(h.base b hb).1, Nat.lt_of_lt_of_le (h.base b hb).2 k2.size⟩, h.cg, (h.box.set_ 7 _).cast (by simp), h.fl0.kept k2 (hd 1 (by decide)), fun T e => ?_, h.no1, h.way.kept k2 (fun b e => hd 4 (by decide) b (h.cway b e)), h.cway, fun x hx => (h.dat x hx).kept k2 (hd 3 (by decide)), h.wpl, h.r0.kept k2 (fun b e => hd 5 (by decide) b (h.c0 b e)), h.c0, h.r1.kept k2 (fun b e => hd 6 (by decide) b (h.c1 b e)), h.c1, h.r2.kept k2 (fun b e => hd 7 (by decide) b (h.c2 b e)), h.c2, h.r3.kept k2 (fun b e => hd 8 (by decide) b (h.c3 b e)), h.c3⟩, k2.mono (fun y _ e => by show col y ≠ 0; have e : col y = 9 := e; rw [e]; decide), fun b hb => .inl hb⟩
  obtain ⟨f1, e1, h1⟩ := h.fl1 T e
  exact ⟨f1, e1, h1.kept k2 (hd 2 (by decide))⟩
end
end Go.Proofs.Ytjldgialhgfhmaa
namespace Go.Proofs.Ytjldgialhgfhmaa
set_option linter.unusedVariables false
set_option linter.unusedSimpArgs false
open Go.ChangeShapes Go.WideShapes Go.ChangeAt Go.RowKit Go.Maps
set_option linter.unusedVariables false
set_option linter.unusedSimpArgs false
section
variable {col : Nat → Nat} {w0 w w' wB : World} {g f0 : Nat} {p1 : Option Nat} {wA : Option Addr} {wc : Nat} {ks : List Rk} {a0 a1 b0 b1 : SlV} {P : Pr}
theorem comes_any (h : PrX col w0 w g f0 p1 wA wc ks a0 a1 b0 b1 P) (hF : Fit P) (k : Rk) (hk : IsG w (fun b => col b = 3) k.sg) :
    Calls Try.prog 70 #[.pointer (some ⟨g, 0, none⟩), .agg k.cells.toArray] w fun e w' => e = .returned (.tuple #[]) ∧ PrOf col w0 g (P.comes k.pl) w w' := by
  obtain ⟨tb, s⟩ := k
  have ht : 0 ≤ P.tick ∧ P.tick ≤ 1099511627776 := by have := hF.t; omega
  have e1 : toN true = 1 := rfl
  have e0 : toN false = 0 := rfl
  cases tb with
  | false =>
    have hc := comes_0 h ht hF.f0.ok hF.f0.since hF.c0 s hk
    have ec : P.comes (Rk.pl ⟨false, s⟩) = { P with f0 := (P.f0.hear s.sm P.tick).1, c0 := if (P.f0.hear s.sm P.tick).2 = true then P.c0 ++ s.xs else P.c0 } := rfl
    rw [ec]
    unfold Rk.cells
    dsimp only
    rw [e0]
    exact hc
  | true =>
    unfold Rk.cells
    dsimp only
    rw [e1]
    cases hT : P.f1 with
    | none =>
      have e := h.no1 hT
      subst e
      have hc := comes_N h ht s hk
      have ec : P.comes (Rk.pl ⟨true, s⟩) = if s.syn = true ∧ s.acks = false then { P with f1 := some (answered s.sm P.tick) } else P := by
        unfold Pr.comes Rk.pl
        simp only [hT]
        rfl
      rw [ec]
      exact hc
    | some S =>
      obtain ⟨f1, e, _⟩ := h.fl1 S hT
      have hS := hF.f1 S hT
      have hc := comes_1 h e hT ht hS.ok hS.since hF.c1 s hk
      have ec : P.comes (Rk.pl ⟨true, s⟩) = { P with f1 := some (S.hear s.sm P.tick).1, c1 := if (S.hear s.sm P.tick).2 = true then P.c1 ++ s.xs else P.c1 } := by
        unfold Pr.comes Rk.pl
        simp only [hT]
        rfl
      rw [ec]
      exact hc
end
end Go.Proofs.Ytjldgialhgfhmaa
namespace Go.Proofs.Ytjldgialhgfhmaa
set_option linter.unusedVariables false
set_option linter.unusedSimpArgs false
open Go.ChangeShapes Go.WideShapes Go.ChangeAt Go.RowKit Go.Maps
set_option linter.unusedVariables false
set_option linter.unusedSimpArgs false
theorem ite_min (i n : Int) : (if n < (if i < 0 then 0 else i) then n else if i < 0 then 0 else i) = min (max i 0) n := by
  by_cases h1 : i < 0
  · rw [if_pos h1]
    by_cases h2 : n < 0
    · rw [if_pos h2]; omega
    · rw [if_neg h2]; omega
  · rw [if_neg h1]
    by_cases h2 : n < i
    · rw [if_pos h2]; omega
    · rw [if_neg h2]; omega
theorem act_pass {P : Pr} {kind i : Int} {j : Nat} {p : Bool × Sm} (hk : 0 ≤ kind ∧ kind ≤ 2) (hj : min (max i 0) ((P.way.length : Int) - 1) = j) (hp : P.way[j]? = some p) :
    P.act kind i = (let P1 : Pr := if kind = 2 then P else { P with way := P.way.eraseIdx j }; if kind = 1 then P1 else P1.comes p) := by
  have hne : P.way ≠ [] := fun e => by rw [e] at hp; simp at hp
  unfold Pr.act
  rw [if_pos ⟨hk.1, hk.2, hne⟩]
  unfold Pr.pass
  rw [hj, Int.toNat_natCast, hp]
theorem way_erase {ks : List Rk} (j : Nat) : (ks.take j ++ ks.drop (j + 1)).map Rk.pl = (ks.map Rk.pl).eraseIdx j := by
  rw [← List.eraseIdx_eq_take_drop_succ]
  induction ks generalizing j with
  | nil => simp
  | cons a l ih => cases j with
    | zero => rfl
    | succ j => simp only [List.eraseIdx_cons_succ, List.map_cons, ih]
end Go.Proofs.Ytjldgialhgfhmaa
namespace Go.Proofs.Ytjldgialhgfhmaa
set_option linter.unusedVariables false
set_option linter.unusedSimpArgs false
open Go.ChangeShapes Go.WideShapes Go.ChangeAt Go.RowKit Go.Maps
set_option linter.unusedVariables false
set_option linter.unusedSimpArgs false
theorem act_send0 {P : Pr} {i : Int} (hc : P.f0.canSend (bytesN i)) : P.act 3 i = { P with f0 := P.f0.send (dataP (bytesN i)) P.tick, s0 := P.s0 ++ bytesN i } := by
  unfold Pr.act Pr.sends
  rw [if_neg (by omega), if_pos rfl]
  exact if_pos hc
theorem act_nosend0 {P : Pr} {i : Int} (hc : ¬ P.f0.canSend (bytesN i)) : P.act 3 i = P := by
  unfold Pr.act Pr.sends
  rw [if_neg (by omega), if_pos rfl]
  exact if_neg hc
theorem act_send1 {P : Pr} {S : Fl} {i : Int} (hS : P.f1 = some S) (hc : S.canSend (bytesN i)) : P.act 4 i = { P with f1 := some (S.send (dataP (bytesN i)) P.tick), s1 := P.s1 ++ bytesN i } := by
  unfold Pr.act Pr.sends
  rw [if_neg (by omega), if_neg (by omega), if_pos rfl]
  simp only [hS]
  exact if_pos hc
theorem act_nosend1 {P : Pr} {i : Int} (hc : ∀ T, P.f1 = some T → ¬ T.canSend (bytesN i)) : P.act 4 i = P := by
  unfold Pr.act Pr.sends
  rw [if_neg (by omega), if_neg (by omega), if_pos rfl]
  cases hT : P.f1 with
  | none => rfl
  | some T => exact if_neg (hc T hT)
theorem SentOf.made {col : Nat → Nat} {w0 w wm w' : World} {g : Nat} {P' : Pr} {A : Option Addr} {c : Nat} {xs : List Int} (h : SentOf col w0 g P' A c xs wm w') (f : Fine w wm) : SentOf col w0 g P' A c xs w w' := by
  obtain ⟨c1, j1, j2, j3, j4⟩ := h
  exact ⟨c1, j1, j2, (Kept.of_fine f).trans j3, fun b hb => (j4 b hb).imp id (fun e => Nat.le_trans f.size e)⟩
theorem act_close0 {P : Pr} {i : Int} : P.act 5 i = { P with f0 := P.f0.close P.tick } := by
  unfold Pr.act
  rw [if_neg (by omega), if_neg (by omega), if_neg (by omega), if_pos rfl]
theorem act_close1 {P : Pr} {i : Int} : P.act 6 i = { P with f1 := P.f1.map (fun S => S.close P.tick) } := by
  unfold Pr.act
  rw [if_neg (by omega), if_neg (by omega), if_neg (by omega), if_neg (by omega), if_pos rfl]
theorem act_tick7 {P : Pr} {i : Int} : P.act 7 i = { P with tick := P.tick + 1, f0 := P.f0.expire (P.tick + 1), f1 := P.f1.map (fun S => S.expire (P.tick + 1)) } := by
  unfold Pr.act
  rw [if_neg (by omega), if_neg (by omega), if_neg (by omega), if_neg (by omega), if_neg (by omega), if_pos rfl]
theorem act_none {P : Pr} {kind i : Int} (h : kind < 0 ∨ 7 < kind ∨ (kind ≤ 2 ∧ P.way = [])) : P.act kind i = P := by
  unfold Pr.act
  rw [if_neg (by rintro ⟨h1, h2, h3⟩; rcases h with h | h | h; omega; omega; exact h3 h.2), if_neg (by omega), if_neg (by omega), if_neg (by omega), if_neg (by omega), if_neg (by omega)]
end Go.Proofs.Ytjldgialhgfhmaa
namespace Go.Proofs.Ytjldgialhgfhmaa
set_option linter.unusedVariables false
set_option linter.unusedSimpArgs false
open Go.ChangeShapes Go.WideShapes Go.ChangeAt Go.RowKit Go.Maps
set_option linter.unusedVariables false
set_option linter.unusedSimpArgs false
set_option maxHeartbeats 2000000 in
set_option maxRecDepth 20000 in
theorem begins_any (A B : Option Addr) (c d : Nat) (xs ys : List Int) (w : World) (hx : RS LB w A c xs) (hy : RS LB w B d ys) :
    Calls Try.prog 44 #[.slice A xs.length c, .slice B ys.length d] w fun e w' => e = .returned (.bool (decide (ys.length ≤ xs.length ∧ xs.take ys.length = ys))) ∧ Fine w w' := by
  obtain ⟨n, hn⟩ : ∃ n, xs.length = n := ⟨_, rfl⟩
  obtain ⟨m, hm⟩ : ∃ m, ys.length = m := ⟨_, rfl⟩
  have hxc := hx.le
  have hyc := hy.le
  have hA : A = none → c = 0 := hx.2.2.1
  have HX := Lib.hid hx; have HY := Lib.hid hy
  rw [hn] at hxc ⊢
  rw [hm] at hyc ⊢
  by_cases h : m ≤ n
  · have hcut := fun w' => run_frontE sliceB A n c m h hxc hA w'
    have hl : (xs.take m).length = m := by rw [List.length_take, hn]; omega
    have HC : Hid (∀ w', Fine w w' → Calls Try.prog 48 #[.slice A m c, .slice B m d] w' fun e w'' => e = .returned (.bool (decide (xs.take m = ys))) ∧ Fine w' w'') := Lib.hid (fun w' f => by
      have := bytes_any A B c d (xs.take m) ys w' ((hx.fine f).front m (by omega)) (hy.fine f)
      rw [hl, hm] at this
      exact this)
    clear hx hy hl hn hm
    go_enter Try.func44, Try.ntmps44
    go_wp2_with fail
    refine (HC.out _ (by first | exact Fine.refl w | exact (Fine.refl w).drew)).mono ?_
    rintro e w1 ⟨rfl, f1⟩
    have F1 := Lib.hid f1
    clear f1
    go_wp2_with fail
    go_ret
    exact ⟨by simp [h], F1.out⟩
  · clear hx hy hn hm
    go_enter Try.func44, Try.ntmps44
    go_wp2_with fail
    go_ret
    exact ⟨by simp [h], Fine.refl w⟩
end Go.Proofs.Ytjldgialhgfhmaa
