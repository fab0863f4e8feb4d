/- The law FlowEnds: what stands before its walk. -/
import Derived.Test.YtjldgialhgfhmaaXFlow30
namespace Go.Proofs.Ytjldgialhgfhmaa
set_option linter.unusedVariables false
set_option linter.unusedSimpArgs false
open Go.ChangeShapes Go.WideShapes Go.ChangeAt Go.RowKit Go.Maps
set_option linter.unusedVariables false
set_option linter.unusedSimpArgs false
section
variable {F : Nat → Prop} {w w0 wx : World} {f g f0 : Nat} {S : Fl} {P : Pr} {col : Nat → Nat} {p1 : Option Nat} {wA : Option Addr} {wc : Nat} {ks : List Rk} {a0 a1 b0 b1 : SlV}
set_option maxHeartbeats 1000000 in
set_option maxRecDepth 20000 in
theorem left_none (h : FlS F w f S) (hp : S.ps = []) : Calls Try.prog 50 #[.pointer (some ⟨f, 0, none⟩)] w fun e w' => (∃ A c, e = .returned (.slice A 0 c)) ∧ Fine w w' := by
  obtain ⟨q, A, c, ros, Q, D, hX⟩ := h
  have c0 : w.cell? ⟨f, 0, none⟩ = some (.pointer (some ⟨q, 0, none⟩)) := hX.box.cell 0
  have hq := hX.que
  rw [hp] at hq
  have HA := Lib.hid (all_any q Q [] S.e w hq (by simp) (fun p hp => by cases hp))
  clear hX hq hp
  go_enter Try.func50, Try.ntmps50
  go_wp2_with fail
  refine HA.out.mono ?_
  rintro e w1 ⟨A1, c1, rs, rfl, h1, h2, h3, f1⟩
  have hl : rs.length = 0 := h3.1
  have F1 := Lib.hid f1
  rw [hl]
  clear h1 h2 h3 f1 hl HA
  go_wp2_with fail
  go_ret
  exact ⟨⟨_, _, rfl⟩, F1.out⟩
/-- What a flow that may be not there tells at the end. -/
structure EndV (v : Option Addr) (st : Int) (w : World) : Prop where
  at_ : ∃ a, ∀ w', Fine w w' → Calls Try.prog 49 #[.pointer v] w' fun e w'' => e = .returned (.tuple #[.int .i64 a, .bool false]) ∧ Fine w' w''
  st_ : ∀ w', Fine w w' → Calls Try.prog 47 #[.pointer v] w' fun e w'' => e = .returned (.int .i64 st) ∧ Fine w' w''
  left_ : st < 5 → ∀ w', Fine w w' → Calls Try.prog 50 #[.pointer v] w' fun e w'' => (∃ A c, e = .returned (.slice A 0 c)) ∧ Fine w' w''
theorem EndV.fine_ {v : Option Addr} {st : Int} {w2 : World} (h : EndV v st w) (fa : Fine w w2) : EndV v st w2 := by
  obtain ⟨a, ha⟩ := h.at_
  exact ⟨⟨a, fun w' f => ha w' (fa.trans f)⟩, fun w' f => h.st_ w' (fa.trans f), fun hs w' f => h.left_ hs w' (fa.trans f)⟩
theorem endv_flow (h : FlS F w f S) (h1 : S.has = false) (h2 : S.st ≤ 8 → S.ps = []) : EndV (some ⟨f, 0, none⟩) S.st w := by
  refine ⟨⟨S.at_, fun w' fa => ?_⟩, fun w' fa => state_any (h.fine fa), fun hs w' fa => left_none (h.fine fa) (h2 (by omega))⟩
  have := at_any (h.fine fa)
  rw [h1] at this
  exact this
theorem endv_nil (w : World) : EndV none 0 w := by
  refine ⟨⟨0, fun w' fa => at_nil w'⟩, fun w' fa => state_nil w', fun hs w' fa => (left_nil w').mono ?_⟩
  rintro e w'' ⟨rfl, f⟩
  exact ⟨⟨_, _, rfl⟩, f⟩
theorem PrX.end0 (h : PrX col w0 w g f0 p1 wA wc ks a0 a1 b0 b1 P) {lost : Bool} (he : EndsOk lost P) : EndV (some ⟨f0, 0, none⟩) P.f0.st w := endv_flow h.fl0 he.1.1 he.1.2
theorem PrX.end1 (h : PrX col w0 w g f0 p1 wA wc ks a0 a1 b0 b1 P) {lost : Bool} (he : EndsOk lost P) : ∃ st, EndV (p1.map fun f => ⟨f, 0, none⟩) st w ∧ ((P.f1 = none ∧ st = 0) ∨ ∃ T, P.f1 = some T ∧ st = T.st) := by
  cases hT : P.f1 with
  | none =>
    have e := h.no1 hT
    subst e
    exact ⟨0, endv_nil w, .inl ⟨rfl, rfl⟩⟩
  | some T =>
    obtain ⟨f1, e, hh⟩ := h.fl1 T hT
    subst e
    have h1 := he.2.1 T hT
    exact ⟨T.st, endv_flow hh h1.1 h1.2, .inr ⟨T, rfl, rfl⟩⟩
/-- What is on its way is lost. -/
theorem PrX.noway (h : PrX col w0 w g f0 p1 wA wc ks a0 a1 b0 b1 P) : At w0 g { P with way := [] } (w.setCell ⟨g, 2, none⟩ (.slice none 0 0)) := by
  have hs : IsG w (fun b => col b = 3) ⟨0, 0, 0, 0, 0, 0, false, false, false, false, 0, none, 0, 0, none, 0, 0, []⟩ := ⟨rfl, rfl, Nat.zero_le _, RS.nil_ _ _, fun b o e => (by cases e)⟩
  obtain ⟨c1, h1, _⟩ := h.cut (Fine.refl w) (ks' := []) (A3 := none) (n3 := 0) (c3 := 0) rfl (fun k hk => by cases hk) (Own.nil_ _ _ _ _) (fun b e => by cases e) hs
  exact ⟨c1, h1⟩
end
theorem endRun_succ (lost : Bool) (n : Nat) (P : Pr) : endRun lost (n + 1) P = endStep lost (endRun lost n P) := by
  rw [endRun_add]
  rfl
section
variable {P : Pr} {iss : Int} {K L : Nat}
theorem good_drain (hK : K ≤ 1000000) (hL : L ≤ 800) : ∀ (n : Nat) {P : Pr} {t : Int}, t + n ≤ 1099511626999 → Good P iss K L t → Good (drain n P) iss K L (t + n) := by
  intro n
  induction n with
  | zero => intro P t _ h; exact h.more (Nat.le_refl _) (Nat.le_refl _) (by omega)
  | succ n ih =>
    intro P t ht h
    unfold drain
    split
    · exact h.more (Nat.le_refl _) (Nat.le_refl _) (by omega)
    · have h1 := (h.quiet hK hL (by omega) 0 0 (.inl rfl)).2
      exact (ih (by omega) h1).more (Nat.le_refl _) (Nat.le_refl _) (by omega)
theorem good_end (hK : K ≤ 1000000) (hL : L ≤ 800) (lost : Bool) : ∀ (n : Nat) {t : Int}, t + 201 * n ≤ 1099511626999 → Good P iss K L t → Good (endRun lost n P) iss K L (t + 201 * n) := by
  intro n
  induction n with
  | zero => intro t _ h; exact h.more (Nat.le_refl _) (Nat.le_refl _) (by omega)
  | succ n ih =>
    intro t ht h
    have h1 := ih (t := t) (by omega) h
    have h2 := (h1.quiet hK hL (by omega) 7 0 (.inr rfl)).2
    rw [endRun_succ]
    unfold endStep
    split
    · exact h2.noway.more (Nat.le_refl _) (Nat.le_refl _) (by omega)
    · exact (good_drain hK hL 200 (by omega) h2).more (Nat.le_refl _) (Nat.le_refl _) (by omega)
theorem drain_stop {n : Nat} {P : Pr} (h : n = 0 ∨ P.way = []) : drain n P = P := by
  rcases h with rfl | h
  · rfl
  · cases n with
    | zero => rfl
    | succ n => unfold drain; rw [if_pos h]
theorem drain_go {n : Nat} {P : Pr} (h : P.way ≠ []) : drain (n + 1) P = drain n (P.step 0 0) := by
  show (if P.way = [] then P else drain n (P.step 0 0)) = _
  rw [if_neg h]
end
end Go.Proofs.Ytjldgialhgfhmaa
