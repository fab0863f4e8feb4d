/- A sender: Write; last, data, Take where nothing is lost. -/
import Derived.Test.YtnigfdldfmiaiaaSnd1
namespace Go.Proofs.Ytnigfdldfmiaiaa
open Go.ChangeShapes Go.WideShapes Go.ChangeAt Go.RowKit Go.Maps
set_option linter.unusedVariables false
set_option linter.unusedSimpArgs false
section
variable {F : Nat → Prop} {s : Nat} {A : Option Addr} {c gs : Nat} {v : Value} {l : List Rn} {una nx ed : Int} {buf : List Int} {told done : Bool}
/-- What Write answers where there is room, and the end wasn't told. -/
def WriteOf (F : Nat → Prop) (s gs : Nat) (v : Value) (l : List Rn) (una nx ed : Int) (buf : List Int) (done : Bool) (bs : List Int) (w : World) (r : Ending) (w' : World) : Prop :=
  ∃ F' A' c', r = .returned (.tuple #[.int .i64 ((min bs.length (64 - buf.length) : Nat) : Int), .int .i64 0]) ∧ SnX F' w' s A' c' gs v l una nx ed (buf ++ bs.take (64 - buf.length)) false done ∧ Kept F w w' ∧ ∀ y, F' y → F y ∨ w.heap.size ≤ y
set_option maxHeartbeats 2000000 in
set_option maxRecDepth 20000 in
theorem swrite_any (n cb : Nat) (Ab : Option Addr) (bs : List Int) (hn : bs.length = n) (hnb : n ≤ 100000) (hb64 : buf.length < 64) (w : World) (hrs : RS layB w Ab cb bs) (h : SnX F w s A c gs v l una nx ed buf false done) :
    Calls Try.prog 51 #[.pointer (some ⟨s, 0, none⟩), .slice Ab n cb] w (WriteOf F s gs v l una nx ed buf done bs w) := by
  obtain ⟨nb, hnbf⟩ : ∃ z, buf.length = z := ⟨_, rfl⟩
  obtain ⟨rm, hrm⟩ : ∃ z, 64 - nb = z := ⟨_, rfl⟩
  obtain ⟨k, hk⟩ : ∃ k : Nat, (if rm < n then (rm : Int) else (n : Int)) = (k : Int) := ⟨if rm < n then rm else n, by split <;> rfl⟩
  have hk2 : k = min n rm := by split at hk <;> omega
  have hkn : k ≤ n := by omega
  have c4 : w.cell? ⟨s, 4, none⟩ = some (.slice A nb c) := by have := h.box.cell 4; rw [hnbf] at this; exact this
  have c5 : w.cell? ⟨s, 5, none⟩ = some (.bool false) := h.box.cell 5
  have e1 : IntKind.i64.wrap (64 - (nb : Int)) = (rm : Int) := by rw [show (64 : Int) - (nb : Int) = (rm : Int) by omega]; exact IntWalk.i64_in _ (by omega)
  have g1 : ¬ (nb : Int) ≥ 64 := by omega
  have g2 : decide (64 ≤ (nb : Int)) = false := decide_eq_false g1
  have q1 := hrs.run_front sliceB k (by rw [hn]; exact hkn)
  rw [hn] at q1
  have htk : (bs.take k).length = k := by rw [List.length_take, hn]; omega
  have HRF : Hid (RS layB w.drew Ab cb (bs.take k)) := Lib.hid ((hrs.front k (by rw [hn]; exact hkn)).fine (Fine.refl w).drew)
  have HO : Hid (Own layB 5 w.drew 0 (.slice A nb c) buf) := Lib.hid (by have := h.own.fine (Fine.refl w).drew; rw [hnbf] at this; exact this)
  have HTK := Lib.hid htk
  have H := Lib.hid h; have HNB := Lib.hid hnbf; have HN := Lib.hid hn; have HK2 := Lib.hid hk2; have HRM := Lib.hid hrm
  have hnb64 : nb < 64 := by omega
  have HEL : Hid ((buf ++ bs.take k).length = nb + k) := Lib.hid (by rw [List.length_append, hnbf, htk])
  clear hrs h hnbf hn hk2 hrm htk hb64
  go_enter Try.func51, Try.ntmps51
  go_upto_region 8 with fail
  go_region_law (first | (refine step_appE rfl sliceB (.tmp 40) (.tmp 43) rfl 0 (.slice A nb c) buf rfl HO.out Ab k cb (bs.take k) rfl HTK.out.symm HRF.out (by rw [HTK.out, HNB.out]; omega) (by rw [HTK.out, HNB.out]; unfold maxLen; omega) (Nat.zero_le _) ?_; intro x2 wB oB kB0 gB0 bB; obtain ⟨A3, c3, hx2, _, _⟩ := oB.form; rw [HEL.out] at hx2; subst hx2; have KB : Kept (fun q => (Value.slice A nb c).ownBlock = some q) w.drew wB := Kept.grown (Kept.refl _ _) gB0 (fun k hk _ => hk); have BA := H.out.box.fine (Fine.refl w).drew; have BB := BA.kept KB (fun e => HO.out.ne_blk e BA (by decide) rfl); have yB0 := BB.cell 4; have yB1 := BB.frozen 4))
  all_goals
    have XD := H.out.fine (Fine.refl w).drew
    have KB' : Kept (fun q => (Value.slice A buf.length c).ownBlock = some q) w.drew wB := by rw [HNB.out]; exact KB
    have J9 := Lib.hid (XD.wrote (n2 := nb + k) KB' HEL.out.symm oB (by
      rw [HNB.out]
      exact bB.imp id (fun h y hy => by have h2 := h.symm.trans hy; injection h2 with h2; omega)))
    have K9 : Hid (Kept F w (wB.setCell ⟨s, 4, none⟩ (.slice A3 (nb + k) c3))) := Lib.hid ((((Kept.refl F w).drew).trans (KB'.mono (fun y _ e => H.out.fa y e))).setIn (p := ⟨s, 4, none⟩) H.out.fg _)
    have E9 : Hid (bs.take (64 - buf.length) = bs.take k) := Lib.hid (by
      rw [HNB.out, HRM.out, HK2.out, ← HN.out, List.take_eq_take_iff]
      omega)
    have E8 : Hid (((min bs.length (64 - buf.length) : Nat) : Int) = (k : Int)) := Lib.hid (by rw [HNB.out, HN.out, HRM.out, HK2.out])
    clear XD KB' oB bB gB0 kB0 KB BA BB yB0 yB1
    go_wp2_with fail
    refine bodyPost_ret (v := .tuple #[.int .i64 (k : Int), .int .i64 0]) (by simp [results, Try.results51, go_sem]) rfl ⟨_, A3, c3, by rw [E8.out], by rw [E9.out]; exact J9.out, K9.out, fun y hy => ?_⟩
    rcases hy with h | h
    · exact .inl h
    · exact .inr h.1
set_option maxHeartbeats 1000000 in
set_option maxRecDepth 20000 in
theorem slast_any (w : World) (hb : 0 ≤ una ∧ una ≤ 1099511627776 ∧ buf.length ≤ 64) (h : SnX F w s A c gs v l una nx ed buf told done) : Calls Try.prog 84 #[.pointer (some ⟨s, 0, none⟩)] w fun r w' => r = .returned (.int .i64 (una + buf.length)) ∧ Fine w w' := by
  have c1 : w.cell? ⟨s, 1, none⟩ = some (.int .i64 una) := h.box.cell 1
  have c4 : w.cell? ⟨s, 4, none⟩ = some (.slice A buf.length c) := h.box.cell 4
  obtain ⟨nb, hnb⟩ : ∃ z, buf.length = z := ⟨_, rfl⟩
  rw [hnb] at c4 hb ⊢
  have e1 : IntKind.i64.wrap (una + (nb : Int)) = una + (nb : Int) := IntWalk.i64_in _ (by omega)
  clear h hnb hb
  go_enter Try.func84, Try.ntmps84
  go_upto_region 1 with fail
  go_quiet (fail)
  go_wp2_with fail
  go_ret
  exact ⟨rfl, (Fine.refl w).drewN _⟩
end
end Go.Proofs.Ytnigfdldfmiaiaa
