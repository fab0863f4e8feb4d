/- A flow: Send, Close. A flow: what is acknowledged; the answer to a dial. -/
import Derived.Test.YtjldgialhgfhmaaXFlow15
namespace Go.Proofs.Ytjldgialhgfhmaa
set_option linter.unusedVariables false
set_option linter.unusedSimpArgs false
open Go.ChangeShapes Go.WideShapes Go.ChangeAt Go.RowKit Go.Maps
set_option linter.unusedVariables false
set_option linter.unusedSimpArgs false
section
variable {F : Nat → Prop} {w w' w0 : World} {f x : Nat} {S S' : Fl}
theorem FlS.cell5 (h : FlS F w f S) : w.cell? ⟨f, 5, none⟩ = some (.int .i64 S.st) ∧ w.frozen? ⟨f, 5, none⟩ = false := by
  obtain ⟨q, A, c, ros, Q, D, hX⟩ := h
  exact ⟨hX.box.cell 5, hX.box.frozen 5⟩
set_option maxHeartbeats 2000000 in
set_option maxRecDepth 20000 in
theorem sendD_no (tick : Int) (dsn : Int) (lst : Bool) (A : Option Addr) (n c : Nat) (hn : ¬ ((S.st = 3 ∨ S.st = 6) ∧ 0 < n ∧ n ≤ 8)) (h : FlS F w f S) :
    Calls Try.prog 57 #[.pointer (some ⟨f, 0, none⟩), .slice A n c, .int .i64 dsn, .bool lst, .int .i64 tick] w fun e w' => (∃ k : Int, k ≠ 0 ∧ e = .returned (.int .i64 k)) ∧ Fine w w' := by
  obtain ⟨st, hst⟩ : ∃ z, S.st = z := ⟨_, rfl⟩
  have c5 : w.cell? ⟨f, 5, none⟩ = some (.int .i64 st) := by rw [← hst]; exact h.cell5.1
  rw [hst] at hn
  clear h hst
  by_cases h3 : st = 3
  · subst h3
    by_cases h0 : n = 0
    · subst h0
      clear hn
      go_enter Try.func57, Try.ntmps57
      go_wp2_with fail
      go_ret
      exact ⟨⟨1, by omega, rfl⟩, Fine.refl w⟩
    · have g0 : ((n : Int) == 0) = false := by simp; omega
      have g8 : decide (8 < (n : Int)) = true := decide_eq_true (by omega)
      clear hn
      go_enter Try.func57, Try.ntmps57
      go_wp2_with fail
      go_ret
      exact ⟨⟨1, by omega, rfl⟩, Fine.refl w⟩
  · have g3 : (st == 3) = false := by simpa using h3
    have g3' : (st != 3) = true := by simpa using h3
    by_cases h6 : st = 6
    · subst h6
      by_cases h0 : n = 0
      · subst h0
        clear hn
        go_enter Try.func57, Try.ntmps57
        go_wp2_with fail
        go_ret
        exact ⟨⟨1, by omega, rfl⟩, Fine.refl w⟩
      · have g0 : ((n : Int) == 0) = false := by simp; omega
        have g8 : decide (8 < (n : Int)) = true := decide_eq_true (by omega)
        clear hn
        go_enter Try.func57, Try.ntmps57
        go_wp2_with fail
        go_ret
        exact ⟨⟨1, by omega, rfl⟩, Fine.refl w⟩
    · have g6' : (st != 6) = true := by simpa using h6
      clear hn
      go_enter Try.func57, Try.ntmps57
      go_wp2_with fail
      go_ret
      exact ⟨⟨9, by omega, rfl⟩, Fine.refl w⟩
set_option maxHeartbeats 2000000 in
set_option maxRecDepth 20000 in
theorem sendD_yes (tick : Int) (ht : 0 ≤ tick ∧ tick ≤ 1099511627776) (hok : S.Ok) (dsn : Int) (lst : Bool) (A : Option Addr) (n c : Nat) (xs : List Int) (hx : xs.length = n) (hr : RS LB w A c xs) (hA : ∀ b o, A = some ⟨b, o, none⟩ → ¬ F b) (hs : S.st = 3 ∨ S.st = 6) (hn : 0 < n ∧ n ≤ 8) (h : FlS F w f S) :
    Calls Try.prog 57 #[.pointer (some ⟨f, 0, none⟩), .slice A n c, .int .i64 dsn, .bool lst, .int .i64 tick] w fun e w' => e = .returned (.int .i64 0) ∧ FlOf F f (S.send ⟨0, false, false, xs, dsn, lst⟩ tick) w w' := by
  obtain ⟨st, hst⟩ : ∃ z, S.st = z := ⟨_, rfl⟩
  have c5 : w.cell? ⟨f, 5, none⟩ = some (.int .i64 st) := by rw [← hst]; exact h.cell5.1
  rw [hst] at hs
  have HS := Lib.hid (fsend_any (v := fun b => ∃ o, A = some ⟨b, o, none⟩) (r := ⟨0, false, false, A, n, c, dsn, lst⟩) (p := ⟨0, false, false, xs, dsn, lst⟩) tick ht hok (by show xs.length ≤ 1000; omega) ⟨rfl, rfl, rfl, rfl, rfl, hx.symm, hr, fun b o e _ => ⟨o, e⟩⟩ (fun b hb => by obtain ⟨o, e⟩ := hb; exact hA b o e) h)
  have g0 : ((n : Int) == 0) = false := by simp; omega
  have g8 : decide (8 < (n : Int)) = false := decide_eq_false (by omega)
  have HS : Hid (Calls Try.prog 69 #[.pointer (some ⟨f, 0, none⟩), .agg #[.int .u32 0, .bool false, .bool false, .slice A n c, .int .i64 dsn, .bool lst], .int .i64 tick] w fun e w' => e = .returned (.tuple #[]) ∧ FlOf F f (S.send ⟨0, false, false, xs, dsn, lst⟩ tick) w w') := HS
  clear h hst hx hr hA
  rcases hs with rfl | rfl
  all_goals
    go_enter Try.func57, Try.ntmps57
    go_wp2_with fail
    refine HS.out.mono ?_
    rintro e w1 ⟨rfl, h1⟩
    have H1 := Lib.hid h1
    clear h1 HS
    go_wp2_with fail
    go_ret
    exact ⟨rfl, H1.out⟩
set_option maxHeartbeats 2000000 in
set_option maxRecDepth 20000 in
theorem close_any (tick : Int) (ht : 0 ≤ tick ∧ tick ≤ 1099511627776) (hok : S.Ok) (h : FlS F w f S) :
    Calls Try.prog 58 #[.pointer (some ⟨f, 0, none⟩), .int .i64 tick] w fun e w' => (∃ k : Int, e = .returned (.int .i64 k)) ∧ FlOf F f (S.close tick) w w' := by
  obtain ⟨st, hst⟩ : ∃ z, S.st = z := ⟨_, rfl⟩
  have c5 : w.cell? ⟨f, 5, none⟩ = some (.int .i64 st) := by rw [← hst]; exact h.cell5.1
  have z5 := h.cell5.2
  have HST := Lib.hid hst
  have HH := Lib.hid h
  have finIs : ∀ w', Is w' (fun _ => False) ⟨0, false, true, none, 0, 0, 0, false⟩ finP := fun w' => ⟨rfl, rfl, rfl, rfl, rfl, rfl, RS.nil_ _ _, fun b off e => by cases e⟩
  have key : ∀ st', Hid (FlOf F f ({ S with st := st' } : Fl) w (w.setCell ⟨f, 5, none⟩ (.int .i64 st')) ∧ Calls Try.prog 69 #[.pointer (some ⟨f, 0, none⟩), .agg #[.int .u32 0, .bool false, .bool true, .slice none 0 0, .int .i64 0, .bool false], .int .i64 tick] (w.setCell ⟨f, 5, none⟩ (.int .i64 st')) fun e w' => e = .returned (.tuple #[]) ∧ FlOf F f (({ S with st := st' } : Fl).send finP tick) w w') := fun st' => Lib.hid (by
    have h1 : FlOf F f ({ S with st := st' } : Fl) w (w.setCell ⟨f, 5, none⟩ (.int .i64 st')) := HH.out.turn (S' := { S with st := st' }) (fun q A c ros b => b.set_ 5 (.int .i64 st')) ((Kept.refl (· = f) w).setIn (p := ⟨f, 5, none⟩) rfl _) rfl rfl rfl
    refine ⟨h1, ?_⟩
    obtain ⟨F1, j1, j2, j3⟩ := h1
    refine (fsend_any (S := ({ S with st := st' } : Fl)) (p := finP) tick ht ⟨hok.r, hok.k, hok.n, hok.x, hok.e, hok.o⟩ (by simp [finP]) (finIs _) (fun b hb => hb.elim) j1).mono ?_
    rintro e w2 ⟨rfl, h2⟩
    exact ⟨rfl, FlOf.then_ j2 j3 h2⟩)
  have K4 := key 4
  have K8 := key 8
  clear key finIs h hst
  by_cases h3 : st = 3
  · subst h3
    have HC : Hid (S.close tick = ({ S with st := 4 } : Fl).send finP tick) := Lib.hid (by unfold Fl.close; rw [if_pos HST.out])
    have KC := Lib.hid K4.out.2
    clear K4 K8
    go_enter Try.func58, Try.ntmps58
    go_wp2_with fail
    refine KC.out.mono ?_
    rintro e w1 ⟨rfl, h1⟩
    have H1 := Lib.hid h1
    clear h1 KC
    go_wp2_with fail
    go_ret
    exact ⟨⟨0, rfl⟩, by rw [HC.out]; exact H1.out⟩
  · have g3 : (st == 3) = false := by simpa using h3
    by_cases h6 : st = 6
    · subst h6
      have HC : Hid (S.close tick = ({ S with st := 8 } : Fl).send finP tick) := Lib.hid (by unfold Fl.close; rw [if_neg (by rw [HST.out]; omega), if_pos HST.out])
      have KC := Lib.hid K8.out.2
      clear K4 K8
      go_enter Try.func58, Try.ntmps58
      go_wp2_with fail
      refine KC.out.mono ?_
      rintro e w1 ⟨rfl, h1⟩
      have H1 := Lib.hid h1
      clear h1 KC
      go_wp2_with fail
      go_ret
      exact ⟨⟨0, rfl⟩, by rw [HC.out]; exact H1.out⟩
    · have g6 : (st == 6) = false := by simpa using h6
      have HC : Hid (S.close tick = S) := Lib.hid (by unfold Fl.close; rw [if_neg (by rw [HST.out]; exact h3), if_neg (by rw [HST.out]; exact h6)])
      clear K4 K8
      go_enter Try.func58, Try.ntmps58
      go_wp2_with fail
      go_ret
      exact ⟨⟨9, rfl⟩, by rw [HC.out]; exact FlOf.self HH.out (Fine.refl w)⟩
end
end Go.Proofs.Ytjldgialhgfhmaa
namespace Go.Proofs.Ytjldgialhgfhmaa
set_option linter.unusedVariables false
set_option linter.unusedSimpArgs false
open Go.ChangeShapes Go.WideShapes Go.ChangeAt Go.RowKit Go.Maps
set_option linter.unusedVariables false
set_option linter.unusedSimpArgs false
section
variable {F : Nat → Prop} {w w' w0 : World} {f x : Nat} {S S' : Fl} {fr : Bool}
/-- Its queue has turned alone. -/
theorem FlX.queue {w' : World} {q : Nat} {A : Option Addr} {c : Nat} {ros : List Ro} {Q D Q' : Nat → Prop} {ps' : List Pc} {e' : Int} (h : FlX F w f q A c ros Q D S) (hq : QB w' Q' q ps' e') (k : Kept Q w w') (hQ : ∀ b, Q' b → Q b ∨ w.heap.size ≤ b) : FlX (fun b => F b ∨ Q' b) w' f q A c ros Q' D ({ S with ps := ps', e := e' } : Fl) := by
  obtain ⟨_, _, _, _, _, _, _, _, q6⟩ := hq
  have hq : QB w' Q' q ps' e' := ⟨_, _, _, by assumption, by assumption, by assumption, by assumption, by assumption, q6⟩
  refine ⟨h.box.kept k (fun hb => (h.nq f hb).1 rfl), hq, h.row.kept k (fun b hb hQ => (h.nq b hQ).2.1 hb), h.outs.kept k (fun b hb hQ => (h.nq b hQ).2.2 hb), .inl h.ff, fun b hb => .inr hb, fun b hb => .inl (h.fr b hb), fun b hb => .inl (h.fd b hb), fun b hb => ?_, h.nr, h.nd, fun b hb => ?_⟩
  · rcases hQ b hb with h1 | h1
    · exact h.nq b h1
    · refine ⟨fun e => by have := h.lt f h.ff; omega, fun e => ?_, fun hd => ?_⟩
      · have := h.lt b (h.fr b e); omega
      · have := h.lt b (h.fd b hd); omega
  · rcases hb with hb | hb
    · exact Nat.lt_of_lt_of_le (h.lt b hb) k.size
    · exact q6 b hb
/-- What acknowledges: the queue's pieces, and what they lead to. -/
theorem ackgo (tick : Int) (ht : 0 ≤ tick ∧ tick ≤ 1099511627776) (hok : S.Ok) (hs : -1099511627776 ≤ S.since ∧ S.since ≤ 1099511627776) (a : Int) (hx : ¬ F x) (hxl : x < w.heap.size) {w1 : World} (h : HeardOf F f x S fr w w1) :
    ∃ q, w1.cell? ⟨f, 0, none⟩ = some (.pointer (some ⟨q, 0, none⟩)) ∧ ∀ w2, Fine w1 w2 →
      (S.ackable a → Calls Try.prog 30 #[.pointer (some ⟨q, 0, none⟩), .int .u32 a] w2 fun e w3 => ∃ lA lc n, e = .returned (.tuple #[.slice lA n lc, .bool true]) ∧ ∀ w4, Fine w3 w4 → Calls Try.prog 79 #[.pointer (some ⟨f, 0, none⟩), .slice lA n lc, .int .i64 tick, .pointer (some ⟨x, 0, none⟩)] w4 fun e w' => e = .returned (.tuple #[]) ∧ HeardOf F f x (S.acks a tick) fr w w') ∧
      (¬ S.ackable a → Calls Try.prog 30 #[.pointer (some ⟨q, 0, none⟩), .int .u32 a] w2 fun e w3 => e = .returned (.tuple #[.slice none 0 0, .bool false]) ∧ HeardOf F f x S fr w w3) ∧
      Calls Try.prog 33 #[.pointer (some ⟨q, 0, none⟩)] w2 fun e w3 => e = .returned (.int .u32 S.e) ∧ w2 = w3 := by
  obtain ⟨F1, o, fi, re, de, v, ⟨q, A, c, ros, Q, D, hX⟩, j2, j3, j4⟩ := h
  refine ⟨q, hX.box.cell 0, fun w2 f2 => ⟨fun ha => ?_, fun ha => ?_, ?_⟩⟩
  · have hX2 := hX.fine f2
    refine (ack_any q Q S.ps S.e a w2 hX2.que ha (by have := hok.n; omega) hok.x).mono ?_
    rintro e w3 ⟨lA, lc, rs, Q', rfl, hrs, his, hlA, hq, hk, hQ⟩
    refine ⟨lA, lc, rs.length, rfl, fun w4 f4 => ?_⟩
    have hX3 := (hX2.queue hq hk hQ).fine f4
    have hx1 : ¬ F1 x := fun h => (j4 x h).elim hx (fun h => by omega)
    have hxs : x < w1.heap.size := Nat.lt_of_lt_of_le hxl j3.size
    have hxQ : ¬ Q x := fun h => hx1 (hX.fq x h)
    have hxQ' : ¬ Q' x := fun h => (hQ x h).elim hxQ (fun h => by have := f2.size; omega)
    have hx3 : ¬ (F1 x ∨ Q' x) := fun h => h.elim hx1 hxQ'
    have hb3 : Blk w4 x 97 (hv o fi re de fr v.val) := (((j2.fine f2).kept hk hxQ).fine f4)
    have hlF : ∀ b o, lA = some ⟨b, o, none⟩ → ¬ (F1 b ∨ Q' b) ∧ b ≠ x := fun b o e => by
      have h1 := hlA b o e
      refine ⟨fun h => h.elim (fun h => by have := hX.lt b h; have := f2.size; omega) h1.2.2, fun e => by have := f2.size; omega⟩
    have kk : Kept (fun b => F b ∨ b = x) w w4 := ((j3.trans (Kept.of_fine f2)).transG hk (fun _ _ h => h) (fun y hy h => (j4 y (hX.fq y h)).elim .inl (fun h => by omega))).trans (Kept.of_fine f4)
    have hsz : w.heap.size ≤ w2.heap.size := Nat.le_trans j3.size f2.size
    have hF3 : ∀ b, (F1 b ∨ Q' b) → F b ∨ w.heap.size ≤ b := fun b hb => by
      rcases hb with hb | hb
      · exact j4 b hb
      · rcases hQ b hb with h | h
        · exact j4 b (hX.fq b h)
        · exact .inr (Nat.le_trans hsz h)
    have hkd : ackK S.ps (dist (beginQ S.ps S.e) a) = S.ackd a := rfl
    rw [hkd] at his hX3
    have hle : S.ackd a ≤ S.ps.length := ackK_le _ _
    have hlen : rs.length = S.ackd a := by rw [his.1, List.length_take]; omega
    rcases Nat.eq_zero_or_pos rs.length with h0 | h0
    · rw [h0]
      refine (went_nil (F := fun b => F1 b ∨ Q' b) (x := x) tick lA lc ⟨q, A, c, ros, Q', D, hX3⟩).mono ?_
      rintro e w5 ⟨h1, h2⟩
      refine ⟨h1, (fun b => F1 b ∨ Q' b), o, fi, re, de, v, ?_, hb3.fine h2, kk.trans (Kept.of_fine h2), hF3⟩
      have e : S.acks a tick = ({ S with ps := S.ps.drop (S.ackd a) } : Fl) := by unfold Fl.acks Fl.went; rw [← hlen, h0, List.take_zero, if_pos rfl]
      rw [e]
      exact ⟨q, A, c, ros, Q', D, hX3.fine h2⟩
    · refine (went_any (S := ({ S with ps := S.ps.drop (S.ackd a), e := S.e } : Fl)) tick ht ⟨hok.r, hok.k, by show (S.ps.drop _).length ≤ 800; have := hok.n; simp; omega, fun p hp => hok.x p (List.mem_of_mem_drop hp), hok.e, hok.o⟩ hs lA lc rs.length rs (S.ps.take (S.ackd a)) (hrs.fine f4) (his.fine f4) rfl h0 (by have := hok.n; omega) hlF hx3 hb3 ⟨q, A, c, ros, Q', D, hX3⟩).mono ?_
      rintro e w5 ⟨h1, q2, A2, c2, ros2, Q2, D2, o2, g1, g2, g3⟩
      exact ⟨h1, (fun b => F1 b ∨ Q' b), o2, fi, re, de, ⟨lA, rs.length, lc⟩, ⟨q2, A2, c2, ros2, Q2, D2, g1⟩, g2, kk.transG g3 (fun _ _ h => h) (fun y hy h => by
        rcases h with h | h
        · exact (hF3 y h).elim .inl (fun h => by omega)
        · exact .inr h), hF3⟩
  · refine (ack_over q Q S.ps S.e a w2 (hX.fine f2).que (Int.not_le.1 ha)).mono ?_
    rintro e w3 ⟨h1, h2⟩
    exact ⟨h1, HeardOf.fine (w1 := w1) ⟨F1, o, fi, re, de, v, ⟨q, A, c, ros, Q, D, hX⟩, j2, j3, j4⟩ (f2.trans h2)⟩
  · exact end_same q Q S.ps S.e w2 (hX.fine f2).que
theorem HeardOf.done {w3 wz wf : World} {x6 : Nat} (hF : ∀ b, F b → b < w.heap.size) (f3 : Fine w w3) (hx : w.heap.size ≤ x) (hx6 : w.heap.size ≤ x6) (hx6l : x6 < w3.heap.size) (h : HeardOf F f x S' fr w3 wz) (k : Kept (· = x6) wz wf) : FlOf F f S' w wf := by
  obtain ⟨F1, o, fi, re, de, v, j1, j2, j3, j4⟩ := h
  have hx1 : ¬ F1 x6 := fun h => (j4 x6 h).elim (fun h => by have := hF x6 h; omega) (fun h => by omega)
  refine ⟨F1, j1.kept k (fun b hb e => hx1 (by have e : b = x6 := e; rw [← e]; exact hb)), ?_, fun b hb => (j4 b hb).imp id (fun h => Nat.le_trans f3.size h)⟩
  refine (((Kept.of_fine f3).transG j3 (fun _ _ h => h) (fun y hy h => ?_)).transG k (fun _ _ h => h) (fun y hy e => by have e : y = x6 := e; omega))
  rcases h with h | h
  · exact h
  · omega
end
end Go.Proofs.Ytjldgialhgfhmaa
