/- A flow: data are heard. -/
import Derived.Test.YtjldgialhgfhmaaXFlow14
namespace Go.Proofs.Ytjldgialhgfhmaa
set_option linter.unusedVariables false
set_option linter.unusedSimpArgs false
open Go.ChangeShapes Go.WideShapes Go.ChangeAt Go.RowKit Go.Maps
set_option linter.unusedVariables false
set_option linter.unusedSimpArgs false
theorem before_any (a b : Int) (w : World) : Calls Try.prog 86 #[.int .u32 a, .int .u32 b] w fun e w' => e = .returned (.bool (decide (isBefore a b))) ∧ Fine w w' := by
  have hd := dist_bd a b
  obtain ⟨d, hdd⟩ : ∃ z, dist a b = z := ⟨_, rfl⟩
  have HS := Lib.hid (fun w' => by have := slong_any a b w'; rw [hdd] at this; exact this : ∀ w', Calls Try.prog 82 #[.agg #[.int .u32 a, .int .u32 b]] w' fun e w'' => e = .returned (.int .u32 d) ∧ Fine w' w'')
  have HD := Lib.hid (show decide (isBefore a b) = (decide (0 < d) && decide (d < 2147483648)) by
    have h : isBefore a b ↔ (0 < d ∧ d < 2147483648) := by unfold isBefore; rw [hdd]
    have h' : decide (isBefore a b) = decide (0 < d ∧ d < 2147483648) := decide_eq_decide.2 h
    rw [h']
    by_cases h1 : 0 < d <;> by_cases h2 : d < 2147483648 <;> simp [h1, h2])
  rw [HD.out]
  clear hdd hd
  by_cases h1 : 0 < d
  · have g1 : decide (0 < d) = true := decide_eq_true h1
    rw [g1]
    go_enter Try.func86, Try.ntmps86
    go_wp2_with fail
    refine (HS.out _).mono ?_
    rintro e w1 ⟨rfl, f1⟩
    have F1 := Lib.hid f1
    clear f1
    go_wp2_with fail
    go_ret
    exact ⟨by simp, F1.out⟩
  · have g1 : decide (0 < d) = false := decide_eq_false h1
    rw [g1]
    go_enter Try.func86, Try.ntmps86
    go_wp2_with fail
    refine (HS.out _).mono ?_
    rintro e w1 ⟨rfl, f1⟩
    have F1 := Lib.hid f1
    clear f1
    go_wp2_with fail
    go_ret
    exact ⟨by simp, F1.out⟩
theorem Blk.ne_type {w : World} {a b : Nat} {t t' : TypeId} {cs cs' : Array Value} (h : Blk w a t cs) (h' : Blk w b t' cs') (ht : t ≠ t') : a ≠ b := by
  rintro rfl
  have e := h.symm.trans h'
  injection e with e
  injection e with _ h2
  exact ht h2
theorem on_same (a n : Int) (w : World) : Calls Try.prog 66 #[.int .u32 a, .int .i64 n] w fun e w' => e = .returned (.int .u32 (onN a n)) ∧ w = w' := by
  go_enter Try.func66, Try.ntmps66
  go_wp2
  go_ret
  refine ⟨?_, rfl⟩
  simp [onN]
theorem ended_same (st : Int) (w : World) : Calls Try.prog 87 #[.int .i64 st] w fun e w' => e = .returned (.int .i64 (endedS st)) ∧ Fine w w' := ended_any st w
/-- A slice. -/
structure SlV where
  A : Option Addr
  n : Nat
  c : Nat
abbrev SlV.val (s : SlV) : Value := .slice s.A s.n s.c
/-- What is left of a flow, and of what was heard. -/
def HeardOf (F : Nat → Prop) (f x : Nat) (S' : Fl) (fr : Bool) (w w' : World) : Prop :=
  ∃ F' o fi re de, ∃ v : SlV, FlS F' w' f S' ∧ Blk w' x 97 (hv o fi re de fr v.val) ∧ Kept (fun b => F b ∨ b = x) w w' ∧ ∀ b, F' b → F b ∨ w.heap.size ≤ b
section
variable {F : Nat → Prop} {w w' w0 : World} {f x : Nat} {S S' : Fl} {fr : Bool}
/-- The flow alone goes on. -/
theorem HeardOf.flow {w1 w2 : World} (hx : ¬ F x) (hxl : x < w.heap.size) (h : HeardOf F f x S fr w w1) (k : ∀ F1, FlS F1 w1 f S → FlOf F1 f S' w1 w2) : HeardOf F f x S' fr w w2 := by
  obtain ⟨F1, o, fi, re, de, v, j1, j2, j3, j4⟩ := h
  obtain ⟨F2, k1, k2, k3⟩ := k F1 j1
  have hx1 : ¬ F1 x := fun h => (j4 x h).elim hx (fun h => by omega)
  refine ⟨F2, o, fi, re, de, v, k1, j2.kept k2 hx1, j3.transG k2 (fun _ _ h => h) (fun y hy h => (j4 y h).elim .inl (fun h => by omega)), fun b hb => ?_⟩
  rcases k3 b hb with h | h
  · exact j4 b h
  · exact .inr (Nat.le_trans j3.size h)
theorem HeardOf.fine {w1 w2 : World} (h : HeardOf F f x S fr w w1) (k : Fine w1 w2) : HeardOf F f x S fr w w2 := by
  obtain ⟨F1, o, fi, re, de, v, j1, j2, j3, j4⟩ := h
  exact ⟨F1, o, fi, re, de, v, j1.fine k, j2.fine k, j3.trans (Kept.of_fine k), j4⟩
theorem tell_flow {w1 : World} (hn : S.out.length ≤ 100000) (hx : ¬ F x) (hxl : x < w.heap.size) (h : HeardOf F f x S fr w w1) : Calls Try.prog 78 #[.pointer (some ⟨f, 0, none⟩)] w1 fun e w' => e = .returned (.tuple #[]) ∧ HeardOf F f x S.tell fr w w' := by
  obtain ⟨F1, o, fi, re, de, v, j1, j2, j3, j4⟩ := h
  refine (ftell_any hn j1).mono ?_
  rintro e w2 ⟨h1, F2, k1, k2, k3⟩
  refine ⟨h1, F2, o, fi, re, de, v, k1, j2.kept k2 (fun h => (j4 x h).elim hx (fun h => by omega)), j3.transG k2 (fun _ _ h => h) (fun y hy h => (j4 y h).elim .inl (fun h => by omega)), fun b hb => ?_⟩
  rcases k3 b hb with h | h
  · exact j4 b h
  · exact .inr (Nat.le_trans j3.size h)
/-- A number of the flow's block, and of the box. -/
theorem HeardOf.set {w1 : World} (hx : ¬ F x) (hxl : x < w.heap.size) (h : HeardOf F f x S fr w w1) {w2 : World} (hw : ∀ q A c (ros : List Ro), Blk w1 f 111 (fc q S.r.has S.r.s S.r.v S.k S.st S.rcv S.tries S.at_ S.has S.since S.tw (.slice A ros.length c)) → Blk w2 f 111 (fc q S'.r.has S'.r.s S'.r.v S'.k S'.st S'.rcv S'.tries S'.at_ S'.has S'.since S'.tw (.slice A ros.length c))) (k : Kept (· = f) w1 w2) (e1 : S'.ps = S.ps) (e2 : S'.e = S.e) (e3 : S'.out = S.out) : HeardOf F f x S' fr w w2 :=
  h.flow hx hxl (fun F1 h1 => h1.turn hw k e1 e2 e3)
theorem HeardOf.st {w1 : World} (st' : Int) (hx : ¬ F x) (hxl : x < w.heap.size) (h : HeardOf F f x S fr w w1) : HeardOf F f x ({ S with st := st' } : Fl) fr w (w1.setCell ⟨f, 5, none⟩ (.int .i64 st')) :=
  h.set (S' := { S with st := st' }) hx hxl (fun q A c ros b => b.set_ 5 (.int .i64 st')) ((Kept.refl (· = f) w1).setIn (p := ⟨f, 5, none⟩) rfl _) rfl rfl rfl
theorem HeardOf.rcv {w1 : World} (r' : Int) (hx : ¬ F x) (hxl : x < w.heap.size) (h : HeardOf F f x S fr w w1) : HeardOf F f x ({ S with rcv := r' } : Fl) fr w (w1.setCell ⟨f, 6, none⟩ (.int .u32 r')) :=
  h.set (S' := { S with rcv := r' }) hx hxl (fun q A c ros b => b.set_ 6 (.int .u32 r')) ((Kept.refl (· = f) w1).setIn (p := ⟨f, 6, none⟩) rfl _) rfl rfl rfl
theorem HeardOf.frsh {w1 : World} (hx : ¬ F x) (hxl : x < w.heap.size) (h : HeardOf F f x S fr w w1) : HeardOf F f x S true w (w1.setCell ⟨x, 4, none⟩ (.bool true)) := by
  obtain ⟨F1, o, fi, re, de, v, j1, j2, j3, j4⟩ := h
  have k : Kept (· = x) w1 (w1.setCell ⟨x, 4, none⟩ (.bool true)) := (Kept.refl (· = x) w1).setIn (p := ⟨x, 4, none⟩) rfl _
  have hx1 : ¬ F1 x := fun h => (j4 x h).elim hx (fun h => by omega)
  exact ⟨F1, o, fi, re, de, v, j1.kept k (fun b hb e => hx1 (by have e : b = x := e; rw [← e]; exact hb)), j2.set_ 4 (.bool true), j3.trans (k.mono (fun y _ e => .inr e)), j4⟩
theorem HeardOf.fin_ {w1 : World} (hx : ¬ F x) (hxl : x < w.heap.size) (h : HeardOf F f x S fr w w1) : HeardOf F f x S fr w (w1.setCell ⟨x, 1, none⟩ (.bool true)) := by
  obtain ⟨F1, o, fi, re, de, v, j1, j2, j3, j4⟩ := h
  have k : Kept (· = x) w1 (w1.setCell ⟨x, 1, none⟩ (.bool true)) := (Kept.refl (· = x) w1).setIn (p := ⟨x, 1, none⟩) rfl _
  have hx1 : ¬ F1 x := fun h => (j4 x h).elim hx (fun h => by omega)
  exact ⟨F1, o, true, re, de, v, j1.kept k (fun b hb e => hx1 (by have e : b = x := e; rw [← e]; exact hb)), j2.set_ 1 (.bool true), j3.trans (k.mono (fun y _ e => .inr e)), j4⟩
theorem waits_flow {w1 : World} (tick : Int) (ht : 0 ≤ tick ∧ tick ≤ 1099511627776) (hx : ¬ F x) (hxl : x < w.heap.size) (h : HeardOf F f x S fr w w1) : Calls Try.prog 85 #[.pointer (some ⟨f, 0, none⟩), .int .i64 tick] w1 fun e w' => e = .returned (.tuple #[]) ∧ HeardOf F f x (S.waits tick) fr w w' := by
  obtain ⟨F1, o, fi, re, de, v, ⟨q, A, c, ros, Q, D, hX⟩, j2, j3, j4⟩ := h
  refine (fwaits_any tick ht hX.box).mono ?_
  rintro e w2 ⟨h1, k1, k2⟩
  have hx1 : ¬ F1 x := fun h => (j4 x h).elim hx (fun h => by omega)
  exact ⟨h1, F1, o, fi, re, de, v, ⟨q, A, c, ros, Q, D, hX.turned (S' := S.waits tick) k1 k2 rfl rfl rfl⟩, j2.kept k2 (fun e => hx1 (by have e : x = f := e; rw [e]; exact hX.ff)), j3.transG k2 (fun _ _ h => h) (fun y hy e => (j4 y (by have e : y = f := e; rw [e]; exact hX.ff)).elim .inl (fun h => by omega)), j4⟩
theorem HeardOf.cells {w1 : World} (h : HeardOf F f x S fr w w1) : w1.cell? ⟨f, 5, none⟩ = some (.int .i64 S.st) ∧ w1.cell? ⟨f, 6, none⟩ = some (.int .u32 S.rcv) ∧ w1.frozen? ⟨f, 5, none⟩ = false ∧ w1.frozen? ⟨f, 6, none⟩ = false ∧ w1.cell? ⟨x, 4, none⟩ = some (.bool fr) ∧ w1.frozen? ⟨x, 4, none⟩ = false ∧ w1.frozen? ⟨x, 1, none⟩ = false ∧ ∃ b, w1.cell? ⟨x, 1, none⟩ = some (.bool b) := by
  obtain ⟨F1, o, fi, re, de, v, ⟨q, A, c, ros, Q, D, hX⟩, j2, j3, j4⟩ := h
  exact ⟨hX.box.cell 5, hX.box.cell 6, hX.box.frozen 5, hX.box.frozen 6, j2.cell 4, j2.frozen 4, j2.frozen 1, fi, j2.cell 1⟩
set_option maxHeartbeats 4000000 in
set_option maxRecDepth 20000 in
theorem takes_any (tick : Int) (ht : 0 ≤ tick ∧ tick ≤ 1099511627776) (hno : S.out.length ≤ 90000) (s : Sg) (hxl : x < w.heap.size) (hx : ¬ F x) {o fi re de : Bool} {v : SlV} (hdn : s.dl = s.xs.length) (hdl : s.dl ≤ 1000) (hb : Blk w x 97 (hv o fi re de false v.val)) (h : FlS F w f S) :
    Calls Try.prog 80 #[.pointer (some ⟨f, 0, none⟩), .agg s.cells.toArray, .int .i64 tick, .pointer (some ⟨x, 0, none⟩)] w fun e w' => e = .returned (.tuple #[]) ∧ HeardOf F f x (S.takes ⟨s.seq, s.ack, s.syn, s.acks, s.fin, s.xs⟩ tick).1 (S.takes ⟨s.seq, s.ack, s.syn, s.acks, s.fin, s.xs⟩ tick).2 w w' := by
  have HH0 : Hid (HeardOf F f x S false w w) := Lib.hid ⟨F, o, fi, re, de, v, h, hb, Kept.refl _ _, fun b hb => .inl hb⟩
  have HXF := Lib.hid hx; have HXL := Lib.hid hxl
  obtain ⟨src, dst, sp, dp, seq, ack, syn, acks, fin, rst, win, oA, ol, oc, dA, dl, dc, xs⟩ := s
  have HDN : Hid (dl = xs.length) := Lib.hid hdn
  have hdl : dl ≤ 1000 := hdl
  obtain ⟨st, hst⟩ : ∃ z, S.st = z := ⟨_, rfl⟩
  obtain ⟨rcv, hrcv⟩ : ∃ z, S.rcv = z := ⟨_, rfl⟩
  have HST := Lib.hid hst; have HRC := Lib.hid hrcv
  clear hb h hx hxl hdn
  obtain ⟨lg, hlg⟩ : ∃ z, decide (isLong ⟨seq, ack, syn, acks, fin, xs⟩) = z := ⟨_, rfl⟩
  have HLG : Hid (lg = (decide (0 < (dl : Int)) || fin)) := Lib.hid (by rw [← hlg, HDN.out]; unfold isLong; cases fin <;> by_cases h : 0 < xs.length <;> simp [h])
  have HLI := Lib.hid hlg
  obtain ⟨ma, hma⟩ : ∃ z, decide (st = 3 ∨ st = 4 ∨ st = 5) = z := ⟨_, rfl⟩
  have HMA := Lib.hid hma
  clear hlg hma
  show Calls Try.prog 80 #[.pointer (some ⟨f, 0, none⟩), .agg #[.int .i64 src, .int .i64 dst, .int .i64 sp, .int .i64 dp, .int .u32 seq, .int .u32 ack, .bool syn, .bool acks, .bool fin, .bool rst, .int .i64 win, .slice oA ol oc, .slice dA dl dc], .int .i64 tick, .pointer (some ⟨x, 0, none⟩)] w _
  obtain ⟨x4, hx4⟩ : ∃ x, w.heap.size = x := ⟨_, rfl⟩
  have b4 := Blk.newAt (w := w) (t := 89) (cs := #[.int .i64 src, .int .i64 dst, .int .i64 sp, .int .i64 dp, .int .u32 seq, .int .u32 ack, .bool syn, .bool acks, .bool fin, .bool rst, .int .i64 win, .slice oA ol oc, .slice dA dl dc]) hx4.symm
  have f4 := (Fine.refl w).alloc (.cells #[.int .i64 src, .int .i64 dst, .int .i64 sp, .int .i64 dp, .int .u32 seq, .int .u32 ack, .bool syn, .bool acks, .bool fin, .bool rst, .int .i64 win, .slice oA ol oc, .slice dA dl dc] 89)
  have HX4 := Lib.hid hx4
  go_enter Try.func80, Try.ntmps80
  go_upto_region 1 with fail
  generalize w.alloc (.cells #[.int .i64 src, .int .i64 dst, .int .i64 sp, .int .i64 dp, .int .u32 seq, .int .u32 ack, .bool syn, .bool acks, .bool fin, .bool rst, .int .i64 win, .slice oA ol oc, .slice dA dl dc] 89) = w1 at b4 f4 ⊢
  have B1 := Lib.hid b4; have H1 := Lib.hid (HH0.out.fine f4)
  have d4 : w1.cell? ⟨x4, 4, none⟩ = some (.int .u32 seq) := b4.cell 4
  have d8 : w1.cell? ⟨x4, 8, none⟩ = some (.bool fin) := b4.cell 8
  have d12 : w1.cell? ⟨x4, 12, none⟩ = some (.slice dA dl dc) := b4.cell 12
  have c5 : w1.cell? ⟨f, 5, none⟩ = some (.int .i64 st) := by have := H1.out.cells.1; rw [hst] at this; exact this
  have c6 : w1.cell? ⟨f, 6, none⟩ = some (.int .u32 rcv) := by have := H1.out.cells.2.1; rw [hrcv] at this; exact this
  clear b4 f4 hx4 hst hrcv HH0
  go_cut [8] (fun s8 wx => s8 = .bool lg ∧ wx = w1)
  case first =>
    by_cases hl0 : 0 < dl
    · have g0 : decide (0 < (dl : Int)) = true := decide_eq_true (by omega)
      go_wp2_with fail
      go_meet
      exact ⟨by rw [HLG.out, g0]; rfl, rfl⟩
    · have g0 : decide (0 < (dl : Int)) = false := decide_eq_false (by omega)
      go_wp2_with fail
      go_meet
      exact ⟨by rw [HLG.out, g0]; rfl, rfl⟩
  case rest =>
  obtain ⟨rfl, hwc⟩ := hcut
  obtain ⟨w2, hw2⟩ : ∃ z, z = wc := ⟨_, rfl⟩
  subst hw2
  subst hwc
  go_upto_region 2 with fail
  go_cut [9] (fun s9 wx => s9 = .bool ma ∧ wx = w2)
  case first =>
    by_cases h3 : st = 3
    · subst h3
      go_wp2_with fail
      go_meet
      exact ⟨by rw [← HMA.out]; rfl, rfl⟩
    · have g3 : (st == 3) = false := by simpa using h3
      by_cases h4 : st = 4
      · subst h4
        go_wp2_with fail
        go_meet
        exact ⟨by rw [← HMA.out]; rfl, rfl⟩
      · have g4 : (st == 4) = false := by simpa using h4
        by_cases h5 : st = 5
        · subst h5
          go_wp2_with fail
          go_meet
          exact ⟨by rw [← HMA.out]; rfl, rfl⟩
        · have g5 : (st == 5) = false := by simpa using h5
          go_wp2_with fail
          go_meet
          exact ⟨by rw [← HMA.out]; simp [h3, h4, h5], rfl⟩
  case rest =>
  obtain ⟨rfl, hwc⟩ := hcut
  obtain ⟨w3, hw3⟩ : ∃ z, z = wc := ⟨_, rfl⟩
  subst hw3
  subst hwc
  clear c5
  go_upto_region 3 with fail
  obtain ⟨rj, hrj⟩ : ∃ z, (decide (seq ≠ rcv) || !ma) = z := ⟨_, rfl⟩
  have HRJ := Lib.hid hrj
  clear hrj
  go_cut [47] (fun s47 wx => s47 = .bool rj ∧ Hid (Fine w3 wx))
  case first =>
    by_cases hs : seq = rcv
    · have g1 : (seq != rcv) = false := by simpa using hs
      have HS := Lib.hid hs
      clear hs
      go_quiet (fail)
      go_wp2_with fail
      go_meet
      exact ⟨by rw [← HRJ.out]; simp [HS.out], Lib.hid ((Fine.refl w3).drewN _)⟩
    · have g1 : (seq != rcv) = true := by simpa using hs
      have HS := Lib.hid hs
      clear hs
      go_quiet (fail)
      go_wp2_with fail
      go_meet
      exact ⟨by rw [← HRJ.out]; simp [HS.out], Lib.hid ((Fine.refl w3).drewN _)⟩
  case rest =>
  obtain ⟨rfl, HF5⟩ := hcut
  obtain ⟨w5, hw5⟩ : ∃ z, z = wc := ⟨_, rfl⟩
  subst hw5
  have H5 := Lib.hid (H1.out.fine HF5.out)
  have B5 := Lib.hid (B1.out.fine HF5.out)
  clear d4 d8 d12 c6 H1 B1 HF5
  cases rj with
  | true =>
    have HT : Hid (S.takes ⟨seq, ack, syn, acks, fin, xs⟩ tick = (if isLong ⟨seq, ack, syn, acks, fin, xs⟩ ∨ isBefore seq rcv then S.tell else S, false)) := Lib.hid (by
      unfold Fl.takes
      rw [HRC.out, HST.out]
      refine if_pos ?_
      have h := HRJ.out
      by_cases h1 : seq = rcv
      · right
        intro h2
        have : ma = true := by rw [← HMA.out]; exact decide_eq_true h2
        rw [this] at h
        simp [h1] at h
      · exact .inl h1)
    go_upto_region 4 with fail
    obtain ⟨tl, htl⟩ : ∃ z, decide (isLong ⟨seq, ack, syn, acks, fin, xs⟩ ∨ isBefore seq rcv) = z := ⟨_, rfl⟩
    have HTL := Lib.hid htl
    clear htl
    go_cut [57] (fun s57 wx => s57 = .bool tl ∧ Hid (Fine w5 wx))
    case first =>
      cases lg with
      | true =>
        have e : Hid (tl = true) := Lib.hid (by rw [← HTL.out]; exact decide_eq_true (.inl (of_decide_eq_true HLI.out)))
        go_quiet (fail)
        go_wp2_with fail
        go_meet
        exact ⟨by rw [e.out], Lib.hid ((Fine.refl w5).drewN _)⟩
      | false =>
        have e : Hid (tl = decide (isBefore seq rcv)) := Lib.hid (by
          rw [← HTL.out]
          have hl := of_decide_eq_false HLI.out
          exact decide_eq_decide.2 ⟨fun h => h.resolve_left hl, .inr⟩)
        have q4 : ∀ p : FineBy w5, p.W.cell? ⟨x4, 4, none⟩ = some (.int .u32 seq) := fun p => (B5.out.fine p.h).cell 4
        have q6 : ∀ p : FineBy w5, p.W.cell? ⟨f, 6, none⟩ = some (.int .u32 rcv) := fun p => by have := (H5.out.fine p.h).cells.2.1; rw [HRC.out] at this; exact this
        have QB : Hid (∀ p : FineBy w5, Calls Try.prog 86 #[.int .u32 seq, .int .u32 rcv] p.W fun r w'' => r = .returned (.bool tl) ∧ Fine p.W w'') := Lib.hid (fun p => by rw [e.out]; exact before_any seq rcv p.W)
        refine wp_region_quiet_fine (by kernel_rfl) (by kernel_rfl) ?_
        repeat (go_big_quiet_step (exact Calls.fine_of (QB.out _)))
        refine wpQuiet_nil ?_
        intro wf hwf'
        have hwf := Lib.hid (FineBy.of hwf')
        clear hwf' q4 q6 QB
        go_wp2_with fail
        go_meet
        exact ⟨rfl, hwf⟩
    case rest =>
    obtain ⟨rfl, HF6⟩ := hcut
    obtain ⟨w6, hw6⟩ : ∃ z, z = wc := ⟨_, rfl⟩
    subst hw6
    have H6 := Lib.hid (H5.out.fine HF6.out)
    cases tl with
    | true =>
      go_wp2_with fail
      refine (tell_flow (by omega) HXF.out HXL.out H6.out).mono ?_
      rintro e w7 ⟨rfl, h7⟩
      have H7 := Lib.hid h7
      clear h7
      go_wp2_with fail
      exact bodyPost_ret (results_none rfl _ _ _) rfl ⟨rfl, by rw [HT.out, if_pos (of_decide_eq_true HTL.out)]; exact H7.out⟩
    | false =>
      go_wp2_with fail
      exact bodyPost_ret (results_none rfl _ _ _) rfl ⟨rfl, by rw [HT.out, if_neg (of_decide_eq_false HTL.out)]; exact H6.out⟩
  | false =>
    have hs : seq = rcv := by
      have h := HRJ.out
      by_cases h1 : seq = rcv
      · exact h1
      · simp [h1] at h
    have HM : Hid (st = 3 ∨ st = 4 ∨ st = 5) := Lib.hid (by
      have h := HRJ.out
      have : ma = true := by cases ma <;> simp_all
      rw [← HMA.out] at this
      exact of_decide_eq_true this)
    subst hs
    have HT : Hid (S.takes ⟨seq, ack, syn, acks, fin, xs⟩ tick = (if fin = true then (({ S with rcv := onN seq dl } : Fl).ends tick).tell else if lg = true then ({ S with rcv := onN seq dl } : Fl).tell else { S with rcv := onN seq dl }, true)) := Lib.hid (by
      have hl : lg = true ↔ isLong ⟨seq, ack, syn, acks, fin, xs⟩ := by rw [← HLI.out]; simp
      unfold Fl.takes
      rw [HRC.out, HST.out, if_neg (by rintro (h | h); exact h rfl; exact h HM.out), HDN.out]
      by_cases hf : fin = true
      · rw [if_pos hf, if_pos (show (Sm.mk seq ack syn acks fin xs).fin = true from hf)]
      · rw [if_neg hf, if_neg (show ¬ (Sm.mk seq ack syn acks fin xs).fin = true from hf)]
        by_cases hg : lg = true
        · rw [if_pos hg, if_pos (hl.1 hg)]
        · rw [if_neg hg, if_neg (fun h => hg (hl.2 h))])
    obtain ⟨c5, c6, z5, z6, cx4, zx4, zx1, bx1, cx1⟩ := H5.out.cells
    rw [HRC.out] at c6
    have H6 := Lib.hid (H5.out.frsh HXF.out HXL.out)
    clear c5 c6 z5 z6 zx1 cx1
    go_upto_region 7 with fail
    clear cx4 zx4
    have B6 : Hid (Blk (w5.setCell ⟨x, 4, none⟩ (.bool true)) x4 89 #[.int .i64 src, .int .i64 dst, .int .i64 sp, .int .i64 dp, .int .u32 seq, .int .u32 ack, .bool syn, .bool acks, .bool fin, .bool rst, .int .i64 win, .slice oA ol oc, .slice dA dl dc]) := Lib.hid (B5.out.kept ((Kept.refl (· = x) w5).setIn (p := ⟨x, 4, none⟩) rfl _) (fun e => by have e : x4 = x := e; have := HXL.out; have := HX4.out; omega))
    generalize w5.setCell ⟨x, 4, none⟩ (.bool true) = w6 at H6 B6 ⊢
    obtain ⟨c5, c6, z5, z6, cx4, zx4, zx1, bx1, cx1⟩ := H6.out.cells
    rw [HRC.out] at c6
    have d12 : w6.cell? ⟨x4, 12, none⟩ = some (.slice dA dl dc) := B6.out.cell 12
    have HON := Lib.hid (fun w' => on_same seq (dl : Int) w')
    obtain ⟨r1, hr1⟩ : ∃ z, onN seq (dl : Int) = z := ⟨_, rfl⟩
    rw [hr1] at HON HT
    have HR1 := Lib.hid hr1
    clear hr1 c5 z5 cx4 zx4 zx1 cx1
    go_cut [] (fun wx => Hid (HeardOf F f x ({ S with rcv := r1 } : Fl) true w wx ∧ Kept (· = f) w6 wx))
    case first =>
      go_region_law (first | (go_simp; go_at_call 66; refine (HON.out _).mono ?_; rintro e wE ⟨rfl, rfl⟩))
      all_goals
        go_wp2_with fail
        go_meet
        exact Lib.hid ⟨(H6.out.fine (Fine.refl w6).drew).rcv r1 HXF.out HXL.out, (Kept.of_fine (Fine.refl w6).drew).trans ((Kept.refl (· = f) w6.drew).setIn (p := ⟨f, 6, none⟩) rfl _)⟩
    case rest =>
    obtain ⟨w7, hw7⟩ : ∃ z, z = wc := ⟨_, rfl⟩
    subst hw7
    have H7 := Lib.hid hcut.out.1
    have B7 := Lib.hid (B6.out.kept hcut.out.2 (fun e => by
      have e : x4 = f := e
      obtain ⟨F1, o, fi, re, de, v, ⟨q, A, c, ros, Q, D, hX⟩, j2, j3, j4⟩ := H6.out
      exact B6.out.ne_type hX.box (by decide) e))
    clear hcut c6 z6 d12 HON
    have d8 : w7.cell? ⟨x4, 8, none⟩ = some (.bool fin) := B7.out.cell 8
    cases fin with
    | true =>
      have HT2 : Hid (S.takes ⟨seq, ack, syn, acks, true, xs⟩ tick = ((({ S with rcv := r1 } : Fl).ends tick).tell, true)) := Lib.hid HT.out
      have hlg : lg = true := by rw [HLG.out]; simp
      subst hlg
      obtain ⟨c5, c6, z5, z6, cx4, zx4, zx1, bx1, cx1⟩ := H7.out.cells
      obtain ⟨r2, hr2⟩ : ∃ z, onN r1 1 = z := ⟨_, rfl⟩
      have HR2 := Lib.hid hr2
      have e2 : IntKind.u32.wrap (r1 + 1) = r2 := by rw [← hr2, IntKind.wrap_u32]; rfl
      have H8 := H7.out.rcv r2 HXF.out HXL.out
      obtain ⟨-, -, -, -, -, -, ny1, by1, ny2⟩ := H8.cells
      have H9 := Lib.hid (H8.fin_ HXF.out HXL.out)
      clear c5 z5 cx4 zx4 H8 hr2 HT
      go_upto_region 11 with fail
      clear c6 z6 d8 ny1 ny2 zx1 cx1 e2
      generalize (w7.setCell ⟨f, 6, none⟩ (.int .u32 r2)).setCell ⟨x, 1, none⟩ (.bool true) = w9 at H9 ⊢
      obtain ⟨c5, c6, z5, z6, cx4, zx4, zx1, bx1, cx1⟩ := H9.out.cells
      dsimp only at c5
      rw [HST.out] at c5
      clear c6 z6 cx4 zx4 zx1 cx1 z5
      obtain ⟨s2, hs2⟩ : ∃ z, endedS st = z := ⟨_, rfl⟩
      have HS2 := Lib.hid hs2
      have HEN := Lib.hid (by have := ended_same st w9; rw [hs2] at this; exact this : Calls Try.prog 87 #[.int .i64 st] w9 fun e w' => e = .returned (.int .i64 s2) ∧ Fine w9 w')
      clear hs2
      go_wp2_with fail
      refine HEN.out.mono ?_
      rintro e wA ⟨rfl, fA⟩
      have HA := Lib.hid (H9.out.fine fA)
      obtain ⟨c5', -, z5, -, -, -, -, -, -⟩ := HA.out.cells
      dsimp only at c5'
      rw [HST.out] at c5'
      have HB := Lib.hid (HA.out.st s2 HXF.out HXL.out)
      clear fA c5 HEN
      go_upto_region 12 with fail
      clear c5' z5
      generalize wA.setCell ⟨f, 5, none⟩ (.int .i64 s2) = wB at HB ⊢
      have c5 : wB.cell? ⟨f, 5, none⟩ = some (.int .i64 s2) := HB.out.cells.1
      by_cases h9 : s2 = 9
      · subst h9
        have HW := Lib.hid (waits_flow tick ht HXF.out HXL.out HB.out)
        go_wp2_with fail
        refine HW.out.mono ?_
        rintro e wC ⟨rfl, hC⟩
        have HC := Lib.hid hC
        clear hC HW c5
        go_wp2_with fail
        refine (tell_flow (S := ({ S with rcv := r2, st := 9 } : Fl).waits tick) (by show S.out.length ≤ 100000; omega) HXF.out HXL.out HC.out).mono ?_
        rintro e wD ⟨rfl, hD⟩
        have HD := Lib.hid hD
        clear hD
        go_wp2_with fail
        refine bodyPost_end (v := .tuple #[]) (by simp [results, Try.results80, go_sem]) rfl ⟨rfl, ?_⟩
        rw [HT2.out]
        have e : ({ S with rcv := r1 } : Fl).ends tick = ({ S with rcv := r2, st := 9 } : Fl).waits tick := by unfold Fl.ends; rw [if_pos (show endedS ({ S with rcv := r1 } : Fl).st = 9 by show endedS S.st = 9; rw [HST.out, HS2.out]), HR2.out]; rfl
        rw [e]
        exact HD.out
      · have g9 : (s2 == 9) = false := by simpa using h9
        go_wp2_with fail
        refine (tell_flow (S := ({ S with rcv := r2, st := s2 } : Fl)) (by show S.out.length ≤ 100000; omega) HXF.out HXL.out HB.out).mono ?_
        rintro e wD ⟨rfl, hD⟩
        have HD := Lib.hid hD
        clear hD
        go_wp2_with fail
        refine bodyPost_end (v := .tuple #[]) (by simp [results, Try.results80, go_sem]) rfl ⟨rfl, ?_⟩
        rw [HT2.out]
        have e : ({ S with rcv := r1 } : Fl).ends tick = ({ S with rcv := r2, st := s2 } : Fl) := by unfold Fl.ends; rw [if_neg (show ¬ endedS ({ S with rcv := r1 } : Fl).st = 9 by show ¬ endedS S.st = 9; rw [HST.out, HS2.out]; exact h9)]; show ({ S with rcv := onN r1 1, st := endedS S.st } : Fl) = _; rw [HR2.out, HST.out, HS2.out]
        rw [e]
        exact HD.out
    | false =>
      cases lg with
      | true =>
        have HT2 : Hid (S.takes ⟨seq, ack, syn, acks, false, xs⟩ tick = (({ S with rcv := r1 } : Fl).tell, true)) := Lib.hid HT.out
        clear HT
        go_wp2_with fail
        refine (tell_flow (S := ({ S with rcv := r1 } : Fl)) (by show S.out.length ≤ 100000; omega) HXF.out HXL.out H7.out).mono ?_
        rintro e wD ⟨rfl, hD⟩
        have HD := Lib.hid hD
        clear hD
        go_wp2_with fail
        refine bodyPost_end (v := .tuple #[]) (by simp [results, Try.results80, go_sem]) rfl ⟨rfl, ?_⟩
        rw [HT2.out]
        exact HD.out
      | false =>
        have HT2 : Hid (S.takes ⟨seq, ack, syn, acks, false, xs⟩ tick = (({ S with rcv := r1 } : Fl), true)) := Lib.hid HT.out
        clear HT
        go_wp2_with fail
        refine bodyPost_end (v := .tuple #[]) (by simp [results, Try.results80, go_sem]) rfl ⟨rfl, ?_⟩
        rw [HT2.out]
        exact H7.out
end
end Go.Proofs.Ytjldgialhgfhmaa
