/- A sender by its numbers: Write. A sender by its numbers: Take, Lost, Ack, Due. A sender by its numbers: what holds stays so; near; acts that came in. -/
import Derived.Test.YtnigfdldfmiaiaaXSnd12
import Derived.Test.YtnigfdldfmiaiaaStructs
namespace Go.Proofs.Ytnigfdldfmiaiaa
set_option linter.unusedVariables false
set_option linter.unusedSimpArgs false
open Go.ChangeShapes Go.WideShapes Go.ChangeAt Go.RowKit Go.Maps
set_option linter.unusedVariables false
set_option linter.unusedSimpArgs false
/-- A sender's numbers. -/
structure Sn where
  una : Int
  nx : Int
  ed : Int
  buf : List Int
  told : Bool
  done : Bool
/-- It lies so; just the numbers that L says are lost. -/
def SnI (F : Nat → Prop) (w : World) (s : Nat) (T : Sn) (L : Int → Bool) : Prop := ∃ A c gs v l, SnX F w s A c gs v l T.una T.nx T.ed T.buf T.told T.done ∧ ∀ m, inB l m = L m
/-- What holds of its numbers. -/
structure Sn.Ok (T : Sn) (L : Int → Bool) (K : Int) : Prop where
  u1 : 1 ≤ T.una
  un : T.una ≤ T.nx
  ne : T.nx ≤ T.ed
  nb : T.nx ≤ T.una + T.buf.length
  b64 : T.buf.length ≤ 64
  ub : T.una + T.buf.length ≤ K
  eb : T.ed ≤ K + 65536
  lost : ∀ m, L m = true → T.una ≤ m ∧ m < T.nx
section
variable {F : Nat → Prop} {w w' : World} {s : Nat} {T : Sn} {L : Int → Bool}
theorem SnI.kept {S : Nat → Prop} (h : SnI F w s T L) (k : Kept S w w') (hd : ∀ x, F x → ¬ S x) : SnI F w' s T L := by
  obtain ⟨A, c, gs, v, l, h1, h2⟩ := h
  exact ⟨A, c, gs, v, l, h1.kept k hd, h2⟩
theorem SnI.fine (h : SnI F w s T L) (f : Fine w w') : SnI F w' s T L := h.kept (S := fun _ => False) (Kept.of_fine f) (fun _ _ f => f)
theorem SnI.lt (h : SnI F w s T L) : ∀ x, F x → x < w.heap.size := by
  obtain ⟨A, c, gs, v, l, h1, h2⟩ := h
  exact h1.lt
theorem SnI.fg (h : SnI F w s T L) : F s := by
  obtain ⟨A, c, gs, v, l, h1, h2⟩ := h
  exact h1.fg
end
def wrN (T : Sn) (bs : List Int) : Nat := if T.told = true then 0 else min bs.length (64 - T.buf.length)
def wrE (T : Sn) (bs : List Int) : Int := if T.told = true then 11 else if 64 ≤ T.buf.length ∧ 0 < bs.length then 7 else 0
def Sn.wrote (T : Sn) (bs : List Int) : Sn := { T with buf := T.buf ++ bs.take (wrN T bs) }
/-- What Write answers. -/
def WrOf (F : Nat → Prop) (s : Nat) (T : Sn) (L : Int → Bool) (bs : List Int) (w : World) (r : Ending) (w' : World) : Prop :=
  ∃ F', r = .returned (.tuple #[.int .i64 (wrN T bs : Nat), .int .i64 (wrE T bs)]) ∧ SnI F' w' s (T.wrote bs) L ∧ Kept F w w' ∧ ∀ y, F' y → F y ∨ w.heap.size ≤ y
section
variable {F : Nat → Prop} {s : Nat} {A : Option Addr} {c gs : Nat} {v : Value} {l : List Rn} {una nx ed : Int} {buf : List Int} {told done : Bool}
set_option maxHeartbeats 2000000 in
set_option maxRecDepth 20000 in
theorem swrite_zero (k cb : Nat) (Ab : Option Addr) (bs : List Int) (hn : bs.length = k) (hnb : k = 0) (hb64 : buf.length = 64) (w : World) (hrs : RS layB w Ab cb bs) (h : SnX F w s A c gs v l una nx ed buf false done) :
    Calls Try.prog 51 #[.pointer (some ⟨s, 0, none⟩), .slice Ab k cb] w (WriteOf F s gs v l una nx ed buf done bs w) := by
  obtain ⟨nb, hnbf⟩ : ∃ z, buf.length = z := ⟨_, rfl⟩
  obtain ⟨rm, hrm⟩ : ∃ z, 64 - nb = z := ⟨_, rfl⟩
  have hk2 : k = min k rm := by omega
  have hkn : k ≤ k := by omega
  have c4 : w.cell? ⟨s, 4, none⟩ = some (.slice A nb c) := by have := h.box.cell 4; rw [hnbf] at this; exact this
  have c5 : w.cell? ⟨s, 5, none⟩ = some (.bool false) := h.box.cell 5
  have e1 : IntKind.i64.wrap (64 - (nb : Int)) = (rm : Int) := by rw [show (64 : Int) - (nb : Int) = (rm : Int) by omega]; exact IntWalk.i64_in _ (by omega)
  have g1 : (nb : Int) ≥ 64 := by omega
  have g2 : decide (64 ≤ (nb : Int)) = true := decide_eq_true g1
  have g3 : ¬ (k : Int) > 0 := by omega
  have g4 : decide (0 < (k : Int)) = false := decide_eq_false g3
  have q1 := hrs.run_front sliceB k (by rw [hn]; exact hkn)
  rw [hn] at q1
  have htk : (bs.take k).length = k := by rw [List.length_take, hn]; omega
  have HRF : Hid (RS layB w.drew Ab cb (bs.take k)) := Lib.hid ((hrs.front k (by rw [hn]; exact hkn)).fine (Fine.refl w).drew)
  have HO : Hid (Own layB 5 w.drew 0 (.slice A nb c) buf) := Lib.hid (by have := h.own.fine (Fine.refl w).drew; rw [hnbf] at this; exact this)
  have HTK := Lib.hid htk
  have H := Lib.hid h; have HNB := Lib.hid hnbf; have HN := Lib.hid hn; have HK2 := Lib.hid hk2; have HRM := Lib.hid hrm
  have hnb64 : nb ≤ 64 := by omega
  have HEL : Hid ((buf ++ bs.take k).length = nb + k) := Lib.hid (by rw [List.length_append, hnbf, htk])
  clear hrs h hnbf hn hk2 hrm htk hb64 hnb
  go_enter Try.func51, Try.ntmps51
  go_upto_region 8 with fail
  go_region_law (first | (refine step_appE rfl sliceB (.tmp 40) (.tmp 43) rfl 0 (.slice A nb c) buf rfl HO.out Ab k cb (bs.take k) rfl HTK.out.symm HRF.out (by rw [HTK.out, HNB.out]; omega) (by rw [HTK.out, HNB.out]; unfold maxLen; omega) (Nat.zero_le _) ?_; intro x2 wB oB kB0 gB0 bB; obtain ⟨A3, c3, hx2, _, _⟩ := oB.form; rw [HEL.out] at hx2; subst hx2; have KB : Kept (fun q => (Value.slice A nb c).ownBlock = some q) w.drew wB := Kept.grown (Kept.refl _ _) gB0 (fun k hk _ => hk); have BA := H.out.box.fine (Fine.refl w).drew; have BB := BA.kept KB (fun e => HO.out.ne_blk e BA (by decide) rfl); have yB0 := BB.cell 4; have yB1 := BB.frozen 4))
  all_goals
    have XD := H.out.fine (Fine.refl w).drew
    have KB' : Kept (fun q => (Value.slice A buf.length c).ownBlock = some q) w.drew wB := by rw [HNB.out]; exact KB
    have J9 := Lib.hid (XD.wrote (n2 := nb + k) KB' HEL.out.symm oB (by
      rw [HNB.out]
      exact bB.imp id (fun h y hy => by have h2 := h.symm.trans hy; injection h2 with h2; omega)))
    have K9 : Hid (Kept F w (wB.setCell ⟨s, 4, none⟩ (.slice A3 (nb + k) c3))) := Lib.hid ((((Kept.refl F w).drew).trans (KB'.mono (fun y _ e => H.out.fa y e))).setIn (p := ⟨s, 4, none⟩) H.out.fg _)
    have E9 : Hid (bs.take (64 - buf.length) = bs.take k) := Lib.hid (by
      rw [HNB.out, HRM.out, HK2.out, ← HN.out, List.take_eq_take_iff]
      omega)
    have E8 : Hid (((min bs.length (64 - buf.length) : Nat) : Int) = (k : Int)) := Lib.hid (by rw [HNB.out, HN.out, HRM.out, ← HK2.out])
    clear XD KB' oB bB gB0 kB0 KB BA BB yB0 yB1
    go_wp2_with fail
    refine bodyPost_ret (v := .tuple #[.int .i64 (k : Int), .int .i64 0]) (by simp [results, Try.results51, go_sem]) rfl ⟨_, A3, c3, by rw [E8.out], by rw [E9.out]; exact J9.out, K9.out, fun y hy => ?_⟩
    rcases hy with h | h
    · exact .inl h
    · exact .inr h.1
theorem swrite_told (w : World) (x : Value) (h : SnX F w s A c gs v l una nx ed buf true done) :
    Calls Try.prog 51 #[.pointer (some ⟨s, 0, none⟩), x] w fun r w' => r = .returned (.tuple #[.int .i64 0, .int .i64 11]) ∧ Fine w w' := by
  have c5 : w.cell? ⟨s, 5, none⟩ = some (.bool true) := h.box.cell 5
  clear h
  go_enter Try.func51, Try.ntmps51
  go_wp2_with fail
  exact bodyPost_ret (v := .tuple #[.int .i64 0, .int .i64 11]) (by simp [results, Try.results51, go_sem]) rfl ⟨rfl, Fine.refl w⟩
theorem swrite_full (n cb : Nat) (Ab : Option Addr) (hn : 0 < n) (hb64 : 64 ≤ buf.length) (w : World) (h : SnX F w s A c gs v l una nx ed buf false done) :
    Calls Try.prog 51 #[.pointer (some ⟨s, 0, none⟩), .slice Ab n cb] w fun r w' => r = .returned (.tuple #[.int .i64 0, .int .i64 7]) ∧ Fine w w' := by
  obtain ⟨nb, hnbf⟩ : ∃ z, buf.length = z := ⟨_, rfl⟩
  have c4 : w.cell? ⟨s, 4, none⟩ = some (.slice A nb c) := by have := h.box.cell 4; rw [hnbf] at this; exact this
  have c5 : w.cell? ⟨s, 5, none⟩ = some (.bool false) := h.box.cell 5
  have g1 : (nb : Int) ≥ 64 := by omega
  have g2 : decide (64 ≤ (nb : Int)) = true := decide_eq_true g1
  have g3 : (n : Int) > 0 := by omega
  have g4 : decide (0 < (n : Int)) = true := decide_eq_true g3
  clear h hnbf hb64
  go_enter Try.func51, Try.ntmps51
  go_wp2_with fail
  exact bodyPost_ret (v := .tuple #[.int .i64 0, .int .i64 7]) (by simp [results, Try.results51, go_sem]) rfl ⟨rfl, Fine.refl w⟩
theorem sn_write {T : Sn} {L : Int → Bool} (n cb : Nat) (Ab : Option Addr) (bs : List Int) (hn : bs.length = n) (hnb : n ≤ 100000) (hb64 : T.buf.length ≤ 64) (w : World) (hrs : RS layB w Ab cb bs) (h : SnI F w s T L) :
    Calls Try.prog 51 #[.pointer (some ⟨s, 0, none⟩), .slice Ab n cb] w (WrOf F s T L bs w) := by
  obtain ⟨A, c, gs, v, l, hX, hL⟩ := h
  obtain ⟨una, nx, ed, buf, told, done⟩ := T
  simp only at hX hb64
  cases told with
  | true =>
    refine (swrite_told w _ hX).mono ?_
    rintro r w' ⟨rfl, f⟩
    refine ⟨F, rfl, ⟨A, c, gs, v, l, ?_, hL⟩, Kept.of_fine f, fun y hy => .inl hy⟩
    have := hX.fine f
    simpa [Sn.wrote, wrN] using this
  | false =>
    by_cases h0 : buf.length < 64
    · refine (swrite_any n cb Ab bs hn hnb h0 w hrs hX).mono ?_
      rintro r w' ⟨F', A', c', rfl, x, k, hF⟩
      refine ⟨F', ?_, ⟨A', c', gs, v, l, ?_, hL⟩, k, hF⟩
      · simp only [wrN, wrE]
        rw [if_neg (by simp), if_neg (by simp), if_neg (by omega)]
      · have e : bs.take (min bs.length (64 - buf.length)) = bs.take (64 - buf.length) := by rw [List.take_eq_take_iff]; omega
        simp only [Sn.wrote, wrN]
        rw [if_neg (by simp), e]
        exact x
    · by_cases h1 : n = 0
      · refine (swrite_zero n cb Ab bs hn h1 (by omega) w hrs hX).mono ?_
        rintro r w' ⟨F', A', c', rfl, x, k, hF⟩
        refine ⟨F', ?_, ⟨A', c', gs, v, l, ?_, hL⟩, k, hF⟩
        · simp only [wrN, wrE]
          rw [if_neg (by simp), if_neg (by simp), if_neg (by omega)]
        · have e : bs = [] := List.eq_nil_of_length_eq_zero (by omega)
          subst e
          simpa [Sn.wrote, wrN] using x
      · refine (swrite_full n cb Ab (by omega) (by omega) w hX).mono ?_
        rintro r w' ⟨rfl, f⟩
        refine ⟨F, ?_, ⟨A, c, gs, v, l, ?_, hL⟩, Kept.of_fine f, fun y hy => .inl hy⟩
        · simp only [wrN, wrE]
          rw [if_neg (by simp), if_neg (by simp), if_pos (by omega), show min bs.length (64 - buf.length) = 0 by omega]
          rfl
        · have := hX.fine f
          have e : 64 - buf.length = 0 := by omega
          simpa [Sn.wrote, wrN, e] using this
end
end Go.Proofs.Ytnigfdldfmiaiaa
namespace Go.Proofs.Ytnigfdldfmiaiaa
set_option linter.unusedVariables false
set_option linter.unusedSimpArgs false
open Go.ChangeShapes Go.WideShapes Go.ChangeAt Go.RowKit Go.Maps
set_option linter.unusedVariables false
set_option linter.unusedSimpArgs false
/-- How many may be taken. -/
def tkM (most : Int) : Int := min (max most 1) 8
/-- What is taken: lost data first, from the first one on; or what comes next. -/
def TakeP (T : Sn) (L : Int → Bool) (most dsn : Int) (n : Nat) (nx' : Int) (L' : Int → Bool) : Prop :=
  ((∃ m, L m = true) ∧ T.una ≤ dsn ∧ dsn + n ≤ T.nx ∧ 0 < n ∧ (n : Int) ≤ tkM most ∧ (∀ j, j < dsn → L j = false) ∧ (∀ j, dsn ≤ j → j < dsn + n → L j = true) ∧ ((n : Int) = tkM most ∨ L (dsn + n) = false) ∧ nx' = T.nx ∧ ∀ j, L' j = (L j && !(decide (dsn ≤ j) && decide (j < dsn + n))))
  ∨ ((∀ m, L m = false) ∧ (∀ m, L' m = false) ∧ (n : Int) = max 0 (min (min (T.una + T.buf.length - T.nx) (T.ed - T.nx)) (tkM most)) ∧ nx' = T.nx + n ∧ dsn = if n = 0 then 0 else T.nx)
def TakeOf (F : Nat → Prop) (s : Nat) (T : Sn) (L : Int → Bool) (most : Int) (w : World) (r : Ending) (w' : World) : Prop :=
  ∃ dsn n A' c' F' nx' L', r = .returned (.tuple #[.int .i64 dsn, .slice A' n c']) ∧ Own layB 5 w' w.heap.size (.slice A' n c') ((T.buf.drop (dsn - T.una).toNat).take n) ∧ SnI F' w' s { T with nx := nx' } L' ∧ Kept F w w' ∧ (∀ y, F' y → F y ∨ w.heap.size ≤ y) ∧ TakeP T L most dsn n nx' L' ∧ ∀ y, (Value.slice A' n c').ownBlock = some y → ¬ F' y
theorem inB_head {r1 r2 : Int} {t : List Rn} (hT : Tidy ((r1, r2) :: t)) (m : Int) : (m < r1 → inB ((r1, r2) :: t) m = false) ∧ (r1 ≤ m → m < r1 + r2 → inB ((r1, r2) :: t) m = true) ∧ inB ((r1, r2) :: t) (r1 + r2) = false := by
  have far : ∀ m, m ≤ r1 + r2 → inB t m = false := fun m hm => by
    cases e : inB t m with
    | false => rfl
    | true =>
      obtain ⟨r, h1, h2, h3⟩ := inB_iff.mp e
      have h4 : r1 + r2 < r.1 := hT.head r h1
      omega
  have hok : 0 ≤ r1 ∧ 1 ≤ r2 ∧ r1 + r2 ≤ 4294967296 := hT.ok (r1, r2) List.mem_cons_self
  refine ⟨fun h => ?_, fun h1 h2 => ?_, ?_⟩
  · rw [inB_cons, far m (by omega), Bool.or_false]
    unfold hasR
    rw [decide_eq_false (show ¬ r1 ≤ m by omega)]
    rfl
  · rw [inB_cons]
    unfold hasR rto
    rw [decide_eq_true h1, decide_eq_true h2]
    rfl
  · rw [inB_cons, far _ (by omega), Bool.or_false]
    unfold hasR rto
    simp
theorem keep_head {r1 r2 : Int} {t : List Rn} (hT : Tidy ((r1, r2) :: t)) (n : Nat) (h0 : 0 < n) (hn : (n : Int) ≤ r2) (m : Int) : ((r1, r2) :: t).any (fun r => hasR (keepR r1 n r) m) = (inB ((r1, r2) :: t) m && !(decide (r1 ≤ m) && decide (m < r1 + n))) := by
  have hok : 0 ≤ r1 ∧ 1 ≤ r2 ∧ r1 + r2 ≤ 4294967296 := hT.ok (r1, r2) List.mem_cons_self
  have e : t.any (fun r => hasR (keepR r1 n r) m) = inB t m := by
    unfold inB
    rw [Bool.eq_iff_iff, List.any_eq_true, List.any_eq_true]
    constructor
    · rintro ⟨r, h1, h2⟩
      refine ⟨r, h1, ?_⟩
      unfold keepR at h2
      have h4 : r1 + r2 < r.1 := hT.head r h1
      rw [if_neg (by omega)] at h2
      exact h2
    · rintro ⟨r, h1, h2⟩
      refine ⟨r, h1, ?_⟩
      unfold keepR
      have h4 : r1 + r2 < r.1 := hT.head r h1
      rw [if_neg (by omega)]
      exact h2
  have far : m < r1 + n → inB t m = false := fun hm => by
    cases e : inB t m with
    | false => rfl
    | true =>
      obtain ⟨r, h1, h2, h3⟩ := inB_iff.mp e
      have h4 : r1 + r2 < r.1 := hT.head r h1
      omega
  rw [List.any_cons, e, inB_cons]
  have ek : keepR r1 n (r1, r2) = (r1 + n, r2 - n) := by unfold keepR; rw [if_pos rfl]
  rw [ek]
  unfold hasR rto
  by_cases hm : m < r1 + n
  · rw [far hm, Bool.or_false, Bool.or_false, Bool.eq_iff_iff]
    simp
    omega
  · rw [decide_eq_false hm, Bool.and_false, Bool.not_false, Bool.and_true]
    congr 1
    rw [Bool.eq_iff_iff]
    simp
    omega
section
variable {F : Nat → Prop} {s : Nat} {T : Sn} {L : Int → Bool} {K : Int}
theorem sn_take (most : Int) (hK : K ≤ 2147483648) (hT : T.Ok L K) (w : World) (h : SnI F w s T L) :
    Calls Try.prog 52 #[.pointer (some ⟨s, 0, none⟩), .int .i64 most] w (TakeOf F s T L most w) := by
  obtain ⟨A, c, gs, v, l, hX, hL⟩ := h
  obtain ⟨una, nx, ed, buf, told, done⟩ := T
  obtain ⟨o1, o2, o3, o4, o5, o6, o7, o8⟩ := hT
  simp only at hX o1 o2 o3 o4 o5 o6 o7 o8
  cases l with
  | nil =>
    have hL0 : ∀ m, L m = false := fun m => by rw [← hL m]; rfl
    obtain ⟨n, hn⟩ : ∃ z, min (min (una + (buf.length : Int) - nx) (ed - nx)) (min (max most 1) 8) = z := ⟨_, rfl⟩
    by_cases hp : 0 < n
    · obtain ⟨k, rfl⟩ : ∃ k : Nat, n = (k : Int) := ⟨n.toNat, by omega⟩
      obtain ⟨o, ho⟩ : ∃ o : Nat, nx = una + (o : Int) := ⟨(nx - una).toNat, by omega⟩
      refine (stake_some most o k ho hn.symm (by omega) (by omega) (by omega) w hX).mono ?_
      rintro r w' ⟨A', c', rfl, ow, x, kk⟩
      refine ⟨nx, k, A', c', F, nx + k, L, rfl, ?_, ⟨A, c, gs, v, [], x, hL⟩, kk, fun y hy => .inl hy, .inr ⟨hL0, hL0, ?_, rfl, ?_⟩, fun y hy hf => by have h1 := hX.lt y hf; have h2 := (ow.lt y hy).1; omega⟩
      · rw [show (nx - una).toNat = o by omega]
        exact ow
      · unfold tkM
        simp only
        omega
      · rw [if_neg (by omega)]
    · refine (stake_none most n (by omega) hn.symm (by omega) (by omega) (by omega) w hX).mono ?_
      rintro r w' ⟨rfl, x, f⟩
      refine ⟨0, 0, none, 0, F, nx + (0 : Nat), L, rfl, ?_, ⟨A, c, gs, v, [], by simpa using x, hL⟩, Kept.of_fine f, fun y hy => .inl hy, .inr ⟨hL0, hL0, ?_, rfl, ?_⟩, fun y hy => by cases hy⟩
      · rw [List.take_zero]
        exact Own.nil_ _ _ _ _
      · unfold tkM
        simp only
        omega
      · rw [if_pos rfl]
  | cons r t =>
    obtain ⟨r1, r2⟩ := r
    have hT := hX.tidy
    have hok : 0 ≤ r1 ∧ 1 ≤ r2 ∧ r1 + r2 ≤ 4294967296 := hT.ok (r1, r2) List.mem_cons_self
    have hq1 : L r1 = true := by rw [← hL]; exact (inB_head hT r1).2.1 (Int.le_refl _) (by omega)
    have hq2 : L (r1 + r2 - 1) = true := by rw [← hL]; exact (inB_head hT _).2.1 (by omega) (by omega)
    have hb1 := o8 _ hq1
    have hb2 := o8 _ hq2
    obtain ⟨n, hn⟩ : ∃ n : Nat, (n : Int) = min r2 (min (max most 1) 8) := ⟨(min r2 (min (max most 1) 8)).toNat, by omega⟩
    obtain ⟨o, ho⟩ : ∃ o : Nat, r1 = una + (o : Int) := ⟨(r1 - una).toNat, by omega⟩
    refine (stake_lost most r1 r2 t o n ho hn (by omega) (by omega) w hX).mono ?_
    rintro r w' ⟨A', c', F', g', v', l', rfl, ow, x, hm, kk, hF, hd⟩
    refine ⟨r1, n, A', c', F', nx, inB l', rfl, ?_, ⟨A, c, g', v', l', x, fun _ => rfl⟩, kk, hF, .inl ⟨⟨r1, hq1⟩, hb1.1, by simp only; omega, by omega, by unfold tkM; omega, fun j hj => ?_, fun j h1 h2 => ?_, ?_, rfl, fun j => ?_⟩, hd⟩
    · rw [show (r1 - una).toNat = o by omega]
      exact ow
    · rw [← hL]; exact (inB_head hT j).1 hj
    · rw [← hL]; exact (inB_head hT j).2.1 h1 (by omega)
    · by_cases hr : (n : Int) = tkM most
      · exact .inl hr
      · refine .inr ?_
        have : (n : Int) = r2 := by unfold tkM at hr; omega
        rw [← hL, this]
        exact (inB_head hT 0).2.2
    · rw [hm j, keep_head hT n (by omega) (by omega) j, hL]
/-- How many of the numbers below K are such. -/
def cntZ (p : Int → Bool) (K : Nat) : Int := ((List.range K).countP (fun n : Nat => p (n : Int)) : Int)
def LostOf (F : Nat → Prop) (s : Nat) (T : Sn) (L : Int → Bool) (dsn long : Int) (w : World) (r : Ending) (w' : World) : Prop :=
  ∃ F' L', r = .returned (.int .i64 (cntZ L' T.nx.toNat - cntZ L T.nx.toNat)) ∧ (∀ m, L' m = (L m || lostB T.una T.nx dsn long m)) ∧ SnI F' w' s T L' ∧ Kept F w w' ∧ ∀ y, F' y → F y ∨ w.heap.size ≤ y
theorem total_cntZ {l : List Rn} (hT : Tidy l) {L : Int → Bool} (hL : ∀ m, inB l m = L m) {nx : Int} (h : ∀ m, L m = true → m < nx) (h0 : 0 ≤ nx) : total l = cntZ L nx.toNat := by
  rw [total_count hT nx.toNat (fun r hr => by
    have hok := hT.ok r hr
    have h1 : inB l (rto r - 1) = true := inB_iff.mpr ⟨r, hr, by unfold rto; omega, by omega⟩
    rw [hL] at h1
    have := h _ h1
    omega)]
  unfold cntZ
  congr 2
  funext n
  exact hL n
theorem sn_lost (dsn long : Int) (hd : -1099511627776 ≤ dsn ∧ dsn ≤ 1099511627776) (hl : -1099511627776 ≤ long ∧ long ≤ 1099511627776) (hK : K ≤ 2147483648) (hT : T.Ok L K) (w : World) (h : SnI F w s T L) :
    Calls Try.prog 55 #[.pointer (some ⟨s, 0, none⟩), .int .i64 dsn, .int .i64 long] w (LostOf F s T L dsn long w) := by
  obtain ⟨A, c, gs, v, l, hX, hL⟩ := h
  obtain ⟨una, nx, ed, buf, told, done⟩ := T
  obtain ⟨o1, o2, o3, o4, o5, o6, o7, o8⟩ := hT
  simp only at hX o1 o2 o3 o4 o5 o6 o7 o8
  refine (slost_any dsn long hd hl (by omega) w hX).mono ?_
  rintro r w' ⟨F', v', l', rfl, hm, x, kk, hF⟩
  have hL' : ∀ m, inB l' m = (L m || lostB una nx dsn long m) := fun m => by rw [hm m, hL]
  refine ⟨F', _, ?_, fun m => rfl, ⟨A, c, gs, v', l', x, hL'⟩, kk, hF⟩
  rw [total_cntZ x.tidy hL' (nx := nx) (fun m h => ?_) (by omega), total_cntZ hX.tidy hL (nx := nx) (fun m h => (o8 m h).2) (by omega)]
  rcases Bool.or_eq_true_iff.mp h with h1 | h1
  · exact (o8 m h1).2
  · unfold lostB at h1
    simp at h1
    omega
/-- Behind an acknowledgement. -/
def Sn.acked (T : Sn) (ack win : Int) : Sn := { T with una := min ack (T.una + T.buf.length), ed := max T.ed (ack + win), buf := T.buf.drop (min ack (T.una + T.buf.length) - T.una).toNat, done := T.done || decide (T.una + T.buf.length < ack) }
def ackOk (T : Sn) (ack win : Int) : Prop := T.una ≤ ack ∧ ack ≤ mostV T.told T.nx (T.una + T.buf.length) ∧ 0 ≤ win ∧ win ≤ 65535
instance ackDec (T : Sn) (ack win : Int) : Decidable (ackOk T ack win) := by unfold ackOk; infer_instance
def AckOf (F : Nat → Prop) (s : Nat) (T : Sn) (L : Int → Bool) (ack win : Int) (w : World) (r : Ending) (w' : World) : Prop :=
  ∃ F' L', SnI F' w' s (if ackOk T ack win then T.acked ack win else T) L' ∧ Kept F w w' ∧ (∀ y, F' y → F y ∨ w.heap.size ≤ y) ∧
    ((ackOk T ack win ∧ r = .returned (.tuple #[.int .i64 ((T.acked ack win).una - T.una), .bool true]) ∧ ∀ m, L' m = (L m && decide ((T.acked ack win).una ≤ m)))
    ∨ (¬ ackOk T ack win ∧ r = .returned (.tuple #[.int .i64 0, .bool false]) ∧ ∀ m, L' m = L m))
theorem sn_ack (ack win : Int) (hK : K ≤ 2147483648) (hT : T.Ok L K) (w : World) (h : SnI F w s T L) :
    Calls Try.prog 53 #[.pointer (some ⟨s, 0, none⟩), .int .i64 ack, .int .i64 win] w (AckOf F s T L ack win w) := by
  obtain ⟨A, c, gs, v, l, hX, hL⟩ := h
  obtain ⟨una, nx, ed, buf, told, done⟩ := T
  obtain ⟨o1, o2, o3, o4, o5, o6, o7, o8⟩ := hT
  simp only at hX o1 o2 o3 o4 o5 o6 o7 o8
  by_cases hok : ackOk ⟨una, nx, ed, buf, told, done⟩ ack win
  · obtain ⟨a1, a2, a3, a4⟩ := hok
    have hok : ackOk ⟨una, nx, ed, buf, told, done⟩ ack win := ⟨a1, a2, a3, a4⟩
    simp only at a1 a2
    by_cases hlo : ack ≤ una + buf.length
    · obtain ⟨n, hn⟩ : ∃ n : Nat, ack = una + (n : Int) := ⟨(ack - una).toNat, by omega⟩
      refine (sack_low ack win n hn (by omega) a2 ⟨a3, a4⟩ (by omega) (by omega) (by omega) w hX).mono ?_
      rintro r w' ⟨F', v', rfl, x, kk, hF⟩
      have e1 : min ack (una + (buf.length : Int)) = una + n := by omega
      have e2 : (una + (n : Int) - una).toNat = n := by omega
      have e3 : decide (una + (buf.length : Int) < ack) = false := decide_eq_false (by omega)
      refine ⟨F', inB (dropL l (una + n)), ?_, kk, hF, .inl ⟨hok, ?_, fun m => ?_⟩⟩
      · rw [if_pos hok]
        refine ⟨A, c, gs, v', _, ?_, fun _ => rfl⟩
        simp only [Sn.acked, e1, e2, e3, Bool.or_false]
        exact x
      · simp only [Sn.acked, e1]
        rw [show una + (n : Int) - una = n by omega]
      · simp only [Sn.acked, e1]
        rw [(drop_law hX.tidy _).2 m, hL]
    · refine (sack_high ack win buf.length rfl (by omega) a2 ⟨a3, a4⟩ (by omega) (by omega) (by omega) w hX).mono ?_
      rintro r w' ⟨F', v', rfl, x, kk, hF⟩
      have e1 : min ack (una + (buf.length : Int)) = una + (buf.length : Int) := by omega
      have e2 : (una + (buf.length : Int) - una).toNat = buf.length := by omega
      have e3 : decide (una + (buf.length : Int) < ack) = true := decide_eq_true (by omega)
      refine ⟨F', inB (dropL l (una + buf.length)), ?_, kk, hF, .inl ⟨hok, ?_, fun m => ?_⟩⟩
      · rw [if_pos hok]
        refine ⟨A, c, gs, v', _, ?_, fun _ => rfl⟩
        simp only [Sn.acked, e1, e2, e3, Bool.or_true]
        exact x
      · simp only [Sn.acked, e1]
        rw [show una + (buf.length : Int) - una = buf.length by omega]
      · simp only [Sn.acked, e1]
        rw [(drop_law hX.tidy _).2 m, hL]
  · refine (sack_bad ack win ?_ (by omega) (by omega) w hX).mono ?_
    · unfold ackOk at hok
      simp only at hok
      omega
    · rintro r w' ⟨rfl, f⟩
      refine ⟨F, L, ?_, Kept.of_fine f, fun y hy => .inl hy, .inr ⟨hok, rfl, fun _ => rfl⟩⟩
      rw [if_neg hok]
      exact ⟨A, c, gs, v, l, hX.fine f, hL⟩
/-- The end is to be sent. -/
def Sn.due (T : Sn) (L : Int → Bool) : Prop := T.told = true ∧ T.done = false ∧ T.nx = T.una + T.buf.length ∧ ∀ m, L m = false
def DueOf (F : Nat → Prop) (s : Nat) (T : Sn) (L : Int → Bool) (w : World) (r : Ending) (w' : World) : Prop :=
  Fine w w' ∧ ((T.due L ∧ r = .returned (.tuple #[.int .i64 (T.una + T.buf.length), .bool true])) ∨ (¬ T.due L ∧ r = .returned (.tuple #[.int .i64 0, .bool false])))
theorem sn_due (hK : K ≤ 2147483648) (hT : T.Ok L K) (w : World) (h : SnI F w s T L) :
    Calls Try.prog 61 #[.pointer (some ⟨s, 0, none⟩)] w (DueOf F s T L w) := by
  obtain ⟨A, c, gs, v, l, hX, hL⟩ := h
  obtain ⟨una, nx, ed, buf, told, done⟩ := T
  obtain ⟨o1, o2, o3, o4, o5, o6, o7, o8⟩ := hT
  simp only at hX o1 o2 o3 o4 o5 o6 o7 o8
  refine (sudue_any (by omega) w hX).mono ?_
  rintro r w' ⟨rfl, f⟩
  have hz : total l ≤ 0 ↔ ∀ m, L m = false := by
    constructor
    · intro h m
      cases l with
      | nil => rw [← hL]; rfl
      | cons a t =>
        have h1 := hX.tidy.ok a List.mem_cons_self
        have h2 := total_nonneg hX.tidy.tail
        rw [total_cons] at h
        omega
    · intro h
      rw [tidy_void hX.tidy (fun m => by rw [hL, h])]
      decide
  refine ⟨f, ?_⟩
  by_cases hd : dueV told done nx (una + buf.length) (total l) = true
  · refine .inl ⟨?_, by rw [if_pos hd, hd]⟩
    unfold dueV at hd
    simp at hd
    exact ⟨hd.1, hd.2.1, by simp only; omega, hz.mp hd.2.2.2⟩
  · refine .inr ⟨fun hq => hd ?_, by rw [if_neg hd, show dueV told done nx (una + buf.length) (total l) = false by simpa using hd]⟩
    obtain ⟨q1, q2, q3, q4⟩ := hq
    simp only at q1 q2 q3
    have := hz.mpr q4
    unfold dueV
    simp
    exact ⟨q1, q2, by omega, this⟩
end
end Go.Proofs.Ytnigfdldfmiaiaa
namespace Go.Proofs.Ytnigfdldfmiaiaa
set_option linter.unusedVariables false
set_option linter.unusedSimpArgs false
open Go.ChangeShapes Go.WideShapes Go.ChangeAt Go.RowKit Go.Maps
set_option linter.unusedVariables false
set_option linter.unusedSimpArgs false
section
variable {T : Sn} {L L' : Int → Bool} {K : Int}
theorem wrN_le (T : Sn) (bs : List Int) : wrN T bs ≤ 64 ∧ wrN T bs ≤ bs.length ∧ (T.buf.length ≤ 64 → T.buf.length + wrN T bs ≤ 64) := by
  unfold wrN
  split <;> omega
theorem wrote_len (T : Sn) (bs : List Int) : (T.wrote bs).buf.length = T.buf.length + wrN T bs := by
  have := wrN_le T bs
  simp only [Sn.wrote, List.length_append, List.length_take]
  omega
theorem Sn.Ok.wrote (h : T.Ok L K) (bs : List Int) : (T.wrote bs).Ok L (K + 100) := by
  have hl := wrote_len T bs
  have hw := wrN_le T bs
  obtain ⟨o1, o2, o3, o4, o5, o6, o7, o8⟩ := h
  refine ⟨o1, o2, o3, ?_, ?_, ?_, ?_, o8⟩
  · show T.nx ≤ T.una + (T.wrote bs).buf.length
    omega
  · omega
  · show T.una + ((T.wrote bs).buf.length : Int) ≤ K + 100
    omega
  · show T.ed ≤ K + 100 + 65536
    omega
theorem Sn.Ok.more (h : T.Ok L K) {K' : Int} (hK : K ≤ K') : T.Ok L K' := by
  obtain ⟨o1, o2, o3, o4, o5, o6, o7, o8⟩ := h
  exact ⟨o1, o2, o3, o4, o5, by omega, by omega, o8⟩
theorem Sn.Ok.took (h : T.Ok L K) {most dsn : Int} {n : Nat} {nx' : Int} (hp : TakeP T L most dsn n nx' L') : ({ T with nx := nx' } : Sn).Ok L' K ∧ n ≤ 8 ∧ (0 < n → T.una ≤ dsn ∧ dsn + n ≤ T.ed ∧ dsn + n ≤ nx') ∧ T.nx ≤ nx' ∧ (((T.buf.drop (dsn - T.una).toNat).take n).length = n) := by
  obtain ⟨o1, o2, o3, o4, o5, o6, o7, o8⟩ := h
  rcases hp with ⟨_, p2, p3, p4, p5, _, _, _, p9, p10⟩ | ⟨q1, q2, q3, q4, q5⟩
  · subst p9
    unfold tkM at p5
    refine ⟨⟨o1, o2, o3, o4, o5, o6, o7, fun m hm => o8 m ?_⟩, by omega, fun _ => ⟨by omega, by omega, by omega⟩, by omega, ?_⟩
    · rw [p10] at hm
      simp at hm
      exact hm.1
    · rw [List.length_take, List.length_drop]
      omega
  · unfold tkM at q3
    refine ⟨⟨o1, by simp only; omega, by simp only; omega, by simp only; omega, o5, o6, o7, fun m hm => by rw [q2] at hm; cases hm⟩, by omega, fun h0 => ?_, by omega, ?_⟩
    · rw [if_neg (by omega)] at q5
      omega
    · rw [List.length_take, List.length_drop]
      by_cases h0 : n = 0
      · omega
      · rw [if_neg h0] at q5
        omega
theorem Sn.Ok.lost_ (h : T.Ok L K) {dsn long : Int} (hp : ∀ m, L' m = (L m || lostB T.una T.nx dsn long m)) : T.Ok L' K := by
  obtain ⟨o1, o2, o3, o4, o5, o6, o7, o8⟩ := h
  refine ⟨o1, o2, o3, o4, o5, o6, o7, fun m hm => ?_⟩
  rw [hp] at hm
  rcases Bool.or_eq_true_iff.mp hm with h1 | h1
  · exact o8 m h1
  · unfold lostB at h1
    simp at h1
    omega
theorem mostV_le {told : Bool} {nx la : Int} : mostV told nx la ≤ nx + 1 ∧ (mostV told nx la = nx ∨ (nx = la ∧ told = true ∧ mostV told nx la = nx + 1)) := by
  unfold mostV
  split
  · rename_i h
    simp at h
    exact ⟨Int.le_refl _, .inr ⟨h.2, h.1, rfl⟩⟩
  · exact ⟨by omega, .inl rfl⟩
theorem Sn.Ok.ack_ (h : T.Ok L K) {ack win : Int} (ha : ackOk T ack win) (hp : ∀ m, L' m = (L m && decide ((T.acked ack win).una ≤ m))) : (T.acked ack win).Ok L' K := by
  obtain ⟨o1, o2, o3, o4, o5, o6, o7, o8⟩ := h
  obtain ⟨a1, a2, a3, a4⟩ := ha
  have hm := mostV_le (told := T.told) (nx := T.nx) (la := T.una + T.buf.length)
  have hl : (T.buf.drop (min ack (T.una + T.buf.length) - T.una).toNat).length = T.buf.length - (min ack (T.una + T.buf.length) - T.una).toNat := List.length_drop
  refine ⟨?_, ?_, ?_, ?_, ?_, ?_, ?_, fun m hm2 => ?_⟩
  · show 1 ≤ min ack (T.una + (T.buf.length : Int))
    omega
  · show min ack (T.una + (T.buf.length : Int)) ≤ T.nx
    omega
  · show T.nx ≤ max T.ed (ack + win)
    omega
  · show T.nx ≤ min ack (T.una + (T.buf.length : Int)) + ((T.buf.drop (min ack (T.una + T.buf.length) - T.una).toNat).length : Int)
    omega
  · show (T.buf.drop (min ack (T.una + T.buf.length) - T.una).toNat).length ≤ 64
    omega
  · show min ack (T.una + (T.buf.length : Int)) + ((T.buf.drop (min ack (T.una + T.buf.length) - T.una).toNat).length : Int) ≤ K
    omega
  · show max T.ed (ack + win) ≤ K + 65536
    omega
  · rw [hp] at hm2
    simp at hm2
    have := o8 m hm2.1
    exact ⟨hm2.2, this.2⟩
/-- .. in one: what Ack leaves. -/
theorem Sn.Ok.acked_ (h : T.Ok L K) {ack win : Int} (hp : (ackOk T ack win ∧ ∀ m, L' m = (L m && decide ((T.acked ack win).una ≤ m))) ∨ (¬ ackOk T ack win ∧ ∀ m, L' m = L m)) : (if ackOk T ack win then T.acked ack win else T).Ok L' K := by
  rcases hp with ⟨h1, h2⟩ | ⟨h1, h2⟩
  · rw [if_pos h1]
    exact h.ack_ h1 h2
  · rw [if_neg h1]
    have : L' = L := funext h2
    rw [this]
    exact h
end
def nearS (n : Int) : Int := min (max n (-1073741824)) 1073741824
theorem nearS_bd (n : Int) : -1073741824 ≤ nearS n ∧ nearS n ≤ 1073741824 := by unfold nearS; omega
theorem nearS_any (n : Int) (w : World) : Calls Try.prog 58 #[.int .i64 n] w fun r w' => r = .returned (.int .i64 (nearS n)) ∧ Fine w w' := by
  obtain ⟨a, ha⟩ : ∃ z, (if n < -1073741824 then -1073741824 else n) = z := ⟨_, rfl⟩
  obtain ⟨b, hb⟩ : ∃ z, (if 1073741824 < a then 1073741824 else a) = z := ⟨_, rfl⟩
  have e : nearS n = b := by unfold nearS; rw [← hb, ← ha]; simp only [Int.min_def, Int.max_def]; split <;> split <;> split <;> split <;> omega
  rw [e]
  clear e
  go_enter Try.func58, Try.ntmps58
  go_wp2_with fail
  go_ret
  exact ⟨rfl, Fine.refl w⟩
/-- An act: a kind, two numbers, bytes. -/
structure Ds where
  k : Int
  n : Int
  m : Int
  A : Option Addr
  len : Nat
  cap : Nat
  zs : List Int
def layDs : Lay Ds 4 := { cs := fun a => [.int .i64 a.k, .int .i64 a.n, .int .i64 a.m, .slice a.A a.len a.cap], len := fun _ => rfl, one := fun r u hu => by simp at hu; rcases hu with rfl | rfl | rfl | rfl <;> rfl, pos := by decide }
def DsOk (w : World) (a : Ds) : Prop := (-9223372036854775808 ≤ a.k ∧ a.k ≤ 9223372036854775807) ∧ (-9223372036854775808 ≤ a.n ∧ a.n ≤ 9223372036854775807) ∧ (-9223372036854775808 ≤ a.m ∧ a.m ≤ 9223372036854775807) ∧ a.zs.length = a.len ∧ RS layB w a.A a.cap a.zs ∧ ∀ x ∈ a.zs, 0 ≤ x ∧ x ≤ 255
section
variable {H : Type} {enc : TypeId × Value → H} {w : World} {m : Nat}
theorem ds_of {fs : Array Field} {cs : List Value} (hfs : Try.prog.underlying 76 = some (.struct fs)) (h : Fielded enc Try.prog w (fun _ => true) true m fs cs) (hl : cs.length = 4) :
    ∃ a : Ds, cs = layDs.cs a ∧ DsOk w a := by
  have e1 := hfs.symm.trans Try.underlying76
  injection e1 with e1
  injection e1 with e1
  subst e1
  have h0 := h.int 0 0 3 (by kernel_rfl) (by kernel_rfl) Try.underlying3
  have h1 := h.int 1 1 3 (by kernel_rfl) (by kernel_rfl) Try.underlying3
  have h2 := h.int 2 2 3 (by kernel_rfl) (by kernel_rfl) Try.underlying3
  obtain ⟨v, x, h3, hx⟩ := h.one 3 3 46 (by kernel_rfl) (by kernel_rfl) (by omega)
  obtain ⟨A, len, cap, rfl, ht⟩ := cell_slice Try.underlying46 hx
  obtain ⟨zs, hz⟩ := intsIn_of Try.underlying46 Try.underlying5 (by kernel_rfl) ht
  obtain ⟨hz1, hz2, hz3⟩ := ints_rs hz
  refine ⟨⟨cellInt cs[0]?, cellInt cs[1]?, cellInt cs[2]?, A, len, cap, zs⟩, ?_, bounds_i64 h0.2, bounds_i64 h1.2, bounds_i64 h2.2, hz1, hz2, hz3⟩
  apply List.ext_getElem?
  intro i
  rcases i with _ | _ | _ | _ | i
  · exact h0.1
  · exact h1.1
  · exact h2.1
  · exact h3
  · rw [List.getElem?_eq_none (by omega), List.getElem?_eq_none (by simp [layDs])]
theorem open_sacts {t : TypeId} (ht : Try.prog.underlying t = some (.slice 76)) {a : Option Addr} {len cap : Nat} {d : DataW H} {p : List MemPlace} (h : DataW.Trod enc Try.prog w 0 (fun _ => true) true t (.slice a len cap) d p) :
    ∃ z : List Ds, RS layDs w a cap z ∧ z.length = len ∧ ∀ x ∈ z, DsOk w x := by
  obtain ⟨h1, h2, h3, h4⟩ := slice_structs 4 ht Try.underlying76 (by kernel_rfl) (by omega) h
  rcases Nat.eq_zero_or_pos len with h0 | hpos
  · subst h0
    exact ⟨[], ⟨Nat.zero_le _, h2, fun e => (h3 e).2, fun h => absurd h (by simp)⟩, rfl, fun x hx => by cases hx⟩
  · obtain ⟨b, off, ha, hb, hel⟩ := h4 hpos
    have key : ∀ i, ∃ z : Ds, i < len → (∀ j, j < 4 → w.cell? ⟨b, off + (i * 4 + j), none⟩ = (layDs.cs z)[j]?) ∧ DsOk w z := by
      intro i
      by_cases hi : i < len
      · obtain ⟨cs, m, hl, hc, hF⟩ := hel i hi
        obtain ⟨z, rfl, hp⟩ := ds_of Try.underlying76 hF hl
        exact ⟨z, fun _ => ⟨hc, hp⟩⟩
      · exact ⟨⟨0, 0, 0, none, 0, 0, []⟩, fun h => absurd h hi⟩
    obtain ⟨f, hf⟩ := Classical.axiomOfChoice key
    refine ⟨(List.range len).map f, RS.ofCells _ h1 h2 h3 (fun _ => ⟨b, off, ha, hb, fun i hi j hj => (hf i hi).1 j hj⟩), by simp, fun x hx => ?_⟩
    obtain ⟨i, hi, rfl⟩ := List.mem_map.mp hx
    exact (hf i (List.mem_range.mp hi)).2
end
theorem open_sacts74 {H : Type} {enc : TypeId × Value → H} {w : World} {a : Option Addr} {len cap : Nat} {d : DataW H} {p : List MemPlace} (h : DataW.Trod enc Try.prog w 0 (fun _ => true) true 74 (.slice a len cap) d p) :
    ∃ z : List Ds, RS layDs w a cap z ∧ z.length = len ∧ ∀ x ∈ z, DsOk w x := open_sacts Try.underlying74 h
end Go.Proofs.Ytnigfdldfmiaiaa
