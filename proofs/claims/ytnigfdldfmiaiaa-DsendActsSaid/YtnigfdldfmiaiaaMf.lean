/- The document's sender: Lose. The document's sender: Ack, Due. The document's sender: Due; same. -/
import Derived.Test.YtnigfdldfmiaiaaMe
import Derived.BigQuiet
namespace Go.Proofs.Ytnigfdldfmiaiaa
set_option linter.unusedVariables false
set_option linter.unusedSimpArgs false
open Go.ChangeShapes Go.WideShapes Go.ChangeAt Go.RowKit Go.Maps
set_option linter.unusedVariables false
set_option linter.unusedSimpArgs false
theorem il_put4 {LL : Int → Bool} {na i : Nat} (h : i < na) (b : Bool) : (il LL na).set i b = il (fun m => if m = (i : Int) + 1 then b else LL m) na :=
  il_set LL _ na i b (by simp) (fun k hk hki => by rw [if_neg (by omega)])
theorem cntZ_succ (p : Int → Bool) (k : Int) (h : 0 ≤ k) : cntZ p (k + 1).toNat = cntZ p k.toNat + (if p k = true then 1 else 0) := by
  unfold cntZ
  rw [show (k + 1).toNat = k.toNat + 1 by omega, List.range_succ, List.countP_append, List.countP_singleton]
  rw [show ((k.toNat : Nat) : Int) = k by omega]
  split <;> simp
theorem cntZ_below {p : Int → Bool} {k : Int} (h : ∀ m, m < k → p m = false) : cntZ p k.toNat = 0 := by
  unfold cntZ
  rw [List.countP_eq_zero.mpr (fun n hn => by
    have := List.mem_range.mp hn
    rw [h (n : Int) (by omega)]
    decide)]
  rfl
theorem cntZ_bd (p : Int → Bool) (K : Nat) : 0 ≤ cntZ p K ∧ cntZ p K ≤ K := by
  unfold cntZ
  refine ⟨by omega, ?_⟩
  have := List.countP_le_length (p := fun n : Nat => p (n : Int)) (l := List.range K)
  rw [List.length_range] at this
  omega
theorem cntZ_or {p q L' : Int → Bool} (K : Nat) (hq : ∀ m, L' m = (p m || q m)) (hd : ∀ m, p m = true → q m = false) : cntZ L' K = cntZ p K + cntZ q K := by
  unfold cntZ
  have e : (fun n : Nat => L' (n : Int)) = fun n : Nat => p (n : Int) || q (n : Int) := funext fun n => hq n
  rw [e, countP_or (fun n : Nat => p (n : Int)) (fun n : Nat => q (n : Int)) (List.range K) (fun x _ hx => hd x hx)]
  omega
/-- What Lose has marked below k. -/
def losK (una nx dsn long : Int) (LL : Int → Bool) (k m : Int) : Bool := LL m || (lostB una nx dsn long m && decide (m < k))
def losN (una nx dsn long : Int) (L : Int → Bool) (m : Int) : Bool := lostB una nx dsn long m && !L m
section
variable {una nx dsn long k : Int} {LL L : Int → Bool}
theorem losK_same (h : LL k = true ∨ lostB una nx dsn long k = false) : losK una nx dsn long LL (k + 1) = losK una nx dsn long LL k := funext fun m => by
  unfold losK
  by_cases e : m = k
  · subst e
    rcases h with h | h
    · rw [h]; rfl
    · rw [h]; simp
  · congr 2
    rw [Bool.eq_iff_iff]
    simp
    omega
theorem losK_put (h : lostB una nx dsn long k = true) : (fun m => if m = k then true else losK una nx dsn long LL k m) = losK una nx dsn long LL (k + 1) := funext fun m => by
  unfold losK
  by_cases e : m = k
  · rw [if_pos e, e, h]
    simp
    right; omega
  · rw [if_neg e]
    congr 2
    rw [Bool.eq_iff_iff]
    simp
    omega
end
def RsLo (G : Nat → Prop) (x : Nat) (T : Sn) (L : Int → Bool) (dsn long : Int) (w : World) (r : Ending) (w' : World) : Prop :=
  ∃ L', r = .returned (.int .i64 (cntZ L' T.nx.toNat - cntZ L T.nx.toNat)) ∧ (∀ m, L' m = (L m || lostB T.una T.nx dsn long m)) ∧ RsI G w' x T L' ∧ Kept G w w'
set_option maxHeartbeats 8000000 in
set_option maxRecDepth 20000 in
theorem rslose_any {G : Nat → Prop} {x : Nat} {T : Sn} {L : Int → Bool} {K : Int} (dsn long : Int) (hd : -1099511627776 ≤ dsn ∧ dsn ≤ 1099511627776) (hl : -1099511627776 ≤ long ∧ long ≤ 1099511627776) (hK : K ≤ 2147483648) (hT : T.Ok L K) (w : World) (h : RsI G w x T L) :
    Calls Try.prog 66 #[.pointer (some ⟨x, 0, none⟩), .int .i64 dsn, .int .i64 long] w (RsLo G x T L dsn long w) := by
  obtain ⟨una, nx, ed, buf, told, done⟩ := T
  have HT := Lib.hid hT
  obtain ⟨o1, o2, o3, o4, o5, o6, o7, o8⟩ := hT
  dsimp only at o1 o2 o3 o4 o5 o6 o7 o8
  obtain ⟨Ab, cb, Ai, ci, all, LL, hX, hlen, hbuf, hLL, hL0⟩ := h
  dsimp only at hX hlen hbuf hLL
  obtain ⟨na, hna⟩ : ∃ z, all.length = z := ⟨_, rfl⟩
  rw [hna] at hX hlen hL0
  have hnn : nx ≤ (na : Int) + 1 := by omega
  have hnb : nx ≤ 2147483648 := by omega
  have HX := Lib.hid hX; have HLEN := Lib.hid hlen; have HBUF := Lib.hid hbuf; have HLL := Lib.hid hLL; have HL0 := Lib.hid hL0; have HNA := Lib.hid hna
  have c2 : w.cell? ⟨x, 2, none⟩ = some (.int .i64 una) := hX.box.cell 2
  clear hX hlen hbuf hLL hL0 hna o3 o4 o5 o6 o7 o8
  go_enter Try.func66, Try.ntmps66
  go_wp2_with fail
  clear c2
  go_loopw [7, 8] (fun s7 s8 wr => ∃ (k c : Int), (una ≤ k ∧ k ≤ nx) ∧ s8 = .int .i64 k ∧ s7 = .int .i64 c ∧ (0 ≤ c ∧ c ≤ k) ∧ Hid (c = cntZ (losN una nx dsn long LL) k.toNat ∧ RsX G wr x Ab cb Ai ci all (il (losK una nx dsn long LL k) na) una nx ed told done ∧ Kept G w wr)) (fun _ s8 _ => (nx - intOf s8).toNat)
  case atStart =>
    refine ⟨una, 0, by omega, rfl, rfl, by omega, Lib.hid ⟨?_, ?_, Kept.refl _ _⟩⟩
    · exact (cntZ_below (fun m hm => by unfold losN lostB; rw [decide_eq_false (show ¬ una ≤ m by omega)]; rfl)).symm
    · have e : losK una nx dsn long LL una = LL := funext fun m => by
        unfold losK lostB
        cases LL m with
        | true => rfl
        | false =>
          rw [Bool.false_or, Bool.eq_false_iff]
          simp
          omega
      rw [e]
      exact HX.out
  case round =>
    obtain ⟨k, c, hkb, rfl, rfl, hcb, HJ⟩ := hrel
    obtain ⟨j0, j1, j2⟩ := HJ.out
    have HC := Lib.hid j0; have J1 := Lib.hid j1; have J2 := Lib.hid j2
    have c3 : wr.cell? ⟨x, 3, none⟩ = some (.int .i64 nx) := j1.box.cell 3
    clear j0 j1 j2 HJ
    by_cases hlt : k < nx
    · obtain ⟨i, hi⟩ : ∃ i : Nat, (i : Int) + 1 = k := ⟨(k - 1).toNat, by omega⟩
      have HI := Lib.hid hi
      have hina : i < na := by omega
      obtain ⟨gi, hgi, _, _⟩ := J1.out.oi.head (by rw [il_len]; omega)
      subst hgi
      have c1 : wr.cell? ⟨x, 1, none⟩ = some (.slice (some ⟨gi, 0, none⟩) na ci) := by have := J1.out.box.cell 1; rw [il_len] at this; exact this
      obtain ⟨q, hq⟩ : ∃ q, LL k = q := ⟨_, rfl⟩
      have c9 : wr.cell? ⟨gi, i, none⟩ = some (.bool q) := by
        obtain ⟨_, _, hgi2, _, hc⟩ := J1.out.oi.rs.1.at_ (il_at (losK una nx dsn long LL k) hina)
        injection hgi2 with hgi2
        injection hgi2 with g1 g2
        subst g1 g2
        have := hc 0 _ rfl
        simp only [Nat.mul_one, Nat.add_zero, Nat.zero_add] at this
        rw [hi] at this
        have e : losK una nx dsn long LL k k = LL k := by unfold losK; simp
        rw [e, hq] at this
        exact this
      have HQ := Lib.hid hq
      have ei : IntKind.i64.wrap (k - 1) = (i : Int) := by rw [show k - 1 = (i : Int) by omega]; exact IntWalk.i64_in _ (by omega)
      have ek1 : IntKind.i64.wrap (k + 1) = k + 1 := IntWalk.i64_in _ (by omega)
      have ec1 : IntKind.i64.wrap (c + 1) = c + 1 := IntWalk.i64_in _ (by omega)
      obtain ⟨kd, hkd⟩ : ∃ z, k - dsn = z := ⟨_, rfl⟩
      have ekd : IntKind.i64.wrap (k - dsn) = kd := by rw [hkd]; exact IntWalk.i64_in _ (by omega)
      have HKD := Lib.hid hkd
      have hkdb : -2199023255552 ≤ kd ∧ kd ≤ 2199023255552 := by omega
      have key : ∀ Q : Prop, (k < dsn → Q) → (dsn ≤ k → dsn < 0 → kd < long → Q) → (dsn ≤ k → dsn < 0 → ¬ kd < long → Q) → (dsn ≤ k → ¬ dsn < 0 → kd < long → Q) → (dsn ≤ k → ¬ dsn < 0 → ¬ kd < long → Q) → Q := fun Q a b e f g => by
        by_cases h1 : k < dsn
        · exact a h1
        · by_cases h2 : dsn < 0
          · by_cases h3 : kd < long
            · exact b (by omega) h2 h3
            · exact e (by omega) h2 h3
          · by_cases h3 : kd < long
            · exact f (by omega) h2 h3
            · exact g (by omega) h2 h3
      have KEY := Lib.hid key
      clear hq hi hkd key
      refine KEY.out _ (fun h1 => ?_) (fun h1 h2 h3 => ?_) (fun h1 h2 h3 => ?_) (fun h1 h2 h3 => ?_) (fun h1 h2 h3 => ?_)
      · have g1 : ¬ k ≥ dsn := by omega
        have g1' : decide (dsn ≤ k) = false := decide_eq_false g1
        have HNO : Hid (LL k = true ∨ lostB una nx dsn long k = false) := Lib.hid (.inr (by unfold lostB; rw [g1']; simp))
        clear KEY
        have HLK : Hid (losK una nx dsn long LL (k + 1) = losK una nx dsn long LL k) := Lib.hid (losK_same HNO.out)
        have HCK : Hid (cntZ (losN una nx dsn long LL) (k + 1).toNat = c) := Lib.hid (by
          rw [cntZ_succ _ k (by omega), ← HC.out, if_neg, Int.add_zero]
          unfold losN
          rcases HNO.out with h | h
          · rw [h]; simp
          · rw [h]; simp)
        go_wp2_with fail
        exact ⟨⟨k + 1, c, by omega, by simp, by simp, by omega, Lib.hid ⟨HCK.out.symm, by rw [HLK.out]; exact J1.out, J2.out⟩⟩, by simp only [intOf]; omega⟩
      · have g1 : decide (dsn ≤ k) = true := decide_eq_true h1
        have g2 : decide (dsn < 0) = true := decide_eq_true h2
        have g3 : decide (kd < long) = true := decide_eq_true h3
        have g4 : ¬ dsn ≥ 0 := by omega
        have HYES : Hid (lostB una nx dsn long k = true) := Lib.hid (by unfold lostB; have := HKD.out; simp; omega)
        clear KEY
        cases q with
        | true =>
          have HNO : Hid (LL k = true ∨ lostB una nx dsn long k = false) := Lib.hid (.inl HQ.out)
          have HLK : Hid (losK una nx dsn long LL (k + 1) = losK una nx dsn long LL k) := Lib.hid (losK_same HNO.out)
          have HCK : Hid (cntZ (losN una nx dsn long LL) (k + 1).toNat = c) := Lib.hid (by
            rw [cntZ_succ _ k (by omega), ← HC.out, if_neg, Int.add_zero]
            unfold losN
            rcases HNO.out with h | h
            · rw [h]; simp
            · rw [h]; simp)
          go_wp2_with fail
          exact ⟨⟨k + 1, c, by omega, by simp, by simp, by omega, Lib.hid ⟨HCK.out.symm, by rw [HLK.out]; exact J1.out, J2.out⟩⟩, by simp only [intOf]; omega⟩
        | false =>
          have z13 := J1.out.oi.frozen i
          go_upto_region 6 with fail
          have XI := J1.out.putI (j := i) (il_at _ hina) true
          rw [il_put4 hina, HI.out, losK_put HYES.out] at XI
          have GGI : G gi := J1.out.gi gi rfl
          have HCK : Hid (cntZ (losN una nx dsn long LL) (k + 1).toNat = c + 1) := Lib.hid (by
            rw [cntZ_succ _ k (by omega), ← HC.out, if_pos]
            unfold losN
            rw [HYES.out, HQ.out]
            rfl)
          have KI := J2.out.setIn (p := ⟨gi, i, none⟩) GGI (.bool true)
          have RR := Lib.hid (And.intro XI KI)
          clear XI KI
          go_wp2_with fail
          exact ⟨⟨k + 1, c + 1, by omega, by simp, by simp, by omega, Lib.hid ⟨HCK.out.symm, RR.out.1, RR.out.2⟩⟩, by simp only [intOf]; omega⟩
      · have g1 : decide (dsn ≤ k) = true := decide_eq_true h1
        have g2 : decide (dsn < 0) = true := decide_eq_true h2
        have g3 : decide (kd < long) = false := decide_eq_false h3
        have g4 : ¬ dsn ≥ 0 := by omega
        have g5 : decide (0 ≤ dsn) = false := decide_eq_false g4
        have HNO : Hid (LL k = true ∨ lostB una nx dsn long k = false) := Lib.hid (.inr (by unfold lostB; have := HKD.out; rw [decide_eq_false (show ¬ k < dsn + long by omega)]; simp))
        clear KEY
        have HLK : Hid (losK una nx dsn long LL (k + 1) = losK una nx dsn long LL k) := Lib.hid (losK_same HNO.out)
        have HCK : Hid (cntZ (losN una nx dsn long LL) (k + 1).toNat = c) := Lib.hid (by
          rw [cntZ_succ _ k (by omega), ← HC.out, if_neg, Int.add_zero]
          unfold losN
          rcases HNO.out with h | h
          · rw [h]; simp
          · rw [h]; simp)
        go_wp2_with fail
        exact ⟨⟨k + 1, c, by omega, by simp, by simp, by omega, Lib.hid ⟨HCK.out.symm, by rw [HLK.out]; exact J1.out, J2.out⟩⟩, by simp only [intOf]; omega⟩
      · have g1 : decide (dsn ≤ k) = true := decide_eq_true h1
        have g2 : decide (dsn < 0) = false := decide_eq_false h2
        have g3 : decide (kd < long) = true := decide_eq_true h3
        have g4 : dsn ≥ 0 := by omega
        have g5 : decide (0 ≤ dsn) = true := decide_eq_true g4
        have HYES : Hid (lostB una nx dsn long k = true) := Lib.hid (by unfold lostB; have := HKD.out; simp; omega)
        clear KEY
        cases q with
        | true =>
          have HNO : Hid (LL k = true ∨ lostB una nx dsn long k = false) := Lib.hid (.inl HQ.out)
          have HLK : Hid (losK una nx dsn long LL (k + 1) = losK una nx dsn long LL k) := Lib.hid (losK_same HNO.out)
          have HCK : Hid (cntZ (losN una nx dsn long LL) (k + 1).toNat = c) := Lib.hid (by
            rw [cntZ_succ _ k (by omega), ← HC.out, if_neg, Int.add_zero]
            unfold losN
            rcases HNO.out with h | h
            · rw [h]; simp
            · rw [h]; simp)
          go_wp2_with fail
          exact ⟨⟨k + 1, c, by omega, by simp, by simp, by omega, Lib.hid ⟨HCK.out.symm, by rw [HLK.out]; exact J1.out, J2.out⟩⟩, by simp only [intOf]; omega⟩
        | false =>
          have z13 := J1.out.oi.frozen i
          go_upto_region 6 with fail
          have XI := J1.out.putI (j := i) (il_at _ hina) true
          rw [il_put4 hina, HI.out, losK_put HYES.out] at XI
          have GGI : G gi := J1.out.gi gi rfl
          have HCK : Hid (cntZ (losN una nx dsn long LL) (k + 1).toNat = c + 1) := Lib.hid (by
            rw [cntZ_succ _ k (by omega), ← HC.out, if_pos]
            unfold losN
            rw [HYES.out, HQ.out]
            rfl)
          have KI := J2.out.setIn (p := ⟨gi, i, none⟩) GGI (.bool true)
          have RR := Lib.hid (And.intro XI KI)
          clear XI KI
          go_wp2_with fail
          exact ⟨⟨k + 1, c + 1, by omega, by simp, by simp, by omega, Lib.hid ⟨HCK.out.symm, RR.out.1, RR.out.2⟩⟩, by simp only [intOf]; omega⟩
      · have g1 : decide (dsn ≤ k) = true := decide_eq_true h1
        have g2 : decide (dsn < 0) = false := decide_eq_false h2
        have g3 : decide (kd < long) = false := decide_eq_false h3
        have g4 : dsn ≥ 0 := by omega
        have g5 : decide (0 ≤ dsn) = true := decide_eq_true g4
        have HNO : Hid (LL k = true ∨ lostB una nx dsn long k = false) := Lib.hid (.inr (by unfold lostB; have := HKD.out; rw [decide_eq_false (show ¬ k < dsn + long by omega)]; simp))
        clear KEY
        have HLK : Hid (losK una nx dsn long LL (k + 1) = losK una nx dsn long LL k) := Lib.hid (losK_same HNO.out)
        have HCK : Hid (cntZ (losN una nx dsn long LL) (k + 1).toNat = c) := Lib.hid (by
          rw [cntZ_succ _ k (by omega), ← HC.out, if_neg, Int.add_zero]
          unfold losN
          rcases HNO.out with h | h
          · rw [h]; simp
          · rw [h]; simp)
        go_wp2_with fail
        exact ⟨⟨k + 1, c, by omega, by simp, by simp, by omega, Lib.hid ⟨HCK.out.symm, by rw [HLK.out]; exact J1.out, J2.out⟩⟩, by simp only [intOf]; omega⟩
    · have hke : k = nx := by omega
      have HKE := Lib.hid hke
      have HFIN : Hid (RsLo G x ⟨una, nx, ed, buf, told, done⟩ L dsn long w (.returned (.int .i64 c)) wr) := Lib.hid (by
        have hL' : ∀ m, (fun m => L m || lostB una nx dsn long m) m = (L m || losN una nx dsn long L m) := fun m => by
          show (L m || lostB una nx dsn long m) = (L m || losN una nx dsn long L m)
          unfold losN
          cases L m <;> cases lostB una nx dsn long m <;> rfl
        refine ⟨fun m => L m || lostB una nx dsn long m, ?_, fun m => rfl, ⟨Ab, cb, Ai, ci, all, losK una nx dsn long LL nx, ?_, ?_, HBUF.out, fun m hm => ?_, fun m hm => ?_⟩, J2.out⟩
        · rw [cntZ_or nx.toNat hL' (fun m hm => by unfold losN; rw [hm]; simp)]
          have e : cntZ (losN una nx dsn long LL) k.toNat = cntZ (losN una nx dsn long L) nx.toNat := by
            rw [hke]
            unfold cntZ
            congr 2
            funext n
            unfold losN
            by_cases hn : una ≤ (n : Int)
            · rw [HLL.out n hn]
            · unfold lostB
              rw [decide_eq_false hn]
              rfl
          rw [HC.out, e]
          have e9 : cntZ L nx.toNat + cntZ (losN una nx dsn long L) nx.toNat - cntZ L nx.toNat = cntZ (losN una nx dsn long L) nx.toNat := by omega
          exact congrArg (fun z => Ending.returned (.int .i64 z)) e9.symm
        · have := J1.out
          rw [hke] at this
          rw [HNA.out]
          exact this
        · have h1 := HLEN.out; have h2 := HNA.out
          dsimp only
          omega
        · unfold losK
          rw [HLL.out m hm]
          unfold lostB
          dsimp only
          by_cases hm2 : m < nx
          · rw [decide_eq_true hm2, Bool.and_true, Bool.and_true]
          · rw [decide_eq_false hm2, Bool.and_false, Bool.and_false, Bool.false_and, Bool.or_false]
        · unfold losK
          rw [HL0.out m (by rw [← HNA.out]; exact hm)]
          unfold lostB
          rw [decide_eq_false (show ¬ m < nx by have := HNA.out; omega)]
          simp)
      clear hke
      go_wp2_with fail
      go_ret
      exact HFIN.out
end Go.Proofs.Ytnigfdldfmiaiaa
namespace Go.Proofs.Ytnigfdldfmiaiaa
set_option linter.unusedVariables false
set_option linter.unusedSimpArgs false
open Go.ChangeShapes Go.WideShapes Go.ChangeAt Go.RowKit Go.Maps
set_option linter.unusedVariables false
set_option linter.unusedSimpArgs false
theorem size92 : (Try.prog.info? 92).map (·.size) = some 2 := by kernel_rfl
theorem rslast5 {G : Nat → Prop} {x : Nat} {T : Sn} {L : Int → Bool} {la : Int} (hla : T.una + T.buf.length = la) (hb : la ≤ 2147483648) (w : World) (h : RsI G w x T L) : Calls Try.prog 87 #[.pointer (some ⟨x, 0, none⟩)] w fun r w' => r = .returned (.int .i64 la) ∧ Fine w w' := by
  obtain ⟨Ab, cb, Ai, ci, all, LL, h1, h2, h3⟩ := h
  obtain ⟨n, hn⟩ : ∃ n, all.length = n := ⟨_, rfl⟩
  rw [hn] at h2
  have c0 : w.cell? ⟨x, 0, none⟩ = some (.slice Ab n cb) := by have := h1.box.cell 0; rw [hn] at this; exact this
  have e1 : IntKind.i64.wrap ((n : Int) + 1) = la := by
    rw [h2, hla]
    exact IntWalk.i64_in _ (by omega)
  clear h1 h2 h3 hn hla
  go_enter Try.func87, Try.ntmps87
  go_wp2_with fail
  go_ret
  exact ⟨rfl, Fine.refl w⟩
def RsAk (G : Nat → Prop) (x : Nat) (T : Sn) (L : Int → Bool) (ack win : Int) (w : World) (r : Ending) (w' : World) : Prop :=
  ∃ L', RsI G w' x (if ackOk T ack win then T.acked ack win else T) L' ∧ Kept G w w' ∧
    ((ackOk T ack win ∧ r = .returned (.agg #[.int .i64 ((T.acked ack win).una - T.una), .bool true]) ∧ ∀ m, L' m = (L m && decide ((T.acked ack win).una ≤ m)))
    ∨ (¬ ackOk T ack win ∧ r = .returned (.agg #[.int .i64 0, .bool false]) ∧ ∀ m, L' m = L m))
theorem rs_acked {G : Nat → Prop} {w : World} {x : Nat} {T : Sn} {L : Int → Bool} {K ack win : Int} {Ab : Option Addr} {cb : Nat} {Ai : Option Addr} {ci : Nat} {all : List Int} {LL : Int → Bool} (hT : T.Ok L K) (ha : ackOk T ack win) (h : RsX G w x Ab cb Ai ci all (il LL all.length) (T.acked ack win).una T.nx (T.acked ack win).ed T.told (T.acked ack win).done) (hlen : (all.length : Int) + 1 = T.una + T.buf.length) (hbuf : T.buf = all.drop (T.una - 1).toNat) (hLL : ∀ m, T.una ≤ m → LL m = L m) (hL0 : ∀ m, (all.length : Int) < m → LL m = false) :
    RsI G w x (T.acked ack win) (fun m => L m && decide ((T.acked ack win).una ≤ m)) := by
  have h1 : T.una ≤ (T.acked ack win).una ∧ (T.acked ack win).una ≤ T.una + T.buf.length := by
    have := ha.1
    show T.una ≤ min ack (T.una + T.buf.length) ∧ min ack (T.una + T.buf.length) ≤ T.una + (T.buf.length : Int)
    omega
  have h2 : (T.acked ack win).buf = T.buf.drop ((T.acked ack win).una - T.una).toNat := rfl
  refine ⟨Ab, cb, Ai, ci, all, LL, h, ?_, ?_, fun m hm => ?_, hL0⟩
  · rw [h2, List.length_drop]
    omega
  · rw [h2, hbuf, List.drop_drop]
    congr 1
    have := hT.u1
    omega
  · dsimp only
    rw [decide_eq_true hm, Bool.and_true]
    exact hLL m (by omega)
set_option maxHeartbeats 8000000 in
set_option maxRecDepth 20000 in
theorem rsack_any {G : Nat → Prop} {x : Nat} {T : Sn} {L : Int → Bool} {K : Int} (ack win : Int) (ha : -1099511627776 ≤ ack ∧ ack ≤ 1099511627776) (hw : -1099511627776 ≤ win ∧ win ≤ 1099511627776) (hK : K ≤ 1073741824) (hT : T.Ok L K) (w : World) (h : RsI G w x T L) :
    Calls Try.prog 67 #[.pointer (some ⟨x, 0, none⟩), .int .i64 ack, .int .i64 win] w (RsAk G x T L ack win w) := by
  obtain ⟨una, nx, ed, buf, told, done⟩ := T
  obtain ⟨x6, hx6⟩ : ∃ y, w.heap.size = y := ⟨_, rfl⟩
  have b6 := Blk.newAt (w := w) (t := 92) (cs := #[.int .i64 0, .bool false]) hx6.symm
  have f6 := (Fine.refl w).alloc (.cells #[.int .i64 0, .bool false] 92)
  have H := Lib.hid h; have HT := Lib.hid hT; have HX6 := Lib.hid hx6
  have hg6 : ¬ G x6 := fun hf => by have := h.lt _ hf; omega
  have HG6 := Lib.hid hg6
  obtain ⟨o1, o2, o3, o4, o5, o6, o7, o8⟩ := hT
  dsimp only at o1 o2 o3 o4 o5 o6 o7 o8
  obtain ⟨Ab, cb, Ai, ci, all, LL, hX, hlen, hbuf, hLL, hL0⟩ := h
  dsimp only at hX hlen hbuf hLL
  obtain ⟨la, hla⟩ : ∃ z, una + (buf.length : Int) = z := ⟨_, rfl⟩
  have HLAQ := Lib.hid hla
  have hlab : 1 ≤ la ∧ la ≤ 1073741824 := by omega
  have hnxb : 1 ≤ una ∧ una ≤ nx ∧ nx ≤ la ∧ ed ≤ 1073807360 ∧ nx ≤ ed := by omega
  have HX := Lib.hid hX; have HLEN := Lib.hid hlen; have HBUF := Lib.hid hbuf; have HLL := Lib.hid hLL; have HL0 := Lib.hid hL0
  obtain ⟨mo, hmo⟩ : ∃ z, mostV told nx la = z := ⟨_, rfl⟩
  have hmob := mostV_le (told := told) (nx := nx) (la := la)
  rw [hmo] at hmob
  have HMO := Lib.hid hmo
  have hmb2 : nx ≤ mo ∧ mo ≤ nx + 1 := by omega
  obtain ⟨mb, hmb⟩ : ∃ z, (told && nx == la) = z := ⟨_, rfl⟩
  have HMB := Lib.hid hmb
  have HMOB : Hid (mo = if mb = true then nx + 1 else nx) := Lib.hid (by rw [← hmo, ← hmb]; rfl)
  clear hX hlen hbuf hLL hL0 hla hmo hmb hmob o1 o2 o3 o4 o5 o6 o7 o8 hg6
  go_enter Try.func67, Try.ntmps67
  go_upto_region 1 with fail
  generalize w.alloc (.cells #[.int .i64 0, .bool false] 92) = w1 at b6 f6 ⊢
  have F1 := Lib.hid f6; have B1 := Lib.hid b6; have X1 := Lib.hid (HX.out.fine f6)
  clear f6 b6 hx6
  have c3 : w1.cell? ⟨x, 3, none⟩ = some (.int .i64 nx) := X1.out.box.cell 3
  go_upto_region 2 with fail
  clear c3
  have q3 : ∀ p : FineBy w1, p.W.cell? ⟨x, 3, none⟩ = some (.int .i64 nx) := fun p => (X1.out.box.fine p.h).cell 3
  have q5 : ∀ p : FineBy w1, p.W.cell? ⟨x, 5, none⟩ = some (.bool told) := fun p => (X1.out.box.fine p.h).cell 5
  have QL : Hid (∀ p : FineBy w1, Calls Try.prog 87 #[.pointer (some ⟨x, 0, none⟩)] p.W fun r w'' => r = .returned (.int .i64 la) ∧ Fine p.W w'') := Lib.hid (fun p => rslast5 (T := ⟨una, nx, ed, buf, told, done⟩) HLAQ.out (by omega) p.W (H.out.fine (F1.out.trans p.h)))
  go_cut [25] (fun s25 wx => s25 = .bool mb ∧ Hid (Fine w1 wx))
  case first =>
    cases told with
    | false =>
      refine wp_region_quiet_fine (by kernel_rfl) (by kernel_rfl) ?_
      repeat (go_big_quiet_step (exact Calls.fine_of (QL.out _)))
      refine wpQuiet_nil ?_
      intro wf hwf'
      have hwf := Lib.hid (FineBy.of hwf')
      clear hwf' q3 q5 QL
      go_wp2_with fail
      go_meet
      exact ⟨by rw [← HMB.out]; rfl, hwf⟩
    | true =>
      by_cases hq : nx = la
      · have g : (nx == la) = true := by simpa using hq
        have HM2 : Hid (mb = true) := Lib.hid (by rw [← HMB.out, g]; rfl)
        clear hq
        refine wp_region_quiet_fine (by kernel_rfl) (by kernel_rfl) ?_
        repeat (go_big_quiet_step (exact Calls.fine_of (QL.out _)))
        refine wpQuiet_nil ?_
        intro wf hwf'
        have hwf := Lib.hid (FineBy.of hwf')
        clear hwf' q3 q5 QL
        go_wp2_with fail
        go_meet
        exact ⟨by rw [HM2.out], hwf⟩
      · have g : (nx == la) = false := by simpa using hq
        have HM2 : Hid (mb = false) := Lib.hid (by rw [← HMB.out, g]; rfl)
        clear hq
        refine wp_region_quiet_fine (by kernel_rfl) (by kernel_rfl) ?_
        repeat (go_big_quiet_step (exact Calls.fine_of (QL.out _)))
        refine wpQuiet_nil ?_
        intro wf hwf'
        have hwf := Lib.hid (FineBy.of hwf')
        clear hwf' q3 q5 QL
        go_wp2_with fail
        go_meet
        exact ⟨by rw [HM2.out], hwf⟩
  case rest =>
  obtain ⟨rfl, HF⟩ := hcut
  obtain ⟨wf, hwf9⟩ : ∃ z, z = wc := ⟨_, rfl⟩
  subst hwf9
  clear q3 q5 QL
  go_upto_if 25 with fail
  go_cut [7] (fun s7 wx => s7 = .int .i64 mo ∧ wx = wf)
  case first =>
    have e1 : IntKind.i64.wrap (nx + 1) = nx + 1 := IntWalk.i64_in _ (by omega)
    cases mb with
    | true =>
      go_wp2_with fail
      go_meet
      exact ⟨by rw [HMOB.out]; rfl, rfl⟩
    | false =>
      go_wp2_with fail
      go_meet
      exact ⟨by rw [HMOB.out]; rfl, rfl⟩
  case rest =>
  obtain ⟨rfl, hwc⟩ := hcut
  have hwc := hwc.symm
  subst hwc
  have F2 := Lib.hid (F1.out.trans HF.out); have B2 := Lib.hid (B1.out.fine HF.out); have X2 := Lib.hid (X1.out.fine HF.out)
  have c2 : wf.cell? ⟨x, 2, none⟩ = some (.int .i64 una) := X2.out.box.cell 2
  have key : ∀ Q : Prop, (ack < una → ¬ ackOk ⟨una, nx, ed, buf, told, done⟩ ack win → Q) → (¬ ack < una → mo < ack → ¬ ackOk ⟨una, nx, ed, buf, told, done⟩ ack win → Q) → (¬ ack < una → ¬ mo < ack → win < 0 → ¬ ackOk ⟨una, nx, ed, buf, told, done⟩ ack win → Q) → (¬ ack < una → ¬ mo < ack → ¬ win < 0 → 65535 < win → ¬ ackOk ⟨una, nx, ed, buf, told, done⟩ ack win → Q) → (¬ ack < una → ¬ mo < ack → ¬ win < 0 → ¬ 65535 < win → ackOk ⟨una, nx, ed, buf, told, done⟩ ack win → Q) → Q := fun Q a b c d e => by
    have hm : mostV told nx (una + (buf.length : Int)) = mo := by rw [HLAQ.out]; exact HMO.out
    have no : ∀ P : Prop, (ackOk ⟨una, nx, ed, buf, told, done⟩ ack win → P) → ((una ≤ ack ∧ ack ≤ mo ∧ 0 ≤ win ∧ win ≤ 65535) → P) := fun P f h => f ⟨h.1, by show ack ≤ mostV told nx (una + (buf.length : Int)); rw [hm]; exact h.2.1, h.2.2.1, h.2.2.2⟩
    have yes : ackOk ⟨una, nx, ed, buf, told, done⟩ ack win → una ≤ ack ∧ ack ≤ mo ∧ 0 ≤ win ∧ win ≤ 65535 := fun h => ⟨h.1, by have := h.2.1; dsimp only at this; rw [hm] at this; exact this, h.2.2.1, h.2.2.2⟩
    by_cases h1 : ack < una
    · exact a h1 (fun h => by have := yes h; omega)
    · by_cases h2 : mo < ack
      · exact b h1 h2 (fun h => by have := yes h; omega)
      · by_cases h3 : win < 0
        · exact c h1 h2 h3 (fun h => by have := yes h; omega)
        · by_cases h4 : 65535 < win
          · exact d h1 h2 h3 h4 (fun h => by have := yes h; omega)
          · exact e h1 h2 h3 h4 (no _ id ⟨by omega, by omega, by omega, by omega⟩)
  have KEY := Lib.hid key
  clear key
  refine KEY.out _ (fun h1 hn => ?_) (fun h1 h2 hn => ?_) (fun h1 h2 h3 hn => ?_) (fun h1 h2 h3 h4 hn => ?_) (fun h1 h2 h3 h4 hok => ?_)
  · have g1 : decide (ack < una) = true := decide_eq_true h1
    have HNOK := Lib.hid hn
    clear KEY hn
    have c60 : wf.cell? ⟨x6, 0, none⟩ = some (.int .i64 0) := B2.out.cell 0
    have c61 : wf.cell? ⟨x6, 1, none⟩ = some (.bool false) := B2.out.cell 1
    have z60 := B2.out.frozen 0
    have z61 := B2.out.frozen 1
    have R6 : Blk ((wf.setCell ⟨x6, 0, none⟩ (.int .i64 0)).setCell ⟨x6, 1, none⟩ (.bool false)) x6 92 #[.int .i64 0, .bool false] := (B2.out.set_ 0 (.int .i64 0)).set_ 1 (.bool false)
    have kk : Kept (· = x6) wf ((wf.setCell ⟨x6, 0, none⟩ (.int .i64 0)).setCell ⟨x6, 1, none⟩ (.bool false)) := ((Kept.refl (· = x6) wf).setIn (p := ⟨x6, 0, none⟩) rfl _).setIn (p := ⟨x6, 1, none⟩) rfl _
    have R6H := Lib.hid R6; have KK := Lib.hid kk
    clear R6 kk
    go_wp2_with fail
    refine bodyPost_ret (results_cell_row rfl _ _ x6 92 _ (0, 0) _ rfl R6H.out Try.underlying92 rfl size92) rfl ?_
    refine ⟨L, ?_, (Kept.of_fine (F2.out.kept KK.out (fun y hy e => by have := HX6.out; have e : y = x6 := e; omega))), .inr ⟨HNOK.out, rfl, fun m => rfl⟩⟩
    rw [if_neg HNOK.out]
    exact (H.out.fine F2.out).kept KK.out (fun y hy e => HG6.out (e ▸ hy))
  · have g1 : decide (ack < una) = false := decide_eq_false h1
    have g2 : decide (mo < ack) = true := decide_eq_true h2
    have HNOK := Lib.hid hn
    clear KEY hn
    have c60 : wf.cell? ⟨x6, 0, none⟩ = some (.int .i64 0) := B2.out.cell 0
    have c61 : wf.cell? ⟨x6, 1, none⟩ = some (.bool false) := B2.out.cell 1
    have z60 := B2.out.frozen 0
    have z61 := B2.out.frozen 1
    have R6 : Blk ((wf.setCell ⟨x6, 0, none⟩ (.int .i64 0)).setCell ⟨x6, 1, none⟩ (.bool false)) x6 92 #[.int .i64 0, .bool false] := (B2.out.set_ 0 (.int .i64 0)).set_ 1 (.bool false)
    have kk : Kept (· = x6) wf ((wf.setCell ⟨x6, 0, none⟩ (.int .i64 0)).setCell ⟨x6, 1, none⟩ (.bool false)) := ((Kept.refl (· = x6) wf).setIn (p := ⟨x6, 0, none⟩) rfl _).setIn (p := ⟨x6, 1, none⟩) rfl _
    have R6H := Lib.hid R6; have KK := Lib.hid kk
    clear R6 kk
    go_wp2_with fail
    refine bodyPost_ret (results_cell_row rfl _ _ x6 92 _ (0, 0) _ rfl R6H.out Try.underlying92 rfl size92) rfl ?_
    refine ⟨L, ?_, (Kept.of_fine (F2.out.kept KK.out (fun y hy e => by have := HX6.out; have e : y = x6 := e; omega))), .inr ⟨HNOK.out, rfl, fun m => rfl⟩⟩
    rw [if_neg HNOK.out]
    exact (H.out.fine F2.out).kept KK.out (fun y hy e => HG6.out (e ▸ hy))
  · have g1 : decide (ack < una) = false := decide_eq_false h1
    have g2 : decide (mo < ack) = false := decide_eq_false h2
    have g3 : decide (win < 0) = true := decide_eq_true h3
    have HNOK := Lib.hid hn
    clear KEY hn
    have c60 : wf.cell? ⟨x6, 0, none⟩ = some (.int .i64 0) := B2.out.cell 0
    have c61 : wf.cell? ⟨x6, 1, none⟩ = some (.bool false) := B2.out.cell 1
    have z60 := B2.out.frozen 0
    have z61 := B2.out.frozen 1
    have R6 : Blk ((wf.setCell ⟨x6, 0, none⟩ (.int .i64 0)).setCell ⟨x6, 1, none⟩ (.bool false)) x6 92 #[.int .i64 0, .bool false] := (B2.out.set_ 0 (.int .i64 0)).set_ 1 (.bool false)
    have kk : Kept (· = x6) wf ((wf.setCell ⟨x6, 0, none⟩ (.int .i64 0)).setCell ⟨x6, 1, none⟩ (.bool false)) := ((Kept.refl (· = x6) wf).setIn (p := ⟨x6, 0, none⟩) rfl _).setIn (p := ⟨x6, 1, none⟩) rfl _
    have R6H := Lib.hid R6; have KK := Lib.hid kk
    clear R6 kk
    go_wp2_with fail
    refine bodyPost_ret (results_cell_row rfl _ _ x6 92 _ (0, 0) _ rfl R6H.out Try.underlying92 rfl size92) rfl ?_
    refine ⟨L, ?_, (Kept.of_fine (F2.out.kept KK.out (fun y hy e => by have := HX6.out; have e : y = x6 := e; omega))), .inr ⟨HNOK.out, rfl, fun m => rfl⟩⟩
    rw [if_neg HNOK.out]
    exact (H.out.fine F2.out).kept KK.out (fun y hy e => HG6.out (e ▸ hy))
  · have g1 : decide (ack < una) = false := decide_eq_false h1
    have g2 : decide (mo < ack) = false := decide_eq_false h2
    have g3 : decide (win < 0) = false := decide_eq_false h3
    have g4 : decide (65535 < win) = true := decide_eq_true h4
    have HNOK := Lib.hid hn
    clear KEY hn
    have c60 : wf.cell? ⟨x6, 0, none⟩ = some (.int .i64 0) := B2.out.cell 0
    have c61 : wf.cell? ⟨x6, 1, none⟩ = some (.bool false) := B2.out.cell 1
    have z60 := B2.out.frozen 0
    have z61 := B2.out.frozen 1
    have R6 : Blk ((wf.setCell ⟨x6, 0, none⟩ (.int .i64 0)).setCell ⟨x6, 1, none⟩ (.bool false)) x6 92 #[.int .i64 0, .bool false] := (B2.out.set_ 0 (.int .i64 0)).set_ 1 (.bool false)
    have kk : Kept (· = x6) wf ((wf.setCell ⟨x6, 0, none⟩ (.int .i64 0)).setCell ⟨x6, 1, none⟩ (.bool false)) := ((Kept.refl (· = x6) wf).setIn (p := ⟨x6, 0, none⟩) rfl _).setIn (p := ⟨x6, 1, none⟩) rfl _
    have R6H := Lib.hid R6; have KK := Lib.hid kk
    clear R6 kk
    go_wp2_with fail
    refine bodyPost_ret (results_cell_row rfl _ _ x6 92 _ (0, 0) _ rfl R6H.out Try.underlying92 rfl size92) rfl ?_
    refine ⟨L, ?_, (Kept.of_fine (F2.out.kept KK.out (fun y hy e => by have := HX6.out; have e : y = x6 := e; omega))), .inr ⟨HNOK.out, rfl, fun m => rfl⟩⟩
    rw [if_neg HNOK.out]
    exact (H.out.fine F2.out).kept KK.out (fun y hy e => HG6.out (e ▸ hy))
  · have g1 : decide (ack < una) = false := decide_eq_false h1
    have g2 : decide (mo < ack) = false := decide_eq_false h2
    have g3 : decide (win < 0) = false := decide_eq_false h3
    have g4 : decide (65535 < win) = false := decide_eq_false h4
    have HOK := Lib.hid hok
    clear KEY hok
    obtain ⟨aw, haw⟩ : ∃ z, ack + win = z := ⟨_, rfl⟩
    have eaw : IntKind.i64.wrap (ack + win) = aw := by rw [haw]; exact IntWalk.i64_in _ (by omega)
    have HAW := Lib.hid haw
    have c4 : wf.cell? ⟨x, 4, none⟩ = some (.int .i64 ed) := X2.out.box.cell 4
    have z4 := X2.out.box.frozen 4
    clear haw
    by_cases hed : ed < aw
    · have g5 : aw > ed := hed
      have g6 : decide (ed < aw) = true := decide_eq_true hed
      have kx : Kept (· = x) wf (wf.setCell ⟨x, 4, none⟩ (.int .i64 aw)) := (Kept.refl (· = x) wf).setIn (p := ⟨x, 4, none⟩) rfl _
      have M3 := Lib.hid (X2.out.setJ 4 (.int .i64 aw) (una' := una) (nx' := nx) (ed' := aw) (told' := told) (done' := done) rfl)
      have N3 := Lib.hid (B2.out.kept kx (fun e => HG6.out (by have e : x6 = x := e; rw [e]; exact X2.out.gx)))
      have P3 : Hid (Kept G w (wf.setCell ⟨x, 4, none⟩ (.int .i64 aw))) := Lib.hid ((Kept.of_fine F2.out).setIn (p := ⟨x, 4, none⟩) X2.out.gx _)
      clear kx
      go_upto_region 8 with fail
      generalize wf.setCell ⟨x, 4, none⟩ (.int .i64 aw) = w3 at M3 N3 P3 ⊢
      obtain ⟨ed2, hed2⟩ : ∃ z, z = aw := ⟨_, rfl⟩
      have HED2 : Hid (ed2 = max ed (ack + win)) := Lib.hid (by rw [HAW.out]; omega)
      rw [← hed2] at M3
      have X3 := M3; have B3 := N3; have K3 := P3
      clear c2 c4 z4 hed2 M3 N3 P3 g5 g6
      have HLA4 := Lib.hid (rslast5 (T := ⟨una, nx, ed2, buf, told, done⟩) (L := L) HLAQ.out (by omega) w3 ⟨Ab, cb, Ai, ci, all, LL, X3.out, HLEN.out, HBUF.out, HLL.out, HL0.out⟩)
      go_wp2_with fail
      refine HLA4.out.mono ?_
      rintro r w4 ⟨rfl, f4⟩
      have X4' := Lib.hid (X3.out.fine f4); have B4' := Lib.hid (B3.out.fine f4); have K4' := Lib.hid (K3.out.trans (Kept.of_fine f4))
      clear f4 HLA4 X3 B3 K3
      by_cases hla : la < ack
      · have g8 : ack > la := hla
        have g9 : decide (la < ack) = true := decide_eq_true hla
        have c6 : w4.cell? ⟨x, 6, none⟩ = some (.bool done) := X4'.out.box.cell 6
        have z6 := X4'.out.box.frozen 6
        have kx : Kept (· = x) w4 (w4.setCell ⟨x, 6, none⟩ (.bool true)) := (Kept.refl (· = x) w4).setIn (p := ⟨x, 6, none⟩) rfl _
        have X5 := Lib.hid (X4'.out.setJ 6 (.bool true) (una' := una) (nx' := nx) (ed' := ed2) (told' := told) (done' := true) rfl)
        have B5 := Lib.hid (B4'.out.kept kx (fun e => HG6.out (by have e : x6 = x := e; rw [e]; exact X4'.out.gx)))
        have K5 := Lib.hid (K4'.out.setIn (p := ⟨x, 6, none⟩) X4'.out.gx (.bool true))
        clear kx
        go_upto_region 10 with fail
        generalize w4.setCell ⟨x, 6, none⟩ (.bool true) = w5 at X5 B5 K5 ⊢
        clear c6 z6 X4' B4' K4' g8 g9
        have HLA5 := Lib.hid (rslast5 (T := ⟨una, nx, ed2, buf, told, true⟩) (L := L) HLAQ.out (by omega) w5 ⟨Ab, cb, Ai, ci, all, LL, X5.out, HLEN.out, HBUF.out, HLL.out, HL0.out⟩)
        go_wp2_with fail
        refine HLA5.out.mono ?_
        rintro r w6 ⟨rfl, f6⟩
        have X6 := Lib.hid (X5.out.fine f6); have B6 := Lib.hid (B5.out.fine f6); have K6 := Lib.hid (K5.out.trans (Kept.of_fine f6))
        clear f6 X5 B5 K5 HLA5
        obtain ⟨w4, hw4⟩ : ∃ z, z = w6 := ⟨_, rfl⟩
        subst hw4
        have X4 := X6; have B4 := B6; have K4 := K6
        obtain ⟨a2, ha2⟩ : ∃ z, z = la := ⟨_, rfl⟩
        obtain ⟨dn2, hdn2⟩ : ∃ z, z = true := ⟨_, rfl⟩
        have HTT : Hid ((Sn.acked ⟨una, nx, ed, buf, told, done⟩ ack win).una = a2 ∧ (Sn.acked ⟨una, nx, ed, buf, told, done⟩ ack win).ed = ed2 ∧ (Sn.acked ⟨una, nx, ed, buf, told, done⟩ ack win).done = dn2) := Lib.hid (by
          have h1 : una + (buf.length : Int) = la := HLAQ.out
          have h2 := HED2.out
          refine ⟨?_, ?_, ?_⟩
          · show min ack (una + (buf.length : Int)) = a2
            omega
          · show max ed (ack + win) = ed2
            omega
          · show (done || decide (una + (buf.length : Int) < ack)) = dn2
            rw [decide_eq_true (by omega), hdn2, Bool.or_true])
        rw [← hdn2] at X4
        rw [← ha2]
        have ha2b : 0 ≤ a2 ∧ a2 ≤ 2147483648 := by omega
        clear ha2 hdn2 X6 B6 K6
        have c2 : w4.cell? ⟨x, 2, none⟩ = some (.int .i64 una) := X4.out.box.cell 2
        have z2 := X4.out.box.frozen 2
        have en : IntKind.i64.wrap (a2 - una) = a2 - una := IntWalk.i64_in _ (by omega)
        have kx : Kept (· = x) w4 (w4.setCell ⟨x, 2, none⟩ (.int .i64 a2)) := (Kept.refl (· = x) w4).setIn (p := ⟨x, 2, none⟩) rfl _
        have XF := X4.out.setJ 2 (.int .i64 a2) (una' := a2) (nx' := nx) (ed' := ed2) (told' := told) (done' := dn2) rfl
        have B5 := Lib.hid (B4.out.kept kx (fun e => HG6.out (by have e : x6 = x := e; rw [e]; exact X4.out.gx)))
        have K5 := Lib.hid (K4.out.setIn (p := ⟨x, 2, none⟩) X4.out.gx (.int .i64 a2))
        have XFH := Lib.hid XF
        clear XF kx
        go_upto_region 13 with fail
        generalize w4.setCell ⟨x, 2, none⟩ (.int .i64 a2) = w5 at XFH B5 K5 ⊢
        clear c2 z2
        have c60 : w5.cell? ⟨x6, 0, none⟩ = some (.int .i64 0) := B5.out.cell 0
        have c61 : w5.cell? ⟨x6, 1, none⟩ = some (.bool false) := B5.out.cell 1
        have z60 := B5.out.frozen 0
        have z61 := B5.out.frozen 1
        have R6 : Blk ((w5.setCell ⟨x6, 0, none⟩ (.int .i64 (a2 - una))).setCell ⟨x6, 1, none⟩ (.bool true)) x6 92 #[.int .i64 (a2 - una), .bool true] := (B5.out.set_ 0 (.int .i64 (a2 - una))).set_ 1 (.bool true)
        have kk : Kept (· = x6) w5 ((w5.setCell ⟨x6, 0, none⟩ (.int .i64 (a2 - una))).setCell ⟨x6, 1, none⟩ (.bool true)) := ((Kept.refl (· = x6) w5).setIn (p := ⟨x6, 0, none⟩) rfl _).setIn (p := ⟨x6, 1, none⟩) rfl _
        have R6H := Lib.hid R6; have KK := Lib.hid kk
        clear R6 kk
        go_wp2_with fail
        refine bodyPost_ret (results_cell_row rfl _ _ x6 92 _ (0, 0) _ rfl R6H.out Try.underlying92 rfl size92) rfl ?_
        have hTT : (Sn.acked ⟨una, nx, ed, buf, told, done⟩ ack win).una = a2 ∧ (Sn.acked ⟨una, nx, ed, buf, told, done⟩ ack win).ed = ed2 ∧ (Sn.acked ⟨una, nx, ed, buf, told, done⟩ ack win).done = dn2 := HTT.out
        refine ⟨_, ?_, K5.out.transG KK.out (fun _ _ h => h) (fun y hy e => by have := HX6.out; have e : y = x6 := e; omega), .inl ⟨HOK.out, by rw [hTT.1], fun m => rfl⟩⟩
        rw [if_pos HOK.out]
        refine rs_acked (Ab := Ab) (cb := cb) (Ai := Ai) (ci := ci) HT.out HOK.out ?_ HLEN.out HBUF.out HLL.out HL0.out
        rw [hTT.1, hTT.2.1, hTT.2.2]
        exact XFH.out.kept KK.out (fun y hy e => HG6.out (e ▸ hy))
      · have g8 : ¬ ack > la := hla
        have g9 : decide (la < ack) = false := decide_eq_false hla
        obtain ⟨a2, ha2⟩ : ∃ z, z = ack := ⟨_, rfl⟩
        obtain ⟨dn2, hdn2⟩ : ∃ z, z = done := ⟨_, rfl⟩
        have X4 := X4'; have B4 := B4'; have K4 := K4'
        have HTT : Hid ((Sn.acked ⟨una, nx, ed, buf, told, done⟩ ack win).una = a2 ∧ (Sn.acked ⟨una, nx, ed, buf, told, done⟩ ack win).ed = ed2 ∧ (Sn.acked ⟨una, nx, ed, buf, told, done⟩ ack win).done = dn2) := Lib.hid (by
          have h1 : una + (buf.length : Int) = la := HLAQ.out
          have h2 := HED2.out
          refine ⟨?_, ?_, ?_⟩
          · show min ack (una + (buf.length : Int)) = a2
            omega
          · show max ed (ack + win) = ed2
            omega
          · show (done || decide (una + (buf.length : Int) < ack)) = dn2
            rw [decide_eq_false (by omega), hdn2, Bool.or_false])
        rw [← hdn2] at X4
        have ha2b : 0 ≤ a2 ∧ a2 ≤ 2147483648 := by omega
        go_upto_region 11 with fail
        rw [← ha2]
        clear ha2 hdn2 X4' B4' K4' g8 g9
        have c2 : w4.cell? ⟨x, 2, none⟩ = some (.int .i64 una) := X4.out.box.cell 2
        have z2 := X4.out.box.frozen 2
        have en : IntKind.i64.wrap (a2 - una) = a2 - una := IntWalk.i64_in _ (by omega)
        have kx : Kept (· = x) w4 (w4.setCell ⟨x, 2, none⟩ (.int .i64 a2)) := (Kept.refl (· = x) w4).setIn (p := ⟨x, 2, none⟩) rfl _
        have XF := X4.out.setJ 2 (.int .i64 a2) (una' := a2) (nx' := nx) (ed' := ed2) (told' := told) (done' := dn2) rfl
        have B5 := Lib.hid (B4.out.kept kx (fun e => HG6.out (by have e : x6 = x := e; rw [e]; exact X4.out.gx)))
        have K5 := Lib.hid (K4.out.setIn (p := ⟨x, 2, none⟩) X4.out.gx (.int .i64 a2))
        have XFH := Lib.hid XF
        clear XF kx
        go_upto_region 13 with fail
        generalize w4.setCell ⟨x, 2, none⟩ (.int .i64 a2) = w5 at XFH B5 K5 ⊢
        clear c2 z2
        have c60 : w5.cell? ⟨x6, 0, none⟩ = some (.int .i64 0) := B5.out.cell 0
        have c61 : w5.cell? ⟨x6, 1, none⟩ = some (.bool false) := B5.out.cell 1
        have z60 := B5.out.frozen 0
        have z61 := B5.out.frozen 1
        have R6 : Blk ((w5.setCell ⟨x6, 0, none⟩ (.int .i64 (a2 - una))).setCell ⟨x6, 1, none⟩ (.bool true)) x6 92 #[.int .i64 (a2 - una), .bool true] := (B5.out.set_ 0 (.int .i64 (a2 - una))).set_ 1 (.bool true)
        have kk : Kept (· = x6) w5 ((w5.setCell ⟨x6, 0, none⟩ (.int .i64 (a2 - una))).setCell ⟨x6, 1, none⟩ (.bool true)) := ((Kept.refl (· = x6) w5).setIn (p := ⟨x6, 0, none⟩) rfl _).setIn (p := ⟨x6, 1, none⟩) rfl _
        have R6H := Lib.hid R6; have KK := Lib.hid kk
        clear R6 kk
        go_wp2_with fail
        refine bodyPost_ret (results_cell_row rfl _ _ x6 92 _ (0, 0) _ rfl R6H.out Try.underlying92 rfl size92) rfl ?_
        have hTT : (Sn.acked ⟨una, nx, ed, buf, told, done⟩ ack win).una = a2 ∧ (Sn.acked ⟨una, nx, ed, buf, told, done⟩ ack win).ed = ed2 ∧ (Sn.acked ⟨una, nx, ed, buf, told, done⟩ ack win).done = dn2 := HTT.out
        refine ⟨_, ?_, K5.out.transG KK.out (fun _ _ h => h) (fun y hy e => by have := HX6.out; have e : y = x6 := e; omega), .inl ⟨HOK.out, by rw [hTT.1], fun m => rfl⟩⟩
        rw [if_pos HOK.out]
        refine rs_acked (Ab := Ab) (cb := cb) (Ai := Ai) (ci := ci) HT.out HOK.out ?_ HLEN.out HBUF.out HLL.out HL0.out
        rw [hTT.1, hTT.2.1, hTT.2.2]
        exact XFH.out.kept KK.out (fun y hy e => HG6.out (e ▸ hy))
    · have g5 : ¬ aw > ed := hed
      have g6 : decide (ed < aw) = false := decide_eq_false hed
      go_upto_region 8 with fail
      obtain ⟨w3, hw3⟩ : ∃ z, z = wf := ⟨_, rfl⟩
      obtain ⟨ed2, hed2⟩ : ∃ z, z = ed := ⟨_, rfl⟩
      have HED2 : Hid (ed2 = max ed (ack + win)) := Lib.hid (by rw [HAW.out]; omega)
      have X3 := X2; have B3 := B2
      have K3 : Hid (Kept G w wf) := Lib.hid (Kept.of_fine F2.out)
      rw [← hed2] at X3
      clear c2 c4 z4 hed2 g5 g6
      subst hw3
      have HLA4 := Lib.hid (rslast5 (T := ⟨una, nx, ed2, buf, told, done⟩) (L := L) HLAQ.out (by omega) w3 ⟨Ab, cb, Ai, ci, all, LL, X3.out, HLEN.out, HBUF.out, HLL.out, HL0.out⟩)
      go_wp2_with fail
      refine HLA4.out.mono ?_
      rintro r w4 ⟨rfl, f4⟩
      have X4' := Lib.hid (X3.out.fine f4); have B4' := Lib.hid (B3.out.fine f4); have K4' := Lib.hid (K3.out.trans (Kept.of_fine f4))
      clear f4 HLA4 X3 B3 K3
      by_cases hla : la < ack
      · have g8 : ack > la := hla
        have g9 : decide (la < ack) = true := decide_eq_true hla
        have c6 : w4.cell? ⟨x, 6, none⟩ = some (.bool done) := X4'.out.box.cell 6
        have z6 := X4'.out.box.frozen 6
        have kx : Kept (· = x) w4 (w4.setCell ⟨x, 6, none⟩ (.bool true)) := (Kept.refl (· = x) w4).setIn (p := ⟨x, 6, none⟩) rfl _
        have X5 := Lib.hid (X4'.out.setJ 6 (.bool true) (una' := una) (nx' := nx) (ed' := ed2) (told' := told) (done' := true) rfl)
        have B5 := Lib.hid (B4'.out.kept kx (fun e => HG6.out (by have e : x6 = x := e; rw [e]; exact X4'.out.gx)))
        have K5 := Lib.hid (K4'.out.setIn (p := ⟨x, 6, none⟩) X4'.out.gx (.bool true))
        clear kx
        go_upto_region 10 with fail
        generalize w4.setCell ⟨x, 6, none⟩ (.bool true) = w5 at X5 B5 K5 ⊢
        clear c6 z6 X4' B4' K4' g8 g9
        have HLA5 := Lib.hid (rslast5 (T := ⟨una, nx, ed2, buf, told, true⟩) (L := L) HLAQ.out (by omega) w5 ⟨Ab, cb, Ai, ci, all, LL, X5.out, HLEN.out, HBUF.out, HLL.out, HL0.out⟩)
        go_wp2_with fail
        refine HLA5.out.mono ?_
        rintro r w6 ⟨rfl, f6⟩
        have X6 := Lib.hid (X5.out.fine f6); have B6 := Lib.hid (B5.out.fine f6); have K6 := Lib.hid (K5.out.trans (Kept.of_fine f6))
        clear f6 X5 B5 K5 HLA5
        obtain ⟨w4, hw4⟩ : ∃ z, z = w6 := ⟨_, rfl⟩
        subst hw4
        have X4 := X6; have B4 := B6; have K4 := K6
        obtain ⟨a2, ha2⟩ : ∃ z, z = la := ⟨_, rfl⟩
        obtain ⟨dn2, hdn2⟩ : ∃ z, z = true := ⟨_, rfl⟩
        have HTT : Hid ((Sn.acked ⟨una, nx, ed, buf, told, done⟩ ack win).una = a2 ∧ (Sn.acked ⟨una, nx, ed, buf, told, done⟩ ack win).ed = ed2 ∧ (Sn.acked ⟨una, nx, ed, buf, told, done⟩ ack win).done = dn2) := Lib.hid (by
          have h1 : una + (buf.length : Int) = la := HLAQ.out
          have h2 := HED2.out
          refine ⟨?_, ?_, ?_⟩
          · show min ack (una + (buf.length : Int)) = a2
            omega
          · show max ed (ack + win) = ed2
            omega
          · show (done || decide (una + (buf.length : Int) < ack)) = dn2
            rw [decide_eq_true (by omega), hdn2, Bool.or_true])
        rw [← hdn2] at X4
        rw [← ha2]
        have ha2b : 0 ≤ a2 ∧ a2 ≤ 2147483648 := by omega
        clear ha2 hdn2 X6 B6 K6
        have c2 : w4.cell? ⟨x, 2, none⟩ = some (.int .i64 una) := X4.out.box.cell 2
        have z2 := X4.out.box.frozen 2
        have en : IntKind.i64.wrap (a2 - una) = a2 - una := IntWalk.i64_in _ (by omega)
        have kx : Kept (· = x) w4 (w4.setCell ⟨x, 2, none⟩ (.int .i64 a2)) := (Kept.refl (· = x) w4).setIn (p := ⟨x, 2, none⟩) rfl _
        have XF := X4.out.setJ 2 (.int .i64 a2) (una' := a2) (nx' := nx) (ed' := ed2) (told' := told) (done' := dn2) rfl
        have B5 := Lib.hid (B4.out.kept kx (fun e => HG6.out (by have e : x6 = x := e; rw [e]; exact X4.out.gx)))
        have K5 := Lib.hid (K4.out.setIn (p := ⟨x, 2, none⟩) X4.out.gx (.int .i64 a2))
        have XFH := Lib.hid XF
        clear XF kx
        go_upto_region 13 with fail
        generalize w4.setCell ⟨x, 2, none⟩ (.int .i64 a2) = w5 at XFH B5 K5 ⊢
        clear c2 z2
        have c60 : w5.cell? ⟨x6, 0, none⟩ = some (.int .i64 0) := B5.out.cell 0
        have c61 : w5.cell? ⟨x6, 1, none⟩ = some (.bool false) := B5.out.cell 1
        have z60 := B5.out.frozen 0
        have z61 := B5.out.frozen 1
        have R6 : Blk ((w5.setCell ⟨x6, 0, none⟩ (.int .i64 (a2 - una))).setCell ⟨x6, 1, none⟩ (.bool true)) x6 92 #[.int .i64 (a2 - una), .bool true] := (B5.out.set_ 0 (.int .i64 (a2 - una))).set_ 1 (.bool true)
        have kk : Kept (· = x6) w5 ((w5.setCell ⟨x6, 0, none⟩ (.int .i64 (a2 - una))).setCell ⟨x6, 1, none⟩ (.bool true)) := ((Kept.refl (· = x6) w5).setIn (p := ⟨x6, 0, none⟩) rfl _).setIn (p := ⟨x6, 1, none⟩) rfl _
        have R6H := Lib.hid R6; have KK := Lib.hid kk
        clear R6 kk
        go_wp2_with fail
        refine bodyPost_ret (results_cell_row rfl _ _ x6 92 _ (0, 0) _ rfl R6H.out Try.underlying92 rfl size92) rfl ?_
        have hTT : (Sn.acked ⟨una, nx, ed, buf, told, done⟩ ack win).una = a2 ∧ (Sn.acked ⟨una, nx, ed, buf, told, done⟩ ack win).ed = ed2 ∧ (Sn.acked ⟨una, nx, ed, buf, told, done⟩ ack win).done = dn2 := HTT.out
        refine ⟨_, ?_, K5.out.transG KK.out (fun _ _ h => h) (fun y hy e => by have := HX6.out; have e : y = x6 := e; omega), .inl ⟨HOK.out, by rw [hTT.1], fun m => rfl⟩⟩
        rw [if_pos HOK.out]
        refine rs_acked (Ab := Ab) (cb := cb) (Ai := Ai) (ci := ci) HT.out HOK.out ?_ HLEN.out HBUF.out HLL.out HL0.out
        rw [hTT.1, hTT.2.1, hTT.2.2]
        exact XFH.out.kept KK.out (fun y hy e => HG6.out (e ▸ hy))
      · have g8 : ¬ ack > la := hla
        have g9 : decide (la < ack) = false := decide_eq_false hla
        obtain ⟨a2, ha2⟩ : ∃ z, z = ack := ⟨_, rfl⟩
        obtain ⟨dn2, hdn2⟩ : ∃ z, z = done := ⟨_, rfl⟩
        have X4 := X4'; have B4 := B4'; have K4 := K4'
        have HTT : Hid ((Sn.acked ⟨una, nx, ed, buf, told, done⟩ ack win).una = a2 ∧ (Sn.acked ⟨una, nx, ed, buf, told, done⟩ ack win).ed = ed2 ∧ (Sn.acked ⟨una, nx, ed, buf, told, done⟩ ack win).done = dn2) := Lib.hid (by
          have h1 : una + (buf.length : Int) = la := HLAQ.out
          have h2 := HED2.out
          refine ⟨?_, ?_, ?_⟩
          · show min ack (una + (buf.length : Int)) = a2
            omega
          · show max ed (ack + win) = ed2
            omega
          · show (done || decide (una + (buf.length : Int) < ack)) = dn2
            rw [decide_eq_false (by omega), hdn2, Bool.or_false])
        rw [← hdn2] at X4
        have ha2b : 0 ≤ a2 ∧ a2 ≤ 2147483648 := by omega
        go_upto_region 11 with fail
        rw [← ha2]
        clear ha2 hdn2 X4' B4' K4' g8 g9
        have c2 : w4.cell? ⟨x, 2, none⟩ = some (.int .i64 una) := X4.out.box.cell 2
        have z2 := X4.out.box.frozen 2
        have en : IntKind.i64.wrap (a2 - una) = a2 - una := IntWalk.i64_in _ (by omega)
        have kx : Kept (· = x) w4 (w4.setCell ⟨x, 2, none⟩ (.int .i64 a2)) := (Kept.refl (· = x) w4).setIn (p := ⟨x, 2, none⟩) rfl _
        have XF := X4.out.setJ 2 (.int .i64 a2) (una' := a2) (nx' := nx) (ed' := ed2) (told' := told) (done' := dn2) rfl
        have B5 := Lib.hid (B4.out.kept kx (fun e => HG6.out (by have e : x6 = x := e; rw [e]; exact X4.out.gx)))
        have K5 := Lib.hid (K4.out.setIn (p := ⟨x, 2, none⟩) X4.out.gx (.int .i64 a2))
        have XFH := Lib.hid XF
        clear XF kx
        go_upto_region 13 with fail
        generalize w4.setCell ⟨x, 2, none⟩ (.int .i64 a2) = w5 at XFH B5 K5 ⊢
        clear c2 z2
        have c60 : w5.cell? ⟨x6, 0, none⟩ = some (.int .i64 0) := B5.out.cell 0
        have c61 : w5.cell? ⟨x6, 1, none⟩ = some (.bool false) := B5.out.cell 1
        have z60 := B5.out.frozen 0
        have z61 := B5.out.frozen 1
        have R6 : Blk ((w5.setCell ⟨x6, 0, none⟩ (.int .i64 (a2 - una))).setCell ⟨x6, 1, none⟩ (.bool true)) x6 92 #[.int .i64 (a2 - una), .bool true] := (B5.out.set_ 0 (.int .i64 (a2 - una))).set_ 1 (.bool true)
        have kk : Kept (· = x6) w5 ((w5.setCell ⟨x6, 0, none⟩ (.int .i64 (a2 - una))).setCell ⟨x6, 1, none⟩ (.bool true)) := ((Kept.refl (· = x6) w5).setIn (p := ⟨x6, 0, none⟩) rfl _).setIn (p := ⟨x6, 1, none⟩) rfl _
        have R6H := Lib.hid R6; have KK := Lib.hid kk
        clear R6 kk
        go_wp2_with fail
        refine bodyPost_ret (results_cell_row rfl _ _ x6 92 _ (0, 0) _ rfl R6H.out Try.underlying92 rfl size92) rfl ?_
        have hTT : (Sn.acked ⟨una, nx, ed, buf, told, done⟩ ack win).una = a2 ∧ (Sn.acked ⟨una, nx, ed, buf, told, done⟩ ack win).ed = ed2 ∧ (Sn.acked ⟨una, nx, ed, buf, told, done⟩ ack win).done = dn2 := HTT.out
        refine ⟨_, ?_, K5.out.transG KK.out (fun _ _ h => h) (fun y hy e => by have := HX6.out; have e : y = x6 := e; omega), .inl ⟨HOK.out, by rw [hTT.1], fun m => rfl⟩⟩
        rw [if_pos HOK.out]
        refine rs_acked (Ab := Ab) (cb := cb) (Ai := Ai) (ci := ci) HT.out HOK.out ?_ HLEN.out HBUF.out HLL.out HL0.out
        rw [hTT.1, hTT.2.1, hTT.2.2]
        exact XFH.out.kept KK.out (fun y hy e => HG6.out (e ▸ hy))
end Go.Proofs.Ytnigfdldfmiaiaa
namespace Go.Proofs.Ytnigfdldfmiaiaa
set_option linter.unusedVariables false
set_option linter.unusedSimpArgs false
open Go.ChangeShapes Go.WideShapes Go.ChangeAt Go.RowKit Go.Maps
set_option linter.unusedVariables false
set_option linter.unusedSimpArgs false
def RsDu (T : Sn) (L : Int → Bool) (w : World) (r : Ending) (w' : World) : Prop := Fine w w' ∧ ((T.due L ∧ r = .returned (.int .i64 (T.una + T.buf.length))) ∨ (¬ T.due L ∧ r = .returned (.int .i64 0)))
set_option maxHeartbeats 8000000 in
set_option maxRecDepth 20000 in
theorem rsdue_any {G : Nat → Prop} {x : Nat} {T : Sn} {L : Int → Bool} {K : Int} (hK : K ≤ 1073741824) (hT : T.Ok L K) (w : World) (h : RsI G w x T L) :
    Calls Try.prog 88 #[.pointer (some ⟨x, 0, none⟩)] w (RsDu T L w) := by
  obtain ⟨una, nx, ed, buf, told, done⟩ := T
  have H := Lib.hid h; have HT := Lib.hid hT
  obtain ⟨o1, o2, o3, o4, o5, o6, o7, o8⟩ := hT
  dsimp only at o1 o2 o3 o4 o5 o6 o7 o8
  obtain ⟨Ab, cb, Ai, ci, all, LL, hX, hlen, hbuf, hLL, hL0⟩ := h
  dsimp only at hX hlen hbuf hLL
  obtain ⟨la, hla⟩ : ∃ z, una + (buf.length : Int) = z := ⟨_, rfl⟩
  obtain ⟨na, hna⟩ : ∃ z, all.length = z := ⟨_, rfl⟩
  rw [hna] at hX hlen hL0
  have HLAQ := Lib.hid hla
  have hlab : 1 ≤ la ∧ la ≤ 1073741824 := by omega
  have hnxb : 1 ≤ una ∧ una ≤ nx ∧ nx ≤ la := by omega
  have HLN : Hid (la = (na : Int) + 1) := Lib.hid (by omega)
  have HX := Lib.hid hX; have HLL := Lib.hid hLL
  have c2 : w.cell? ⟨x, 2, none⟩ = some (.int .i64 una) := hX.box.cell 2
  clear hX hlen hbuf hLL hL0 hla o1 o2 o3 o4 o5 o6 o7 o8 hna
  go_enter Try.func88, Try.ntmps88
  go_wp2_with fail
  clear c2
  go_loopw [3] (fun s3 wr => ∃ k : Int, (una ≤ k ∧ k ≤ nx) ∧ s3 = .int .i64 k ∧ Hid ((∀ m, una ≤ m → m < k → LL m = false) ∧ Fine w wr)) (fun s3 _ => (nx - intOf s3).toNat)
  case atStart => exact ⟨una, by omega, rfl, Lib.hid ⟨fun m a b => by omega, Fine.refl w⟩⟩
  case round =>
    obtain ⟨k, hkb, rfl, HJ⟩ := hrel
    have J1 := Lib.hid HJ.out.1; have J2 := Lib.hid HJ.out.2
    have X1 := Lib.hid (HX.out.fine J2.out)
    have c3 : wr.cell? ⟨x, 3, none⟩ = some (.int .i64 nx) := X1.out.box.cell 3
    clear HJ
    by_cases hlt : k < nx
    · obtain ⟨i, hi⟩ : ∃ i : Nat, (i : Int) + 1 = k := ⟨(k - 1).toNat, by omega⟩
      have hina : i < na := by have := HLN.out; omega
      obtain ⟨gi, hgi, _, _⟩ := X1.out.oi.head (by rw [il_len]; omega)
      subst hgi
      have c1 : wr.cell? ⟨x, 1, none⟩ = some (.slice (some ⟨gi, 0, none⟩) na ci) := by have := X1.out.box.cell 1; rw [il_len] at this; exact this
      obtain ⟨q, hq⟩ : ∃ q, LL k = q := ⟨_, rfl⟩
      have c9 : wr.cell? ⟨gi, i, none⟩ = some (.bool q) := by
        obtain ⟨_, _, hgi2, _, hc⟩ := X1.out.oi.rs.1.at_ (il_at LL hina)
        injection hgi2 with hgi2
        injection hgi2 with g1 g2
        subst g1 g2
        have := hc 0 _ rfl
        simp only [Nat.mul_one, Nat.add_zero, Nat.zero_add] at this
        rw [hi, hq] at this
        exact this
      have HQ := Lib.hid hq
      have ei : IntKind.i64.wrap (k - 1) = (i : Int) := by rw [show k - 1 = (i : Int) by omega]; exact IntWalk.i64_in _ (by omega)
      have ek1 : IntKind.i64.wrap (k + 1) = k + 1 := IntWalk.i64_in _ (by omega)
      clear hq hi
      cases q with
      | true =>
        go_wp2_with fail
        go_ret
        refine ⟨J2.out, .inr ⟨fun hd => ?_, rfl⟩⟩
        have := hd.2.2.2 k
        rw [← HLL.out k hkb.1, HQ.out] at this
        cases this
      | false =>
        have HN1 : Hid (∀ m, una ≤ m → m < k + 1 → LL m = false) := Lib.hid (fun m a b => by
          by_cases e : m = k
          · rw [e]; exact HQ.out
          · exact J1.out m a (by omega))
        go_wp2_with fail
        exact ⟨⟨k + 1, by omega, by simp, Lib.hid ⟨HN1.out, J2.out⟩⟩, by simp only [intOf]; omega⟩
    · have hke : k = nx := by omega
      have HNL : Hid (∀ m, L m = false) := Lib.hid (fun m => by
        cases e : L m with
        | false => rfl
        | true =>
          have h8 : una ≤ m ∧ m < nx := HT.out.lost m e
          rw [← HLL.out m h8.1, J1.out m h8.1 (by omega)] at e
          cases e)
      have q3 : ∀ p : FineBy wr, p.W.cell? ⟨x, 3, none⟩ = some (.int .i64 nx) := fun p => (X1.out.box.fine p.h).cell 3
      have q5 : ∀ p : FineBy wr, p.W.cell? ⟨x, 5, none⟩ = some (.bool told) := fun p => (X1.out.box.fine p.h).cell 5
      have q6 : ∀ p : FineBy wr, p.W.cell? ⟨x, 6, none⟩ = some (.bool done) := fun p => (X1.out.box.fine p.h).cell 6
      have QL : Hid (∀ p : FineBy wr, Calls Try.prog 87 #[.pointer (some ⟨x, 0, none⟩)] p.W fun r w'' => r = .returned (.int .i64 la) ∧ Fine p.W w'') := Lib.hid (fun p => rslast5 (T := ⟨una, nx, ed, buf, told, done⟩) HLAQ.out (by omega) p.W (H.out.fine (J2.out.trans p.h)))
      clear hke
      cases told with
      | false =>
        have HND : Hid (¬ Sn.due ⟨una, nx, ed, buf, false, done⟩ L) := Lib.hid (fun hd => by cases hd.1)
        go_upto_region 6 with fail
        refine wp_region_quiet_fine (by kernel_rfl) (by kernel_rfl) ?_
        repeat (go_big_quiet_step (exact Calls.fine_of (QL.out _)))
        refine wpQuiet_nil ?_
        intro wf hwf'
        have hwf := Lib.hid (FineBy.of hwf')
        clear hwf' q3 q5 q6
        clear QL
        go_wp2_with fail
        go_ret
        exact ⟨J2.out.trans hwf.out, .inr ⟨HND.out, rfl⟩⟩
      | true =>
        cases done with
        | true =>
          have HND : Hid (¬ Sn.due ⟨una, nx, ed, buf, true, true⟩ L) := Lib.hid (fun hd => by cases hd.2.1)
          go_upto_region 6 with fail
          refine wp_region_quiet_fine (by kernel_rfl) (by kernel_rfl) ?_
          repeat (go_big_quiet_step (exact Calls.fine_of (QL.out _)))
          refine wpQuiet_nil ?_
          intro wf hwf'
          have hwf := Lib.hid (FineBy.of hwf')
          clear hwf' q3 q5 q6
          clear QL
          go_wp2_with fail
          go_ret
          exact ⟨J2.out.trans hwf.out, .inr ⟨HND.out, rfl⟩⟩
        | false =>
          by_cases hn : nx < la
          · have g1 : decide (nx < la) = true := decide_eq_true hn
            have HND : Hid (¬ Sn.due ⟨una, nx, ed, buf, true, false⟩ L) := Lib.hid (fun hd => by have h1 : nx = una + (buf.length : Int) := hd.2.2.1; have := HLAQ.out; omega)
            go_upto_region 6 with fail
            refine wp_region_quiet_fine (by kernel_rfl) (by kernel_rfl) ?_
            repeat (go_big_quiet_step (exact Calls.fine_of (QL.out _)))
            refine wpQuiet_nil ?_
            intro wf hwf'
            have hwf := Lib.hid (FineBy.of hwf')
            clear hwf' q3 q5 q6
            clear QL
            go_wp2_with fail
            go_ret
            exact ⟨J2.out.trans hwf.out, .inr ⟨HND.out, rfl⟩⟩
          · have g1 : decide (nx < la) = false := decide_eq_false hn
            have HD : Hid (Sn.due ⟨una, nx, ed, buf, true, false⟩ L) := Lib.hid ⟨rfl, rfl, by have := HLAQ.out; dsimp only; omega, HNL.out⟩
            go_upto_region 6 with fail
            refine wp_region_quiet_fine (by kernel_rfl) (by kernel_rfl) ?_
            repeat (go_big_quiet_step (exact Calls.fine_of (QL.out _)))
            refine wpQuiet_nil ?_
            intro wf hwf'
            have hwf := Lib.hid (FineBy.of hwf')
            clear hwf' q3 q5 q6
            have HL9 := Lib.hid (rslast5 (T := ⟨una, nx, ed, buf, true, false⟩) HLAQ.out (by omega) wf (H.out.fine (J2.out.trans hwf.out)))
            clear QL
            go_wp2_with fail
            refine HL9.out.mono ?_
            rintro r w9 ⟨rfl, f9⟩
            have F9 := Lib.hid (J2.out.trans (hwf.out.trans f9))
            clear f9 HL9
            go_wp2_with fail
            go_ret
            exact ⟨F9.out, .inl ⟨HD.out, by dsimp only; rw [HLAQ.out]; rfl⟩⟩
section
variable {F G : Nat → Prop} {s x : Nat} {T : Sn} {L : Int → Bool} {K : Int}
set_option maxHeartbeats 8000000 in
set_option maxRecDepth 20000 in
theorem ssame_any (hK : K ≤ 1073741824) (hT : T.Ok L K) (w : World) (hs : SnI F w s T L) (hr : RsI G w x T L) :
    Calls Try.prog 68 #[.pointer (some ⟨s, 0, none⟩), .pointer (some ⟨x, 0, none⟩)] w fun r w' => r = .returned (.bool true) ∧ Fine w w' := by
  obtain ⟨una, nx, ed, buf, told, done⟩ := T
  have HS := Lib.hid hs; have HR := Lib.hid hr; have HT := Lib.hid hT
  obtain ⟨la, hla⟩ : ∃ z, una + (buf.length : Int) = z := ⟨_, rfl⟩
  obtain ⟨nb, hnb⟩ : ∃ z, buf.length = z := ⟨_, rfl⟩
  have h1 := hT.u1; have h2 := hT.ub; have h3 := hT.b64
  dsimp only at h1 h2 h3
  have HLAQ := Lib.hid hla; have HNB := Lib.hid hnb
  have hlab : 1 ≤ la ∧ la ≤ 1073741824 := by omega
  have e1 : IntKind.i64.wrap (la - una) = (nb : Int) := by rw [show la - una = (nb : Int) by omega]; exact IntWalk.i64_in _ (by omega)
  have e2 : (una == una) = true := by simp
  have e3 : (nx == nx) = true := by simp
  have e4 : (ed == ed) = true := by simp
  have e5 : ((nb : Int) == (nb : Int)) = true := by simp
  have e6 : (done == done) = true := by simp
  have e7 : (la == la) = true := by simp
  have e8 : decide (0 < la) = true := by simp; omega
  have HD1 := Lib.hid (sn_due (T := ⟨una, nx, ed, buf, told, done⟩) (by omega) hT w hs)
  have HD2 := Lib.hid (fun w' (f : Fine w w') => rsdue_any hK HT.out w' (hr.fine f))
  clear hs hr hT hla hnb h1 h2 h3
  by_cases hd : Sn.due ⟨una, nx, ed, buf, told, done⟩ L
  · have HDU : Hid (Calls Try.prog 61 #[.pointer (some ⟨s, 0, none⟩)] w fun r w' => r = .returned (.tuple #[.int .i64 la, .bool true]) ∧ Fine w w') := Lib.hid (HD1.out.mono (fun r w' h => by
      obtain ⟨h1, h2 | h2⟩ := h
      · refine ⟨?_, h1⟩
        have := h2.2
        dsimp only at this
        rw [HLAQ.out] at this
        exact this
      · exact absurd hd h2.1))
    have HDX : Hid (∀ w', Fine w w' → Calls Try.prog 88 #[.pointer (some ⟨x, 0, none⟩)] w' fun r w'' => r = .returned (.int .i64 la) ∧ Fine w' w'') := Lib.hid (fun w' f => (HD2.out w' f).mono (fun r w'' h => by
      obtain ⟨h1, h2 | h2⟩ := h
      · refine ⟨?_, h1⟩
        have := h2.2
        dsimp only at this
        rw [HLAQ.out] at this
        exact this
      · exact absurd hd h2.1))
    clear HD1 HD2 hd
    go_enter Try.func68, Try.ntmps68
    go_wp2_with fail
    refine HDU.out.mono ?_
    rintro r w1 ⟨rfl, f1⟩
    have HS1 := Lib.hid (HS.out.fine f1); have HR1 := Lib.hid (HR.out.fine f1); have F1 := Lib.hid f1
    clear f1 HDU
    have q2 : ∀ p : FineBy w1, p.W.cell? ⟨x, 2, none⟩ = some (.int .i64 una) := fun p => by obtain ⟨Ab, cb, Ai, ci, all, LL, hX, _⟩ := HR1.out.fine p.h; exact hX.box.cell 2
    have q3 : ∀ p : FineBy w1, p.W.cell? ⟨x, 3, none⟩ = some (.int .i64 nx) := fun p => by obtain ⟨Ab, cb, Ai, ci, all, LL, hX, _⟩ := HR1.out.fine p.h; exact hX.box.cell 3
    have q4 : ∀ p : FineBy w1, p.W.cell? ⟨x, 4, none⟩ = some (.int .i64 ed) := fun p => by obtain ⟨Ab, cb, Ai, ci, all, LL, hX, _⟩ := HR1.out.fine p.h; exact hX.box.cell 4
    have q6 : ∀ p : FineBy w1, p.W.cell? ⟨x, 6, none⟩ = some (.bool done) := fun p => by obtain ⟨Ab, cb, Ai, ci, all, LL, hX, _⟩ := HR1.out.fine p.h; exact hX.box.cell 6
    have Q1 : Hid (∀ p : FineBy w1, Calls Try.prog 56 #[.pointer (some ⟨s, 0, none⟩)] p.W fun r w'' => r = .returned (.int .i64 una) ∧ Fine p.W w'') := Lib.hid (fun p => sn_una (T := ⟨una, nx, ed, buf, told, done⟩) rfl p.W (HS1.out.fine p.h))
    have Q2 : Hid (∀ p : FineBy w1, Calls Try.prog 54 #[.pointer (some ⟨s, 0, none⟩)] p.W fun r w'' => r = .returned (.int .i64 nx) ∧ Fine p.W w'') := Lib.hid (fun p => sn_next (T := ⟨una, nx, ed, buf, told, done⟩) rfl p.W (HS1.out.fine p.h))
    have Q3 : Hid (∀ p : FineBy w1, Calls Try.prog 57 #[.pointer (some ⟨s, 0, none⟩)] p.W fun r w'' => r = .returned (.int .i64 ed) ∧ Fine p.W w'') := Lib.hid (fun p => sn_edge (T := ⟨una, nx, ed, buf, told, done⟩) rfl p.W (HS1.out.fine p.h))
    have Q4 : Hid (∀ p : FineBy w1, Calls Try.prog 59 #[.pointer (some ⟨s, 0, none⟩)] p.W fun r w'' => r = .returned (.int .i64 (nb : Int)) ∧ Fine p.W w'') := Lib.hid (fun p => sn_held (T := ⟨una, nx, ed, buf, told, done⟩) HNB.out p.W (HS1.out.fine p.h))
    have Q5 : Hid (∀ p : FineBy w1, Calls Try.prog 62 #[.pointer (some ⟨s, 0, none⟩)] p.W fun r w'' => r = .returned (.bool done) ∧ Fine p.W w'') := Lib.hid (fun p => sn_done (T := ⟨una, nx, ed, buf, told, done⟩) rfl p.W (HS1.out.fine p.h))
    have Q6 : Hid (∀ p : FineBy w1, Calls Try.prog 87 #[.pointer (some ⟨x, 0, none⟩)] p.W fun r w'' => r = .returned (.int .i64 la) ∧ Fine p.W w'') := Lib.hid (fun p => rslast5 (T := ⟨una, nx, ed, buf, told, done⟩) HLAQ.out (by omega) p.W (HR1.out.fine p.h))
    have Q7 : Hid (∀ p : FineBy w1, Calls Try.prog 88 #[.pointer (some ⟨x, 0, none⟩)] p.W fun r w'' => r = .returned (.int .i64 la) ∧ Fine p.W w'') := Lib.hid (fun p => HDX.out p.W (F1.out.trans p.h))
    clear HDX
    go_upto_region 2 with fail
    refine wp_region_quiet_fine (by kernel_rfl) (by kernel_rfl) ?_
    repeat (go_big_quiet_step (first | exact Calls.fine_of (Q1.out _) | exact Calls.fine_of (Q2.out _) | exact Calls.fine_of (Q3.out _) | exact Calls.fine_of (Q4.out _) | exact Calls.fine_of (Q5.out _) | exact Calls.fine_of (Q6.out _) | exact Calls.fine_of (Q7.out _)))
    refine wpQuiet_nil ?_
    intro wf hwf'
    have hwf := Lib.hid (F1.out.trans (FineBy.of hwf'))
    clear hwf' q2 q3 q4 q6 Q1 Q2 Q3 Q4 Q5 Q6 Q7
    go_wp2_with fail
    go_ret
    exact ⟨rfl, hwf.out⟩
  · have HDU : Hid (Calls Try.prog 61 #[.pointer (some ⟨s, 0, none⟩)] w fun r w' => r = .returned (.tuple #[.int .i64 0, .bool false]) ∧ Fine w w') := Lib.hid (HD1.out.mono (fun r w' h => by
      obtain ⟨h1, h2 | h2⟩ := h
      · exact absurd h2.1 hd
      · exact ⟨h2.2, h1⟩))
    have HDX0 : Hid (∀ w', Fine w w' → Calls Try.prog 88 #[.pointer (some ⟨x, 0, none⟩)] w' fun r w'' => r = .returned (.int .i64 0) ∧ Fine w' w'') := Lib.hid (fun w' f => (HD2.out w' f).mono (fun r w'' h => by
      obtain ⟨h1, h2 | h2⟩ := h
      · exact absurd h2.1 hd
      · exact ⟨h2.2, h1⟩))
    clear HD1 HD2 hd
    have HDX := HDX0
    clear HDX0
    go_enter Try.func68, Try.ntmps68
    go_wp2_with fail
    refine HDU.out.mono ?_
    rintro r w1 ⟨rfl, f1⟩
    have HS1 := Lib.hid (HS.out.fine f1); have HR1 := Lib.hid (HR.out.fine f1); have F1 := Lib.hid f1
    clear f1 HDU
    have q2 : ∀ p : FineBy w1, p.W.cell? ⟨x, 2, none⟩ = some (.int .i64 una) := fun p => by obtain ⟨Ab, cb, Ai, ci, all, LL, hX, _⟩ := HR1.out.fine p.h; exact hX.box.cell 2
    have q3 : ∀ p : FineBy w1, p.W.cell? ⟨x, 3, none⟩ = some (.int .i64 nx) := fun p => by obtain ⟨Ab, cb, Ai, ci, all, LL, hX, _⟩ := HR1.out.fine p.h; exact hX.box.cell 3
    have q4 : ∀ p : FineBy w1, p.W.cell? ⟨x, 4, none⟩ = some (.int .i64 ed) := fun p => by obtain ⟨Ab, cb, Ai, ci, all, LL, hX, _⟩ := HR1.out.fine p.h; exact hX.box.cell 4
    have q6 : ∀ p : FineBy w1, p.W.cell? ⟨x, 6, none⟩ = some (.bool done) := fun p => by obtain ⟨Ab, cb, Ai, ci, all, LL, hX, _⟩ := HR1.out.fine p.h; exact hX.box.cell 6
    have Q1 : Hid (∀ p : FineBy w1, Calls Try.prog 56 #[.pointer (some ⟨s, 0, none⟩)] p.W fun r w'' => r = .returned (.int .i64 una) ∧ Fine p.W w'') := Lib.hid (fun p => sn_una (T := ⟨una, nx, ed, buf, told, done⟩) rfl p.W (HS1.out.fine p.h))
    have Q2 : Hid (∀ p : FineBy w1, Calls Try.prog 54 #[.pointer (some ⟨s, 0, none⟩)] p.W fun r w'' => r = .returned (.int .i64 nx) ∧ Fine p.W w'') := Lib.hid (fun p => sn_next (T := ⟨una, nx, ed, buf, told, done⟩) rfl p.W (HS1.out.fine p.h))
    have Q3 : Hid (∀ p : FineBy w1, Calls Try.prog 57 #[.pointer (some ⟨s, 0, none⟩)] p.W fun r w'' => r = .returned (.int .i64 ed) ∧ Fine p.W w'') := Lib.hid (fun p => sn_edge (T := ⟨una, nx, ed, buf, told, done⟩) rfl p.W (HS1.out.fine p.h))
    have Q4 : Hid (∀ p : FineBy w1, Calls Try.prog 59 #[.pointer (some ⟨s, 0, none⟩)] p.W fun r w'' => r = .returned (.int .i64 (nb : Int)) ∧ Fine p.W w'') := Lib.hid (fun p => sn_held (T := ⟨una, nx, ed, buf, told, done⟩) HNB.out p.W (HS1.out.fine p.h))
    have Q5 : Hid (∀ p : FineBy w1, Calls Try.prog 62 #[.pointer (some ⟨s, 0, none⟩)] p.W fun r w'' => r = .returned (.bool done) ∧ Fine p.W w'') := Lib.hid (fun p => sn_done (T := ⟨una, nx, ed, buf, told, done⟩) rfl p.W (HS1.out.fine p.h))
    have Q6 : Hid (∀ p : FineBy w1, Calls Try.prog 87 #[.pointer (some ⟨x, 0, none⟩)] p.W fun r w'' => r = .returned (.int .i64 la) ∧ Fine p.W w'') := Lib.hid (fun p => rslast5 (T := ⟨una, nx, ed, buf, told, done⟩) HLAQ.out (by omega) p.W (HR1.out.fine p.h))
    have Q7 : Hid (∀ p : FineBy w1, Calls Try.prog 88 #[.pointer (some ⟨x, 0, none⟩)] p.W fun r w'' => r = .returned (.int .i64 0) ∧ Fine p.W w'') := Lib.hid (fun p => HDX.out p.W (F1.out.trans p.h))
    clear HDX
    go_upto_region 2 with fail
    refine wp_region_quiet_fine (by kernel_rfl) (by kernel_rfl) ?_
    repeat (go_big_quiet_step (first | exact Calls.fine_of (Q1.out _) | exact Calls.fine_of (Q2.out _) | exact Calls.fine_of (Q3.out _) | exact Calls.fine_of (Q4.out _) | exact Calls.fine_of (Q5.out _) | exact Calls.fine_of (Q6.out _) | exact Calls.fine_of (Q7.out _)))
    refine wpQuiet_nil ?_
    intro wf hwf'
    have hwf := Lib.hid (F1.out.trans (FineBy.of hwf'))
    clear hwf' q2 q3 q4 q6 Q1 Q2 Q3 Q4 Q5 Q6 Q7
    go_wp2_with fail
    go_ret
    exact ⟨rfl, hwf.out⟩
end
end Go.Proofs.Ytnigfdldfmiaiaa
