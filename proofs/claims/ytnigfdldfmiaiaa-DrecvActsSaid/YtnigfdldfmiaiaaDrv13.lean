/- The document's receiver: Tell, Put. -/
import Derived.Test.YtnigfdldfmiaiaaDrv12
namespace Go.Proofs.Ytnigfdldfmiaiaa
open Go.ChangeShapes Go.WideShapes Go.ChangeAt Go.RowKit Go.Maps
set_option linter.unusedVariables false
set_option linter.unusedSimpArgs false
section
variable {G : Nat → Prop} {x : Nat} {In : Int → Bool} {B : Int → Int} {rd nx e : Int} {k : Nat}
/-- What Tell answers. -/
def TellOf (G : Nat → Prop) (x : Nat) (In : Int → Bool) (B : Int → Int) (rd nx e : Int) (k : Nat) (dsn : Int) (w : World) (r : Ending) (w' : World) : Prop :=
  Kept G w w' ∧ ((r = .returned (.bool true) ∧ endB In rd nx e dsn ∧ ReS G w' x In B rd dsn k) ∨ (r = .returned (.bool false) ∧ ¬ endB In rd nx e dsn ∧ ReS G w' x In B rd e k))
set_option maxHeartbeats 2000000 in
set_option maxRecDepth 20000 in
theorem retell_any (dsn : Int) (hd : -9223372036854775808 ≤ dsn ∧ dsn ≤ 9223372036854775807) (hi : Inv In B rd nx e) (hk : k ≤ 1000000) (w : World) (h : ReS G w x In B rd e k) :
    Calls Try.prog 45 #[.pointer (some ⟨x, 0, none⟩), .int .i64 dsn] w (TellOf G x In B rd nx e k dsn w) := by
  have hrn := hi.rn; have hr0 := hi.r0; have hbig := hi.big; have hen := hi.en
  have HNX := Lib.hid (fun w' (f : Fine w w') => renext_any (nx := nx) w' (by omega) hi.low hi.no hk (h.fine f))
  have HED := Lib.hid (fun w' (f : Fine w w') => reedge_any w' (by omega) (h.fine f))
  have H := Lib.hid h; have HI := Lib.hid hi
  obtain ⟨ed, hed⟩ : ∃ z, rd + 33 = z := ⟨_, rfl⟩
  rw [hed] at HED
  have HE := Lib.hid hed
  have no : ∀ w', Fine w w' → ¬ endB In rd nx e dsn → TellOf G x In B rd nx e k dsn w (.returned (.bool false)) w' := fun w' f hn => ⟨Kept.of_fine f, .inr ⟨rfl, hn, H.out.fine f⟩⟩
  have NO := Lib.hid no
  have he0 : 0 ≤ e := by omega
  have hnx1 : 1 ≤ nx := by omega
  clear h hi hed no hen
  go_enter Try.func45, Try.ntmps45
  go_wp2_with fail
  refine (HNX.out w (Fine.refl w)).mono ?_
  rintro r w1 ⟨rfl, f1⟩
  have F1 := Lib.hid f1
  clear f1
  by_cases h1 : dsn < nx
  · go_wp2_with fail
    go_ret
    exact NO.out w1 F1.out (fun hh => by have := hh.1; omega)
  · go_wp2_with fail
    refine (HED.out w1 F1.out).mono ?_
    rintro r w2 ⟨rfl, f2⟩
    have F2 := Lib.hid (F1.out.trans f2)
    obtain ⟨Ab, cb, Ai, ci, hX, hkk⟩ := H.out.fine F2.out
    have c3 : w2.cell? ⟨x, 3, none⟩ = some (.int .i64 e) := hX.box.cell 3
    have c1 : w2.cell? ⟨x, 1, none⟩ = some (.slice Ai k ci) := by have := hX.box.cell 1; rw [il_len] at this; exact this
    have z3 := hX.box.frozen 3
    have HX := Lib.hid hX; have HKK := Lib.hid hkk
    clear f2 hX hkk
    by_cases h2 : ed < dsn
    · have h2' : dsn > ed := h2
      go_wp2_with fail
      go_ret
      exact NO.out w2 F2.out (fun hh => by have := hh.2.1; have := HE.out; omega)
    · have h2' : ¬ dsn > ed := h2
      by_cases h3 : 0 < e ∧ e ≠ dsn
      · have h3a : e > 0 := h3.1
        have h3b : (e != dsn) = true := by simpa using h3.2
        have h3c : (e == dsn) = false := by simpa using h3.2
        have H3 := Lib.hid h3
        clear h3
        go_wp2_with fail
        go_ret
        exact NO.out w2 F2.out (fun hh => by have := hh.2.2.1; have := H3.out; omega)
      · have h4 : e = 0 ∨ e = dsn := by omega
        have H4 := Lib.hid h4
        have key : ∀ K : Prop, (e = 0 → K) → (0 < e → e = dsn → K) → K := fun K a b => by
          by_cases h0 : e = 0
          · exact a h0
          · exact b (by omega) (h4.resolve_left h0)
        have KEY := Lib.hid key
        clear key h3 h4
        refine KEY.out _ (fun q => ?_) (fun q1 q2 => ?_)
        · have q3 : ¬ e > 0 := by omega
          have q4 : decide (0 < e) = false := by simp; omega
          have HQ := Lib.hid q
          clear q
          go_wp2_with fail
          go_loopw [5] (fun s5 wr => ∃ n : Int, dsn ≤ n ∧ n ≤ (k : Int) + 1 + dsn ∧ s5 = .int .i64 n ∧ wr = w2 ∧ Hid (∀ m, dsn ≤ m → m < n → In m = false)) (fun s5 _ => ((k : Int) + 1 + dsn - intOf s5).toNat)
          case atStart => exact ⟨dsn, by omega, by omega, (by first | rfl | trivial), (by first | rfl | trivial), Lib.hid (fun m a b => by omega)⟩
          case round =>
            obtain ⟨n, h5, h6, rfl, rfl, HM⟩ := hrel
            by_cases hle : n ≤ (k : Int)
            · obtain ⟨j, hj⟩ : ∃ j : Nat, n = (j : Int) + 1 := ⟨(n - 1).toNat, by omega⟩
              have hjk : j < k := by omega
              obtain ⟨b, o, hA, _, hc⟩ := HX.out.oi.rs.1.at_ (il_at In hjk)
              have d0 := hc 0 (.bool (In ((j : Int) + 1))) rfl
              obtain ⟨q, hq⟩ : ∃ q, In ((j : Int) + 1) = q := ⟨_, rfl⟩
              rw [hq] at d0
              simp only [Nat.mul_one, Nat.add_zero] at d0
              subst hA
              have HQQ : Hid (In n = q) := Lib.hid (by rw [hj]; exact hq)
              have e1 : IntKind.i64.wrap (n - 1) = (j : Int) := by rw [show n - 1 = (j : Int) by omega]; exact IntWalk.i64_in _ (by omega)
              have e2 : IntKind.i64.wrap (n + 1) = n + 1 := IntWalk.i64_in _ (by omega)
              clear hc hq hj
              cases q
              · go_wp2_with fail
                refine ⟨⟨n + 1, by omega, by omega, (by first | rfl | trivial), (by first | rfl | trivial), Lib.hid (fun m a b => ?_)⟩, by simp only [intOf]; omega⟩
                by_cases hmn : m = n
                · rw [hmn]; exact HQQ.out
                · exact HM.out m a (by omega)
              · go_wp2_with fail
                go_ret
                exact NO.out _ F2.out (fun hh => by have := hh.2.2.2 n HQQ.out; omega)
            · have hb : Hid (endB In rd nx e dsn) := Lib.hid ⟨by omega, by have := HE.out; omega, H4.out, fun m hm => by
                rcases Int.lt_or_le m dsn with h7 | h7
                · exact h7
                · have h8 := HKK.out m hm
                  rw [HM.out m h7 (by omega)] at hm
                  cases hm⟩
              go_wp2_with fail
              go_ret
              have hx1 := HX.out.setE dsn
              exact ⟨(Kept.of_fine F2.out).setIn (p := ⟨x, 3, none⟩) HX.out.gx _, .inl ⟨rfl, hb.out, ⟨Ab, cb, _, ci, hx1, HKK.out⟩⟩⟩
        · have q3 : e > 0 := q1
          have q5 : (e == dsn) = true := by simpa using q2
          have q6 : (e != dsn) = false := by simpa using q2
          clear q1 q2
          go_wp2_with fail
          go_loopw [5] (fun s5 wr => ∃ n : Int, dsn ≤ n ∧ n ≤ (k : Int) + 1 + dsn ∧ s5 = .int .i64 n ∧ wr = w2 ∧ Hid (∀ m, dsn ≤ m → m < n → In m = false)) (fun s5 _ => ((k : Int) + 1 + dsn - intOf s5).toNat)
          case atStart => exact ⟨dsn, by omega, by omega, (by first | rfl | trivial), (by first | rfl | trivial), Lib.hid (fun m a b => by omega)⟩
          case round =>
            obtain ⟨n, h5, h6, rfl, rfl, HM⟩ := hrel
            by_cases hle : n ≤ (k : Int)
            · obtain ⟨j, hj⟩ : ∃ j : Nat, n = (j : Int) + 1 := ⟨(n - 1).toNat, by omega⟩
              have hjk : j < k := by omega
              obtain ⟨b, o, hA, _, hc⟩ := HX.out.oi.rs.1.at_ (il_at In hjk)
              have d0 := hc 0 (.bool (In ((j : Int) + 1))) rfl
              obtain ⟨q, hq⟩ : ∃ q, In ((j : Int) + 1) = q := ⟨_, rfl⟩
              rw [hq] at d0
              simp only [Nat.mul_one, Nat.add_zero] at d0
              subst hA
              have HQQ : Hid (In n = q) := Lib.hid (by rw [hj]; exact hq)
              have e1 : IntKind.i64.wrap (n - 1) = (j : Int) := by rw [show n - 1 = (j : Int) by omega]; exact IntWalk.i64_in _ (by omega)
              have e2 : IntKind.i64.wrap (n + 1) = n + 1 := IntWalk.i64_in _ (by omega)
              clear hc hq hj
              cases q
              · go_wp2_with fail
                refine ⟨⟨n + 1, by omega, by omega, (by first | rfl | trivial), (by first | rfl | trivial), Lib.hid (fun m a b => ?_)⟩, by simp only [intOf]; omega⟩
                by_cases hmn : m = n
                · rw [hmn]; exact HQQ.out
                · exact HM.out m a (by omega)
              · go_wp2_with fail
                go_ret
                exact NO.out _ F2.out (fun hh => by have := hh.2.2.2 n HQQ.out; omega)
            · have hb : Hid (endB In rd nx e dsn) := Lib.hid ⟨by omega, by have := HE.out; omega, H4.out, fun m hm => by
                rcases Int.lt_or_le m dsn with h7 | h7
                · exact h7
                · have h8 := HKK.out m hm
                  rw [HM.out m h7 (by omega)] at hm
                  cases hm⟩
              go_wp2_with fail
              go_ret
              have hx1 := HX.out.setE dsn
              exact ⟨(Kept.of_fine F2.out).setIn (p := ⟨x, 3, none⟩) HX.out.gx _, .inl ⟨rfl, hb.out, ⟨Ab, cb, _, ci, hx1, HKK.out⟩⟩⟩
def lenAt (w : World) (x : Nat) : Nat := match w.cell? ⟨x, 1, none⟩ with | some (.slice _ n _) => n | _ => 0
theorem lenAt_eq {w : World} {x : Nat} {A : Option Addr} {n c : Nat} (h : w.cell? ⟨x, 1, none⟩ = some (.slice A n c)) : lenAt w x = n := by
  unfold lenAt
  rw [h]
theorem il_succ (In : Int → Bool) (k : Nat) : il In (k + 1) = il In k ++ [In ((k : Int) + 1)] := by unfold il; rw [List.range_succ, List.map_append]; rfl
theorem bl_succ (In : Int → Bool) (B : Int → Int) (k : Nat) : bl In B (k + 1) = bl In B k ++ [if In ((k : Int) + 1) = true then B ((k : Int) + 1) else 0] := by unfold bl; rw [List.range_succ, List.map_append]; rfl
/-- What Put has done by its i-th byte. -/
def prI (In : Int → Bool) (rd nx e dsn : Int) (i : Nat) (m : Int) : Bool := In m || (tkB In rd nx e m && (decide (dsn ≤ m) && decide (m < dsn + i)))
def prV (In : Int → Bool) (rd nx e dsn : Int) (bs : List Int) (i : Nat) (B : Int → Int) (m : Int) : Int := if (tkB In rd nx e m && (decide (dsn ≤ m) && decide (m < dsn + i))) = true then bs.getD (m - dsn).toNat 0 else B m
theorem pr_rng (dsn : Int) (i : Nat) (m : Int) : (decide (dsn ≤ m) && decide (m < dsn + ((i + 1 : Nat) : Int))) = ((decide (dsn ≤ m) && decide (m < dsn + (i : Int))) || decide (m = dsn + i)) := by
  rw [Bool.eq_iff_iff]
  simp
  omega
end
end Go.Proofs.Ytnigfdldfmiaiaa
