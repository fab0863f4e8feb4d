/- The law DrecvOrder: a piece is put; counting. -/
import Derived.Test.YtnigfdldfmiaiaaDrv9
namespace Go.Proofs.Ytnigfdldfmiaiaa
open Go.ChangeShapes Go.WideShapes Go.ChangeAt Go.RowKit Go.Maps
set_option linter.unusedVariables false
set_option linter.unusedSimpArgs false
theorem cnt_shift (q : Int → Bool) (d : Nat) (len : Nat) : ∀ L : Nat, cntP (fun j : Nat => q (1 + j) && (decide (d ≤ j) && decide (j < d + len))) L = cntP (fun j : Nat => q (1 + (d : Int) + j)) (min len (L - d)) := by
  intro L
  induction L with
  | zero => simp [cntP_zero]
  | succ L ih =>
    rw [cntP_succ, ih]
    by_cases h1 : d ≤ L ∧ L < d + len
    · have h2 : min len (L + 1 - d) = min len (L - d) + 1 := by omega
      rw [h2, cntP_succ]
      congr 1
      have h3 : (1 : Int) + (d : Int) + ((min len (L - d) : Nat) : Int) = 1 + (L : Int) := by omega
      rw [h3]
      simp [h1.1, h1.2]
    · have h2 : min len (L + 1 - d) = min len (L - d) := by omega
      rw [h2]
      have h3 : (decide (d ≤ L) && decide (L < d + len)) = false := by
        rw [Bool.and_eq_false_iff, decide_eq_false_iff_not, decide_eq_false_iff_not]
        omega
      rw [h3]
      simp
theorem cnt_or {q r : Nat → Bool} (k : Nat) (h : ∀ j, q j = true → r j = false) : cntP (fun j => q j || r j) k = cntP q k + cntP r k := by
  unfold cntP
  rw [← Int.natCast_add, ← countP_or _ _ _ (fun x _ hx => h x hx)]
theorem cnt_all {q : Nat → Bool} (k : Nat) (h : ∀ j, j < k → q j = true) : cntP q k = k := by
  induction k with
  | zero => rfl
  | succ k ih => rw [cntP_succ, ih (fun j hj => h j (by omega)), h k (by omega)]; simp
/-- How many of the first ones came. -/
def cI (In : Int → Bool) (L : Nat) : Int := cntP (fun j : Nat => In (1 + j)) L
theorem cI_put {In : Int → Bool} {rd nx : Int} {L d len : Nat} (h : d + len ≤ L) : cI (putI In rd nx 0 (1 + d) len) L = cI In L + cntP (fun j : Nat => tkB In rd nx 0 (1 + (d : Int) + j)) len := by
  have e1 := cnt_or (q := fun j : Nat => In (1 + j)) (r := fun j : Nat => tkB In rd nx 0 (1 + j) && (decide (d ≤ j) && decide (j < d + len))) L (fun j hj => by
    have : tkB In rd nx 0 (1 + (j : Int)) = false := by unfold tkB; rw [hj]; simp
    rw [this, Bool.false_and])
  rw [cnt_shift (tkB In rd nx 0) d len L, show min len (L - d) = len by omega] at e1
  unfold cI
  rw [← e1]
  refine cntP_congr _ (fun j _ => ?_)
  unfold putI
  congr 2
  have h1 : decide ((1 : Int) + (d : Int) ≤ 1 + (j : Int)) = decide (d ≤ j) := by rw [decide_eq_decide]; omega
  have h2 : decide ((1 : Int) + (j : Int) < 1 + (d : Int) + (len : Int)) = decide (j < d + len) := by rw [decide_eq_decide]; omega
  rw [h1, h2]
theorem PutS.of_fine {F : Nat → Prop} {g : Nat} {In : Int → Bool} {B : Int → Int} {rd nx e : Int} {mz : Nat} {dsn : Int} {bs : List Int} {w0 w w' : World} {r : Ending} (f : Fine w0 w) (h : PutS F g In B rd nx e mz dsn bs w r w') : PutS F g In B rd nx e mz dsn bs w0 r w' := by
  obtain ⟨h1, h2, F', nx', h3, h4, h5⟩ := h
  exact ⟨h1, (Kept.of_fine f).trans h2, F', nx', h3, h4, fun x hx => (h5 x hx).imp id (fun h => Nat.le_trans f.size h)⟩
theorem run_mid2 {α : Type} {P : Program} {t e : TypeId} {n bytes : Nat} {E : Lay α n} (T : SliceTy P t e n bytes) (A : Option Addr) (len c i j : Nat) (hij : i ≤ j) (hj : j ≤ len) (hlc : len ≤ c) :
    ∃ A', (∀ w, (Instr.sliceAt t (.slice A len c) (some (.int .i64 (i : Int))) (some (.int .i64 (j : Int))) none).run P w = .ok (.slice A' (j - i) (c - i)) w) ∧ (∀ w (xs : List α), xs.length = len → RS E w A c xs → RS E w A' (c - i) ((xs.drop i).take (j - i))) ∧ ∀ b o, A = some ⟨b, o, none⟩ → ∃ o', A' = some ⟨b, o', none⟩ := by
  obtain ⟨i', hi', hz⟩ := Option.map_eq_some_iff.1 T.size
  refine ⟨if c = i then A else A.map (·.add (i * n)), fun w => ?_, fun w xs hx h => ?_, fun b o e => ?_⟩
  · simp only [Instr.sliceAt, Instr.slice, Sem.run_bind, run_underlying T.ht, Result.andThen_ok, Instr.sliceBounds, Sem.run_pure]
    rw [run_sliceBound (w := w) .i64 j c _ (by omega) (by omega)]
    simp only [Result.andThen_ok, Int.toNat_natCast]
    rw [run_sliceBound (w := w) .i64 i j _ (by omega) (by omega)]
    simp [sizeOf, typeInfo, hi', hz, Result.andThen]
  · refine (h.behind i (by omega) _ (fun b off e hlt => ?_) (fun e => ?_)).front (j - i) (by rw [List.length_drop]; omega)
    · rw [if_neg (by omega), e]
      simp [Addr.add]
    · by_cases hc : c = i
      · exact hc
      · rw [if_neg hc] at e
        have h0 : A = none := by cases A with
          | none => rfl
          | some a => cases e
        have := h.2.2.1 h0
        omega
  · by_cases hc : c = i
    · rw [if_pos hc]; exact ⟨o, e⟩
    · rw [if_neg hc, e]
      exact ⟨o + i * n, by simp [Addr.add]⟩
/-- A piece. -/
def pieceL (xs : List Int) (i j : Nat) : List Int := (xs.drop i).take (j - i)
set_option maxHeartbeats 4000000 in
set_option maxRecDepth 20000 in
theorem piece_any (F : Nat → Prop) (g : Nat) (In : Int → Bool) (B : Int → Int) (rd nx : Int) (mz : Nat) (x7 x8 x3 nn lb cb k i j : Nat) (Ab : Option Addr) (xs : List Int) (hnn : 1 ≤ nn ∧ nn ≤ 8) (hlb : lb ≤ 32) (hxn : xs.length = lb) (hxb : ∀ x ∈ xs, 0 ≤ x ∧ x ≤ 255) (hi : k * nn = i) (hil : i < lb) (hj : min lb (i + nn) = j) (hmz : mz ≤ 100000) (w : World)
    (h7 : Blk w x7 47 #[.pointer (some ⟨g, 0, none⟩)]) (h8 : Blk w x8 3 #[.int .i64 nn]) (h3 : Blk w x3 46 #[.slice Ab lb cb]) (hrs : RS layB w Ab cb xs) (hab : ∀ b o, Ab = some ⟨b, o, none⟩ → ¬ F b) (h : RcS F w g In B rd nx 0 mz) :
    Calls Try.prog 40 #[.int .i64 k, .pointer (some ⟨x7, 0, none⟩), .pointer (some ⟨x8, 0, none⟩), .pointer (some ⟨x3, 0, none⟩)] w (PutS F g In B rd nx 0 mz (1 + i) (pieceL xs i j) w) := by
  have hki : (k : Int) * (nn : Int) = (i : Int) := by rw [← hi, Int.natCast_mul]
  have hkb : k ≤ 32 := by
    have : k * 1 ≤ k * nn := Nat.mul_le_mul_left k hnn.1
    omega
  have e1 : IntKind.i64.wrap ((k : Int) * (nn : Int)) = (i : Int) := by rw [hki]; exact IntWalk.i64_in _ (by omega)
  have e2 : IntKind.i64.wrap (1 + (i : Int)) = 1 + (i : Int) := IntWalk.i64_in _ (by omega)
  obtain ⟨i2, hi2⟩ : ∃ z : Nat, i + nn = z := ⟨_, rfl⟩
  have e3 : IntKind.i64.wrap ((i : Int) + (nn : Int)) = (i2 : Int) := by rw [show (i : Int) + (nn : Int) = (i2 : Int) by omega]; exact IntWalk.i64_in _ (by omega)
  have e4 : (if i2 < lb then (i2 : Int) else (lb : Int)) = (j : Int) := by rw [← hj, hi2]; simp only [Nat.min_def]; split <;> split <;> omega
  have hij : i ≤ j ∧ j ≤ lb := by omega
  obtain ⟨A8, q8, r8, b8⟩ := run_mid2 (E := layB) sliceB Ab lb cb i j hij.1 hij.2 (by rw [← hxn]; exact hrs.1)
  have hA8 : Hid (∀ b o, A8 = some ⟨b, o, none⟩ → ¬ F b) := Lib.hid (fun b o e => by
    obtain ⟨b1, o1, e1, _, _⟩ := hrs.2.2.2 (by omega)
    obtain ⟨o2, e2⟩ := b8 b1 o1 e1
    rw [e] at e2
    injection e2 with e2
    injection e2 with e2 _ _
    subst e2
    exact hab b o1 e1)
  have RS8 := Lib.hid (fun w' h => r8 w' xs hxn h)
  have HRS := Lib.hid hrs; have HAB := Lib.hid hab; have H := Lib.hid h
  have hpl : Hid ((pieceL xs i j).length = j - i) := Lib.hid (by unfold pieceL; rw [List.length_take, List.length_drop, hxn]; omega)
  have hpb : Hid (∀ x ∈ pieceL xs i j, 0 ≤ x ∧ x ≤ 255) := Lib.hid (fun x hx => hxb x (List.mem_of_mem_drop (List.mem_of_mem_take hx)))
  have q0 : ∀ p : FineBy w, p.W.cell? ⟨x7, 0, none⟩ = some (.pointer (some ⟨g, 0, none⟩)) := fun p => (h7.fine p.h).cell1
  have q1 : ∀ p : FineBy w, p.W.cell? ⟨x8, 0, none⟩ = some (.int .i64 nn) := fun p => (h8.fine p.h).cell1
  have q2 : ∀ p : FineBy w, p.W.cell? ⟨x3, 0, none⟩ = some (.slice Ab lb cb) := fun p => (h3.fine p.h).cell1
  clear h7 h8 h3 hrs hab h hxb hi hki hj hi2
  go_enter Try.func40, Try.ntmps40
  go_upto_region 1 with fail
  refine wp_region_quiet_fine_tail 18 (by kernel_rfl) (by kernel_rfl) ?_
  simp only [List.take_succ_cons, List.take_zero, List.drop_succ_cons, List.drop_zero]
  repeat (quiet_step (fail))
  refine wpQuiet_nil ?_
  intro wf hwf'
  have hwf := Lib.hid (FineBy.of hwf')
  clear hwf' q0 q1 q2
  obtain ⟨ln, hln⟩ : ∃ z, j - i = z := ⟨_, rfl⟩
  obtain ⟨c8, hc8⟩ : ∃ z, cb - i = z := ⟨_, rfl⟩
  rw [hln] at hpl ⊢
  rw [hc8]
  have RS9 : Hid (RS layB wf A8 c8 (pieceL xs i j)) := Lib.hid (by rw [← hc8]; exact RS8.out wf (HRS.out.fine hwf.out))
  have hlnb : ln ≤ 32 := by omega
  clear hln hc8 q8
  go_wp2_with fail
  refine (sput_any (1 + (i : Int)) (by omega) (pieceL xs i j) ln c8 A8 hpl.out (by omega) hpb.out (by omega) wf RS9.out (fun _ => hA8.out) (H.out.fine hwf.out)).mono ?_
  rintro r w9 hP
  have HP := Lib.hid (hP.of_fine hwf.out)
  obtain ⟨rfl, _⟩ := hP
  go_wp2_with fail
  go_ret
  exact HP.out
end Go.Proofs.Ytnigfdldfmiaiaa
