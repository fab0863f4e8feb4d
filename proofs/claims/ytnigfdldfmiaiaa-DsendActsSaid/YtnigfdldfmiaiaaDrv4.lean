/- A receiver, by its numbers: Put, Ended, Ack, Win, Ready, New. -/
import Derived.Test.YtnigfdldfmiaiaaDrv3
namespace Go.Proofs.Ytnigfdldfmiaiaa
open Go.ChangeShapes Go.WideShapes Go.ChangeAt Go.RowKit Go.Maps
set_option linter.unusedVariables false
set_option linter.unusedSimpArgs false
/-- What is ready. -/
def bufL (B : Int → Int) (rd nx : Int) : List Int := (List.range (nx - 1 - rd).toNat).map (fun i : Nat => B (rd + 1 + i))
theorem bufL_len (B : Int → Int) (rd nx : Int) : (bufL B rd nx).length = (nx - 1 - rd).toNat := by simp [bufL]
structure Inv (In : Int → Bool) (B : Int → Int) (rd nx e : Int) : Prop where
  r0 : 0 ≤ rd
  rn : rd < nx
  nr : nx ≤ rd + 33
  big : rd ≤ 900000
  low : ∀ n, 1 ≤ n → n < nx → In n = true
  no : In nx = false
  ok : ∀ n, In n = true → 1 ≤ n ∧ n < rd + 33 ∧ (e ≠ 0 → n < e) ∧ 0 ≤ B n ∧ B n ≤ 255
  en : e = 0 ∨ (nx ≤ e ∧ e ≤ rd + 33)
def RcS (F : Nat → Prop) (w : World) (g : Nat) (In : Int → Bool) (B : Int → Int) (rd nx e : Int) (mz : Nat) : Prop :=
  ∃ A c bm gs v l E, RcX F w g A c bm gs v l (bufL B rd nx) E nx e mz ∧ (∀ n, inB l n = (In n && decide (nx ≤ n))) ∧ (∀ n, nx ≤ n → In n = true → E n = B n) ∧ Inv In B rd nx e
section
variable {F : Nat → Prop} {w w' : World} {g : Nat} {In : Int → Bool} {B : Int → Int} {rd nx e : Int} {mz : Nat}
theorem RcS.fine (h : RcS F w g In B rd nx e mz) (f : Fine w w') : RcS F w' g In B rd nx e mz := by
  obtain ⟨A, c, bm, gs, v, l, E, h1, h2⟩ := h
  exact ⟨A, c, bm, gs, v, l, E, h1.fine f, h2⟩
theorem RcS.kept {S : Nat → Prop} (h : RcS F w g In B rd nx e mz) (k : Kept S w w') (hd : ∀ x, F x → ¬ S x) : RcS F w' g In B rd nx e mz := by
  obtain ⟨A, c, bm, gs, v, l, E, h1, h2⟩ := h
  exact ⟨A, c, bm, gs, v, l, E, h1.kept k hd, h2⟩
theorem RcS.inv (h : RcS F w g In B rd nx e mz) : Inv In B rd nx e := by
  obtain ⟨A, c, bm, gs, v, l, E, _, _, _, h⟩ := h
  exact h
theorem RcS.lt (h : RcS F w g In B rd nx e mz) : ∀ x, F x → x < w.heap.size := by
  obtain ⟨A, c, bm, gs, v, l, E, h1, _⟩ := h
  exact h1.lt
theorem RcS.fg (h : RcS F w g In B rd nx e mz) : F g := by
  obtain ⟨A, c, bm, gs, v, l, E, h1, _⟩ := h
  exact h1.fg
/-- What may come. -/
def tkB (In : Int → Bool) (rd nx e : Int) (m : Int) : Bool := (decide (nx ≤ m) && decide (m < rd + 33)) && (decide (e = 0) || decide (m < e)) && !In m
def putI (In : Int → Bool) (rd nx e : Int) (dsn : Int) (n : Nat) (m : Int) : Bool := In m || (tkB In rd nx e m && (decide (dsn ≤ m) && decide (m < dsn + n)))
def putV (In : Int → Bool) (rd nx e : Int) (dsn : Int) (bs : List Int) (B : Int → Int) (m : Int) : Int := if (tkB In rd nx e m && (decide (dsn ≤ m) && decide (m < dsn + bs.length))) = true then bs.getD (m - dsn).toNat 0 else B m
theorem tkB_may {l : List Rn} {In : Int → Bool} {rd nx e : Int} (h : ∀ n, inB l n = (In n && decide (nx ≤ n))) (m : Int) : mayB nx (rd + 33) e l m = tkB In rd nx e m := by
  unfold mayB tkB
  rw [h]
  cases In m <;> cases decide (nx ≤ m) <;> simp
theorem tkB_iff {In : Int → Bool} {rd nx e m : Int} : tkB In rd nx e m = true ↔ nx ≤ m ∧ m < rd + 33 ∧ (e = 0 ∨ m < e) ∧ In m = false := by
  unfold tkB
  simp [and_assoc]
/-- What Put answers. -/
def PutS (F : Nat → Prop) (g : Nat) (In : Int → Bool) (B : Int → Int) (rd nx e : Int) (mz : Nat) (dsn : Int) (bs : List Int) (w : World) (r : Ending) (w' : World) : Prop :=
  r = .returned (.int .i64 (cntP (fun j => tkB In rd nx e (dsn + j)) bs.length)) ∧ Kept F w w' ∧ ∃ F' nx', RcS F' w' g (putI In rd nx e dsn bs.length) (putV In rd nx e dsn bs B) rd nx' e (mz + bs.length) ∧ nx ≤ nx' ∧ (∀ x, F' x → F x ∨ w.heap.size ≤ x)
theorem cnt_zero {q : Nat → Bool} {k : Nat} (h : ∀ j, j < k → q j = false) : cntP q k = 0 := by
  induction k with
  | zero => rfl
  | succ k ih =>
    rw [cntP_succ, ih (fun j hj => h j (by omega)), h k (by omega)]
    rfl
theorem putS_none {dsn : Int} {bs : List Int} {r : Ending} (h : RcS F w g In B rd nx e mz) (hd : rd + 33 < dsn ∨ dsn + bs.length ≤ 0) (hr : r = .returned (.int .i64 0)) (f : Fine w w') : PutS F g In B rd nx e mz dsn bs w r w' := by
  have hi := h.inv
  have h0 : ∀ m, (tkB In rd nx e m && (decide (dsn ≤ m) && decide (m < dsn + bs.length))) = false := fun m => by
    cases ht : tkB In rd nx e m with
    | false => rfl
    | true =>
      have := tkB_iff.mp ht
      have h1 := hi.r0; have h2 := hi.rn
      rw [Bool.true_and, Bool.and_eq_false_iff, decide_eq_false_iff_not, decide_eq_false_iff_not]
      omega
  have e1 : putI In rd nx e dsn bs.length = In := funext fun m => by unfold putI; rw [h0 m, Bool.or_false]
  have e2 : putV In rd nx e dsn bs B = B := funext fun m => by unfold putV; rw [h0 m]; rfl
  refine ⟨?_, Kept.of_fine f, F, nx, ?_, Int.le_refl _, fun x hx => .inl hx⟩
  · rw [hr, cnt_zero]
    intro j hj
    have := h0 (dsn + j)
    have h3 : (decide (dsn ≤ dsn + (j : Int)) && decide (dsn + (j : Int) < dsn + bs.length)) = true := by simp; omega
    rw [h3, Bool.and_true] at this
    exact this
  · rw [e1, e2]
    obtain ⟨A, c, bm, gs, v, l, E, g1, g2⟩ := h.fine f
    exact ⟨A, c, bm, gs, v, l, E, { g1 with map := g1.map.mono (by omega) }, g2⟩
set_option maxHeartbeats 1000000 in
theorem putS_some {bm gs : Nat} {l : List Rn} {E : Int → Int} {dsn : Int} {bs : List Int} (hby : ∀ x ∈ bs, 0 ≤ x ∧ x ≤ 255) (hl : ∀ n, inB l n = (In n && decide (nx ≤ n))) (hE : ∀ n, nx ≤ n → In n = true → E n = B n) (hi : Inv In B rd nx e)
    (h : PutOf F g bm gs l (bufL B rd nx) E nx e (mz + bs.length) (gotB nx (rd + 33) e l dsn bs.length) (gotE nx (rd + 33) e l dsn bs bs.length E) w w') :
    PutS F g In B rd nx e mz dsn bs w (.returned (.int .i64 (cntP (fun j => mayB nx (rd + 33) e l (dsn + j)) bs.length))) w' := by
  obtain ⟨⟨F', A', c', v', l', E', nx', hX, hF, h1, h2, h3, h4, h5⟩, hk⟩ := h
  have hg : ∀ m, gotB nx (rd + 33) e l dsn bs.length m = (tkB In rd nx e m && (decide (dsn ≤ m) && decide (m < dsn + bs.length))) := fun m => by
    unfold gotB
    rw [tkB_may hl]
  have hI : ∀ m, nx ≤ m → (inB l m || gotB nx (rd + 33) e l dsn bs.length m) = putI In rd nx e dsn bs.length m := fun m hm => by
    unfold putI
    rw [hg, hl, decide_eq_true hm, Bool.and_true]
  have hV : ∀ m, nx ≤ m → putI In rd nx e dsn bs.length m = true → gotE nx (rd + 33) e l dsn bs bs.length E m = putV In rd nx e dsn bs B m := fun m hm hin => by
    unfold gotE putV
    rw [hg]
    split
    · rfl
    · rename_i hn
      unfold putI at hin
      rw [Bool.or_eq_true] at hin
      rcases hin with hin | hin
      · exact hE m hm hin
      · exact absurd hin hn
  have hok : ∀ n, putI In rd nx e dsn bs.length n = true → 1 ≤ n ∧ n < rd + 33 ∧ (e ≠ 0 → n < e) ∧ 0 ≤ putV In rd nx e dsn bs B n ∧ putV In rd nx e dsn bs B n ≤ 255 := fun n hn => by
    unfold putV
    split
    · rename_i hq
      rw [Bool.and_eq_true] at hq
      have g1 := tkB_iff.mp hq.1
      have g2 := hq.2
      rw [Bool.and_eq_true, decide_eq_true_eq, decide_eq_true_eq] at g2
      have g3 := hby _ (getD_mem bs (n - dsn).toNat (by omega))
      have := hi.rn; have := hi.r0
      exact ⟨by omega, g1.2.1, fun h0 => g1.2.2.1.resolve_left h0, g3.1, g3.2⟩
    · rename_i hq
      unfold putI at hn
      rw [Bool.or_eq_true] at hn
      exact hi.ok n (hn.resolve_right hq)
  have hno : putI In rd nx e dsn bs.length nx' = false := by rw [← hI nx' h1]; exact h3
  have hlow : ∀ n, 1 ≤ n → n < nx' → putI In rd nx e dsn bs.length n = true := fun n g1 g2 => by
    by_cases g3 : n < nx
    · unfold putI
      rw [hi.low n g1 g3]
      rfl
    · rw [← hI n (by omega)]
      exact h2 n (by omega) g2
  have hb : nx' ≤ rd + 33 := by
    rcases Int.lt_or_le (rd + 33) nx' with g1 | g1
    · have := (hok _ (hlow (rd + 33) (by have := hi.r0; omega) g1)).2.1
      omega
    · exact g1
  have hee : e = 0 ∨ (nx' ≤ e ∧ e ≤ rd + 33) := by
    rcases hi.en with g1 | g1
    · exact .inl g1
    · refine .inr ⟨?_, g1.2⟩
      rcases Int.lt_or_le e nx' with g2 | g2
      · have h0 : e ≠ 0 := by have := hi.rn; have := hi.r0; omega
        have := (hok _ (hlow e (by have := hi.rn; have := hi.r0; omega) g2)).2.2.1 h0
        omega
      · exact g2
  refine ⟨?_, hk, F', nx', ⟨A', c', bm, gs, v', l', E', ?_, fun n => ?_, fun n g1 g2 => ?_, ⟨hi.r0, by have := hi.rn; omega, hb, hi.big, hlow, hno, hok, hee⟩⟩, h1, hF⟩
  · congr 3
    exact funext fun j => tkB_may hl _
  · have eb : bufL B rd nx ++ (List.range (nx' - nx).toNat).map (fun i : Nat => gotE nx (rd + 33) e l dsn bs bs.length E (nx + i)) = bufL (putV In rd nx e dsn bs B) rd nx' := by
      have hrn := hi.rn
      unfold bufL
      rw [show (nx' - 1 - rd).toNat = (nx - 1 - rd).toNat + (nx' - nx).toNat by omega, List.range_add, List.map_append, List.map_map]
      congr 1
      · refine List.map_congr_left (fun i hi' => ?_)
        have := List.mem_range.mp hi'
        unfold putV
        have hz : (tkB In rd nx e (rd + 1 + (i : Int)) && (decide (dsn ≤ rd + 1 + (i : Int)) && decide (rd + 1 + (i : Int) < dsn + bs.length))) = false := by
          have : tkB In rd nx e (rd + 1 + (i : Int)) = false := by
            cases ht : tkB In rd nx e (rd + 1 + (i : Int)) with
            | false => rfl
            | true => have := (tkB_iff.mp ht).1; omega
          rw [this, Bool.false_and]
        rw [hz]
        rfl
      · refine List.map_congr_left (fun i hi' => ?_)
        have := List.mem_range.mp hi'
        rw [Function.comp, show rd + 1 + (((nx - 1 - rd).toNat + i : Nat) : Int) = nx + i by omega]
        refine hV (nx + i) (by omega) ?_
        exact hlow _ (by have := hi.r0; omega) (by omega)
    rw [eb] at hX
    exact hX
  · rw [h4]
    by_cases g1 : nx ≤ n
    · rw [hI n g1]
    · have g2 : ¬ nx' ≤ n := by omega
      rw [decide_eq_false g2, Bool.and_false, Bool.and_false]
  · rw [h5 n g1]
    exact hV n (by omega) g2
theorem sput_any (dsn : Int) (hd : -9223372036854775808 ≤ dsn ∧ dsn ≤ 9223372036854775807) (bs : List Int) (n cb : Nat) (Ab : Option Addr) (hn : bs.length = n) (hnb : n ≤ 100000) (hby : ∀ x ∈ bs, 0 ≤ x ∧ x ≤ 255) (hmz : mz + n ≤ 100000000) (w : World) (hrs : RS layB w Ab cb bs) (hab : 0 < n → ∀ b o, Ab = some ⟨b, o, none⟩ → ¬ F b) (h : RcS F w g In B rd nx e mz) :
    Calls Try.prog 33 #[.pointer (some ⟨g, 0, none⟩), .int .i64 dsn, .slice Ab n cb] w (PutS F g In B rd nx e mz dsn bs w) := by
  have hi := h.inv
  obtain ⟨A, c, bm, gs, v, l, E, hX, hl, hE, _⟩ := id h
  have hlen := bufL_len B rd nx
  have hed : nx - ((bufL B rd nx).length : Int) + 32 = rd + 33 := by rw [hlen]; have := hi.rn; omega
  have hr0 := hi.r0; have hrn := hi.rn; have hnr := hi.nr; have hbig := hi.big
  by_cases h1 : rd + 33 < dsn ∨ dsn < -1099511627776
  · have HE := Lib.hid (edge_any (rd + 33) hed ⟨by omega, by omega, by rw [hlen]; omega⟩ w hX)
    have HS := Lib.hid h
    have hdn : Hid (rd + 33 < dsn ∨ dsn + bs.length ≤ 0) := Lib.hid (by omega)
    obtain ⟨ed, hed2⟩ : ∃ ed, rd + 33 = ed := ⟨_, rfl⟩
    rw [hed2] at HE h1
    clear h hX hl hE hlen hed hr0 hrn hnr hbig hrs hby hi hed2
    by_cases h2 : ed < dsn
    · have h2' : dsn > ed := h2
      clear h1
      go_enter Try.func33, Try.ntmps33
      go_wp2_with fail
      refine HE.out.mono ?_
      rintro r w1 ⟨rfl, f1⟩
      go_wp2_with fail
      go_ret
      exact putS_none HS.out hdn.out rfl f1
    · have h3 : dsn < -1099511627776 := h1.resolve_left h2
      have h2' : ¬ dsn > ed := h2
      clear h1
      go_enter Try.func33, Try.ntmps33
      go_wp2_with fail
      refine HE.out.mono ?_
      rintro r w1 ⟨rfl, f1⟩
      go_wp2_with fail
      go_ret
      exact putS_none HS.out hdn.out rfl f1
  · subst hn
    refine (put_main (rd + 33) hed ⟨by omega, by omega, by omega, by rw [hlen]; omega⟩ (fun m hm => ?_) (by rw [hl, hi.no, Bool.false_and]) dsn (by omega) bs bs.length cb Ab rfl hnb hby hmz w hrs hab hX).mono (fun r w' hr => ?_)
    · rw [hl, Bool.and_eq_true, decide_eq_true_eq] at hm
      exact ⟨hm.2, (hi.ok m hm.1).2.1⟩
    · rw [hr.1]
      exact putS_some hby hl hE hi hr.2
end
end Go.Proofs.Ytnigfdldfmiaiaa
