/- Contracts of the document's manager beside the program's state: Tell, Untell, Told, Gone, Untold. -/
import Derived.Test.YtbgdcpecpcmjdaaPath9
namespace Go.Proofs.Ytbgdcpecpcmjdaa
open Go.ChangeShapes Go.WideShapes Go.ChangeAt Go.RowKit
set_option linter.unusedVariables false

section
variable {w0 w : World} {g : Nat} {v : Nat → Prop} {xs ys zs : List Int} {Ls Ms : List (Int × Int)} {m : Int} {A : Option Addr} {c : Nat}
theorem RefB.lt (h : RefB w g v xs ys Ls m) : g < w.heap.size ∧ ¬ v g := by
  obtain ⟨A1, c1, A2, c2, A3, c3, hb, h1, h2, h3, hg, s1, s2, s3⟩ := h
  exact ⟨hb.lt, hg⟩
theorem RefB.set1 (h : RefB w0 g v xs ys Ls m) (hv : ∀ k, v k → k < w0.heap.size) (f : Fine w0 w) (ho : Own LI 3 w w0.heap.size (.slice A zs.length c) zs) :
    RefB (w.setCell ⟨g, 0, none⟩ (.slice A zs.length c)) g v zs ys Ls m ∧ Kept (· = g) w0 (w.setCell ⟨g, 0, none⟩ (.slice A zs.length c)) := by
  obtain ⟨A1, c1, A2, c2, A3, c3, hb, h1, h2, h3, hg, s1, s2, s3⟩ := h
  have hlt := hb.lt
  have hset : Kept (· = g) w (w.setCell ⟨g, 0, none⟩ (.slice A zs.length c)) := (by repeat (first | exact Kept.refl _ _ | assumption | (refine Kept.setIn ?_ (by simp) _) | refine Kept.alloc ?_ _ | refine Kept.drew ?_ | refine Kept.drewN ?_ _ | refine Kept.trans ?_ (by assumption) | refine Kept.trans ?_ (Kept.of_fine (by assumption))))
  have hss : (w.setCell ⟨g, 0, none⟩ (.slice A zs.length c)).heap.size = w.heap.size := by simp [World.setCell]
  refine ⟨⟨A, c, A2, c2, A3, c3, (hb.fine f).set_ 0 _, ho.rs.1.kept hset (fun b off e => by have := ho.from_ b off e; omega), (h2.fine f).kept hset (fun b off e => (s2 b off e).2.2.1), (h3.fine f).kept hset (fun k hk => (s3 k hk).1), hg, fun b off e => ?_, fun b off e => ?_, s3⟩, (Kept.of_fine f).trans hset⟩
  · have h4 := ho.from_ b off e
    exact ⟨fun e' => by have := hv b e'; omega, by omega, by omega, fun e' => by have := h3.lt b e'; omega⟩
  · have h4 := s2 b off e
    have := f.size
    exact ⟨h4.1, by omega, h4.2.2⟩
theorem RefB.set2 (h : RefB w0 g v xs ys Ls m) (hv : ∀ k, v k → k < w0.heap.size) (f : Fine w0 w) (ho : Own LI 3 w w0.heap.size (.slice A zs.length c) zs) :
    RefB (w.setCell ⟨g, 1, none⟩ (.slice A zs.length c)) g v xs zs Ls m ∧ Kept (· = g) w0 (w.setCell ⟨g, 1, none⟩ (.slice A zs.length c)) := by
  obtain ⟨A1, c1, A2, c2, A3, c3, hb, h1, h2, h3, hg, s1, s2, s3⟩ := h
  have hlt := hb.lt
  have hset : Kept (· = g) w (w.setCell ⟨g, 1, none⟩ (.slice A zs.length c)) := (by repeat (first | exact Kept.refl _ _ | assumption | (refine Kept.setIn ?_ (by simp) _) | refine Kept.alloc ?_ _ | refine Kept.drew ?_ | refine Kept.drewN ?_ _ | refine Kept.trans ?_ (by assumption) | refine Kept.trans ?_ (Kept.of_fine (by assumption))))
  have hss : (w.setCell ⟨g, 1, none⟩ (.slice A zs.length c)).heap.size = w.heap.size := by simp [World.setCell]
  refine ⟨⟨A1, c1, A, c, A3, c3, (hb.fine f).set_ 1 _, (h1.fine f).kept hset (fun b off e => (s1 b off e).2.2.1), ho.rs.1.kept hset (fun b off e => by have := ho.from_ b off e; omega), (h3.fine f).kept hset (fun k hk => (s3 k hk).1), hg, fun b off e => ?_, fun b off e => ?_, s3⟩, (Kept.of_fine f).trans hset⟩
  · have h4 := s1 b off e
    have := f.size
    exact ⟨h4.1, by omega, h4.2.2⟩
  · have h4 := ho.from_ b off e
    exact ⟨fun e' => by have := hv b e'; omega, by omega, by omega, fun e' => by have := h3.lt b e'; omega⟩
end

/-- The document's manager is the program's L. -/
def RefL (w : World) (g : Nat) (v : Nat → Prop) (L : List Bool) (m : Int) : Prop := L.length = 24 ∧ ∃ Ls, Match L Ls ∧ RefB w g v (addrs (ownB L) 4) (addrs (othB L) 4) Ls m
section
variable {w w' : World} {g : Nat} {v : Nat → Prop} {L : List Bool} {m : Int}
theorem RefL.lt (h : RefL w g v L m) : g < w.heap.size ∧ ¬ v g := by
  obtain ⟨_, Ls, _, hb⟩ := h; exact hb.lt
theorem RefL.kept {S : Nat → Prop} (h : RefL w g v L m) (hf : Kept S w w') (hS : ∀ k, ¬ v k → k < w.heap.size → ¬ S k) : RefL w' g v L m := by
  obtain ⟨hl, Ls, hm, hb⟩ := h; exact ⟨hl, Ls, hm, hb.kept hf hS⟩
theorem RefL.fine (h : RefL w g v L m) (hf : Fine w w') : RefL w' g v L m := by
  obtain ⟨hl, Ls, hm, hb⟩ := h; exact ⟨hl, Ls, hm, hb.fine hf⟩
theorem RefL.less {v' : Nat → Prop} (h : RefL w g v L m) (hv : ∀ k, k < w.heap.size → v' k → v k) : RefL w g v' L m := by
  obtain ⟨hl, Ls, hm, hb⟩ := h; exact ⟨hl, Ls, hm, hb.less hv⟩
end
theorem Match.small {L : List Bool} {Ls : List (Int × Int)} (h : Match L Ls) : Ls.length ≤ 16 := by rw [h.len]; exact pairs_len_16 L

/-! What a told address turns. -/
theorem tell_own {L : List Bool} (hL : L.length = 24) {n : Nat} (hn : n < 4) (v : Bool) : addrs (ownB (L.set n v)) 4 = addrs (fun k => if k = n then v else ownB L k) 4 ∧ addrs (othB (L.set n v)) 4 = addrs (othB L) 4 ∧ ∀ a b, a < 4 → b < 4 → flowB (L.set n v) a b = flowB L a b := by
  refine ⟨addrs_congr fun i hi => ?_, addrs_congr fun i hi => ?_, fun a b ha hb => ?_⟩
  · unfold ownB; rw [getD_set _ _ _ _ (by omega)]
    by_cases e : n = i
    · rw [if_pos e, if_pos e.symm]
    · rw [if_neg e, if_neg (fun h => e h.symm)]
  · unfold othB; rw [getD_set _ _ _ _ (by omega), if_neg (by omega)]
  · unfold flowB; rw [getD_set _ _ _ _ (by omega), if_neg (by omega)]
theorem tell_oth {L : List Bool} (hL : L.length = 24) {n : Nat} (hn : n < 4) (v : Bool) : addrs (othB (L.set (4 + n) v)) 4 = addrs (fun k => if k = n then v else othB L k) 4 ∧ addrs (ownB (L.set (4 + n) v)) 4 = addrs (ownB L) 4 ∧ ∀ a b, a < 4 → b < 4 → flowB (L.set (4 + n) v) a b = flowB L a b := by
  refine ⟨addrs_congr fun i hi => ?_, addrs_congr fun i hi => ?_, fun a b ha hb => ?_⟩
  · unfold othB; rw [getD_set _ _ _ _ (by omega)]
    by_cases e : n = i
    · rw [if_pos (by omega), if_pos e.symm]
    · rw [if_neg (by omega), if_neg (fun h => e h.symm)]
  · unfold ownB; rw [getD_set _ _ _ _ (by omega), if_neg (by omega)]
  · unfold flowB; rw [getD_set _ _ _ _ (by omega), if_neg (by omega)]

theorem reftell_any (g : Nat) (v : Nat → Prop) (L : List Bool) (m a : Int) (w : World) (hv : ∀ k, v k → k < w.heap.size) (h : RefL w g v L m) :
    Calls Try.prog 18 #[.pointer (some ⟨g, 0, none⟩), .int .i64 a] w fun e w' => e = .returned (.int .i64 (tellC L a)) ∧ RefL w' g v (tellL L a) m ∧ Kept (· = g) w w' := by
  obtain ⟨hL, Ls, hm, hb⟩ := h
  have hlt := hb.lt
  have HM := Lib.hid hm; have HB := Lib.hid hb
  clear hm
  cases hmay : mayI a
  · have HC : Hid (tellC L a = 1 ∧ tellL L a = L) := by constructor <;> simp [tellC, tellL, hmay]
    clear hb
    go_enter Try.func18, Try.ntmps18
    go_wp2_with fail
    refine (refmay_any _ _).mono ?_; rintro e w1 ⟨rfl, rfl⟩
    rw [hmay]
    go_wp2_with fail
    go_ret
    exact ⟨ret_int HC.out.1.symm, by rw [HC.out.2]; exact ⟨hL, Ls, HM.out, HB.out⟩, Kept.refl _ _⟩
  · have HMY := Lib.hid hmay
    obtain ⟨n, rfl, hn⟩ := mayI_nat hmay
    have hhas := addrs_has (p := ownB L) (k := 4) hn
    have hz := addrs_le (ownB L) 4
    obtain ⟨A1, c1, A2, c2, A3, c3, hb0, h1, h2, h3, hg, s1, s2, s3⟩ := hb
    have d0 : w.cell? ⟨g, 0, none⟩ = some (.slice A1 (addrs (ownB L) 4).length c1) := hb0.cell 0
    have r0 := hb0.frozen 0
    have H1 := Lib.hid h1; have HB0 := Lib.hid hb0
    clear hb0 h1 h2 h3 s1 s2 s3
    cases ho : ownB L n
    · have HC : Hid (tellC L n = 0 ∧ tellL L n = L.set n true) := ⟨by simp only [tellC, hmay, Int.toNat_natCast, ho]; rfl, by simp only [tellL, hmay, if_true, Int.toNat_natCast]⟩
      rw [ho] at hhas
      have HH := Lib.hid hhas
      clear hmay hhas
      go_enter Try.func18, Try.ntmps18
      go_wp2_with fail
      refine (refmay_any _ _).mono ?_; rintro e w1 ⟨rfl, rfl⟩
      rw [HMY.out]
      go_wp2_with fail
      refine (has_any A1 c1 _ n hz _ H1.out).mono ?_; rintro e w1 ⟨rfl, rfl⟩
      rw [HH.out]
      go_wp2_with fail
      refine (more_any A1 c1 _ n hz _ H1.out).mono ?_; rintro e w1 ⟨A, c, rfl, ho1, f1⟩
      rw [more_addrs hn] at ho1 ⊢
      have ht := tell_own hL hn true
      generalize addrs (fun k => if k = n then true else ownB L k) 4 = zs at ho1 ht ⊢
      have HT := Lib.hid ht; clear ht
      have HO1 := Lib.hid ho1; clear ho1
      have hB1 := HB0.out.fine f1
      have d1 : w1.cell? ⟨g, 0, none⟩ = some (.slice A1 (addrs (ownB L) 4).length c1) := hB1.cell 0
      have r1 := hB1.frozen 0
      clear hB1
      go_wp2_with fail
      go_ret
      have hset := HB.out.set1 hv f1 HO1.out
      have ht := HT.out
      exact ⟨ret_int HC.out.1.symm, by rw [HC.out.2]; exact ⟨by rw [List.length_set]; exact hL, Ls, HM.out.congr ht.2.2, by rw [ht.1, ht.2.1]; exact hset.1⟩, hset.2⟩
    · have HC : Hid (tellC L n = 8 ∧ tellL L n = L) := ⟨by simp only [tellC, hmay, Int.toNat_natCast, ho]; rfl, by simp only [tellL, hmay, if_true, Int.toNat_natCast]; exact set_same (by omega) ho⟩
      rw [ho] at hhas
      have HH := Lib.hid hhas
      clear hmay hhas
      go_enter Try.func18, Try.ntmps18
      go_wp2_with fail
      refine (refmay_any _ _).mono ?_; rintro e w1 ⟨rfl, rfl⟩
      rw [HMY.out]
      go_wp2_with fail
      refine (has_any A1 c1 _ n hz _ H1.out).mono ?_; rintro e w1 ⟨rfl, rfl⟩
      rw [HH.out]
      go_wp2_with fail
      go_ret
      exact ⟨ret_int HC.out.1.symm, by rw [HC.out.2]; exact ⟨hL, Ls, HM.out, HB.out⟩, Kept.refl _ _⟩
theorem refuntell_any (g : Nat) (v : Nat → Prop) (L : List Bool) (m a : Int) (w : World) (hv : ∀ k, v k → k < w.heap.size) (h : RefL w g v L m) :
    Calls Try.prog 20 #[.pointer (some ⟨g, 0, none⟩), .int .i64 a] w fun e w' => e = .returned (.int .i64 (untellC L a)) ∧ RefL w' g v (untellL L a) m ∧ Kept (· = g) w w' := by
  obtain ⟨hL, Ls, hm, hb⟩ := h
  have hlt := hb.lt
  have HM := Lib.hid hm; have HB := Lib.hid hb
  clear hm
  cases hmay : mayI a
  · have HC : Hid (untellC L a = 1 ∧ untellL L a = L) := by constructor <;> simp [untellC, untellL, hmay]
    clear hb
    go_enter Try.func20, Try.ntmps20
    go_wp2_with fail
    refine (refmay_any _ _).mono ?_; rintro e w1 ⟨rfl, rfl⟩
    rw [hmay]
    go_wp2_with fail
    go_ret
    exact ⟨ret_int HC.out.1.symm, by rw [HC.out.2]; exact ⟨hL, Ls, HM.out, HB.out⟩, Kept.refl _ _⟩
  · have HMY := Lib.hid hmay
    obtain ⟨n, rfl, hn⟩ := mayI_nat hmay
    have hhas := addrs_has (p := ownB L) (k := 4) hn
    have hz := addrs_le (ownB L) 4
    obtain ⟨A1, c1, A2, c2, A3, c3, hb0, h1, h2, h3, hg, s1, s2, s3⟩ := hb
    have d0 : w.cell? ⟨g, 0, none⟩ = some (.slice A1 (addrs (ownB L) 4).length c1) := hb0.cell 0
    have r0 := hb0.frozen 0
    have H1 := Lib.hid h1; have HB0 := Lib.hid hb0
    clear hb0 h1 h2 h3 s1 s2 s3
    cases ho : ownB L n
    · have HC : Hid (untellC L n = 6 ∧ untellL L n = L) := ⟨by simp only [untellC, hmay, Int.toNat_natCast, ho]; rfl, by simp only [untellL, hmay, if_true, Int.toNat_natCast]; exact set_same (by omega) ho⟩
      rw [ho] at hhas
      have HH := Lib.hid hhas
      clear hmay hhas
      go_enter Try.func20, Try.ntmps20
      go_wp2_with fail
      refine (refmay_any _ _).mono ?_; rintro e w1 ⟨rfl, rfl⟩
      rw [HMY.out]
      go_wp2_with fail
      refine (has_any A1 c1 _ n hz _ H1.out).mono ?_; rintro e w1 ⟨rfl, rfl⟩
      rw [HH.out]
      go_wp2_with fail
      go_ret
      exact ⟨ret_int HC.out.1.symm, by rw [HC.out.2]; exact ⟨hL, Ls, HM.out, HB.out⟩, Kept.refl _ _⟩
    · have HC : Hid (untellC L n = 0 ∧ untellL L n = L.set n false) := ⟨by simp only [untellC, hmay, Int.toNat_natCast, ho]; rfl, by simp only [untellL, hmay, if_true, Int.toNat_natCast]⟩
      rw [ho] at hhas
      have HH := Lib.hid hhas
      clear hmay hhas
      go_enter Try.func20, Try.ntmps20
      go_wp2_with fail
      refine (refmay_any _ _).mono ?_; rintro e w1 ⟨rfl, rfl⟩
      rw [HMY.out]
      go_wp2_with fail
      refine (has_any A1 c1 _ n hz _ H1.out).mono ?_; rintro e w1 ⟨rfl, rfl⟩
      rw [HH.out]
      go_wp2_with fail
      refine (less_any A1 c1 _ n hz _ H1.out).mono ?_; rintro e w1 ⟨A, c, rfl, ho1, f1⟩
      rw [less_addrs hn] at ho1 ⊢
      have ht := tell_own hL hn false
      generalize addrs (fun k => if k = n then false else ownB L k) 4 = zs at ho1 ht ⊢
      have HT := Lib.hid ht; clear ht
      have HO1 := Lib.hid ho1; clear ho1
      have hB1 := HB0.out.fine f1
      have d1 : w1.cell? ⟨g, 0, none⟩ = some (.slice A1 (addrs (ownB L) 4).length c1) := hB1.cell 0
      have r1 := hB1.frozen 0
      clear hB1
      go_wp2_with fail
      go_ret
      have hset := HB.out.set1 hv f1 HO1.out
      have ht := HT.out
      exact ⟨ret_int HC.out.1.symm, by rw [HC.out.2]; exact ⟨by rw [List.length_set]; exact hL, Ls, HM.out.congr ht.2.2, by rw [ht.1, ht.2.1]; exact hset.1⟩, hset.2⟩
end Go.Proofs.Ytbgdcpecpcmjdaa
