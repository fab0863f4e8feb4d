/- Contracts of package octet's functions, and of the reference's. -/
import Derived.Test.YthnennleblgjeaaDoorBytes
import Derived.Test.YthnennleblgjeaaDoorOctPlain
import Derived.WalkKit
import Derived.LoopTactic
import Derived.Outline
import Derived.RegionTactic
import Derived.BigRegion
import Derived.BigQuiet
import Derived.Deep.QuietTactic
import Derived.Deep.RegionWith
import Derived.WalkLawsBesides
namespace Go.Proofs.YthnennleblgjeaaDoor
open Go.ChangeShapes Go.WideShapes Go.ChangeAt Go.RowKit
set_option linter.unusedVariables false

/-- A slice of slices of bytes that is read. -/
def BSS (w : World) (A : Option Addr) (c : Nat) (ls : List (List Int)) : Prop :=
  ∃ us : List Value, us.length = ls.length ∧ Src w A c us ∧ ∀ (i : Nat) (u : Value) (l : List Int), us[i]? = some u → ls[i]? = some l → ∃ A' c', u = Value.slice A' l.length c' ∧ BS w A' c' l
theorem BSS.fine {w w' : World} {A : Option Addr} {c : Nat} {ls : List (List Int)} (h : BSS w A c ls) (hf : Fine w w') : BSS w' A c ls := by
  obtain ⟨us, h1, h2, h3⟩ := h
  refine ⟨us, h1, h2.fine hf, fun i u l hu hl => ?_⟩
  obtain ⟨A', c', e, hb⟩ := h3 i u l hu hl
  exact ⟨A', c', e, hb.fine hf⟩
theorem BSS.at_ {w : World} {A : Option Addr} {c : Nat} {ls : List (List Int)} (h : BSS w A c ls) {k : Nat} (hk : k < ls.length) :
    ∃ b off A' c' l, Hid (ls.getD k [] = l) ∧ A = some ⟨b, off, none⟩ ∧ b < w.heap.size ∧ w.cell? ⟨b, off + k, none⟩ = some (.slice A' l.length c') ∧ BS w A' c' l := by
  obtain ⟨us, h1, h2, h3⟩ := h
  obtain ⟨b, off, e, hb, hc⟩ := h2.2.2.2 (by omega)
  have hu : us[k]? = some (us[k]'(by omega)) := List.getElem?_eq_getElem (by omega)
  have hl : ls[k]? = some (ls.getD k []) := by simp [List.getD, List.getElem?_eq_getElem hk]
  obtain ⟨A', c', e', hb'⟩ := h3 k _ _ hu hl
  exact ⟨b, off, A', c', _, rfl, e, hb, by rw [hc k _ hu, e'], hb'⟩

theorem BSS.two {w : World} {g n1 n2 c1 c2 : Nat} {A1 A2 : Option Addr} {l1 l2 : List Int} (h : Blk w g 24 #[.slice A1 n1 c1, .slice A2 n2 c2]) (e1 : n1 = l1.length) (e2 : n2 = l2.length) (h1 : BS w A1 c1 l1) (h2 : BS w A2 c2 l2) :
    BSS w (some ⟨g, 0, none⟩) 2 [l1, l2] := by
  subst e1 e2
  refine ⟨[.slice A1 l1.length c1, .slice A2 l2.length c2], rfl, ⟨by simp, by unfold maxLen; omega, fun e => (by cases e), fun _ => ⟨g, 0, rfl, h.lt, fun i v hv => ?_⟩⟩, fun i u l hu hl' => ?_⟩
  · match i, hv with
    | 0, hv => simp at hv; subst hv; exact h.cell 0
    | 1, hv => simp at hv; subst hv; exact h.cell 1
  · match i, hu, hl' with
    | 0, hu, hl' => simp at hu hl'; subst hu hl'; exact ⟨A1, c1, rfl, h1⟩
    | 1, hu, hl' => simp at hu hl'; subst hu hl'; exact ⟨A2, c2, rfl, h2⟩

theorem width_any (x : Int) (w : World) : Calls Tryd.prog 54 #[.int .i64 x] w fun e w' => e = .returned (.int .i64 (width x)) ∧ Fine w w' := by
  go_enter Tryd.func54, Tryd.ntmps54
  go_wp2
  all_goals
    go_ret
    exact ⟨ret_int (by unfold width; omega), (by repeat (first | exact Fine.refl _ | assumption | refine Fine.alloc ?_ _ | refine Fine.drew ?_ | refine Fine.drewN ?_ _ | refine Fine.trans ?_ (by assumption) | (refine Fine.kept ?_ (by assumption) (by intro x hx; first | omega | (simp; omega))) | (refine Fine.setCell ?_ (by first | assumption | (simp; omega)) _)))⟩

theorem flatten_take (ls : List (List Int)) (k : Nat) (hk : k < ls.length) : (ls.take (k + 1)).flatten = (ls.take k).flatten ++ ls.getD k [] := by
  rw [List.take_succ_eq_append_getElem hk, List.flatten_append]
  simp [List.getD, hk]
theorem flatten_take_le (ls : List (List Int)) (k : Nat) : (ls.take k).flatten.length ≤ ls.flatten.length := by
  have e : ls.flatten = (ls.take k).flatten ++ (ls.drop k).flatten := by rw [← List.flatten_append, List.take_append_drop]
  rw [e, List.length_append]; omega

theorem join_any (A : Option Addr) (n c : Nat) (ls : List (List Int)) (w : World) (h : BSS w A c ls) (hn : n = ls.length) (hs : ls.flatten.length ≤ 1000000000) (hl : ls.length ≤ 1000000000) :
    Calls Tryd.prog 37 #[.slice A n c] w fun e w' => ∃ v, e = .returned v ∧ OwnB w' w.heap.size v ls.flatten ∧ Fine w w' := by
  subst hn
  go_enter Tryd.func37, Tryd.ntmps37
  go_wp2
  go_loopw [8, 3] (fun i v wr => ∃ k : Nat, k ≤ ls.length ∧ i = .int .i64 k ∧ OwnB wr w.heap.size v (ls.take k).flatten ∧ Fine w wr) (fun i _ _ => ls.length - (intOf i).toNat)
  case atStart => exact ⟨0, Nat.zero_le _, rfl, by simpa using OwnB.nil_ w w.heap.size, (by repeat (first | exact Fine.refl _ | assumption | refine Fine.alloc ?_ _ | refine Fine.drew ?_ | refine Fine.drewN ?_ _ | refine Fine.trans ?_ (by assumption) | (refine Fine.kept ?_ (by assumption) (by intro x hx; first | omega | (simp; omega))) | (refine Fine.setCell ?_ (by first | assumption | (simp; omega)) _)))⟩
  case round =>
    obtain ⟨k, hk, rfl, hown, hf⟩ := hrel
    by_cases hlt : k < ls.length
    · obtain ⟨b, off, A', c', l, HL, rfl, hb, hck, hbs⟩ := (h.fine hf).at_ hlt
      have hle := flatten_take_le ls (k + 1)
      have hfl := flatten_take ls k hlt
      rw [HL.out] at hfl
      rw [hfl, List.length_append] at hle
      have HFL := Lib.hid hfl; clear hfl h
      go_wp2_with (at_builtin; refine wpList_appB rfl (.tmp 12) (.tmp 13) rfl w.heap.size _ _ rfl hown A' _ c' _ rfl rfl hbs (by omega) hf.size ?_; intro v' w1 hown1 _ hg1 _)
      have hf1 : Fine w w1 := hf.grown hg1 (fun k hk => (hown.lt k hk).1)
      go_roundw
      case rel => exact ⟨k + 1, by omega, by go_num, by rw [HFL.out]; exact hown1, hf1⟩
      case measure => simp [intOf]; omega
    · have e : k = ls.length := by omega
      subst e
      rw [List.take_length] at hown
      go_wp2
      go_ret
      exact ⟨_, rfl, hown, hf⟩

/-- 'Join' of one. -/
theorem join_one (g : Nat) (A : Option Addr) (m c : Nat) (xs : List Int) (w : World) (hc : w.cell? ⟨g, 0, none⟩ = some (.slice A m c)) (hm : m = xs.length) (h : BS w A c xs) (hl : xs.length ≤ 100000000) :
    Calls Tryd.prog 37 #[.slice (some ⟨g, 0, none⟩) 1 1] w fun e w' => ∃ v, e = .returned v ∧ OwnB w' w.heap.size v xs ∧ Fine w w' := by
  subst hm
  have e : [xs].flatten = xs := by simp
  have hb : BSS w (some ⟨g, 0, none⟩) 1 [xs] := ⟨[.slice A xs.length c], rfl, ⟨by simp, by unfold maxLen; omega, fun e => (by cases e), fun _ => ⟨g, 0, rfl, lt_of_cellN hc, fun i v hv => (by
      match i, hv with
      | 0, hv => simp at hv; subst hv; exact hc)⟩⟩, fun i u l hu hl' => (by
      match i, hu, hl' with
      | 0, hu, hl' => simp at hu hl'; subst hu hl'; exact ⟨A, c, rfl, h⟩)⟩
  have := join_any (some ⟨g, 0, none⟩) 1 1 [xs] w hb rfl (by rw [e]; omega) (by simp)
  rwa [e] at this

set_option maxHeartbeats 1000000 in
/-- 'Cut' at a place that may be. -/
theorem cut_any (A : Option Addr) (c : Nat) (xs : List Int) (n : Nat) (hn : n ≤ xs.length) (hl : xs.length ≤ 100000000) (w : World) (h : BS w A c xs) :
    Calls Tryd.prog 44 #[.slice A xs.length c, .int .i64 n] w fun e w' => ∃ u v, e = .returned (.tuple #[u, v, .int .i64 0]) ∧ OwnB w' w.heap.size u (xs.take n) ∧ OwnB w' w.heap.size v (xs.drop n) ∧ Fine w w' := by
  have R1 := h.run_front n hn
  obtain ⟨A', R2, B2⟩ := h.run_behind n hn
  have H := Lib.hid h; clear h
  have HB2 := Lib.hid B2; clear B2
  go_enter Tryd.func44, Tryd.ntmps44
  go_wp2
  go_region_with (first
    | (go_at_call 37
       have tok := o1
       clear tok
       refine (join_one _ A' (xs.length - n) (c - n) (xs.drop n) _ ?_ ?_ ?_ ?_).mono ?_
       · exact Blk.cell1 (t := 24) (by repeat (first | assumption | (with_reducible refine Blk.newAt ?_; first | rfl | (simp; done)) | (with_reducible refine Blk.drew ?_) | (with_reducible refine Blk.alloc ?_ _) | (refine Blk.fine ?_ (by assumption))))
       · simp
       · exact HB2.out _ (H.out.fine (by repeat (first | exact Fine.refl _ | assumption | refine Fine.alloc ?_ _ | refine Fine.drew ?_ | refine Fine.drewN ?_ _ | refine Fine.trans ?_ (by assumption) | (refine Fine.kept ?_ (by assumption) (by intro x hx; first | omega | (simp; omega))) | (refine Fine.setCell ?_ (by first | assumption | (simp; omega)) _))))
       · simp; omega
       rintro e w2 ⟨v, rfl, o2, f2⟩)
    | (go_at_call 37
       refine (join_one _ A n c (xs.take n) _ ?_ ?_ ?_ ?_).mono ?_
       · exact Blk.cell1 (t := 24) (by repeat (first | assumption | (with_reducible refine Blk.newAt ?_; first | rfl | (simp; done)) | (with_reducible refine Blk.drew ?_) | (with_reducible refine Blk.alloc ?_ _) | (refine Blk.fine ?_ (by assumption))))
       · simp; omega
       · exact (H.out.front n hn).fine (by repeat (first | exact Fine.refl _ | assumption | refine Fine.alloc ?_ _ | refine Fine.drew ?_ | refine Fine.drewN ?_ _ | refine Fine.trans ?_ (by assumption) | (refine Fine.kept ?_ (by assumption) (by intro x hx; first | omega | (simp; omega))) | (refine Fine.setCell ?_ (by first | assumption | (simp; omega)) _)))
       · simp; omega
       rintro e w1 ⟨u, rfl, o1, f1⟩))
  all_goals
    go_wp2
    go_ret3
    exact ⟨_, _, rfl, (o1.fine (by repeat (first | exact Fine.refl _ | assumption | refine Fine.alloc ?_ _ | refine Fine.drew ?_ | refine Fine.drewN ?_ _ | refine Fine.trans ?_ (by assumption) | (refine Fine.kept ?_ (by assumption) (by intro x hx; first | omega | (simp; omega))) | (refine Fine.setCell ?_ (by first | assumption | (simp; omega)) _)))).lower (by simp <;> omega), o2.lower (by have := f1.size; simp at *; omega), (by repeat (first | exact Fine.refl _ | assumption | refine Fine.alloc ?_ _ | refine Fine.drew ?_ | refine Fine.drewN ?_ _ | refine Fine.trans ?_ (by assumption) | (refine Fine.kept ?_ (by assumption) (by intro x hx; first | omega | (simp; omega))) | (refine Fine.setCell ?_ (by first | assumption | (simp; omega)) _)))⟩

theorem cut_neg (A : Option Addr) (m c : Nat) (n : Int) (hn : n < 0) (w : World) :
    Calls Tryd.prog 44 #[.slice A m c, .int .i64 n] w fun e w' => e = .returned (.tuple #[.slice none 0 0, .slice none 0 0, .int .i64 1]) ∧ Fine w w' := by
  go_enter Tryd.func44, Tryd.ntmps44
  go_wp2
  go_ret3
  exact ⟨rfl, (by repeat (first | exact Fine.refl _ | assumption | refine Fine.alloc ?_ _ | refine Fine.drew ?_ | refine Fine.drewN ?_ _ | refine Fine.trans ?_ (by assumption) | (refine Fine.kept ?_ (by assumption) (by intro x hx; first | omega | (simp; omega))) | (refine Fine.setCell ?_ (by first | assumption | (simp; omega)) _)))⟩
theorem cut_over (A : Option Addr) (m c : Nat) (n : Int) (hn : (m : Int) < n) (w : World) :
    Calls Tryd.prog 44 #[.slice A m c, .int .i64 n] w fun e w' => e = .returned (.tuple #[.slice none 0 0, .slice none 0 0, .int .i64 3]) ∧ Fine w w' := by
  have h0 : 0 ≤ n := by omega
  go_enter Tryd.func44, Tryd.ntmps44
  go_wp2
  go_ret3
  exact ⟨rfl, (by repeat (first | exact Fine.refl _ | assumption | refine Fine.alloc ?_ _ | refine Fine.drew ?_ | refine Fine.drewN ?_ _ | refine Fine.trans ?_ (by assumption) | (refine Fine.kept ?_ (by assumption) (by intro x hx; first | omega | (simp; omega))) | (refine Fine.setCell ?_ (by first | assumption | (simp; omega)) _)))⟩

end Go.Proofs.YthnennleblgjeaaDoor
