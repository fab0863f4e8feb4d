/- Contracts of sum.Put and sum.Good. -/
import Derived.Test.YthnennleblgjeaaDoorSum
namespace Go.Proofs.YthnennleblgjeaaDoor
open Go.ChangeShapes Go.WideShapes Go.ChangeAt Go.RowKit
set_option linter.unusedVariables false

theorem BSS.one {w : World} {g n c : Nat} {A : Option Addr} {l : List Int} (h : Blk w g 24 #[.slice A n c]) (e : n = l.length) (h1 : BS w A c l) : BSS w (some ⟨g, 0, none⟩) 1 [l] := by
  subst e
  refine ⟨[.slice A l.length c], rfl, ⟨by simp, by unfold maxLen; omega, fun e => (by cases e), fun _ => ⟨g, 0, rfl, h.lt, fun i v hv => ?_⟩⟩, fun i u l hu hl' => ?_⟩
  · match i, hv with
    | 0, hv => simp at hv; subst hv; exact h.cell 0
  · match i, hu, hl' with
    | 0, hu, hl' => simp at hu hl'; subst hu hl'; exact ⟨A, c, rfl, h1⟩

theorem of_one (g n c : Nat) (A : Option Addr) (l : List Int) (w : World) (h : Blk w g 24 #[.slice A n c]) (e : n = l.length) (h1 : BS w A c l) (hl : l.length ≤ 1000000000) :
    Calls Tryd.prog 57 #[.slice (some ⟨g, 0, none⟩) 1 1] w fun e w' => e = .returned (.int .u16 (sumOf l)) ∧ Fine w w' := by
  have e2 : [l].flatten = l := by simp
  have := of_any (some ⟨g, 0, none⟩) 1 1 [l] w (BSS.one h e h1) rfl (by simp) (fun i l' hi hl' => by
    obtain rfl : i = 0 := by simpa using hi
    simp at hl'; subst hl'; exact hl) (by rw [e2]; exact h1.1)
  rwa [e2] at this

/-- Bytes of an even number. -/
def pad (l : List Int) : List Int := l ++ if l.length % 2 = 1 then [0] else []
theorem pad_even (l : List Int) : (pad l).length % 2 = 0 := by unfold pad; split <;> simp <;> omega
theorem pad_le (l : List Int) : l.length ≤ (pad l).length ∧ (pad l).length ≤ l.length + 1 := by unfold pad; split <;> simp
theorem pad_bytes {l : List Int} (h : Bytes l) : Bytes (pad l) := by
  unfold pad
  refine h.append ?_
  split
  · exact Bytes.one (by omega)
  · exact Bytes.nil
/-- Bytes, and their sum. -/
def putOf (l : List Int) : List Int := pad l ++ be 2 (sumOf (pad l))

theorem sum_bd {l : List Int} (h : Bytes l) : 0 ≤ sumOf l ∧ sumOf l ≤ 65535 := told_bd _ (great_nonneg false l h)

set_option maxHeartbeats 400000 in
theorem sumput_any (A : Option Addr) (c : Nat) (xs : List Int) (w : World) (h : BS w A c xs) (hl : xs.length ≤ 1000000) :
    Calls Tryd.prog 36 #[.slice A xs.length c] w fun e w' => ∃ v, e = .returned v ∧ OwnB w' w.heap.size v (putOf xs) ∧ Fine w w' := by
  have H := Lib.hid h
  have hpl := pad_le xs
  have hsb := sum_bd (pad_bytes h.1)
  have hw2 : width 2 = 2 := by decide
  have HPut := Lib.hid (fun A k c l n hn w hx hk hl => hw2 ▸ put_n A k c l n hn 2 w hx hk hl)
  clear h hw2
  by_cases hodd : xs.length % 2 = 1
  · have HP : Hid (pad xs = xs ++ [0]) := by show _ = _; unfold pad; rw [if_pos hodd]
    obtain ⟨s, hs⟩ : ∃ s, sumOf (pad xs) = s := ⟨_, rfl⟩
    have HR : Hid (putOf xs = pad xs ++ be 2 s) := by show _ = _; unfold putOf; rw [hs]
    rw [hs] at hsb
    have HS := Lib.hid hs; clear hs
    have h2 : ((xs.length : Int) % 2 != 0) = true := by simp; omega
    go_enter Tryd.func36, Tryd.ntmps36
    go_wp2_with fail
    refine (join_one w.heap.size A _ c xs _ (Blk.cell1 (t := 24) (by repeat (first | assumption | (with_reducible refine Blk.newAt ?_; first | rfl | (simp; done)) | (with_reducible refine Blk.drew ?_) | (with_reducible refine Blk.alloc ?_ _) | (refine Blk.fine ?_ (by assumption))))) rfl (H.out.fine (by repeat (first | exact Fine.refl _ | assumption | refine Fine.alloc ?_ _ | refine Fine.drew ?_ | refine Fine.drewN ?_ _ | refine Fine.trans ?_ (by assumption) | (refine Fine.kept ?_ (by assumption) (by intro x hx; first | omega | (simp; omega))) | (refine Fine.setCell ?_ (by first | assumption | (simp; omega)) _)))) (by omega)).mono ?_; rintro e w1 ⟨v1, rfl, o1, f1⟩
    have F1 : Fine w w1 := (by repeat (first | exact Fine.refl _ | assumption | refine Fine.alloc ?_ _ | refine Fine.drew ?_ | refine Fine.drewN ?_ _ | refine Fine.trans ?_ (by assumption) | (refine Fine.kept ?_ (by assumption) (by intro x hx; first | omega | (simp; omega))) | (refine Fine.setCell ?_ (by first | assumption | (simp; omega)) _)))
    obtain ⟨A1, c1, rfl, b1, _⟩ := o1.form
    have O1 := Lib.hid (o1.lower (base' := w.heap.size) (by simp)); clear o1 b1
    have hs1 := F1.size
    clear f1
    go_wp2_with (at_builtin; refine wpList_appS rfl (.tmp 10) (.tmp 11) rfl w.heap.size _ _ rfl (O1.out.alloc _) (some ⟨w1.heap.size, 0, none⟩) _ _ [0] rfl rfl (BS.one (by omega) _) (by simp; omega) (by simp; omega) ?_; intro A2 c2 w2 O2 K2 k2)
    have F2 : Fine w w2 := (by repeat (first | exact Fine.refl _ | assumption | refine Fine.alloc ?_ _ | refine Fine.drew ?_ | refine Fine.drewN ?_ _ | refine Fine.trans ?_ (by assumption) | (refine Fine.kept ?_ (by assumption) (by intro x hx; first | omega | (simp; omega))) | (refine Fine.setCell ?_ (by first | assumption | (simp; omega)) _)))
    rw [← HP.out] at O2 K2
    refine (of_one w2.heap.size _ c2 A2 (pad xs) _ (by repeat (first | assumption | (with_reducible refine Blk.newAt ?_; first | rfl | (simp; done)) | (with_reducible refine Blk.drew ?_) | (with_reducible refine Blk.alloc ?_ _) | (refine Blk.fine ?_ (by assumption)))) (by rw [HP.out]; simp) (K2.out.fine (by repeat (first | exact Fine.refl _ | assumption | refine Fine.alloc ?_ _ | refine Fine.drew ?_ | refine Fine.drewN ?_ _ | refine Fine.trans ?_ (by assumption) | (refine Fine.kept ?_ (by assumption) (by intro x hx; first | omega | (simp; omega))) | (refine Fine.setCell ?_ (by first | assumption | (simp; omega)) _)))) (by omega)).mono ?_; rintro e w3 ⟨rfl, f3⟩
    rw [HS.out]
    go_wp2_with fail
    refine (HPut.out A2 _ c2 (pad xs) s ⟨hsb.1, by omega⟩ _ (K2.out.fine (by repeat (first | exact Fine.refl _ | assumption | refine Fine.alloc ?_ _ | refine Fine.drew ?_ | refine Fine.drewN ?_ _ | refine Fine.trans ?_ (by assumption) | (refine Fine.kept ?_ (by assumption) (by intro x hx; first | omega | (simp; omega))) | (refine Fine.setCell ?_ (by first | assumption | (simp; omega)) _)))) (by rw [HP.out]; simp) (by omega)).mono ?_; rintro e w4 ⟨v4, rfl, o4, f4⟩
    rw [← HR.out] at o4
    go_wp2
    go_ret
    have F3 : Fine w w3 := (by repeat (first | exact Fine.refl _ | assumption | refine Fine.alloc ?_ _ | refine Fine.drew ?_ | refine Fine.drewN ?_ _ | refine Fine.trans ?_ (by assumption) | (refine Fine.kept ?_ (by assumption) (by intro x hx; first | omega | (simp; omega))) | (refine Fine.setCell ?_ (by first | assumption | (simp; omega)) _)))
    exact ⟨_, rfl, o4.lower F3.size, F3.trans f4⟩
  · have HP : Hid (pad xs = xs) := by show _ = _; unfold pad; rw [if_neg hodd]; simp
    obtain ⟨s, hs⟩ : ∃ s, sumOf (pad xs) = s := ⟨_, rfl⟩
    have HR : Hid (putOf xs = pad xs ++ be 2 s) := by show _ = _; unfold putOf; rw [hs]
    rw [hs] at hsb
    have HS := Lib.hid hs; clear hs
    have h2 : ((xs.length : Int) % 2 != 0) = false := by simp; omega
    go_enter Tryd.func36, Tryd.ntmps36
    go_wp2_with fail
    refine (join_one w.heap.size A _ c xs _ (Blk.cell1 (t := 24) (by repeat (first | assumption | (with_reducible refine Blk.newAt ?_; first | rfl | (simp; done)) | (with_reducible refine Blk.drew ?_) | (with_reducible refine Blk.alloc ?_ _) | (refine Blk.fine ?_ (by assumption))))) rfl (H.out.fine (by repeat (first | exact Fine.refl _ | assumption | refine Fine.alloc ?_ _ | refine Fine.drew ?_ | refine Fine.drewN ?_ _ | refine Fine.trans ?_ (by assumption) | (refine Fine.kept ?_ (by assumption) (by intro x hx; first | omega | (simp; omega))) | (refine Fine.setCell ?_ (by first | assumption | (simp; omega)) _)))) (by omega)).mono ?_; rintro e w1 ⟨v1, rfl, o1, f1⟩
    have F1 : Fine w w1 := (by repeat (first | exact Fine.refl _ | assumption | refine Fine.alloc ?_ _ | refine Fine.drew ?_ | refine Fine.drewN ?_ _ | refine Fine.trans ?_ (by assumption) | (refine Fine.kept ?_ (by assumption) (by intro x hx; first | omega | (simp; omega))) | (refine Fine.setCell ?_ (by first | assumption | (simp; omega)) _)))
    obtain ⟨A1, c1, rfl, b1, _⟩ := o1.form
    have K1 := Lib.hid b1; clear o1 b1
    have hs1 := F1.size
    clear f1
    go_wp2_with fail
    refine (of_one w1.heap.size _ c1 A1 (pad xs) _ (by repeat (first | assumption | (with_reducible refine Blk.newAt ?_; first | rfl | (simp; done)) | (with_reducible refine Blk.drew ?_) | (with_reducible refine Blk.alloc ?_ _) | (refine Blk.fine ?_ (by assumption)))) (by rw [HP.out]) (by rw [HP.out]; exact K1.out.fine (by repeat (first | exact Fine.refl _ | assumption | refine Fine.alloc ?_ _ | refine Fine.drew ?_ | refine Fine.drewN ?_ _ | refine Fine.trans ?_ (by assumption) | (refine Fine.kept ?_ (by assumption) (by intro x hx; first | omega | (simp; omega))) | (refine Fine.setCell ?_ (by first | assumption | (simp; omega)) _)))) (by omega)).mono ?_; rintro e w3 ⟨rfl, f3⟩
    rw [HS.out]
    go_wp2_with fail
    refine (HPut.out A1 _ c1 (pad xs) s ⟨hsb.1, by omega⟩ _ (by rw [HP.out]; exact K1.out.fine (by repeat (first | exact Fine.refl _ | assumption | refine Fine.alloc ?_ _ | refine Fine.drew ?_ | refine Fine.drewN ?_ _ | refine Fine.trans ?_ (by assumption) | (refine Fine.kept ?_ (by assumption) (by intro x hx; first | omega | (simp; omega))) | (refine Fine.setCell ?_ (by first | assumption | (simp; omega)) _)))) (by rw [HP.out]) (by omega)).mono ?_; rintro e w4 ⟨v4, rfl, o4, f4⟩
    rw [← HR.out] at o4
    go_wp2
    go_ret
    have F3 : Fine w w3 := (by repeat (first | exact Fine.refl _ | assumption | refine Fine.alloc ?_ _ | refine Fine.drew ?_ | refine Fine.drewN ?_ _ | refine Fine.trans ?_ (by assumption) | (refine Fine.kept ?_ (by assumption) (by intro x hx; first | omega | (simp; omega))) | (refine Fine.setCell ?_ (by first | assumption | (simp; omega)) _)))
    exact ⟨_, rfl, o4.lower F3.size, F3.trans f4⟩
end Go.Proofs.YthnennleblgjeaaDoor
