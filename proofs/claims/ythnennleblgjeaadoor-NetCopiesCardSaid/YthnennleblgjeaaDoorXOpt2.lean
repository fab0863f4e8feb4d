/- The laws of option: a kind's places. (Printed by genplaces.py.) -/
import Derived.Test.YthnennleblgjeaaDoorXOptAny
import Derived.Deep.RegionHeld3
import Derived.Deep.DeepCutAuto
namespace Go.Proofs.YthnennleblgjeaaDoor
set_option linter.unusedVariables false
set_option linter.unusedSimpArgs false
open Go.ChangeShapes Go.WideShapes Go.ChangeAt Go.RowKit
set_option linter.unusedVariables false

theorem fieldsOf_out {k : Int} (h : k < 1 ∨ 11 < k) : fieldsOf k = [] := by
  unfold fieldsOf
  split <;> first | omega | rfl
set_option maxHeartbeats 4000000 in
set_option maxRecDepth 100000 in
theorem places_any (b : Nat) (kind : Int) (w : World) (hc : w.cell? ⟨b, 0, none⟩ = some (.int .i64 kind)) (hb : b < w.heap.size) :
    Calls Tryd.prog 55 #[.pointer (some ⟨b, 0, none⟩)] w fun x w' => ∃ A c, x = .returned (.slice A (fieldsOf kind).length c) ∧ RS (layPl b) w' A c (fieldsOf kind) ∧ (∀ b' o, A = some ⟨b', o, none⟩ → ∃ cs, Blk w' b' 96 cs) ∧ Fine w w' := by
  go_enter Tryd.func55, Tryd.ntmps55
  go_wp2_with fail
  refine region48 b (by kernel_rfl) (by simp) rfl ?hall (by kernel_rfl) (by kernel_rfl) (by kernel_rfl) (by kernel_rfl) ?rest
  case hall =>
    refine ⟨?_, ?_, ?_, ?_, ?_, ?_, ?_, ?_, ?_, ?_, ?_, ?_, ?_, ?_, ?_, ?_, ?_, ?_, ?_, ?_, ?_, ?_, ?_, ?_, ?_, ?_, ?_, ?_, ?_, ?_, ?_, ?_, ?_, ?_, ?_, ?_, ?_, ?_, ?_, ?_, ?_, ?_, ?_, ?_, ?_, ?_, ?_, ?_, ?_, ?_, ?_, ?_, ?_, ?_, ?_, ?_, ?_, ?_, ?_, ?_, ?_, ?_, ?_, ?_, ?_, ?_, ?_, ?_, ?_, ?_, ?_, ?_, ?_, ?_, ?_, ?_, ?_, ?_, ?_, ?_, ?_, ?_, ?_, ?_, ?_, ?_, ?_, ?_, ?_, ?_, ?_, ?_, ?_, ?_⟩
    · intro d hd a w K Q hn N0 N hK
      injection hd with hd
      subst hd
      have hf := hn
      obtain hv := N0
      unfold Oper.wp
      go_simp
      exact hK _ _ rfl (Fine.refl w)
    · intro d hd a w K Q hn N0 N hK
      injection hd with hd
      subst hd
      have hf := hn
      obtain ⟨_, hv, rfl⟩ := N ⟨0, .data⟩ (by simp) rfl 4 rfl
      unfold Oper.wp
      go_simp
      exact hK _ _ rfl (Fine.refl w)
    · intro d hd a w K Q hn N0 N hK
      injection hd with hd
      subst hd
      have hf := hn
      obtain ⟨_, hv, rfl⟩ := N ⟨1, .data⟩ (by simp) rfl 5 rfl
      unfold Oper.wp
      go_simp
      exact hK _ _ rfl (Fine.refl w)
    · intro d hd a w K Q hn N0 N hK
      injection hd with hd
      subst hd
      have hf := hn
      obtain ⟨_, hv, rfl⟩ := N ⟨2, .data⟩ (by simp) rfl 6 rfl
      unfold Oper.wp
      go_simp
      exact hK _ _ rfl (Fine.refl w)
    · intro d hd a w K Q hn N0 N hK
      injection hd with hd
      subst hd
      have hf := hn
      obtain ⟨_, hv0, rfl⟩ := N ⟨3, .data⟩ (by simp) rfl 7 rfl
      unfold Oper.wp
      go_simp
      exact hK _ _ ⟨w.heap.size, hf, rfl, Blk.new w 96 _⟩ ((Fine.refl w).alloc _)
    · intro d hd a w K Q hn N0 N hK
      injection hd with hd
      subst hd
      have hf := hn
      obtain hv := N0
      unfold Oper.wp
      go_simp
      exact hK _ _ rfl (Fine.refl w)
    · intro d hd a w K Q hn N0 N hK
      injection hd with hd
      subst hd
      have hf := hn
      obtain ⟨_, hv, rfl⟩ := N ⟨5, .data⟩ (by simp) rfl 9 rfl
      unfold Oper.wp
      go_simp
      exact hK _ _ rfl (Fine.refl w)
    · intro d hd a w K Q hn N0 N hK
      injection hd with hd
      subst hd
      have hf := hn
      obtain ⟨_, hv, rfl⟩ := N ⟨6, .data⟩ (by simp) rfl 10 rfl
      unfold Oper.wp
      go_simp
      exact hK _ _ rfl (Fine.refl w)
    · intro d hd a w K Q hn N0 N hK
      injection hd with hd
      subst hd
      have hf := hn
      obtain ⟨_, hv, rfl⟩ := N ⟨7, .data⟩ (by simp) rfl 11 rfl
      unfold Oper.wp
      go_simp
      exact hK _ _ rfl (Fine.refl w)
    · intro d hd a w K Q hn N0 N hK
      injection hd with hd
      subst hd
      have hf := hn
      obtain hv := N0
      unfold Oper.wp
      go_simp
      exact hK _ _ rfl (Fine.refl w)
    · intro d hd a w K Q hn N0 N hK
      injection hd with hd
      subst hd
      have hf := hn
      obtain ⟨_, hv, rfl⟩ := N ⟨9, .data⟩ (by simp) rfl 13 rfl
      unfold Oper.wp
      go_simp
      exact hK _ _ rfl (Fine.refl w)
    · intro d hd a w K Q hn N0 N hK
      injection hd with hd
      subst hd
      have hf := hn
      obtain ⟨_, hv, rfl⟩ := N ⟨10, .data⟩ (by simp) rfl 14 rfl
      unfold Oper.wp
      go_simp
      exact hK _ _ rfl (Fine.refl w)
    · intro d hd a w K Q hn N0 N hK
      injection hd with hd
      subst hd
      have hf := hn
      obtain ⟨_, hv, rfl⟩ := N ⟨11, .data⟩ (by simp) rfl 15 rfl
      unfold Oper.wp
      go_simp
      exact hK _ _ rfl (Fine.refl w)
    · intro d hd a w K Q hn N0 N hK
      injection hd with hd
      subst hd
      have hf := hn
      obtain hv := N0
      unfold Oper.wp
      go_simp
      exact hK _ _ rfl (Fine.refl w)
    · intro d hd a w K Q hn N0 N hK
      injection hd with hd
      subst hd
      have hf := hn
      obtain ⟨_, hv, rfl⟩ := N ⟨13, .data⟩ (by simp) rfl 17 rfl
      unfold Oper.wp
      go_simp
      exact hK _ _ rfl (Fine.refl w)
    · intro d hd a w K Q hn N0 N hK
      injection hd with hd
      subst hd
      have hf := hn
      obtain ⟨_, hv, rfl⟩ := N ⟨14, .data⟩ (by simp) rfl 18 rfl
      unfold Oper.wp
      go_simp
      exact hK _ _ rfl (Fine.refl w)
    · intro d hd a w K Q hn N0 N hK
      injection hd with hd
      subst hd
      have hf := hn
      obtain ⟨_, hv, rfl⟩ := N ⟨15, .data⟩ (by simp) rfl 19 rfl
      unfold Oper.wp
      go_simp
      exact hK _ _ rfl (Fine.refl w)
    · intro d hd a w K Q hn N0 N hK
      injection hd with hd
      subst hd
      have hf := hn
      obtain hv := N0
      unfold Oper.wp
      go_simp
      exact hK _ _ rfl (Fine.refl w)
    · intro d hd a w K Q hn N0 N hK
      injection hd with hd
      subst hd
      have hf := hn
      obtain ⟨_, hv, rfl⟩ := N ⟨17, .data⟩ (by simp) rfl 21 rfl
      unfold Oper.wp
      go_simp
      exact hK _ _ rfl (Fine.refl w)
    · intro d hd a w K Q hn N0 N hK
      injection hd with hd
      subst hd
      have hf := hn
      obtain ⟨_, hv, rfl⟩ := N ⟨18, .data⟩ (by simp) rfl 22 rfl
      unfold Oper.wp
      go_simp
      exact hK _ _ rfl (Fine.refl w)
    · intro d hd a w K Q hn N0 N hK
      injection hd with hd
      subst hd
      have hf := hn
      obtain ⟨_, hv, rfl⟩ := N ⟨19, .data⟩ (by simp) rfl 23 rfl
      unfold Oper.wp
      go_simp
      exact hK _ _ rfl (Fine.refl w)
    · intro d hd a w K Q hn N0 N hK
      injection hd with hd
      subst hd
      have hf := hn
      obtain ⟨_, hv0, rfl⟩ := N ⟨8, .data⟩ (by simp) rfl 12 rfl
      obtain ⟨_, hv1, rfl⟩ := N ⟨12, .data⟩ (by simp) rfl 16 rfl
      obtain ⟨_, hv2, rfl⟩ := N ⟨16, .data⟩ (by simp) rfl 20 rfl
      obtain ⟨_, hv3, rfl⟩ := N ⟨20, .data⟩ (by simp) rfl 24 rfl
      unfold Oper.wp
      go_simp
      exact hK _ _ ⟨w.heap.size, hf, rfl, Blk.new w 96 _⟩ ((Fine.refl w).alloc _)
    · intro d hd a w K Q hn N0 N hK
      injection hd with hd
      subst hd
      have hf := hn
      obtain hv := N0
      unfold Oper.wp
      go_simp
      exact hK _ _ rfl (Fine.refl w)
    · intro d hd a w K Q hn N0 N hK
      injection hd with hd
      subst hd
      have hf := hn
      obtain ⟨_, hv, rfl⟩ := N ⟨22, .data⟩ (by simp) rfl 26 rfl
      unfold Oper.wp
      go_simp
      exact hK _ _ rfl (Fine.refl w)
    · intro d hd a w K Q hn N0 N hK
      injection hd with hd
      subst hd
      have hf := hn
      obtain ⟨_, hv, rfl⟩ := N ⟨23, .data⟩ (by simp) rfl 27 rfl
      unfold Oper.wp
      go_simp
      exact hK _ _ rfl (Fine.refl w)
    · intro d hd a w K Q hn N0 N hK
      injection hd with hd
      subst hd
      have hf := hn
      obtain ⟨_, hv, rfl⟩ := N ⟨24, .data⟩ (by simp) rfl 28 rfl
      unfold Oper.wp
      go_simp
      exact hK _ _ rfl (Fine.refl w)
    · intro d hd a w K Q hn N0 N hK
      injection hd with hd
      subst hd
      have hf := hn
      obtain hv := N0
      unfold Oper.wp
      go_simp
      exact hK _ _ rfl (Fine.refl w)
    · intro d hd a w K Q hn N0 N hK
      injection hd with hd
      subst hd
      have hf := hn
      obtain ⟨_, hv, rfl⟩ := N ⟨26, .data⟩ (by simp) rfl 30 rfl
      unfold Oper.wp
      go_simp
      exact hK _ _ rfl (Fine.refl w)
    · intro d hd a w K Q hn N0 N hK
      injection hd with hd
      subst hd
      have hf := hn
      obtain ⟨_, hv, rfl⟩ := N ⟨27, .data⟩ (by simp) rfl 31 rfl
      unfold Oper.wp
      go_simp
      exact hK _ _ rfl (Fine.refl w)
    · intro d hd a w K Q hn N0 N hK
      injection hd with hd
      subst hd
      have hf := hn
      obtain ⟨_, hv, rfl⟩ := N ⟨28, .data⟩ (by simp) rfl 32 rfl
      unfold Oper.wp
      go_simp
      exact hK _ _ rfl (Fine.refl w)
    · intro d hd a w K Q hn N0 N hK
      injection hd with hd
      subst hd
      have hf := hn
      obtain ⟨_, hv0, rfl⟩ := N ⟨25, .data⟩ (by simp) rfl 29 rfl
      obtain ⟨_, hv1, rfl⟩ := N ⟨29, .data⟩ (by simp) rfl 33 rfl
      unfold Oper.wp
      go_simp
      exact hK _ _ ⟨w.heap.size, hf, rfl, Blk.new w 96 _⟩ ((Fine.refl w).alloc _)
    · intro d hd a w K Q hn N0 N hK
      injection hd with hd
      subst hd
      have hf := hn
      obtain hv := N0
      unfold Oper.wp
      go_simp
      exact hK _ _ rfl (Fine.refl w)
    · intro d hd a w K Q hn N0 N hK
      injection hd with hd
      subst hd
      have hf := hn
      obtain ⟨_, hv, rfl⟩ := N ⟨31, .data⟩ (by simp) rfl 35 rfl
      unfold Oper.wp
      go_simp
      exact hK _ _ rfl (Fine.refl w)
    · intro d hd a w K Q hn N0 N hK
      injection hd with hd
      subst hd
      have hf := hn
      obtain ⟨_, hv, rfl⟩ := N ⟨32, .data⟩ (by simp) rfl 36 rfl
      unfold Oper.wp
      go_simp
      exact hK _ _ rfl (Fine.refl w)
    · intro d hd a w K Q hn N0 N hK
      injection hd with hd
      subst hd
      have hf := hn
      obtain ⟨_, hv, rfl⟩ := N ⟨33, .data⟩ (by simp) rfl 37 rfl
      unfold Oper.wp
      go_simp
      exact hK _ _ rfl (Fine.refl w)
    · intro d hd a w K Q hn N0 N hK
      injection hd with hd
      subst hd
      have hf := hn
      obtain ⟨_, hv0, rfl⟩ := N ⟨34, .data⟩ (by simp) rfl 38 rfl
      unfold Oper.wp
      go_simp
      exact hK _ _ ⟨w.heap.size, hf, rfl, Blk.new w 96 _⟩ ((Fine.refl w).alloc _)
    · intro d hd a w K Q hn N0 N hK
      injection hd with hd
      subst hd
      have hf := hn
      obtain hv := N0
      unfold Oper.wp
      go_simp
      exact hK _ _ rfl (Fine.refl w)
    · intro d hd a w K Q hn N0 N hK
      injection hd with hd
      subst hd
      have hf := hn
      obtain ⟨_, hv, rfl⟩ := N ⟨36, .data⟩ (by simp) rfl 40 rfl
      unfold Oper.wp
      go_simp
      exact hK _ _ rfl (Fine.refl w)
    · intro d hd a w K Q hn N0 N hK
      injection hd with hd
      subst hd
      have hf := hn
      obtain ⟨_, hv, rfl⟩ := N ⟨37, .data⟩ (by simp) rfl 41 rfl
      unfold Oper.wp
      go_simp
      exact hK _ _ rfl (Fine.refl w)
    · intro d hd a w K Q hn N0 N hK
      injection hd with hd
      subst hd
      have hf := hn
      obtain ⟨_, hv, rfl⟩ := N ⟨38, .data⟩ (by simp) rfl 42 rfl
      unfold Oper.wp
      go_simp
      exact hK _ _ rfl (Fine.refl w)
    · intro d hd a w K Q hn N0 N hK
      injection hd with hd
      subst hd
      have hf := hn
      obtain hv := N0
      unfold Oper.wp
      go_simp
      exact hK _ _ rfl (Fine.refl w)
    · intro d hd a w K Q hn N0 N hK
      injection hd with hd
      subst hd
      have hf := hn
      obtain ⟨_, hv, rfl⟩ := N ⟨40, .data⟩ (by simp) rfl 44 rfl
      unfold Oper.wp
      go_simp
      exact hK _ _ rfl (Fine.refl w)
    · intro d hd a w K Q hn N0 N hK
      injection hd with hd
      subst hd
      have hf := hn
      obtain ⟨_, hv, rfl⟩ := N ⟨41, .data⟩ (by simp) rfl 45 rfl
      unfold Oper.wp
      go_simp
      exact hK _ _ rfl (Fine.refl w)
    · intro d hd a w K Q hn N0 N hK
      injection hd with hd
      subst hd
      have hf := hn
      obtain ⟨_, hv, rfl⟩ := N ⟨42, .data⟩ (by simp) rfl 46 rfl
      unfold Oper.wp
      go_simp
      exact hK _ _ rfl (Fine.refl w)
    · intro d hd a w K Q hn N0 N hK
      injection hd with hd
      subst hd
      have hf := hn
      obtain hv := N0
      unfold Oper.wp
      go_simp
      exact hK _ _ rfl (Fine.refl w)
    · intro d hd a w K Q hn N0 N hK
      injection hd with hd
      subst hd
      have hf := hn
      obtain ⟨_, hv, rfl⟩ := N ⟨44, .data⟩ (by simp) rfl 48 rfl
      unfold Oper.wp
      go_simp
      exact hK _ _ rfl (Fine.refl w)
    · intro d hd a w K Q hn N0 N hK
      injection hd with hd
      subst hd
      have hf := hn
      obtain ⟨_, hv, rfl⟩ := N ⟨45, .data⟩ (by simp) rfl 49 rfl
      unfold Oper.wp
      go_simp
      exact hK _ _ rfl (Fine.refl w)
    · intro d hd a w K Q hn N0 N hK
      injection hd with hd
      subst hd
      have hf := hn
      obtain ⟨_, hv, rfl⟩ := N ⟨46, .data⟩ (by simp) rfl 50 rfl
      unfold Oper.wp
      go_simp
      exact hK _ _ rfl (Fine.refl w)
    · intro d hd a w K Q hn N0 N hK
      injection hd with hd
      subst hd
      have hf := hn
      obtain hv := N0
      unfold Oper.wp
      go_simp
      exact hK _ _ rfl (Fine.refl w)
    · intro d hd a w K Q hn N0 N hK
      injection hd with hd
      subst hd
      have hf := hn
      obtain ⟨_, hv, rfl⟩ := N ⟨48, .data⟩ (by simp) rfl 52 rfl
      unfold Oper.wp
      go_simp
      exact hK _ _ rfl (Fine.refl w)
    · intro d hd a w K Q hn N0 N hK
      injection hd with hd
      subst hd
      have hf := hn
      obtain ⟨_, hv, rfl⟩ := N ⟨49, .data⟩ (by simp) rfl 53 rfl
      unfold Oper.wp
      go_simp
      exact hK _ _ rfl (Fine.refl w)
    · intro d hd a w K Q hn N0 N hK
      injection hd with hd
      subst hd
      have hf := hn
      obtain ⟨_, hv, rfl⟩ := N ⟨50, .data⟩ (by simp) rfl 54 rfl
      unfold Oper.wp
      go_simp
      exact hK _ _ rfl (Fine.refl w)
    · intro d hd a w K Q hn N0 N hK
      injection hd with hd
      subst hd
      have hf := hn
      obtain hv := N0
      unfold Oper.wp
      go_simp
      exact hK _ _ rfl (Fine.refl w)
    · intro d hd a w K Q hn N0 N hK
      injection hd with hd
      subst hd
      have hf := hn
      obtain ⟨_, hv, rfl⟩ := N ⟨52, .data⟩ (by simp) rfl 56 rfl
      unfold Oper.wp
      go_simp
      exact hK _ _ rfl (Fine.refl w)
    · intro d hd a w K Q hn N0 N hK
      injection hd with hd
      subst hd
      have hf := hn
      obtain ⟨_, hv, rfl⟩ := N ⟨53, .data⟩ (by simp) rfl 57 rfl
      unfold Oper.wp
      go_simp
      exact hK _ _ rfl (Fine.refl w)
    · intro d hd a w K Q hn N0 N hK
      injection hd with hd
      subst hd
      have hf := hn
      obtain ⟨_, hv, rfl⟩ := N ⟨54, .data⟩ (by simp) rfl 58 rfl
      unfold Oper.wp
      go_simp
      exact hK _ _ rfl (Fine.refl w)
    · intro d hd a w K Q hn N0 N hK
      injection hd with hd
      subst hd
      have hf := hn
      obtain hv := N0
      unfold Oper.wp
      go_simp
      exact hK _ _ rfl (Fine.refl w)
    · intro d hd a w K Q hn N0 N hK
      injection hd with hd
      subst hd
      have hf := hn
      obtain ⟨_, hv, rfl⟩ := N ⟨56, .data⟩ (by simp) rfl 60 rfl
      unfold Oper.wp
      go_simp
      exact hK _ _ rfl (Fine.refl w)
    · intro d hd a w K Q hn N0 N hK
      injection hd with hd
      subst hd
      have hf := hn
      obtain ⟨_, hv, rfl⟩ := N ⟨57, .data⟩ (by simp) rfl 61 rfl
      unfold Oper.wp
      go_simp
      exact hK _ _ rfl (Fine.refl w)
    · intro d hd a w K Q hn N0 N hK
      injection hd with hd
      subst hd
      have hf := hn
      obtain ⟨_, hv, rfl⟩ := N ⟨58, .data⟩ (by simp) rfl 62 rfl
      unfold Oper.wp
      go_simp
      exact hK _ _ rfl (Fine.refl w)
    · intro d hd a w K Q hn N0 N hK
      injection hd with hd
      subst hd
      have hf := hn
      obtain ⟨_, hv0, rfl⟩ := N ⟨39, .data⟩ (by simp) rfl 43 rfl
      obtain ⟨_, hv1, rfl⟩ := N ⟨43, .data⟩ (by simp) rfl 47 rfl
      obtain ⟨_, hv2, rfl⟩ := N ⟨47, .data⟩ (by simp) rfl 51 rfl
      obtain ⟨_, hv3, rfl⟩ := N ⟨51, .data⟩ (by simp) rfl 55 rfl
      obtain ⟨_, hv4, rfl⟩ := N ⟨55, .data⟩ (by simp) rfl 59 rfl
      obtain ⟨_, hv5, rfl⟩ := N ⟨59, .data⟩ (by simp) rfl 63 rfl
      unfold Oper.wp
      go_simp
      exact hK _ _ ⟨w.heap.size, hf, rfl, Blk.new w 96 _⟩ ((Fine.refl w).alloc _)
    · intro d hd a w K Q hn N0 N hK
      injection hd with hd
      subst hd
      have hf := hn
      obtain hv := N0
      unfold Oper.wp
      go_simp
      exact hK _ _ rfl (Fine.refl w)
    · intro d hd a w K Q hn N0 N hK
      injection hd with hd
      subst hd
      have hf := hn
      obtain ⟨_, hv, rfl⟩ := N ⟨61, .data⟩ (by simp) rfl 65 rfl
      unfold Oper.wp
      go_simp
      exact hK _ _ rfl (Fine.refl w)
    · intro d hd a w K Q hn N0 N hK
      injection hd with hd
      subst hd
      have hf := hn
      obtain ⟨_, hv, rfl⟩ := N ⟨62, .data⟩ (by simp) rfl 66 rfl
      unfold Oper.wp
      go_simp
      exact hK _ _ rfl (Fine.refl w)
    · intro d hd a w K Q hn N0 N hK
      injection hd with hd
      subst hd
      have hf := hn
      obtain ⟨_, hv, rfl⟩ := N ⟨63, .data⟩ (by simp) rfl 67 rfl
      unfold Oper.wp
      go_simp
      exact hK _ _ rfl (Fine.refl w)
    · intro d hd a w K Q hn N0 N hK
      injection hd with hd
      subst hd
      have hf := hn
      obtain ⟨_, hv0, rfl⟩ := N ⟨64, .data⟩ (by simp) rfl 68 rfl
      unfold Oper.wp
      go_simp
      exact hK _ _ ⟨w.heap.size, hf, rfl, Blk.new w 96 _⟩ ((Fine.refl w).alloc _)
    · intro d hd a w K Q hn N0 N hK
      injection hd with hd
      subst hd
      have hf := hn
      obtain hv := N0
      unfold Oper.wp
      go_simp
      exact hK _ _ rfl (Fine.refl w)
    · intro d hd a w K Q hn N0 N hK
      injection hd with hd
      subst hd
      have hf := hn
      obtain ⟨_, hv, rfl⟩ := N ⟨66, .data⟩ (by simp) rfl 70 rfl
      unfold Oper.wp
      go_simp
      exact hK _ _ rfl (Fine.refl w)
    · intro d hd a w K Q hn N0 N hK
      injection hd with hd
      subst hd
      have hf := hn
      obtain ⟨_, hv, rfl⟩ := N ⟨67, .data⟩ (by simp) rfl 71 rfl
      unfold Oper.wp
      go_simp
      exact hK _ _ rfl (Fine.refl w)
    · intro d hd a w K Q hn N0 N hK
      injection hd with hd
      subst hd
      have hf := hn
      obtain ⟨_, hv, rfl⟩ := N ⟨68, .data⟩ (by simp) rfl 72 rfl
      unfold Oper.wp
      go_simp
      exact hK _ _ rfl (Fine.refl w)
    · intro d hd a w K Q hn N0 N hK
      injection hd with hd
      subst hd
      have hf := hn
      obtain ⟨_, hv0, rfl⟩ := N ⟨69, .data⟩ (by simp) rfl 73 rfl
      unfold Oper.wp
      go_simp
      exact hK _ _ ⟨w.heap.size, hf, rfl, Blk.new w 96 _⟩ ((Fine.refl w).alloc _)
    · intro d hd a w K Q hn N0 N hK
      injection hd with hd
      subst hd
      have hf := hn
      obtain hv := N0
      unfold Oper.wp
      go_simp
      exact hK _ _ rfl (Fine.refl w)
    · intro d hd a w K Q hn N0 N hK
      injection hd with hd
      subst hd
      have hf := hn
      obtain ⟨_, hv, rfl⟩ := N ⟨71, .data⟩ (by simp) rfl 75 rfl
      unfold Oper.wp
      go_simp
      exact hK _ _ rfl (Fine.refl w)
    · intro d hd a w K Q hn N0 N hK
      injection hd with hd
      subst hd
      have hf := hn
      obtain ⟨_, hv, rfl⟩ := N ⟨72, .data⟩ (by simp) rfl 76 rfl
      unfold Oper.wp
      go_simp
      exact hK _ _ rfl (Fine.refl w)
    · intro d hd a w K Q hn N0 N hK
      injection hd with hd
      subst hd
      have hf := hn
      obtain ⟨_, hv, rfl⟩ := N ⟨73, .data⟩ (by simp) rfl 77 rfl
      unfold Oper.wp
      go_simp
      exact hK _ _ rfl (Fine.refl w)
    · intro d hd a w K Q hn N0 N hK
      injection hd with hd
      subst hd
      have hf := hn
      obtain ⟨_, hv0, rfl⟩ := N ⟨74, .data⟩ (by simp) rfl 78 rfl
      unfold Oper.wp
      go_simp
      exact hK _ _ ⟨w.heap.size, hf, rfl, Blk.new w 96 _⟩ ((Fine.refl w).alloc _)
    · intro d hd a w K Q hn N0 N hK
      injection hd with hd
      subst hd
      have hf := hn
      obtain hv := N0
      unfold Oper.wp
      go_simp
      exact hK _ _ rfl (Fine.refl w)
    · intro d hd a w K Q hn N0 N hK
      injection hd with hd
      subst hd
      have hf := hn
      obtain ⟨_, hv, rfl⟩ := N ⟨76, .data⟩ (by simp) rfl 80 rfl
      unfold Oper.wp
      go_simp
      exact hK _ _ rfl (Fine.refl w)
    · intro d hd a w K Q hn N0 N hK
      injection hd with hd
      subst hd
      have hf := hn
      obtain ⟨_, hv, rfl⟩ := N ⟨77, .data⟩ (by simp) rfl 81 rfl
      unfold Oper.wp
      go_simp
      exact hK _ _ rfl (Fine.refl w)
    · intro d hd a w K Q hn N0 N hK
      injection hd with hd
      subst hd
      have hf := hn
      obtain ⟨_, hv, rfl⟩ := N ⟨78, .data⟩ (by simp) rfl 82 rfl
      unfold Oper.wp
      go_simp
      exact hK _ _ rfl (Fine.refl w)
    · intro d hd a w K Q hn N0 N hK
      injection hd with hd
      subst hd
      have hf := hn
      obtain ⟨_, hv0, rfl⟩ := N ⟨79, .data⟩ (by simp) rfl 83 rfl
      unfold Oper.wp
      go_simp
      exact hK _ _ ⟨w.heap.size, hf, rfl, Blk.new w 96 _⟩ ((Fine.refl w).alloc _)
    · intro d hd a w K Q hn N0 N hK
      injection hd with hd
      subst hd
      have hf := hn
      obtain hv := N0
      unfold Oper.wp
      go_simp
      exact hK _ _ rfl (Fine.refl w)
    · intro d hd a w K Q hn N0 N hK
      injection hd with hd
      subst hd
      have hf := hn
      obtain ⟨_, hv, rfl⟩ := N ⟨81, .data⟩ (by simp) rfl 85 rfl
      unfold Oper.wp
      go_simp
      exact hK _ _ rfl (Fine.refl w)
    · intro d hd a w K Q hn N0 N hK
      injection hd with hd
      subst hd
      have hf := hn
      obtain ⟨_, hv, rfl⟩ := N ⟨82, .data⟩ (by simp) rfl 86 rfl
      unfold Oper.wp
      go_simp
      exact hK _ _ rfl (Fine.refl w)
    · intro d hd a w K Q hn N0 N hK
      injection hd with hd
      subst hd
      have hf := hn
      obtain ⟨_, hv, rfl⟩ := N ⟨83, .data⟩ (by simp) rfl 87 rfl
      unfold Oper.wp
      go_simp
      exact hK _ _ rfl (Fine.refl w)
    · intro d hd a w K Q hn N0 N hK
      injection hd with hd
      subst hd
      have hf := hn
      obtain ⟨_, hv0, rfl⟩ := N ⟨84, .data⟩ (by simp) rfl 88 rfl
      unfold Oper.wp
      go_simp
      exact hK _ _ ⟨w.heap.size, hf, rfl, Blk.new w 96 _⟩ ((Fine.refl w).alloc _)
    · intro d hd a w K Q hn N0 N hK
      injection hd with hd
      subst hd
      have hf := hn
      obtain hv := N0
      unfold Oper.wp
      go_simp
      exact hK _ _ rfl (Fine.refl w)
    · intro d hd a w K Q hn N0 N hK
      injection hd with hd
      subst hd
      have hf := hn
      obtain ⟨_, hv, rfl⟩ := N ⟨86, .data⟩ (by simp) rfl 90 rfl
      unfold Oper.wp
      go_simp
      exact hK _ _ rfl (Fine.refl w)
    · intro d hd a w K Q hn N0 N hK
      injection hd with hd
      subst hd
      have hf := hn
      obtain ⟨_, hv, rfl⟩ := N ⟨87, .data⟩ (by simp) rfl 91 rfl
      unfold Oper.wp
      go_simp
      exact hK _ _ rfl (Fine.refl w)
    · intro d hd a w K Q hn N0 N hK
      injection hd with hd
      subst hd
      have hf := hn
      obtain ⟨_, hv, rfl⟩ := N ⟨88, .data⟩ (by simp) rfl 92 rfl
      unfold Oper.wp
      go_simp
      exact hK _ _ rfl (Fine.refl w)
    · intro d hd a w K Q hn N0 N hK
      injection hd with hd
      subst hd
      have hf := hn
      obtain ⟨_, hv0, rfl⟩ := N ⟨89, .data⟩ (by simp) rfl 93 rfl
      unfold Oper.wp
      go_simp
      exact hK _ _ ⟨w.heap.size, hf, rfl, Blk.new w 96 _⟩ ((Fine.refl w).alloc _)
    · intro d hd a w K Q hn N0 N hK
      injection hd with hd
      subst hd
      have hf := hn
      obtain ⟨_, hv0, g0, hg0, rfl, B0⟩ := N ⟨4, .data⟩ (by simp) rfl 8 rfl
      obtain ⟨_, hv1, g1, hg1, rfl, B1⟩ := N ⟨21, .data⟩ (by simp) rfl 25 rfl
      obtain ⟨_, hv2, g2, hg2, rfl, B2⟩ := N ⟨30, .data⟩ (by simp) rfl 34 rfl
      obtain ⟨_, hv3, g3, hg3, rfl, B3⟩ := N ⟨35, .data⟩ (by simp) rfl 39 rfl
      obtain ⟨_, hv4, g4, hg4, rfl, B4⟩ := N ⟨60, .data⟩ (by simp) rfl 64 rfl
      obtain ⟨_, hv5, g5, hg5, rfl, B5⟩ := N ⟨65, .data⟩ (by simp) rfl 69 rfl
      obtain ⟨_, hv6, g6, hg6, rfl, B6⟩ := N ⟨70, .data⟩ (by simp) rfl 74 rfl
      obtain ⟨_, hv7, g7, hg7, rfl, B7⟩ := N ⟨75, .data⟩ (by simp) rfl 79 rfl
      obtain ⟨_, hv8, g8, hg8, rfl, B8⟩ := N ⟨80, .data⟩ (by simp) rfl 84 rfl
      obtain ⟨_, hv9, g9, hg9, rfl, B9⟩ := N ⟨85, .data⟩ (by simp) rfl 89 rfl
      obtain ⟨_, hv10, g10, hg10, rfl, B10⟩ := N ⟨90, .data⟩ (by simp) rfl 94 rfl
      unfold Oper.wp
      go_simp
      exact hK _ _ ⟨g0, g1, g2, g3, g4, g5, g6, g7, g8, g9, g10, rfl, B0, B1, B2, B3, B4, B5, B6, B7, B8, B9, B10⟩ (Fine.refl w)
    · intro d hd a w K Q hn N0 N hK
      injection hd with hd
      subst hd
      have hf := hn
      unfold Oper.wp
      go_simp
      exact hK _ _ ⟨w.heap.size, hf, rfl, Blk.new w 110 _⟩ ((Fine.refl w).alloc _)
    · intro a w K Q g g0 g1 g2 g3 g4 g5 g6 g7 g8 g9 g10 e3 e95 hb' hK
      have c0 : w.cell? ⟨g, 0, none⟩ = some (.slice none 0 0) := hb'.cell 0
      have z0 : w.frozen? ⟨g, 0, none⟩ = false := hb'.frozen 0
      have c1 : w.cell? ⟨g, 1, none⟩ = some (.slice none 0 0) := hb'.cell 1
      have z1 : w.frozen? ⟨g, 1, none⟩ = false := hb'.frozen 1
      have c2 : w.cell? ⟨g, 2, none⟩ = some (.slice none 0 0) := hb'.cell 2
      have z2 : w.frozen? ⟨g, 2, none⟩ = false := hb'.frozen 2
      have c3 : w.cell? ⟨g, 3, none⟩ = some (.slice none 0 0) := hb'.cell 3
      have z3 : w.frozen? ⟨g, 3, none⟩ = false := hb'.frozen 3
      have c4 : w.cell? ⟨g, 4, none⟩ = some (.slice none 0 0) := hb'.cell 4
      have z4 : w.frozen? ⟨g, 4, none⟩ = false := hb'.frozen 4
      have c5 : w.cell? ⟨g, 5, none⟩ = some (.slice none 0 0) := hb'.cell 5
      have z5 : w.frozen? ⟨g, 5, none⟩ = false := hb'.frozen 5
      have c6 : w.cell? ⟨g, 6, none⟩ = some (.slice none 0 0) := hb'.cell 6
      have z6 : w.frozen? ⟨g, 6, none⟩ = false := hb'.frozen 6
      have c7 : w.cell? ⟨g, 7, none⟩ = some (.slice none 0 0) := hb'.cell 7
      have z7 : w.frozen? ⟨g, 7, none⟩ = false := hb'.frozen 7
      have c8 : w.cell? ⟨g, 8, none⟩ = some (.slice none 0 0) := hb'.cell 8
      have z8 : w.frozen? ⟨g, 8, none⟩ = false := hb'.frozen 8
      have c9 : w.cell? ⟨g, 9, none⟩ = some (.slice none 0 0) := hb'.cell 9
      have z9 : w.frozen? ⟨g, 9, none⟩ = false := hb'.frozen 9
      have c10 : w.cell? ⟨g, 10, none⟩ = some (.slice none 0 0) := hb'.cell 10
      have z10 : w.frozen? ⟨g, 10, none⟩ = false := hb'.frozen 10
      have c11 : w.cell? ⟨g, 11, none⟩ = some (.slice none 0 0) := hb'.cell 11
      have z11 : w.frozen? ⟨g, 11, none⟩ = false := hb'.frozen 11
      unfold Oper.wp
      go_simp
      refine hK _ ?_ ?_
      · repeat (first | with_reducible exact Kept.refl _ _ | with_reducible refine Kept.setIn ?_ (by simp) _)
      · refine Blk.cast ((((((((((((hb'.set_ 0 _).set_ 1 _).set_ 2 _).set_ 3 _).set_ 4 _).set_ 5 _).set_ 6 _).set_ 7 _).set_ 8 _).set_ 9 _).set_ 10 _).set_ 11 _) ?_
        kernel_rfl
  case rest =>
    rintro a w' ⟨t1, t2, t3, t4, g, g0, g1, g2, g3, g4, g5, g6, g7, g8, g9, g10, e3, hbg, h0, h1, h2, h3, h4, h5, h6, h7, h8, h9, h10⟩
    have t5 : a.tmps.size = 114 := t2
    obtain ⟨u4, y4⟩ : ∃ u, a.tmps[4]? = some u := ⟨_, Array.getElem?_eq_getElem (by omega)⟩
    obtain ⟨u5, y5⟩ : ∃ u, a.tmps[5]? = some u := ⟨_, Array.getElem?_eq_getElem (by omega)⟩
    obtain ⟨u6, y6⟩ : ∃ u, a.tmps[6]? = some u := ⟨_, Array.getElem?_eq_getElem (by omega)⟩
    obtain ⟨u7, y7⟩ : ∃ u, a.tmps[7]? = some u := ⟨_, Array.getElem?_eq_getElem (by omega)⟩
    obtain ⟨u8, y8⟩ : ∃ u, a.tmps[8]? = some u := ⟨_, Array.getElem?_eq_getElem (by omega)⟩
    obtain ⟨u9, y9⟩ : ∃ u, a.tmps[9]? = some u := ⟨_, Array.getElem?_eq_getElem (by omega)⟩
    obtain ⟨u10, y10⟩ : ∃ u, a.tmps[10]? = some u := ⟨_, Array.getElem?_eq_getElem (by omega)⟩
    obtain ⟨u11, y11⟩ : ∃ u, a.tmps[11]? = some u := ⟨_, Array.getElem?_eq_getElem (by omega)⟩
    obtain ⟨u12, y12⟩ : ∃ u, a.tmps[12]? = some u := ⟨_, Array.getElem?_eq_getElem (by omega)⟩
    obtain ⟨u13, y13⟩ : ∃ u, a.tmps[13]? = some u := ⟨_, Array.getElem?_eq_getElem (by omega)⟩
    obtain ⟨u14, y14⟩ : ∃ u, a.tmps[14]? = some u := ⟨_, Array.getElem?_eq_getElem (by omega)⟩
    obtain ⟨u15, y15⟩ : ∃ u, a.tmps[15]? = some u := ⟨_, Array.getElem?_eq_getElem (by omega)⟩
    obtain ⟨u16, y16⟩ : ∃ u, a.tmps[16]? = some u := ⟨_, Array.getElem?_eq_getElem (by omega)⟩
    obtain ⟨u17, y17⟩ : ∃ u, a.tmps[17]? = some u := ⟨_, Array.getElem?_eq_getElem (by omega)⟩
    obtain ⟨u18, y18⟩ : ∃ u, a.tmps[18]? = some u := ⟨_, Array.getElem?_eq_getElem (by omega)⟩
    obtain ⟨u19, y19⟩ : ∃ u, a.tmps[19]? = some u := ⟨_, Array.getElem?_eq_getElem (by omega)⟩
    obtain ⟨u20, y20⟩ : ∃ u, a.tmps[20]? = some u := ⟨_, Array.getElem?_eq_getElem (by omega)⟩
    obtain ⟨u21, y21⟩ : ∃ u, a.tmps[21]? = some u := ⟨_, Array.getElem?_eq_getElem (by omega)⟩
    obtain ⟨u22, y22⟩ : ∃ u, a.tmps[22]? = some u := ⟨_, Array.getElem?_eq_getElem (by omega)⟩
    obtain ⟨u23, y23⟩ : ∃ u, a.tmps[23]? = some u := ⟨_, Array.getElem?_eq_getElem (by omega)⟩
    obtain ⟨u24, y24⟩ : ∃ u, a.tmps[24]? = some u := ⟨_, Array.getElem?_eq_getElem (by omega)⟩
    obtain ⟨u25, y25⟩ : ∃ u, a.tmps[25]? = some u := ⟨_, Array.getElem?_eq_getElem (by omega)⟩
    obtain ⟨u26, y26⟩ : ∃ u, a.tmps[26]? = some u := ⟨_, Array.getElem?_eq_getElem (by omega)⟩
    obtain ⟨u27, y27⟩ : ∃ u, a.tmps[27]? = some u := ⟨_, Array.getElem?_eq_getElem (by omega)⟩
    obtain ⟨u28, y28⟩ : ∃ u, a.tmps[28]? = some u := ⟨_, Array.getElem?_eq_getElem (by omega)⟩
    obtain ⟨u29, y29⟩ : ∃ u, a.tmps[29]? = some u := ⟨_, Array.getElem?_eq_getElem (by omega)⟩
    obtain ⟨u30, y30⟩ : ∃ u, a.tmps[30]? = some u := ⟨_, Array.getElem?_eq_getElem (by omega)⟩
    obtain ⟨u31, y31⟩ : ∃ u, a.tmps[31]? = some u := ⟨_, Array.getElem?_eq_getElem (by omega)⟩
    obtain ⟨u32, y32⟩ : ∃ u, a.tmps[32]? = some u := ⟨_, Array.getElem?_eq_getElem (by omega)⟩
    obtain ⟨u33, y33⟩ : ∃ u, a.tmps[33]? = some u := ⟨_, Array.getElem?_eq_getElem (by omega)⟩
    obtain ⟨u34, y34⟩ : ∃ u, a.tmps[34]? = some u := ⟨_, Array.getElem?_eq_getElem (by omega)⟩
    obtain ⟨u35, y35⟩ : ∃ u, a.tmps[35]? = some u := ⟨_, Array.getElem?_eq_getElem (by omega)⟩
    obtain ⟨u36, y36⟩ : ∃ u, a.tmps[36]? = some u := ⟨_, Array.getElem?_eq_getElem (by omega)⟩
    obtain ⟨u37, y37⟩ : ∃ u, a.tmps[37]? = some u := ⟨_, Array.getElem?_eq_getElem (by omega)⟩
    obtain ⟨u38, y38⟩ : ∃ u, a.tmps[38]? = some u := ⟨_, Array.getElem?_eq_getElem (by omega)⟩
    obtain ⟨u39, y39⟩ : ∃ u, a.tmps[39]? = some u := ⟨_, Array.getElem?_eq_getElem (by omega)⟩
    obtain ⟨u40, y40⟩ : ∃ u, a.tmps[40]? = some u := ⟨_, Array.getElem?_eq_getElem (by omega)⟩
    obtain ⟨u41, y41⟩ : ∃ u, a.tmps[41]? = some u := ⟨_, Array.getElem?_eq_getElem (by omega)⟩
    obtain ⟨u42, y42⟩ : ∃ u, a.tmps[42]? = some u := ⟨_, Array.getElem?_eq_getElem (by omega)⟩
    obtain ⟨u43, y43⟩ : ∃ u, a.tmps[43]? = some u := ⟨_, Array.getElem?_eq_getElem (by omega)⟩
    obtain ⟨u44, y44⟩ : ∃ u, a.tmps[44]? = some u := ⟨_, Array.getElem?_eq_getElem (by omega)⟩
    obtain ⟨u45, y45⟩ : ∃ u, a.tmps[45]? = some u := ⟨_, Array.getElem?_eq_getElem (by omega)⟩
    obtain ⟨u46, y46⟩ : ∃ u, a.tmps[46]? = some u := ⟨_, Array.getElem?_eq_getElem (by omega)⟩
    obtain ⟨u47, y47⟩ : ∃ u, a.tmps[47]? = some u := ⟨_, Array.getElem?_eq_getElem (by omega)⟩
    obtain ⟨u48, y48⟩ : ∃ u, a.tmps[48]? = some u := ⟨_, Array.getElem?_eq_getElem (by omega)⟩
    obtain ⟨u49, y49⟩ : ∃ u, a.tmps[49]? = some u := ⟨_, Array.getElem?_eq_getElem (by omega)⟩
    obtain ⟨u50, y50⟩ : ∃ u, a.tmps[50]? = some u := ⟨_, Array.getElem?_eq_getElem (by omega)⟩
    obtain ⟨u51, y51⟩ : ∃ u, a.tmps[51]? = some u := ⟨_, Array.getElem?_eq_getElem (by omega)⟩
    obtain ⟨u52, y52⟩ : ∃ u, a.tmps[52]? = some u := ⟨_, Array.getElem?_eq_getElem (by omega)⟩
    obtain ⟨u53, y53⟩ : ∃ u, a.tmps[53]? = some u := ⟨_, Array.getElem?_eq_getElem (by omega)⟩
    obtain ⟨u54, y54⟩ : ∃ u, a.tmps[54]? = some u := ⟨_, Array.getElem?_eq_getElem (by omega)⟩
    obtain ⟨u55, y55⟩ : ∃ u, a.tmps[55]? = some u := ⟨_, Array.getElem?_eq_getElem (by omega)⟩
    obtain ⟨u56, y56⟩ : ∃ u, a.tmps[56]? = some u := ⟨_, Array.getElem?_eq_getElem (by omega)⟩
    obtain ⟨u57, y57⟩ : ∃ u, a.tmps[57]? = some u := ⟨_, Array.getElem?_eq_getElem (by omega)⟩
    obtain ⟨u58, y58⟩ : ∃ u, a.tmps[58]? = some u := ⟨_, Array.getElem?_eq_getElem (by omega)⟩
    obtain ⟨u59, y59⟩ : ∃ u, a.tmps[59]? = some u := ⟨_, Array.getElem?_eq_getElem (by omega)⟩
    obtain ⟨u60, y60⟩ : ∃ u, a.tmps[60]? = some u := ⟨_, Array.getElem?_eq_getElem (by omega)⟩
    obtain ⟨u61, y61⟩ : ∃ u, a.tmps[61]? = some u := ⟨_, Array.getElem?_eq_getElem (by omega)⟩
    obtain ⟨u62, y62⟩ : ∃ u, a.tmps[62]? = some u := ⟨_, Array.getElem?_eq_getElem (by omega)⟩
    obtain ⟨u63, y63⟩ : ∃ u, a.tmps[63]? = some u := ⟨_, Array.getElem?_eq_getElem (by omega)⟩
    obtain ⟨u64, y64⟩ : ∃ u, a.tmps[64]? = some u := ⟨_, Array.getElem?_eq_getElem (by omega)⟩
    obtain ⟨u65, y65⟩ : ∃ u, a.tmps[65]? = some u := ⟨_, Array.getElem?_eq_getElem (by omega)⟩
    obtain ⟨u66, y66⟩ : ∃ u, a.tmps[66]? = some u := ⟨_, Array.getElem?_eq_getElem (by omega)⟩
    obtain ⟨u67, y67⟩ : ∃ u, a.tmps[67]? = some u := ⟨_, Array.getElem?_eq_getElem (by omega)⟩
    obtain ⟨u68, y68⟩ : ∃ u, a.tmps[68]? = some u := ⟨_, Array.getElem?_eq_getElem (by omega)⟩
    obtain ⟨u69, y69⟩ : ∃ u, a.tmps[69]? = some u := ⟨_, Array.getElem?_eq_getElem (by omega)⟩
    obtain ⟨u70, y70⟩ : ∃ u, a.tmps[70]? = some u := ⟨_, Array.getElem?_eq_getElem (by omega)⟩
    obtain ⟨u71, y71⟩ : ∃ u, a.tmps[71]? = some u := ⟨_, Array.getElem?_eq_getElem (by omega)⟩
    obtain ⟨u72, y72⟩ : ∃ u, a.tmps[72]? = some u := ⟨_, Array.getElem?_eq_getElem (by omega)⟩
    obtain ⟨u73, y73⟩ : ∃ u, a.tmps[73]? = some u := ⟨_, Array.getElem?_eq_getElem (by omega)⟩
    obtain ⟨u74, y74⟩ : ∃ u, a.tmps[74]? = some u := ⟨_, Array.getElem?_eq_getElem (by omega)⟩
    obtain ⟨u75, y75⟩ : ∃ u, a.tmps[75]? = some u := ⟨_, Array.getElem?_eq_getElem (by omega)⟩
    obtain ⟨u76, y76⟩ : ∃ u, a.tmps[76]? = some u := ⟨_, Array.getElem?_eq_getElem (by omega)⟩
    obtain ⟨u77, y77⟩ : ∃ u, a.tmps[77]? = some u := ⟨_, Array.getElem?_eq_getElem (by omega)⟩
    obtain ⟨u78, y78⟩ : ∃ u, a.tmps[78]? = some u := ⟨_, Array.getElem?_eq_getElem (by omega)⟩
    obtain ⟨u79, y79⟩ : ∃ u, a.tmps[79]? = some u := ⟨_, Array.getElem?_eq_getElem (by omega)⟩
    obtain ⟨u80, y80⟩ : ∃ u, a.tmps[80]? = some u := ⟨_, Array.getElem?_eq_getElem (by omega)⟩
    obtain ⟨u81, y81⟩ : ∃ u, a.tmps[81]? = some u := ⟨_, Array.getElem?_eq_getElem (by omega)⟩
    obtain ⟨u82, y82⟩ : ∃ u, a.tmps[82]? = some u := ⟨_, Array.getElem?_eq_getElem (by omega)⟩
    obtain ⟨u83, y83⟩ : ∃ u, a.tmps[83]? = some u := ⟨_, Array.getElem?_eq_getElem (by omega)⟩
    obtain ⟨u84, y84⟩ : ∃ u, a.tmps[84]? = some u := ⟨_, Array.getElem?_eq_getElem (by omega)⟩
    obtain ⟨u85, y85⟩ : ∃ u, a.tmps[85]? = some u := ⟨_, Array.getElem?_eq_getElem (by omega)⟩
    obtain ⟨u86, y86⟩ : ∃ u, a.tmps[86]? = some u := ⟨_, Array.getElem?_eq_getElem (by omega)⟩
    obtain ⟨u87, y87⟩ : ∃ u, a.tmps[87]? = some u := ⟨_, Array.getElem?_eq_getElem (by omega)⟩
    obtain ⟨u88, y88⟩ : ∃ u, a.tmps[88]? = some u := ⟨_, Array.getElem?_eq_getElem (by omega)⟩
    obtain ⟨u89, y89⟩ : ∃ u, a.tmps[89]? = some u := ⟨_, Array.getElem?_eq_getElem (by omega)⟩
    obtain ⟨u90, y90⟩ : ∃ u, a.tmps[90]? = some u := ⟨_, Array.getElem?_eq_getElem (by omega)⟩
    obtain ⟨u91, y91⟩ : ∃ u, a.tmps[91]? = some u := ⟨_, Array.getElem?_eq_getElem (by omega)⟩
    obtain ⟨u92, y92⟩ : ∃ u, a.tmps[92]? = some u := ⟨_, Array.getElem?_eq_getElem (by omega)⟩
    obtain ⟨u93, y93⟩ : ∃ u, a.tmps[93]? = some u := ⟨_, Array.getElem?_eq_getElem (by omega)⟩
    obtain ⟨u94, y94⟩ : ∃ u, a.tmps[94]? = some u := ⟨_, Array.getElem?_eq_getElem (by omega)⟩
    obtain ⟨u95, y95⟩ : ∃ u, a.tmps[95]? = some u := ⟨_, Array.getElem?_eq_getElem (by omega)⟩
    have ha := Act.lit (l := [.pointer (some ⟨b, 0, none⟩), undef, .slice none 0 0, .pointer (some ⟨g, 0, none⟩), u4, u5, u6, u7, u8, u9, u10, u11, u12, u13, u14, u15, u16, u17, u18, u19, u20, u21, u22, u23, u24, u25, u26, u27, u28, u29, u30, u31, u32, u33, u34, u35, u36, u37, u38, u39, u40, u41, u42, u43, u44, u45, u46, u47, u48, u49, u50, u51, u52, u53, u54, u55, u56, u57, u58, u59, u60, u61, u62, u63, u64, u65, u66, u67, u68, u69, u70, u71, u72, u73, u74, u75, u76, u77, u78, u79, u80, u81, u82, u83, u84, u85, u86, u87, u88, u89, u90, u91, u92, u93, u94, u95, undef, undef, undef, undef, undef, undef, undef, undef, undef, undef, undef, undef, undef, undef, undef, undef, undef, undef]) t1 t5 ⟨(t4 0 (by omega)).trans rfl, (t4 1 (by omega)).trans rfl, (t4 2 (by omega)).trans rfl, e3, y4, y5, y6, y7, y8, y9, y10, y11, y12, y13, y14, y15, y16, y17, y18, y19, y20, y21, y22, y23, y24, y25, y26, y27, y28, y29, y30, y31, y32, y33, y34, y35, y36, y37, y38, y39, y40, y41, y42, y43, y44, y45, y46, y47, y48, y49, y50, y51, y52, y53, y54, y55, y56, y57, y58, y59, y60, y61, y62, y63, y64, y65, y66, y67, y68, y69, y70, y71, y72, y73, y74, y75, y76, y77, y78, y79, y80, y81, y82, y83, y84, y85, y86, y87, y88, y89, y90, y91, y92, y93, y94, y95, (t4 96 (by omega)).trans rfl, (t4 97 (by omega)).trans rfl, (t4 98 (by omega)).trans rfl, (t4 99 (by omega)).trans rfl, (t4 100 (by omega)).trans rfl, (t4 101 (by omega)).trans rfl, (t4 102 (by omega)).trans rfl, (t4 103 (by omega)).trans rfl, (t4 104 (by omega)).trans rfl, (t4 105 (by omega)).trans rfl, (t4 106 (by omega)).trans rfl, (t4 107 (by omega)).trans rfl, (t4 108 (by omega)).trans rfl, (t4 109 (by omega)).trans rfl, (t4 110 (by omega)).trans rfl, (t4 111 (by omega)).trans rfl, (t4 112 (by omega)).trans rfl, (t4 113 (by omega)).trans rfl, trivial⟩
    subst ha
    clear t1 t2 t4 t5 e3 y4 y5 y6 y7 y8 y9 y10 y11 y12 y13 y14 y15 y16 y17 y18 y19 y20 y21 y22 y23 y24 y25 y26 y27 y28 y29 y30 y31 y32 y33 y34 y35 y36 y37 y38 y39 y40 y41 y42 y43 y44 y45 y46 y47 y48 y49 y50 y51 y52 y53 y54 y55 y56 y57 y58 y59 y60 y61 y62 y63 y64 y65 y66 y67 y68 y69 y70 y71 y72 y73 y74 y75 y76 y77 y78 y79 y80 y81 y82 y83 y84 y85 y86 y87 y88 y89 y90 y91 y92 y93 y94 y95
    dsimp only
    have k0 : w'.cell? ⟨b, 0, none⟩ = some (.int .i64 kind) := ((Kept.of_fine (S := fun _ => False) t3).cell hb id).trans hc
    clear hc
    by_cases hlo : kind < 0
    · go_wp2_with fail
      go_ret
      exact ⟨none, 0, by rw [fieldsOf_out (by omega)]; rfl, by rw [fieldsOf_out (by omega)]; exact RS.nil_ _ _, fun _ _ e => (by cases e), t3⟩
    by_cases hhi : 11 < kind
    · go_wp2_with fail
      go_ret
      exact ⟨none, 0, by rw [fieldsOf_out (by omega)]; rfl, by rw [fieldsOf_out (by omega)]; exact RS.nil_ _ _, fun _ _ e => (by cases e), t3⟩
    have hk : kind = 0 ∨ kind = 1 ∨ kind = 2 ∨ kind = 3 ∨ kind = 4 ∨ kind = 5 ∨ kind = 6 ∨ kind = 7 ∨ kind = 8 ∨ kind = 9 ∨ kind = 10 ∨ kind = 11 := by omega
    clear hlo hhi
    rcases hk with rfl | rfl | rfl | rfl | rfl | rfl | rfl | rfl | rfl | rfl | rfl | rfl
    · have hcl : w'.cell? ⟨g, 0, none⟩ = some (.slice none 0 0) := hbg.cell 0
      go_wp2_with fail
      go_ret
      exact ⟨none, 0, rfl, RS.nil_ _ _, fun _ _ e => (by cases e), t3⟩
    · have hcl : w'.cell? ⟨g, 1, none⟩ = some (.slice (some ⟨g0, 0, none⟩) 1 1) := hbg.cell 1
      have hrs : RS (layPl b) w' (some ⟨g0, 0, none⟩) 1 (fieldsOf 1) := RS.ofBlk h0 (by kernel_rfl) (by kernel_rfl) (by unfold maxLen; omega)
      have hty : ∀ b' o, (some ⟨g0, 0, none⟩ : Option Addr) = some ⟨b', o, none⟩ → ∃ cs, Blk w' b' 96 cs := fun b' o e => by
        injection e with e; injection e with e1 e2; subst e1; exact ⟨_, h0⟩
      clear h0 h1 h2 h3 h4 h5 h6 h7 h8 h9 h10 hbg
      go_wp2_with fail
      go_ret
      exact ⟨_, _, rfl, hrs, hty, t3⟩
    · have hcl : w'.cell? ⟨g, 2, none⟩ = some (.slice (some ⟨g1, 0, none⟩) 4 4) := hbg.cell 2
      have hrs : RS (layPl b) w' (some ⟨g1, 0, none⟩) 4 (fieldsOf 2) := RS.ofBlk h1 (by kernel_rfl) (by kernel_rfl) (by unfold maxLen; omega)
      have hty : ∀ b' o, (some ⟨g1, 0, none⟩ : Option Addr) = some ⟨b', o, none⟩ → ∃ cs, Blk w' b' 96 cs := fun b' o e => by
        injection e with e; injection e with e1 e2; subst e1; exact ⟨_, h1⟩
      clear h0 h1 h2 h3 h4 h5 h6 h7 h8 h9 h10 hbg
      go_wp2_with fail
      go_ret
      exact ⟨_, _, rfl, hrs, hty, t3⟩
    · have hcl : w'.cell? ⟨g, 3, none⟩ = some (.slice (some ⟨g2, 0, none⟩) 2 2) := hbg.cell 3
      have hrs : RS (layPl b) w' (some ⟨g2, 0, none⟩) 2 (fieldsOf 3) := RS.ofBlk h2 (by kernel_rfl) (by kernel_rfl) (by unfold maxLen; omega)
      have hty : ∀ b' o, (some ⟨g2, 0, none⟩ : Option Addr) = some ⟨b', o, none⟩ → ∃ cs, Blk w' b' 96 cs := fun b' o e => by
        injection e with e; injection e with e1 e2; subst e1; exact ⟨_, h2⟩
      clear h0 h1 h2 h3 h4 h5 h6 h7 h8 h9 h10 hbg
      go_wp2_with fail
      go_ret
      exact ⟨_, _, rfl, hrs, hty, t3⟩
    · have hcl : w'.cell? ⟨g, 4, none⟩ = some (.slice (some ⟨g3, 0, none⟩) 1 1) := hbg.cell 4
      have hrs : RS (layPl b) w' (some ⟨g3, 0, none⟩) 1 (fieldsOf 4) := RS.ofBlk h3 (by kernel_rfl) (by kernel_rfl) (by unfold maxLen; omega)
      have hty : ∀ b' o, (some ⟨g3, 0, none⟩ : Option Addr) = some ⟨b', o, none⟩ → ∃ cs, Blk w' b' 96 cs := fun b' o e => by
        injection e with e; injection e with e1 e2; subst e1; exact ⟨_, h3⟩
      clear h0 h1 h2 h3 h4 h5 h6 h7 h8 h9 h10 hbg
      go_wp2_with fail
      go_ret
      exact ⟨_, _, rfl, hrs, hty, t3⟩
    · have hcl : w'.cell? ⟨g, 5, none⟩ = some (.slice (some ⟨g4, 0, none⟩) 6 6) := hbg.cell 5
      have hrs : RS (layPl b) w' (some ⟨g4, 0, none⟩) 6 (fieldsOf 5) := RS.ofBlk h4 (by kernel_rfl) (by kernel_rfl) (by unfold maxLen; omega)
      have hty : ∀ b' o, (some ⟨g4, 0, none⟩ : Option Addr) = some ⟨b', o, none⟩ → ∃ cs, Blk w' b' 96 cs := fun b' o e => by
        injection e with e; injection e with e1 e2; subst e1; exact ⟨_, h4⟩
      clear h0 h1 h2 h3 h4 h5 h6 h7 h8 h9 h10 hbg
      go_wp2_with fail
      go_ret
      exact ⟨_, _, rfl, hrs, hty, t3⟩
    · have hcl : w'.cell? ⟨g, 6, none⟩ = some (.slice (some ⟨g5, 0, none⟩) 1 1) := hbg.cell 6
      have hrs : RS (layPl b) w' (some ⟨g5, 0, none⟩) 1 (fieldsOf 6) := RS.ofBlk h5 (by kernel_rfl) (by kernel_rfl) (by unfold maxLen; omega)
      have hty : ∀ b' o, (some ⟨g5, 0, none⟩ : Option Addr) = some ⟨b', o, none⟩ → ∃ cs, Blk w' b' 96 cs := fun b' o e => by
        injection e with e; injection e with e1 e2; subst e1; exact ⟨_, h5⟩
      clear h0 h1 h2 h3 h4 h5 h6 h7 h8 h9 h10 hbg
      go_wp2_with fail
      go_ret
      exact ⟨_, _, rfl, hrs, hty, t3⟩
    · have hcl : w'.cell? ⟨g, 7, none⟩ = some (.slice (some ⟨g6, 0, none⟩) 1 1) := hbg.cell 7
      have hrs : RS (layPl b) w' (some ⟨g6, 0, none⟩) 1 (fieldsOf 7) := RS.ofBlk h6 (by kernel_rfl) (by kernel_rfl) (by unfold maxLen; omega)
      have hty : ∀ b' o, (some ⟨g6, 0, none⟩ : Option Addr) = some ⟨b', o, none⟩ → ∃ cs, Blk w' b' 96 cs := fun b' o e => by
        injection e with e; injection e with e1 e2; subst e1; exact ⟨_, h6⟩
      clear h0 h1 h2 h3 h4 h5 h6 h7 h8 h9 h10 hbg
      go_wp2_with fail
      go_ret
      exact ⟨_, _, rfl, hrs, hty, t3⟩
    · have hcl : w'.cell? ⟨g, 8, none⟩ = some (.slice (some ⟨g7, 0, none⟩) 1 1) := hbg.cell 8
      have hrs : RS (layPl b) w' (some ⟨g7, 0, none⟩) 1 (fieldsOf 8) := RS.ofBlk h7 (by kernel_rfl) (by kernel_rfl) (by unfold maxLen; omega)
      have hty : ∀ b' o, (some ⟨g7, 0, none⟩ : Option Addr) = some ⟨b', o, none⟩ → ∃ cs, Blk w' b' 96 cs := fun b' o e => by
        injection e with e; injection e with e1 e2; subst e1; exact ⟨_, h7⟩
      clear h0 h1 h2 h3 h4 h5 h6 h7 h8 h9 h10 hbg
      go_wp2_with fail
      go_ret
      exact ⟨_, _, rfl, hrs, hty, t3⟩
    · have hcl : w'.cell? ⟨g, 9, none⟩ = some (.slice (some ⟨g8, 0, none⟩) 1 1) := hbg.cell 9
      have hrs : RS (layPl b) w' (some ⟨g8, 0, none⟩) 1 (fieldsOf 9) := RS.ofBlk h8 (by kernel_rfl) (by kernel_rfl) (by unfold maxLen; omega)
      have hty : ∀ b' o, (some ⟨g8, 0, none⟩ : Option Addr) = some ⟨b', o, none⟩ → ∃ cs, Blk w' b' 96 cs := fun b' o e => by
        injection e with e; injection e with e1 e2; subst e1; exact ⟨_, h8⟩
      clear h0 h1 h2 h3 h4 h5 h6 h7 h8 h9 h10 hbg
      go_wp2_with fail
      go_ret
      exact ⟨_, _, rfl, hrs, hty, t3⟩
    · have hcl : w'.cell? ⟨g, 10, none⟩ = some (.slice (some ⟨g9, 0, none⟩) 1 1) := hbg.cell 10
      have hrs : RS (layPl b) w' (some ⟨g9, 0, none⟩) 1 (fieldsOf 10) := RS.ofBlk h9 (by kernel_rfl) (by kernel_rfl) (by unfold maxLen; omega)
      have hty : ∀ b' o, (some ⟨g9, 0, none⟩ : Option Addr) = some ⟨b', o, none⟩ → ∃ cs, Blk w' b' 96 cs := fun b' o e => by
        injection e with e; injection e with e1 e2; subst e1; exact ⟨_, h9⟩
      clear h0 h1 h2 h3 h4 h5 h6 h7 h8 h9 h10 hbg
      go_wp2_with fail
      go_ret
      exact ⟨_, _, rfl, hrs, hty, t3⟩
    · have hcl : w'.cell? ⟨g, 11, none⟩ = some (.slice (some ⟨g10, 0, none⟩) 1 1) := hbg.cell 11
      have hrs : RS (layPl b) w' (some ⟨g10, 0, none⟩) 1 (fieldsOf 11) := RS.ofBlk h10 (by kernel_rfl) (by kernel_rfl) (by unfold maxLen; omega)
      have hty : ∀ b' o, (some ⟨g10, 0, none⟩ : Option Addr) = some ⟨b', o, none⟩ → ∃ cs, Blk w' b' 96 cs := fun b' o e => by
        injection e with e; injection e with e1 e2; subst e1; exact ⟨_, h10⟩
      clear h0 h1 h2 h3 h4 h5 h6 h7 h8 h9 h10 hbg
      go_wp2_with fail
      go_ret
      exact ⟨_, _, rfl, hrs, hty, t3⟩
end Go.Proofs.YthnennleblgjeaaDoor
