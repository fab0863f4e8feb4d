/- Package outq: what a queue is behind an append to its pieces. -/
import Derived.Test.YtjldgialhgfhmaaOutq3
namespace Go.Proofs.Ytjldgialhgfhmaa
open Go.ChangeShapes Go.WideShapes Go.ChangeAt Go.RowKit
set_option linter.unusedVariables false

theorem push_state {t : TypeId} {w wA wB : World} {F : Nat → Prop} {g n' c c2 : Nat} {A A2 : Option Addr} {rs : List Raw} {ps : List Pc} {e : Int} {r1 : Raw} {p' : Pc}
    (h1 : Blk w g t #[.slice A rs.length c, .int .u32 e]) (h2 : Own layP 46 w (g + 1) (.slice A rs.length c) rs) (h3 : Iss w (fun b => F b ∧ b ≠ g ∧ ∀ o, A ≠ some ⟨b, o, none⟩) rs ps) (h4 : F g)
    (h5 : ∀ b o, A = some ⟨b, o, none⟩ → F b) (h6 : ∀ b, F b → b < w.heap.size) (fA : Fine w wA) (hn : w.heap.size ≤ n') (hb : n' < wA.heap.size) (hi : Is wA (Fresh n' wA) r1 p')
    (oB : Own layP 46 wB (g + 1) (.slice A2 (rs ++ [r1]).length c2) (rs ++ [r1])) (gB : wA.grownBy wB (Value.slice A rs.length c).ownBlock)
    (bB : (Value.slice A2 (rs ++ [r1]).length c2).ownBlock = (Value.slice A rs.length c).ownBlock ∨ (Value.slice A2 (rs ++ [r1]).length c2).ownBlock = some wA.heap.size) :
    QT t (wB.setCell ⟨g, 0, none⟩ (.slice A2 (rs.length + 1) c2)) (fun b => F b ∨ (n' < b ∧ b < wB.heap.size)) g (ps ++ [p']) e ∧ Kept F w (wB.setCell ⟨g, 0, none⟩ (.slice A2 (rs.length + 1) c2)) := by
  have hsA := fA.size
  have hgl := h1.lt
  have hA : ∀ k, (Value.slice A rs.length c).ownBlock = some k → A = some ⟨k, 0, none⟩ ∧ k ≠ g ∧ k < w.heap.size ∧ F k := fun k hk => by
    have e1 := h2.block_ hk
    have e2 := h2.lt k hk
    exact ⟨e1, by omega, e2.2, h5 k 0 e1⟩
  have kAB : Kept (fun x => (Value.slice A rs.length c).ownBlock = some x) wA wB := Kept.grown (Kept.refl _ wA) gB (fun k hk _ => hk)
  have kk : Kept (· = g) wB (wB.setCell ⟨g, 0, none⟩ (.slice A2 (rs.length + 1) c2)) := Kept.setIn (S := (· = g)) (p := ⟨g, 0, none⟩) (Kept.refl _ _) rfl _
  have hsB := kAB.size
  have hlen : (rs ++ [r1]).length = rs.length + 1 := by simp
  have hA2 : ∀ k o, A2 = some ⟨k, o, none⟩ → (A = some ⟨k, 0, none⟩ ∧ F k ∧ k < w.heap.size) ∨ k = wA.heap.size := fun k o hk => by
    subst hk
    rcases bB with h | h
    · have := hA k h.symm
      exact .inl ⟨this.1, this.2.2.2, this.2.2.1⟩
    · injection h with h
      exact .inr h
  refine ⟨⟨A2, c2, rs ++ [r1], ?_, ?_, ?_, .inl h4, ?_, ?_⟩, ?_⟩
  · have := ((h1.fine fA).kept kAB (fun h => (hA g h).2.1 rfl)).set_ 0 (.slice A2 (rs.length + 1) c2)
    rw [hlen]
    exact this.cast (by simp)
  · exact oB.kept kk (fun k hk h => by have := (oB.lt k hk).1; omega)
  · refine Iss.append ?_ (Iss.one ?_)
    · refine (((h3.fine fA).kept kAB (fun b hb h => hb.2.2 0 (hA b h).1)).kept kk (fun b hb h => hb.2.1 h)).less (fun b hb => ⟨.inl hb.1, hb.2.1, fun o ho => ?_⟩)
      rcases hA2 b o ho with h | h
      · exact hb.2.2 0 h.1
      · have := h6 b hb.1; omega
    · refine ((hi.kept kAB (fun b hb h => ?_)).kept kk (fun b hb h => ?_)).less (fun b hb => ⟨.inr ⟨hb.1, by have := hb.2; omega⟩, ?_, fun o ho => ?_⟩)
      · have := (hA b h).2.2.1; have := hb.1; omega
      · have := hb.1; omega
      · have := hb.1; omega
      · rcases hA2 b o ho with h | h
        · have := hb.1; omega
        · have := hb.2; omega
  · intro b o ho
    rcases hA2 b o ho with h | h
    · exact .inl h.2.1
    · refine .inr ⟨by omega, ?_⟩
      subst ho
      exact (oB.lt b rfl).2
  · intro b hb
    have e1 : (wB.setCell ⟨g, 0, none⟩ (.slice A2 (rs.length + 1) c2)).heap.size = wB.heap.size := by simp [World.setCell]
    rw [e1]
    rcases hb with hb | hb
    · have := h6 b hb; omega
    · exact hb.2
  · refine ((Kept.of_fine (S := F) fA).transG kAB (fun _ _ s => s) (fun x hx s => (hA x s).2.2.2)).transG kk (fun _ _ s => s) (fun x hx s => by subst s; exact h4)
theorem QT.setEnd {t : TypeId} {w : World} {F : Nat → Prop} {g : Nat} {ps : List Pc} {e : Int} (h : QT t w F g ps e) (e' : Int) : QT t (w.setCell ⟨g, 1, none⟩ (.int .u32 e')) F g ps e' ∧ Kept F w (w.setCell ⟨g, 1, none⟩ (.int .u32 e')) := by
  obtain ⟨A, c, rs, h1, h2, h3, h4, h5, h6⟩ := h
  have kk : Kept (· = g) w (w.setCell ⟨g, 1, none⟩ (.int .u32 e')) := Kept.setIn (S := (· = g)) (p := ⟨g, 1, none⟩) (Kept.refl _ _) rfl _
  refine ⟨⟨A, c, rs, (h1.set_ 1 _).cast (by simp), h2.kept kk (fun k hk h => by have := (h2.lt k hk).1; omega), h3.kept kk (fun b hb h => hb.2.1 h), h4, h5, fun b hb => by have := h6 b hb; simpa [World.setCell] using this⟩, kk.mono (fun x _ s => by subst s; exact h4)⟩
end Go.Proofs.Ytjldgialhgfhmaa
