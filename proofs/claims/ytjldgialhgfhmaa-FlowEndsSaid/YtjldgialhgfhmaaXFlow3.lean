/- A flow: tell, put. -/
import Derived.Test.YtjldgialhgfhmaaXFlow2
import Derived.Deep.Cut
import Derived.Deep.CutBlock
import Derived.Deep.RegionLaw
namespace Go.Proofs.Ytjldgialhgfhmaa
set_option linter.unusedVariables false
set_option linter.unusedSimpArgs false
open Go.ChangeShapes Go.WideShapes Go.ChangeAt Go.RowKit Go.Maps
set_option linter.unusedVariables false
set_option linter.unusedSimpArgs false
theorem end_same (g : Nat) (F : Nat → Prop) (ps : List Pc) (e : Int) (w : World) (h : QB w F g ps e) : Calls Try.prog 33 #[.pointer (some ⟨g, 0, none⟩)] w fun x w' => x = .returned (.int .u32 e) ∧ w = w' := by
  obtain ⟨A, c, rs, h1, h2, h3, h4, h5, h6⟩ := h
  have c1 : w.cell? ⟨g, 1, none⟩ = some (.int .u32 e) := h1.cell 1
  clear h1 h2 h3 h4 h5 h6
  go_enter Try.func33, Try.ntmps33
  go_wp2_with fail
  go_ret
  exact ⟨rfl, rfl⟩
section
variable {F : Nat → Prop} {w : World} {f : Nat} {S : Fl}
theorem ftold_same {q : Nat} {h has tw : Bool} {s v k st rcv tries at_ since : Int} {o : Value} {w : World} (hb : Blk w f 111 (fc q h s v k st rcv tries at_ has since tw o)) :
    Calls Try.prog 89 #[.pointer (some ⟨f, 0, none⟩)] w fun e w' => e = .returned (.int .u32 (if st = 1 then 0 else rcv)) ∧ w = w' := by
  have c5 : w.cell? ⟨f, 5, none⟩ = some (.int .i64 st) := hb.cell 5
  have c6 : w.cell? ⟨f, 6, none⟩ = some (.int .u32 rcv) := hb.cell 6
  clear hb
  by_cases h1 : st = 1
  · subst h1
    rw [if_pos rfl]
    go_enter Try.func89, Try.ntmps89
    go_wp2_with fail
    go_ret
    exact ⟨rfl, rfl⟩
  · rw [if_neg h1]
    have g : (st == 1) = false := by simpa using h1
    go_enter Try.func89, Try.ntmps89
    go_wp2_with fail
    go_ret
    exact ⟨rfl, rfl⟩
/-- What the flow tells: a piece without anything, what came. -/
def Fl.telling (S : Fl) (rst : Bool) : Ot := ⟨⟨S.e, false, false, [], 0, false⟩, S.rcv, true, rst⟩
def Fl.tell (S : Fl) : Fl := { S with out := S.out ++ [S.telling false] }
theorem FlX.came {wA wB : World} {A2 : Option Addr} {n2 c2 : Nat} {o : Ro} {t : Ot} {q : Nat} {A : Option Addr} {c : Nat} {ros : List Ro} {Q D : Nat → Prop} (h : FlX F w f q A c ros Q D S) (fa : Fine w wA) (k : Kept (fun y => (Value.slice A ros.length c).ownBlock = some y) wA wB) (hn : n2 = (ros ++ [o]).length) (ho : Own layO 94 wB 0 (.slice A2 n2 c2) (ros ++ [o]))
    {n0 : Nat} {m : Nat} (hv : (Value.slice A2 n2 c2).ownBlock = (Value.slice A n0 c).ownBlock ∨ (Value.slice A2 n2 c2).ownBlock = some m) (hm : wA.heap.size ≤ m) (ht : IsO wA (fun _ => False) o t) :
    FlOf F f { S with out := S.out ++ [t] } w (wB.setCell ⟨f, 12, none⟩ (.slice A2 n2 c2)) := by
  have h1 := h.fine fa
  have e0 : (Value.slice A n0 c).ownBlock = (Value.slice A ros.length c).ownBlock := by unfold Value.ownBlock; rcases A with _ | ⟨b, _ | k, _ | p⟩ <;> rfl
  have X := h1.more k hn ho (hv.imp (fun h => h.trans e0) (fun h y hy => by have h2 := h.symm.trans hy; injection h2 with h2; omega)) ht (fun b hb => hb.elim)
  refine ⟨_, ⟨_, _, _, _, _, _, X⟩, ?_, fun b hb => ?_⟩
  · exact (((Kept.of_fine fa).trans (k.mono (fun y _ e => h1.fr y e)))).setIn (p := ⟨f, 12, none⟩) h.ff _
  · rcases hb with hb | hb | hb
    · exact .inl hb
    · exact hb.elim
    · exact .inr (Nat.le_trans fa.size hb.1)
set_option maxHeartbeats 2000000 in
set_option maxRecDepth 20000 in
theorem ftell_any (hn : S.out.length ≤ 100000) (h : FlS F w f S) : Calls Try.prog 78 #[.pointer (some ⟨f, 0, none⟩)] w fun e w' => e = .returned (.tuple #[]) ∧ FlOf F f S.tell w w' := by
  obtain ⟨q, A, c, ros, Q, D, hX⟩ := h
  have H := Lib.hid hX
  obtain ⟨n, hn'⟩ : ∃ n, ros.length = n := ⟨_, rfl⟩
  have HN := Lib.hid hn'
  have hnb : n ≤ 100000 := by rw [← hn', hX.outs.1]; exact hn
  obtain ⟨e, he⟩ : ∃ z, S.e = z := ⟨_, rfl⟩
  obtain ⟨rcv, hrcv⟩ : ∃ z, S.rcv = z := ⟨_, rfl⟩
  have HE := Lib.hid he; have HR := Lib.hid hrcv
  obtain ⟨wx, hwx⟩ : ∃ z, z = w := ⟨_, rfl⟩
  subst hwx
  have HXX := H
  clear hX hn hn' he hrcv
  go_enter Try.func78, Try.ntmps78
  have c12 : wx.cell? ⟨f, 12, none⟩ = some (.slice A n c) := by have := HXX.out.box.cell 12; rw [HN.out] at this; exact this
  have c0 : wx.cell? ⟨f, 0, none⟩ = some (.pointer (some ⟨q, 0, none⟩)) := HXX.out.box.cell 0
  have c6 : wx.cell? ⟨f, 6, none⟩ = some (.int .u32 rcv) := by have := HXX.out.box.cell 6; rw [HR.out] at this; exact this
  have QE := Lib.hid (by have := end_same q Q S.ps S.e wx.drew (HXX.out.que.fine (Fine.refl wx).drew); rw [HE.out] at this; exact this : Calls Try.prog 33 #[.pointer (some ⟨q, 0, none⟩)] wx.drew fun x w' => x = .returned (.int .u32 e) ∧ wx.drew = w')
  have HEL : Hid ((ros ++ [(⟨⟨e, false, false, none, 0, 0, 0, false⟩, rcv, true, false⟩ : Ro)]).length = n + 1) := Lib.hid (by rw [List.length_append, HN.out]; rfl)
  have fa0 : Fine wx (wx.drew.alloc (.cells (⟨⟨e, false, false, none, 0, 0, 0, false⟩, rcv, true, false⟩ : Ro).cells.toArray 94)) := (Fine.refl wx).drew.alloc _
  have e12 : ∀ o, (wx.alloc o).cell? ⟨f, 12, none⟩ = some (.slice A n c) := fun o => by have := (HXX.out.box.fine ((Fine.refl wx).alloc o)).cell 12; rw [HN.out] at this; exact this
  have z12 : ∀ o, (wx.alloc o).frozen? ⟨f, 12, none⟩ = false := fun o => (HXX.out.box.fine ((Fine.refl wx).alloc o)).frozen 12
  go_region_law (first | (go_simp; go_at_call 33; refine QE.out.mono ?_; rintro x wE ⟨rfl, rfl⟩) | (refine step_appE rfl sliceO (.tmp 6) (.tmp 18) rfl 0 (.slice A n c) ros rfl (by have := (HXX.out.fine ((Fine.refl wx).drew.alloc (.cells (⟨⟨e, false, false, none, 0, 0, 0, false⟩, rcv, true, false⟩ : Ro).cells.toArray 94))).row; rw [HN.out] at this; exact this) (some ⟨wx.heap.size, 0, none⟩) 1 1 [(⟨⟨e, false, false, none, 0, 0, 0, false⟩, rcv, true, false⟩ : Ro)] rfl rfl (RS.ofBlk (Blk.newAt rfl) rfl rfl (by unfold maxLen; omega)) (by rw [HN.out]; simp; omega) (by rw [HN.out]; simp; unfold maxLen; omega) (Nat.zero_le _) ?_; intro x2 wB oB kB0 gB0 bB; obtain ⟨A3, c3, hx2, _, _⟩ := oB.form; rw [HEL.out] at hx2; subst hx2; have XA := HXX.out.fine ((Fine.refl wx).drew.alloc (.cells (⟨⟨e, false, false, none, 0, 0, 0, false⟩, rcv, true, false⟩ : Ro).cells.toArray 94)); have KB : Kept (fun y => (Value.slice A ros.length c).ownBlock = some y) (wx.drew.alloc (.cells (⟨⟨e, false, false, none, 0, 0, 0, false⟩, rcv, true, false⟩ : Ro).cells.toArray 94)) wB := (by rw [HN.out]; exact Kept.grown (Kept.refl _ _) gB0 (fun k hk _ => hk)); have BB := XA.box.kept KB (fun e => XA.nf f e rfl); have yB0 := BB.cell 12; have yB1 := BB.frozen 12))
  all_goals
    have JJ := Lib.hid (HXX.out.came fa0 KB HEL.out.symm oB bB (Nat.le_refl _) (by rw [← HE.out, ← HR.out]; exact ⟨⟨rfl, rfl, rfl, rfl, rfl, rfl, RS.nil_ _ _, fun b off e => by cases e⟩, rfl, rfl, rfl⟩ : IsO _ (fun _ => False) (⟨⟨e, false, false, none, 0, 0, 0, false⟩, rcv, true, false⟩ : Ro) (S.telling false)))
    exact bodyPost_end (v := .tuple #[]) (by simp [results, Try.results78, go_sem]) rfl ⟨rfl, JJ.out⟩
end
end Go.Proofs.Ytjldgialhgfhmaa
