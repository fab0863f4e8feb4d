/- A flow: put. -/
import Derived.Test.YtjldgialhgfhmaaXFlow3
namespace Go.Proofs.Ytjldgialhgfhmaa
set_option linter.unusedVariables false
set_option linter.unusedSimpArgs false
open Go.ChangeShapes Go.WideShapes Go.ChangeAt Go.RowKit Go.Maps
set_option linter.unusedVariables false
set_option linter.unusedSimpArgs false
section
variable {F : Nat → Prop} {w : World} {f : Nat} {S : Fl}
/-- .. with data of its own. -/
theorem FlX.cameV {v : Nat → Prop} {wA wB : World} {A2 : Option Addr} {n2 c2 : Nat} {o : Ro} {t : Ot} {q : Nat} {A : Option Addr} {c : Nat} {ros : List Ro} {Q D : Nat → Prop} (h : FlX F w f q A c ros Q D S) (fa : Fine w wA) (k : Kept (fun y => (Value.slice A ros.length c).ownBlock = some y) wA wB) (hn : n2 = (ros ++ [o]).length) (ho : Own layO 94 wB 0 (.slice A2 n2 c2) (ros ++ [o]))
    {n0 : Nat} {m : Nat} (hv : (Value.slice A2 n2 c2).ownBlock = (Value.slice A n0 c).ownBlock ∨ (Value.slice A2 n2 c2).ownBlock = some m) (hm : wA.heap.size ≤ m) (ht : IsO wA v o t) (hvF : ∀ b, v b → ¬ F b ∧ b < w.heap.size) :
    ∃ F', FlS F' (wB.setCell ⟨f, 12, none⟩ (.slice A2 n2 c2)) f { S with out := S.out ++ [t] } ∧ Kept F w (wB.setCell ⟨f, 12, none⟩ (.slice A2 n2 c2)) ∧ ∀ b, F' b → F b ∨ v b ∨ w.heap.size ≤ b := by
  have h1 := h.fine fa
  have e0 : (Value.slice A n0 c).ownBlock = (Value.slice A ros.length c).ownBlock := by unfold Value.ownBlock; rcases A with _ | ⟨b, _ | k, _ | p⟩ <;> rfl
  have X := h1.more k hn ho (hv.imp (fun h => h.trans e0) (fun h y hy => by have h2 := h.symm.trans hy; injection h2 with h2; omega)) ht (fun b hb => ⟨(hvF b hb).1, Nat.lt_of_lt_of_le (hvF b hb).2 fa.size⟩)
  refine ⟨_, ⟨_, _, _, _, _, _, X⟩, ?_, fun b hb => ?_⟩
  · exact (((Kept.of_fine fa).trans (k.mono (fun y _ e => h1.fr y e)))).setIn (p := ⟨f, 12, none⟩) h.ff _
  · rcases hb with hb | hb | hb
    · exact .inl hb
    · exact .inr (.inl hb)
    · exact .inr (.inr (Nat.le_trans fa.size hb.1))
def Fl.putting (S : Fl) (p : Pc) : Ot := ⟨p, if S.st = 1 then 0 else S.rcv, decide (S.st ≠ 1), false⟩
def Fl.put (S : Fl) (p : Pc) : Fl := { S with out := S.out ++ [S.putting p] }
def PutOf (F v : Nat → Prop) (f : Nat) (S' : Fl) (w w' : World) : Prop := ∃ F', FlS F' w' f S' ∧ Kept F w w' ∧ ∀ b, F' b → F b ∨ v b ∨ w.heap.size ≤ b
set_option maxHeartbeats 4000000 in
set_option maxRecDepth 20000 in
theorem fput_any {v : Nat → Prop} {r : Raw} {p : Pc} (hn : S.out.length ≤ 100000) (hp : Is w v r p) (hv : ∀ b, v b → ¬ F b ∧ b < w.heap.size) (h : FlS F w f S) : Calls Try.prog 83 #[.pointer (some ⟨f, 0, none⟩), .agg r.cells.toArray] w fun e w' => e = .returned (.tuple #[]) ∧ PutOf F v f (S.put p) w w' := by
  obtain ⟨q, A, c, ros, Q, D, hX⟩ := h
  obtain ⟨rseq, rsyn, rfin, rA, rlen, rcap, rdsn, rlast⟩ := r
  obtain ⟨n, hn'⟩ : ∃ n, ros.length = n := ⟨_, rfl⟩
  have HN := Lib.hid hn'
  have hnb : n ≤ 100000 := by rw [← hn', hX.outs.1]; exact hn
  obtain ⟨st, hst⟩ : ∃ z, S.st = z := ⟨_, rfl⟩
  obtain ⟨rcv, hrcv⟩ : ∃ z, (if S.st = 1 then 0 else S.rcv) = z := ⟨_, rfl⟩
  have HST := Lib.hid hst; have HTOLD := Lib.hid hrcv; have HV := Lib.hid hv
  have HACK : Hid (rcv = (S.putting p).ack) := Lib.hid hrcv.symm
  obtain ⟨x3, hx3⟩ : ∃ x, w.heap.size = x := ⟨_, rfl⟩
  have b3 := Blk.newAt (w := w) (t := 46) (cs := #[.int .u32 rseq, .bool rsyn, .bool rfin, .slice rA rlen rcap, .int .i64 rdsn, .bool rlast]) hx3.symm
  have f3 := (Fine.refl w).alloc (.cells #[.int .u32 rseq, .bool rsyn, .bool rfin, .slice rA rlen rcap, .int .i64 rdsn, .bool rlast] 46)
  have H := Lib.hid hX; have HP0 := Lib.hid hp
  clear hX hn hn' hst hrcv hp hv
  show Calls Try.prog 83 #[.pointer (some ⟨f, 0, none⟩), .agg #[.int .u32 rseq, .bool rsyn, .bool rfin, .slice rA rlen rcap, .int .i64 rdsn, .bool rlast]] w _
  obtain ⟨acks, hacks⟩ : ∃ z, (st != 1) = z := ⟨_, rfl⟩
  have HACKS : Hid (acks = (S.putting p).acks) := Lib.hid (by
    rw [← hacks]
    unfold Fl.putting
    rw [HST.out, Bool.eq_iff_iff]
    simp)
  go_enter Try.func83, Try.ntmps83
  go_upto_region 1 with fail
  generalize w.alloc (.cells #[.int .u32 rseq, .bool rsyn, .bool rfin, .slice rA rlen rcap, .int .i64 rdsn, .bool rlast] 46) = wx at b3 f3 ⊢
  have HXX := Lib.hid (H.out.fine f3); have B3 := Lib.hid b3; have FX := Lib.hid f3; have HP := Lib.hid (HP0.out.fine f3)
  clear b3 f3 hx3 H HP0
  have c12 : wx.cell? ⟨f, 12, none⟩ = some (.slice A n c) := by have := HXX.out.box.cell 12; rw [HN.out] at this; exact this
  have c5 : wx.cell? ⟨f, 5, none⟩ = some (.int .i64 st) := by have := HXX.out.box.cell 5; rw [HST.out] at this; exact this
  have p0 : wx.cell? ⟨x3, 0, none⟩ = some (.int .u32 rseq) := B3.out.cell 0
  have p1 : wx.cell? ⟨x3, 1, none⟩ = some (.bool rsyn) := B3.out.cell 1
  have p2 : wx.cell? ⟨x3, 2, none⟩ = some (.bool rfin) := B3.out.cell 2
  have p3 : wx.cell? ⟨x3, 3, none⟩ = some (.slice rA rlen rcap) := B3.out.cell 3
  have p4 : wx.cell? ⟨x3, 4, none⟩ = some (.int .i64 rdsn) := B3.out.cell 4
  have p5 : wx.cell? ⟨x3, 5, none⟩ = some (.bool rlast) := B3.out.cell 5
  have QE := Lib.hid (by have := ftold_same (HXX.out.box.fine (Fine.refl wx).drew); rw [HTOLD.out] at this; exact this : Calls Try.prog 89 #[.pointer (some ⟨f, 0, none⟩)] wx.drew fun x w' => x = .returned (.int .u32 rcv) ∧ wx.drew = w')
  have HEL : Hid ((ros ++ [(⟨⟨rseq, rsyn, rfin, rA, rlen, rcap, rdsn, rlast⟩, rcv, acks, false⟩ : Ro)]).length = n + 1) := Lib.hid (by rw [List.length_append, HN.out]; rfl)
  have fa0 : Fine wx (wx.drew.alloc (.cells (⟨⟨rseq, rsyn, rfin, rA, rlen, rcap, rdsn, rlast⟩, rcv, acks, false⟩ : Ro).cells.toArray 94)) := (Fine.refl wx).drew.alloc _
  have e12 : ∀ o, (wx.alloc o).cell? ⟨f, 12, none⟩ = some (.slice A n c) := fun o => by have := (HXX.out.box.fine ((Fine.refl wx).alloc o)).cell 12; rw [HN.out] at this; exact this
  have z12 : ∀ o, (wx.alloc o).frozen? ⟨f, 12, none⟩ = false := fun o => (HXX.out.box.fine ((Fine.refl wx).alloc o)).frozen 12
  go_region_law (first | (go_simp; go_at_call 89; refine QE.out.mono ?_; rintro x wE ⟨rfl, rfl⟩) | (refine step_appE rfl sliceO (.tmp 8) (.tmp 18) rfl 0 (.slice A n c) ros rfl (by have := (HXX.out.fine ((Fine.refl wx).drew.alloc (.cells (⟨⟨rseq, rsyn, rfin, rA, rlen, rcap, rdsn, rlast⟩, rcv, acks, false⟩ : Ro).cells.toArray 94))).row; rw [HN.out] at this; exact this) (some ⟨wx.heap.size, 0, none⟩) 1 1 [(⟨⟨rseq, rsyn, rfin, rA, rlen, rcap, rdsn, rlast⟩, rcv, acks, false⟩ : Ro)] rfl rfl (RS.ofBlk (Blk.newAt rfl) rfl rfl (by unfold maxLen; omega)) (by rw [HN.out]; simp; omega) (by rw [HN.out]; simp; unfold maxLen; omega) (Nat.zero_le _) ?_; intro x2 wB oB kB0 gB0 bB; obtain ⟨A3, c3, hx2, _, _⟩ := oB.form; rw [HEL.out] at hx2; subst hx2; have XA := HXX.out.fine ((Fine.refl wx).drew.alloc (.cells (⟨⟨rseq, rsyn, rfin, rA, rlen, rcap, rdsn, rlast⟩, rcv, acks, false⟩ : Ro).cells.toArray 94)); have KB : Kept (fun y => (Value.slice A ros.length c).ownBlock = some y) (wx.drew.alloc (.cells (⟨⟨rseq, rsyn, rfin, rA, rlen, rcap, rdsn, rlast⟩, rcv, acks, false⟩ : Ro).cells.toArray 94)) wB := (by rw [HN.out]; exact Kept.grown (Kept.refl _ _) gB0 (fun k hk _ => hk)); have BB := XA.box.kept KB (fun e => XA.nf f e rfl); have yB0 := BB.cell 12; have yB1 := BB.frozen 12))
  all_goals
    have JJ := Lib.hid (HXX.out.cameV fa0 KB HEL.out.symm oB bB (Nat.le_refl _) (⟨HP.out.fine fa0, HACK.out, HACKS.out, rfl⟩ : IsO _ v (⟨⟨rseq, rsyn, rfin, rA, rlen, rcap, rdsn, rlast⟩, rcv, acks, false⟩ : Ro) (S.putting p)) (fun b hb => ⟨(HV.out b hb).1, Nat.lt_of_lt_of_le (HV.out b hb).2 FX.out.size⟩))
    refine bodyPost_end (v := .tuple #[]) (by simp [results, Try.results83, go_sem]) rfl ⟨rfl, ?_⟩
    obtain ⟨F', j1, j2, j3⟩ := JJ.out
    exact ⟨F', j1, (Kept.of_fine FX.out).trans j2, fun b hb => (j3 b hb).imp id (fun h => h.imp id (fun h => Nat.le_trans FX.out.size h))⟩
end
end Go.Proofs.Ytjldgialhgfhmaa
