/- A flow: all is sent again. A flow: Expire. -/
import Derived.Test.YtjldgialhgfhmaaXFlow11
import Derived.Test.YtjldgialhgfhmaaXPairM
import Derived.Test.YtjldgialhgfhmaaNe
namespace Go.Proofs.Ytjldgialhgfhmaa
set_option linter.unusedVariables false
set_option linter.unusedSimpArgs false
open Go.ChangeShapes Go.WideShapes Go.ChangeAt Go.RowKit Go.Maps
set_option linter.unusedVariables false
set_option linter.unusedSimpArgs false
/-- Pieces that a call hands out, in memory of its own. -/
def PcsOf2 (ps : List Pc) (w : World) (e : Ending) (w' : World) : Prop :=
  ∃ rs, e = .returned (.slice (some ⟨w.heap.size, 0, none⟩) rs.length rs.length) ∧ RS layP w' (some ⟨w.heap.size, 0, none⟩) rs.length rs ∧ w.heap.size < w'.heap.size ∧ Iss w' (fun b => w.heap.size < b ∧ b < w'.heap.size) rs ps ∧ Fine w w'
theorem all2_any (g : Nat) (F : Nat → Prop) (ps : List Pc) (e : Int) (w : World) (h : QB w F g ps e) (hn : ps.length ≤ 1000) (hs : ∀ p ∈ ps, p.xs.length ≤ 1000) : Calls Try.prog 40 #[.pointer (some ⟨g, 0, none⟩)] w (PcsOf2 ps w) := by
  obtain ⟨A, c, rs, h1, h2, h3, h4, h5, h6⟩ := h
  have c0 : w.cell? ⟨g, 0, none⟩ = some (.slice A rs.length c) := h1.cell 0
  have hl := h3.1
  have hle := h2.rs.1.le
  have hmx := h2.rs.1.max
  have HO := Lib.hid (own_any A c rs ps _ w h2.rs.1 h3 (by omega) hs)
  clear h1 h2 h3 h4 h5 h6 hs hl
  go_enter Try.func40, Try.ntmps40
  go_wp2_with fail
  refine HO.out.mono ?_; rintro e w1 ⟨rs', rfl, hl, hb, hi, f1⟩
  have HB := Lib.hid hb; clear hb
  have HI := Lib.hid hi; clear hi
  have HL := Lib.hid hl; clear hl
  go_wp2_with fail
  go_ret
  exact ⟨rs', by rw [HL.out]; rfl, by have := RS.ofBlk HB.out rfl HL.out.symm (Nat.le_trans hle hmx); rw [← HL.out] at this; exact this, HB.out.lt, HI.out.less (fun b hb => ⟨hb.1, hb.2.1⟩), (by repeat (first | exact Fine.refl _ | assumption | refine Fine.alloc ?_ _ | refine Fine.drew ?_ | refine Fine.drewN ?_ _ | refine Fine.trans ?_ (by assumption) | (refine Fine.kept ?_ (by assumption) (by intro x hx; first | omega | (simp; omega))) | (refine Fine.setCell ?_ (by first | assumption | (simp; done) | (simp; omega)) _)))⟩
section
variable {F : Nat → Prop} {w : World} {f : Nat} {S : Fl}
/-- Some pieces were sent again. -/
def Fl.some_ (S : Fl) (i : Nat) : Fl := { S with tw := true, out := S.out ++ (S.ps.take i).map S.putting }
theorem Fl.some_succ {i : Nat} {p : Pc} (h : S.ps[i]? = some p) : (S.some_ i).put p = S.some_ (i + 1) := by
  unfold Fl.some_ Fl.put
  rw [List.take_add_one, h]
  simp [Fl.putting]
/-- How a flow lies in the midst of it. -/
def AgOf (F v : Nat → Prop) (M : Nat) (w0 : World) (f : Nat) (S' : Fl) (w' : World) : Prop := ∃ F' D', FlD F' D' w' f S' ∧ Kept F w0 w' ∧ (∀ b, F' b → F b ∨ v b ∨ M ≤ b) ∧ (∀ b, v b → D' b ∨ ¬ F' b)
set_option maxHeartbeats 4000000 in
set_option maxRecDepth 20000 in
theorem again_any (tick : Int) (ht : 0 ≤ tick ∧ tick ≤ 1099511627776) (hok : S.Ok) (h : FlS F w f S) : Calls Try.prog 77 #[.pointer (some ⟨f, 0, none⟩), .int .i64 tick] w fun e w' => e = .returned (.tuple #[]) ∧ FlOf F f (S.again tick) w w' := by
  obtain ⟨q, A, c, ros, Q, D, hX⟩ := h
  have HOK := Lib.hid hok
  have c11 : w.cell? ⟨f, 11, none⟩ = some (.bool S.tw) := hX.box.cell 11
  have z11 := hX.box.frozen 11
  have kx : Kept (· = f) w (w.setCell ⟨f, 11, none⟩ (.bool true)) := (Kept.refl (· = f) w).setIn (p := ⟨f, 11, none⟩) rfl _
  have hX1 : FlX F (w.setCell ⟨f, 11, none⟩ (.bool true)) f q A c ros Q D ({ S with tw := true } : Fl) := hX.turned (hX.box.set_ 11 (.bool true)) kx rfl rfl rfl
  have H1 := Lib.hid hX1
  have K1 : Hid (Kept F w (w.setCell ⟨f, 11, none⟩ (.bool true))) := Lib.hid (kx.mono (fun y _ e => by have e : y = f := e; rw [e]; exact hX.ff))
  clear hX hX1 hok kx
  go_enter Try.func77, Try.ntmps77
  go_upto_region 1 with fail
  clear c11 z11
  generalize w.setCell ⟨f, 11, none⟩ (.bool true) = w1 at H1 K1 ⊢
  have c0 : w1.cell? ⟨f, 0, none⟩ = some (.pointer (some ⟨q, 0, none⟩)) := H1.out.box.cell 0
  have HALL := Lib.hid (all2_any q Q S.ps S.e w1 H1.out.que (by have := HOK.out.n; omega) HOK.out.x)
  go_wp2_with fail
  refine HALL.out.mono ?_
  rintro r w2 ⟨rs, rfl, hrs, hlt, hiss, f2⟩
  obtain ⟨n, hn⟩ : ∃ n, rs.length = n := ⟨_, rfl⟩
  obtain ⟨x, hx⟩ : ∃ x, w1.heap.size = x := ⟨_, rfl⟩
  rw [hn, hx] at hrs ⊢
  rw [hx] at hlt hiss
  have hnp : n = S.ps.length := by rw [← hn]; exact hiss.1
  have hn8 : n ≤ 800 := by rw [hnp]; exact HOK.out.n
  have HRS := Lib.hid hrs; have HISS := Lib.hid hiss; have HNP := Lib.hid hnp; have HX := Lib.hid hx; have HN := Lib.hid hn
  have HLT := Lib.hid hlt; have F2 := Lib.hid f2
  have A0 : Hid (AgOf F (fun b => x < b ∧ b < w2.heap.size) w2.heap.size w f (S.some_ 0) w2) := Lib.hid (by
    refine ⟨F, D, ⟨q, A, c, ros, Q, ?_⟩, K1.out.trans (Kept.of_fine f2), fun b hb => .inl hb, fun b hb => .inr (fun hf => by have := H1.out.lt b hf; omega)⟩
    have h2 := H1.out.fine f2
    have e : S.some_ 0 = ({ S with tw := true } : Fl) := by unfold Fl.some_; simp
    rw [e]
    exact h2)
  clear hrs hiss hnp hlt f2 hx hn c0 HALL
  go_wp2_with fail
  go_loopw [15] (fun s15 wr => ∃ i : Nat, i ≤ n ∧ s15 = .int .i64 i ∧ Hid (AgOf F (fun b => x < b ∧ b < w2.heap.size) w2.heap.size w f (S.some_ i) wr ∧ RS layP wr (some ⟨x, 0, none⟩) n rs ∧ Iss wr (fun b => x < b ∧ b < w2.heap.size) rs S.ps ∧ w2.heap.size ≤ wr.heap.size)) (fun s15 _ => n - (intOf s15).toNat)
  case atStart => exact ⟨0, Nat.zero_le _, rfl, Lib.hid ⟨A0.out, HRS.out, HISS.out, Nat.le_refl _⟩⟩
  case round =>
    obtain ⟨i, hi, rfl, HR⟩ := hrel
    by_cases hlt : i < n
    · obtain ⟨F', D', j1, j2, j3, j4⟩ := HR.out.1
      have J1 := Lib.hid j1; have J2 := Lib.hid j2; have J3 := Lib.hid j3; have J4 := Lib.hid j4
      have R1 := Lib.hid HR.out.2.1; have R2 := Lib.hid HR.out.2.2.1; have R3 := Lib.hid HR.out.2.2.2
      have hxF : Hid (¬ F' x) := Lib.hid (fun hf => by
        rcases j3 x hf with h | h | h
        · have := H1.out.lt x h; have := HX.out; omega
        · exact absurd h.1 (Nat.lt_irrefl _)
        · have := HLT.out; omega)
      clear j1 j2 j3 j4 HR
      obtain ⟨r, hr0⟩ : ∃ r, rs[i]? = some r := ⟨_, List.getElem?_eq_getElem (by have := HN.out; omega)⟩
      obtain ⟨p, hp0⟩ : ∃ p, S.ps[i]? = some p := ⟨_, List.getElem?_eq_getElem (by have := HNP.out; omega)⟩
      have HP0 := Lib.hid hp0
      have HIS := Lib.hid (R2.out.2 i r p hr0 hp0)
      obtain ⟨bb, o, e, hb, hc⟩ := R1.out.at_ hr0
      injection e with e
      injection e with e1 e2
      subst e1 e2
      obtain ⟨rseq, rsyn, rfin, rA, rlen, rcap, rdsn, rlast⟩ := r
      have d0 := hc 0 (.int .u32 rseq) rfl
      have d1 := hc 1 (.bool rsyn) rfl
      have d2 := hc 2 (.bool rfin) rfl
      have d3 := hc 3 (.slice rA rlen rcap) rfl
      have d4 := hc 4 (.int .i64 rdsn) rfl
      have d5 := hc 5 (.bool rlast) rfl
      simp only [Nat.zero_add, Nat.add_zero] at d0 d1 d2 d3 d4 d5
      obtain ⟨x5, hx5⟩ : ∃ x, wr.heap.size = x := ⟨_, rfl⟩
      have b5 := Blk.newAt (w := wr) (t := 46) (cs := #[.int .u32 rseq, .bool rsyn, .bool rfin, .slice rA rlen rcap, .int .i64 rdsn, .bool rlast]) hx5.symm
      have f5 := (Fine.refl wr).alloc (.cells #[.int .u32 rseq, .bool rsyn, .bool rfin, .slice rA rlen rcap, .int .i64 rdsn, .bool rlast] 46)
      clear hc hr0 hp0 hb
      go_upto_region 4 with fail
      generalize wr.alloc (.cells #[.int .u32 rseq, .bool rsyn, .bool rfin, .slice rA rlen rcap, .int .i64 rdsn, .bool rlast] 46) = w5 at b5 f5 ⊢
      have p0 : w5.cell? ⟨x5, 0, none⟩ = some (.int .u32 rseq) := b5.cell 0
      have p1 : w5.cell? ⟨x5, 1, none⟩ = some (.bool rsyn) := b5.cell 1
      have p2 : w5.cell? ⟨x5, 2, none⟩ = some (.bool rfin) := b5.cell 2
      have p3 : w5.cell? ⟨x5, 3, none⟩ = some (.slice rA rlen rcap) := b5.cell 3
      have p4 : w5.cell? ⟨x5, 4, none⟩ = some (.int .i64 rdsn) := b5.cell 4
      have p5 : w5.cell? ⟨x5, 5, none⟩ = some (.bool rlast) := b5.cell 5
      have F5 := Lib.hid f5
      have hol : (S.some_ i).out.length ≤ 100000 := by
        have h1 := HOK.out.o; have h2 := HOK.out.n
        show (S.out ++ (S.ps.take i).map S.putting).length ≤ 100000
        simp only [List.length_append, List.length_map, List.length_take]
        omega
      have HPUT := Lib.hid (fputD_any (p := p) hol (HIS.out.fine F5.out) (fun b hb => ⟨J4.out b hb, Nat.lt_of_lt_of_le hb.2 (Nat.le_trans R3.out F5.out.size)⟩) (J1.out.fine F5.out))
      clear b5 f5 hx5 d0 d1 d2 d3 d4 d5 hol
      go_wp2_with fail
      refine HPUT.out.mono ?_
      rintro e w6 ⟨rfl, F6, k1, k2, k3⟩
      have hk : Hid (Kept F' wr w6) := Lib.hid ((Kept.of_fine F5.out).trans (k2.mono (fun y _ h => h.1)))
      have hkd : Hid (Kept (fun b => F' b ∧ ¬ D' b) wr w6) := Lib.hid ((Kept.of_fine F5.out).trans k2)
      have NEXT : Hid (AgOf F (fun b => x < b ∧ b < w2.heap.size) w2.heap.size w f (S.some_ (i + 1)) w6 ∧ RS layP w6 (some ⟨x, 0, none⟩) n rs ∧ Iss w6 (fun b => x < b ∧ b < w2.heap.size) rs S.ps ∧ w2.heap.size ≤ w6.heap.size) := Lib.hid (by
        refine ⟨⟨F6, fun b => D' b ∨ (x < b ∧ b < w2.heap.size), by rw [← Fl.some_succ HP0.out]; exact k1, ?_, fun b hb => ?_, fun b hb => Or.inl (Or.inr hb)⟩, R1.out.kept hk.out (fun b o e hg => ?_), R2.out.kept hkd.out (fun b hb h => (J4.out b hb).elim (fun hd => h.2 hd) (fun hn => hn h.1)), Nat.le_trans R3.out hk.out.size⟩
        · refine J2.out.transG hk.out (fun _ _ h => h) (fun y hy h => ?_)
          rcases J3.out y h with h | h | h
          · exact h
          · have := h.1; have := HX.out; have := K1.out.size; omega
          · have := HLT.out; have := HX.out; have := K1.out.size; omega
        · rcases k3 b hb with h | h | h
          · exact J3.out b h
          · exact .inr (.inl h)
          · exact .inr (.inr (Nat.le_trans R3.out (Nat.le_trans F5.out.size h)))
        · injection e with e; injection e with e _
          subst e
          exact hxF.out hg)
      clear k1 k2 k3 hk hkd p0 p1 p2 p3 p4 p5 HPUT
      go_wp2_with fail
      exact ⟨⟨i + 1, hlt, by simp, NEXT⟩, by simp only [intOf]; omega⟩
    · have hie : i = n := by omega
      subst hie
      obtain ⟨F', D', j1, j2, j3, j4⟩ := HR.out.1
      have hall : Hid (S.some_ i = ({ S with tw := true, out := S.out ++ S.ps.map S.putting } : Fl)) := Lib.hid (by unfold Fl.some_; rw [HNP.out, List.take_length])
      have HARM := Lib.hid (arm_any tick (S := S.some_ i) (by show S.r.ok; exact HOK.out.r) (by show S.k ≤ 16; exact HOK.out.k) ht j1.s)
      have J2 := Lib.hid j2; have J3 := Lib.hid j3
      clear j1 j2 j3 j4 hlt
      go_wp2_with fail
      refine HARM.out.mono ?_
      rintro e w6 ⟨rfl, h6⟩
      have H6 := Lib.hid h6
      clear h6
      go_wp2_with fail
      refine bodyPost_end (v := .tuple #[]) (by simp [results, Try.results77, go_sem]) rfl ⟨rfl, ?_⟩
      have e : (S.some_ i).arm tick = S.again tick := by rw [hall.out]; rfl
      rw [← e]
      refine FlOf.then_ J2.out (fun b hb => ?_) H6.out
      rcases J3.out b hb with h | h | h
      · exact .inl h
      · right; have := h.1; have := HX.out; have := K1.out.size; omega
      · right; have := HLT.out; have := HX.out; have := K1.out.size; omega
end
end Go.Proofs.Ytjldgialhgfhmaa
namespace Go.Proofs.Ytjldgialhgfhmaa
set_option linter.unusedVariables false
set_option linter.unusedSimpArgs false
open Go.ChangeShapes Go.WideShapes Go.ChangeAt Go.RowKit Go.Maps
set_option linter.unusedVariables false
set_option linter.unusedSimpArgs false
section
variable {F : Nat → Prop} {w w' : World} {f : Nat} {S S' : Fl}
/-- A box of the call's own beside the flow. -/
theorem FlOf.side {w4 w5 w6 : World} {x : Nat} (h : FlOf F f S' w4 w5) (hF : ∀ b, F b → b < w.heap.size) (f4 : Fine w w4) (hx : w.heap.size ≤ x) (hx4 : x < w4.heap.size) (k : Kept (· = x) w5 w6) : FlOf F f S' w w6 := by
  obtain ⟨F', j1, j2, j3⟩ := h
  refine ⟨F', j1.kept k (fun b hb e => ?_), ((Kept.of_fine f4).trans j2).transG k (fun _ _ h => h) (fun y hy e => ?_), fun b hb => (j3 b hb).imp id (fun h => Nat.le_trans f4.size h)⟩
  · have e : b = x := e
    subst e
    rcases j3 b hb with h | h
    · have := hF b h; omega
    · omega
  · have e : y = x := e
    omega
theorem FlOf.box {w4 w5 : World} {x : Nat} {t : TypeId} {cs : Array Value} (h : FlOf F f S' w4 w5) (hF : ∀ b, F b → b < w.heap.size) (hx : w.heap.size ≤ x) (b : Blk w4 x t cs) : Blk w5 x t cs := by
  obtain ⟨F', j1, j2, j3⟩ := h
  exact b.kept j2 (fun h => by have := hF x h; omega)
theorem FlOf.self (h : FlS F w f S) (f4 : Fine w w') : FlOf F f S w w' := ⟨F, h.fine f4, Kept.of_fine f4, fun b hb => .inl hb⟩
abbrev hv (o fi re de fr : Bool) (v : Value) : Array Value := #[.bool o, .bool fi, .bool re, .bool de, .bool fr, v]
/-- A whole box of what was heard is stored. -/
theorem Blk.six97 {w : World} {x : Nat} {cs : Array Value} (h : Blk w x 97 cs) (hs : cs.size = 6) (o fi re de fr : Bool) (v : Value) :
    Blk ((((((w.setCell ⟨x, 0, none⟩ (.bool o)).setCell ⟨x, 1, none⟩ (.bool fi)).setCell ⟨x, 2, none⟩ (.bool re)).setCell ⟨x, 3, none⟩ (.bool de)).setCell ⟨x, 4, none⟩ (.bool fr)).setCell ⟨x, 5, none⟩ v) x 97 (hv o fi re de fr v) ∧
    Kept (· = x) w ((((((w.setCell ⟨x, 0, none⟩ (.bool o)).setCell ⟨x, 1, none⟩ (.bool fi)).setCell ⟨x, 2, none⟩ (.bool re)).setCell ⟨x, 3, none⟩ (.bool de)).setCell ⟨x, 4, none⟩ (.bool fr)).setCell ⟨x, 5, none⟩ v) := by
  obtain ⟨l⟩ := cs
  match l, hs with
  | [c0, c1, c2, c3, c4, c5], _ =>
    refine ⟨((((((h.set_ 0 (.bool o)).set_ 1 (.bool fi)).set_ 2 (.bool re)).set_ 3 (.bool de)).set_ 4 (.bool fr)).set_ 5 v).cast (by simp), ?_⟩
    exact ((((((Kept.refl (· = x) w).setIn (p := ⟨x, 0, none⟩) rfl _).setIn (p := ⟨x, 1, none⟩) rfl _).setIn (p := ⟨x, 2, none⟩) rfl _).setIn (p := ⟨x, 3, none⟩) rfl _).setIn (p := ⟨x, 4, none⟩) rfl _).setIn (p := ⟨x, 5, none⟩) rfl _
set_option maxHeartbeats 2000000 in
set_option maxRecDepth 20000 in
theorem expire_any (tick : Int) (ht : 0 ≤ tick ∧ tick ≤ 1099511627776) (hok : S.Ok) (htr0 : S.has = true → 0 ≤ S.tries ∧ S.tries ≤ 1000) (h : FlS F w f S) : Calls Try.prog 56 #[.pointer (some ⟨f, 0, none⟩), .int .i64 tick] w fun e w' => (∃ v, e = .returned v) ∧ FlOf F f (S.expire tick) w w' := by
  have HOK := Lib.hid hok
  by_cases h1 : S.has = false
  · have e : S.expire tick = S := by unfold Fl.expire; rw [if_pos (.inl h1)]
    rw [e]
    refine (expire_no tick w h h1).mono ?_
    rintro x w' ⟨rfl, hf⟩
    exact ⟨⟨_, rfl⟩, FlOf.self h hf⟩
  have hh : S.has = true := by simpa using h1
  have htr := htr0 hh
  clear htr0
  obtain ⟨at_, hat⟩ : ∃ z, S.at_ = z := ⟨_, rfl⟩
  by_cases h2 : tick < at_
  · have e : S.expire tick = S := by unfold Fl.expire; rw [if_pos (.inr (by rw [hat]; exact h2))]
    rw [e]
    have H0 := Lib.hid h
    clear e h1
    have g2 : decide (tick < at_) = true := decide_eq_true h2
    obtain ⟨x6, hx6⟩ : ∃ x, w.heap.size = x := ⟨_, rfl⟩
    have b6 := Blk.newAt (w := w) (t := 97) (cs := #[.bool false, .bool false, .bool false, .bool false, .bool false, .slice none 0 0]) hx6.symm
    have f2 := (Fine.refl w).alloc (.cells #[.bool false, .bool false, .bool false, .bool false, .bool false, .slice none 0 0] 97)
    have B6 := Lib.hid b6; have F4 := Lib.hid f2
    have HX6 : Hid (w.heap.size ≤ x6) := Lib.hid (by omega)
    have HF : Hid (∀ b, F b → b < w.heap.size) := Lib.hid h.lt
    have H4 := Lib.hid (h.fine f2)
    clear b6 f2
    go_enter Try.func56, Try.ntmps56
    go_upto_region 1 with fail
    generalize w.alloc (.cells #[.bool false, .bool false, .bool false, .bool false, .bool false, .slice none 0 0] 97) = w4 at B6 F4 H4 ⊢
    clear hx6 h
    obtain ⟨q, A, c, ros, Q, D, hX⟩ := H4.out
    have c9 : w4.cell? ⟨f, 9, none⟩ = some (.bool true) := by have := hX.box.cell 9; rw [hh] at this; exact this
    have c8 : w4.cell? ⟨f, 8, none⟩ = some (.int .i64 at_) := by have := hX.box.cell 8; rw [hat] at this; exact this
    clear hX
    have B9 := B6
    obtain ⟨w9, hw9⟩ : ∃ z, z = w4 := ⟨_, rfl⟩
    subst hw9
    have e0 : w9.cell? ⟨x6, 0, none⟩ = some (.bool false) := B9.out.cell 0
    have e1 : w9.cell? ⟨x6, 1, none⟩ = some (.bool false) := B9.out.cell 1
    have e2 : w9.cell? ⟨x6, 2, none⟩ = some (.bool false) := B9.out.cell 2
    have e3 : w9.cell? ⟨x6, 3, none⟩ = some (.bool false) := B9.out.cell 3
    have e4 : w9.cell? ⟨x6, 4, none⟩ = some (.bool false) := B9.out.cell 4
    have e5 : w9.cell? ⟨x6, 5, none⟩ = some (.slice none 0 0) := B9.out.cell 5
    have z0 := B9.out.frozen 0
    have z1 := B9.out.frozen 1
    have z2 := B9.out.frozen 2
    have z3 := B9.out.frozen 3
    have z4 := B9.out.frozen 4
    have z5 := B9.out.frozen 5
    have BF := Lib.hid (B9.out.six97 rfl false false false false false (.slice none 0 0))
    go_wp2_with fail
    exact bodyPost_ret (results_cell_row rfl _ _ x6 97 _ (0, 0) _ rfl BF.out.1 Try.underlying97 rfl size97) rfl ⟨⟨_, rfl⟩, FlOf.side (FlOf.self H4.out (Fine.refl w9)) HF.out F4.out HX6.out B6.out.lt BF.out.2⟩
  · have g2 : decide (tick < at_) = false := decide_eq_false h2
    have hno : ¬ (S.has = false ∨ tick < S.at_) := by rw [hat]; rintro (g | g); exact h1 g; exact h2 g
    obtain ⟨st, hst⟩ : ∃ z, S.st = z := ⟨_, rfl⟩
    by_cases h9 : st = 9
    · have HE : Hid (S.expire tick = ({ S with st := 10, at_ := 0, has := false } : Fl)) := Lib.hid (by unfold Fl.expire; rw [if_neg hno, if_pos (hst.trans h9)])
      subst h9
      clear h1 hno
      obtain ⟨x6, hx6⟩ : ∃ x, w.heap.size = x := ⟨_, rfl⟩
      have b6 := Blk.newAt (w := w) (t := 97) (cs := #[.bool false, .bool false, .bool false, .bool false, .bool false, .slice none 0 0]) hx6.symm
      have f2 := (Fine.refl w).alloc (.cells #[.bool false, .bool false, .bool false, .bool false, .bool false, .slice none 0 0] 97)
      have B6 := Lib.hid b6; have F4 := Lib.hid f2
      have HX6 : Hid (w.heap.size ≤ x6) := Lib.hid (by omega)
      have HF : Hid (∀ b, F b → b < w.heap.size) := Lib.hid h.lt
      have H4 := Lib.hid (h.fine f2)
      clear b6 f2
      go_enter Try.func56, Try.ntmps56
      go_upto_region 1 with fail
      generalize w.alloc (.cells #[.bool false, .bool false, .bool false, .bool false, .bool false, .slice none 0 0] 97) = w4 at B6 F4 H4 ⊢
      clear hx6 h
      obtain ⟨q, A, c, ros, Q, D, hX⟩ := H4.out
      have c9 : w4.cell? ⟨f, 9, none⟩ = some (.bool true) := by have := hX.box.cell 9; rw [hh] at this; exact this
      have c8 : w4.cell? ⟨f, 8, none⟩ = some (.int .i64 at_) := by have := hX.box.cell 8; rw [hat] at this; exact this
      have c5 : w4.cell? ⟨f, 5, none⟩ = some (.int .i64 9) := by have := hX.box.cell 5; rw [hst] at this; exact this
      have z5 := hX.box.frozen 5
      have b5 := hX.box.set_ 5 (.int .i64 10)
      have k5 : Kept (· = f) w4 (w4.setCell ⟨f, 5, none⟩ (.int .i64 10)) := (Kept.refl (· = f) w4).setIn (p := ⟨f, 5, none⟩) rfl _
      have hff := hX.ff
      have HR := Lib.hid (frest_any (st := 10) b5)
      have HX := Lib.hid hX
      have K5 := Lib.hid k5
      clear b5 k5 hff hX
      go_wp2_with fail
      refine HR.out.mono ?_
      rintro e w9 ⟨rfl, b7, k7⟩
      have KK : Kept (· = f) w4 w9 := K5.out.trans k7
      have HFL : Hid (FlOf F f (S.expire tick) w4 w9) := Lib.hid (by rw [HE.out]; exact ⟨F, ⟨q, A, c, ros, Q, D, HX.out.turned (S' := { S with st := 10, at_ := 0, has := false }) b7 KK rfl rfl rfl⟩, KK.mono (fun y _ e => by have e : y = f := e; rw [e]; exact HX.out.ff), fun b hb => .inl hb⟩)
      have B9 := Lib.hid (FlOf.box HFL.out HF.out HX6.out B6.out)
      clear b7 k7 KK c5 z5 c8 c9 HR
      have e0 : w9.cell? ⟨x6, 0, none⟩ = some (.bool false) := B9.out.cell 0
      have e1 : w9.cell? ⟨x6, 1, none⟩ = some (.bool false) := B9.out.cell 1
      have e2 : w9.cell? ⟨x6, 2, none⟩ = some (.bool false) := B9.out.cell 2
      have e3 : w9.cell? ⟨x6, 3, none⟩ = some (.bool false) := B9.out.cell 3
      have e4 : w9.cell? ⟨x6, 4, none⟩ = some (.bool false) := B9.out.cell 4
      have e5 : w9.cell? ⟨x6, 5, none⟩ = some (.slice none 0 0) := B9.out.cell 5
      have z0 := B9.out.frozen 0
      have z1 := B9.out.frozen 1
      have z2 := B9.out.frozen 2
      have z3 := B9.out.frozen 3
      have z4 := B9.out.frozen 4
      have z5 := B9.out.frozen 5
      have BF := Lib.hid (B9.out.six97 rfl false false false false false (.slice none 0 0))
      go_wp2_with fail
      exact bodyPost_ret (results_cell_row rfl _ _ x6 97 _ (0, 0) _ rfl BF.out.1 Try.underlying97 rfl size97) rfl ⟨⟨_, rfl⟩, FlOf.side HFL.out HF.out F4.out HX6.out B6.out.lt BF.out.2⟩
    · have h9b : (st == 9) = false := by simpa using h9
      have h9s : ¬ S.st = 9 := by rw [hst]; exact h9
      obtain ⟨tr, htrv⟩ : ∃ z, S.tries = z := ⟨_, rfl⟩
      have e1 : IntKind.i64.wrap (tr + 1) = tr + 1 := IntWalk.i64_in _ (by omega)
      by_cases h4 : 4 < tr + 1
      · have HE : Hid (S.expire tick = ({ S with tries := tr + 1 } : Fl).dead) := Lib.hid (by unfold Fl.expire; rw [if_neg hno, if_neg h9s, htrv, if_pos h4])
        have g4 : decide (4 < tr + 1) = true := decide_eq_true h4
        clear h1 hno h9s htr
        obtain ⟨x6, hx6⟩ : ∃ x, w.heap.size = x := ⟨_, rfl⟩
        have b6 := Blk.newAt (w := w) (t := 97) (cs := #[.bool false, .bool false, .bool false, .bool false, .bool false, .slice none 0 0]) hx6.symm
        have f2 := (Fine.refl w).alloc (.cells #[.bool false, .bool false, .bool false, .bool false, .bool false, .slice none 0 0] 97)
        have B6 := Lib.hid b6; have F4 := Lib.hid f2
        have HX6 : Hid (w.heap.size ≤ x6) := Lib.hid (by omega)
        have HF : Hid (∀ b, F b → b < w.heap.size) := Lib.hid h.lt
        have H4 := Lib.hid (h.fine f2)
        clear b6 f2
        go_enter Try.func56, Try.ntmps56
        go_upto_region 1 with fail
        generalize w.alloc (.cells #[.bool false, .bool false, .bool false, .bool false, .bool false, .slice none 0 0] 97) = w4 at B6 F4 H4 ⊢
        clear hx6 h
        obtain ⟨q, A, c, ros, Q, D, hX⟩ := H4.out
        have c9 : w4.cell? ⟨f, 9, none⟩ = some (.bool true) := by have := hX.box.cell 9; rw [hh] at this; exact this
        have c8 : w4.cell? ⟨f, 8, none⟩ = some (.int .i64 at_) := by have := hX.box.cell 8; rw [hat] at this; exact this
        have c5 : w4.cell? ⟨f, 5, none⟩ = some (.int .i64 st) := by have := hX.box.cell 5; rw [hst] at this; exact this
        have c7 : w4.cell? ⟨f, 7, none⟩ = some (.int .i64 tr) := by have := hX.box.cell 7; rw [htrv] at this; exact this
        have z7 := hX.box.frozen 7
        have k5 : Kept (· = f) w4 (w4.setCell ⟨f, 7, none⟩ (.int .i64 (tr + 1))) := (Kept.refl (· = f) w4).setIn (p := ⟨f, 7, none⟩) rfl _
        have hX7 : FlX F (w4.setCell ⟨f, 7, none⟩ (.int .i64 (tr + 1))) f q A c ros Q D ({ S with tries := tr + 1 } : Fl) := hX.turned (hX.box.set_ 7 (.int .i64 (tr + 1))) k5 rfl rfl rfl
        have HD := Lib.hid (dead_any (F0 := F) (w0 := w4) (⟨q, A, c, ros, Q, D, hX7⟩ : FlS F _ f _) (k5.mono (fun y _ e => by have e : y = f := e; rw [e]; exact hX.ff)) (fun b hb => .inl hb))
        clear hX7 k5 hX
        go_wp2_with fail
        refine HD.out.mono ?_
        rintro e w9 ⟨rfl, h7⟩
        have HFL : Hid (FlOf F f (S.expire tick) w4 w9) := Lib.hid (by rw [HE.out]; exact h7)
        have B9 := Lib.hid (FlOf.box HFL.out HF.out HX6.out B6.out)
        clear h7 c5 c7 z7 c8 c9 HD
        have e0 : w9.cell? ⟨x6, 0, none⟩ = some (.bool false) := B9.out.cell 0
        have e1 : w9.cell? ⟨x6, 1, none⟩ = some (.bool false) := B9.out.cell 1
        have e2 : w9.cell? ⟨x6, 2, none⟩ = some (.bool false) := B9.out.cell 2
        have e3 : w9.cell? ⟨x6, 3, none⟩ = some (.bool false) := B9.out.cell 3
        have e4 : w9.cell? ⟨x6, 4, none⟩ = some (.bool false) := B9.out.cell 4
        have e5 : w9.cell? ⟨x6, 5, none⟩ = some (.slice none 0 0) := B9.out.cell 5
        have z0 := B9.out.frozen 0
        have z1 := B9.out.frozen 1
        have z2 := B9.out.frozen 2
        have z3 := B9.out.frozen 3
        have z4 := B9.out.frozen 4
        have z5 := B9.out.frozen 5
        have BF := Lib.hid (B9.out.six97 rfl false false false true false (.slice none 0 0))
        go_wp2_with fail
        exact bodyPost_ret (results_cell_row rfl _ _ x6 97 _ (0, 0) _ rfl BF.out.1 Try.underlying97 rfl size97) rfl ⟨⟨_, rfl⟩, FlOf.side HFL.out HF.out F4.out HX6.out B6.out.lt BF.out.2⟩
      · have HE : Hid (S.expire tick = ({ S with tries := tr + 1, k := min (S.k + 1) 16 } : Fl).again tick) := Lib.hid (by unfold Fl.expire; rw [if_neg hno, if_neg h9s, htrv, if_neg h4])
        have g4 : decide (4 < tr + 1) = false := decide_eq_false h4
        have hkk := hok.k
        clear h1 hno h9s htr hok
        obtain ⟨x6, hx6⟩ : ∃ x, w.heap.size = x := ⟨_, rfl⟩
        have b6 := Blk.newAt (w := w) (t := 97) (cs := #[.bool false, .bool false, .bool false, .bool false, .bool false, .slice none 0 0]) hx6.symm
        have f2 := (Fine.refl w).alloc (.cells #[.bool false, .bool false, .bool false, .bool false, .bool false, .slice none 0 0] 97)
        have B6 := Lib.hid b6; have F4 := Lib.hid f2
        have HX6 : Hid (w.heap.size ≤ x6) := Lib.hid (by omega)
        have HF : Hid (∀ b, F b → b < w.heap.size) := Lib.hid h.lt
        have H4 := Lib.hid (h.fine f2)
        clear b6 f2
        go_enter Try.func56, Try.ntmps56
        go_upto_region 1 with fail
        generalize w.alloc (.cells #[.bool false, .bool false, .bool false, .bool false, .bool false, .slice none 0 0] 97) = w4 at B6 F4 H4 ⊢
        clear hx6 h
        obtain ⟨q, A, c, ros, Q, D, hX⟩ := H4.out
        have c9 : w4.cell? ⟨f, 9, none⟩ = some (.bool true) := by have := hX.box.cell 9; rw [hh] at this; exact this
        have c8 : w4.cell? ⟨f, 8, none⟩ = some (.int .i64 at_) := by have := hX.box.cell 8; rw [hat] at this; exact this
        have c5 : w4.cell? ⟨f, 5, none⟩ = some (.int .i64 st) := by have := hX.box.cell 5; rw [hst] at this; exact this
        have c7 : w4.cell? ⟨f, 7, none⟩ = some (.int .i64 tr) := by have := hX.box.cell 7; rw [htrv] at this; exact this
        have z7 := hX.box.frozen 7
        have k5 : Kept (· = f) w4 (w4.setCell ⟨f, 7, none⟩ (.int .i64 (tr + 1))) := (Kept.refl (· = f) w4).setIn (p := ⟨f, 7, none⟩) rfl _
        have hX7 : FlX F (w4.setCell ⟨f, 7, none⟩ (.int .i64 (tr + 1))) f q A c ros Q D ({ S with tries := tr + 1 } : Fl) := hX.turned (hX.box.set_ 7 (.int .i64 (tr + 1))) k5 rfl rfl rfl
        have HX7 := Lib.hid hX7
        have K5 : Hid (Kept F w4 (w4.setCell ⟨f, 7, none⟩ (.int .i64 (tr + 1)))) := Lib.hid (k5.mono (fun y _ e => by have e : y = f := e; rw [e]; exact hX.ff))
        have HBK := Lib.hid (fback_any S.k hkk hX7.box)
        clear hX7 k5 hX
        go_upto_region 11 with fail
        clear c5 c7 z7 c8 c9
        generalize w4.setCell ⟨f, 7, none⟩ (.int .i64 (tr + 1)) = w5 at HX7 K5 HBK ⊢
        go_wp2_with fail
        refine HBK.out.mono ?_
        rintro e w6 ⟨rfl, b8, k8⟩
        have X8 := HX7.out.turned (S' := ({ S with tries := tr + 1, k := min (S.k + 1) 16 } : Fl)) b8 k8 rfl rfl rfl
        have K8 : Hid (Kept F w4 w6) := Lib.hid (K5.out.trans (k8.mono (fun y _ e => by have e : y = f := e; rw [e]; exact HX7.out.ff)))
        have HA := Lib.hid (again_any (S := ({ S with tries := tr + 1, k := min (S.k + 1) 16 } : Fl)) tick ht ⟨HOK.out.r, Nat.min_le_right _ _, HOK.out.n, HOK.out.x, HOK.out.e, HOK.out.o⟩ ⟨q, A, c, ros, Q, D, X8⟩)
        clear X8 b8 k8 HBK
        go_wp2_with fail
        refine HA.out.mono ?_
        rintro e w9 ⟨rfl, h7⟩
        have HFL : Hid (FlOf F f (S.expire tick) w4 w9) := Lib.hid (by rw [HE.out]; exact FlOf.then_ K8.out (fun b hb => .inl hb) h7)
        have B9 := Lib.hid (FlOf.box HFL.out HF.out HX6.out B6.out)
        clear h7 HA
        have e0 : w9.cell? ⟨x6, 0, none⟩ = some (.bool false) := B9.out.cell 0
        have e1 : w9.cell? ⟨x6, 1, none⟩ = some (.bool false) := B9.out.cell 1
        have e2 : w9.cell? ⟨x6, 2, none⟩ = some (.bool false) := B9.out.cell 2
        have e3 : w9.cell? ⟨x6, 3, none⟩ = some (.bool false) := B9.out.cell 3
        have e4 : w9.cell? ⟨x6, 4, none⟩ = some (.bool false) := B9.out.cell 4
        have e5 : w9.cell? ⟨x6, 5, none⟩ = some (.slice none 0 0) := B9.out.cell 5
        have z0 := B9.out.frozen 0
        have z1 := B9.out.frozen 1
        have z2 := B9.out.frozen 2
        have z3 := B9.out.frozen 3
        have z4 := B9.out.frozen 4
        have z5 := B9.out.frozen 5
        have BF := Lib.hid (B9.out.six97 rfl false false false false false (.slice none 0 0))
        go_wp2_with fail
        exact bodyPost_ret (results_cell_row rfl _ _ x6 97 _ (0, 0) _ rfl BF.out.1 Try.underlying97 rfl size97) rfl ⟨⟨_, rfl⟩, FlOf.side HFL.out HF.out F4.out HX6.out B6.out.lt BF.out.2⟩
end
end Go.Proofs.Ytjldgialhgfhmaa
